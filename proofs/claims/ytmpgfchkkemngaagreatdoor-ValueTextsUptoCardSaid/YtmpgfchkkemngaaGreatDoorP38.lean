/- Part 38 of the proof: texts G1, E3, E9. -/
import Derived.Test.YtmpgfchkkemngaaGreatDoorP37
set_option linter.all false
namespace Go.Proofs.YtmpgfchkkemngaaGreatDoor
open Go.RowKit Go.V
open Go.Eng (inR byteAt u8 bH)
variable {g : Gv}
structure Vl.small (v : Vl) : Prop where
 s : v.s.length ≤ 1000000
 cols : v.cols.length ≤ 1000000
 rows : v.rows.length ≤ 1000000
 each : ∀ r, r ∈ v.rows → r.length ≤ 1000000
theorem lR {α : Type} {l : List α} {k : Nat} (z : α) (h : k < l.length) : l.take (k + 1) = l.take k ++ [l.getD k z] := by
 rw [List.take_add_one]; simp [h]
theorem aF8 {l : List Cl} {k : Nat} (h : k < l.length) : rowD (l.take k) ++ [ClD (l.getD k Cl.z)] = rowD (l.take (k + 1)) := by
 rw [lR Cl.z h]; simp [rowD]
theorem aKB {l : List (List Cl)} {k : Nat} (h : k < l.length) : rowsD (l.take k) ++ [[D.sl 7 (rowD (l.getD k []))]] = rowsD (l.take (k + 1)) := by
 rw [lR [] h]; simp [rowsD, aP]
theorem bN (a b : List (List UInt8)) : strs a ++ strs b = strs (a ++ b) := by simp [strs]
def qm (x n : Int) : Int := ((x.tmod n) + n).tmod n
theorem tI (x n : Int) (h : 1 ≤ n) : 0 ≤ qm x n ∧ qm x n < n := by
 have h1 := Int.tmod_lt_of_pos x (show 0 < n by omega)
 have h2 : -n < x.tmod n := by
  have := Int.lt_tmod_of_pos x (show 0 < n by omega)
  omega
 unfold qm
 rw [Int.tmod_eq_emod_of_nonneg (by omega)]
 exact ⟨Int.emod_nonneg _ (by omega), Int.emod_lt_of_pos _ (by omega)⟩
def oddL : List (List UInt8) := [[97], [], [120, 49], [49, 120], [97, 98, 99, 100, 101, 102, 103, 104, 105, 106, 107, 108, 109, 110, 111, 112, 113, 114, 115, 116, 117]]
def bB (v : Vl) (a b c : Int) : Vl :=
 if qm a 10 = 0 then { v with kind := b.tmod 8 - 1 }
 else if qm a 10 = 1 then { v with s := v.s ++ [u8 b] }
 else if qm a 10 = 2 then { v with dn := b, ds := c.tmod 8 }
 else if qm a 10 = 3 then { v with n := b }
 else if qm a 10 = 4 then { v with cols := v.cols ++ [oddL.getD (qm b 5).toNat []] }
 else if qm a 10 = 5 then { v with rows := v.rows ++ [[]] }
 else if qm a 10 = 6 then (match v.rows with
  | (_ :: r) :: rs => { v with rows := (⟨5, [], 0, 0, 0⟩ :: r) :: rs }
  | _ => v)
 else if qm a 10 = 7 then (match v.rows with
  | (_ :: r) :: rs => { v with rows := (⟨4, [], 0, 0, b.tmod 3⟩ :: r) :: rs }
  | _ => v)
 else if qm a 10 = 8 then { v with s := v.s ++ [39] }
 else { v with rows := v.rows ++ List.replicate (98 + qm b 4).toNat (List.replicate v.cols.length Cl.z) }
theorem aLB {i : Nat} (h : i < 5) : ([[.s (S [97])], [.s (S [])], [.s (S [120, 49])], [.s (S [49, 120])], [.s (S [97, 98, 99, 100, 101, 102, 103, 104, 105, 106, 107, 108, 109, 110, 111, 112, 113, 114, 115, 116, 117])]] : List (List D))[i]? = some (bK (oddL.getD i [])) := by
 match i, h with
 | 0, _ => rfl
 | 1, _ => rfl
 | 2, _ => rfl
 | 3, _ => rfl
 | 4, _ => rfl
theorem aNP (b : Int) : ([[D.y (IntKind.wrap .u8 b)]] : List (List D)) = bytesD (S [u8 b]).data.toList := by
 simp [bytesD, D.y, Eng.wrap_u8, S]
theorem aKH (k : Nat) (cols : List (List UInt8)) : rowsD (List.replicate k (List.replicate cols.length Cl.z)) ++ [[D.sl 7 (List.replicate (strs cols).length [D.i 0, D.s (S []), D.i 0, D.i 0, D.i 0, D.sl 1 [], D.sl 1 []])]] = rowsD (List.replicate (k + 1) (List.replicate cols.length Cl.z)) := by
 rw [List.replicate_succ']; simp [rowsD, aP, rowD, strs, ClD, Cl.z]
theorem aHV (rs : List (List Cl)) (k : Nat) (cols : List (List UInt8)) : rowsD (rs ++ List.replicate k (List.replicate cols.length Cl.z)) ++ [[D.sl 7 (List.replicate (strs cols).length [D.i 0, D.s (S []), D.i 0, D.i 0, D.i 0, D.sl 1 [], D.sl 1 []])]] = rowsD (rs ++ List.replicate (k + 1) (List.replicate cols.length Cl.z)) := by
 rw [List.replicate_succ']; simp [rowsD, aP, rowD, strs, ClD, Cl.z]
def cA := And.intro @List.length_append.{0} (And.intro @List.length_cons.{0} (And.intro @List.length_drop.{0} (And.intro @List.length_map.{0, 0} (And.intro @List.length_nil.{0} (And.intro @List.length_replicate.{0} (And.intro @List.length_take.{0} (And.intro @aZ (And.intro @aD (And.intro @and_true (And.intro @Go.Eng.inR.eq_1 (And.intro @maxLen.eq_1 (And.intro @rowD.eq_1 (And.intro @rowsD.eq_1 (And.intro @strs.eq_1 (And.intro @true_and (@valsD.eq_1))))))))))))))))
def cF := And.intro @List.length_cons.{0} (And.intro @List.length_map.{0, 0} (And.intro @List.length_nil.{0} (And.intro @dX (And.intro @xT (And.intro @blS (And.intro @rowD.eq_1 (And.intro @rowsD.eq_1 (And.intro @strs.eq_1 (@valsD.eq_1)))))))))
abbrev y51 (a0 : Int) (a1 : ByteArray) (a2 : Int) (a3 : Int) (a4 : Int) : Ob := .box 30 [cI a0, cS a1, cI a2, cI a3, cI a4, .ar 300 0, cN]
theorem rS (c : Cl) :
  SpG g 36 [.agg [cI ((c).kind), cS (S (c).s), cI ((c).dn), cI ((c).ds), cI ((c).n), cM 1 ([] : List (List D)), cM 1 ([] : List (List D))]] [] (.agg [cI ((c).kind), cS (S (c).s), cI ((c).dn), cI ((c).ds), cI ((c).n), cM 1 ([]), cN]) [] := by
 refine aF 31 Tryz.func36 (by kernel_rfl) fun fr hG => ?_
 refine zL hG [] [0, 1, 0, 1, 1, 1, 1] (fun (zz : Nat) => match zz with | k => (0, ⟨[zX 1 100 0, zX 2 101 0, zX 3 201 0, zI 4 (k : Int)], [(100, .box 30 [cI ((c).kind), cS (S (c).s), cI ((c).dn), cI ((c).ds), cI ((c).n), cM 1 ([] : List (List D)), cM 1 ([] : List (List D))]), (101, y12), (201, y51 ((c).kind) (S (c).s) ((c).dn) ((c).ds) ((c).n)), (300, y11 (([] : List (List D)) ++ ([] : List (List D))))]⟩, k = 0)) 0 (aC (by intros; (try simp only [cA] at *) <;> omega : (([] : List (List D)).length + ([] : List (List D)).length) * (16 + 1) ≤ 140737488355328)) ?_ ?_
 rfl
 rintro k hk
 refine zc hG [] [1, 0] (decide (((k : Int) : Int) < ((([] : List (List D))).length : Int))) aA (fun hc2 => ?_) (fun hc2 => ?_)
 (try simp only [cF] at hc2)
 exfalso; simp at hc2; try omega
 (try simp only [cF] at hc2)
 refine zE hG [] (.exit 0) (⟨[zX 2 101 0, zX 3 201 0], [(101, y12), (201, y51 ((c).kind) (S (c).s) ((c).dn) ((c).ds) ((c).n)), (300, y11 (([] : List (List D)) ++ ([] : List (List D))))]⟩) aA rfl ?_
 exact zr hG [] [] aA
theorem aC6 (l : List Cl) (hl : l.length ≤ 1000000) :
  SpG g 29 [.c (cM 7 (rowD l))] [] (.c (.ar 100 0)) [(100, .arr 0 30 7 (rowD l))] := by
 refine aF 20 Tryz.func29 (by kernel_rfl) fun fr hG => ?_
 refine zA hG [] [0, 1, 0, 1, 1] (⟨[zM 0 7 (rowD l), zN 2, zN 3, zI 4 0], []⟩) [(3, 9001, 30, 7)] [] (fun (zz : Nat × List (List D)) => match zz with | (k, es) => (l.length - k, ⟨[zM 0 7 (rowD l), zN 2, zY 3 9001 0, zI 4 (k : Int)], [(9001, .arr 0 30 7 (es))]⟩, k ≤ l.length ∧ es = rowD (l.take k))) (0, []) aA ?_ ?_
 exact ⟨Nat.zero_le _, rfl⟩
 rintro ⟨k, es⟩ ⟨hk, hes⟩
 have hlen : es.length = k := by rw [hes, rowD, List.length_map, List.length_take]; omega
 refine zc hG [] [1, 0] (decide (((k : Int) : Int) < ((rowD l).length : Int))) aA (fun hc2 => ?_) (fun hc2 => ?_)
 (try simp only [cF] at hc2)
 refine zD hG [(5, 3, .elem (ClD ((l).getD k Cl.z))), (5, 5, kC (.agg [cI (((l).getD k Cl.z).kind), cS (S ((l).getD k Cl.z).s), cI (((l).getD k Cl.z).dn), cI (((l).getD k Cl.z).ds), cI (((l).getD k Cl.z).n), cM 1 ([]), cN])), (5, 6, .mask [none, none, none, none, none, none, some 1])] (k + 1, es ++ [ClD (l.getD k Cl.z)]) (aB (by intros; exact aY _ (by omega) (by (try simp only [zq6] at *); omega) : (0 : Int) ≤ (k : Int) ∧ (rowD l)[k]? = some (ClD ((l).getD k Cl.z))) (aB (rS ((l).getD k Cl.z) : SpG g _ _ _ _ _) (aB (by intros; (try simp only [cA] at *) <;> omega : ((es).length + ([[.i (((l).getD k Cl.z).kind), .s (S ((l).getD k Cl.z).s), .i (((l).getD k Cl.z).dn), .i (((l).getD k Cl.z).ds), .i (((l).getD k Cl.z).n), .sl 1 ([]), .sl 1 ([])]] : List (List D)).length) * (96 + 1) ≤ 140737488355328) (aC (by intros; (try simp only [cA] at *) <;> omega : inR ((k : Int) + 1)))))) ?_ ?_
 (try dsimp only); omega
 refine ⟨by omega, ?_⟩
 rw [hes, aF8 (by omega)]
 (try simp only [cF] at hc2)
 refine zE hG [] (.exit 0) (⟨[zN 2, zY 3 9001 0], [(9001, .arr 0 30 7 (es))]⟩) aA rfl ?_
 refine zR hG [] [9001] (.c (.ar 100 0)) [(100, .arr 0 30 7 (es))] aA ?_ ?_
 rfl
 have e : l.take k = l := List.take_of_length_le (by omega)
 rw [hes, e]
theorem aFE (l : List Cl) (hl : l.length ≤ 1000000) :
  SpG g 29 [.c (cM 7 (rowD l))] [] (.c (cM 7 (rowD l))) [] := by
 refine aF 20 Tryz.func29 (by kernel_rfl) fun fr hG => ?_
 refine zA hG [] [0, 1, 0, 1, 1] (⟨[zM 0 7 (rowD l), zN 2, zN 3, zI 4 0], []⟩) [(3, 9001, 30, 7)] [] (fun (zz : Nat × List (List D)) => match zz with | (k, es) => (l.length - k, ⟨[zM 0 7 (rowD l), zN 2, zY 3 9001 0, zI 4 (k : Int)], [(9001, .arr 0 30 7 (es))]⟩, k ≤ l.length ∧ es = rowD (l.take k))) (0, []) aA ?_ ?_
 exact ⟨Nat.zero_le _, rfl⟩
 rintro ⟨k, es⟩ ⟨hk, hes⟩
 have hlen : es.length = k := by rw [hes, rowD, List.length_map, List.length_take]; omega
 refine zc hG [] [1, 0] (decide (((k : Int) : Int) < ((rowD l).length : Int))) aA (fun hc2 => ?_) (fun hc2 => ?_)
 (try simp only [cF] at hc2)
 refine zD hG [(5, 3, .elem (ClD ((l).getD k Cl.z))), (5, 5, kC (.agg [cI (((l).getD k Cl.z).kind), cS (S ((l).getD k Cl.z).s), cI (((l).getD k Cl.z).dn), cI (((l).getD k Cl.z).ds), cI (((l).getD k Cl.z).n), cM 1 ([]), cN])), (5, 6, .mask [none, none, none, none, none, none, some 1])] (k + 1, es ++ [ClD (l.getD k Cl.z)]) (aB (by intros; exact aY _ (by omega) (by (try simp only [zq6] at *); omega) : (0 : Int) ≤ (k : Int) ∧ (rowD l)[k]? = some (ClD ((l).getD k Cl.z))) (aB (rS ((l).getD k Cl.z) : SpG g _ _ _ _ _) (aB (by intros; (try simp only [cA] at *) <;> omega : ((es).length + ([[.i (((l).getD k Cl.z).kind), .s (S ((l).getD k Cl.z).s), .i (((l).getD k Cl.z).dn), .i (((l).getD k Cl.z).ds), .i (((l).getD k Cl.z).n), .sl 1 ([]), .sl 1 ([])]] : List (List D)).length) * (96 + 1) ≤ 140737488355328) (aC (by intros; (try simp only [cA] at *) <;> omega : inR ((k : Int) + 1)))))) ?_ ?_
 (try dsimp only); omega
 refine ⟨by omega, ?_⟩
 rw [hes, aF8 (by omega)]
 (try simp only [cF] at hc2)
 refine zE hG [] (.exit 0) (⟨[zN 2, zY 3 9001 0], [(9001, .arr 0 30 7 (es))]⟩) aA rfl ?_
 refine zR hG [] [] (.c (cM 7 (es))) [] aA ?_ ?_
 have e : l.take k = l := List.take_of_length_le (by omega)
 rw [hes, e]
 rfl
abbrev y52 (a0 : Int) (a1 : ByteArray) (a2 : Int) (a3 : Int) (a4 : Int) : SV := .agg [cI a0, cS a1, cI a2, cI a3, cI a4, .ar 100 0, .ar 101 0]
abbrev y53 (a0 : Int) (a1 : ByteArray) (a2 : Int) (a3 : Int) (a4 : Int) (a5 : List (List D)) (a6 : List (List D)) : Ob := .box 30 [cI a0, cS a1, cI a2, cI a3, cI a4, cM 1 a5, cM 1 a6]
theorem copyN (v : Vl) (hs : v.small) :
  SpG g 36 [.agg [cI v.kind, cS (S v.s), cI v.dn, cI v.ds, cI v.n, cM 1 (strs v.cols), cM 1 (rowsD ([]))]] [] (y52 v.kind (S v.s) v.dn v.ds v.n) [(100, y11 (strs v.cols)), (101, .arr 0 33 1 [])] := by
 have hc := hs.cols
 refine aF 31 Tryz.func36 (by kernel_rfl) fun fr hG => ?_
 refine zA hG [] [0, 1, 0, 1, 1, 1, 1] (⟨[zX 1 100 0, zX 2 101 0, zX 3 201 0, zI 4 0], [(100, y53 v.kind (S v.s) v.dn v.ds v.n (strs v.cols) (rowsD ([]))), (101, y12), (201, y51 v.kind (S v.s) v.dn v.ds v.n), (300, y11 (([] : List (List D)) ++ (strs v.cols)))]⟩) [] [(201, 6, 9003, 33, 1)] (fun (zz : Nat) => match zz with | k => (0, ⟨[zX 1 100 0, zX 2 101 0, zX 3 201 0, zI 4 (k : Int)], [(100, y53 v.kind (S v.s) v.dn v.ds v.n (strs v.cols) (rowsD ([]))), (101, y12), (201, .box 30 [cI v.kind, cS (S v.s), cI v.dn, cI v.ds, cI v.n, .ar 300 0, .ar 9003 0]), (300, y11 (([] : List (List D)) ++ (strs v.cols))), (9003, .arr 0 33 1 ([] : List (List D)))]⟩, k = 0)) 0 (aC (by intros; (try simp only [cA] at *) <;> omega : (([] : List (List D)).length + (strs v.cols).length) * (16 + 1) ≤ 140737488355328)) ?_ ?_
 rfl
 rintro k hk
 refine zc hG [] [1, 0] (decide (((k : Int) : Int) < ((rowsD ([])).length : Int))) aA (fun hc2 => ?_) (fun hc2 => ?_)
 (try simp only [cF] at hc2)
 exfalso; simp at hc2; try omega
 (try simp only [cF] at hc2)
 refine zE hG [] (.exit 0) (⟨[zX 2 101 0, zX 3 201 0], [(101, y12), (201, .box 30 [cI v.kind, cS (S v.s), cI v.dn, cI v.ds, cI v.n, .ar 300 0, .ar 9003 0]), (300, y11 (([] : List (List D)) ++ (strs v.cols))), (9003, .arr 0 33 1 ([] : List (List D)))]⟩) aA rfl ?_
 refine zR hG [] [300, 9003] (y52 v.kind (S v.s) v.dn v.ds v.n) [(100, y11 (([] : List (List D)) ++ (strs v.cols))), (101, .arr 0 33 1 ([] : List (List D)))] aA ?_ ?_
 rfl
 simp
theorem copyR (v : Vl) (r : List Cl) (rs : List (List Cl)) (hc : v.cols.length ≤ 1000000) (hr0 : r.length ≤ 1000000) (hl : rs.length ≤ 1000000) (hrk : ∀ x, x ∈ rs → x.length ≤ 1000000) :
  SpG g 36 [.agg [cI v.kind, cS (S v.s), cI v.dn, cI v.ds, cI v.n, cM 1 (strs v.cols), cM 1 (rowsD (r :: rs))]] [] (y52 v.kind (S v.s) v.dn v.ds v.n) [(100, y11 (strs v.cols)), (102, .arr 0 30 7 (rowD r)), (101, .arr 0 ⟨33, [(0, .ar 102 0)]⟩ 1 ([.v undef] :: rowsD rs))] := by
 have hrj : ∀ j, ((r :: rs).getD j []).length ≤ 1000000 := fun j => by
  by_cases hj : j < (r :: rs).length
  have := bW (z := []) hj
  rcases List.mem_cons.1 this with h | h
  rw [h]; exact hr0
  exact hrk _ h
  rw [List.getD_eq_getElem?_getD, List.getElem?_eq_none (by omega)]; simp
 refine aF 31 Tryz.func36 (by kernel_rfl) fun fr hG => ?_
 refine q6 hG cY [] [0, 1, 0, 1, 1, 1, 1] ((fun (zz : Nat × List (List D)) => match zz with | (0, es) => ⟨[zX 1 100 0, zX 2 101 0, zX 3 201 0, zI 4 0], [(100, y53 v.kind (S v.s) v.dn v.ds v.n (strs v.cols) (rowsD (r :: rs))), (101, y12), (201, y51 v.kind (S v.s) v.dn v.ds v.n), (300, y11 (([] : List (List D)) ++ (strs v.cols)))]⟩ | (k + 1, es) => ⟨[zX 1 100 0, zX 2 101 0, zX 3 201 0, zI 4 ((k : Int) + 1)], [(100, y53 v.kind (S v.s) v.dn v.ds v.n (strs v.cols) (rowsD (r :: rs))), (101, y12), (201, .box 30 [cI v.kind, cS (S v.s), cI v.dn, cI v.ds, cI v.n, .ar 300 0, .ar 809 0]), (300, y11 (([] : List (List D)) ++ (strs v.cols))), (807, .arr 0 30 7 (rowD r)), (809, .arr 0 ⟨33, [(0, .ar 807 0)]⟩ 1 ([.v undef] :: (es)))]⟩) (0, [])) _ (by kernel_rfl) (aC (by intros; (try simp only [cA] at *) <;> omega : (([] : List (List D)).length + (strs v.cols).length) * (16 + 1) ≤ 140737488355328)) ?_
 refine aCC (σ := Nat × List (List D)) (fun (zz : Nat × List (List D)) => match zz with | (k, es) => rs.length + 1 - k) (fun (zz : Nat × List (List D)) => match zz with | (0, es) => ⟨[zX 1 100 0, zX 2 101 0, zX 3 201 0, zI 4 0], [(100, y53 v.kind (S v.s) v.dn v.ds v.n (strs v.cols) (rowsD (r :: rs))), (101, y12), (201, y51 v.kind (S v.s) v.dn v.ds v.n), (300, y11 (([] : List (List D)) ++ (strs v.cols)))]⟩ | (k + 1, es) => ⟨[zX 1 100 0, zX 2 101 0, zX 3 201 0, zI 4 ((k : Int) + 1)], [(100, y53 v.kind (S v.s) v.dn v.ds v.n (strs v.cols) (rowsD (r :: rs))), (101, y12), (201, .box 30 [cI v.kind, cS (S v.s), cI v.dn, cI v.ds, cI v.n, .ar 300 0, .ar 809 0]), (300, y11 (([] : List (List D)) ++ (strs v.cols))), (807, .arr 0 30 7 (rowD r)), (809, .arr 0 ⟨33, [(0, .ar 807 0)]⟩ 1 ([.v undef] :: (es)))]⟩) (fun (zz : Nat × List (List D)) => match zz with | (k, es) => k ≤ rs.length + 1 ∧ es = rowsD (rs.take (k - 1))) (0, []) (by kernel_rfl) ?_ ?_
 exact ⟨Nat.zero_le _, rfl⟩
 rintro ⟨k, es⟩ ⟨hk, hes⟩
 rcases k with _ | k <;> (try dsimp only at hk hes)
 skip
 refine zc hG [] [1, 0] (decide ((0 : Int) < ((rowsD (r :: rs)).length : Int))) aA (fun hc2 => ?_) (fun hc2 => ?_)
 (try simp only [cF] at hc2)
 refine zD hG [(7, 5, .elem (aP ((r :: rs).getD 0 []))), (7, 7, .call (.c (.ar 100 0)) [(100, .arr 0 30 7 (rowD r))] [])] (0 + 1, []) (aB (by intros; exact aY _ (by omega) (by (try simp only [zq6] at *); omega) : (0 : Int) ≤ 0 ∧ (rowsD (r :: rs))[0]? = some (aP ((r :: rs).getD 0 []))) (aB (aC6 r hr0 : SpG g _ _ _ _ _) (aB (by intros; (try simp only [cA] at *) <;> omega : 24 + 1 ≤ 140737488355328) (aC (by unfold inR; decide : inR (0 + 1)))))) ?_ ?_
 (try dsimp only); omega
 exact ⟨by omega, rfl⟩
 (try simp only [cF] at hc2)
 exfalso; omega
 skip
 refine zc hG [] [1, 0] (decide ((((k : Int) + 1) : Int) < ((rowsD (r :: rs)).length : Int))) aA (fun hc3 => ?_) (fun hc3 => ?_)
 (try simp only [cF] at hc3)
 have hlen : es.length = k := by rw [hes, rowsD, List.length_map, List.length_take]; omega
 refine zD hG [(7, 5, .elem (aP ((r :: rs).getD ((k : Int) + 1 : Int).toNat []))), (7, 7, kC (.c (cM 7 (rowD ((r :: rs).getD ((k : Int) + 1 : Int).toNat [])))))] (k + 1 + 1, es ++ ([[.sl 7 (rowD ((r :: rs).getD ((k : Int) + 1 : Int).toNat []))]] : List (List D))) (aB (by intros; exact aY _ (by omega) (by (try simp only [zq6] at *); omega) : (0 : Int) ≤ ((k : Int) + 1) ∧ (rowsD (r :: rs))[((k : Int) + 1 : Int).toNat]? = some (aP ((r :: rs).getD ((k : Int) + 1 : Int).toNat []))) (aB (aFE ((r :: rs).getD ((k : Int) + 1 : Int).toNat []) (hrj _) : SpG g _ _ _ _ _) (aB (by intros; (try simp only [cA] at *) <;> omega : (([.v undef] :: (es)).length + ([[.sl 7 (rowD ((r :: rs).getD ((k : Int) + 1 : Int).toNat []))]] : List (List D)).length) * (24 + 1) ≤ 140737488355328) (aC (by intros; (try simp only [cA] at *) <;> omega : inR (((k : Int) + 1) + 1)))))) ?_ ?_
 (try dsimp only); omega
 refine ⟨by omega, ?_⟩
 have e : rowsD (rs.take k) ++ [[D.sl 7 (rowD (rs.getD k []))]] = rowsD (rs.take (k + 1)) := aKB (by omega)
 rw [hes]; exact e
 (try simp only [cF] at hc3)
 have hlen : es.length = k := by rw [hes, rowsD, List.length_map, List.length_take]; omega
 refine zE hG [] (.exit 0) (⟨[zX 2 101 0, zX 3 201 0], [(101, y12), (201, .box 30 [cI v.kind, cS (S v.s), cI v.dn, cI v.ds, cI v.n, .ar 300 0, .ar 809 0]), (300, y11 (([] : List (List D)) ++ (strs v.cols))), (807, .arr 0 30 7 (rowD r)), (809, .arr 0 ⟨33, [(0, .ar 807 0)]⟩ 1 ([.v undef] :: (es)))]⟩) aA rfl ?_
 refine zR hG [] [300, 809, 807] (y52 v.kind (S v.s) v.dn v.ds v.n) [(100, y11 (([] : List (List D)) ++ (strs v.cols))), (102, .arr 0 30 7 (rowD r)), (101, .arr 0 ⟨33, [(0, .ar 102 0)]⟩ 1 ([.v undef] :: (es)))] aA ?_ ?_
 rfl
 have e : rs.take k = rs := List.take_of_length_le (by omega)
 rw [hes]; simp only [Nat.add_sub_cancel, e, List.nil_append]
theorem oddN (v : Vl) (hs : v.small) (a b c : Int) :
  SpG g 12 [.agg [.d (.i v.kind), .d (.s (S v.s)), .d (.i v.dn), .d (.i v.ds), .d (.i v.n), .d (.sl 1 (strs v.cols)), .d (.sl 1 (rowsD ([])))], .agg [.d (.i a), .d (.i b), .d (.i c)]] [] (.agg [.d (.i ((bB ⟨v.kind, v.s, v.dn, v.ds, v.n, v.cols, []⟩ a b c).kind)), .d (.s (S (bB ⟨v.kind, v.s, v.dn, v.ds, v.n, v.cols, []⟩ a b c).s)), .d (.i ((bB ⟨v.kind, v.s, v.dn, v.ds, v.n, v.cols, []⟩ a b c).dn)), .d (.i ((bB ⟨v.kind, v.s, v.dn, v.ds, v.n, v.cols, []⟩ a b c).ds)), .d (.i ((bB ⟨v.kind, v.s, v.dn, v.ds, v.n, v.cols, []⟩ a b c).n)), .d (.sl 1 (strs ((bB ⟨v.kind, v.s, v.dn, v.ds, v.n, v.cols, []⟩ a b c).cols))), .d (.sl 1 (rowsD ((bB ⟨v.kind, v.s, v.dn, v.ds, v.n, v.cols, []⟩ a b c).rows)))]) [] := by
 have a1 := eS (x := a) (n := 10) (by decide)
 have a2 := eS (x := b) (n := 8) (by decide)
 have a3 := eS (x := b) (n := 5) (by decide)
 have a4 := eS (x := b) (n := 4) (by decide)
 have a5 := eS (x := b) (n := 3) (by decide)
 have a6 := eS (x := c) (n := 8) (by decide)
 have a7 := tI b 5 (by decide)
 have a8 := tI b 4 (by decide)
 have a9 := tI a 10 (by decide)
 simp only [qm] at a7 a8 a9
 have b1 := hs.s
 have b2 := hs.cols
 have b3 := hs.rows
 refine aF 138 Tryz.func12 (by kernel_rfl) fun fr hG => ?_
 refine zC hG [(1, 1, .call (.agg [.d (.i v.kind), .d (.s (S v.s)), .d (.i v.dn), .d (.i v.ds), .d (.i v.n), .ar 100 0, .ar 101 0]) [(100, .arr 0 9 1 (strs v.cols)), (101, .arr 0 33 1 (([] : List (List D))))] [])] [1, 0, 1, 0, 1, 1] (decide ((Int.tmod ((Int.tmod a 10) + 10) 10 : Int) = 0)) (⟨[(2, [], .c (.bx 100 0)), (3, [], .c (.bx 101 0)), (4, [], .c (.bx 102 0)), (12, [], .c (.d (.i (Int.tmod ((Int.tmod a 10) + 10) 10))))], [(100, .box 30 [.d (.i v.kind), .d (.s (S v.s)), .d (.i v.dn), .d (.i v.ds), .d (.i v.n), .ar 201 0, .ar 202 0]), (101, .box 23 [.d (.i a), .d (.i b), .d (.i c)]), (102, .box 30 [.d (.i 0), .d (.s (S [])), .d (.i 0), .d (.i 0), .d (.i 0), .d (.nil), .d (.nil)]), (201, .arr 0 9 1 (strs v.cols)), (202, .arr 0 33 1 (([] : List (List D))))]⟩) (aB ((copyN v hs : SpG g _ _ _ _ _)) (aB (show 10 ≠ (0 : Int) from (by intros; (try simp only [cA] at *) <;> omega)) (aB (show inR ((Int.tmod a 10) + 10) from (by intros; (try simp only [cA] at *) <;> omega)) (aC (show 10 ≠ (0 : Int) from (by intros; (try simp only [cA] at *) <;> omega)))))) (fun hc1 => ?_) (fun hc1 => ?_)
 (try simp only [cF] at hc1)
 refine zR hG [] [] (.agg [.d (.i ((Int.tmod b 8) - 1)), .d (.s (S v.s)), .d (.i v.dn), .d (.i v.ds), .d (.i v.n), .d (.sl 1 (strs v.cols)), .d (.sl 1 (([] : List (List D))))]) [] (aB (show 8 ≠ (0 : Int) from (by intros; (try simp only [cA] at *) <;> omega)) (aC (show inR ((Int.tmod b 8) - 1) from (by intros; (try simp only [cA] at *) <;> omega)))) ?_ ?_
 ·first | (simp [bB, qm, aZ, bN, rowsD, aP, rowD, strs, bK, *]; done) | (exfalso; omega) | (have hkk : k = (98 + (b.tmod 4 + 4).tmod 4).toNat := (by omega); rw [hes, hkk]; simp [bB, qm, rowsD, aP, rowD, *])
 rfl
 (try simp only [cF] at hc1)
 refine zc hG [] [1, 1, 1, 0, 1, 0, 1, 1] (decide ((Int.tmod ((Int.tmod a 10) + 10) 10 : Int) = 1)) aA (fun hc2 => ?_) (fun hc2 => ?_)
 (try simp only [cF] at hc2)
 refine zR hG [(6, 6, .call (.c (.d (.s (S [u8 b])))) [] [])] [] (.agg [.d (.i v.kind), .d (.s ((S v.s) ++ (S [u8 b]))), .d (.i v.dn), .d (.i v.ds), .d (.i v.n), .d (.sl 1 (strs v.cols)), .d (.sl 1 (([] : List (List D))))]) [] (aB (show ([[.y (IntKind.wrap .u8 b)]] : List (List D)) = bytesD (S [u8 b]).data.toList from (aNP b)) (aC (show (S v.s).size + (S [u8 b]).size ≤ maxLen from (by intros; (try simp only [cA] at *) <;> omega)))) ?_ ?_
 ·first | (simp [bB, qm, aZ, bN, rowsD, aP, rowD, strs, bK, *]; done) | (exfalso; omega) | (have hkk : k = (98 + (b.tmod 4 + 4).tmod 4).toNat := (by omega); rw [hes, hkk]; simp [bB, qm, rowsD, aP, rowD, *])
 rfl
 (try simp only [cF] at hc2)
 refine zc hG [] [1, 1, 1, 1, 1, 0, 1, 0, 1, 1] (decide ((Int.tmod ((Int.tmod a 10) + 10) 10 : Int) = 2)) aA (fun hc3 => ?_) (fun hc3 => ?_)
 (try simp only [cF] at hc3)
 refine zR hG [] [] (.agg [.d (.i v.kind), .d (.s (S v.s)), .d (.i b), .d (.i (Int.tmod c 8)), .d (.i v.n), .d (.sl 1 (strs v.cols)), .d (.sl 1 (([] : List (List D))))]) [] (aC (show 8 ≠ (0 : Int) from (by intros; (try simp only [cA] at *) <;> omega))) ?_ ?_
 ·first | (simp [bB, qm, aZ, bN, rowsD, aP, rowD, strs, bK, *]; done) | (exfalso; omega) | (have hkk : k = (98 + (b.tmod 4 + 4).tmod 4).toNat := (by omega); rw [hes, hkk]; simp [bB, qm, rowsD, aP, rowD, *])
 rfl
 (try simp only [cF] at hc3)
 refine zc hG [] [1, 1, 1, 1, 1, 1, 1, 0, 1, 0, 1, 1] (decide ((Int.tmod ((Int.tmod a 10) + 10) 10 : Int) = 3)) aA (fun hc4 => ?_) (fun hc4 => ?_)
 (try simp only [cF] at hc4)
 refine zR hG [] [] (.agg [.d (.i v.kind), .d (.s (S v.s)), .d (.i v.dn), .d (.i v.ds), .d (.i b), .d (.sl 1 (strs v.cols)), .d (.sl 1 (([] : List (List D))))]) [] aA ?_ ?_
 ·first | (simp [bB, qm, aZ, bN, rowsD, aP, rowD, strs, bK, *]; done) | (exfalso; omega) | (have hkk : k = (98 + (b.tmod 4 + 4).tmod 4).toNat := (by omega); rw [hes, hkk]; simp [bB, qm, rowsD, aP, rowD, *])
 rfl
 (try simp only [cF] at hc4)
 refine zc hG [] [1, 1, 1, 1, 1, 1, 1, 1, 1, 0, 1, 0, 1, 1] (decide ((Int.tmod ((Int.tmod a 10) + 10) 10 : Int) = 4)) aA (fun hc5 => ?_) (fun hc5 => ?_)
 (try simp only [cF] at hc5)
 refine zR hG [(12, 9, .elem (bK (oddL.getD (Int.tmod ((Int.tmod b 5) + 5) 5 : Int).toNat [])))] [] (.agg [.d (.i v.kind), .d (.s (S v.s)), .d (.i v.dn), .d (.i v.ds), .d (.i v.n), .d (.sl 1 ((strs v.cols) ++ ([[.s (S (oddL.getD (Int.tmod ((Int.tmod b 5) + 5) 5 : Int).toNat []))]] : List (List D)))), .d (.sl 1 (([] : List (List D))))]) [] (aB (show 5 ≠ (0 : Int) from (by intros; (try simp only [cA] at *) <;> omega)) (aB (show inR ((Int.tmod b 5) + 5) from (by intros; (try simp only [cA] at *) <;> omega)) (aB (show 5 ≠ (0 : Int) from (by intros; (try simp only [cA] at *) <;> omega)) (aB (show (0 : Int) ≤ (Int.tmod ((Int.tmod b 5) + 5) 5) ∧ (Int.tmod ((Int.tmod b 5) + 5) 5) < ((([[.s (S [97])], [.s (S [])], [.s (S [120, 49])], [.s (S [49, 120])], [.s (S [97, 98, 99, 100, 101, 102, 103, 104, 105, 106, 107, 108, 109, 110, 111, 112, 113, 114, 115, 116, 117])]] : List (List D))).length : Int) from (by intros; (try simp only [cA] at *) <;> omega)) (aB (show (([[.s (S [97])], [.s (S [])], [.s (S [120, 49])], [.s (S [49, 120])], [.s (S [97, 98, 99, 100, 101, 102, 103, 104, 105, 106, 107, 108, 109, 110, 111, 112, 113, 114, 115, 116, 117])]] : List (List D)))[(Int.tmod ((Int.tmod b 5) + 5) 5 : Int).toNat]? = some (bK (oddL.getD (Int.tmod ((Int.tmod b 5) + 5) 5 : Int).toNat [])) from (aLB (by omega))) (aC (show ((strs v.cols).length + (([[.s (S (oddL.getD (Int.tmod ((Int.tmod b 5) + 5) 5 : Int).toNat []))]] : List (List D))).length) * (16 + 1) ≤ 140737488355328 from (by intros; (try simp only [cA] at *) <;> omega)))))))) ?_ ?_
 ·first | (simp [bB, qm, aZ, bN, rowsD, aP, rowD, strs, bK, *]; done) | (exfalso; omega) | (have hkk : k = (98 + (b.tmod 4 + 4).tmod 4).toNat := (by omega); rw [hes, hkk]; simp [bB, qm, rowsD, aP, rowD, *])
 rfl
 (try simp only [cF] at hc5)
 refine zc hG [] [1, 1, 1, 1, 1, 1, 1, 1, 1, 1, 1, 0, 1, 0, 1, 1] (decide ((Int.tmod ((Int.tmod a 10) + 10) 10 : Int) = 5)) aA (fun hc6 => ?_) (fun hc6 => ?_)
 (try simp only [cF] at hc6)
 refine zR hG [(14, 2, .mask [some 7])] [] (.agg [.d (.i v.kind), .d (.s (S v.s)), .d (.i v.dn), .d (.i v.ds), .d (.i v.n), .d (.sl 1 (strs v.cols)), .d (.sl 1 (([] : List (List D)) ++ ([[.sl 7 ([])]] : List (List D))))]) [] (aC (show ((([] : List (List D))).length + (([[.sl 7 ([])]] : List (List D))).length) * (24 + 1) ≤ 140737488355328 from (by intros; (try simp only [cA] at *) <;> omega))) ?_ ?_
 ·first | (simp [bB, qm, aZ, bN, rowsD, aP, rowD, strs, bK, *]; done) | (exfalso; omega) | (have hkk : k = (98 + (b.tmod 4 + 4).tmod 4).toNat := (by omega); rw [hes, hkk]; simp [bB, qm, rowsD, aP, rowD, *])
 rfl
 (try simp only [cF] at hc6)
 refine zc hG [] [1, 1, 1, 1, 1, 1, 1, 1, 1, 1, 1, 1, 1, 0, 1, 0, 1, 1] (decide ((Int.tmod ((Int.tmod a 10) + 10) 10 : Int) = 6)) aA (fun hc7 => ?_) (fun hc7 => ?_)
 (try simp only [cF] at hc7)
 refine zC hG [(16, 8, .elem (aP []))] [1, 0, 1, 1, 1, 1, 1, 1, 1, 1, 1, 1, 1, 1, 1, 0, 1, 0, 1, 1] (false) (⟨[(2, [], .c (.bx 100 0)), (4, [], .c (.bx 102 0))], [(100, .box 30 [.d (.i v.kind), .d (.s (S v.s)), .d (.i v.dn), .d (.i v.ds), .d (.i v.n), .ar 201 0, .ar 202 0]), (102, .box 30 [.d (.i 0), .d (.s (S [])), .d (.i 0), .d (.i 0), .d (.i 0), .d (.nil), .d (.nil)]), (201, .arr 0 9 1 (strs v.cols)), (202, .arr 0 33 1 (([] : List (List D))))]⟩) (aB (show false = true → (0 : Int) ≤ 0 ∧ 0 < ((([] : List (List D))).length : Int) from fun hg1 => absurd hg1 (by decide)) (aC (show false = true → (([] : List (List D)))[0]? = some (aP []) from fun hg1 => absurd hg1 (by decide)))) (fun hc8 => absurd hc8 (by decide)) (fun _ => ?_)
 refine zR hG [] [] (.agg [.d (.i v.kind), .d (.s (S v.s)), .d (.i v.dn), .d (.i v.ds), .d (.i v.n), .d (.sl 1 (strs v.cols)), .d (.sl 1 (([] : List (List D))))]) [] aA ?_ ?_
 ·first | (simp [bB, qm, aZ, bN, rowsD, aP, rowD, strs, bK, *]; done) | (exfalso; omega) | (have hkk : k = (98 + (b.tmod 4 + 4).tmod 4).toNat := (by omega); rw [hes, hkk]; simp [bB, qm, rowsD, aP, rowD, *])
 rfl
 (try simp only [cF] at hc7)
 refine zc hG [] [1, 1, 1, 1, 1, 1, 1, 1, 1, 1, 1, 1, 1, 1, 1, 0, 1, 0, 1, 1] (decide ((Int.tmod ((Int.tmod a 10) + 10) 10 : Int) = 7)) aA (fun hc9 => ?_) (fun hc9 => ?_)
 (try simp only [cF] at hc9)
 refine zC hG [(19, 8, .elem (aP []))] [1, 0, 1, 1, 1, 1, 1, 1, 1, 1, 1, 1, 1, 1, 1, 1, 1, 0, 1, 0, 1, 1] (false) (⟨[(2, [], .c (.bx 100 0)), (3, [], .c (.bx 101 0)), (4, [], .c (.bx 102 0))], [(100, .box 30 [.d (.i v.kind), .d (.s (S v.s)), .d (.i v.dn), .d (.i v.ds), .d (.i v.n), .ar 201 0, .ar 202 0]), (101, .box 23 [.d (.i a), .d (.i b), .d (.i c)]), (102, .box 30 [.d (.i 0), .d (.s (S [])), .d (.i 0), .d (.i 0), .d (.i 0), .d (.nil), .d (.nil)]), (201, .arr 0 9 1 (strs v.cols)), (202, .arr 0 33 1 (([] : List (List D))))]⟩) (aB (show false = true → (0 : Int) ≤ 0 ∧ 0 < ((([] : List (List D))).length : Int) from fun hg1 => absurd hg1 (by decide)) (aC (show false = true → (([] : List (List D)))[0]? = some (aP []) from fun hg1 => absurd hg1 (by decide)))) (fun hc10 => absurd hc10 (by decide)) (fun _ => ?_)
 refine zR hG [] [] (.agg [.d (.i v.kind), .d (.s (S v.s)), .d (.i v.dn), .d (.i v.ds), .d (.i v.n), .d (.sl 1 (strs v.cols)), .d (.sl 1 (([] : List (List D))))]) [] aA ?_ ?_
 ·first | (simp [bB, qm, aZ, bN, rowsD, aP, rowD, strs, bK, *]; done) | (exfalso; omega) | (have hkk : k = (98 + (b.tmod 4 + 4).tmod 4).toNat := (by omega); rw [hes, hkk]; simp [bB, qm, rowsD, aP, rowD, *])
 rfl
 (try simp only [cF] at hc9)
 refine zc hG [] [1, 1, 1, 1, 1, 1, 1, 1, 1, 1, 1, 1, 1, 1, 1, 1, 1, 0, 1, 0, 1, 1] (decide ((Int.tmod ((Int.tmod a 10) + 10) 10 : Int) = 8)) aA (fun hc11 => ?_) (fun hc11 => ?_)
 (try simp only [cF] at hc11)
 refine zR hG [] [] (.agg [.d (.i v.kind), .d (.s ((S v.s) ++ (S [39]))), .d (.i v.dn), .d (.i v.ds), .d (.i v.n), .d (.sl 1 (strs v.cols)), .d (.sl 1 (([] : List (List D))))]) [] (aC (show (S v.s).size + (S [39]).size ≤ maxLen from (by intros; (try simp only [cA] at *) <;> omega))) ?_ ?_
 ·first | (simp [bB, qm, aZ, bN, rowsD, aP, rowD, strs, bK, *]; done) | (exfalso; omega) | (have hkk : k = (98 + (b.tmod 4 + 4).tmod 4).toNat := (by omega); rw [hes, hkk]; simp [bB, qm, rowsD, aP, rowD, *])
 rfl
 (try simp only [cF] at hc11)
 refine zC hG [] [1, 1, 1, 1, 1, 1, 1, 1, 1, 1, 1, 1, 1, 1, 1, 1, 1, 1, 1, 0, 1, 0, 1, 1] (decide ((Int.tmod ((Int.tmod a 10) + 10) 10 : Int) = 9)) (⟨[(2, [], .c (.bx 100 0)), (3, [], .c (.bx 101 0)), (4, [], .c (.bx 102 0))], [(100, .box 30 [.d (.i v.kind), .d (.s (S v.s)), .d (.i v.dn), .d (.i v.ds), .d (.i v.n), .ar 201 0, .ar 202 0]), (101, .box 23 [.d (.i a), .d (.i b), .d (.i c)]), (102, .box 30 [.d (.i 0), .d (.s (S [])), .d (.i 0), .d (.i 0), .d (.i 0), .d (.nil), .d (.nil)]), (201, .arr 0 9 1 (strs v.cols)), (202, .arr 0 33 1 (([] : List (List D))))]⟩) aA (fun hc12 => ?_) (fun hc12 => ?_)
 (try simp only [cF] at hc12)
 refine zL hG [] [0, 1, 0, 1, 1, 1, 1, 1, 1, 1, 1, 1, 1, 1, 1, 1, 1, 1, 1, 1, 1, 1, 0, 1, 0, 1, 1] (fun (zz : Nat × List (List D)) => match zz with | (k, es) => ((98 + (b.tmod 4 + 4).tmod 4).toNat - k, ⟨[(2, [], .c (.bx 100 0)), (3, [], .c (.bx 101 0)), (4, [], .c (.bx 102 0)), (5, [], .c (.d (.i (k : Int))))], [(100, .box 30 [.d (.i v.kind), .d (.s (S v.s)), .d (.i v.dn), .d (.i v.ds), .d (.i v.n), .ar 201 0, .ar 202 0]), (101, .box 23 [.d (.i a), .d (.i b), .d (.i c)]), (102, .box 30 [.d (.i 0), .d (.s (S [])), .d (.i 0), .d (.i 0), .d (.i 0), .d (.nil), .d (.nil)]), (201, .arr 0 9 1 (strs v.cols)), (202, .arr 0 33 1 (es))]⟩, k ≤ (98 + (b.tmod 4 + 4).tmod 4).toNat ∧ es = rowsD (List.replicate k (List.replicate v.cols.length Cl.z)))) (0, []) aA ?_ ?_
 exact ⟨Nat.zero_le _, rfl⟩
 rintro ⟨k, es⟩ ⟨hk, hes⟩
 have hlen : es.length = k := by rw [hes, rowsD, List.length_map, List.length_replicate]
 refine zc hG [] [1, 0] (decide (((k : Int) : Int) < (98 + (Int.tmod ((Int.tmod b 4) + 4) 4)))) (aB (show 4 ≠ (0 : Int) from (by intros; (try simp only [cA] at *) <;> omega)) (aB (show inR ((Int.tmod b 4) + 4) from (by intros; (try simp only [cA] at *) <;> omega)) (aB (show 4 ≠ (0 : Int) from (by intros; (try simp only [cA] at *) <;> omega)) (aC (show inR (98 + (Int.tmod ((Int.tmod b 4) + 4) 4)) from (by intros; (try simp only [cA] at *) <;> omega)))))) (fun hc14 => ?_) (fun hc14 => ?_)
 (try simp only [cF] at hc14)
 refine zD hG [(27, 5, .elem [.nil, .nil, .nil, .nil, .nil, .sl 1 [], .sl 1 []])] (k + 1, es ++ ([[.sl 7 (List.replicate ((strs v.cols).length) [.i 0, .s (S []), .i 0, .i 0, .i 0, .sl 1 ([]), .sl 1 ([])])]] : List (List D))) (aB (show (0 : Int) ≤ ((strs v.cols).length : Int) ∧ ((strs v.cols).length : Int) = ((strs v.cols).length : Int) ∧ ((96 : Nat) : Int) * ((strs v.cols).length : Int) ≤ 281474976710656 ∧ ((strs v.cols).length : Int) ≤ 9223372036854775807 from (by intros; (try simp only [cA] at *) <;> omega)) (aB (show ((es).length + (([[.sl 7 (List.replicate ((strs v.cols).length) [.i 0, .s (S []), .i 0, .i 0, .i 0, .sl 1 ([]), .sl 1 ([])])]] : List (List D))).length) * (24 + 1) ≤ 140737488355328 from (by intros; (try simp only [cA] at *) <;> omega)) (aC (show inR ((k : Int) + 1) from (by intros; (try simp only [cA] at *) <;> omega))))) ?_ ?_
 (try dsimp only); omega
 refine ⟨by omega, ?_⟩
 rw [hes, aKH]
 (try simp only [cF] at hc14)
 refine zE hG [] (.exit 1) (⟨[(2, [], .c (.bx 100 0)), (4, [], .c (.bx 102 0))], [(100, .box 30 [.d (.i v.kind), .d (.s (S v.s)), .d (.i v.dn), .d (.i v.ds), .d (.i v.n), .ar 201 0, .ar 202 0]), (102, .box 30 [.d (.i 0), .d (.s (S [])), .d (.i 0), .d (.i 0), .d (.i 0), .d (.nil), .d (.nil)]), (201, .arr 0 9 1 (strs v.cols)), (202, .arr 0 33 1 (es))]⟩) aA rfl ?_
 refine zR hG [] [] (.agg [.d (.i v.kind), .d (.s (S v.s)), .d (.i v.dn), .d (.i v.ds), .d (.i v.n), .d (.sl 1 (strs v.cols)), .d (.sl 1 (es))]) [] aA ?_ ?_
 ·first | (simp [bB, qm, aZ, bN, rowsD, aP, rowD, strs, bK, *]; done) | (exfalso; omega) | (have hkk : k = (98 + (b.tmod 4 + 4).tmod 4).toNat := (by omega); rw [hes, hkk]; simp [bB, qm, rowsD, aP, rowD, *])
 rfl
 (try simp only [cF] at hc12)
 refine zR hG [] [] (.agg [.d (.i v.kind), .d (.s (S v.s)), .d (.i v.dn), .d (.i v.ds), .d (.i v.n), .d (.sl 1 (strs v.cols)), .d (.sl 1 (([] : List (List D))))]) [] aA ?_ ?_
 ·first | (simp [bB, qm, aZ, bN, rowsD, aP, rowD, strs, bK, *]; done) | (exfalso; omega) | (have hkk : k = (98 + (b.tmod 4 + 4).tmod 4).toNat := (by omega); rw [hes, hkk]; simp [bB, qm, rowsD, aP, rowD, *])
 rfl
theorem oddR (v : Vl) (r : List Cl) (rs : List (List Cl)) (b1 : v.s.length ≤ 1000000) (b2 : v.cols.length ≤ 1000000) (b4 : r.length ≤ 1000000) (b3 : rs.length ≤ 1000000) (b5 : ∀ x, x ∈ rs → x.length ≤ 1000000) (a b c : Int) :
  SpG g 12 [.agg [.d (.i v.kind), .d (.s (S v.s)), .d (.i v.dn), .d (.i v.ds), .d (.i v.n), .d (.sl 1 (strs v.cols)), .d (.sl 1 (rowsD (r :: rs)))], .agg [.d (.i a), .d (.i b), .d (.i c)]] [] (.agg [.d (.i ((bB ⟨v.kind, v.s, v.dn, v.ds, v.n, v.cols, r :: rs⟩ a b c).kind)), .d (.s (S (bB ⟨v.kind, v.s, v.dn, v.ds, v.n, v.cols, r :: rs⟩ a b c).s)), .d (.i ((bB ⟨v.kind, v.s, v.dn, v.ds, v.n, v.cols, r :: rs⟩ a b c).dn)), .d (.i ((bB ⟨v.kind, v.s, v.dn, v.ds, v.n, v.cols, r :: rs⟩ a b c).ds)), .d (.i ((bB ⟨v.kind, v.s, v.dn, v.ds, v.n, v.cols, r :: rs⟩ a b c).n)), .d (.sl 1 (strs ((bB ⟨v.kind, v.s, v.dn, v.ds, v.n, v.cols, r :: rs⟩ a b c).cols))), .d (.sl 1 (rowsD ((bB ⟨v.kind, v.s, v.dn, v.ds, v.n, v.cols, r :: rs⟩ a b c).rows)))]) [] := by
 have a1 := eS (x := a) (n := 10) (by decide)
 have a2 := eS (x := b) (n := 8) (by decide)
 have a3 := eS (x := b) (n := 5) (by decide)
 have a4 := eS (x := b) (n := 4) (by decide)
 have a5 := eS (x := b) (n := 3) (by decide)
 have a6 := eS (x := c) (n := 8) (by decide)
 have a7 := tI b 5 (by decide)
 have a8 := tI b 4 (by decide)
 have a9 := tI a 10 (by decide)
 simp only [qm] at a7 a8 a9
 refine aF 138 Tryz.func12 (by kernel_rfl) fun fr hG => ?_
 refine zC hG [(1, 1, .call (.agg [.d (.i v.kind), .d (.s (S v.s)), .d (.i v.dn), .d (.i v.ds), .d (.i v.n), .ar 100 0, .ar 101 0]) [(100, .arr 0 9 1 (strs v.cols)), (102, .arr 0 30 7 (rowD r)), (101, .arr 0 ⟨33, [(0, .ar 102 0)]⟩ 1 ([.v undef] :: (rowsD rs)))] [])] [1, 0, 1, 0, 1, 1] (decide ((Int.tmod ((Int.tmod a 10) + 10) 10 : Int) = 0)) (⟨[(2, [], .c (.bx 100 0)), (3, [], .c (.bx 101 0)), (4, [], .c (.bx 102 0)), (12, [], .c (.d (.i (Int.tmod ((Int.tmod a 10) + 10) 10))))], [(100, .box 30 [.d (.i v.kind), .d (.s (S v.s)), .d (.i v.dn), .d (.i v.ds), .d (.i v.n), .ar 201 0, .ar 202 0]), (101, .box 23 [.d (.i a), .d (.i b), .d (.i c)]), (102, .box 30 [.d (.i 0), .d (.s (S [])), .d (.i 0), .d (.i 0), .d (.i 0), .d (.nil), .d (.nil)]), (201, .arr 0 9 1 (strs v.cols)), (202, .arr 0 ⟨33, [(0, .ar 203 0)]⟩ 1 ([.v undef] :: (rowsD rs))), (203, .arr 0 30 7 (rowD r))]⟩) (aB ((copyR v r rs b2 b4 b3 b5 : SpG g _ _ _ _ _)) (aB (show 10 ≠ (0 : Int) from (by intros; (try simp only [cA] at *) <;> omega)) (aB (show inR ((Int.tmod a 10) + 10) from (by intros; (try simp only [cA] at *) <;> omega)) (aC (show 10 ≠ (0 : Int) from (by intros; (try simp only [cA] at *) <;> omega)))))) (fun hc1 => ?_) (fun hc1 => ?_)
 (try simp only [cF] at hc1)
 refine zR hG [] [] (.agg [.d (.i ((Int.tmod b 8) - 1)), .d (.s (S v.s)), .d (.i v.dn), .d (.i v.ds), .d (.i v.n), .d (.sl 1 (strs v.cols)), .d (.sl 1 ([.sl 7 (rowD r)] :: (rowsD rs)))]) [] (aB (show 8 ≠ (0 : Int) from (by intros; (try simp only [cA] at *) <;> omega)) (aC (show inR ((Int.tmod b 8) - 1) from (by intros; (try simp only [cA] at *) <;> omega)))) ?_ ?_
 ·first | (simp [bB, qm, aZ, bN, rowsD, aP, rowD, strs, bK, *]; done) | (exfalso; omega) | (have hkk : k = (98 + (b.tmod 4 + 4).tmod 4).toNat := (by omega); rw [hes, hkk]; simp [bB, qm, rowsD, aP, rowD, *]; done) | (cases r <;> simp [bB, qm, rowsD, aP, rowD, ClD, List.set] at *; done) | (cases r <;> simp_all [bB, qm, rowsD, aP, rowD, ClD, List.set])
 rfl
 (try simp only [cF] at hc1)
 refine zc hG [] [1, 1, 1, 0, 1, 0, 1, 1] (decide ((Int.tmod ((Int.tmod a 10) + 10) 10 : Int) = 1)) aA (fun hc2 => ?_) (fun hc2 => ?_)
 (try simp only [cF] at hc2)
 refine zR hG [(6, 6, .call (.c (.d (.s (S [u8 b])))) [] [])] [] (.agg [.d (.i v.kind), .d (.s ((S v.s) ++ (S [u8 b]))), .d (.i v.dn), .d (.i v.ds), .d (.i v.n), .d (.sl 1 (strs v.cols)), .d (.sl 1 ([.sl 7 (rowD r)] :: (rowsD rs)))]) [] (aB (show ([[.y (IntKind.wrap .u8 b)]] : List (List D)) = bytesD (S [u8 b]).data.toList from (aNP b)) (aC (show (S v.s).size + (S [u8 b]).size ≤ maxLen from (by intros; (try simp only [cA] at *) <;> omega)))) ?_ ?_
 ·first | (simp [bB, qm, aZ, bN, rowsD, aP, rowD, strs, bK, *]; done) | (exfalso; omega) | (have hkk : k = (98 + (b.tmod 4 + 4).tmod 4).toNat := (by omega); rw [hes, hkk]; simp [bB, qm, rowsD, aP, rowD, *]; done) | (cases r <;> simp [bB, qm, rowsD, aP, rowD, ClD, List.set] at *; done) | (cases r <;> simp_all [bB, qm, rowsD, aP, rowD, ClD, List.set])
 rfl
 (try simp only [cF] at hc2)
 refine zc hG [] [1, 1, 1, 1, 1, 0, 1, 0, 1, 1] (decide ((Int.tmod ((Int.tmod a 10) + 10) 10 : Int) = 2)) aA (fun hc3 => ?_) (fun hc3 => ?_)
 (try simp only [cF] at hc3)
 refine zR hG [] [] (.agg [.d (.i v.kind), .d (.s (S v.s)), .d (.i b), .d (.i (Int.tmod c 8)), .d (.i v.n), .d (.sl 1 (strs v.cols)), .d (.sl 1 ([.sl 7 (rowD r)] :: (rowsD rs)))]) [] (aC (show 8 ≠ (0 : Int) from (by intros; (try simp only [cA] at *) <;> omega))) ?_ ?_
 ·first | (simp [bB, qm, aZ, bN, rowsD, aP, rowD, strs, bK, *]; done) | (exfalso; omega) | (have hkk : k = (98 + (b.tmod 4 + 4).tmod 4).toNat := (by omega); rw [hes, hkk]; simp [bB, qm, rowsD, aP, rowD, *]; done) | (cases r <;> simp [bB, qm, rowsD, aP, rowD, ClD, List.set] at *; done) | (cases r <;> simp_all [bB, qm, rowsD, aP, rowD, ClD, List.set])
 rfl
 (try simp only [cF] at hc3)
 refine zc hG [] [1, 1, 1, 1, 1, 1, 1, 0, 1, 0, 1, 1] (decide ((Int.tmod ((Int.tmod a 10) + 10) 10 : Int) = 3)) aA (fun hc4 => ?_) (fun hc4 => ?_)
 (try simp only [cF] at hc4)
 refine zR hG [] [] (.agg [.d (.i v.kind), .d (.s (S v.s)), .d (.i v.dn), .d (.i v.ds), .d (.i b), .d (.sl 1 (strs v.cols)), .d (.sl 1 ([.sl 7 (rowD r)] :: (rowsD rs)))]) [] aA ?_ ?_
 ·first | (simp [bB, qm, aZ, bN, rowsD, aP, rowD, strs, bK, *]; done) | (exfalso; omega) | (have hkk : k = (98 + (b.tmod 4 + 4).tmod 4).toNat := (by omega); rw [hes, hkk]; simp [bB, qm, rowsD, aP, rowD, *]; done) | (cases r <;> simp [bB, qm, rowsD, aP, rowD, ClD, List.set] at *; done) | (cases r <;> simp_all [bB, qm, rowsD, aP, rowD, ClD, List.set])
 rfl
 (try simp only [cF] at hc4)
 refine zc hG [] [1, 1, 1, 1, 1, 1, 1, 1, 1, 0, 1, 0, 1, 1] (decide ((Int.tmod ((Int.tmod a 10) + 10) 10 : Int) = 4)) aA (fun hc5 => ?_) (fun hc5 => ?_)
 (try simp only [cF] at hc5)
 refine zR hG [(12, 9, .elem (bK (oddL.getD (Int.tmod ((Int.tmod b 5) + 5) 5 : Int).toNat [])))] [] (.agg [.d (.i v.kind), .d (.s (S v.s)), .d (.i v.dn), .d (.i v.ds), .d (.i v.n), .d (.sl 1 ((strs v.cols) ++ ([[.s (S (oddL.getD (Int.tmod ((Int.tmod b 5) + 5) 5 : Int).toNat []))]] : List (List D)))), .d (.sl 1 ([.sl 7 (rowD r)] :: (rowsD rs)))]) [] (aB (show 5 ≠ (0 : Int) from (by intros; (try simp only [cA] at *) <;> omega)) (aB (show inR ((Int.tmod b 5) + 5) from (by intros; (try simp only [cA] at *) <;> omega)) (aB (show 5 ≠ (0 : Int) from (by intros; (try simp only [cA] at *) <;> omega)) (aB (show (0 : Int) ≤ (Int.tmod ((Int.tmod b 5) + 5) 5) ∧ (Int.tmod ((Int.tmod b 5) + 5) 5) < ((([[.s (S [97])], [.s (S [])], [.s (S [120, 49])], [.s (S [49, 120])], [.s (S [97, 98, 99, 100, 101, 102, 103, 104, 105, 106, 107, 108, 109, 110, 111, 112, 113, 114, 115, 116, 117])]] : List (List D))).length : Int) from (by intros; (try simp only [cA] at *) <;> omega)) (aB (show (([[.s (S [97])], [.s (S [])], [.s (S [120, 49])], [.s (S [49, 120])], [.s (S [97, 98, 99, 100, 101, 102, 103, 104, 105, 106, 107, 108, 109, 110, 111, 112, 113, 114, 115, 116, 117])]] : List (List D)))[(Int.tmod ((Int.tmod b 5) + 5) 5 : Int).toNat]? = some (bK (oddL.getD (Int.tmod ((Int.tmod b 5) + 5) 5 : Int).toNat [])) from (aLB (by omega))) (aC (show ((strs v.cols).length + (([[.s (S (oddL.getD (Int.tmod ((Int.tmod b 5) + 5) 5 : Int).toNat []))]] : List (List D))).length) * (16 + 1) ≤ 140737488355328 from (by intros; (try simp only [cA] at *) <;> omega)))))))) ?_ ?_
 ·first | (simp [bB, qm, aZ, bN, rowsD, aP, rowD, strs, bK, *]; done) | (exfalso; omega) | (have hkk : k = (98 + (b.tmod 4 + 4).tmod 4).toNat := (by omega); rw [hes, hkk]; simp [bB, qm, rowsD, aP, rowD, *]; done) | (cases r <;> simp [bB, qm, rowsD, aP, rowD, ClD, List.set] at *; done) | (cases r <;> simp_all [bB, qm, rowsD, aP, rowD, ClD, List.set])
 rfl
 (try simp only [cF] at hc5)
 refine zc hG [] [1, 1, 1, 1, 1, 1, 1, 1, 1, 1, 1, 0, 1, 0, 1, 1] (decide ((Int.tmod ((Int.tmod a 10) + 10) 10 : Int) = 5)) aA (fun hc6 => ?_) (fun hc6 => ?_)
 (try simp only [cF] at hc6)
 refine zR hG [(14, 2, .mask [some 7])] [] (.agg [.d (.i v.kind), .d (.s (S v.s)), .d (.i v.dn), .d (.i v.ds), .d (.i v.n), .d (.sl 1 (strs v.cols)), .d (.sl 1 ([.sl 7 (rowD r)] :: ((rowsD rs) ++ ([[.sl 7 ([])]] : List (List D)))))]) [] (aC (show (([.v undef] :: (rowsD rs)).length + (([[.sl 7 ([])]] : List (List D))).length) * (24 + 1) ≤ 140737488355328 from (by intros; (try simp only [cA] at *) <;> omega))) ?_ ?_
 ·first | (simp [bB, qm, aZ, bN, rowsD, aP, rowD, strs, bK, *]; done) | (exfalso; omega) | (have hkk : k = (98 + (b.tmod 4 + 4).tmod 4).toNat := (by omega); rw [hes, hkk]; simp [bB, qm, rowsD, aP, rowD, *]; done) | (cases r <;> simp [bB, qm, rowsD, aP, rowD, ClD, List.set] at *; done) | (cases r <;> simp_all [bB, qm, rowsD, aP, rowD, ClD, List.set])
 rfl
 (try simp only [cF] at hc6)
 refine zc hG [] [1, 1, 1, 1, 1, 1, 1, 1, 1, 1, 1, 1, 1, 0, 1, 0, 1, 1] (decide ((Int.tmod ((Int.tmod a 10) + 10) 10 : Int) = 6)) aA (fun hc7 => ?_) (fun hc7 => ?_)
 (try simp only [cF] at hc7)
 refine zC hG [] [1, 0, 1, 1, 1, 1, 1, 1, 1, 1, 1, 1, 1, 1, 1, 0, 1, 0, 1, 1] ((decide (((([.v undef] :: (rowsD rs)).length : Int) : Int) > 0)) && (decide ((((rowD r).length : Int) : Int) > 0))) (⟨[(2, [], .c (.bx 100 0)), (4, [], .c (.bx 102 0))], [(100, .box 30 [.d (.i v.kind), .d (.s (S v.s)), .d (.i v.dn), .d (.i v.ds), .d (.i v.n), .ar 201 0, .ar 202 0]), (102, .box 30 [.d (.i 0), .d (.s (S [])), .d (.i 0), .d (.i 0), .d (.i 0), .d (.nil), .d (.nil)]), (201, .arr 0 9 1 (strs v.cols)), (202, .arr 0 ⟨33, [(0, .ar 203 0)]⟩ 1 ([.v undef] :: (rowsD rs))), (203, .arr 0 30 7 (rowD r))]⟩) (aB (show (decide (((([.v undef] :: (rowsD rs)).length : Int) : Int) > 0)) = true → (0 : Int) ≤ 0 ∧ 0 < (([.v undef] :: (rowsD rs)).length : Int) from (by intros; (try simp only [cA] at *) <;> omega)) (aC (show (decide (((([.v undef] :: (rowsD rs)).length : Int) : Int) > 0)) = true → (0 : Nat) = 0 ∧ 0 < ([.v undef] :: (rowsD rs)).length from (by intros; (try simp only [cA] at *) <;> omega)))) (fun hc8 => ?_) (fun hc8 => ?_)
 (try simp only [cF] at hc8)
 refine zR hG [(17, 6, .mask [none, none, none, none, none, some 1, some 1])] [] (.agg [.d (.i v.kind), .d (.s (S v.s)), .d (.i v.dn), .d (.i v.ds), .d (.i v.n), .d (.sl 1 (strs v.cols)), .d (.sl 1 ([.sl 7 ((rowD r).set 0 [.i 5, .s (S []), .i 0, .i 0, .i 0, .sl 1 ([]), .sl 1 ([])])] :: (rowsD rs)))]) [] (aB (show (0 : Int) ≤ 0 ∧ 0 < (([.v undef] :: (rowsD rs)).length : Int) from (by intros; (try simp only [cA] at *) <;> omega)) (aB (show (0 : Nat) = 0 ∧ 0 < ([.v undef] :: (rowsD rs)).length from (by intros; (try simp only [cA] at *) <;> omega)) (aC (show (0 : Int) ≤ 0 ∧ 0 < ((rowD r).length : Int) from (by intros; (try simp only [cA] at *) <;> omega))))) ?_ ?_
 ·first | (simp [bB, qm, aZ, bN, rowsD, aP, rowD, strs, bK, *]; done) | (exfalso; omega) | (have hkk : k = (98 + (b.tmod 4 + 4).tmod 4).toNat := (by omega); rw [hes, hkk]; simp [bB, qm, rowsD, aP, rowD, *]; done) | (cases r <;> simp [bB, qm, rowsD, aP, rowD, ClD, List.set] at *; done) | (cases r <;> simp_all [bB, qm, rowsD, aP, rowD, ClD, List.set])
 rfl
 (try simp only [cF] at hc8)
 refine zR hG [] [] (.agg [.d (.i v.kind), .d (.s (S v.s)), .d (.i v.dn), .d (.i v.ds), .d (.i v.n), .d (.sl 1 (strs v.cols)), .d (.sl 1 ([.sl 7 (rowD r)] :: (rowsD rs)))]) [] aA ?_ ?_
 ·first | (simp [bB, qm, aZ, bN, rowsD, aP, rowD, strs, bK, *]; done) | (exfalso; omega) | (have hkk : k = (98 + (b.tmod 4 + 4).tmod 4).toNat := (by omega); rw [hes, hkk]; simp [bB, qm, rowsD, aP, rowD, *]; done) | (cases r <;> simp [bB, qm, rowsD, aP, rowD, ClD, List.set] at *; done) | (cases r <;> simp_all [bB, qm, rowsD, aP, rowD, ClD, List.set])
 rfl
 (try simp only [cF] at hc7)
 refine zc hG [] [1, 1, 1, 1, 1, 1, 1, 1, 1, 1, 1, 1, 1, 1, 1, 0, 1, 0, 1, 1] (decide ((Int.tmod ((Int.tmod a 10) + 10) 10 : Int) = 7)) aA (fun hc9 => ?_) (fun hc9 => ?_)
 (try simp only [cF] at hc9)
 refine zC hG [] [1, 0, 1, 1, 1, 1, 1, 1, 1, 1, 1, 1, 1, 1, 1, 1, 1, 0, 1, 0, 1, 1] ((decide (((([.v undef] :: (rowsD rs)).length : Int) : Int) > 0)) && (decide ((((rowD r).length : Int) : Int) > 0))) (⟨[(2, [], .c (.bx 100 0)), (3, [], .c (.bx 101 0)), (4, [], .c (.bx 102 0))], [(100, .box 30 [.d (.i v.kind), .d (.s (S v.s)), .d (.i v.dn), .d (.i v.ds), .d (.i v.n), .ar 201 0, .ar 202 0]), (101, .box 23 [.d (.i a), .d (.i b), .d (.i c)]), (102, .box 30 [.d (.i 0), .d (.s (S [])), .d (.i 0), .d (.i 0), .d (.i 0), .d (.nil), .d (.nil)]), (201, .arr 0 9 1 (strs v.cols)), (202, .arr 0 ⟨33, [(0, .ar 203 0)]⟩ 1 ([.v undef] :: (rowsD rs))), (203, .arr 0 30 7 (rowD r))]⟩) (aB (show (decide (((([.v undef] :: (rowsD rs)).length : Int) : Int) > 0)) = true → (0 : Int) ≤ 0 ∧ 0 < (([.v undef] :: (rowsD rs)).length : Int) from (by intros; (try simp only [cA] at *) <;> omega)) (aC (show (decide (((([.v undef] :: (rowsD rs)).length : Int) : Int) > 0)) = true → (0 : Nat) = 0 ∧ 0 < ([.v undef] :: (rowsD rs)).length from (by intros; (try simp only [cA] at *) <;> omega)))) (fun hc10 => ?_) (fun hc10 => ?_)
 (try simp only [cF] at hc10)
 refine zR hG [(20, 9, .mask [none, none, none, none, none, some 1, some 1])] [] (.agg [.d (.i v.kind), .d (.s (S v.s)), .d (.i v.dn), .d (.i v.ds), .d (.i v.n), .d (.sl 1 (strs v.cols)), .d (.sl 1 ([.sl 7 ((rowD r).set 0 [.i 4, .s (S []), .i 0, .i 0, .i (Int.tmod b 3), .sl 1 ([]), .sl 1 ([])])] :: (rowsD rs)))]) [] (aB (show (0 : Int) ≤ 0 ∧ 0 < (([.v undef] :: (rowsD rs)).length : Int) from (by intros; (try simp only [cA] at *) <;> omega)) (aB (show (0 : Nat) = 0 ∧ 0 < ([.v undef] :: (rowsD rs)).length from (by intros; (try simp only [cA] at *) <;> omega)) (aB (show 3 ≠ (0 : Int) from (by intros; (try simp only [cA] at *) <;> omega)) (aC (show (0 : Int) ≤ 0 ∧ 0 < ((rowD r).length : Int) from (by intros; (try simp only [cA] at *) <;> omega)))))) ?_ ?_
 ·first | (simp [bB, qm, aZ, bN, rowsD, aP, rowD, strs, bK, *]; done) | (exfalso; omega) | (have hkk : k = (98 + (b.tmod 4 + 4).tmod 4).toNat := (by omega); rw [hes, hkk]; simp [bB, qm, rowsD, aP, rowD, *]; done) | (cases r <;> simp [bB, qm, rowsD, aP, rowD, ClD, List.set] at *; done) | (cases r <;> simp_all [bB, qm, rowsD, aP, rowD, ClD, List.set])
 rfl
 (try simp only [cF] at hc10)
 refine zR hG [] [] (.agg [.d (.i v.kind), .d (.s (S v.s)), .d (.i v.dn), .d (.i v.ds), .d (.i v.n), .d (.sl 1 (strs v.cols)), .d (.sl 1 ([.sl 7 (rowD r)] :: (rowsD rs)))]) [] aA ?_ ?_
 ·first | (simp [bB, qm, aZ, bN, rowsD, aP, rowD, strs, bK, *]; done) | (exfalso; omega) | (have hkk : k = (98 + (b.tmod 4 + 4).tmod 4).toNat := (by omega); rw [hes, hkk]; simp [bB, qm, rowsD, aP, rowD, *]; done) | (cases r <;> simp [bB, qm, rowsD, aP, rowD, ClD, List.set] at *; done) | (cases r <;> simp_all [bB, qm, rowsD, aP, rowD, ClD, List.set])
 rfl
 (try simp only [cF] at hc9)
 refine zc hG [] [1, 1, 1, 1, 1, 1, 1, 1, 1, 1, 1, 1, 1, 1, 1, 1, 1, 0, 1, 0, 1, 1] (decide ((Int.tmod ((Int.tmod a 10) + 10) 10 : Int) = 8)) aA (fun hc11 => ?_) (fun hc11 => ?_)
 (try simp only [cF] at hc11)
 refine zR hG [] [] (.agg [.d (.i v.kind), .d (.s ((S v.s) ++ (S [39]))), .d (.i v.dn), .d (.i v.ds), .d (.i v.n), .d (.sl 1 (strs v.cols)), .d (.sl 1 ([.sl 7 (rowD r)] :: (rowsD rs)))]) [] (aC (show (S v.s).size + (S [39]).size ≤ maxLen from (by intros; (try simp only [cA] at *) <;> omega))) ?_ ?_
 ·first | (simp [bB, qm, aZ, bN, rowsD, aP, rowD, strs, bK, *]; done) | (exfalso; omega) | (have hkk : k = (98 + (b.tmod 4 + 4).tmod 4).toNat := (by omega); rw [hes, hkk]; simp [bB, qm, rowsD, aP, rowD, *]; done) | (cases r <;> simp [bB, qm, rowsD, aP, rowD, ClD, List.set] at *; done) | (cases r <;> simp_all [bB, qm, rowsD, aP, rowD, ClD, List.set])
 rfl
 (try simp only [cF] at hc11)
 refine zC hG [] [1, 1, 1, 1, 1, 1, 1, 1, 1, 1, 1, 1, 1, 1, 1, 1, 1, 1, 1, 0, 1, 0, 1, 1] (decide ((Int.tmod ((Int.tmod a 10) + 10) 10 : Int) = 9)) (⟨[(2, [], .c (.bx 100 0)), (3, [], .c (.bx 101 0)), (4, [], .c (.bx 102 0))], [(100, .box 30 [.d (.i v.kind), .d (.s (S v.s)), .d (.i v.dn), .d (.i v.ds), .d (.i v.n), .ar 201 0, .ar 202 0]), (101, .box 23 [.d (.i a), .d (.i b), .d (.i c)]), (102, .box 30 [.d (.i 0), .d (.s (S [])), .d (.i 0), .d (.i 0), .d (.i 0), .d (.nil), .d (.nil)]), (201, .arr 0 9 1 (strs v.cols)), (202, .arr 0 ⟨33, [(0, .ar 203 0)]⟩ 1 ([.v undef] :: (rowsD rs))), (203, .arr 0 30 7 (rowD r))]⟩) aA (fun hc12 => ?_) (fun hc12 => ?_)
 (try simp only [cF] at hc12)
 refine zL hG [] [0, 1, 0, 1, 1, 1, 1, 1, 1, 1, 1, 1, 1, 1, 1, 1, 1, 1, 1, 1, 1, 1, 0, 1, 0, 1, 1] (fun (zz : Nat × List (List D)) => match zz with | (k, es) => ((98 + (b.tmod 4 + 4).tmod 4).toNat - k, ⟨[(2, [], .c (.bx 100 0)), (3, [], .c (.bx 101 0)), (4, [], .c (.bx 102 0)), (5, [], .c (.d (.i (k : Int))))], [(100, .box 30 [.d (.i v.kind), .d (.s (S v.s)), .d (.i v.dn), .d (.i v.ds), .d (.i v.n), .ar 201 0, .ar 202 0]), (101, .box 23 [.d (.i a), .d (.i b), .d (.i c)]), (102, .box 30 [.d (.i 0), .d (.s (S [])), .d (.i 0), .d (.i 0), .d (.i 0), .d (.nil), .d (.nil)]), (201, .arr 0 9 1 (strs v.cols)), (202, .arr 0 ⟨33, [(0, .ar 203 0)]⟩ 1 ([.v undef] :: (es))), (203, .arr 0 30 7 (rowD r))]⟩, k ≤ (98 + (b.tmod 4 + 4).tmod 4).toNat ∧ es = rowsD (rs ++ List.replicate k (List.replicate v.cols.length Cl.z)))) (0, rowsD rs) aA ?_ ?_
 exact ⟨Nat.zero_le _, by simp⟩
 rintro ⟨k, es⟩ ⟨hk, hes⟩
 have hlen : es.length = rs.length + k := by rw [hes, rowsD, List.length_map, List.length_append, List.length_replicate]
 refine zc hG [] [1, 0] (decide (((k : Int) : Int) < (98 + (Int.tmod ((Int.tmod b 4) + 4) 4)))) (aB (show 4 ≠ (0 : Int) from (by intros; (try simp only [cA] at *) <;> omega)) (aB (show inR ((Int.tmod b 4) + 4) from (by intros; (try simp only [cA] at *) <;> omega)) (aB (show 4 ≠ (0 : Int) from (by intros; (try simp only [cA] at *) <;> omega)) (aC (show inR (98 + (Int.tmod ((Int.tmod b 4) + 4) 4)) from (by intros; (try simp only [cA] at *) <;> omega)))))) (fun hc14 => ?_) (fun hc14 => ?_)
 (try simp only [cF] at hc14)
 refine zD hG [(27, 5, .elem [.nil, .nil, .nil, .nil, .nil, .sl 1 [], .sl 1 []])] (k + 1, es ++ ([[.sl 7 (List.replicate ((strs v.cols).length) [.i 0, .s (S []), .i 0, .i 0, .i 0, .sl 1 ([]), .sl 1 ([])])]] : List (List D))) (aB (show (0 : Int) ≤ ((strs v.cols).length : Int) ∧ ((strs v.cols).length : Int) = ((strs v.cols).length : Int) ∧ ((96 : Nat) : Int) * ((strs v.cols).length : Int) ≤ 281474976710656 ∧ ((strs v.cols).length : Int) ≤ 9223372036854775807 from (by intros; (try simp only [cA] at *) <;> omega)) (aB (show (([.v undef] :: (es)).length + (([[.sl 7 (List.replicate ((strs v.cols).length) [.i 0, .s (S []), .i 0, .i 0, .i 0, .sl 1 ([]), .sl 1 ([])])]] : List (List D))).length) * (24 + 1) ≤ 140737488355328 from (by intros; (try simp only [cA] at *) <;> omega)) (aC (show inR ((k : Int) + 1) from (by intros; (try simp only [cA] at *) <;> omega))))) ?_ ?_
 (try dsimp only); omega
 refine ⟨by omega, ?_⟩
 rw [hes, aHV]
 (try simp only [cF] at hc14)
 refine zE hG [] (.exit 1) (⟨[(2, [], .c (.bx 100 0)), (4, [], .c (.bx 102 0))], [(100, .box 30 [.d (.i v.kind), .d (.s (S v.s)), .d (.i v.dn), .d (.i v.ds), .d (.i v.n), .ar 201 0, .ar 202 0]), (102, .box 30 [.d (.i 0), .d (.s (S [])), .d (.i 0), .d (.i 0), .d (.i 0), .d (.nil), .d (.nil)]), (201, .arr 0 9 1 (strs v.cols)), (202, .arr 0 ⟨33, [(0, .ar 203 0)]⟩ 1 ([.v undef] :: (es))), (203, .arr 0 30 7 (rowD r))]⟩) aA rfl ?_
 refine zR hG [] [] (.agg [.d (.i v.kind), .d (.s (S v.s)), .d (.i v.dn), .d (.i v.ds), .d (.i v.n), .d (.sl 1 (strs v.cols)), .d (.sl 1 ([.sl 7 (rowD r)] :: (es)))]) [] aA ?_ ?_
 ·first | (simp [bB, qm, aZ, bN, rowsD, aP, rowD, strs, bK, *]; done) | (exfalso; omega) | (have hkk : k = (98 + (b.tmod 4 + 4).tmod 4).toNat := (by omega); rw [hes, hkk]; simp [bB, qm, rowsD, aP, rowD, *]; done) | (cases r <;> simp [bB, qm, rowsD, aP, rowD, ClD, List.set] at *; done) | (cases r <;> simp_all [bB, qm, rowsD, aP, rowD, ClD, List.set])
 rfl
 (try simp only [cF] at hc12)
 refine zR hG [] [] (.agg [.d (.i v.kind), .d (.s (S v.s)), .d (.i v.dn), .d (.i v.ds), .d (.i v.n), .d (.sl 1 (strs v.cols)), .d (.sl 1 ([.sl 7 (rowD r)] :: (rowsD rs)))]) [] aA ?_ ?_
 ·first | (simp [bB, qm, aZ, bN, rowsD, aP, rowD, strs, bK, *]; done) | (exfalso; omega) | (have hkk : k = (98 + (b.tmod 4 + 4).tmod 4).toNat := (by omega); rw [hes, hkk]; simp [bB, qm, rowsD, aP, rowD, *]; done) | (cases r <;> simp [bB, qm, rowsD, aP, rowD, ClD, List.set] at *; done) | (cases r <;> simp_all [bB, qm, rowsD, aP, rowD, ClD, List.set])
 rfl
theorem odd_ok (v : Vl) (hs : v.small) (a b c : Int) : SpG g 12 [nX v, .agg [cI a, cI b, cI c]] [] (nX (bB v a b c)) [] := by
 obtain ⟨k, s, dn, ds, n, cols, rows⟩ := v
 cases rows with
 | nil => exact oddN ⟨k, s, dn, ds, n, cols, []⟩ hs a b c
 | cons r rs => exact oddR ⟨k, s, dn, ds, n, cols, r :: rs⟩ r rs hs.s hs.cols (hs.each r (by simp)) (by have := hs.rows; simp only [List.length_cons] at this; omega) (fun x hx => hs.each x (by simp [hx])) a b c
end Go.Proofs.YtmpgfchkkemngaaGreatDoor
namespace Go.Proofs.YtmpgfchkkemngaaGreatDoor
open Go.RowKit Go.V
open Go.Eng (inR byteAt u8 bH)
variable {g : Gv}
theorem aA9 {v : Vl} (h : aX v = true) : v.s.length ≤ 200 ∧ v.cols.length ≤ 8 ∧ v.rows.length ≤ 100 ∧ (∀ r, r ∈ v.rows → r.length ≤ 8) := by
 by_cases hk : v.kind = 5
 ·have hs : v.s = [] := by
   simp only [aX, aV, hk] at h
   simp [cE] at h
   simp [h]
  obtain ⟨h1, h2, h3, h4⟩ := eF (bY h hk)
  exact ⟨by simp [hs], h1, h2, fun r hr => by rw [(h4 r hr).1]; exact h1⟩
 ·have hc : v.cols = [] := by
   simp only [aX, aV, if_neg hk] at h
   repeat (split at h; (· simp [cE] at h; simp [h]))
   cases h
  have hr := lW h hk
  have hs : v.s.length ≤ 200 := by
   by_cases k1 : v.kind = 1
   ·exact (s7 h).2.1 k1
   ·have : v.s = [] := by
     simp only [aX, aV, if_neg hk, if_neg k1] at h
     repeat (split at h; (· simp [cE] at h; simp [h]))
     cases h
    simp [this]
  exact ⟨hs, by simp [hc], by simp [hr], fun r h' => by rw [hr] at h'; cases h'⟩
structure Vl.tiny (n : Nat) (v : Vl) : Prop where
 s : v.s.length ≤ 1000 + n
 cols : v.cols.length ≤ 1000 + n
 rows : v.rows.length ≤ 1000 + 200 * n
 each : ∀ r, r ∈ v.rows → r.length ≤ 1000 + n
 ct : ∀ t, t ∈ v.cols → t.length ≤ maxLen
 cells : ∀ r, r ∈ v.rows → ∀ c, c ∈ r → c.s.length ≤ maxLen
theorem Vl.tiny.small {n : Nat} {v : Vl} (h : v.tiny n) (hn : n ≤ 100) : v.small := ⟨by have := h.s; omega, by have := h.cols; omega, by have := h.rows; omega, fun r hr => by have := h.each r hr; omega⟩
theorem Vl.tiny.fit {n : Nat} {v : Vl} (h : v.tiny n) (hn : n ≤ 100) : v.fit := ⟨by have := h.s; unfold maxLen; omega, h.ct, h.cells⟩
theorem aIM (l : List Int) : (aM l).tiny 0 := by
 obtain ⟨h1, h2, h3, h4⟩ := aA9 (kW l)
 exact ⟨by omega, by omega, by omega, fun r hr => by have := h4 r hr; omega, (aCA l).cols, (aCA l).cells⟩
theorem aLC (k : Nat) : (oddL.getD k []).length ≤ maxLen := by
 by_cases h : k < 5
 match k, h with
 | 0, _ => decide
 | 1, _ => decide
 | 2, _ => decide
 | 3, _ => decide
 | 4, _ => decide
 rw [List.getD_eq_getElem?_getD, List.getElem?_eq_none (by simp [oddL]; omega)]; simp
theorem aLA {n : Nat} {v : Vl} (h : v.tiny n) (a b c : Int) : (bB v a b c).tiny (n + 1) := by
 obtain ⟨hs, hc, hr, he, ht, hl⟩ := h
 have up : v.tiny (n + 1) := ⟨by omega, by omega, by omega, fun r hr' => by have := he r hr'; omega, ht, hl⟩
 have a8 := tI b 4 (by decide)
 unfold bB
 split
 exact ⟨up.s, up.cols, up.rows, up.each, up.ct, up.cells⟩
 split
 exact ⟨by simp; omega, up.cols, up.rows, up.each, up.ct, up.cells⟩
 split
 exact ⟨up.s, up.cols, up.rows, up.each, up.ct, up.cells⟩
 split
 exact ⟨up.s, up.cols, up.rows, up.each, up.ct, up.cells⟩
 split
 refine ⟨up.s, by simp; omega, up.rows, up.each, fun t h' => ?_, up.cells⟩
 simp only [List.mem_append, List.mem_singleton] at h'
 rcases h' with h' | rfl
 exact ht t h'
 exact aLC _
 split
 refine ⟨up.s, up.cols, by simp; omega, fun r h' => ?_, up.ct, fun r h' c' hc' => ?_⟩
 simp only [List.mem_append, List.mem_singleton] at h'
 rcases h' with h' | rfl
 exact up.each r h'
 simp
 simp only [List.mem_append, List.mem_singleton] at h'
 rcases h' with h' | rfl
 exact hl r h' c' hc'
 cases hc'
 have chg : ∀ x : Cl, x.s = [] → (match v.rows with | (_ :: r) :: rs => { v with rows := (x :: r) :: rs } | _ => v : Vl).tiny (n + 1) := by
  intro x hx
  split
  rename_i y r rs hv
  have e1 := up.rows; have e2 := up.each; have e3 := up.cells
  rw [hv] at e1 e2 e3
  refine ⟨up.s, up.cols, by simpa using e1, fun q hq => ?_, up.ct, fun q hq c' hc' => ?_⟩
  rcases List.mem_cons.1 hq with rfl | hq
  have := e2 (y :: r) (by simp); simpa using this
  exact e2 q (by simp [hq])
  rcases List.mem_cons.1 hq with rfl | hq
  rcases List.mem_cons.1 hc' with rfl | hc'
  rw [hx]; simp
  exact e3 (y :: r) (by simp) c' (by simp [hc'])
  exact e3 q (by simp [hq]) c' hc'
  exact up
 split
 exact chg _ rfl
 split
 exact chg _ rfl
 split
 exact ⟨by simp; omega, up.cols, up.rows, up.each, up.ct, up.cells⟩
 refine ⟨up.s, up.cols, by simp; omega, fun r h' => ?_, up.ct, fun r h' c' hc' => ?_⟩
 simp only [List.mem_append, List.mem_replicate] at h'
 rcases h' with h' | ⟨_, rfl⟩
 exact up.each r h'
 simp; omega
 simp only [List.mem_append, List.mem_replicate] at h'
 rcases h' with h' | ⟨_, rfl⟩
 exact hl r h' c' hc'
 rw [(List.mem_replicate.1 hc').2]; simp [Cl.z]
end Go.Proofs.YtmpgfchkkemngaaGreatDoor
namespace Go.Proofs.YtmpgfchkkemngaaGreatDoor
open Go.RowKit Go.V
open Go.Eng (inR byteAt u8 bH)
variable {g : Gv}
def r5 (t : List UInt8) (a b : Int) : List UInt8 := t.set ((a.tmod (t.length : Int) + (t.length : Int)).tmod (t.length : Int)).toNat (u8 b)
theorem aC9 (t : List UInt8) (a b : Int) : (r5 t a b).length = t.length := by simp [r5]
theorem aFK (l : List UInt8) (k : Nat) (x : Int) : (bytesD l).set k [D.y (IntKind.wrap .u8 x)] = bytesD (l.set k (u8 x)) := by
 have : [D.y (IntKind.wrap .u8 x)] = (fun c : UInt8 => [D.v (.int .u8 (c.toNat : Int))]) (u8 x) := by simp [D.y, Eng.wrap_u8]
 rw [this]
 simp only [bytesD]
 rw [List.map_set]
theorem chg_es (t : List UInt8) (a b : Int) : (bytesD (S t).data.toList).set ((a.tmod (((bytesD (S t).data.toList).length : Nat) : Int) + (((bytesD (S t).data.toList).length : Nat) : Int)).tmod (((bytesD (S t).data.toList).length : Nat) : Int)).toNat [D.y (IntKind.wrap .u8 b)] = bytesD (S (r5 t a b)).data.toList := by
 rw [aFK, bI, bI, aN]; rfl
theorem read_B {s : ByteArray} {x : List UInt8} (e : s = S x) (hE : jF g) (h : x.length < 900000000) : SpG g 16 [.c (cS s)] [] (.tup [(true, [.d (.i (bP x).kind), cS (S (bP x).s), .d (.i (bP x).dn), .d (.i (bP x).ds), .d (.i (bP x).n), cM 1 (strs (bP x).cols), cM 1 (rowsD (bP x).rows)]), (false, [cB (bS x)])]) [] := by subst e; exact kJ hE x h
theorem aHZ {s : ByteArray} {x : List UInt8} (e : s = S x) (h : x.length ≤ 100000000) : SpG g 19 [.c (cS s)] [] (.tup [(true, [.d (.i (bP x).kind), cS (S (bP x).s), .d (.i (bP x).dn), .d (.i (bP x).ds), .d (.i (bP x).n), cM 1 (strs (bP x).cols), cM 1 (rowsD (bP x).rows)]), (false, [cB (bS x)])]) [] := by subst e; exact aEE x h
theorem yP (l : List Int) : aH (aM l) ≠ [] := by rw [oR (kW l)]; exact sV (kW l)
theorem qm_idx (a : Int) {n : Int} (h : 0 < n) : 0 ≤ (a.tmod n + n).tmod n ∧ (a.tmod n + n).tmod n < n := by
 have h1 := Int.tmod_lt_of_pos a h
 have h2 : -n < a.tmod n := by
  have h3 := Int.tmod_lt_of_pos (-a) h
  rw [Int.neg_tmod] at h3; omega
 exact ⟨Int.tmod_nonneg _ (by omega), Int.tmod_lt_of_pos _ h⟩
noncomputable def tx9 (l : List Int) (raw : List UInt8) (q0 q1 q2 q3 q4 : Int) : Nat → ByteArray
 | 0 => S (r5 (aH (aM l)) q3 q4)
 | 1 => S raw
 | 2 => (S (aH (aM l))) ++ (S raw)
 | 3 => (S (aH (aM l))).extract 1 (S (aH (aM l))).size
 | 4 => (S (aH (aM l))).extract 0 (((S (aH (aM l))).size : Int) - 1 : Int).toNat
 | 5 => ((S [91]) ++ (S raw)) ++ (S [93])
 | 6 => ((S [39]) ++ (S raw)) ++ (S [39])
 | 7 => S (aH (bB (aM l) q0 q1 q2))
 | _ => S []
noncomputable def txL (l : List Int) (raw : List UInt8) (q0 q1 q2 q3 q4 : Int) : Nat → List UInt8
 | 0 => (r5 (aH (aM l)) q3 q4)
 | 1 => raw
 | 2 => ((aH (aM l)) ++ raw)
 | 3 => ((aH (aM l)).drop 1)
 | 4 => ((aH (aM l)).take ((aH (aM l)).length - 1))
 | 5 => ([91] ++ raw ++ [93])
 | 6 => ([39] ++ raw ++ [39])
 | 7 => (aH (bB (aM l) q0 q1 q2))
 | _ => []
theorem tx9_S (l : List Int) (raw : List UInt8) (q0 q1 q2 q3 q4 : Int) : ∀ k, tx9 l raw q0 q1 q2 q3 q4 k = S (txL l raw q0 q1 q2 q3 q4 k)
 | 0 => rfl
 | 1 => rfl
 | 2 => aZ _ _
 | 3 => by simp only [tx9, txL]; rw [eC]
 | 4 => by simp only [tx9, txL]; rw [hO, aD]; simp
 | 5 => by simp only [tx9, txL]; rw [aZ, aZ]
 | 6 => by simp only [tx9, txL]; rw [aZ, aZ]
 | 7 => rfl
 | k + 8 => rfl
theorem tx9_at (l : List Int) (raw : List UInt8) (q0 q1 q2 q3 q4 : Int) : ∀ k, k < 9 → ([[.s (S (r5 (aH (aM l)) q3 q4))], [.s (S raw)], [.s ((S (aH (aM l))) ++ (S raw))], [.s ((S (aH (aM l))).extract 1 (S (aH (aM l))).size)], [.s ((S (aH (aM l))).extract 0 (((S (aH (aM l))).size : Int) - 1 : Int).toNat)], [.s (((S [91]) ++ (S raw)) ++ (S [93]))], [.s (((S [39]) ++ (S raw)) ++ (S [39]))], [.s (S (aH (bB (aM l) q0 q1 q2)))], [.s (S [])]] : List (List D))[k]? = some [.s (tx9 l raw q0 q1 q2 q3 q4 k)]
 | 0, _ => rfl
 | 1, _ => rfl
 | 2, _ => rfl
 | 3, _ => rfl
 | 4, _ => rfl
 | 5, _ => rfl
 | 6, _ => rfl
 | 7, _ => rfl
 | 8, _ => rfl
 | k + 9, h => absurd h (by omega)
theorem aFT (l : List Int) (raw : List UInt8) (q0 q1 q2 q3 q4 : Int) (hraw : raw.length ≤ 2000000) (k : Nat) : (txL l raw q0 q1 q2 q3 q4 k).length ≤ 3000000 := by
 have htl := jR (aM l)
 have hto := jR (bB (aM l) q0 q1 q2)
 unfold txL
 split <;> (try simp only [aC9, List.length_append, List.length_drop, List.length_take, List.length_cons, List.length_nil]) <;> omega
def nN := And.intro @List.length_append.{0} (And.intro @List.length_cons.{0} (And.intro @List.length_nil.{0} (And.intro @List.length_set.{0} (And.intro @aZ (And.intro @aD (And.intro @Go.Eng.inR.eq_1 (@maxLen.eq_1)))))))
theorem valueTexts_ok (hE : jF g) (l : List Int) (raw : List UInt8) (hraw : raw.length ≤ 2000000) (q0 q1 q2 q3 q4 : Int) :
  SpG g 4 [.c (cM 1 (intsD l)), .c (cS (S raw)), .agg [cI q0, cI q1, cI q2, cI q3, cI q4]] [] (.c (cB true)) [] := by
 have t0 := aIM l
 have t1 := aLA t0 q0 q1 q2
 have hf0 := t0.fit (by decide)
 have hf1 := t1.fit (by decide)
 obtain ⟨hR1, hR2⟩ := aBP (kW l) rfl
 have hne := yP l
 have htl := jR (aM l)
 have htp := List.length_pos_iff.2 hne
 have hto := jR (bB (aM l) q0 q1 q2)
 have hix := qm_idx q3 (n := ((aH (aM l)).length : Int)) (by omega)
 have hbt := Int.tmod_lt_of_pos q3 (b := ((aH (aM l)).length : Int)) (by omega)
 have hbt2 : -((aH (aM l)).length : Int) < q3.tmod ((aH (aM l)).length : Int) := by have h3 := Int.tmod_lt_of_pos (-q3) (b := ((aH (aM l)).length : Int)) (by omega); rw [Int.neg_tmod] at h3; omega
 refine aF 130 Tryz.func4 (by kernel_rfl) fun fr hG => ?_
 refine zC hG [(1, 0, kB true), (2, 1, kC (.agg (zV (aM l)))), (3, 8, kC (.agg (zV (bB (aM l) q0 q1 q2)))), (4, 1, kS (S (aH (aM l)))), (5, 1, kC (y46 (bP (aH (aM l))) (bS (aH (aM l))))), (6, 2, kS (S (aH (aM l)))), (6, 6, kS (S (aH (bB (aM l) q0 q1 q2)))), (6, 8, kS (S (aH (bB (aM l) q0 q1 q2)))), (6, 18, kB (decide ((bP (aH (aM l))) = (aM l))))] [1, 0, 1, 1, 1, 1, 1, 1] (((((!((S (aH (aM l))).toList == (S (aH (aM l))).toList)) || (!((S (aH (bB (aM l) q0 q1 q2))).toList == (S (aH (bB (aM l) q0 q1 q2))).toList))) || (!(bS (aH (aM l))))) || (!(decide ((bP (aH (aM l))) = (aM l))))) || ((S (aH (aM l))).toList == (S []).toList)) (⟨[zS 1 (S raw), zX 5 100 0, zB 6 false, zB 7 true, zX 9 409 0, zS 10 (S (aH (aM l)))], [(100, .box 37 [cI q0, cI q1, cI q2, cI q3, cI q4]), (409, .box 30 (zV (bB (aM l) q0 q1 q2)))]⟩) (aB (aD8 hE : SpG g _ _ _ _ _) (aB (made_ok l : SpG g _ _ _ _ _) (aB (odd_ok (aM l) (t0.small (by decide)) q0 q1 q2 : SpG g _ _ _ _ _) (aB (gQ (aM l) hf0 : SpG g _ _ _ _ _) (aB (kJ hE (aH (aM l)) (by omega) : SpG g _ _ _ _ _) (aB (kO (aM l) hf0 : SpG g _ _ _ _ _) (aB (fun (hg1 : (!((S (aH (aM l))).toList == (S (aH (aM l))).toList)) = false) => (gQ (bB (aM l) q0 q1 q2) hf1 : SpG g _ _ _ _ _)) (aB (fun (hg1 : (!((S (aH (aM l))).toList == (S (aH (aM l))).toList)) = false) => (kO (bB (aM l) q0 q1 q2) hf1 : SpG g _ _ _ _ _)) (aC (fun (hg1 : (((!((S (aH (aM l))).toList == (S (aH (aM l))).toList)) || (!((S (aH (bB (aM l) q0 q1 q2))).toList == (S (aH (bB (aM l) q0 q1 q2))).toList))) || (!(bS (aH (aM l))))) = false) => (dR (bP (aH (aM l))) (aM l) : SpG g _ _ _ _ _))))))))))) (fun hc1 => ?_) (fun hc1 => ?_)
 (try simp only [blS] at hc1)
 exfalso; (try simp only [vF] at hc1); simp [hR1, hR2, hne] at hc1
 (try simp only [blS] at hc1)
 refine zL hG [(10, 1, kS (S (r5 (aH (aM l)) q3 q4))), (10, 20, kS (S (aH (bB (aM l) q0 q1 q2))))] [0, 1, 0, 1, 1, 1, 1, 1, 1, 1, 1, 1] (fun (zz : Nat) => match zz with | k => (9 - k, ⟨[zB 6 false, zB 7 true, zY 103 1121 0, zI 104 9, zI 105 (k : Int)], [(1121, y11 ([[.s (S (r5 (aH (aM l)) q3 q4))], [.s (S raw)], [.s ((S (aH (aM l))) ++ (S raw))], [.s ((S (aH (aM l))).extract 1 (S (aH (aM l))).size)], [.s ((S (aH (aM l))).extract 0 (((S (aH (aM l))).size : Int) - 1 : Int).toNat)], [.s (((S [91]) ++ (S raw)) ++ (S [93]))], [.s (((S [39]) ++ (S raw)) ++ (S [39]))], [.s (S (aH (bB (aM l) q0 q1 q2)))], [.s (S [])]] : List (List D)))]⟩, k ≤ 9)) 0 (aB (by intros; first | decide | (unfold inR; decide) | exact ⟨by decide, by decide⟩ | (simp only [nN, bI, aN] at *; omega) | simp : (S (aH (aM l))).size ≤ 1000000000000) (aB (by intros; first | decide | (unfold inR; decide) | exact ⟨by decide, by decide⟩ | (simp only [nN, bI, aN] at *; omega) | simp : ((bytesD (S (aH (aM l))).data.toList).length : Int) ≠ (0 : Int)) (aB (by intros; first | decide | (unfold inR; decide) | exact ⟨by decide, by decide⟩ | (simp only [nN, bI, aN] at *; omega) | simp : inR ((Int.tmod q3 ((bytesD (S (aH (aM l))).data.toList).length : Int)) + ((bytesD (S (aH (aM l))).data.toList).length : Int))) (aB (by intros; first | decide | (unfold inR; decide) | exact ⟨by decide, by decide⟩ | (simp only [nN, bI, aN] at *; omega) | simp : ((bytesD (S (aH (aM l))).data.toList).length : Int) ≠ (0 : Int)) (aB (by intros; first | decide | (unfold inR; decide) | exact ⟨by decide, by decide⟩ | (simp only [nN, bI, aN] at *; omega) | simp : (0 : Int) ≤ (Int.tmod ((Int.tmod q3 ((bytesD (S (aH (aM l))).data.toList).length : Int)) + ((bytesD (S (aH (aM l))).data.toList).length : Int)) ((bytesD (S (aH (aM l))).data.toList).length : Int)) ∧ (Int.tmod ((Int.tmod q3 ((bytesD (S (aH (aM l))).data.toList).length : Int)) + ((bytesD (S (aH (aM l))).data.toList).length : Int)) ((bytesD (S (aH (aM l))).data.toList).length : Int)) < ((bytesD (S (aH (aM l))).data.toList).length : Int)) (aB (by intros; first | decide | (unfold inR; decide) | exact ⟨by decide, by decide⟩ | (simp only [nN, bI, aN] at *; omega) | simp : (bytesD (S (aH (aM l))).data.toList).length ≤ 1000000000000) (aB (show (bytesD (S (aH (aM l))).data.toList).set (Int.tmod ((Int.tmod q3 ((bytesD (S (aH (aM l))).data.toList).length : Int)) + ((bytesD (S (aH (aM l))).data.toList).length : Int)) ((bytesD (S (aH (aM l))).data.toList).length : Int) : Int).toNat [.y (IntKind.wrap .u8 q4)] = bytesD (S (r5 (aH (aM l)) q3 q4)).data.toList ∧ (S (r5 (aH (aM l)) q3 q4)).size ≤ 1000000000000 from ⟨chg_es (aH (aM l)) q3 q4, by rw [aD, aC9]; omega⟩) (aB (by intros; first | decide | (unfold inR; decide) | exact ⟨by decide, by decide⟩ | (simp only [nN, bI, aN] at *; omega) | simp : (S (aH (aM l))).size + (S raw).size ≤ maxLen) (aB (by intros; first | decide | (unfold inR; decide) | exact ⟨by decide, by decide⟩ | (simp only [nN, bI, aN] at *; omega) | simp : (0 : Int) ≤ 1 ∧ (1 : Int) ≤ ((S (aH (aM l))).size : Int) ∧ ((S (aH (aM l))).size : Int) ≤ ((S (aH (aM l))).size : Int)) (aB (by intros; first | decide | (unfold inR; decide) | exact ⟨by decide, by decide⟩ | (simp only [nN, bI, aN] at *; omega) | simp : inR (((S (aH (aM l))).size : Int) - 1)) (aB (by intros; first | decide | (unfold inR; decide) | exact ⟨by decide, by decide⟩ | (simp only [nN, bI, aN] at *; omega) | simp : (0 : Int) ≤ 0 ∧ (0 : Int) ≤ (((S (aH (aM l))).size : Int) - 1) ∧ (((S (aH (aM l))).size : Int) - 1) ≤ ((S (aH (aM l))).size : Int)) (aB (by intros; first | decide | (unfold inR; decide) | exact ⟨by decide, by decide⟩ | (simp only [nN, bI, aN] at *; omega) | simp : (S [91]).size + (S raw).size ≤ maxLen) (aB (by intros; first | decide | (unfold inR; decide) | exact ⟨by decide, by decide⟩ | (simp only [nN, bI, aN] at *; omega) | simp : ((S [91]) ++ (S raw)).size + (S [93]).size ≤ maxLen) (aB (by intros; first | decide | (unfold inR; decide) | exact ⟨by decide, by decide⟩ | (simp only [nN, bI, aN] at *; omega) | simp : (S [39]).size + (S raw).size ≤ maxLen) (aB (by intros; first | decide | (unfold inR; decide) | exact ⟨by decide, by decide⟩ | (simp only [nN, bI, aN] at *; omega) | simp : ((S [39]) ++ (S raw)).size + (S [39]).size ≤ maxLen) (aC (gQ (bB (aM l) q0 q1 q2) hf1 : SpG g _ _ _ _ _))))))))))))))))) ?_ ?_
 exact Nat.zero_le _
 rintro k hk9
 refine zp hG [] [0, 1] (((k : Int) : Int) < 9) aA (fun hc3 => ?_) (fun hc3 => ?_)
 skip
 refine zc hG [(12, 1, .elem ([.s (tx9 l raw q0 q1 q2 q3 q4 k)])), (13, 1, kC (y46 (bP (txL l raw q0 q1 q2 q3 q4 k)) (bS (txL l raw q0 q1 q2 q3 q4 k)))), (14, 1, kC (y46 (bP (txL l raw q0 q1 q2 q3 q4 k)) (bS (txL l raw q0 q1 q2 q3 q4 k)))), (15, 6, kB (decide ((bP (txL l raw q0 q1 q2 q3 q4 k)) = (bP (txL l raw q0 q1 q2 q3 q4 k)))))] [1, 1, 1, 1, 0, 0, 1, 1] ((!((bS (txL l raw q0 q1 q2 q3 q4 k)) == (bS (txL l raw q0 q1 q2 q3 q4 k)))) || (!(decide ((bP (txL l raw q0 q1 q2 q3 q4 k)) = (bP (txL l raw q0 q1 q2 q3 q4 k)))))) (aB (by intros; first | decide | (unfold inR; decide) | exact ⟨by decide, by decide⟩ | (simp only [nN, bI, aN] at *; omega) | simp : (0 : Int) ≤ (k : Int) ∧ (k : Int) < (([[.s (S (r5 (aH (aM l)) q3 q4))], [.s (S raw)], [.s ((S (aH (aM l))) ++ (S raw))], [.s ((S (aH (aM l))).extract 1 (S (aH (aM l))).size)], [.s ((S (aH (aM l))).extract 0 (((S (aH (aM l))).size : Int) - 1 : Int).toNat)], [.s (((S [91]) ++ (S raw)) ++ (S [93]))], [.s (((S [39]) ++ (S raw)) ++ (S [39]))], [.s (S (aH (bB (aM l) q0 q1 q2)))], [.s (S [])]] : List (List D)).length : Int)) (aB (by intros; exact tx9_at l raw q0 q1 q2 q3 q4 _ (by omega) : ([[.s (S (r5 (aH (aM l)) q3 q4))], [.s (S raw)], [.s ((S (aH (aM l))) ++ (S raw))], [.s ((S (aH (aM l))).extract 1 (S (aH (aM l))).size)], [.s ((S (aH (aM l))).extract 0 (((S (aH (aM l))).size : Int) - 1 : Int).toNat)], [.s (((S [91]) ++ (S raw)) ++ (S [93]))], [.s (((S [39]) ++ (S raw)) ++ (S [39]))], [.s (S (aH (bB (aM l) q0 q1 q2)))], [.s (S [])]] : List (List D))[k]? = some ([.s (tx9 l raw q0 q1 q2 q3 q4 k)])) (aB (read_B (tx9_S l raw q0 q1 q2 q3 q4 k) hE (Nat.lt_of_le_of_lt (aFT l raw q0 q1 q2 q3 q4 hraw k) (by decide)) : SpG g _ _ _ _ _) (aB (aHZ (tx9_S l raw q0 q1 q2 q3 q4 k) (Nat.le_trans (aFT l raw q0 q1 q2 q3 q4 hraw k) (by decide)) : SpG g _ _ _ _ _) (aC (fun (hg1 : (!((bS (txL l raw q0 q1 q2 q3 q4 k)) == (bS (txL l raw q0 q1 q2 q3 q4 k)))) = false) => (dR (bP (txL l raw q0 q1 q2 q3 q4 k)) (bP (txL l raw q0 q1 q2 q3 q4 k)) : SpG g _ _ _ _ _))))))) (fun hc4 => ?_) (fun hc4 => ?_)
 (try simp only [blS] at hc4)
 exfalso; (try simp only [vF] at hc4); simp [hR1, hR2, hne] at hc4
 (try simp only [blS] at hc4)
 refine zD hG [] (k + 1) (aC (by intros; first | decide | (unfold inR; decide) | exact ⟨by decide, by decide⟩ | (simp only [nN, bI, aN] at *; omega) | simp : inR ((k : Int) + 1))) ?_ ?_
 (try dsimp only); omega
 (try dsimp only); omega
 skip
 refine zE hG [] (.exit 0) (⟨[zB 6 false, zB 7 true], []⟩) aA rfl ?_
 exact zr hG [] [] aA
end Go.Proofs.YtmpgfchkkemngaaGreatDoor
