/- Part 37 of the proof. -/
import Derived.Test.YtgpedhfdniigoaaGreatDoorP31
import Derived.Test.YtgpedhfdniigoaaGreatDoorP34
import Derived.Test.YtgpedhfdniigoaaGreatDoorP36
import Derived.Shelf.Strings.Builder1
import Derived.Shelf.Strings.Builder2
import Derived.Shelf.Strings.OnBuilder
import Derived.Shelf.Small.Strs
import Derived.Shelf.Small.Wraps
import Derived.Shelf.Strings.BuilderF
import Derived.Shelf.Strings.BuilderK
import Derived.Shelf.Strconv.Atoi
import Derived.Shelf.Strconv.Itoa0
import Derived.Shelf.Strconv.Itoa1
import Derived.Shelf.LaysM
import Derived.Shelf.Strconv.Itoa2
import Derived.Shelf.Strconv.Itoa3
import Derived.Shelf.Strconv.AtoiErrFast
import Derived.Shelf.Strconv.ParseIntEmpty
import Derived.Shelf.Strconv.AtoiFail
import Derived.Shelf.Strconv.Clone
import Derived.Shelf.Strconv.SyntaxError
import Derived.Shelf.LaysC
import Derived.Shelf.Strconv.ToError
import Derived.Shelf.Strconv.Lower
import Derived.Shelf.Strconv.ParseUint10
import Derived.Shelf.Strconv.ParseUint10Empty
import Derived.Shelf.Strconv.ParseUint10Any
import Derived.Shelf.Strconv.ParseInt10
import Derived.Shelf.Strconv.AtoiLong
import Derived.Shelf.Strconv.AtoiInnerAll
import Derived.Shelf.Strconv.RangeError
import Derived.Shelf.Strconv.ToErrorRange
import Derived.Shelf.Strconv.AtoiAll
import Derived.Shelf.Strconv.ErrVarAll
import Derived.Shelf.Strings.Search1
import Derived.Shelf.Strings.Search2
import Derived.Shelf.Strings.Search3
import Derived.Shelf.Strings.Cut
import Derived.Shelf.Strings.Count
import Derived.Shelf.Strings.Shaped
import Derived.Shelf.Strings.Prefix
import Derived.Shelf.Strings.Split
import Derived.Shelf.Strings.Replace
import Derived.Shelf.Strings.SplitShaped
import Derived.Shelf.Bits.Mul64
import Derived.Shelf.Strings.Repeat
import Derived.Shelf.Unicode.DecodeSlow
import Derived.Shelf.Unicode.DecodeAny
import Derived.Shelf.Slices.Turned
import Derived.Shelf.Slices.Equal
import Derived.Ground.Names2Prog
import Derived.Shelf.Slices.Clone
import Derived.Test.YtgpedhfdniigoaaGreatDoorProg
import Derived.Lib.SplitLaws
set_option linter.all false
namespace Go.Proofs.YtgpedhfdniigoaaGreatDoor
open Go.RowKit Go.V
section
open Go.Eng (inR byteAt u8 dD)
variable {g : Gv}
def md1 (a n : Int) : Int := Int.tmod (Int.tmod a n + n) n
theorem fE (a : Int) {n : Int} (h : 1 <= n) : 0 <= md1 a n /\ md1 a n < n := by
 unfold md1
 have h1 : - n < Int.tmod a n := by
  have := Int.lt_tmod_of_pos a (show (0 : Int) < n by omega); omega
 exact ⟨Int.tmod_nonneg _ (by omega),Int.tmod_lt_of_pos _ (by omega)⟩
def RlF (x : Rl) : List D := [.i x.h,.s (S x.op),.s (S x.pa),.v undef]
def lG (a : Gr) (r k : Nat) : LD := ((a.rs.take k).map RlD).set r (RlF (a.rs.getD r Rl.z))
def cG (a : Gr) (r : Nat) : LD := (aB a.rs).set r (RlF (a.rs.getD r Rl.z))
theorem aKD (a : Gr) (r k : Nat) (h : k <= a.rs.length) : (lG a r k).length = k := by
 simp [lG,lt1]; omega
theorem rlsK_lt {a : Gr} {r k : Nat} (h : k < r) (hk : k < a.rs.length) : lG a r k ++ [RlD (a.rs.getD k Rl.z)] = lG a r (k + 1) := by
 have e1 : ((a.rs.take k).map RlD).length = k := by simp [lt1]; omega
 have e2 : ((a.rs.take (k + 1)).map RlD).length = k + 1 := by simp [lt1]; omega
 unfold lG
 rw [List.set_eq_of_length_le (by omega),List.set_eq_of_length_le (by omega),gF Rl.z hk]
theorem wR {a : Gr} {r k : Nat} (h : r < k) (hk : k < a.rs.length) : lG a r k ++ [RlD (a.rs.getD k Rl.z)] = lG a r (k + 1) := by
 have e1 : ((a.rs.take k).map RlD).length = k := by simp [lt1]; omega
 unfold lG
 rw [<- gF Rl.z hk,List.set_append_left _ _ (by omega)]
theorem wS {a : Gr} {r k : Nat} (h : k = r) (hk : k < a.rs.length) : lG a r k ++ [RlF (a.rs.getD k Rl.z)] = lG a r (k + 1) := by
 subst h
 have e1 : ((a.rs.take k).map RlD).length = k := by simp [lt1]; omega
 unfold lG
 rw [<- gF Rl.z hk,List.set_append_right _ _ (by omega),List.set_eq_of_length_le (by omega),e1]
 simp
theorem aBQ (a : Gr) (r : Nat) : lG a r a.rs.length = cG a r := by simp [lG,cG,aB]
theorem rlsF_at {a : Gr} {r : Nat} (h : r < a.rs.length) : (cG a r)[r]? = some (RlF (a.rs.getD r Rl.z)) := by
 unfold cG
 rw [List.getElem?_set_self (by rw [aB,lm]; exact h)]
theorem aIH {a : Gr} {r : Nat} (h : r < a.rs.length) (x : List Int) : (cG a r).set r ((RlF (a.rs.getD r Rl.z)).set 3 (.sl 1 (intsD x))) = aB (a.rs.set r { a.rs.getD r Rl.z with ar := x }) := by
 unfold cG
 rw [List.set_set,aB,aB,List.map_set]
 rfl
theorem kP {l : List (List UInt8)} {b : Nat} (h : l.all (fun x => decide (x.length <= b)) = true) (n : Nat) : (l.getD n []).length <= b := by
 rw [gd]
 cases hn : l[n]? with
 | none => simp
 | some x => simpa using at1.1 h x (List.mem_of_getElem? hn)
def tbN : List (List UInt8) := [[49],[32],[95],[39]]
def tbC : List (List UInt8) := [[97],[122],[],[110]]
def tbO : List (List UInt8) := [[117,112,112,101,114],[108,111,119,101,114],[110,111,116,104,105,110,103],[],[99,111,110,99,97,116],[99,111,108]]
def tbP : List (List UInt8) := [[39],[120],[10],[48],[32]]
theorem jI (x y : List UInt8) : S x ++ S y = S (x ++ y) := by
 apply ByteArray.ext
 simp [S,ByteArray.data_append]
def cX (a : Gr) (q0 q1 q2 : Int) : Gr :=
 let s := (md1 q1 (a.ss.length : Int)).toNat
 let r := (md1 q1 (a.rs.length : Int)).toNat
 let y := a.ss.getD s Sy.z
 let x := a.rs.getD r Rl.z
 match (md1 q0 14).toNat with
 | 0 => { a with nm := a.nm ++ tbN.getD (md1 q2 4).toNat [] }
 | 1 => { a with ve := q2 }
 | 2 => { a with st := q2 }
 | 3 => { a with cs := a.cs ++ [⟨tbC.getD (md1 q1 4).toNat [],q2⟩] }
 | 4 => { a with ss := a.ss.set s { y with mx := q2 } }
 | 5 => { a with ss := a.ss.set s { y with kd := q2 } }
 | 6 => { a with ss := a.ss.set s { y with nm := (a.ss.getD (md1 q2 (a.ss.length : Int)).toNat Sy.z).nm } }
 | 7 => { a with rs := a.rs.set r { x with h := q2 } }
 | 8 => { a with rs := a.rs.set r { x with op := tbO.getD (md1 q2 6).toNat [] } }
 | 9 => { a with rs := a.rs.set r { x with pa := x.pa ++ tbP.getD (md1 q2 5).toNat [] } }
 | 10 => { a with rs := a.rs.set r { x with ar := x.ar ++ [q2] } }
 | 11 => { a with rs := a.rs ++ [x] }
 | 12 => if x.ar.length > 0 then { a with rs := a.rs.set r { x with ar := x.ar.set 0 q2 } } else a
 | 13 => { a with ss := a.ss ++ [⟨[90],1,2⟩] }
 | _ => a
theorem fD (a n : Int) (hn : 1 <= n) (hb : n <= 1000000) :
  SpG g 35 [.c (cI a),.c (cI n)] [] (.c (cI (md1 a n))) [] := by
 have h1 := Int.lt_tmod_of_pos a (show (0 : Int) < n by omega)
 have h2 := Int.tmod_lt_of_pos a (show (0 : Int) < n by omega)
 refine aQ 12 Tryz.func35 fun fr hG => ?_
 exact zr hG [] [] (aD (by intros; (try simp only [inR,true_and,and_true]); (first | omega | (refine ⟨?_,?_⟩ <;> omega)) : n ≠ (0 : Int)) (aD (by intros; (try simp only [inR,true_and,and_true]); (first | omega | (refine ⟨?_,?_⟩ <;> omega)) : inR ((Int.tmod a n) + n)) (aG (by intros; (try simp only [inR,true_and,and_true]); (first | omega | (refine ⟨?_,?_⟩ <;> omega)) : n ≠ (0 : Int)))))
theorem aMG (a : Gr) (hs : a.small) (r : Nat) (hr : r < a.rs.length) :
  SpG g 24 [y1 (S a.nm) a.ve (aC a.cs) (aA a.ss) (aB a.rs) a.st] [] (y3 (S a.nm) a.ve a.st) [(100,.arr 0 75 2 (aC a.cs)),(102,.arr 0 51 3 (aA a.ss)),(103,.arr 0 ⟨66,[(r * 4 + 3,.ar 104 0)]⟩ 4 (cG a r)),(104,.arr 0 3 1 (intsD (a.rs.getD r Rl.z).ar))] := by
 have h1 := hs.cs
 have h2 := hs.ss
 have h3 := hs.rs
 refine aQ 42 Tryz.func24 fun fr hG => ?_
 refine zA hG [] [0,1,0,1,1,1,1,1] (⟨[zX 1 100 0,zX 2 101 0,zX 3 201 0,zI 4 0],[(100,y2 (S a.nm) a.ve (aC a.cs) (aA a.ss) (aB a.rs) a.st),(101,y4),(201,.box 30 [cS (S a.nm),cI a.ve,.ar 300 0,.ar 400 0,cN,cI a.st]),(300,y5 (([] : LD) ++ (aC a.cs))),(400,.arr 0 51 3 (([] : LD) ++ (aA a.ss)))]⟩) [] [(201,4,9001,66,4)] (fun (zz : Nat × Nat × LD × LD) => match zz with | (k,c,es,es2) => (a.rs.length - k,⟨[zX 1 100 0,zX 2 101 0,zX 3 201 0,zI 4 (k : Int)],(match c with | 0 => [(100,y2 (S a.nm) a.ve (aC a.cs) (aA a.ss) (aB a.rs) a.st),(101,y4),(201,y6 (S a.nm) a.ve a.st),(300,y5 (([] : LD) ++ (aC a.cs))),(400,.arr 0 51 3 (([] : LD) ++ (aA a.ss))),(9001,.arr 0 66 4 es)] | 1 => [(100,y2 (S a.nm) a.ve (aC a.cs) (aA a.ss) (aB a.rs) a.st),(101,y4),(201,y6 (S a.nm) a.ve a.st),(300,y5 (([] : LD) ++ (aC a.cs))),(400,.arr 0 51 3 (([] : LD) ++ (aA a.ss))),(1000,.arr 0 3 1 es2),(9001,.arr 0 ⟨66,[(r * 4 + 3,.ar 1000 0)]⟩ 4 es)] | _ => [(100,y2 (S a.nm) a.ve (aC a.cs) (aA a.ss) (aB a.rs) a.st),(101,y4),(201,y6 (S a.nm) a.ve a.st),(300,y5 (([] : LD) ++ (aC a.cs))),(400,.arr 0 51 3 (([] : LD) ++ (aA a.ss))),(9001,.arr 0 ⟨66,[(r * 4 + 3,.ar 9002 0)]⟩ 4 es),(9002,.arr 0 3 1 es2)])⟩,k <= a.rs.length /\ ((c = 0 /\ k <= r) \/ (c = 1 /\ k = r + 1) \/ (c = 2 /\ r < k)) /\ es = lG a r k /\ (c = 0 \/ es2 = intsD (a.rs.getD r Rl.z).ar))) (0,0,[],[]) (aD (by intros; (try simp only [zq2,aC,aA,aB] at *); omega : (([] : LD).length + (aC a.cs).length) * (24 + 1) <= 140737488355328) (aG (by intros; (try simp only [zq2,aC,aA,aB] at *); omega : (([] : LD).length + (aA a.ss).length) * (32 + 1) <= 140737488355328))) ?_ ?_
 ·exact ⟨zl _,.inl ⟨rfl,zl _⟩,by simp [lG],.inl rfl⟩
 rintro ⟨k,c,es,es2⟩ ⟨hk,hcc,hes,hes2⟩
 have hlen : es.length = k := by rw [hes]; exact aKD a r k hk
 have hr9 := (bT hs k).ar
 have hc01 : c = 0 \/ c = 1 \/ c = 2 := by omega
 rcases hc01 with rfl | rfl | rfl
 ·skip
  refine zc hG [] [1,0] (decide ((k : Int) < ((aB a.rs).length : Int))) aE (fun hc2 => ?_) (fun hc2 => ?_)
  ·(try simp only [zq0,aC,aA,aB] at hc2)
   have hkc : k = r \/ k < r := by omega
   rcases hkc with hkr | hkr
   ·skip
    refine zD hG [(8,3,.elem (RlD ((a.rs).getD k Rl.z))),(10,3,.callG (.tup []) [77777] []),(10,4,.callG (.tup []) [77777,r * 4 + 3] [])] (k + 1,1,es ++ [RlF (a.rs.getD k Rl.z)],intsD (a.rs.getD k Rl.z).ar) (aD (by intros; exact aK _ (by omega) (by (try simp only [zq3,aC,aA,aB] at *); omega) : (0 : Int) <= (k : Int) /\ (aB a.rs)[k]? = some (RlD ((a.rs).getD k Rl.z))) (aD (by intros; (try simp only [zq2,aC,aA,aB] at *); omega : ((([] : LD)).length + (intsD (((a.rs).getD k Rl.z).ar)).length) * (8 + 1) <= 140737488355328) (aD (by intros; (try simp only [zq2,aC,aA,aB] at *); omega : (r * 4 + 3 : Nat) = es.length * 4 + 3 /\ (3 : Nat) < 4 /\ (r * 4 + 3 : Nat) < 4611686018427387904 /\ (es.length + 1) * (64 + 1) <= 140737488355328) (aG (by intros; (try simp only [zq2,aC,aA,aB] at *); omega : inR ((k : Int) + 1)))))) ?_ ?_
    ·(try dsimp only); omega
    ·first | exact ⟨by omega,by omega,by rw [hes]; exact wS hkr (by omega),.inr (by rw [hkr])⟩ | exact ⟨by omega,by omega,by rw [hes]; exact wR (by omega) (by omega),.inr (hes2.resolve_left (by decide))⟩
   ·skip
    refine zD hG [(8,3,.elem (RlD ((a.rs).getD k Rl.z))),(9,3,.elem [])] (k + 1,0,es ++ [RlD (a.rs.getD k Rl.z)],es2) (aD (by intros; exact aK _ (by omega) (by (try simp only [zq3,aC,aA,aB] at *); omega) : (0 : Int) <= (k : Int) /\ (aB a.rs)[k]? = some (RlD ((a.rs).getD k Rl.z))) (aD (by intros; (try simp only [zq2,aC,aA,aB] at *); omega : ((([] : LD)).length + (intsD (((a.rs).getD k Rl.z).ar)).length) * (8 + 1) <= 140737488355328) (aD (by intros; (try simp only [zq2,aC,aA,aB] at *); omega : (es.length + (([[.i (((a.rs).getD k Rl.z).h),.s (S ((a.rs).getD k Rl.z).op),.s (S ((a.rs).getD k Rl.z).pa),.sl 1 (([] : LD) ++ (intsD (((a.rs).getD k Rl.z).ar)))]] : LD)).length) * (64 + 1) <= 140737488355328) (aG (by intros; (try simp only [zq2,aC,aA,aB] at *); omega : inR ((k : Int) + 1)))))) ?_ ?_
    ·(try dsimp only); omega
    ·exact ⟨by omega,by omega,by rw [hes]; exact rlsK_lt (by omega) (by omega),.inl rfl⟩
  ·(try simp only [zq0,aC,aA,aB] at hc2)
   exfalso; omega
 ·skip
  refine zc hG [] [1,0] (decide ((k : Int) < ((aB a.rs).length : Int))) aE (fun hc3 => ?_) (fun hc3 => ?_)
  ·(try simp only [zq0,aC,aA,aB] at hc3)
   refine fP hG 1000 9002 (⟨[zX 1 100 0,zX 2 101 0,zX 3 201 0,zI 4 (k : Int)],[(100,y2 (S a.nm) a.ve (aC a.cs) (aA a.ss) (aB a.rs) a.st),(101,y4),(201,y6 (S a.nm) a.ve a.st),(300,y5 (([] : LD) ++ (aC a.cs))),(400,.arr 0 51 3 (([] : LD) ++ (aA a.ss))),(9002,.arr 0 3 1 es2),(9001,.arr 0 ⟨66,[(r * 4 + 3,.ar 9002 0)]⟩ 4 es)]⟩) (by kernel_rfl) ?_
   refine kZ hG (⟨[zX 1 100 0,zX 2 101 0,zX 3 201 0,zI 4 (k : Int)],[(100,y2 (S a.nm) a.ve (aC a.cs) (aA a.ss) (aB a.rs) a.st),(101,y4),(201,y6 (S a.nm) a.ve a.st),(300,y5 (([] : LD) ++ (aC a.cs))),(400,.arr 0 51 3 (([] : LD) ++ (aA a.ss))),(9001,.arr 0 ⟨66,[(r * 4 + 3,.ar 9002 0)]⟩ 4 es),(9002,.arr 0 3 1 es2)]⟩) (by kernel_rfl) ?_
   refine zD hG [(8,3,.elem (RlD ((a.rs).getD k Rl.z))),(9,3,.elem []),(10,4,.callG (.tup []) [77777] [])] (k + 1,2,es ++ [RlD (a.rs.getD k Rl.z)],es2) (aD (by intros; exact aK _ (by omega) (by (try simp only [zq3,aC,aA,aB] at *); omega) : (0 : Int) <= (k : Int) /\ (aB a.rs)[k]? = some (RlD ((a.rs).getD k Rl.z))) (aD (by intros; (try simp only [zq2,aC,aA,aB] at *); omega : ((([] : LD)).length + (intsD (((a.rs).getD k Rl.z).ar)).length) * (8 + 1) <= 140737488355328) (aD (by intros; (try simp only [zq2,aC,aA,aB] at *); omega : (r * 4 + 3 : Nat) < es.length * 4 /\ (r * 4 + 3 : Nat) < 4611686018427387904 /\ (es.length + (([[.i (((a.rs).getD k Rl.z).h),.s (S ((a.rs).getD k Rl.z).op),.s (S ((a.rs).getD k Rl.z).pa),.sl 1 (([] : LD) ++ (intsD (((a.rs).getD k Rl.z).ar)))]] : LD)).length) * (64 + 1) <= 140737488355328) (aG (by intros; (try simp only [zq2,aC,aA,aB] at *); omega : inR ((k : Int) + 1)))))) ?_ ?_
   ·(try dsimp only); omega
   ·first | exact ⟨by omega,by omega,by rw [hes]; exact wS hkr (by omega),.inr (by rw [hkr])⟩ | exact ⟨by omega,by omega,by rw [hes]; exact wR (by omega) (by omega),.inr (hes2.resolve_left (by decide))⟩
  ·(try simp only [zq0,aC,aA,aB] at hc3)
   refine zE hG [] (.exit 0) (⟨[zX 2 101 0,zX 3 201 0],[(101,y4),(201,y6 (S a.nm) a.ve a.st),(300,y5 (([] : LD) ++ (aC a.cs))),(400,.arr 0 51 3 (([] : LD) ++ (aA a.ss))),(1000,.arr 0 3 1 es2),(9001,.arr 0 ⟨66,[(r * 4 + 3,.ar 1000 0)]⟩ 4 es)]⟩) aE rfl ?_
   refine rD hG aH [] [300,77777,400,9001,1000] (y3 (S a.nm) a.ve a.st) [(100,y5 (([] : LD) ++ (aC a.cs))),(102,.arr 0 51 3 (([] : LD) ++ (aA a.ss))),(104,.arr 0 3 1 es2),(103,.arr 0 ⟨66,[(r * 4 + 3,.ar 104 0)]⟩ 4 es)] (by kernel_rfl) aE ?_ ?_
   ·rfl
   ·have e9 : es = cG a r := by rw [hes,show k = a.rs.length by omega]; exact aBQ a r
    rw [e9,hes2.resolve_left (by decide)]
    all_goals (first | rfl | (funext i; simp only [d9,upd]; ((repeat' split) <;> first | rfl | (exfalso; omega))))
 ·skip
  refine zc hG [] [1,0] (decide ((k : Int) < ((aB a.rs).length : Int))) aE (fun hc4 => ?_) (fun hc4 => ?_)
  ·(try simp only [zq0,aC,aA,aB] at hc4)
   refine zD hG [(8,3,.elem (RlD ((a.rs).getD k Rl.z))),(9,3,.elem []),(10,4,.callG (.tup []) [77777] [])] (k + 1,2,es ++ [RlD (a.rs.getD k Rl.z)],es2) (aD (by intros; exact aK _ (by omega) (by (try simp only [zq3,aC,aA,aB] at *); omega) : (0 : Int) <= (k : Int) /\ (aB a.rs)[k]? = some (RlD ((a.rs).getD k Rl.z))) (aD (by intros; (try simp only [zq2,aC,aA,aB] at *); omega : ((([] : LD)).length + (intsD (((a.rs).getD k Rl.z).ar)).length) * (8 + 1) <= 140737488355328) (aD (by intros; (try simp only [zq2,aC,aA,aB] at *); omega : (r * 4 + 3 : Nat) < es.length * 4 /\ (r * 4 + 3 : Nat) < 4611686018427387904 /\ (es.length + (([[.i (((a.rs).getD k Rl.z).h),.s (S ((a.rs).getD k Rl.z).op),.s (S ((a.rs).getD k Rl.z).pa),.sl 1 (([] : LD) ++ (intsD (((a.rs).getD k Rl.z).ar)))]] : LD)).length) * (64 + 1) <= 140737488355328) (aG (by intros; (try simp only [zq2,aC,aA,aB] at *); omega : inR ((k : Int) + 1)))))) ?_ ?_
   ·(try dsimp only); omega
   ·first | exact ⟨by omega,by omega,by rw [hes]; exact wS hkr (by omega),.inr (by rw [hkr])⟩ | exact ⟨by omega,by omega,by rw [hes]; exact wR (by omega) (by omega),.inr (hes2.resolve_left (by decide))⟩
  ·(try simp only [zq0,aC,aA,aB] at hc4)
   refine zE hG [] (.exit 0) (⟨[zX 2 101 0,zX 3 201 0],[(101,y4),(201,y6 (S a.nm) a.ve a.st),(300,y5 (([] : LD) ++ (aC a.cs))),(400,.arr 0 51 3 (([] : LD) ++ (aA a.ss))),(9001,.arr 0 ⟨66,[(r * 4 + 3,.ar 9002 0)]⟩ 4 es),(9002,.arr 0 3 1 es2)]⟩) aE rfl ?_
   refine rD hG aH [] [300,77777,400,9001,9002] (y3 (S a.nm) a.ve a.st) [(100,y5 (([] : LD) ++ (aC a.cs))),(102,.arr 0 51 3 (([] : LD) ++ (aA a.ss))),(103,.arr 0 ⟨66,[(r * 4 + 3,.ar 104 0)]⟩ 4 es),(104,.arr 0 3 1 es2)] (by kernel_rfl) aE ?_ ?_
   ·rfl
   ·have e9 : es = cG a r := by rw [hes,show k = a.rs.length by omega]; exact aBQ a r
    rw [e9,hes2.resolve_left (by decide)]
    all_goals (first | rfl | (funext i; simp only [d9,upd]; ((repeat' split) <;> first | rfl | (exfalso; omega))))
end
section
open Go.Eng (inR byteAt u8 dD)
variable {g : Gv}
def arB (x : List Int) (q0 q2 : Int) : List Int := if md1 q0 14 = 10 then x ++ [q2] else if x.length > 0 then x.set 0 q2 else x
abbrev y7 (a0 : Int) (a1 : Int) (a2 : Int) : Ob := .box 23 [cI a0,cI a1,cI a2]
abbrev y8 (a0 : ByteArray) (a1 : Int) (a2 : Int) : Ob := .box 30 [cS a0,cI a1,.ar 201 0,.ar 203 0,.ar 204 0,cI a2]
abbrev e1z (a0 : LD) (a1 : ByteArray) (a2 : Int) (a3 : Int) (a4 : LD) : bR := [(102,y4),(201,.arr 0 75 2 a0),(202,y8 a1 a2 a3),(203,.arr 0 51 3 a4)]
abbrev e2z : cO := [zX 3 101 0,zX 4 102 0,zX 5 202 0]
theorem aMW (a : Gr) (hs : a.small) (hs0 : 0 < a.ss.length) (hr0 : 0 < a.rs.length) (q0 q1 q2 : Int) (hm1 : md1 q0 14 ≠ 10) (hm2 : md1 q0 14 ≠ 12) :
  SpG g 12 [y1 (S a.nm) a.ve (aC a.cs) (aA a.ss) (aB a.rs) a.st,.agg [cI q0,cI q1,cI q2]] [] (.agg (grC (cX a q0 q1 q2))) [] := by
 have h0 := hs.nm
 have h1 := hs.cs
 have h2 := hs.ss
 have h3 := hs.rs
 have hls : (aA a.ss).length = a.ss.length := by simp [aA]
 have hlr : (aB a.rs).length = a.rs.length := by simp [aB]
 have b0 := fE q0 (n := 14) (by decide)
 have b1 := fE q1 (n := ((aA a.ss).length : Int)) (by omega)
 have b2 := fE q1 (n := ((aB a.rs).length : Int)) (by omega)
 have b3 := fE q2 (n := ((aA a.ss).length : Int)) (by omega)
 have b4 := fE q2 (n := 4) (by decide)
 have b5 := fE q1 (n := 4) (by decide)
 have b6 := fE q2 (n := 5) (by decide)
 have b7 := fE q2 (n := 6) (by decide)
 have t1 := kP (l := tbN) (b := 7) (by decide) (md1 q2 4).toNat
 have t2 := kP (l := tbP) (b := 7) (by decide) (md1 q2 5).toNat
 have l1 : tbN.length = 4 := rfl
 have l2 : tbC.length = 4 := rfl
 have l3 : tbO.length = 6 := rfl
 have l4 : tbP.length = 5 := rfl
 have tr := (bT hs (md1 q1 ((aB a.rs).length : Int)).toNat).pa
 refine aQ 244 Tryz.func12 fun fr hG => ?_
 refine zC hG [(1,1,.call (y3 (S a.nm) a.ve a.st) [(100,.arr 0 75 2 (aC a.cs)),(102,.arr 0 51 3 (aA a.ss)),(103,.arr 0 66 4 (aB a.rs))] [])] [1,0,1,1,1] (decide ((((aA a.ss).length : Int) : Int) > 0)) (⟨e2z ++ [zI 6 0],[(101,y7 q0 q1 q2)] ++ e1z (aC a.cs) (S a.nm) a.ve a.st (aA a.ss) ++ [(204,.arr 0 66 4 (aB a.rs))]⟩) (cS1 g (oI a hs)) (fun hc1 => ?_) (fun hc1 => ?_)
 (try simp only [zq0,aC,aA,aB] at hc1)
 refine zC hG [(4,5,kI (md1 q1 ((aA a.ss).length : Int)))] [1,0,1,1,1,1,1] (decide ((((aB a.rs).length : Int) : Int) > 0)) (⟨e2z ++ [zI 6 (md1 q1 ((aA a.ss).length : Int)),zI 7 0],[(101,y7 q0 q1 q2)] ++ e1z (aC a.cs) (S a.nm) a.ve a.st (aA a.ss) ++ [(204,.arr 0 66 4 (aB a.rs))]⟩) (cS1 g (fD q1 ((aA a.ss).length : Int) (by (try simp only [aC,aA,aB,lm]); omega) (by (try simp only [aC,aA,aB,lm]); omega))) (fun hc2 => ?_) (fun hc2 => ?_)
 (try simp only [zq0,aC,aA,aB] at hc2)
 refine zC hG [(7,5,kI (md1 q1 ((aB a.rs).length : Int))),(8,2,kI (md1 q0 14))] [1,0,1,0,1,1,1,1,1,1] (decide ((md1 q0 14 : Int) = 0)) (⟨e2z ++ [zI 6 (md1 q1 ((aA a.ss).length : Int)),zI 7 (md1 q1 ((aB a.rs).length : Int)),zI 32 (md1 q0 14)],[(101,y7 q0 q1 q2)] ++ e1z (aC a.cs) (S a.nm) a.ve a.st (aA a.ss) ++ [(204,.arr 0 66 4 (aB a.rs))]⟩) (cS2 g (fD q1 ((aB a.rs).length : Int) (by (try simp only [aC,aA,aB,lm]); omega) (by (try simp only [aC,aA,aB,lm]); omega)) (cS1 g (fD q0 14 (by (try simp only [aC,aA,aB,lm]); omega) (by (try simp only [aC,aA,aB,lm]); omega)))) (fun hc3 => ?_) (fun hc3 => ?_)
 (try simp only [zq0,aC,aA,aB] at hc3)
 have hk9 : (md1 q0 14).toNat = 0 := by omega
 refine zR hG [(10,5,kI (md1 q2 4)),(10,7,.elem (iA (tbN.getD (md1 q2 4 : Int).toNat [])))] [] (y1 ((S a.nm) ++ (S (tbN.getD (md1 q2 4 : Int).toNat []))) a.ve (aC a.cs) (aA a.ss) (aB a.rs) a.st) [] (cS2 g (fD q2 4 (by (try simp only [aC,aA,aB,lm]); omega) (by (try simp only [aC,aA,aB,lm]); omega)) (aD (by intros; (try simp only [zq2,aC,aA,aB] at *); omega : (0 : Int) <= (md1 q2 4) /\ (md1 q2 4) < ((strs tbN).length : Int)) (aD (by intros; exact bN [] (show _ < 4 by omega) : (strs tbN)[(md1 q2 4 : Int).toNat]? = some (iA (tbN.getD (md1 q2 4 : Int).toNat []))) (aG (by intros; (try simp only [zq2,aC,aA,aB] at *); omega : (S a.nm).size + (S (tbN.getD (md1 q2 4 : Int).toNat [])).size <= maxLen))))) ?_ ?_
 rw [show cX a q0 q1 q2 = { a with nm := a.nm ++ tbN.getD (md1 q2 4).toNat [] } by unfold cX; rw [hk9]; rfl]
 (try simp only [grC,aC,aA,aB,lm,List.map_set,List.map_append,mp1,List.map_nil,<- jI]) <;> rfl
 rfl
 (try simp only [zq0,aC,aA,aB] at hc3)
 refine zc hG [] [1,1,1,0,1,0,1,1,1,1,1,1] (decide ((md1 q0 14 : Int) = 1)) aE (fun hc4 => ?_) (fun hc4 => ?_)
 (try simp only [zq0,aC,aA,aB] at hc4)
 have hk9 : (md1 q0 14).toNat = 1 := by omega
 refine zR hG [] [] (y1 (S a.nm) q2 (aC a.cs) (aA a.ss) (aB a.rs) a.st) [] aE ?_ ?_
 rw [show cX a q0 q1 q2 = { a with ve := q2 } by unfold cX; rw [hk9]; rfl]
 (try simp only [grC,aC,aA,aB,lm,List.map_set,List.map_append,mp1,List.map_nil,<- jI]) <;> rfl
 rfl
 (try simp only [zq0,aC,aA,aB] at hc4)
 refine zc hG [] [1,1,1,1,1,0,1,0,1,1,1,1,1,1] (decide ((md1 q0 14 : Int) = 2)) aE (fun hc5 => ?_) (fun hc5 => ?_)
 (try simp only [zq0,aC,aA,aB] at hc5)
 have hk9 : (md1 q0 14).toNat = 2 := by omega
 refine zR hG [] [] (y1 (S a.nm) a.ve (aC a.cs) (aA a.ss) (aB a.rs) q2) [] aE ?_ ?_
 rw [show cX a q0 q1 q2 = { a with st := q2 } by unfold cX; rw [hk9]; rfl]
 (try simp only [grC,aC,aA,aB,lm,List.map_set,List.map_append,mp1,List.map_nil,<- jI]) <;> rfl
 rfl
 (try simp only [zq0,aC,aA,aB] at hc5)
 refine zc hG [] [1,1,1,1,1,1,1,0,1,0,1,1,1,1,1,1] (decide ((md1 q0 14 : Int) = 3)) aE (fun hc6 => ?_) (fun hc6 => ?_)
 (try simp only [zq0,aC,aA,aB] at hc6)
 have hk9 : (md1 q0 14).toNat = 3 := by omega
 refine zR hG [(16,5,kI (md1 q1 4)),(16,7,.elem (iA (tbC.getD (md1 q1 4 : Int).toNat [])))] [] (y1 (S a.nm) a.ve ((aC a.cs) ++ ([[.s (S (tbC.getD (md1 q1 4 : Int).toNat [])),.i q2]] : LD)) (aA a.ss) (aB a.rs) a.st) [] (cS2 g (fD q1 4 (by (try simp only [aC,aA,aB,lm]); omega) (by (try simp only [aC,aA,aB,lm]); omega)) (aD (by intros; (try simp only [zq2,aC,aA,aB] at *); omega : (0 : Int) <= (md1 q1 4) /\ (md1 q1 4) < ((strs tbC).length : Int)) (aD (by intros; exact bN [] (show _ < 4 by omega) : (strs tbC)[(md1 q1 4 : Int).toNat]? = some (iA (tbC.getD (md1 q1 4 : Int).toNat []))) (aG (by intros; (try simp only [zq2,aC,aA,aB] at *); omega : ((aC a.cs).length + ([[.s (S (tbC.getD (md1 q1 4 : Int).toNat [])),.i q2]] : LD).length) * (24 + 1) <= 140737488355328))))) ?_ ?_
 rw [show cX a q0 q1 q2 = { a with cs := a.cs ++ [⟨tbC.getD (md1 q1 4).toNat [],q2⟩] } by unfold cX; rw [hk9]; rfl]
 (try simp only [grC,aC,aA,aB,lm,List.map_set,List.map_append,mp1,List.map_nil,<- jI]) <;> rfl
 rfl
 (try simp only [zq0,aC,aA,aB] at hc6)
 refine zc hG [] [1,1,1,1,1,1,1,1,1,0,1,0,1,1,1,1,1,1] (decide ((md1 q0 14 : Int) = 4)) aE (fun hc7 => ?_) (fun hc7 => ?_)
 (try simp only [zq0,aC,aA,aB] at hc7)
 have hk9 : (md1 q0 14).toNat = 4 := by omega
 refine zC hG [] [1,0,1,1,1,1,1,1,1,1,1,0,1,0,1,1,1,1,1,1] (decide ((((aA a.ss).length : Int) : Int) > 0)) (⟨e2z ++ [zI 6 (md1 q1 ((aA a.ss).length : Int))],[(101,y7 q0 q1 q2)] ++ e1z (aC a.cs) (S a.nm) a.ve a.st (aA a.ss) ++ [(204,.arr 0 66 4 (aB a.rs))]⟩) aE (fun hc8 => ?_) (fun hc8 => ?_)
 (try simp only [zq0,aC,aA,aB] at hc8)
 refine zR hG [(19,7,.elem (SyD ((a.ss).getD (md1 q1 ((aA a.ss).length : Int) : Int).toNat Sy.z)))] [] (y1 (S a.nm) a.ve (aC a.cs) ((aA a.ss).set (md1 q1 ((aA a.ss).length : Int) : Int).toNat (aI (SyD ((a.ss).getD (md1 q1 ((aA a.ss).length : Int) : Int).toNat Sy.z)) 2 [.i q2])) (aB a.rs) a.st) [] (aD (by intros; (try simp only [zq2,aC,aA,aB] at *); omega : (0 : Int) <= (md1 q1 ((aA a.ss).length : Int)) /\ (md1 q1 ((aA a.ss).length : Int)) < ((aA a.ss).length : Int)) (aG (by intros; exact bN _ (by (try simp only [lm] at *); omega) : (aA a.ss)[(md1 q1 ((aA a.ss).length : Int) : Int).toNat]? = some (SyD ((a.ss).getD (md1 q1 ((aA a.ss).length : Int) : Int).toNat Sy.z))))) ?_ ?_
 rw [show cX a q0 q1 q2 = { a with ss := a.ss.set (md1 q1 (a.ss.length : Int)).toNat { (a.ss.getD (md1 q1 (a.ss.length : Int)).toNat Sy.z) with mx := q2 } } by unfold cX; rw [hk9]; rfl]
 (try simp only [grC,aC,aA,aB,lm,List.map_set,List.map_append,mp1,List.map_nil,<- jI]) <;> rfl
 rfl
 (try simp only [zq0,aC,aA,aB] at hc8)
 exfalso; omega
 (try simp only [zq0,aC,aA,aB] at hc7)
 refine zc hG [] [1,1,1,1,1,1,1,1,1,1,1,0,1,0,1,1,1,1,1,1] (decide ((md1 q0 14 : Int) = 5)) aE (fun hc9 => ?_) (fun hc9 => ?_)
 (try simp only [zq0,aC,aA,aB] at hc9)
 have hk9 : (md1 q0 14).toNat = 5 := by omega
 refine zC hG [] [1,0,1,1,1,1,1,1,1,1,1,1,1,0,1,0,1,1,1,1,1,1] (decide ((((aA a.ss).length : Int) : Int) > 0)) (⟨e2z ++ [zI 6 (md1 q1 ((aA a.ss).length : Int))],[(101,y7 q0 q1 q2)] ++ e1z (aC a.cs) (S a.nm) a.ve a.st (aA a.ss) ++ [(204,.arr 0 66 4 (aB a.rs))]⟩) aE (fun hc10 => ?_) (fun hc10 => ?_)
 (try simp only [zq0,aC,aA,aB] at hc10)
 refine zR hG [(22,7,.elem (SyD ((a.ss).getD (md1 q1 ((aA a.ss).length : Int) : Int).toNat Sy.z)))] [] (y1 (S a.nm) a.ve (aC a.cs) ((aA a.ss).set (md1 q1 ((aA a.ss).length : Int) : Int).toNat (aI (SyD ((a.ss).getD (md1 q1 ((aA a.ss).length : Int) : Int).toNat Sy.z)) 1 [.i q2])) (aB a.rs) a.st) [] (aD (by intros; (try simp only [zq2,aC,aA,aB] at *); omega : (0 : Int) <= (md1 q1 ((aA a.ss).length : Int)) /\ (md1 q1 ((aA a.ss).length : Int)) < ((aA a.ss).length : Int)) (aG (by intros; exact bN _ (by (try simp only [lm] at *); omega) : (aA a.ss)[(md1 q1 ((aA a.ss).length : Int) : Int).toNat]? = some (SyD ((a.ss).getD (md1 q1 ((aA a.ss).length : Int) : Int).toNat Sy.z))))) ?_ ?_
 rw [show cX a q0 q1 q2 = { a with ss := a.ss.set (md1 q1 (a.ss.length : Int)).toNat { (a.ss.getD (md1 q1 (a.ss.length : Int)).toNat Sy.z) with kd := q2 } } by unfold cX; rw [hk9]; rfl]
 (try simp only [grC,aC,aA,aB,lm,List.map_set,List.map_append,mp1,List.map_nil,<- jI]) <;> rfl
 rfl
 (try simp only [zq0,aC,aA,aB] at hc10)
 exfalso; omega
 (try simp only [zq0,aC,aA,aB] at hc9)
 refine zc hG [] [1,1,1,1,1,1,1,1,1,1,1,1,1,0,1,0,1,1,1,1,1,1] (decide ((md1 q0 14 : Int) = 6)) aE (fun hc11 => ?_) (fun hc11 => ?_)
 (try simp only [zq0,aC,aA,aB] at hc11)
 have hk9 : (md1 q0 14).toNat = 6 := by omega
 refine zC hG [] [1,0,1,1,1,1,1,1,1,1,1,1,1,1,1,0,1,0,1,1,1,1,1,1] (decide ((((aA a.ss).length : Int) : Int) > 0)) (⟨e2z ++ [zI 6 (md1 q1 ((aA a.ss).length : Int))],[(101,y7 q0 q1 q2)] ++ e1z (aC a.cs) (S a.nm) a.ve a.st (aA a.ss) ++ [(204,.arr 0 66 4 (aB a.rs))]⟩) aE (fun hc12 => ?_) (fun hc12 => ?_)
 (try simp only [zq0,aC,aA,aB] at hc12)
 refine zR hG [(25,10,kI (md1 q2 ((aA a.ss).length : Int))),(25,13,.elem (SyD ((a.ss).getD (md1 q2 ((aA a.ss).length : Int) : Int).toNat Sy.z))),(25,16,.elem (SyD ((a.ss).getD (md1 q1 ((aA a.ss).length : Int) : Int).toNat Sy.z)))] [] (y1 (S a.nm) a.ve (aC a.cs) ((aA a.ss).set (md1 q1 ((aA a.ss).length : Int) : Int).toNat (aI (SyD ((a.ss).getD (md1 q1 ((aA a.ss).length : Int) : Int).toNat Sy.z)) 0 [.s (S ((a.ss).getD (md1 q2 ((aA a.ss).length : Int) : Int).toNat Sy.z).nm)])) (aB a.rs) a.st) [] (cS2 g (fD q2 ((aA a.ss).length : Int) (by (try simp only [aC,aA,aB,lm]); omega) (by (try simp only [aC,aA,aB,lm]); omega)) (aD (by intros; (try simp only [zq2,aC,aA,aB] at *); omega : (0 : Int) <= (md1 q2 ((aA a.ss).length : Int)) /\ (md1 q2 ((aA a.ss).length : Int)) < ((aA a.ss).length : Int)) (aD (by intros; exact bN _ (by (try simp only [strs,rowD,aBP,aJQ,lm] at *); omega) : (aA a.ss)[(md1 q2 ((aA a.ss).length : Int) : Int).toNat]? = some (SyD ((a.ss).getD (md1 q2 ((aA a.ss).length : Int) : Int).toNat Sy.z))) (aD (by intros; (try simp only [zq2,aC,aA,aB] at *); omega : (0 : Int) <= (md1 q1 ((aA a.ss).length : Int)) /\ (md1 q1 ((aA a.ss).length : Int)) < ((aA a.ss).length : Int)) (aG (by intros; exact bN _ (by (try simp only [lm] at *); omega) : (aA a.ss)[(md1 q1 ((aA a.ss).length : Int) : Int).toNat]? = some (SyD ((a.ss).getD (md1 q1 ((aA a.ss).length : Int) : Int).toNat Sy.z)))))))) ?_ ?_
 rw [show cX a q0 q1 q2 = { a with ss := a.ss.set (md1 q1 (a.ss.length : Int)).toNat { (a.ss.getD (md1 q1 (a.ss.length : Int)).toNat Sy.z) with nm := (a.ss.getD (md1 q2 (a.ss.length : Int)).toNat Sy.z).nm } } by unfold cX; rw [hk9]; rfl]
 (try simp only [grC,aC,aA,aB,lm,List.map_set,List.map_append,mp1,List.map_nil,<- jI]) <;> rfl
 rfl
 (try simp only [zq0,aC,aA,aB] at hc12)
 exfalso; omega
 (try simp only [zq0,aC,aA,aB] at hc11)
 refine zC hG [] [1,1,1,1,1,1,1,1,1,1,1,1,1,1,1,0,1,0,1,1,1,1,1,1] (decide ((md1 q0 14 : Int) = 7)) (⟨e2z ++ [zI 7 (md1 q1 ((aB a.rs).length : Int)),zI 32 (md1 q0 14)],[(101,y7 q0 q1 q2)] ++ e1z (aC a.cs) (S a.nm) a.ve a.st (aA a.ss) ++ [(204,.arr 0 66 4 (aB a.rs))]⟩) aE (fun hc13 => ?_) (fun hc13 => ?_)
 (try simp only [zq0,aC,aA,aB] at hc13)
 have hk9 : (md1 q0 14).toNat = 7 := by omega
 refine zC hG [] [1,0,1,1,1,1,1,1,1,1,1,1,1,1,1,1,1,0,1,0,1,1,1,1,1,1] (decide ((((aB a.rs).length : Int) : Int) > 0)) (⟨e2z ++ [zI 7 (md1 q1 ((aB a.rs).length : Int))],[(101,y7 q0 q1 q2)] ++ e1z (aC a.cs) (S a.nm) a.ve a.st (aA a.ss) ++ [(204,.arr 0 66 4 (aB a.rs))]⟩) aE (fun hc14 => ?_) (fun hc14 => ?_)
 (try simp only [zq0,aC,aA,aB] at hc14)
 refine zR hG [(28,7,.elem (RlD ((a.rs).getD (md1 q1 ((aB a.rs).length : Int) : Int).toNat Rl.z)))] [] (y1 (S a.nm) a.ve (aC a.cs) (aA a.ss) ((aB a.rs).set (md1 q1 ((aB a.rs).length : Int) : Int).toNat (aI (RlD ((a.rs).getD (md1 q1 ((aB a.rs).length : Int) : Int).toNat Rl.z)) 0 [.i q2])) a.st) [] (aD (by intros; (try simp only [zq2,aC,aA,aB] at *); omega : (0 : Int) <= (md1 q1 ((aB a.rs).length : Int)) /\ (md1 q1 ((aB a.rs).length : Int)) < ((aB a.rs).length : Int)) (aG (by intros; exact bN _ (by (try simp only [lm] at *); omega) : (aB a.rs)[(md1 q1 ((aB a.rs).length : Int) : Int).toNat]? = some (RlD ((a.rs).getD (md1 q1 ((aB a.rs).length : Int) : Int).toNat Rl.z))))) ?_ ?_
 rw [show cX a q0 q1 q2 = { a with rs := a.rs.set (md1 q1 (a.rs.length : Int)).toNat { (a.rs.getD (md1 q1 (a.rs.length : Int)).toNat Rl.z) with h := q2 } } by unfold cX; rw [hk9]; rfl]
 (try simp only [grC,aC,aA,aB,lm,List.map_set,List.map_append,mp1,List.map_nil,<- jI]) <;> rfl
 rfl
 (try simp only [zq0,aC,aA,aB] at hc14)
 exfalso; omega
 (try simp only [zq0,aC,aA,aB] at hc13)
 refine zc hG [] [1,1,1,1,1,1,1,1,1,1,1,1,1,1,1,1,1,0,1,0,1,1,1,1,1,1] (decide ((md1 q0 14 : Int) = 8)) aE (fun hc15 => ?_) (fun hc15 => ?_)
 (try simp only [zq0,aC,aA,aB] at hc15)
 have hk9 : (md1 q0 14).toNat = 8 := by omega
 refine zC hG [] [1,0,1,1,1,1,1,1,1,1,1,1,1,1,1,1,1,1,1,0,1,0,1,1,1,1,1,1] (decide ((((aB a.rs).length : Int) : Int) > 0)) (⟨e2z ++ [zI 7 (md1 q1 ((aB a.rs).length : Int))],[(101,y7 q0 q1 q2)] ++ e1z (aC a.cs) (S a.nm) a.ve a.st (aA a.ss) ++ [(204,.arr 0 66 4 (aB a.rs))]⟩) aE (fun hc16 => ?_) (fun hc16 => ?_)
 (try simp only [zq0,aC,aA,aB] at hc16)
 refine zR hG [(31,6,kI (md1 q2 6)),(31,8,.elem (iA (tbO.getD (md1 q2 6 : Int).toNat []))),(31,11,.elem (RlD ((a.rs).getD (md1 q1 ((aB a.rs).length : Int) : Int).toNat Rl.z)))] [] (y1 (S a.nm) a.ve (aC a.cs) (aA a.ss) ((aB a.rs).set (md1 q1 ((aB a.rs).length : Int) : Int).toNat (aI (RlD ((a.rs).getD (md1 q1 ((aB a.rs).length : Int) : Int).toNat Rl.z)) 1 [.s (S (tbO.getD (md1 q2 6 : Int).toNat []))])) a.st) [] (cS2 g (fD q2 6 (by (try simp only [aC,aA,aB,lm]); omega) (by (try simp only [aC,aA,aB,lm]); omega)) (aD (by intros; (try simp only [zq2,aC,aA,aB] at *); omega : (0 : Int) <= (md1 q2 6) /\ (md1 q2 6) < ((strs tbO).length : Int)) (aD (by intros; exact bN [] (show _ < 6 by omega) : (strs tbO)[(md1 q2 6 : Int).toNat]? = some (iA (tbO.getD (md1 q2 6 : Int).toNat []))) (aD (by intros; (try simp only [zq2,aC,aA,aB] at *); omega : (0 : Int) <= (md1 q1 ((aB a.rs).length : Int)) /\ (md1 q1 ((aB a.rs).length : Int)) < ((aB a.rs).length : Int)) (aG (by intros; exact bN _ (by (try simp only [lm] at *); omega) : (aB a.rs)[(md1 q1 ((aB a.rs).length : Int) : Int).toNat]? = some (RlD ((a.rs).getD (md1 q1 ((aB a.rs).length : Int) : Int).toNat Rl.z)))))))) ?_ ?_
 rw [show cX a q0 q1 q2 = { a with rs := a.rs.set (md1 q1 (a.rs.length : Int)).toNat { (a.rs.getD (md1 q1 (a.rs.length : Int)).toNat Rl.z) with op := tbO.getD (md1 q2 6).toNat [] } } by unfold cX; rw [hk9]; rfl]
 (try simp only [grC,aC,aA,aB,lm,List.map_set,List.map_append,mp1,List.map_nil,<- jI]) <;> rfl
 rfl
 (try simp only [zq0,aC,aA,aB] at hc16)
 exfalso; omega
 (try simp only [zq0,aC,aA,aB] at hc15)
 refine zc hG [] [1,1,1,1,1,1,1,1,1,1,1,1,1,1,1,1,1,1,1,0,1,0,1,1,1,1,1,1] (decide ((md1 q0 14 : Int) = 9)) aE (fun hc17 => ?_) (fun hc17 => ?_)
 (try simp only [zq0,aC,aA,aB] at hc17)
 have hk9 : (md1 q0 14).toNat = 9 := by omega
 refine zC hG [] [1,0,1,1,1,1,1,1,1,1,1,1,1,1,1,1,1,1,1,1,1,0,1,0,1,1,1,1,1,1] (decide ((((aB a.rs).length : Int) : Int) > 0)) (⟨e2z ++ [zI 7 (md1 q1 ((aB a.rs).length : Int))],[(101,y7 q0 q1 q2)] ++ e1z (aC a.cs) (S a.nm) a.ve a.st (aA a.ss) ++ [(204,.arr 0 66 4 (aB a.rs))]⟩) aE (fun hc18 => ?_) (fun hc18 => ?_)
 (try simp only [zq0,aC,aA,aB] at hc18)
 refine zR hG [(34,8,.elem (RlD ((a.rs).getD (md1 q1 ((aB a.rs).length : Int) : Int).toNat Rl.z))),(34,12,kI (md1 q2 5)),(34,14,.elem (iA (tbP.getD (md1 q2 5 : Int).toNat []))),(34,18,.elem (RlD ((a.rs).getD (md1 q1 ((aB a.rs).length : Int) : Int).toNat Rl.z)))] [] (y1 (S a.nm) a.ve (aC a.cs) (aA a.ss) ((aB a.rs).set (md1 q1 ((aB a.rs).length : Int) : Int).toNat (aI (RlD ((a.rs).getD (md1 q1 ((aB a.rs).length : Int) : Int).toNat Rl.z)) 2 [.s ((S ((a.rs).getD (md1 q1 ((aB a.rs).length : Int) : Int).toNat Rl.z).pa) ++ (S (tbP.getD (md1 q2 5 : Int).toNat [])))])) a.st) [] (aD (by intros; (try simp only [zq2,aC,aA,aB] at *); omega : (0 : Int) <= (md1 q1 ((aB a.rs).length : Int)) /\ (md1 q1 ((aB a.rs).length : Int)) < ((aB a.rs).length : Int)) (aD (by intros; exact bN _ (by (try simp only [strs,rowD,aBP,aJQ,lm] at *); omega) : (aB a.rs)[(md1 q1 ((aB a.rs).length : Int) : Int).toNat]? = some (RlD ((a.rs).getD (md1 q1 ((aB a.rs).length : Int) : Int).toNat Rl.z))) (cS2 g (fD q2 5 (by (try simp only [aC,aA,aB,lm]); omega) (by (try simp only [aC,aA,aB,lm]); omega)) (aD (by intros; (try simp only [zq2,aC,aA,aB] at *); omega : (0 : Int) <= (md1 q2 5) /\ (md1 q2 5) < ((strs tbP).length : Int)) (aD (by intros; exact bN [] (show _ < 5 by omega) : (strs tbP)[(md1 q2 5 : Int).toNat]? = some (iA (tbP.getD (md1 q2 5 : Int).toNat []))) (aD (by intros; (try simp only [zq2,aC,aA,aB] at *); omega : (S ((a.rs).getD (md1 q1 ((aB a.rs).length : Int) : Int).toNat Rl.z).pa).size + (S (tbP.getD (md1 q2 5 : Int).toNat [])).size <= maxLen) (aD (by intros; (try simp only [zq2,aC,aA,aB] at *); omega : (0 : Int) <= (md1 q1 ((aB a.rs).length : Int)) /\ (md1 q1 ((aB a.rs).length : Int)) < ((aB a.rs).length : Int)) (aG (by intros; exact bN _ (by (try simp only [lm] at *); omega) : (aB a.rs)[(md1 q1 ((aB a.rs).length : Int) : Int).toNat]? = some (RlD ((a.rs).getD (md1 q1 ((aB a.rs).length : Int) : Int).toNat Rl.z))))))))))) ?_ ?_
 rw [show cX a q0 q1 q2 = { a with rs := a.rs.set (md1 q1 (a.rs.length : Int)).toNat { (a.rs.getD (md1 q1 (a.rs.length : Int)).toNat Rl.z) with pa := (a.rs.getD (md1 q1 (a.rs.length : Int)).toNat Rl.z).pa ++ tbP.getD (md1 q2 5).toNat [] } } by unfold cX; rw [hk9]; rfl]
 (try simp only [grC,aC,aA,aB,lm,List.map_set,List.map_append,mp1,List.map_nil,<- jI]) <;> rfl
 rfl
 (try simp only [zq0,aC,aA,aB] at hc18)
 exfalso; omega
 (try simp only [zq0,aC,aA,aB] at hc17)
 refine zc hG [] [1,1,1,1,1,1,1,1,1,1,1,1,1,1,1,1,1,1,1,1,1,0,1,0,1,1,1,1,1,1] (decide ((md1 q0 14 : Int) = 10)) aE (fun hc19 => ?_) (fun hc19 => ?_)
 (try simp only [zq0,aC,aA,aB] at hc19)
 exfalso; omega
 (try simp only [zq0,aC,aA,aB] at hc19)
 refine zc hG [] [1,1,1,1,1,1,1,1,1,1,1,1,1,1,1,1,1,1,1,1,1,1,1,0,1,0,1,1,1,1,1,1] (decide ((md1 q0 14 : Int) = 11)) aE (fun hc20 => ?_) (fun hc20 => ?_)
 (try simp only [zq0,aC,aA,aB] at hc20)
 have hk9 : (md1 q0 14).toNat = 11 := by omega
 refine zC hG [] [1,0,1,1,1,1,1,1,1,1,1,1,1,1,1,1,1,1,1,1,1,1,1,1,1,0,1,0,1,1,1,1,1,1] (decide ((((aB a.rs).length : Int) : Int) > 0)) (⟨[zX 4 102 0,zX 5 202 0,zI 7 (md1 q1 ((aB a.rs).length : Int))],e1z (aC a.cs) (S a.nm) a.ve a.st (aA a.ss) ++ [(204,.arr 0 66 4 (aB a.rs))]⟩) aE (fun hc21 => ?_) (fun hc21 => ?_)
 (try simp only [zq0,aC,aA,aB] at hc21)
 refine zR hG [(40,6,.elem (RlD ((a.rs).getD (md1 q1 ((aB a.rs).length : Int) : Int).toNat Rl.z)))] [] (y1 (S a.nm) a.ve (aC a.cs) (aA a.ss) ((aB a.rs) ++ ([[.i (((a.rs).getD (md1 q1 ((aB a.rs).length : Int) : Int).toNat Rl.z).h),.s (S ((a.rs).getD (md1 q1 ((aB a.rs).length : Int) : Int).toNat Rl.z).op),.s (S ((a.rs).getD (md1 q1 ((aB a.rs).length : Int) : Int).toNat Rl.z).pa),.sl 1 (intsD (((a.rs).getD (md1 q1 ((aB a.rs).length : Int) : Int).toNat Rl.z).ar))]] : LD)) a.st) [] (aD (by intros; (try simp only [zq2,aC,aA,aB] at *); omega : (0 : Int) <= (md1 q1 ((aB a.rs).length : Int)) /\ (md1 q1 ((aB a.rs).length : Int)) < ((aB a.rs).length : Int)) (aD (by intros; exact bN _ (by (try simp only [strs,rowD,aBP,aJQ,lm] at *); omega) : (aB a.rs)[(md1 q1 ((aB a.rs).length : Int) : Int).toNat]? = some (RlD ((a.rs).getD (md1 q1 ((aB a.rs).length : Int) : Int).toNat Rl.z))) (aG (by intros; (try simp only [zq2,aC,aA,aB] at *); omega : ((aB a.rs).length + ([[.i (((a.rs).getD (md1 q1 ((aB a.rs).length : Int) : Int).toNat Rl.z).h),.s (S ((a.rs).getD (md1 q1 ((aB a.rs).length : Int) : Int).toNat Rl.z).op),.s (S ((a.rs).getD (md1 q1 ((aB a.rs).length : Int) : Int).toNat Rl.z).pa),.sl 1 (intsD (((a.rs).getD (md1 q1 ((aB a.rs).length : Int) : Int).toNat Rl.z).ar))]] : LD).length) * (64 + 1) <= 140737488355328)))) ?_ ?_
 rw [show cX a q0 q1 q2 = { a with rs := a.rs ++ [(a.rs.getD (md1 q1 (a.rs.length : Int)).toNat Rl.z)] } by unfold cX; rw [hk9]; rfl]
 (try simp only [grC,aC,aA,aB,lm,List.map_set,List.map_append,mp1,List.map_nil,<- jI]) <;> rfl
 rfl
 (try simp only [zq0,aC,aA,aB] at hc21)
 exfalso; omega
 (try simp only [zq0,aC,aA,aB] at hc20)
 refine zc hG [] [1,1,1,1,1,1,1,1,1,1,1,1,1,1,1,1,1,1,1,1,1,1,1,1,1,0,1,0,1,1,1,1,1,1] (decide ((md1 q0 14 : Int) = 12)) aE (fun hc22 => ?_) (fun hc22 => ?_)
 (try simp only [zq0,aC,aA,aB] at hc22)
 exfalso; omega
 (try simp only [zq0,aC,aA,aB] at hc22)
 refine zC hG [] [1,1,1,1,1,1,1,1,1,1,1,1,1,1,1,1,1,1,1,1,1,1,1,1,1,1,1,0,1,0,1,1,1,1,1,1] (decide ((md1 q0 14 : Int) = 13)) (⟨[zX 4 102 0,zX 5 202 0],e1z (aC a.cs) (S a.nm) a.ve a.st (aA a.ss) ++ [(204,.arr 0 66 4 (aB a.rs))]⟩) aE (fun hc23 => ?_) (fun hc23 => ?_)
 (try simp only [zq0,aC,aA,aB] at hc23)
 have hk9 : (md1 q0 14).toNat = 13 := by omega
 refine zR hG [] [] (y1 (S a.nm) a.ve (aC a.cs) ((aA a.ss) ++ ([[.s (S [90]),.i 1,.i 2]] : LD)) (aB a.rs) a.st) [] (aG (by intros; (try simp only [zq2,aC,aA,aB] at *); omega : ((aA a.ss).length + ([[.s (S [90]),.i 1,.i 2]] : LD).length) * (32 + 1) <= 140737488355328)) ?_ ?_
 rw [show cX a q0 q1 q2 = { a with ss := a.ss ++ [⟨[90],1,2⟩] } by unfold cX; rw [hk9]; rfl]
 (try simp only [grC,aC,aA,aB,lm,List.map_set,List.map_append,mp1,List.map_nil,<- jI]) <;> rfl
 rfl
 (try simp only [zq0,aC,aA,aB] at hc23)
 exfalso; omega
 (try simp only [zq0,aC,aA,aB] at hc2)
 exfalso; omega
 (try simp only [zq0,aC,aA,aB] at hc1)
 exfalso; omega
theorem aJG (a : Gr) (hs : a.small) (hs0 : 0 < a.ss.length) (hr0 : 0 < a.rs.length) (q0 q1 q2 : Int) (r : Nat) (hrr : (md1 q1 (a.rs.length : Int)).toNat = r) (hm : md1 q0 14 = 10 \/ md1 q0 14 = 12) :
  SpG g 12 [y1 (S a.nm) a.ve (aC a.cs) (aA a.ss) (aB a.rs) a.st,.agg [cI q0,cI q1,cI q2]] [] (y3 (S a.nm) a.ve a.st) [(100,.arr 0 75 2 (aC a.cs)),(102,.arr 0 51 3 (aA a.ss)),(103,.arr 0 ⟨66,[(r * 4 + 3,.ar 104 0)]⟩ 4 (cG a r)),(104,.arr 0 3 1 (intsD (arB (a.rs.getD r Rl.z).ar q0 q2)))] := by
 have h0 := hs.nm
 have h1 := hs.cs
 have h2 := hs.ss
 have h3 := hs.rs
 have hlf : (cG a r).length = a.rs.length := by simp [cG,aB]
 have b0 := fE q0 (n := 14) (by decide)
 have b2 := fE q1 (n := ((cG a r).length : Int)) (by omega)
 have hr9 : (md1 q1 ((cG a r).length : Int)).toNat = r := by rw [hlf]; exact hrr
 have hr : r < a.rs.length := by omega
 have tr := (bT hs r).ar
 refine aQ 244 Tryz.func12 fun fr hG => ?_
 refine zC hG [(1,1,.call (y3 (S a.nm) a.ve a.st) [(100,.arr 0 75 2 (aC a.cs)),(102,.arr 0 51 3 (aA a.ss)),(103,.arr 0 ⟨66,[(r * 4 + 3,.ar 104 0)]⟩ 4 (cG a r)),(104,.arr 0 3 1 (intsD ((a.rs.getD r Rl.z).ar)))] [])] [1,0,1,1,1] (decide ((((aA a.ss).length : Int) : Int) > 0)) (⟨e2z ++ [zI 6 0],[(101,y7 q0 q1 q2)] ++ e1z (aC a.cs) (S a.nm) a.ve a.st (aA a.ss) ++ [(204,.arr 0 ⟨66,[(r * 4 + 3,.ar 205 0)]⟩ 4 (cG a r)),(205,.arr 0 3 1 (intsD ((a.rs.getD r Rl.z).ar)))]⟩) (cS1 g (aMG a hs r hr)) (fun hc1 => ?_) (fun hc1 => ?_)
 ·(try simp only [zq0,aC,aA,aB] at hc1)
  refine zC hG [(4,5,kI (md1 q1 ((aA a.ss).length : Int)))] [1,0,1,1,1,1,1] (decide ((((cG a r).length : Int) : Int) > 0)) (⟨e2z ++ [zI 6 (md1 q1 ((aA a.ss).length : Int)),zI 7 0],[(101,y7 q0 q1 q2)] ++ e1z (aC a.cs) (S a.nm) a.ve a.st (aA a.ss) ++ [(204,.arr 0 ⟨66,[(r * 4 + 3,.ar 205 0)]⟩ 4 (cG a r)),(205,.arr 0 3 1 (intsD ((a.rs.getD r Rl.z).ar)))]⟩) (cS1 g (fD q1 ((aA a.ss).length : Int) (by (try simp only [aC,aA,aB,lm]); omega) (by (try simp only [aC,aA,aB,lm]); omega))) (fun hc2 => ?_) (fun hc2 => ?_)
  ·(try simp only [zq0,aC,aA,aB] at hc2)
   refine zC hG [(7,5,kI (md1 q1 ((cG a r).length : Int))),(8,2,kI (md1 q0 14))] [1,0,1,0,1,1,1,1,1,1] (decide ((md1 q0 14 : Int) = 0)) (⟨e2z ++ [zI 6 (md1 q1 ((aA a.ss).length : Int)),zI 7 (md1 q1 ((cG a r).length : Int)),zI 32 (md1 q0 14)],[(101,y7 q0 q1 q2)] ++ e1z (aC a.cs) (S a.nm) a.ve a.st (aA a.ss) ++ [(204,.arr 0 ⟨66,[(r * 4 + 3,.ar 205 0)]⟩ 4 (cG a r)),(205,.arr 0 3 1 (intsD ((a.rs.getD r Rl.z).ar)))]⟩) (cS2 g (fD q1 ((cG a r).length : Int) (by (try simp only [aC,aA,aB,lm]); omega) (by (try simp only [aC,aA,aB,lm]); omega)) (cS1 g (fD q0 14 (by (try simp only [aC,aA,aB,lm]); omega) (by (try simp only [aC,aA,aB,lm]); omega)))) (fun hc3 => ?_) (fun hc3 => ?_)
   ·(try simp only [zq0,aC,aA,aB] at hc3)
    exfalso; omega
   ·(try simp only [zq0,aC,aA,aB] at hc3)
    refine zc hG [] [1,1,1,0,1,0,1,1,1,1,1,1] (decide ((md1 q0 14 : Int) = 1)) aE (fun hc4 => ?_) (fun hc4 => ?_)
    ·(try simp only [zq0,aC,aA,aB] at hc4)
     exfalso; omega
    ·(try simp only [zq0,aC,aA,aB] at hc4)
     refine zc hG [] [1,1,1,1,1,0,1,0,1,1,1,1,1,1] (decide ((md1 q0 14 : Int) = 2)) aE (fun hc5 => ?_) (fun hc5 => ?_)
     ·(try simp only [zq0,aC,aA,aB] at hc5)
      exfalso; omega
     ·(try simp only [zq0,aC,aA,aB] at hc5)
      refine zc hG [] [1,1,1,1,1,1,1,0,1,0,1,1,1,1,1,1] (decide ((md1 q0 14 : Int) = 3)) aE (fun hc6 => ?_) (fun hc6 => ?_)
      ·(try simp only [zq0,aC,aA,aB] at hc6)
       exfalso; omega
      ·(try simp only [zq0,aC,aA,aB] at hc6)
       refine zc hG [] [1,1,1,1,1,1,1,1,1,0,1,0,1,1,1,1,1,1] (decide ((md1 q0 14 : Int) = 4)) aE (fun hc7 => ?_) (fun hc7 => ?_)
       ·(try simp only [zq0,aC,aA,aB] at hc7)
        exfalso; omega
       ·(try simp only [zq0,aC,aA,aB] at hc7)
        refine zc hG [] [1,1,1,1,1,1,1,1,1,1,1,0,1,0,1,1,1,1,1,1] (decide ((md1 q0 14 : Int) = 5)) aE (fun hc8 => ?_) (fun hc8 => ?_)
        ·(try simp only [zq0,aC,aA,aB] at hc8)
         exfalso; omega
        ·(try simp only [zq0,aC,aA,aB] at hc8)
         refine zc hG [] [1,1,1,1,1,1,1,1,1,1,1,1,1,0,1,0,1,1,1,1,1,1] (decide ((md1 q0 14 : Int) = 6)) aE (fun hc9 => ?_) (fun hc9 => ?_)
         ·(try simp only [zq0,aC,aA,aB] at hc9)
          exfalso; omega
         ·(try simp only [zq0,aC,aA,aB] at hc9)
          refine zC hG [] [1,1,1,1,1,1,1,1,1,1,1,1,1,1,1,0,1,0,1,1,1,1,1,1] (decide ((md1 q0 14 : Int) = 7)) (⟨e2z ++ [zI 7 (md1 q1 ((cG a r).length : Int)),zI 32 (md1 q0 14)],[(101,y7 q0 q1 q2)] ++ e1z (aC a.cs) (S a.nm) a.ve a.st (aA a.ss) ++ [(204,.arr 0 ⟨66,[(r * 4 + 3,.ar 205 0)]⟩ 4 (cG a r)),(205,.arr 0 3 1 (intsD ((a.rs.getD r Rl.z).ar)))]⟩) aE (fun hc10 => ?_) (fun hc10 => ?_)
          ·(try simp only [zq0,aC,aA,aB] at hc10)
           exfalso; omega
          ·(try simp only [zq0,aC,aA,aB] at hc10)
           refine zc hG [] [1,1,1,1,1,1,1,1,1,1,1,1,1,1,1,1,1,0,1,0,1,1,1,1,1,1] (decide ((md1 q0 14 : Int) = 8)) aE (fun hc11 => ?_) (fun hc11 => ?_)
           ·(try simp only [zq0,aC,aA,aB] at hc11)
            exfalso; omega
           ·(try simp only [zq0,aC,aA,aB] at hc11)
            refine zc hG [] [1,1,1,1,1,1,1,1,1,1,1,1,1,1,1,1,1,1,1,0,1,0,1,1,1,1,1,1] (decide ((md1 q0 14 : Int) = 9)) aE (fun hc12 => ?_) (fun hc12 => ?_)
            ·(try simp only [zq0,aC,aA,aB] at hc12)
             exfalso; omega
            ·(try simp only [zq0,aC,aA,aB] at hc12)
             refine zc hG [] [1,1,1,1,1,1,1,1,1,1,1,1,1,1,1,1,1,1,1,1,1,0,1,0,1,1,1,1,1,1] (decide ((md1 q0 14 : Int) = 10)) aE (fun hc13 => ?_) (fun hc13 => ?_)
             ·(try simp only [zq0,aC,aA,aB] at hc13)
              have hk9 : (md1 q0 14).toNat = 10 := by omega
              refine zC hG [] [1,0,1,1,1,1,1,1,1,1,1,1,1,1,1,1,1,1,1,1,1,1,1,0,1,0,1,1,1,1,1,1] (decide ((((cG a r).length : Int) : Int) > 0)) (⟨e2z ++ [zI 7 (md1 q1 ((cG a r).length : Int))],[(101,y7 q0 q1 q2)] ++ e1z (aC a.cs) (S a.nm) a.ve a.st (aA a.ss) ++ [(204,.arr 0 ⟨66,[(r * 4 + 3,.ar 205 0)]⟩ 4 (cG a r)),(205,.arr 0 3 1 (intsD ((a.rs.getD r Rl.z).ar)))]⟩) aE (fun hc14 => ?_) (fun hc14 => ?_)
              ·(try simp only [zq0,aC,aA,aB] at hc14)
               refine rD hG aH [(37,8,.callG (.tup []) [77777] []),(37,15,.callG (.tup []) [77777] [])] [201,77777,203,204,205] (y3 (S a.nm) a.ve a.st) [(103,.arr 0 ⟨66,[(r * 4 + 3,.ar 104 0)]⟩ 4 (cG a r)),(104,.arr 0 3 1 ((intsD ((a.rs.getD r Rl.z).ar)) ++ ([[.i q2]] : LD))),(100,.arr 0 75 2 (aC a.cs)),(102,.arr 0 51 3 (aA a.ss))] (by kernel_rfl) (aD (by intros; (try simp only [zq2,aC,aA,aB] at *); omega : (0 : Int) <= (md1 q1 ((cG a r).length : Int)) /\ (md1 q1 ((cG a r).length : Int)) < ((cG a r).length : Int)) (aD (by intros; (try simp only [zq2,aC,aA,aB] at *); omega : (r * 4 + 3 : Nat) = ((md1 q1 ((cG a r).length : Int) : Int).toNat) * 4 + 3 /\ (3 : Nat) < 4) (aD (by intros; (try simp only [zq2,aC,aA,aB] at *); omega : ((intsD ((a.rs.getD r Rl.z).ar)).length + ([[.i q2]] : LD).length) * (8 + 1) <= 140737488355328) (aD (by intros; (try simp only [zq2,aC,aA,aB] at *); omega : (0 : Int) <= (md1 q1 ((cG a r).length : Int)) /\ (md1 q1 ((cG a r).length : Int)) < ((cG a r).length : Int)) (aG (by intros; (try simp only [zq2,aC,aA,aB] at *); omega : (r * 4 + 3 : Nat) = ((md1 q1 ((cG a r).length : Int) : Int).toNat) * 4 + 3 /\ (3 : Nat) < 4 /\ (r * 4 + 3 : Nat) < 4611686018427387904)))))) ?_ ?_
               ·rfl
               ·rw [show arB (a.rs.getD r Rl.z).ar q0 q2 = (a.rs.getD r Rl.z).ar ++ [q2] by unfold arB; rw [if_pos (by omega)]]
                rw [show intsD ((a.rs.getD r Rl.z).ar ++ [q2]) = intsD (a.rs.getD r Rl.z).ar ++ [[.i q2]] by simp only [intsD,List.map_append,mp1,List.map_nil]; rfl]
                all_goals (first | rfl | (funext i; simp only [d9,upd]; ((repeat' split) <;> first | rfl | (exfalso; omega))))
              ·(try simp only [zq0,aC,aA,aB] at hc14)
               exfalso; omega
             ·(try simp only [zq0,aC,aA,aB] at hc13)
              refine zc hG [] [1,1,1,1,1,1,1,1,1,1,1,1,1,1,1,1,1,1,1,1,1,1,1,0,1,0,1,1,1,1,1,1] (decide ((md1 q0 14 : Int) = 11)) aE (fun hc15 => ?_) (fun hc15 => ?_)
              ·(try simp only [zq0,aC,aA,aB] at hc15)
               exfalso; omega
              ·(try simp only [zq0,aC,aA,aB] at hc15)
               refine zc hG [] [1,1,1,1,1,1,1,1,1,1,1,1,1,1,1,1,1,1,1,1,1,1,1,1,1,0,1,0,1,1,1,1,1,1] (decide ((md1 q0 14 : Int) = 12)) aE (fun hc16 => ?_) (fun hc16 => ?_)
               ·(try simp only [zq0,aC,aA,aB] at hc16)
                have hk9 : (md1 q0 14).toNat = 12 := by omega
                refine zC hG [(42,10,.callG (.tup []) [77777] [])] [1,0,1,1,1,1,1,1,1,1,1,1,1,1,1,1,1,1,1,1,1,1,1,1,1,1,1,0,1,0,1,1,1,1,1,1] ((decide ((((cG a r).length : Int) : Int) > 0)) && (decide ((((intsD ((a.rs.getD r Rl.z).ar)).length : Int) : Int) > 0))) (⟨e2z ++ [zI 7 (md1 q1 ((cG a r).length : Int))],[(101,y7 q0 q1 q2)] ++ e1z (aC a.cs) (S a.nm) a.ve a.st (aA a.ss) ++ [(204,.arr 0 ⟨66,[(r * 4 + 3,.ar 205 0)]⟩ 4 (cG a r)),(205,.arr 0 3 1 (intsD ((a.rs.getD r Rl.z).ar)))]⟩) (aD (by intros; (try simp only [zq2,aC,aA,aB] at *); omega : (decide ((((cG a r).length : Int) : Int) > 0)) = true -> (0 : Int) <= (md1 q1 ((cG a r).length : Int)) /\ (md1 q1 ((cG a r).length : Int)) < ((cG a r).length : Int)) (aG (by intros; (try simp only [zq2,aC,aA,aB] at *); omega : (decide ((((cG a r).length : Int) : Int) > 0)) = true -> (r * 4 + 3 : Nat) = ((md1 q1 ((cG a r).length : Int) : Int).toNat) * 4 + 3 /\ (3 : Nat) < 4))) (fun hc17 => ?_) (fun hc17 => ?_)
                ·(try simp only [zq0,aC,aA,aB] at hc17)
                 refine rD hG aH [(43,5,.callG (.tup []) [77777] [])] [201,77777,203,204,205] (y3 (S a.nm) a.ve a.st) [(104,.arr 0 3 1 ((intsD ((a.rs.getD r Rl.z).ar)).set 0 [.i q2])),(100,.arr 0 75 2 (aC a.cs)),(102,.arr 0 51 3 (aA a.ss)),(103,.arr 0 ⟨66,[(r * 4 + 3,.ar 104 0)]⟩ 4 (cG a r))] (by kernel_rfl) (aD (by intros; (try simp only [zq2,aC,aA,aB] at *); omega : (0 : Int) <= (md1 q1 ((cG a r).length : Int)) /\ (md1 q1 ((cG a r).length : Int)) < ((cG a r).length : Int)) (aD (by intros; (try simp only [zq2,aC,aA,aB] at *); omega : (r * 4 + 3 : Nat) = ((md1 q1 ((cG a r).length : Int) : Int).toNat) * 4 + 3 /\ (3 : Nat) < 4) (aG (by intros; (try simp only [zq2,aC,aA,aB] at *); omega : (0 : Int) <= 0 /\ 0 < ((intsD ((a.rs.getD r Rl.z).ar)).length : Int))))) ?_ ?_
                 ·rfl
                 ·rw [show arB (a.rs.getD r Rl.z).ar q0 q2 = (a.rs.getD r Rl.z).ar.set 0 q2 by unfold arB; rw [if_neg (by omega),if_pos (by omega)]]
                  rw [show intsD ((a.rs.getD r Rl.z).ar.set 0 q2) = (intsD (a.rs.getD r Rl.z).ar).set 0 [.i q2] by simp only [intsD,List.map_set]; rfl]
                  all_goals (first | rfl | (funext i; simp only [d9,upd]; ((repeat' split) <;> first | rfl | (exfalso; omega))))
                ·(try simp only [zq0,aC,aA,aB] at hc17)
                 refine rD hG aH [] [201,77777,203,204,205] (y3 (S a.nm) a.ve a.st) [(100,.arr 0 75 2 (aC a.cs)),(102,.arr 0 51 3 (aA a.ss)),(103,.arr 0 ⟨66,[(r * 4 + 3,.ar 104 0)]⟩ 4 (cG a r)),(104,.arr 0 3 1 (intsD ((a.rs.getD r Rl.z).ar)))] (by kernel_rfl) aE ?_ ?_
                 ·rfl
                 ·rw [show arB (a.rs.getD r Rl.z).ar q0 q2 = (a.rs.getD r Rl.z).ar by unfold arB; rw [if_neg (by omega),if_neg (by omega)]]
                  all_goals (first | rfl | (funext i; simp only [d9,upd]; ((repeat' split) <;> first | rfl | (exfalso; omega))))
               ·(try simp only [zq0,aC,aA,aB] at hc16)
                refine zC hG [] [1,1,1,1,1,1,1,1,1,1,1,1,1,1,1,1,1,1,1,1,1,1,1,1,1,1,1,0,1,0,1,1,1,1,1,1] (decide ((md1 q0 14 : Int) = 13)) (⟨[zX 4 102 0,zX 5 202 0],e1z (aC a.cs) (S a.nm) a.ve a.st (aA a.ss) ++ [(204,.arr 0 ⟨66,[(r * 4 + 3,.ar 205 0)]⟩ 4 (cG a r)),(205,.arr 0 3 1 (intsD ((a.rs.getD r Rl.z).ar)))]⟩) aE (fun hc18 => ?_) (fun hc18 => ?_)
                ·(try simp only [zq0,aC,aA,aB] at hc18)
                 exfalso; omega
                ·(try simp only [zq0,aC,aA,aB] at hc18)
                 exfalso; omega
  ·(try simp only [zq0,aC,aA,aB] at hc2)
   exfalso; omega
 ·(try simp only [zq0,aC,aA,aB] at hc1)
  exfalso; omega
theorem aMV (a : Gr) (hs : a.small) (hs0 : 0 < a.ss.length) (hr0 : 0 < a.rs.length) (q0 q1 q2 : Int) (hm : md1 q0 14 = 10 \/ md1 q0 14 = 12) : SpG g 12 [.agg (grC a),.agg [cI q0,cI q1,cI q2]] [] (.agg (grC (cX a q0 q1 q2))) [] := by
 have b2 := fE q1 (n := (a.rs.length : Int)) (by omega)
 have h3 := hs.rs
 have hr : (md1 q1 (a.rs.length : Int)).toNat < a.rs.length := by omega
 have h := aJG (g := g) a hs hs0 hr0 q0 q1 q2 _ rfl hm
 have h2 := oP (aIC 103 104 (md1 q1 (a.rs.length : Int)).toNat 3 (post' := [(100,.arr 0 75 2 (aC a.cs)),(102,.arr 0 51 3 (aA a.ss)),(103,.arr 0 66 4 ((cG a (md1 q1 (a.rs.length : Int)).toNat).set (md1 q1 (a.rs.length : Int)).toNat ((RlF (a.rs.getD (md1 q1 (a.rs.length : Int)).toNat Rl.z)).set 3 (.sl 1 (intsD (arB (a.rs.getD (md1 q1 (a.rs.length : Int)).toNat Rl.z).ar q0 q2))))))]) h rfl rfl (by decide) (by decide) rfl (rlsF_at hr) (by decide) (by omega) (by
  funext i
  unfold bO
  simp only [lookO,upd,Bool.not_eq_true']
  by_cases h1 : i = 100
  subst h1; rfl
  by_cases h2 : i = 102
  subst h2; rfl
  by_cases h3 : i = 103
  subst h3; rfl
  by_cases h4 : i = 104
  subst h4; rfl
  have e1 : (100 == i) = false := by simp; omega
  have e2 : (102 == i) = false := by simp; omega
  have e3 : (103 == i) = false := by simp; omega
  have e4 : (104 == i) = false := by simp; omega
  simp [e1,e2,e3,e4,h3]))
 rw [aIH hr] at h2
 have e : cX a q0 q1 q2 = { a with rs := a.rs.set (md1 q1 (a.rs.length : Int)).toNat { a.rs.getD (md1 q1 (a.rs.length : Int)).toNat Rl.z with ar := arB (a.rs.getD (md1 q1 (a.rs.length : Int)).toNat Rl.z).ar q0 q2 } } := by
  rcases hm with hm | hm
  unfold cX arB; rw [hm]; rfl
  unfold cX arB
  rw [hm]
  show (if _ then _ else a) = _
  split
  rfl
  have : a.rs.set (md1 q1 (a.rs.length : Int)).toNat (a.rs.getD (md1 q1 (a.rs.length : Int)).toNat Rl.z) = a.rs := by
   rw [gd,ge hr,Option.getD_some,List.set_getElem_self]
  show a = { a with rs := a.rs.set (md1 q1 (a.rs.length : Int)).toNat (a.rs.getD (md1 q1 (a.rs.length : Int)).toNat Rl.z) }
  rw [this]
 rw [e]
 exact h2
theorem bent_ok (a : Gr) (hs : a.small) (hs0 : 0 < a.ss.length) (hr0 : 0 < a.rs.length) (q0 q1 q2 : Int) : SpG g 12 [.agg (grC a),.agg [cI q0,cI q1,cI q2]] [] (.agg (grC (cX a q0 q1 q2))) [] := by
 by_cases hm : md1 q0 14 = 10 \/ md1 q0 14 = 12
 exact aMV a hs hs0 hr0 q0 q1 q2 hm
 exact aMW a hs hs0 hr0 q0 q1 q2 (fun h => hm (.inl h)) (fun h => hm (.inr h))
end
section
open Go.Eng (inR byteAt u8 dD)
variable {g : Gv}
def a7 (l : List UInt8) : Bool := bA (S l)
theorem lH (l : List UInt8) (h : l.length <= maxLen) : SpG g 46 [.c (cS (S l))] [] (.c (cB (a7 l))) [] := aBU (S l) (by rw [bH]; exact h)
def lJ (s : ByteArray) : Bool := decide ((s.size : Int) <= 60) && (bs s).all iX
def tV (a : Gr) (n : Int) : List UInt8 := if n < 0 \/ n >= a.ss.length then [32] else (a.ss.getD n.toNat Sy.z).nm
def kindsL : List (List UInt8) := [[],[116,101,120,116],[110,117,109,98,101,114],[100,97,116,101],[98,111,111,108],[116,97,98,108,101]]
def jE (n : Int) : List UInt8 := if n < 1 \/ n > 5 then [32] else kindsL.getD n.toNat []
theorem aLS (n : Int) : (jE n = [32]) ↔ (n < 1 \/ n > 5) := by
 unfold jE
 split
 simp [*]
 rename_i h
 have : n = 1 \/ n = 2 \/ n = 3 \/ n = 4 \/ n = 5 := by omega
 rcases this with rfl | rfl | rfl | rfl | rfl <;> simp [kindsL]
def fL (l : List (List UInt8)) : Bool := l.all a7 && decide l.Nodup
theorem uniq_iff {l : List (List UInt8)} : fL l = true ↔ ∀ j,j < l.length -> a7 (l.getD j []) = true /\ ∀ i,i < j -> ¬ l.getD i [] = l.getD j [] := by
 simp only [fL,bIQ,at1,decide_eq_true_eq]
 constructor
 rintro ⟨h1,h2⟩ j hj
 refine ⟨h1 _ (bG hj),fun i hi he => ?_⟩
 have hi' : i < l.length := by omega
 simp only [gd,ge hi',ge hj,Option.getD_some] at he
 have := (List.getElem_inj h2).1 he
 omega
 intro h
 refine ⟨fun x hx => ?_,?_⟩
 obtain ⟨j,hj,rfl⟩ := List.mem_iff_getElem.1 hx
 have := (h j hj).1
 simpa [gd,hj] using this
 rw [List.nodup_iff_pairwise_ne,List.pairwise_iff_getElem]
 intro i j hi hj hij
 have := (h j hj).2 i hij
 simpa [gd,hi,hj] using this
def gA (a : Gr) (n : Int) : Bool := decide (0 <= n) && decide (n < a.ss.length)
def d5 (a : Gr) (r : Rl) : Bool := a7 r.op && lJ (S r.pa) && decide (r.ar.length <= 3) && gA a r.h && r.ar.all (gA a)
theorem sym_32 {a : Gr} (hn : ∀ s ∈ a.ss,a7 s.nm = true) (n : Int) : (tV a n = [32]) ↔ gA a n = false := by
 unfold tV gA
 split
 simp; omega
 rename_i h
 have h1 : n.toNat < a.ss.length := by omega
 constructor
 intro e
 have := hn _ (bG (z := Sy.z) h1)
 rw [e] at this
 exact absurd this (by decide +kernel)
 intro e; simp at e; omega
theorem fU {a : Gr} (hn : ∀ s ∈ a.ss,a7 s.nm = true) (n : Int) : ((S (tV a n)).toList == (S [32]).toList) = !gA a n := by
 rw [lC]
 have := sym_32 hn n
 cases h : gA a n <;> simp [h] at this ⊢ <;> exact this
theorem cV (n : Int) : ((S (jE n)).toList == (S [32]).toList) = (decide (n < 1) || decide (n > 5)) := by
 rw [lC]
 have := aLS n
 by_cases h : n < 1 \/ n > 5
 simp only [this,h,decide_true]; rcases h with h | h <;> simp [h]
 simp only [this,h,decide_false]; simp; omega
structure RightG (a : Gr) : Prop where
 nm : a7 a.nm = true
 ve : 0 <= a.ve /\ a.ve <= 1000000000
 cl : a.cs.length <= 8
 sl : 1 <= a.ss.length /\ a.ss.length <= 12
 rl : a.rs.length <= 40
 st : 0 <= a.st /\ a.st < a.ss.length
 ck : ∀ c ∈ a.cs,1 <= c.kd /\ c.kd <= 5
 sk : ∀ s ∈ a.ss,(1 <= s.kd /\ s.kd <= 5) /\ 1 <= s.mx /\ s.mx <= 9
 cu : fL (a.cs.map (·.nm)) = true
 su : fL (a.ss.map (·.nm)) = true
 rk : ∀ r ∈ a.rs,d5 a r = true
 rn : a.rs.Nodup
theorem RightG.names {a : Gr} (h : fL (a.ss.map (·.nm)) = true) : ∀ s ∈ a.ss,a7 s.nm = true := by
 intro s hs
 simp only [fL,bIQ,at1] at h
 exact h.1 _ (mmQ.2 ⟨s,hs,rfl⟩)
def headB (a : Gr) : Bool := a7 a.nm && (decide (0 <= a.ve) && decide (a.ve <= 1000000000)) && decide (a.cs.length <= 8) && (decide (1 <= a.ss.length) && decide (a.ss.length <= 12)) && decide (a.rs.length <= 40) && gA a a.st
def aMK (c : Co) : Bool := decide (1 <= c.kd) && decide (c.kd <= 5)
def syB (s : Sy) : Bool := decide (1 <= s.kd) && decide (s.kd <= 5) && decide (1 <= s.mx) && decide (s.mx <= 9)
def bQ (a : Gr) : Bool := headB a && a.cs.all aMK && a.ss.all syB && fL (a.cs.map (·.nm)) && fL (a.ss.map (·.nm)) && a.rs.all (d5 a) && decide a.rs.Nodup
theorem right_iff {a : Gr} : bQ a = true ↔ RightG a := by
 simp only [bQ,headB,gA,aMK,syB,bIQ,decide_eq_true_eq,at1]
 constructor
 rintro ⟨⟨⟨⟨⟨⟨⟨⟨⟨⟨⟨h1,h2⟩,h3⟩,h4⟩,h5⟩,h6⟩,h7⟩,h8⟩,h9⟩,h10⟩,h11⟩,h12⟩
 exact ⟨h1,h2,h3,h4,h5,h6,fun c hc => h7 c hc,fun s hs => by have := h8 s hs; omega,h9,h10,h11,h12⟩
 intro h
 exact ⟨⟨⟨⟨⟨⟨⟨⟨⟨⟨⟨h.nm,h.ve⟩,h.cl⟩,h.sl⟩,h.rl⟩,h.st⟩,fun c hc => h.ck c hc⟩,fun s hs => by have := h.sk s hs; omega⟩,h.cu⟩,h.su⟩,h.rk⟩,h.rn⟩
theorem tR {α : Type} {p : α -> Bool} {l : List α} (z : α) (h : ∀ j,j < l.length -> p (l.getD j z) = true) : l.all p = true := by
 rw [at1]
 intro x hx
 obtain ⟨j,hj,rfl⟩ := List.mem_iff_getElem.1 hx
 have := h j hj
 simpa [gd,hj] using this
theorem aG2 {α : Type} {p : α -> Bool} {l : List α} {z : α} {k : Nat} (hk : k < l.length) (h : p (l.getD k z) = false) : l.all p = false := by
 rw [List.all_eq_false]
 exact ⟨l.getD k z,bG hk,by rw [h]; decide⟩
theorem nodup_iff {l : List Rl} : l.Nodup ↔ ∀ j,j < l.length -> ¬ l.getD j Rl.z ∈ l.take j := by
 rw [List.nodup_iff_pairwise_ne,List.pairwise_iff_getElem]
 constructor
 intro h j hj hm
 obtain ⟨i,hi,e⟩ := List.mem_iff_getElem.1 hm
 rw [lt1] at hi
 have := h i j (by omega) hj (by omega)
 rw [List.getElem_take] at e
 apply this
 rw [e]; simp [gd,hj]
 intro h i j hi hj hij e
 apply h j hj
 rw [List.mem_iff_getElem]
 refine ⟨i,by rw [lt1]; omega,?_⟩
 rw [List.getElem_take,e]; simp [gd,hj]
theorem gD {α : Type} {l : List α} (z : α) {k : Nat} (hk : k <= l.length) {x : α} : x ∈ l.take k ↔ ∃ i,i < k /\ l.getD i z = x := by
 rw [List.mem_iff_getElem]
 constructor
 rintro ⟨i,hi,e⟩
 rw [lt1] at hi
 refine ⟨i,by omega,?_⟩
 rw [List.getElem_take] at e
 rw [<- e]; simp [gd,show i < l.length by omega]
 rintro ⟨i,hi,e⟩
 refine ⟨i,by rw [lt1]; omega,?_⟩
 rw [List.getElem_take,<- e]; simp [gd,show i < l.length by omega]
def nxV (l : List Int) (k n : Int) : Int := if k >= l.length \/ n < 1 then 0 else ((l.getD k.toNat 0).tmod n + n).tmod n
def nxK (l : List Int) (k n : Int) : Int := if k >= l.length \/ n < 1 then k else k + 1
structure NumOk (l : List Int) (k : Int) : Prop where
 k0 : 0 <= k
 k1 : k <= l.length
 k2 : (l.length : Int) <= 9223372036854775807
theorem NumOk.next {l : List Int} {k : Int} (h : NumOk l k) (n : Int) : NumOk l (nxK l k n) := by
 have := h.k0; have := h.k1
 unfold nxK; split
 ·exact h
 ·exact ⟨by omega,by omega,h.k2⟩
theorem aGL {x n : Int} (hn : 1 <= n) : -n < x.tmod n /\ x.tmod n < n :=
 ⟨Int.lt_tmod_of_pos x (by omega),Int.tmod_lt_of_pos x (by omega)⟩
theorem lN (l : List Int) (k : Int) {n : Int} (hn : 1 <= n) : 0 <= nxV l k n /\ nxV l k n < n := by
 unfold nxV
 split
 omega
 have h1 := aGL (x := l.getD k.toNat 0) hn
 refine ⟨Int.tmod_nonneg _ (by omega),Int.tmod_lt_of_pos _ (by omega)⟩
theorem aAA {α : Type} {f : α -> List UInt8} (l : List α) (z : α) {k : Nat} (h : k < l.length) : (l.map f).getD k [] = f (l.getD k z) := by
 simp [gd,h]
theorem nO (l : List (List UInt8)) (x : List UInt8) : strs l ++ [[D.s (S x)]] = strs (l ++ [x]) := by simp [strs,iA]
theorem kX {α : Type} {f : α -> List UInt8} {l : List α} {k : Nat} (z : α) (h : k < l.length) : (l.take k).map f ++ [f (l.getD k z)] = (l.take (k + 1)).map f := gF z h
theorem aK1 (s : ByteArray) (hs : s.size <= maxLen) :
  SpG g 90 [.c (cS s)] [] (.c (cB (lJ s))) [] := by
 unfold maxLen at hs
 refine aQ 23 Tryz.func90 fun fr hG => ?_
 refine zP hG [] [1,0,1] (((s.size : Int) : Int) > 60) (⟨[zS 0 s,zB 2 false],[]⟩) aE (fun hc1 => ?_) (fun hc1 => ?_)
 skip
 refine zR hG [] [] (.c (cB false)) [] aE ?_ ?_
 refine aR ?_
 rw [lJ,decide_eq_false (by omega)]; rfl
 rfl
 skip
 refine zL hG [] [0,1,0,1,1] (fun (zz : Nat) => match zz with | k => (s.size - k,⟨[zS 0 s,zB 2 false,zI 3 (k : Int)],[]⟩,k <= s.size /\ (bs s).all iX = ((bs s).drop k).all iX)) 0 aE ?_ ?_
 exact ⟨zl _,rfl⟩
 rintro k ⟨hk,hall⟩
 refine zp hG [] [1,0] ((k : Int) < (s.size : Int)) aE (fun hc3 => ?_) (fun hc3 => ?_)
 skip
 refine zc hG [] [1,0,0,1] ((decide ((byteAt s (k : Int) : Int) < 32)) || (decide ((byteAt s (k : Int) : Int) > 126))) (aD (by intros; first | omega | decide | (simp only [inR,blS] at *; omega) : (0 : Int) <= (k : Int) /\ (k : Int) < (s.size : Int)) (aG (by intros; first | omega | decide | (simp only [inR,blS] at *; omega) : (decide ((byteAt s (k : Int) : Int) < 32)) = false -> (0 : Int) <= (k : Int) /\ (k : Int) < (s.size : Int)))) (fun hc4 => ?_) (fun hc4 => ?_)
 (try simp only [blS] at hc4)
 refine zE hG [] .ret (⟨[zB 2 false],[]⟩) aE rfl ?_
 refine zR hG [] [] (.c (cB false)) [] aE ?_ ?_
 refine aR ?_
 rw [lJ,hall,hM s k (by omega)]; simp only [dX] at hc4; simp [iX]; omega
 rfl
 (try simp only [blS] at hc4)
 refine zD hG [] (k + 1) (aG (by intros; first | omega | decide | (simp only [inR,blS] at *; omega) : inR ((k : Int) + 1))) ?_ ?_
 (try dsimp only); omega
 exact ⟨by omega,by rw [hall,hM s k (by omega)]; simp only [dX] at hc4; simp [iX]; omega⟩
 skip
 refine zE hG [] (.exit 0) (⟨[zB 2 false],[]⟩) aE rfl ?_
 refine zR hG [] [] (.c (cB true)) [] aE ?_ ?_
 refine aR ?_
 rw [lJ,hall,aA0 s k (by omega),decide_eq_true (by omega)]; rfl
 rfl
theorem kY (a : Gr) (n : Int) :
  SpG g 87 [y1 (S a.nm) a.ve (aC a.cs) (aA a.ss) (aB a.rs) a.st,.c (cI n)] [] (.c (cS (S (tV a n)))) [] := by
 refine aQ 20 Tryz.func87 fun fr hG => ?_
 refine zC hG [] [1,0,1] ((decide ((n : Int) < 0)) || (decide ((n : Int) >= ((aA a.ss).length : Int)))) (⟨[zI 1 n,zX 2 100 0,zS 4 (S [])],[(100,y2 (S a.nm) a.ve (aC a.cs) (aA a.ss) (aB a.rs) a.st)]⟩) aE (fun hc1 => ?_) (fun hc1 => ?_)
 (try simp only [zq0,aC,aA,aB] at hc1)
 refine zR hG [] [] (.c (cS (S [32]))) [] aE ?_ ?_
 rw [tV,if_pos hc1]
 rfl
 (try simp only [zq0,aC,aA,aB] at hc1)
 refine zR hG [(3,3,.elem (SyD ((a.ss).getD (n : Int).toNat Sy.z)))] [] (.c (cS (S ((a.ss).getD (n : Int).toNat Sy.z).nm))) [] (aG (by intros; exact aK _ (by omega) (by (try simp only [zq3,aC,aA,aB] at *); omega) : (0 : Int) <= n /\ (aA a.ss)[(n : Int).toNat]? = some (SyD ((a.ss).getD (n : Int).toNat Sy.z)))) ?_ ?_
 rw [tV,if_neg (by omega)]
 rfl
theorem aLR  :
  SpG g 89 [] [] (.c (cM 1 (strs kindsL))) [] := by
 refine aQ 2 Tryz.func89 fun fr hG => ?_
 exact zr hG [] [] aE
theorem o6 (n : Int) :
  SpG g 47 [.c (cI n)] [] (.c (cS (S (jE n)))) [] := by
 have hkl : kindsL.length = 6 := rfl
 refine aQ 13 Tryz.func47 fun fr hG => ?_
 refine zC hG [] [1,0,1] ((decide ((n : Int) < 1)) || (decide ((n : Int) > 5))) (⟨[zI 0 n,zS 2 (S [])],[]⟩) aE (fun hc1 => ?_) (fun hc1 => ?_)
 (try simp only [blS] at hc1)
 refine zR hG [] [] (.c (cS (S [32]))) [] aE ?_ ?_
 rw [jE,if_pos hc1]
 rfl
 (try simp only [blS] at hc1)
 refine zR hG [(3,0,kC (.c (cM 1 (strs kindsL)))),(3,2,.elem (iA (kindsL.getD (n : Int).toNat [])))] [] (.c (cS (S (kindsL.getD (n : Int).toNat [])))) [] (cS2 g aLR (aG (by intros; exact aK [] (by omega) (by (try simp only [strs,lm] at *); omega) : (0 : Int) <= n /\ (strs kindsL)[(n : Int).toNat]? = some (iA (kindsL.getD (n : Int).toNat []))))) ?_ ?_
 rw [jE,if_neg (by omega)]
 rfl
theorem aH3 (l : List (List UInt8)) (hf : ∀ t,t ∈ l -> t.length <= maxLen) :
  SpG g 48 [.c (cM 1 (strs l))] [] (.c (cB (fL l))) [] := by
 refine aQ 33 Tryz.func48 fun fr hG => ?_
 refine dN 0 rfl fun hl0 => ?_
 refine zL hG [] [0,1,0,1] (fun (zz : Nat) => match zz with | k => (l.length - k,⟨[zM 0 1 (strs l),zB 2 false,zI 3 (k : Int)],[]⟩,k <= l.length /\ ∀ j,j < k -> a7 (l.getD j []) = true /\ ∀ i,i < j -> ¬ l.getD i [] = l.getD j [])) 0 aE ?_ ?_
 exact ⟨zl _,fun j hj => by omega⟩
 rintro k ⟨hk,hn⟩
 refine zc hG [] [1,0] (decide ((k : Int) < ((strs l).length : Int))) aE (fun hc2 => ?_) (fun hc2 => ?_)
 (try simp only [zq0,aC,aA,aB] at hc2)
 refine zc hG [(4,2,.elem (iA (l.getD k []))),(4,4,kB (a7 (l.getD k [])))] [1,0,1,0,0,1] (!(a7 (l.getD k []))) (aD (by intros; exact aK [] (by omega) (by (try simp only [strs,lm] at *); omega) : (0 : Int) <= (k : Int) /\ (strs l)[k]? = some (iA (l.getD k []))) (cS1 g (lH (l.getD k []) (hf _ (bG (by omega)))))) (fun hc3 => ?_) (fun hc3 => ?_)
 (try simp only [zq0,aC,aA,aB] at hc3)
 refine zE hG [] .ret (⟨[zB 2 false],[]⟩) aE rfl ?_
 refine zR hG [] [] (.c (cB false)) [] aE ?_ ?_
 refine aR ?_
 symm; rw [<- Bool.not_eq_true,uniq_iff]; intro h
 have := (h k (by omega)).1
 rw [this] at hc3; exact absurd hc3 (by decide)
 rfl
 (try simp only [zq0,aC,aA,aB] at hc3)
 have hnm := hc3
 refine zL hG [] [0,1,1,1,0,0,1] (fun (zz : Nat) => match zz with | m => (k - m,⟨[zM 0 1 (strs l),zB 2 false,zI 3 (k : Int),zI 5 (m : Int)],[]⟩,m <= k /\ ∀ i,i < m -> ¬ l.getD i [] = l.getD k [])) 0 aE ?_ ?_
 exact ⟨zl _,fun j hj => by omega⟩
 rintro m ⟨hm,hj2⟩
 refine zc hG [] [1,0] (decide ((m : Int) < (k : Int))) aE (fun hc5 => ?_) (fun hc5 => ?_)
 (try simp only [zq0,aC,aA,aB] at hc5)
 refine zc hG [(10,2,.elem (iA (l.getD m []))),(10,6,.elem (iA (l.getD k [])))] [1,0,0,1] ((S (l.getD m [])).toList == (S (l.getD k [])).toList) (aD (by intros; exact aK [] (by omega) (by (try simp only [strs,lm] at *); omega) : (0 : Int) <= (m : Int) /\ (strs l)[m]? = some (iA (l.getD m []))) (aG (by intros; exact aK [] (by omega) (by (try simp only [strs,lm] at *); omega) : (0 : Int) <= (k : Int) /\ (strs l)[k]? = some (iA (l.getD k []))))) (fun hc6 => ?_) (fun hc6 => ?_)
 (try simp only [zq0,aC,aA,aB] at hc6)
 refine zE hG [] .ret (⟨[zM 0 1 (strs l),zB 2 false,zI 3 (k : Int)],[]⟩) aE rfl ?_
 refine zE hG [] .ret (⟨[zB 2 false],[]⟩) aE rfl ?_
 refine zR hG [] [] (.c (cB false)) [] aE ?_ ?_
 refine aR ?_
 symm; rw [<- Bool.not_eq_true,uniq_iff]; intro h
 exact (h k (by omega)).2 m (by omega) (by simpa using hc6)
 rfl
 (try simp only [zq0,aC,aA,aB] at hc6)
 refine zD hG [] (m + 1) (aG (by intros; (try simp only [zq2,aC,aA,aB] at *); omega : inR ((m : Int) + 1))) ?_ ?_
 (try dsimp only); omega
 exact ⟨by omega,aW hj2 (by simpa using hc6)⟩
 (try simp only [zq0,aC,aA,aB] at hc5)
 refine zE hG [] (.exit 2) (⟨[zM 0 1 (strs l),zB 2 false,zI 3 (k : Int)],[]⟩) aE rfl ?_
 refine zD hG [] (k + 1) (aG (by intros; (try simp only [zq2,aC,aA,aB] at *); omega : inR ((k : Int) + 1))) ?_ ?_
 (try dsimp only); omega
 refine ⟨by omega,aW hn ⟨?_,fun i hi => hj2 i (by omega)⟩⟩
 simpa using hnm
 (try simp only [zq0,aC,aA,aB] at hc2)
 refine zE hG [] (.exit 0) (⟨[zB 2 false],[]⟩) aE rfl ?_
 refine zR hG [] [] (.c (cB true)) [] aE ?_ ?_
 refine aR ?_
 symm; rw [uniq_iff]; intro j hj; exact hn j (by omega)
 rfl
def f5 (a : Gr) (k : Nat) : Bool := d5 a (a.rs.getD k Rl.z) && decide (¬ a.rs.getD k Rl.z ∈ a.rs.take k)
abbrev y9 (a0 : Int) (a1 : ByteArray) (a2 : ByteArray) (a3 : LD) : Ob := .box 66 [cI a0,cS a1,cS a2,cM 1 a3]
theorem wT (a : Gr) (k : Nat) (hk : k < a.rs.length) (hs : a.small) (hsn : ∀ s ∈ a.ss,a7 s.nm = true) :
  SpG g 49 [y1 (S a.nm) a.ve (aC a.cs) (aA a.ss) (aB a.rs) a.st,.c (cI (k : Int))] [] (.c (cB (f5 a k))) [] := by
 have h3 := hs.rs
 have hr := bT hs k
 have hr1 := hr.op
 have hr2 := hr.pa
 have hr3 := hr.ar
 refine aQ 69 Tryz.func49 fun fr hG => ?_
 refine zC hG [(1,3,.elem (RlD ((a.rs).getD k Rl.z))),(2,2,kB (a7 (((a.rs).getD k Rl.z).op))),(3,2,kB (lJ (S (((a.rs).getD k Rl.z).pa)))),(4,16,kS (S (tV a (((a.rs).getD k Rl.z).h))))] [1,0,1,1,1,1] ((((!(a7 (((a.rs).getD k Rl.z).op))) || (!(lJ (S (((a.rs).getD k Rl.z).pa))))) || (decide ((((intsD (((a.rs).getD k Rl.z).ar)).length : Int) : Int) > 3))) || ((S (tV a (((a.rs).getD k Rl.z).h))).toList == (S [32]).toList)) (⟨[zI 1 (k : Int),zX 2 100 0,zB 4 false,zX 5 205 0],[(100,y2 (S a.nm) a.ve (aC a.cs) (aA a.ss) (aB a.rs) a.st),(205,y9 (((a.rs).getD k Rl.z).h) (S ((a.rs).getD k Rl.z).op) (S ((a.rs).getD k Rl.z).pa) (intsD (((a.rs).getD k Rl.z).ar)))]⟩) (aD (by intros; exact aK _ (by omega) (by (try simp only [zq3,aC,aA,aB] at *); omega) : (0 : Int) <= (k : Int) /\ (aB a.rs)[k]? = some (RlD ((a.rs).getD k Rl.z))) (cS2 g (lH (((a.rs).getD k Rl.z).op) (by simp only [maxLen]; omega)) (cS2 g (aK1 (S (((a.rs).getD k Rl.z).pa)) (by rw [bH]; simp only [maxLen]; omega)) (aG (fun (hg1 : (((!(a7 (((a.rs).getD k Rl.z).op))) || (!(lJ (S (((a.rs).getD k Rl.z).pa))))) || (decide ((((intsD (((a.rs).getD k Rl.z).ar)).length : Int) : Int) > 3))) = false) => (kY a (((a.rs).getD k Rl.z).h) : SpG g _ _ _ _ _)))))) (fun hc1 => ?_) (fun hc1 => ?_)
 (try simp only [zq0,aC,aA,aB,fU hsn] at hc1)
 have hrr := hc1
 refine zR hG [] [] (.c (cB false)) [] aE ?_ ?_
 refine aR ?_
 symm
 rw [f5,d5]
 rcases hc1 with ((h | h) | h) | h <;> simp [h,-List.getD_eq_getElem?_getD]
 omega
 rfl
 (try simp only [zq0,aC,aA,aB,fU hsn] at hc1)
 have hrr := hc1
 refine zL hG [] [0,1,0,1,1,1,1,1] (fun (zz : Nat) => match zz with | j => ((a.rs.getD k Rl.z).ar.length - j,⟨[zI 1 (k : Int),zX 2 100 0,zB 4 false,zX 5 205 0,zI 8 (j : Int)],[(100,y2 (S a.nm) a.ve (aC a.cs) (aA a.ss) (aB a.rs) a.st),(205,y9 (((a.rs).getD k Rl.z).h) (S ((a.rs).getD k Rl.z).op) (S ((a.rs).getD k Rl.z).pa) (intsD (((a.rs).getD k Rl.z).ar)))]⟩,j <= (a.rs.getD k Rl.z).ar.length /\ ∀ i,i < j -> gA a ((a.rs.getD k Rl.z).ar.getD i 0) = true)) 0 aE ?_ ?_
 exact ⟨zl _,fun i hi => by omega⟩
 rintro j ⟨hj,hsy⟩
 refine zc hG [] [1,0] (decide ((j : Int) < ((intsD (((a.rs).getD k Rl.z).ar)).length : Int))) aE (fun hc3 => ?_) (fun hc3 => ?_)
 (try simp only [zq0,aC,aA,aB,fU hsn] at hc3)
 refine zc hG [(9,4,.elem (intD ((((a.rs).getD k Rl.z).ar).getD j 0))),(9,6,kS (S (tV a ((((a.rs).getD k Rl.z).ar).getD j 0))))] [1,0,0,1] ((S (tV a ((((a.rs).getD k Rl.z).ar).getD j 0))).toList == (S [32]).toList) (aD (by intros; exact aK _ (by omega) (by (try simp only [zq1] at *); omega) : (0 : Int) <= (j : Int) /\ (intsD (((a.rs).getD k Rl.z).ar))[j]? = some (intD ((((a.rs).getD k Rl.z).ar).getD j 0))) (cS1 g (kY a ((((a.rs).getD k Rl.z).ar).getD j 0)))) (fun hc4 => ?_) (fun hc4 => ?_)
 (try simp only [zq0,aC,aA,aB,fU hsn] at hc4)
 refine zE hG [] .ret (⟨[zI 1 (k : Int),zX 2 100 0,zB 4 false,zX 5 205 0],[(100,y2 (S a.nm) a.ve (aC a.cs) (aA a.ss) (aB a.rs) a.st),(205,y9 (((a.rs).getD k Rl.z).h) (S ((a.rs).getD k Rl.z).op) (S ((a.rs).getD k Rl.z).pa) (intsD (((a.rs).getD k Rl.z).ar)))]⟩) aE rfl ?_
 refine zR hG [] [] (.c (cB false)) [] aE ?_ ?_
 refine aR ?_
 symm
 rw [f5,d5,aG2 (z := 0) (k := j) (by omega) (by simpa using hc4)]; simp
 rfl
 (try simp only [zq0,aC,aA,aB,fU hsn] at hc4)
 refine zD hG [] (j + 1) (aG (by intros; (try simp only [zq2,aC,aA,aB] at *); omega : inR ((j : Int) + 1))) ?_ ?_
 (try dsimp only); omega
 exact ⟨by omega,aW hsy (by simpa using hc4)⟩
 (try simp only [zq0,aC,aA,aB,fU hsn] at hc3)
 refine zE hG [] (.exit 0) (⟨[zI 1 (k : Int),zX 2 100 0,zB 4 false,zX 5 205 0],[(100,y2 (S a.nm) a.ve (aC a.cs) (aA a.ss) (aB a.rs) a.st),(205,y9 (((a.rs).getD k Rl.z).h) (S ((a.rs).getD k Rl.z).op) (S ((a.rs).getD k Rl.z).pa) (intsD (((a.rs).getD k Rl.z).ar)))]⟩) aE rfl ?_
 refine zL hG [] [0,1,0,1,1,1,1,1,1] (fun (zz : Nat) => match zz with | m => (k - m,⟨[zI 1 (k : Int),zX 2 100 0,zB 4 false,zX 5 205 0,zI 9 (m : Int)],[(100,y2 (S a.nm) a.ve (aC a.cs) (aA a.ss) (aB a.rs) a.st),(205,y9 (((a.rs).getD k Rl.z).h) (S ((a.rs).getD k Rl.z).op) (S ((a.rs).getD k Rl.z).pa) (intsD (((a.rs).getD k Rl.z).ar)))]⟩,m <= k /\ ∀ i,i < m -> ¬ a.rs.getD i Rl.z = (a.rs.getD k Rl.z))) 0 aE ?_ ?_
 exact ⟨zl _,fun i hi => by omega⟩
 rintro m ⟨hm,hnd⟩
 refine zc hG [] [1,0] (decide ((m : Int) < (k : Int))) aE (fun hc6 => ?_) (fun hc6 => ?_)
 (try simp only [zq0,aC,aA,aB,fU hsn] at hc6)
 refine zc hG [(14,3,.elem (RlD ((a.rs).getD m Rl.z))),(14,6,kB (decide ((a.rs).getD m Rl.z = (a.rs.getD k Rl.z))))] [1,1,0,0,1] (decide ((a.rs).getD m Rl.z = (a.rs.getD k Rl.z))) (aD (by intros; exact aK _ (by omega) (by (try simp only [zq3,aC,aA,aB] at *); omega) : (0 : Int) <= (m : Int) /\ (aB a.rs)[m]? = some (RlD ((a.rs).getD m Rl.z))) (cS1 g (oQ ((a.rs).getD m Rl.z) (a.rs.getD k Rl.z)))) (fun hc7 => ?_) (fun hc7 => ?_)
 (try simp only [zq0,aC,aA,aB,fU hsn] at hc7)
 refine zE hG [] .ret (⟨[zB 4 false],[]⟩) aE rfl ?_
 refine zR hG [] [] (.c (cB false)) [] aE ?_ ?_
 refine aR ?_
 symm
 rw [f5,decide_eq_false (p := ¬ _) (fun hh => hh ((gD Rl.z (by omega)).2 ⟨m,by omega,by simpa [-List.getD_eq_getElem?_getD] using hc7⟩)),Bool.and_false]
 rfl
 (try simp only [zq0,aC,aA,aB,fU hsn] at hc7)
 refine zD hG [] (m + 1) (aG (by intros; (try simp only [zq2,aC,aA,aB] at *); omega : inR ((m : Int) + 1))) ?_ ?_
 (try dsimp only); omega
 exact ⟨by omega,aW hnd (by simpa using hc7)⟩
 (try simp only [zq0,aC,aA,aB,fU hsn] at hc6)
 refine zE hG [] (.exit 2) (⟨[zB 4 false],[]⟩) aE rfl ?_
 refine zR hG [] [] (.c (cB true)) [] aE ?_ ?_
 refine aR ?_
 symm
 rw [f5,d5,tR 0 (fun i hi => hsy i (by omega)),decide_eq_true (p := ¬ _) (fun hmm => by
   rw [gD Rl.z (by omega)] at hmm; obtain ⟨i,hi,e⟩ := hmm; exact hnd i (by omega) e)]
 simp only [Bool.and_true]
 obtain ⟨⟨⟨h1,h2⟩,h3⟩,h4⟩ := hrr
 simp [h1,h2,h4,-List.getD_eq_getElem?_getD]; omega
 rfl
theorem uV (es : LD) (l : List (List UInt8)) (h : es = strs l) (hf : ∀ t,t ∈ l -> t.length <= maxLen) : SpG g 48 [.c (cM 1 es)] [] (.c (cB (fL l))) [] := by
 rw [h]; exact aH3 l hf
abbrev e3z : cO := [zX 1 100 0,zB 2 false]
theorem mC (a : Gr) (hs : a.small) (hcn : ∀ t,t ∈ a.cs.map (·.nm) -> t.length <= maxLen) (hsn0 : ∀ t,t ∈ a.ss.map (·.nm) -> t.length <= maxLen) :
  SpG g 15 [y1 (S a.nm) a.ve (aC a.cs) (aA a.ss) (aB a.rs) a.st] [] (.c (cB (bQ a))) [] := by
 have h0 := hs.nm
 have h1 := hs.cs
 have h2 := hs.ss
 have h3 := hs.rs
 refine aQ 152 Tryz.func15 fun fr hG => ?_
 refine zC hG [(1,2,kB (a7 (a.nm)))] [1,0,1,1] (((((((((!(a7 (a.nm))) || (decide ((a.ve : Int) < 0))) || (decide ((a.ve : Int) > 1000000000))) || (decide ((((aC a.cs).length : Int) : Int) > 8))) || (decide ((((aA a.ss).length : Int) : Int) < 1))) || (decide ((((aA a.ss).length : Int) : Int) > 12))) || (decide ((((aB a.rs).length : Int) : Int) > 40))) || (decide ((a.st : Int) < 0))) || (decide ((a.st : Int) >= ((aA a.ss).length : Int)))) (⟨e3z,[(100,y2 (S a.nm) a.ve (aC a.cs) (aA a.ss) (aB a.rs) a.st)]⟩) (cS1 g (lH (a.nm) (by simp only [maxLen]; omega))) (fun hc1 => ?_) (fun hc1 => ?_)
 ·(try simp only [zq0,aC,aA,aB,cV] at hc1)
  have hhd := hc1
  refine zR hG [] [] (.c (cB false)) [] aE ?_ ?_
  ·refine aR ?_
   symm; rw [<- Bool.not_eq_true,right_iff]; intro h
   have e1 := h.nm; have e2 := h.ve; have e3 := h.cl; have e4 := h.sl; have e5 := h.rl; have e6 := h.st
   simp only [e1,Bool.true_eq_false,false_or] at hc1; omega
  ·rfl
 ·(try simp only [zq0,aC,aA,aB,cV] at hc1)
  have hhd := hc1
  refine zA hG [] [0,1,0,1,1,1,1] (⟨e3z ++ [zN 4,zI 5 0],[(100,y2 (S a.nm) a.ve (aC a.cs) (aA a.ss) (aB a.rs) a.st)]⟩) [(4,9001,9,1)] [] (fun (zz : Nat × LD) => match zz with | (k,es) => (a.cs.length - k,⟨e3z ++ [zY 4 9001 0,zI 5 (k : Int)],[(100,y2 (S a.nm) a.ve (aC a.cs) (aA a.ss) (aB a.rs) a.st),(9001,.arr 0 9 1 es)]⟩,k <= a.cs.length /\ es = strs ((a.cs.take k).map (·.nm)) /\ ∀ j,j < k -> aMK (a.cs.getD j Co.z) = true)) (0,[]) aE ?_ ?_
  ·exact ⟨zl _,rfl,fun j hj => by omega⟩
  rintro ⟨k,es⟩ ⟨hk,hes,hcb⟩
  have hlen : es.length = k := by rw [hes,strs,lm,lm,lt1]; omega
  refine zc hG [] [1,0] (decide ((k : Int) < ((aC a.cs).length : Int))) aE (fun hc3 => ?_) (fun hc3 => ?_)
  ·(try simp only [zq0,aC,aA,aB,cV] at hc3)
   refine zc hG [(8,3,.elem (CoD ((a.cs).getD k Co.z))),(8,6,kS (S (jE (((a.cs).getD k Co.z).kd))))] [1,0,0,0,1] ((S (jE (((a.cs).getD k Co.z).kd))).toList == (S [32]).toList) (aD (by intros; exact aK _ (by omega) (by (try simp only [zq3,aC,aA,aB] at *); omega) : (0 : Int) <= (k : Int) /\ (aC a.cs)[k]? = some (CoD ((a.cs).getD k Co.z))) (cS1 g (o6 (((a.cs).getD k Co.z).kd)))) (fun hc4 => ?_) (fun hc4 => ?_)
   ·(try simp only [zq0,aC,aA,aB,cV] at hc4)
    refine zE hG [] .ret (⟨e3z ++ [zY 4 9001 0],[(100,y2 (S a.nm) a.ve (aC a.cs) (aA a.ss) (aB a.rs) a.st),(9001,.arr 0 9 1 es)]⟩) aE rfl ?_
    refine zR hG [] [] (.c (cB false)) [] aE ?_ ?_
    ·refine aR ?_
     symm; rw [<- Bool.not_eq_true,right_iff]; intro h
     have := h.ck _ (bG (z := Co.z) (show k < _ by omega)); omega
    ·rfl
   ·(try simp only [zq0,aC,aA,aB,cV] at hc4)
    refine zD hG [(10,4,.elem (CoD ((a.cs).getD k Co.z)))] (k + 1,es ++ [[D.s (S (a.cs.getD k Co.z).nm)]]) (aD (by intros; exact aK _ (by omega) (by (try simp only [zq3,aC,aA,aB] at *); omega) : (0 : Int) <= (k : Int) /\ (aC a.cs)[k]? = some (CoD ((a.cs).getD k Co.z))) (aD (by intros; (try simp only [zq2,aC,aA,aB] at *); omega : (es.length + (([[.s (S ((a.cs).getD k Co.z).nm)]] : LD)).length) * (16 + 1) <= 140737488355328) (aG (by intros; (try simp only [zq2,aC,aA,aB] at *); omega : inR ((k : Int) + 1))))) ?_ ?_
    ·(try dsimp only); omega
    ·refine ⟨by omega,?_,aW hcb (by simp only [aMK,bIQ,decide_eq_true_eq]; omega)⟩
     rw [hes,nO,kX Co.z (by omega)]
  ·(try simp only [zq0,aC,aA,aB,cV] at hc3)
   have hce : es = strs (a.cs.map (·.nm)) := by rw [hes,tl (by omega)]
   refine zE hG [] (.exit 0) (⟨e3z ++ [zY 4 9001 0],[(100,y2 (S a.nm) a.ve (aC a.cs) (aA a.ss) (aB a.rs) a.st),(9001,.arr 0 9 1 es)]⟩) aE rfl ?_
   refine zA hG [] [0,1,0,1,1,1,1,1,1] (⟨e3z ++ [zY 4 9001 0,zN 6,zI 7 0],[(100,y2 (S a.nm) a.ve (aC a.cs) (aA a.ss) (aB a.rs) a.st),(9001,.arr 0 9 1 es)]⟩) [(6,9002,9,1)] [] (fun (zz : Nat × LD) => match zz with | (k2,es2) => (a.ss.length - k2,⟨e3z ++ [zY 4 9001 0,zY 6 9002 0,zI 7 (k2 : Int)],[(100,y2 (S a.nm) a.ve (aC a.cs) (aA a.ss) (aB a.rs) a.st),(9001,.arr 0 9 1 es),(9002,.arr 0 9 1 es2)]⟩,k2 <= a.ss.length /\ es2 = strs ((a.ss.take k2).map (·.nm)) /\ ∀ j,j < k2 -> syB (a.ss.getD j Sy.z) = true)) (0,[]) aE ?_ ?_
   ·exact ⟨zl _,rfl,fun j hj => by omega⟩
   rintro ⟨k2,es2⟩ ⟨hk2,hes2,hsb⟩
   have hlen2 : es2.length = k2 := by rw [hes2,strs,lm,lm,lt1]; omega
   refine zc hG [] [1,0] (decide ((k2 : Int) < ((aA a.ss).length : Int))) aE (fun hc6 => ?_) (fun hc6 => ?_)
   ·(try simp only [zq0,aC,aA,aB,cV] at hc6)
    refine zc hG [(15,3,.elem (SyD ((a.ss).getD k2 Sy.z))),(15,6,kS (S (jE (((a.ss).getD k2 Sy.z).kd)))),(15,12,.elem (SyD ((a.ss).getD k2 Sy.z))),(15,21,.elem (SyD ((a.ss).getD k2 Sy.z)))] [1,0,0,0,1] ((((S (jE (((a.ss).getD k2 Sy.z).kd))).toList == (S [32]).toList) || (decide ((((a.ss).getD k2 Sy.z).mx : Int) < 1))) || (decide ((((a.ss).getD k2 Sy.z).mx : Int) > 9))) (aD (by intros; exact aK _ (by omega) (by (try simp only [zq3,aC,aA,aB] at *); omega) : (0 : Int) <= (k2 : Int) /\ (aA a.ss)[k2]? = some (SyD ((a.ss).getD k2 Sy.z))) (cS2 g (o6 (((a.ss).getD k2 Sy.z).kd)) (aD (by intros; exact aK _ (by omega) (by (try simp only [zq3,aC,aA,aB] at *); omega) : ((S (jE (((a.ss).getD k2 Sy.z).kd))).toList == (S [32]).toList) = false -> (0 : Int) <= (k2 : Int) /\ (aA a.ss)[k2]? = some (SyD ((a.ss).getD k2 Sy.z))) (aG (by intros; exact aK _ (by omega) (by (try simp only [zq3,aC,aA,aB] at *); omega) : (((S (jE (((a.ss).getD k2 Sy.z).kd))).toList == (S [32]).toList) || (decide ((((a.ss).getD k2 Sy.z).mx : Int) < 1))) = false -> (0 : Int) <= (k2 : Int) /\ (aA a.ss)[k2]? = some (SyD ((a.ss).getD k2 Sy.z))))))) (fun hc7 => ?_) (fun hc7 => ?_)
    ·(try simp only [zq0,aC,aA,aB,cV] at hc7)
     refine zE hG [] .ret (⟨e3z ++ [zY 4 9001 0,zY 6 9002 0],[(100,y2 (S a.nm) a.ve (aC a.cs) (aA a.ss) (aB a.rs) a.st),(9001,.arr 0 9 1 es),(9002,.arr 0 9 1 es2)]⟩) aE rfl ?_
     refine zR hG [] [] (.c (cB false)) [] aE ?_ ?_
     ·refine aR ?_
      symm; rw [<- Bool.not_eq_true,right_iff]; intro h
      have := h.sk _ (bG (z := Sy.z) (show k2 < _ by omega)); omega
     ·rfl
    ·(try simp only [zq0,aC,aA,aB,cV] at hc7)
     refine zD hG [(17,4,.elem (SyD ((a.ss).getD k2 Sy.z)))] (k2 + 1,es2 ++ [[D.s (S (a.ss.getD k2 Sy.z).nm)]]) (aD (by intros; exact aK _ (by omega) (by (try simp only [zq3,aC,aA,aB] at *); omega) : (0 : Int) <= (k2 : Int) /\ (aA a.ss)[k2]? = some (SyD ((a.ss).getD k2 Sy.z))) (aD (by intros; (try simp only [zq2,aC,aA,aB] at *); omega : (es2.length + (([[.s (S ((a.ss).getD k2 Sy.z).nm)]] : LD)).length) * (16 + 1) <= 140737488355328) (aG (by intros; (try simp only [zq2,aC,aA,aB] at *); omega : inR ((k2 : Int) + 1))))) ?_ ?_
     ·(try dsimp only); omega
     ·refine ⟨by omega,?_,aW hsb (by simp only [syB,bIQ,decide_eq_true_eq]; omega)⟩
      rw [hes2,nO,kX Sy.z (by omega)]
   ·(try simp only [zq0,aC,aA,aB,cV] at hc6)
    have hse : es2 = strs (a.ss.map (·.nm)) := by rw [hes2,tl (by omega)]
    refine zE hG [] (.exit 2) (⟨e3z ++ [zY 4 9001 0,zY 6 9002 0],[(100,y2 (S a.nm) a.ve (aC a.cs) (aA a.ss) (aB a.rs) a.st),(9001,.arr 0 9 1 es),(9002,.arr 0 9 1 es2)]⟩) aE rfl ?_
    refine zC hG [(18,1,kB (fL (a.cs.map (·.nm)))),(19,1,kB (fL (a.ss.map (·.nm))))] [1,0,1,1,1,1,1,1,1,1,1] ((!(fL (a.cs.map (·.nm)))) || (!(fL (a.ss.map (·.nm))))) (⟨e3z,[(100,y2 (S a.nm) a.ve (aC a.cs) (aA a.ss) (aB a.rs) a.st)]⟩) (cS2 g (uV es (a.cs.map (·.nm)) hce hcn) (cS1 g (uV es2 (a.ss.map (·.nm)) hse hsn0))) (fun hc8 => ?_) (fun hc8 => ?_)
    ·(try simp only [zq0,aC,aA,aB,cV] at hc8)
     refine zR hG [] [] (.c (cB false)) [] aE ?_ ?_
     ·refine aR ?_
      symm; rw [<- Bool.not_eq_true,right_iff]; intro h
      have e1 := h.cu; have e2 := h.su
      simp [e1,e2] at hc8
     ·rfl
    ·(try simp only [zq0,aC,aA,aB,cV] at hc8)
     have hu1 := hc8.1
     have hu2 := hc8.2
     refine zL hG [] [0,1,0,1,1,1,1,1,1,1,1,1,1] (fun (zz : Nat) => match zz with | k3 => (a.rs.length - k3,⟨e3z ++ [zI 10 (k3 : Int)],[(100,y2 (S a.nm) a.ve (aC a.cs) (aA a.ss) (aB a.rs) a.st)]⟩,k3 <= a.rs.length /\ ∀ j,j < k3 -> f5 a j = true)) 0 aE ?_ ?_
     ·exact ⟨zl _,fun j hj => by omega⟩
     rintro k3 ⟨hk3,hrb⟩
     refine zc hG [] [1,0] (decide ((k3 : Int) < ((aB a.rs).length : Int))) aE (fun hc10 => ?_) (fun hc10 => ?_)
     ·(try simp only [zq0,aC,aA,aB,cV] at hc10)
      refine zc hG [(25,2,kB (f5 a k3))] [1,1,0,0,1] (!(f5 a k3)) (cS1 g (wT a k3 (by omega) hs (RightG.names hu2))) (fun hc11 => ?_) (fun hc11 => ?_)
      ·(try simp only [zq0,aC,aA,aB,cV] at hc11)
       refine zE hG [] .ret (⟨[zB 2 false],[]⟩) aE rfl ?_
       refine zR hG [] [] (.c (cB false)) [] aE ?_ ?_
       ·refine aR ?_
        symm; rw [<- Bool.not_eq_true,right_iff]; intro h
        have e1 := h.rk _ (bG (z := Rl.z) (show k3 < _ by omega)); have e2 := nodup_iff.1 h.rn k3 (by omega)
        have e3 : f5 a k3 = true := by rw [f5,e1,decide_eq_true e2]; rfl
        rw [e3] at hc11; exact absurd hc11 (by decide)
       ·rfl
      ·(try simp only [zq0,aC,aA,aB,cV] at hc11)
       refine zD hG [] (k3 + 1) (aG (by intros; (try simp only [zq2,aC,aA,aB] at *); omega : inR ((k3 : Int) + 1))) ?_ ?_
       ·(try dsimp only); omega
       ·exact ⟨by omega,aW hrb (by simpa using hc11)⟩
     ·(try simp only [zq0,aC,aA,aB,cV] at hc10)
      refine zE hG [] (.exit 4) (⟨[zB 2 false],[]⟩) aE rfl ?_
      refine zR hG [] [] (.c (cB true)) [] aE ?_ ?_
      ·refine aR ?_
       symm
       rw [right_iff]
       obtain ⟨⟨⟨⟨⟨⟨⟨⟨g1,g2⟩,g3⟩,g4⟩,g5⟩,g6⟩,g7⟩,g8⟩,g9⟩ := hhd
       exact ⟨g1,by omega,by omega,by omega,by omega,by omega,fun c hc => by have := at1.1 (tR Co.z (fun j hj => hcb j (by omega))) c hc; simp [aMK] at this; omega,fun c hc => by have := at1.1 (tR Sy.z (fun j hj => hsb j (by omega))) c hc; simp [syB] at this; omega,hu1,hu2,fun r hr => at1.1 (tR (p := d5 a) Rl.z (fun j hj => by have := hrb j (by omega); simp only [f5,bIQ] at this; exact this.1)) r hr,nodup_iff.2 fun j hj => by have := hrb j (by omega); simp only [f5,bIQ,decide_eq_true_eq] at this; exact this.2⟩
      ·rfl
def zq4 := And.intro @lm.{0,0} (And.intro @blS (@intsD.eq_1))
def zq5 := And.intro @lm.{0,0} (And.intro @Go.Eng.inR.eq_1 (And.intro @intsD.eq_1 (@maxLen.eq_1)))
abbrev y10 (a0 : LD) (a1 : Int) : Ob := .box 69 [cM 1 a0,cI a1]
theorem aAC (l : List Int) (k n : Int) (h : NumOk l k) (hn : n <= 1000000000000000001) :
  SpG g 33 [.c (.bx 0 0),.c (cI n)] [(0,y10 (intsD l) k)] (.c (cI (nxV l k n))) [(0,y10 (intsD l) (nxK l k n))] := by
 have h0 := h.k0; have h1 := h.k1; have h2 := h.k2
 have hk1 : k + 1 - 1 = k := by omega
 have hb : 1 <= n -> -n < (l.getD k.toNat 0).tmod n /\ (l.getD k.toNat 0).tmod n < n := aGL
 refine aQ 43 Tryz.func33 fun fr hG => ?_
 refine zC hG [] [1,0,1] ((decide ((k : Int) >= ((intsD l).length : Int))) || (decide ((n : Int) < 1))) (⟨[zX 0 0 0,zI 1 n,zI 4 0],[(0,y10 (intsD l) k)]⟩) aE (fun hc1 => ?_) (fun hc1 => ?_)
 (try simp only [zq4] at hc1)
 refine zR hG [] [] (.c (cI 0)) [(0,y10 (intsD l) k)] aE ?_ ?_
 rw [nxV,if_pos hc1]
 rw [nxK,if_pos hc1]
 (try simp only [zq4] at hc1)
 refine zR hG [(4,9,.elem (intD (l.getD ((k + 1) - 1 : Int).toNat 0)))] [] (.c (cI (Int.tmod ((Int.tmod (l.getD ((k + 1) - 1 : Int).toNat 0) n) + n) n))) [(0,y10 (intsD l) (k + 1))] (aD (by intros; (try rw [hk1]); (try simp only [zq5] at *); omega : inR (k + 1)) (aD (by intros; (try rw [hk1]); (try simp only [zq5] at *); omega : inR ((k + 1) - 1)) (aD (by intros; exact aK _ (by omega) (by (try simp only [zq1] at *); omega) : (0 : Int) <= ((k + 1) - 1) /\ (intsD l)[((k + 1) - 1 : Int).toNat]? = some (intD (l.getD ((k + 1) - 1 : Int).toNat 0))) (aD (by intros; (try rw [hk1]); (try simp only [zq5] at *); omega : n ≠ (0 : Int)) (aD (by intros; (try rw [hk1]); (try simp only [zq5] at *); omega : inR ((Int.tmod (l.getD ((k + 1) - 1 : Int).toNat 0) n) + n)) (aG (by intros; (try rw [hk1]); (try simp only [zq5] at *); omega : n ≠ (0 : Int)))))))) ?_ ?_
 rw [nxV,if_neg (by omega),hk1]
 rw [nxK,if_neg (by omega)]
end
section
open Go.Eng (inR byteAt u8 dD)
variable {g : Gv}
def cJ (n : Int) : List UInt8 := if n < 1 \/ n > 5 then [] else kindsL.getD n.toNat []
def kV {α : Type} (f : α -> List UInt8) (l : List α) (x : List UInt8) : Int := let i := l.findIdx (fun c => decide (f c = x)); if i < l.length then (i : Int) else -1
theorem aG4 {α : Type} {f : α -> List UInt8} {l : List α} {x : List UInt8} {k : Nat} (z : α) (hk : k < l.length) (he : f (l.getD k z) = x) (hn : ∀ j,j < k -> ¬ f (l.getD j z) = x) : kV f l x = k := by
 have e : l.findIdx (fun c => decide (f c = x)) = k := by
  rw [List.findIdx_eq hk]
  refine ⟨by simpa [gd,hk] using he,fun j hj => ?_⟩
  have := hn j hj
  simpa [gd,show j < l.length by omega] using this
 simp only [kV,e]; rw [if_pos hk]
theorem aG3 {α : Type} {f : α -> List UInt8} {l : List α} {x : List UInt8} (z : α) (hn : ∀ j,j < l.length -> ¬ f (l.getD j z) = x) : kV f l x = -1 := by
 have e : l.findIdx (fun c => decide (f c = x)) = l.length := by
  rw [List.findIdx_eq_length]
  intro y hy
  obtain ⟨j,hj,rfl⟩ := List.mem_iff_getElem.1 hy
  have := hn j hj
  simpa [gd,hj] using this
 simp only [kV,e]; rw [if_neg (by omega)]
theorem aAB {α : Type} (f : α -> List UInt8) (l : List α) (x : List UInt8) : (kV f l x >= 0) ↔ x ∈ l.map f := by
 simp only [kV]
 split
 rename_i h
 have := List.findIdx_getElem (w := h)
 simp only [decide_eq_true_eq] at this
 refine ⟨fun _ => mmQ.2 ⟨_,List.getElem_mem h,this⟩,fun _ => by omega⟩
 rename_i h
 refine ⟨fun h => by omega,fun hm => ?_⟩
 obtain ⟨c,hc,he⟩ := mmQ.1 hm
 exact absurd (List.findIdx_lt_length_of_exists ⟨c,hc,by simpa using he⟩) h
theorem aJ0 (a b : List Int) :
  SpG g 106 [.c (cM 1 (intsD a)),.c (cM 1 (intsD b))] [] (.c (cB (decide (a = b)))) [] := by
 refine aQ 26 Tryz.func106 fun fr hG => ?_
 refine dN 0 rfl fun hl0 => ?_
 refine dN 1 rfl fun hl1 => ?_
 refine zC hG [] [1,0,1] (!decide ((((intsD a).length : Int) : Int) = ((intsD b).length : Int))) (⟨[zM 0 1 (intsD a),zM 1 1 (intsD b),zB 4 false],[]⟩) aE (fun hc1 => ?_) (fun hc1 => ?_)
 (try simp only [zq0,aC,aA,aB,bZ,bX] at hc1)
 refine zR hG [] [] (.c (cB false)) [] aE ?_ ?_
 have : ¬ a = b := fun e => hc1 (by rw [e])
 simp [this]
 rfl
 (try simp only [zq0,aC,aA,aB,bZ,bX] at hc1)
 refine zL hG [] [0,1,0,1,1] (fun (zz : Nat) => match zz with | k => (a.length - k,⟨[zM 0 1 (intsD a),zM 1 1 (intsD b),zB 4 false,zI 12 ((intsD a).length : Int),zI 13 (k : Int)],[]⟩,k <= a.length /\ ∀ j,j < k -> a.getD j 0 = b.getD j 0)) 0 aE ?_ ?_
 exact ⟨zl _,fun j hj => by omega⟩
 rintro k ⟨hk,hn⟩
 refine zc hG [] [0,1] (decide ((k : Int) < ((intsD a).length : Int))) aE (fun hc3 => ?_) (fun hc3 => ?_)
 (try simp only [zq0,aC,aA,aB,bZ,bX] at hc3)
 refine zc hG [(6,2,.elem (intD (a.getD k 0))),(6,6,.elem (intD (b.getD k 0)))] [1,1,0,0,1,1] (!decide ((a.getD k 0 : Int) = (b.getD k 0))) (aD (by intros; exact aK _ (by omega) (by (try simp only [zq1] at *); omega) : (0 : Int) <= (k : Int) /\ (intsD a)[k]? = some (intD (a.getD k 0))) (aG (by intros; exact aK _ (by omega) (by (try simp only [zq1] at *); omega) : (0 : Int) <= (k : Int) /\ (intsD b)[k]? = some (intD (b.getD k 0))))) (fun hc4 => ?_) (fun hc4 => ?_)
 (try simp only [zq0,aC,aA,aB,bZ,bX] at hc4)
 refine zE hG [] .ret (⟨[zB 4 false],[]⟩) aE rfl ?_
 refine zR hG [] [] (.c (cB false)) [] aE ?_ ?_
 have : ¬ a = b := jW 0 (j := k) (by simpa using hc4)
 simp [this]
 rfl
 (try simp only [zq0,aC,aA,aB,bZ,bX] at hc4)
 refine zD hG [] (k + 1) (aG (by intros; (try simp only [zq2,aC,aA,aB] at *); omega : inR ((k : Int) + 1))) ?_ ?_
 (try dsimp only); omega
 exact ⟨by omega,aW hn (by simpa using hc4)⟩
 (try simp only [zq0,aC,aA,aB,bZ,bX] at hc3)
 refine zE hG [] (.exit 0) (⟨[zB 4 false],[]⟩) aE rfl ?_
 refine zR hG [] [] (.c (cB true)) [] aE ?_ ?_
 have : a = b := eI 0 (by omega) (fun j hj => hn j (by omega))
 simp [this]
 rfl
theorem aBM (a b : Rl) :
  SpG g 64 [y0 (a.h) (S a.op) (S a.pa) (intsD (a.ar)),y0 (b.h) (S b.op) (S b.pa) (intsD (b.ar))] [] (.c (cB (decide (a = b)))) [] := by
 refine aQ 31 Tryz.func64 fun fr hG => ?_
 refine zR hG [(1,24,kB (decide ((a.ar) = (b.ar))))] [] (.c (cB ((((decide ((a.h : Int) = (b.h))) && ((S a.op).toList == (S b.op).toList)) && ((S a.pa).toList == (S b.pa).toList)) && (decide ((a.ar) = (b.ar)))))) [] (aG (fun (hg1 : (((decide ((a.h : Int) = (b.h))) && ((S a.op).toList == (S b.op).toList)) && ((S a.pa).toList == (S b.pa).toList)) = true) => (aJ0 (a.ar) (b.ar) : SpG g _ _ _ _ _))) ?_ ?_
 obtain ⟨h,o,p,r⟩ := a; obtain ⟨h2,o2,p2,r2⟩ := b
 refine aR ?_
 simp only [lC]
 by_cases h1 : h = h2 <;> by_cases h2 : o = o2 <;> by_cases h3 : p = p2 <;> by_cases h4 : r = r2 <;> simp [h1,h2,h3,h4]
 rfl
theorem aJ1 (a b : List Co) :
  SpG g 61 [.c (cM 2 (aC a)),.c (cM 2 (aC b))] [] (.c (cB (decide (a = b)))) [] := by
 refine aQ 26 Tryz.func61 fun fr hG => ?_
 refine dN 0 rfl fun hl0 => ?_
 refine dN 1 rfl fun hl1 => ?_
 refine zC hG [] [1,0,1] (!decide ((((aC a).length : Int) : Int) = ((aC b).length : Int))) (⟨[zM 0 2 (aC a),zM 1 2 (aC b),zB 4 false],[]⟩) aE (fun hc1 => ?_) (fun hc1 => ?_)
 (try simp only [zq0,aC,aA,aB,bZ,bX] at hc1)
 refine zR hG [] [] (.c (cB false)) [] aE ?_ ?_
 have : ¬ a = b := fun e => hc1 (by rw [e])
 simp [this]
 rfl
 (try simp only [zq0,aC,aA,aB,bZ,bX] at hc1)
 refine zL hG [] [0,1,0,1,1] (fun (zz : Nat) => match zz with | k => (a.length - k,⟨[zM 0 2 (aC a),zM 1 2 (aC b),zB 4 false,zI 12 ((aC a).length : Int),zI 13 (k : Int)],[]⟩,k <= a.length /\ ∀ j,j < k -> a.getD j Co.z = b.getD j Co.z)) 0 aE ?_ ?_
 exact ⟨zl _,fun j hj => by omega⟩
 rintro k ⟨hk,hn⟩
 refine zc hG [] [0,1] (decide ((k : Int) < ((aC a).length : Int))) aE (fun hc3 => ?_) (fun hc3 => ?_)
 (try simp only [zq0,aC,aA,aB,bZ,bX] at hc3)
 refine zc hG [(6,2,.elem (CoD (a.getD k Co.z))),(6,6,.elem (CoD (b.getD k Co.z)))] [1,1,0,0,1,1] (!((S (a.getD k Co.z).nm) == (S (b.getD k Co.z).nm) && ((a.getD k Co.z).kd : Int) == ((b.getD k Co.z).kd))) (aD (by intros; exact aK _ (by omega) (by (try simp only [zq3,aC,aA,aB] at *); omega) : (0 : Int) <= (k : Int) /\ (aC a)[k]? = some (CoD (a.getD k Co.z))) (aG (by intros; exact aK _ (by omega) (by (try simp only [zq3,aC,aA,aB] at *); omega) : (0 : Int) <= (k : Int) /\ (aC b)[k]? = some (CoD (b.getD k Co.z))))) (fun hc4 => ?_) (fun hc4 => ?_)
 (try simp only [zq0,aC,aA,aB,bZ,bX] at hc4)
 refine zE hG [] .ret (⟨[zB 4 false],[]⟩) aE rfl ?_
 refine zR hG [] [] (.c (cB false)) [] aE ?_ ?_
 have : ¬ a = b := jW Co.z (j := k) (by simpa using hc4)
 simp [this]
 rfl
 (try simp only [zq0,aC,aA,aB,bZ,bX] at hc4)
 refine zD hG [] (k + 1) (aG (by intros; (try simp only [zq2,aC,aA,aB] at *); omega : inR ((k : Int) + 1))) ?_ ?_
 (try dsimp only); omega
 exact ⟨by omega,aW hn (by simpa using hc4)⟩
 (try simp only [zq0,aC,aA,aB,bZ,bX] at hc3)
 refine zE hG [] (.exit 0) (⟨[zB 4 false],[]⟩) aE rfl ?_
 refine zR hG [] [] (.c (cB true)) [] aE ?_ ?_
 have : a = b := eI Co.z (by omega) (fun j hj => hn j (by omega))
 simp [this]
 rfl
theorem aJZ (a b : List Sy) :
  SpG g 62 [.c (cM 3 (aA a)),.c (cM 3 (aA b))] [] (.c (cB (decide (a = b)))) [] := by
 refine aQ 26 Tryz.func62 fun fr hG => ?_
 refine dN 0 rfl fun hl0 => ?_
 refine dN 1 rfl fun hl1 => ?_
 refine zC hG [] [1,0,1] (!decide ((((aA a).length : Int) : Int) = ((aA b).length : Int))) (⟨[zM 0 3 (aA a),zM 1 3 (aA b),zB 4 false],[]⟩) aE (fun hc1 => ?_) (fun hc1 => ?_)
 (try simp only [zq0,aC,aA,aB,bZ,bX] at hc1)
 refine zR hG [] [] (.c (cB false)) [] aE ?_ ?_
 have : ¬ a = b := fun e => hc1 (by rw [e])
 simp [this]
 rfl
 (try simp only [zq0,aC,aA,aB,bZ,bX] at hc1)
 refine zL hG [] [0,1,0,1,1] (fun (zz : Nat) => match zz with | k => (a.length - k,⟨[zM 0 3 (aA a),zM 1 3 (aA b),zB 4 false,zI 12 ((aA a).length : Int),zI 13 (k : Int)],[]⟩,k <= a.length /\ ∀ j,j < k -> a.getD j Sy.z = b.getD j Sy.z)) 0 aE ?_ ?_
 exact ⟨zl _,fun j hj => by omega⟩
 rintro k ⟨hk,hn⟩
 refine zc hG [] [0,1] (decide ((k : Int) < ((aA a).length : Int))) aE (fun hc3 => ?_) (fun hc3 => ?_)
 (try simp only [zq0,aC,aA,aB,bZ,bX] at hc3)
 refine zc hG [(6,2,.elem (SyD (a.getD k Sy.z))),(6,6,.elem (SyD (b.getD k Sy.z)))] [1,1,0,0,1,1] (!((S (a.getD k Sy.z).nm) == (S (b.getD k Sy.z).nm) && ((a.getD k Sy.z).kd : Int) == ((b.getD k Sy.z).kd) && ((a.getD k Sy.z).mx : Int) == ((b.getD k Sy.z).mx))) (aD (by intros; exact aK _ (by omega) (by (try simp only [zq3,aC,aA,aB] at *); omega) : (0 : Int) <= (k : Int) /\ (aA a)[k]? = some (SyD (a.getD k Sy.z))) (aG (by intros; exact aK _ (by omega) (by (try simp only [zq3,aC,aA,aB] at *); omega) : (0 : Int) <= (k : Int) /\ (aA b)[k]? = some (SyD (b.getD k Sy.z))))) (fun hc4 => ?_) (fun hc4 => ?_)
 (try simp only [zq0,aC,aA,aB,bZ,bX] at hc4)
 refine zE hG [] .ret (⟨[zB 4 false],[]⟩) aE rfl ?_
 refine zR hG [] [] (.c (cB false)) [] aE ?_ ?_
 have : ¬ a = b := jW Sy.z (j := k) (by simpa using hc4)
 simp [this]
 rfl
 (try simp only [zq0,aC,aA,aB,bZ,bX] at hc4)
 refine zD hG [] (k + 1) (aG (by intros; (try simp only [zq2,aC,aA,aB] at *); omega : inR ((k : Int) + 1))) ?_ ?_
 (try dsimp only); omega
 exact ⟨by omega,aW hn (by simpa using hc4)⟩
 (try simp only [zq0,aC,aA,aB,bZ,bX] at hc3)
 refine zE hG [] (.exit 0) (⟨[zB 4 false],[]⟩) aE rfl ?_
 refine zR hG [] [] (.c (cB true)) [] aE ?_ ?_
 have : a = b := eI Sy.z (by omega) (fun j hj => hn j (by omega))
 simp [this]
 rfl
theorem aIF (a b : List Rl) :
  SpG g 63 [.c (cM 4 (aB a)),.c (cM 4 (aB b)),.c (.d (.v (.func (.func 64) #[] #[])))] [] (.c (cB (decide (a = b)))) [] := by
 refine aQ 32 Tryz.func63 fun fr hG => ?_
 refine dN 0 rfl fun hl0 => ?_
 refine dN 1 rfl fun hl1 => ?_
 refine zC hG [] [1,0,1] (!decide ((((aB a).length : Int) : Int) = ((aB b).length : Int))) (⟨[zM 0 4 (aB a),zM 1 4 (aB b),(2,[],.c (.d (.v (.func (.func 64) #[] #[])))),zB 6 false],[]⟩) aE (fun hc1 => ?_) (fun hc1 => ?_)
 (try simp only [zq0,aC,aA,aB,bZ,bX] at hc1)
 refine zR hG [] [] (.c (cB false)) [] aE ?_ ?_
 have : ¬ a = b := fun e => hc1 (by rw [e])
 simp [this]
 rfl
 (try simp only [zq0,aC,aA,aB,bZ,bX] at hc1)
 refine zL hG [] [0,1,0,1,1] (fun (zz : Nat) => match zz with | k => (a.length - k,⟨[zM 1 4 (aB b),(2,[],.c (.d (.v (.func (.func 64) #[] #[])))),zB 6 false,zM 15 4 (aB a),zI 16 ((aB a).length : Int),zI 17 (k : Int)],[]⟩,k <= a.length /\ ∀ j,j < k -> a.getD j Rl.z = b.getD j Rl.z)) 0 aE ?_ ?_
 exact ⟨zl _,fun j hj => by omega⟩
 rintro k ⟨hk,hn⟩
 refine zc hG [] [0,1] (decide ((k : Int) < ((aB a).length : Int))) aE (fun hc3 => ?_) (fun hc3 => ?_)
 (try simp only [zq0,aC,aA,aB,bZ,bX] at hc3)
 refine zc hG [(5,1,.elem (RlD (a.getD k Rl.z))),(6,2,.elem (RlD (b.getD k Rl.z))),(7,3,kB (decide ((a.getD k Rl.z) = (b.getD k Rl.z))))] [1,1,1,0,0,1,1] (!(decide ((a.getD k Rl.z) = (b.getD k Rl.z)))) (aD (by intros; exact aK _ (by omega) (by (try simp only [zq3,aC,aA,aB] at *); omega) : (0 : Int) <= (k : Int) /\ (aB a)[k]? = some (RlD (a.getD k Rl.z))) (aD (by intros; exact aK _ (by omega) (by (try simp only [zq3,aC,aA,aB] at *); omega) : (0 : Int) <= (k : Int) /\ (aB b)[k]? = some (RlD (b.getD k Rl.z))) (cS1 g (aBM (a.getD k Rl.z) (b.getD k Rl.z))))) (fun hc4 => ?_) (fun hc4 => ?_)
 (try simp only [zq0,aC,aA,aB,bZ,bX] at hc4)
 refine zE hG [] .ret (⟨[zB 6 false],[]⟩) aE rfl ?_
 refine zR hG [] [] (.c (cB false)) [] aE ?_ ?_
 have : ¬ a = b := jW Rl.z (j := k) (by simpa using hc4)
 simp [this]
 rfl
 (try simp only [zq0,aC,aA,aB,bZ,bX] at hc4)
 refine zD hG [] (k + 1) (aG (by intros; (try simp only [zq2,aC,aA,aB] at *); omega : inR ((k : Int) + 1))) ?_ ?_
 (try dsimp only); omega
 exact ⟨by omega,aW hn (by simpa using hc4)⟩
 (try simp only [zq0,aC,aA,aB,bZ,bX] at hc3)
 refine zE hG [] (.exit 0) (⟨[zB 6 false],[]⟩) aE rfl ?_
 refine zR hG [] [] (.c (cB true)) [] aE ?_ ?_
 have : a = b := eI Rl.z (by omega) (fun j hj => hn j (by omega))
 simp [this]
 rfl
theorem eY (a b : Gr) :
  SpG g 25 [y1 (S a.nm) a.ve (aC a.cs) (aA a.ss) (aB a.rs) a.st,y1 (S b.nm) b.ve (aC b.cs) (aA b.ss) (aB b.rs) b.st] [] (.c (cB (decide (a = b)))) [] := by
 refine aQ 45 Tryz.func25 fun fr hG => ?_
 refine zR hG [(1,24,kB (decide ((a.cs) = (b.cs)))),(1,31,kB (decide ((a.ss) = (b.ss)))),(1,38,kB (decide ((a.rs) = (b.rs))))] [] (.c (cB (((((((S a.nm).toList == (S b.nm).toList) && (decide ((a.ve : Int) = b.ve))) && (decide ((a.st : Int) = b.st))) && (decide ((a.cs) = (b.cs)))) && (decide ((a.ss) = (b.ss)))) && (decide ((a.rs) = (b.rs)))))) [] (aD (fun (hg1 : ((((S a.nm).toList == (S b.nm).toList) && (decide ((a.ve : Int) = b.ve))) && (decide ((a.st : Int) = b.st))) = true) => (aJ1 (a.cs) (b.cs) : SpG g _ _ _ _ _)) (aD (fun (hg1 : (((((S a.nm).toList == (S b.nm).toList) && (decide ((a.ve : Int) = b.ve))) && (decide ((a.st : Int) = b.st))) && (decide ((a.cs) = (b.cs)))) = true) => (aJZ (a.ss) (b.ss) : SpG g _ _ _ _ _)) (aG (fun (hg1 : ((((((S a.nm).toList == (S b.nm).toList) && (decide ((a.ve : Int) = b.ve))) && (decide ((a.st : Int) = b.st))) && (decide ((a.cs) = (b.cs)))) && (decide ((a.ss) = (b.ss)))) = true) => (aIF (a.rs) (b.rs) : SpG g _ _ _ _ _))))) ?_ ?_
 obtain ⟨a1,a2,a3,a4,a5,a6⟩ := a; obtain ⟨b1,b2,b3,b4,b5,b6⟩ := b
 refine aR ?_
 simp only [lC]
 by_cases h1 : a1 = b1 <;> by_cases h2 : a2 = b2 <;> by_cases h3 : a3 = b3 <;> by_cases h4 : a4 = b4 <;> by_cases h5 : a5 = b5 <;> by_cases h6 : a6 = b6 <;> simp [h1,h2,h3,h4,h5,h6]
 rfl
end
section
open Go.Eng (inR byteAt u8 dD)
variable {g : Gv}
theorem bK (l : List UInt8) : bA (S l) = a7 l := rfl
theorem has_ix {α : Type} {f : α -> List UInt8} {l : List α} {x : List UInt8} : decide (kV f l x >= 0) = decide (x ∈ l.map f) := by
 have := aAB f l x
 by_cases h : x ∈ l.map f <;> simp [h,this]
theorem aIU (n : Int) : (cJ n = []) ↔ (n < 1 \/ n > 5) := by
 unfold cJ
 split
 simp [*]
 rename_i h
 have : n = 1 \/ n = 2 \/ n = 3 \/ n = 4 \/ n = 5 := by omega
 rcases this with rfl | rfl | rfl | rfl | rfl <;> simp [kindsL]
theorem bM (n : Int) : ((S (cJ n)).toList == (S []).toList) = (decide (n < 1) || decide (n > 5)) := by
 rw [lC]
 have := aIU n
 by_cases h : n < 1 \/ n > 5
 simp only [this,h,decide_true]; rcases h with h | h <;> simp [h]
 simp only [this,h,decide_false]; simp; omega
def tW (l : List Rl) (x : Rl) : Int := let i := l.findIdx (fun c => decide (c = x)); if i < l.length then (i : Int) else -1
theorem rlIx_at {l : List Rl} {x : Rl} {k : Nat} (hk : k < l.length) (he : l.getD k Rl.z = x) (hn : ∀ j,j < k -> ¬ l.getD j Rl.z = x) : tW l x = k := by
 have e : l.findIdx (fun c => decide (c = x)) = k := by
  rw [List.findIdx_eq hk]
  refine ⟨by simpa [gd,hk] using he,fun j hj => ?_⟩
  have := hn j hj
  simpa [gd,show j < l.length by omega] using this
 simp only [tW,e]; rw [if_pos hk]
theorem rlIx_no {l : List Rl} {x : Rl} (hn : ∀ j,j < l.length -> ¬ l.getD j Rl.z = x) : tW l x = -1 := by
 have e : l.findIdx (fun c => decide (c = x)) = l.length := by
  rw [List.findIdx_eq_length]
  intro y hy
  obtain ⟨j,hj,rfl⟩ := List.mem_iff_getElem.1 hy
  have := hn j hj
  simpa [gd,hj] using this
 simp only [tW,e]; rw [if_neg (by omega)]
theorem rlIx_ge (l : List Rl) (x : Rl) : decide (tW l x >= 0) = decide (x ∈ l) := by
 have : (tW l x >= 0) ↔ x ∈ l := by
  simp only [tW]
  split
  rename_i h
  have := List.findIdx_getElem (w := h)
  simp only [decide_eq_true_eq] at this
  exact ⟨fun _ => this ▸ List.getElem_mem h,fun _ => by omega⟩
  rename_i h
  refine ⟨fun h => by omega,fun hm => ?_⟩
  exact absurd (List.findIdx_lt_length_of_exists ⟨x,hm,by simp⟩) h
 by_cases h : x ∈ l <;> simp [h,this]
theorem pPar_ok (s : ByteArray) (hs : s.size <= maxLen) :
  SpG g 125 [.c (cS s)] [] (.c (cB (lJ s))) [] := by
 unfold maxLen at hs
 refine aQ 23 Tryz.func125 fun fr hG => ?_
 refine zP hG [] [1,0,1] (((s.size : Int) : Int) > 60) (⟨[zS 0 s,zB 2 false],[]⟩) aE (fun hc1 => ?_) (fun hc1 => ?_)
 skip
 refine zR hG [] [] (.c (cB false)) [] aE ?_ ?_
 refine aR ?_
 rw [lJ,decide_eq_false (by omega)]; rfl
 rfl
 skip
 refine zL hG [] [0,1,0,1,1] (fun (zz : Nat) => match zz with | k => (s.size - k,⟨[zS 0 s,zB 2 false,zI 8 (s.size : Int),zI 9 (k : Int)],[]⟩,k <= s.size /\ (bs s).all iX = ((bs s).drop k).all iX)) 0 aE ?_ ?_
 exact ⟨zl _,rfl⟩
 rintro k ⟨hk,hall⟩
 refine zp hG [] [0,1] ((k : Int) < (s.size : Int)) aE (fun hc3 => ?_) (fun hc3 => ?_)
 skip
 refine zc hG [] [1,1,0,0,1,1] ((decide ((byteAt s (k : Int) : Int) < 32)) || (decide ((byteAt s (k : Int) : Int) > 126))) (aD (by intros; first | omega | decide | (simp only [inR,blS] at *; omega) : (0 : Int) <= (k : Int) /\ (k : Int) < (s.size : Int)) (aG (by intros; first | omega | decide | (simp only [inR,blS] at *; omega) : (decide ((byteAt s (k : Int) : Int) < 32)) = false -> (0 : Int) <= (k : Int) /\ (k : Int) < (s.size : Int)))) (fun hc4 => ?_) (fun hc4 => ?_)
 (try simp only [blS] at hc4)
 refine zE hG [] .ret (⟨[zB 2 false],[]⟩) aE rfl ?_
 refine zR hG [] [] (.c (cB false)) [] aE ?_ ?_
 refine aR ?_
 rw [lJ,hall,hM s k (by omega)]; simp only [dX] at hc4; simp [iX]; omega
 rfl
 (try simp only [blS] at hc4)
 refine zD hG [] (k + 1) (aG (by intros; first | omega | decide | (simp only [inR,blS] at *; omega) : inR ((k : Int) + 1))) ?_ ?_
 (try dsimp only); omega
 exact ⟨by omega,by rw [hall,hM s k (by omega)]; simp only [dX] at hc4; simp [iX]; omega⟩
 skip
 refine zE hG [] (.exit 0) (⟨[zB 2 false],[]⟩) aE rfl ?_
 refine zR hG [] [] (.c (cB true)) [] aE ?_ ?_
 refine aR ?_
 rw [lJ,hall,aA0 s k (by omega),decide_eq_true (by omega)]; rfl
 rfl
theorem mJ (s : ByteArray) (hs : s.size <= maxLen) :
  SpG g 76 [.c (cS s)] [] (.c (cB (bA s))) [] := by
 unfold maxLen at hs
 refine aQ 55 Tryz.func76 fun fr hG => ?_
 refine zC hG [] [1,0,1] ((decide (((s.size : Int) : Int) < 1)) || (decide (((s.size : Int) : Int) > 20))) (⟨[zS 0 s,zB 2 false],[]⟩) aE (fun hc1 => ?_) (fun hc1 => ?_)
 (try simp only [blS] at hc1)
 refine zR hG [] [] (.c (cB false)) [] aE ?_ ?_
 refine aR ?_
 symm
 rcases (by omega : ¬ 1 <= s.size \/ ¬ s.size <= 20) with h | h <;> simp [bA,h]
 rfl
 (try simp only [blS] at hc1)
 refine zL hG [] [0,1,0,1,1] (fun (zz : Nat) => match zz with | k => (s.size - k,⟨[zS 0 s,zB 2 false,zI 15 (s.size : Int),zI 16 (k : Int)],[]⟩,k <= s.size /\ (bs s).all bS = ((bs s).drop k).all bS /\ (0 < k -> cK (bAt s 0).toNat = true))) 0 aE ?_ ?_
 exact ⟨zl _,rfl,fun h => absurd h (by decide)⟩
 rintro k ⟨hk,hall,hlt⟩
 refine zp hG [] [0,1] ((k : Int) < (s.size : Int)) aE (fun hc3 => ?_) (fun hc3 => ?_)
 skip
 refine zc hG [] [1,1,1,1,0,0,1,1] ((!(((decide ((97 : Int) <= (byteAt s (k : Int)))) && (decide ((byteAt s (k : Int) : Int) <= 122))) || ((decide ((65 : Int) <= (byteAt s (k : Int)))) && (decide ((byteAt s (k : Int) : Int) <= 90))))) && ((decide ((k : Int) = 0)) || ((!decide ((byteAt s (k : Int) : Int) = 95)) && ((decide ((byteAt s (k : Int) : Int) < 48)) || (decide ((byteAt s (k : Int) : Int) > 57)))))) (aG (by intros; first | omega | decide | (simp only [inR,blS] at *; omega) : (0 : Int) <= (k : Int) /\ (k : Int) < (s.size : Int))) (fun hc4 => ?_) (fun hc4 => ?_)
 (try simp only [blS] at hc4)
 refine zE hG [] .ret (⟨[zB 2 false],[]⟩) aE rfl ?_
 refine zR hG [] [] (.c (cB false)) [] aE ?_ ?_
 refine aR ?_
 symm
 simp only [dX] at hc4
 rcases Nat.eq_zero_or_pos k with h0 | h0
 subst h0
 have hl : cK (bAt s 0).toNat = false := by simp [cK]; omega
 simp [bA,hl]
 exact vM (by rw [hall,hM s k (by omega)]; simp [bS,cK]; omega)
 rfl
 (try simp only [blS] at hc4)
 refine zD hG [] (k + 1) (aG (by intros; first | omega | decide | (simp only [inR,blS] at *; omega) : inR ((k : Int) + 1))) ?_ ?_
 (try dsimp only); omega
 simp only [dX] at hc4
 refine ⟨by omega,?_,fun _ => ?_⟩
 have ht : bS (bAt s k) = true := by simp [bS,cK]; omega
 rw [hall,hM s k (by omega),List.all_cons,ht,Bool.true_and]
 rcases Nat.eq_zero_or_pos k with h0 | h0
 subst h0; simp [cK]; omega
 exact hlt h0
 skip
 refine zE hG [] (.exit 0) (⟨[zB 2 false],[]⟩) aE rfl ?_
 refine zR hG [] [] (.c (cB true)) [] aE ?_ ?_
 refine aR ?_
 symm
 have h1 : (bs s).all bS = true := by rw [hall,aA0 s k (by omega)]; rfl
 have h2 := hlt (by omega)
 simp [bA,h1,h2]; omega
 rfl
theorem mK (n : Int) :
  SpG g 42 [.c (cI n)] [] (.c (cS (S (cJ n)))) [] := by
 refine aQ 14 Tryz.func42 fun fr hG => ?_
 refine zP hG [] [1,0,1,0,1] ((n : Int) = 1) (⟨[zS 2 (S []),zI 3 n],[]⟩) aE (fun hc1 => ?_) (fun hc1 => ?_)
 skip
 refine zR hG [] [] (.c (cS (S [116,101,120,116]))) [] aE ?_ ?_
 rw [show n = 1 by omega]; rfl
 rfl
 skip
 refine zp hG [] [1,1,1,0,1,0,1] ((n : Int) = 2) aE (fun hc2 => ?_) (fun hc2 => ?_)
 skip
 refine zR hG [] [] (.c (cS (S [110,117,109,98,101,114]))) [] aE ?_ ?_
 rw [show n = 2 by omega]; rfl
 rfl
 skip
 refine zp hG [] [1,1,1,1,1,0,1,0,1] ((n : Int) = 3) aE (fun hc3 => ?_) (fun hc3 => ?_)
 skip
 refine zR hG [] [] (.c (cS (S [100,97,116,101]))) [] aE ?_ ?_
 rw [show n = 3 by omega]; rfl
 rfl
 skip
 refine zp hG [] [1,1,1,1,1,1,1,0,1,0,1] ((n : Int) = 4) aE (fun hc4 => ?_) (fun hc4 => ?_)
 skip
 refine zR hG [] [] (.c (cS (S [98,111,111,108]))) [] aE ?_ ?_
 rw [show n = 4 by omega]; rfl
 rfl
 skip
 refine zP hG [] [1,1,1,1,1,1,1,1,1,0,1,0,1] ((n : Int) = 5) (⟨[zS 2 (S [])],[]⟩) aE (fun hc5 => ?_) (fun hc5 => ?_)
 skip
 refine zR hG [] [] (.c (cS (S [116,97,98,108,101]))) [] aE ?_ ?_
 rw [show n = 5 by omega]; rfl
 rfl
 skip
 refine zR hG [] [] (.c (cS (S []))) [] aE ?_ ?_
 rw [cJ,if_pos (by omega)]
 rfl
theorem wX (a : Gr) (n : Int) :
  SpG g 81 [y1 (S a.nm) a.ve (aC a.cs) (aA a.ss) (aB a.rs) a.st,.c (cI n)] [] (.c (cB (gA a n))) [] := by
 refine aQ 14 Tryz.func81 fun fr hG => ?_
 refine zR hG [] [] (.c (cB ((decide ((n : Int) >= 0)) && (decide ((n : Int) < ((aA a.ss).length : Int)))))) [] aE ?_ ?_
 refine aR ?_
 simp [gA,aA]
 rfl
theorem cIxc_ok (c : Co) (x : List UInt8) :
  SpG g 122 [.agg [cS (S c.nm),cI (c.kd)],.c (.bx 0 0)] [(0,.box 9 [cS (S x)])] (.c (cB (decide (c.nm = x)))) [(0,.box 9 [cS (S x)])] := by
 refine aQ 8 Tryz.func122 fun fr hG => ?_
 refine zR hG [] [] (.c (cB ((S c.nm).toList == (S x).toList))) [(0,.box 9 [cS (S x)])] aE ?_ ?_
 refine aR ?_
 rw [lC]
 rfl
theorem cIx_ok (l : List Co) (x : List UInt8) :
  SpG g 165 [.c (cM 2 (aC l)),.c (.fn 122 [] [(0,0)])] [(0,.box 9 [cS (S x)])] (.c (cI (kV (·.nm) l x))) [(0,.box 9 [cS (S x)])] := by
 refine aQ 19 Tryz.func165 fun fr hG => ?_
 refine dN 0 rfl fun hl0 => ?_
 refine zL hG [] [0,1,0,1] (fun (zz : Nat) => match zz with | k => (l.length - k,⟨[zM 0 2 (aC l),(1,[],.c (.fn 122 [] [(0,0)])),zI 4 0,zI 7 ((aC l).length : Int),zI 8 (k : Int)],[(0,.box 9 [cS (S x)])]⟩,k <= l.length /\ ∀ j,j < k -> ¬ (l.getD j Co.z).nm = x)) 0 aE ?_ ?_
 ·exact ⟨zl _,fun j hj => by omega⟩
 rintro k ⟨hk,hn⟩
 refine zc hG [] [0,1] (decide ((k : Int) < ((aC l).length : Int))) aE (fun hc2 => ?_) (fun hc2 => ?_)
 ·(try simp only [zq0,aC,aA,aB] at hc2)
  refine zC hG [(4,3,.elem (CoD (l.getD k Co.z))),(4,5,.call (.c (cB (decide ((l.getD k Co.z).nm = x)))) [] [[.s (S x)]])] [1,1,0,0,1,1] (decide ((l.getD k Co.z).nm = x)) (⟨[zM 0 2 (aC l),(1,[],.c (.fn 122 [] [(0,0)])),zI 4 0,zI 5 (k : Int),zI 7 ((aC l).length : Int),zI 8 (k : Int)],[(0,.box 9 [cS (S x)])]⟩) (aD (by intros; exact aK _ (by omega) (by (try simp only [zq3,aC,aA,aB] at *); omega) : (0 : Int) <= (k : Int) /\ (aC l)[k]? = some (CoD (l.getD k Co.z))) (cS1 g (cIxc_ok (l.getD k Co.z) x))) (fun hc3 => ?_) (fun hc3 => ?_)
  ·(try simp only [zq0,aC,aA,aB] at hc3)
   refine zE hG [] .ret (⟨[zI 4 (k : Int)],[(0,.box 9 [cS (S x)])]⟩) aE rfl ?_
   refine zR hG [] [] (.c (cI (k : Int))) [(0,.box 9 [cS (S x)])] aE ?_ ?_
   ·rw [aG4 (k := k) Co.z (by omega) (by simpa using hc3) hn]
   ·rfl
  ·(try simp only [zq0,aC,aA,aB] at hc3)
   refine zD hG [] (k + 1) (aG (by intros; (try simp only [zq2,aC,aA,aB] at *); omega : inR ((k : Int) + 1))) ?_ ?_
   ·(try dsimp only); omega
   ·exact ⟨by omega,aW hn (by simpa using hc3)⟩
 ·(try simp only [zq0,aC,aA,aB] at hc2)
  refine zE hG [] (.exit 0) (⟨[zI 4 0],[(0,.box 9 [cS (S x)])]⟩) aE rfl ?_
  refine zR hG [] [] (.c (cI (-1))) [(0,.box 9 [cS (S x)])] aE ?_ ?_
  ·rw [aG3 Co.z (fun j hj => hn j (by omega))]
  ·rfl
theorem sIxc_ok (c : Sy) (x : List UInt8) :
  SpG g 124 [.agg [cS (S c.nm),cI (c.kd),cI (c.mx)],.c (.bx 0 0)] [(0,.box 9 [cS (S x)])] (.c (cB (decide (c.nm = x)))) [(0,.box 9 [cS (S x)])] := by
 refine aQ 8 Tryz.func124 fun fr hG => ?_
 refine zR hG [] [] (.c (cB ((S c.nm).toList == (S x).toList))) [(0,.box 9 [cS (S x)])] aE ?_ ?_
 refine aR ?_
 rw [lC]
 rfl
theorem sIx_ok (l : List Sy) (x : List UInt8) :
  SpG g 123 [.c (cM 3 (aA l)),.c (.fn 124 [] [(0,0)])] [(0,.box 9 [cS (S x)])] (.c (cI (kV (·.nm) l x))) [(0,.box 9 [cS (S x)])] := by
 refine aQ 19 Tryz.func123 fun fr hG => ?_
 refine dN 0 rfl fun hl0 => ?_
 refine zL hG [] [0,1,0,1] (fun (zz : Nat) => match zz with | k => (l.length - k,⟨[zM 0 3 (aA l),(1,[],.c (.fn 124 [] [(0,0)])),zI 4 0,zI 7 ((aA l).length : Int),zI 8 (k : Int)],[(0,.box 9 [cS (S x)])]⟩,k <= l.length /\ ∀ j,j < k -> ¬ (l.getD j Sy.z).nm = x)) 0 aE ?_ ?_
 ·exact ⟨zl _,fun j hj => by omega⟩
 rintro k ⟨hk,hn⟩
 refine zc hG [] [0,1] (decide ((k : Int) < ((aA l).length : Int))) aE (fun hc2 => ?_) (fun hc2 => ?_)
 ·(try simp only [zq0,aC,aA,aB] at hc2)
  refine zC hG [(4,3,.elem (SyD (l.getD k Sy.z))),(4,5,.call (.c (cB (decide ((l.getD k Sy.z).nm = x)))) [] [[.s (S x)]])] [1,1,0,0,1,1] (decide ((l.getD k Sy.z).nm = x)) (⟨[zM 0 3 (aA l),(1,[],.c (.fn 124 [] [(0,0)])),zI 4 0,zI 5 (k : Int),zI 7 ((aA l).length : Int),zI 8 (k : Int)],[(0,.box 9 [cS (S x)])]⟩) (aD (by intros; exact aK _ (by omega) (by (try simp only [zq3,aC,aA,aB] at *); omega) : (0 : Int) <= (k : Int) /\ (aA l)[k]? = some (SyD (l.getD k Sy.z))) (cS1 g (sIxc_ok (l.getD k Sy.z) x))) (fun hc3 => ?_) (fun hc3 => ?_)
  ·(try simp only [zq0,aC,aA,aB] at hc3)
   refine zE hG [] .ret (⟨[zI 4 (k : Int)],[(0,.box 9 [cS (S x)])]⟩) aE rfl ?_
   refine zR hG [] [] (.c (cI (k : Int))) [(0,.box 9 [cS (S x)])] aE ?_ ?_
   ·rw [aG4 (k := k) Sy.z (by omega) (by simpa using hc3) hn]
   ·rfl
  ·(try simp only [zq0,aC,aA,aB] at hc3)
   refine zD hG [] (k + 1) (aG (by intros; (try simp only [zq2,aC,aA,aB] at *); omega : inR ((k : Int) + 1))) ?_ ?_
   ·(try dsimp only); omega
   ·exact ⟨by omega,aW hn (by simpa using hc3)⟩
 ·(try simp only [zq0,aC,aA,aB] at hc2)
  refine zE hG [] (.exit 0) (⟨[zI 4 0],[(0,.box 9 [cS (S x)])]⟩) aE rfl ?_
  refine zR hG [] [] (.c (cI (-1))) [(0,.box 9 [cS (S x)])] aE ?_ ?_
  ·rw [aG3 Sy.z (fun j hj => hn j (by omega))]
  ·rfl
theorem cHas_ok (l : List Co) (x : List UInt8) :
  SpG g 121 [.c (cM 2 (aC l)),.c (.fn 122 [] [(0,0)])] [(0,.box 9 [cS (S x)])] (.c (cB (decide (x ∈ l.map (·.nm))))) [(0,.box 9 [cS (S x)])] := by
 refine aQ 9 Tryz.func121 fun fr hG => ?_
 refine zR hG [(1,2,.callG (.c (cI (kV (·.nm) l x))) [0] ((99999,.box 0 []) :: [(0,.box 9 [cS (S x)])]))] [] (.c (cB (decide ((kV (·.nm) l x : Int) >= 0)))) [(0,.box 9 [cS (S x)])] (aD (And.intro (And.intro (rfl : (some (.box 9 [cS (S x)]) : Option Ob) = some (.box 9 [cS (S x)])) trivial) (rfl : true = true)) (cS1 g (cIx_ok l x))) ?_ ?_
 ·refine aR ?_
  exact has_ix
 ·rfl
theorem aIZ (l : List Co) (x : List UInt8) :
  SpG g 77 [.c (cM 2 (aC l)),.c (cS (S x))] [] (.c (cB (decide (x ∈ l.map (·.nm))))) [] := by
 refine aQ 8 Tryz.func77 fun fr hG => ?_
 exact zr hG [(1,2,.callG (.c (cB (decide (x ∈ l.map (·.nm))))) [100] ((99999,.box 0 []) :: [(0,.box 9 [cS (S x)])]))] [] (aD (And.intro (And.intro (rfl : (some (.box 9 [cS (S x)]) : Option Ob) = some (.box 9 [cS (S x)])) trivial) (rfl : true = true)) (cS1 g (cHas_ok l x)))
theorem aJS (l : List Sy) (x : List UInt8) :
  SpG g 78 [.c (cM 3 (aA l)),.c (cS (S x))] [] (.c (cI (kV (·.nm) l x))) [] := by
 refine aQ 8 Tryz.func78 fun fr hG => ?_
 exact zr hG [(1,2,.callG (.c (cI (kV (·.nm) l x))) [100] ((99999,.box 0 []) :: [(0,.box 9 [cS (S x)])]))] [] (aD (And.intro (And.intro (rfl : (some (.box 9 [cS (S x)]) : Option Ob) = some (.box 9 [cS (S x)])) trivial) (rfl : true = true)) (cS1 g (sIx_ok l x)))
theorem rIxc_ok (r x : Rl) :
  SpG g 127 [y0 (r.h) (S r.op) (S r.pa) (intsD (r.ar)),.c (.bx 0 0)] [(0,y9 (x.h) (S x.op) (S x.pa) (intsD (x.ar)))] (.c (cB (decide (r = x)))) [(0,y9 (x.h) (S x.op) (S x.pa) (intsD (x.ar)))] := by
 refine aQ 7 Tryz.func127 fun fr hG => ?_
 exact zr hG [(1,2,kB (decide (r = x)))] [] (cS1 g (aBM r x))
theorem rIx_ok (l : List Rl) (x : Rl) :
  SpG g 166 [.c (cM 4 (aB l)),.c (.fn 127 [] [(0,0)])] [(0,y9 (x.h) (S x.op) (S x.pa) (intsD (x.ar)))] (.c (cI (tW l x))) [(0,y9 (x.h) (S x.op) (S x.pa) (intsD (x.ar)))] := by
 refine aQ 19 Tryz.func166 fun fr hG => ?_
 refine dN 0 rfl fun hl0 => ?_
 refine zL hG [] [0,1,0,1] (fun (zz : Nat) => match zz with | k => (l.length - k,⟨[zM 0 4 (aB l),(1,[],.c (.fn 127 [] [(0,0)])),zI 4 0,zI 7 ((aB l).length : Int),zI 8 (k : Int)],[(0,y9 (x.h) (S x.op) (S x.pa) (intsD (x.ar)))]⟩,k <= l.length /\ ∀ j,j < k -> ¬ l.getD j Rl.z = x)) 0 aE ?_ ?_
 exact ⟨zl _,fun j hj => by omega⟩
 rintro k ⟨hk,hn⟩
 refine zc hG [] [0,1] (decide ((k : Int) < ((aB l).length : Int))) aE (fun hc2 => ?_) (fun hc2 => ?_)
 (try simp only [zq0,aC,aA,aB] at hc2)
 refine zC hG [(4,3,.elem (RlD (l.getD k Rl.z))),(4,5,.call (.c (cB (decide (l.getD k Rl.z = x)))) [] [[.i (x.h),.s (S x.op),.s (S x.pa),.sl 1 (intsD (x.ar))]])] [1,1,0,0,1,1] (decide (l.getD k Rl.z = x)) (⟨[zM 0 4 (aB l),(1,[],.c (.fn 127 [] [(0,0)])),zI 4 0,zI 5 (k : Int),zI 7 ((aB l).length : Int),zI 8 (k : Int)],[(0,y9 (x.h) (S x.op) (S x.pa) (intsD (x.ar)))]⟩) (aD (by intros; exact aK _ (by omega) (by (try simp only [zq3,aC,aA,aB] at *); omega) : (0 : Int) <= (k : Int) /\ (aB l)[k]? = some (RlD (l.getD k Rl.z))) (cS1 g (rIxc_ok (l.getD k Rl.z) x))) (fun hc3 => ?_) (fun hc3 => ?_)
 (try simp only [zq0,aC,aA,aB] at hc3)
 refine zE hG [] .ret (⟨[zI 4 (k : Int)],[(0,y9 (x.h) (S x.op) (S x.pa) (intsD (x.ar)))]⟩) aE rfl ?_
 refine zR hG [] [] (.c (cI (k : Int))) [(0,y9 (x.h) (S x.op) (S x.pa) (intsD (x.ar)))] aE ?_ ?_
 rw [rlIx_at (k := k) (by omega) (by simpa using hc3) hn]
 rfl
 (try simp only [zq0,aC,aA,aB] at hc3)
 refine zD hG [] (k + 1) (aG (by intros; (try simp only [zq2,aC,aA,aB] at *); omega : inR ((k : Int) + 1))) ?_ ?_
 (try dsimp only); omega
 exact ⟨by omega,aW hn (by simpa using hc3)⟩
 (try simp only [zq0,aC,aA,aB] at hc2)
 refine zE hG [] (.exit 0) (⟨[zI 4 0],[(0,y9 (x.h) (S x.op) (S x.pa) (intsD (x.ar)))]⟩) aE rfl ?_
 refine zR hG [] [] (.c (cI (-1))) [(0,y9 (x.h) (S x.op) (S x.pa) (intsD (x.ar)))] aE ?_ ?_
 rw [rlIx_no (fun j hj => hn j (by omega))]
 rfl
theorem rHas_ok (l : List Rl) (x : Rl) :
  SpG g 126 [.c (cM 4 (aB l)),.c (.fn 127 [] [(0,0)])] [(0,y9 (x.h) (S x.op) (S x.pa) (intsD (x.ar)))] (.c (cB (decide (x ∈ l)))) [(0,y9 (x.h) (S x.op) (S x.pa) (intsD (x.ar)))] := by
 refine aQ 9 Tryz.func126 fun fr hG => ?_
 refine zR hG [(1,2,.callG (.c (cI (tW l x))) [0] ((99999,.box 0 []) :: [(0,y9 (x.h) (S x.op) (S x.pa) (intsD (x.ar)))]))] [] (.c (cB (decide ((tW l x : Int) >= 0)))) [(0,y9 (x.h) (S x.op) (S x.pa) (intsD (x.ar)))] (aD (And.intro (And.intro (rfl : (some (y9 (x.h) (S x.op) (S x.pa) (intsD (x.ar))) : Option Ob) = some (y9 (x.h) (S x.op) (S x.pa) (intsD (x.ar)))) trivial) (rfl : true = true)) (cS1 g (rIx_ok l x))) ?_ ?_
 refine aR ?_
 exact rlIx_ge l x
 rfl
theorem aFS (l : List Rl) (x : Rl) :
  SpG g 80 [.c (cM 4 (aB l)),y0 (x.h) (S x.op) (S x.pa) (intsD (x.ar))] [] (.c (cB (decide (x ∈ l)))) [] := by
 refine aQ 8 Tryz.func80 fun fr hG => ?_
 exact zr hG [(1,2,.callG (.c (cB (decide (x ∈ l)))) [100] ((99999,.box 0 []) :: [(0,y9 (x.h) (S x.op) (S x.pa) (intsD (x.ar)))]))] [] (aD (And.intro (And.intro (rfl : (some (y9 (x.h) (S x.op) (S x.pa) (intsD (x.ar))) : Option Ob) = some (y9 (x.h) (S x.op) (S x.pa) (intsD (x.ar)))) trivial) (rfl : true = true)) (cS1 g (rHas_ok l x)))
end
section
open Go.Eng (inR byteAt u8 dD)
variable {g : Gv}
theorem uW {l : List (List UInt8)} (h : ∀ j,j < l.length -> a7 (l.getD j []) = true /\ ¬ l.getD j [] ∈ l.take j) : fL l = true := by
 rw [uniq_iff]
 intro j hj
 refine ⟨(h j hj).1,fun i hi he => (h j hj).2 ?_⟩
 rw [gD [] (by omega)]
 exact ⟨i,hi,he⟩
theorem uX {l : List (List UInt8)} (h : fL l = true) {j : Nat} (hj : j < l.length) : a7 (l.getD j []) = true /\ ¬ l.getD j [] ∈ l.take j := by
 obtain ⟨h1,h2⟩ := uniq_iff.1 h j hj
 refine ⟨h1,fun hm => ?_⟩
 rw [gD [] (by omega)] at hm
 obtain ⟨i,hi,he⟩ := hm
 exact h2 i hi he
structure ColOk (a : Gr) (k : Nat) : Prop where
 nm : a7 (a.cs.getD k Co.z).nm = true
 kd : 1 <= (a.cs.getD k Co.z).kd /\ (a.cs.getD k Co.z).kd <= 5
 nu : ¬ (a.cs.getD k Co.z).nm ∈ (a.cs.take k).map (·.nm)
structure SymOk (a : Gr) (k : Nat) : Prop where
 nm : a7 (a.ss.getD k Sy.z).nm = true
 kd : 1 <= (a.ss.getD k Sy.z).kd /\ (a.ss.getD k Sy.z).kd <= 5
 mx : 1 <= (a.ss.getD k Sy.z).mx /\ (a.ss.getD k Sy.z).mx <= 9
 nu : ¬ (a.ss.getD k Sy.z).nm ∈ (a.ss.take k).map (·.nm)
structure RulOk (a : Gr) (k : Nat) : Prop where
 ok : d5 a (a.rs.getD k Rl.z) = true
 nu : ¬ a.rs.getD k Rl.z ∈ a.rs.take k
theorem RightG.col {a : Gr} (h : RightG a) {k : Nat} (hk : k < a.cs.length) : ColOk a k := by
 have h1 := uX h.cu (j := k) (by simpa using hk)
 rw [aAA _ Co.z hk,<- List.map_take] at h1
 exact ⟨h1.1,h.ck _ (bG hk),h1.2⟩
theorem RightG.sym {a : Gr} (h : RightG a) {k : Nat} (hk : k < a.ss.length) : SymOk a k := by
 have h1 := uX h.su (j := k) (by simpa using hk)
 rw [aAA _ Sy.z hk,<- List.map_take] at h1
 have h2 := h.sk _ (bG (z := Sy.z) hk)
 exact ⟨h1.1,h2.1,h2.2,h1.2⟩
theorem RightG.rul {a : Gr} (h : RightG a) {k : Nat} (hk : k < a.rs.length) : RulOk a k := by
 exact ⟨h.rk _ (bG hk),nodup_iff.1 h.rn k hk⟩
theorem aKE {a : Gr} (h1 : a7 a.nm = true) (h2 : 0 <= a.ve /\ a.ve <= 1000000000) (h3 : a.cs.length <= 8) (h4 : 1 <= a.ss.length /\ a.ss.length <= 12) (h5 : a.rs.length <= 40)
  (hc : ∀ k,k < a.cs.length -> ColOk a k) (hs : ∀ k,k < a.ss.length -> SymOk a k) (hr : ∀ k,k < a.rs.length -> RulOk a k) : bQ a = gA a a.st := by
 rw [Bool.eq_iff_iff,right_iff]
 constructor
 intro h; have := h.st; simp only [gA,bIQ,decide_eq_true_eq]; omega
 intro h
 simp only [gA,bIQ,decide_eq_true_eq] at h
 refine ⟨h1,h2,h3,h4,h5,by omega,fun c hm => ?_,fun s hm => ?_,uW fun j hj => ?_,uW fun j hj => ?_,fun r hm => ?_,nodup_iff.2 fun j hj => (hr j hj).nu⟩
 obtain ⟨i,hi,rfl⟩ := List.mem_iff_getElem.1 hm
 have := (hc i hi).kd; simpa [gd,hi] using this
 obtain ⟨i,hi,rfl⟩ := List.mem_iff_getElem.1 hm
 have h6 := (hs i hi).kd; have h7 := (hs i hi).mx
 rw [gd,ge hi,Option.getD_some] at h6 h7
 exact ⟨h6,h7⟩
 have hj : j < a.cs.length := by simpa using hj
 rw [aAA _ Co.z hj,<- List.map_take]; exact ⟨(hc j hj).nm,(hc j hj).nu⟩
 have hj : j < a.ss.length := by simpa using hj
 rw [aAA _ Sy.z hj,<- List.map_take]; exact ⟨(hs j hj).nm,(hs j hj).nu⟩
 obtain ⟨i,hi,rfl⟩ := List.mem_iff_getElem.1 hm
 have := (hr i hi).ok; simpa [gd,hi] using this
theorem aI0 {e : LD} (l : List Co) (h : e = aC l) (x : List UInt8) : SpG g 77 [.c (cM 2 e),.c (cS (S x))] [] (.c (cB (decide (x ∈ l.map (·.nm))))) [] := by subst h; exact aIZ l x
theorem aJT {e : LD} (l : List Sy) (h : e = aA l) (x : List UInt8) : SpG g 78 [.c (cM 3 e),.c (cS (S x))] [] (.c (cI (kV (·.nm) l x))) [] := by subst h; exact aJS l x
theorem aFT {e : LD} (l : List Rl) (h : e = aB l) (x : Rl) : SpG g 80 [.c (cM 4 e),.agg (rlC x)] [] (.c (cB (decide (x ∈ l)))) [] := by subst h; exact aFS l x
theorem aK2 (a : Gr) (r : Rl) (hr : r.small) :
  SpG g 79 [y1 (S a.nm) a.ve (aC a.cs) (aA a.ss) (aB a.rs) a.st,y0 (r.h) (S r.op) (S r.pa) (intsD (r.ar))] [] (.c (cB (d5 a r))) [] := by
 have hr1 := hr.op
 have hr2 := hr.pa
 have hr3 := hr.ar
 refine aQ 39 Tryz.func79 fun fr hG => ?_
 refine zC hG [(1,2,kB (bA (S r.op))),(1,7,kB (lJ (S r.pa)))] [1,0,1] (((!(bA (S r.op))) || (!(lJ (S r.pa)))) || (decide ((((intsD (r.ar)).length : Int) : Int) > 3))) (⟨[zX 2 100 0,zX 3 101 0,zB 4 false],[(100,y2 (S a.nm) a.ve (aC a.cs) (aA a.ss) (aB a.rs) a.st),(101,y9 (r.h) (S r.op) (S r.pa) (intsD (r.ar)))]⟩) (cS2 g (mJ (S r.op) (by rw [bH]; simp only [maxLen]; omega)) (aG (fun (hg1 : (!(bA (S r.op))) = false) => (pPar_ok (S r.pa) (by rw [bH]; simp only [maxLen]; omega) : SpG g _ _ _ _ _)))) (fun hc1 => ?_) (fun hc1 => ?_)
 ·(try simp only [zq0,aC,aA,aB,bK] at hc1)
  refine zR hG [] [] (.c (cB false)) [] aE ?_ ?_
  ·refine aR ?_
   symm
   rw [d5]
   rcases hc1 with (h | h) | h <;> simp [h,<- bK,-List.getD_eq_getElem?_getD]
   all_goals omega
  ·rfl
 ·(try simp only [zq0,aC,aA,aB,bK] at hc1)
  have hrr := hc1
  refine zL hG [] [0,1,0,1,1] (fun (zz : Nat) => match zz with | j => (r.ar.length - j,⟨[zX 2 100 0,zX 3 101 0,zB 4 false,zM 24 1 (intsD (r.ar)),zI 25 ((intsD (r.ar)).length : Int),zI 26 (j : Int)],[(100,y2 (S a.nm) a.ve (aC a.cs) (aA a.ss) (aB a.rs) a.st),(101,y9 (r.h) (S r.op) (S r.pa) (intsD (r.ar)))]⟩,j <= r.ar.length /\ ∀ i,i < j -> gA a (r.ar.getD i 0) = true)) 0 aE ?_ ?_
  ·exact ⟨zl _,fun i hi => by omega⟩
  rintro j ⟨hj,hsy⟩
  refine zc hG [] [0,1] (decide ((j : Int) < ((intsD (r.ar)).length : Int))) aE (fun hc3 => ?_) (fun hc3 => ?_)
  ·(try simp only [zq0,aC,aA,aB,bK] at hc3)
   refine zc hG [(5,0,.elem (intD ((r.ar).getD j 0))),(6,2,kB (gA a ((r.ar).getD j 0)))] [1,1,0,0,1,1] (!(gA a ((r.ar).getD j 0))) (aD (by intros; exact aK _ (by omega) (by (try simp only [zq1] at *); omega) : (0 : Int) <= (j : Int) /\ (intsD (r.ar))[j]? = some (intD ((r.ar).getD j 0))) (cS1 g (wX a ((r.ar).getD j 0)))) (fun hc4 => ?_) (fun hc4 => ?_)
   ·(try simp only [zq0,aC,aA,aB,bK] at hc4)
    refine zE hG [] .ret (⟨[zX 2 100 0,zX 3 101 0,zB 4 false],[(100,y2 (S a.nm) a.ve (aC a.cs) (aA a.ss) (aB a.rs) a.st),(101,y9 (r.h) (S r.op) (S r.pa) (intsD (r.ar)))]⟩) aE rfl ?_
    refine zR hG [] [] (.c (cB false)) [] aE ?_ ?_
    ·refine aR ?_
     symm
     rw [d5,aG2 (z := 0) (k := j) (by omega) (by simpa [-List.getD_eq_getElem?_getD] using hc4)]; simp
    ·rfl
   ·(try simp only [zq0,aC,aA,aB,bK] at hc4)
    refine zD hG [] (j + 1) (aG (by intros; (try simp only [zq2,aC,aA,aB] at *); omega : inR ((j : Int) + 1))) ?_ ?_
    ·(try dsimp only); omega
    ·exact ⟨by omega,aW hsy (by simpa [-List.getD_eq_getElem?_getD] using hc4)⟩
  ·(try simp only [zq0,aC,aA,aB,bK] at hc3)
   refine zE hG [] (.exit 0) (⟨[zX 2 100 0,zX 3 101 0,zB 4 false],[(100,y2 (S a.nm) a.ve (aC a.cs) (aA a.ss) (aB a.rs) a.st),(101,y9 (r.h) (S r.op) (S r.pa) (intsD (r.ar)))]⟩) aE rfl ?_
   refine zR hG [(9,3,kB (gA a (r.h)))] [] (.c (cB (gA a (r.h)))) [] (cS1 g (wX a (r.h))) ?_ ?_
   ·refine aR ?_
    symm
    obtain ⟨⟨h1,h2⟩,h3⟩ := hrr
    rw [d5,tR 0 (fun i hi => hsy i (by omega))]
    simp [h1,h2,show r.ar.length <= 3 by omega]
   ·rfl
theorem vH (a : Gr) (hs : a.small) (hcn : ∀ t,t ∈ a.cs.map (·.nm) -> t.length <= maxLen) (hsn0 : ∀ t,t ∈ a.ss.map (·.nm) -> t.length <= maxLen) :
  SpG g 36 [y1 (S a.nm) a.ve (aC a.cs) (aA a.ss) (aB a.rs) a.st] [] (.c (cB (bQ a))) [] := by
 have h0 := hs.nm
 have h1 := hs.cs
 have h2 := hs.ss
 have h3 := hs.rs
 refine aQ 137 Tryz.func36 fun fr hG => ?_
 refine zC hG [(1,2,kB (bA (S a.nm)))] [1,0,1] (((!(bA (S a.nm))) || (decide ((a.ve : Int) < 0))) || (decide ((a.ve : Int) > 1000000000))) (⟨e3z,[(100,y2 (S a.nm) a.ve (aC a.cs) (aA a.ss) (aB a.rs) a.st)]⟩) (cS1 g (mJ (S a.nm) (by first | (rw [bH]; simp only [maxLen]; omega) | (rw [bH]; exact hcn _ (mmQ.2 ⟨_,bG (by (try simp only [aC,aA,aB,lm] at *); omega),rfl⟩)) | (rw [bH]; exact hsn0 _ (mmQ.2 ⟨_,bG (by (try simp only [aC,aA,aB,lm] at *); omega),rfl⟩))))) (fun hc1 => ?_) (fun hc1 => ?_)
 ·(try simp only [zq0,aC,aA,aB,bK,bM,List.drop_zero] at hc1)
  refine zR hG [] [] (.c (cB false)) [] aE ?_ ?_
  ·refine aR ?_
   symm; rw [<- Bool.not_eq_true,right_iff]; intro h
   have e1 := h.nm; have e2 := h.ve
   simp only [e1,Bool.true_eq_false,false_or] at hc1; omega
  ·rfl
 ·(try simp only [zq0,aC,aA,aB,bK,bM,List.drop_zero] at hc1)
  have hd1 := hc1
  refine zc hG [] [1,0,1,1] ((((decide ((((aC a.cs).length : Int) : Int) > 8)) || (decide ((((aA a.ss).length : Int) : Int) < 1))) || (decide ((((aA a.ss).length : Int) : Int) > 12))) || (decide ((((aB a.rs).length : Int) : Int) > 40))) aE (fun hc2 => ?_) (fun hc2 => ?_)
  ·(try simp only [zq0,aC,aA,aB,bK,bM,List.drop_zero] at hc2)
   refine zR hG [] [] (.c (cB false)) [] aE ?_ ?_
   ·refine aR ?_
    symm; rw [<- Bool.not_eq_true,right_iff]; intro h
    have e1 := h.cl; have e2 := h.sl; have e3 := h.rl
    omega
   ·rfl
  ·(try simp only [zq0,aC,aA,aB,bK,bM,List.drop_zero] at hc2)
   have hd2 := hc2
   refine zL hG [] [0,1,0,1,1,1] (fun (zz : Nat) => match zz with | k => (a.cs.length - k,⟨e3z ++ [zM 46 2 (aC a.cs),zI 47 ((aC a.cs).length : Int),zI 48 (k : Int)],[(100,y2 (S a.nm) a.ve (aC a.cs) (aA a.ss) (aB a.rs) a.st)]⟩,k <= a.cs.length /\ ∀ j,j < k -> ColOk a j)) 0 aE ?_ ?_
   ·exact ⟨zl _,fun j hj => by omega⟩
   rintro k ⟨hk,hcb⟩
   refine zc hG [] [0,1] (decide ((k : Int) < ((aC a.cs).length : Int))) aE (fun hc4 => ?_) (fun hc4 => ?_)
   ·(try simp only [zq0,aC,aA,aB,bK,bM,List.drop_zero] at hc4)
    refine zc hG [(7,1,.elem (CoD ((a.cs).getD k Co.z))),(8,2,kB (bA (S ((a.cs).getD k Co.z).nm))),(8,7,kS (S (cJ (((a.cs).getD k Co.z).kd)))),(8,17,kB (decide (((a.cs).getD k Co.z).nm ∈ (((a.cs).take k).drop 0).map (·.nm))))] [1,1,0,0,1,1] (((!(bA (S ((a.cs).getD k Co.z).nm))) || ((S (cJ (((a.cs).getD k Co.z).kd))).toList == (S []).toList)) || (decide (((a.cs).getD k Co.z).nm ∈ (((a.cs).take k).drop 0).map (·.nm)))) (aD (by intros; exact aK _ (by omega) (by (try simp only [zq3,aC,aA,aB] at *); omega) : (0 : Int) <= (k : Int) /\ (aC a.cs)[k]? = some (CoD ((a.cs).getD k Co.z))) (cS2 g (mJ (S ((a.cs).getD k Co.z).nm) (by first | (rw [bH]; simp only [maxLen]; omega) | (rw [bH]; exact hcn _ (mmQ.2 ⟨_,bG (by (try simp only [aC,aA,aB,lm] at *); omega),rfl⟩)) | (rw [bH]; exact hsn0 _ (mmQ.2 ⟨_,bG (by (try simp only [aC,aA,aB,lm] at *); omega),rfl⟩)))) (aD (fun (hg1 : (!(bA (S ((a.cs).getD k Co.z).nm))) = false) => (mK (((a.cs).getD k Co.z).kd) : SpG g _ _ _ _ _)) (aD (by intros; (try simp only [zq2,aC,aA,aB] at *); omega : ((!(bA (S ((a.cs).getD k Co.z).nm))) || ((S (cJ (((a.cs).getD k Co.z).kd))).toList == (S []).toList)) = false -> (0 : Int) <= 0 /\ (0 : Int) <= (k : Int) /\ (k : Int) <= ((aC a.cs).length : Int)) (aG (fun (hg1 : ((!(bA (S ((a.cs).getD k Co.z).nm))) || ((S (cJ (((a.cs).getD k Co.z).kd))).toList == (S []).toList)) = false) => (aI0 (e := ((aC a.cs).take k).drop 0) (((a.cs).take k).drop 0) (by simp only [aC,List.map_take,List.map_drop]) (((a.cs).getD k Co.z).nm) : SpG g _ _ _ _ _))))))) (fun hc5 => ?_) (fun hc5 => ?_)
    ·(try simp only [zq0,aC,aA,aB,bK,bM,List.drop_zero] at hc5)
     have hcc := hc5
     refine zE hG [] .ret (⟨e3z,[(100,y2 (S a.nm) a.ve (aC a.cs) (aA a.ss) (aB a.rs) a.st)]⟩) aE rfl ?_
     refine zR hG [] [] (.c (cB false)) [] aE ?_ ?_
     ·refine aR ?_
      symm; rw [<- Bool.not_eq_true,right_iff]; intro h
      have hq := h.col (k := k) (by omega)
      have q1 := hq.nm; have q2 := hq.kd; have q3 := hq.nu
      rcases hc5 with (g1 | g2) | g3
      ·rw [q1] at g1; cases g1
      ·simp [-List.getD_eq_getElem?_getD] at g2; omega
      ·exact q3 (by simpa [-List.getD_eq_getElem?_getD] using g3)
     ·rfl
    ·(try simp only [zq0,aC,aA,aB,bK,bM,List.drop_zero] at hc5)
     have hcc := hc5
     refine zD hG [] (k + 1) (aG (by intros; (try simp only [zq2,aC,aA,aB] at *); omega : inR ((k : Int) + 1))) ?_ ?_
     ·(try dsimp only); omega
     ·obtain ⟨⟨g1,g2⟩,g3⟩ := hc5
      exact ⟨by omega,aW hcb ⟨by simpa [-List.getD_eq_getElem?_getD] using g1,by simp [-List.getD_eq_getElem?_getD] at g2; omega,by simpa [-List.getD_eq_getElem?_getD] using g3⟩⟩
   ·(try simp only [zq0,aC,aA,aB,bK,bM,List.drop_zero] at hc4)
    refine zE hG [] (.exit 0) (⟨e3z,[(100,y2 (S a.nm) a.ve (aC a.cs) (aA a.ss) (aB a.rs) a.st)]⟩) aE rfl ?_
    refine zL hG [] [0,1,0,1,1,1,1] (fun (zz : Nat) => match zz with | k2 => (a.ss.length - k2,⟨e3z ++ [zM 74 3 (aA a.ss),zI 75 ((aA a.ss).length : Int),zI 76 (k2 : Int)],[(100,y2 (S a.nm) a.ve (aC a.cs) (aA a.ss) (aB a.rs) a.st)]⟩,k2 <= a.ss.length /\ ∀ j,j < k2 -> SymOk a j)) 0 aE ?_ ?_
    ·exact ⟨zl _,fun j hj => by omega⟩
    rintro k2 ⟨hk2,hsb⟩
    refine zc hG [] [0,1] (decide ((k2 : Int) < ((aA a.ss).length : Int))) aE (fun hc7 => ?_) (fun hc7 => ?_)
    ·(try simp only [zq0,aC,aA,aB,bK,bM,List.drop_zero] at hc7)
     refine zc hG [(13,1,.elem (SyD ((a.ss).getD k2 Sy.z))),(14,2,kB (bA (S ((a.ss).getD k2 Sy.z).nm))),(14,7,kS (S (cJ (((a.ss).getD k2 Sy.z).kd)))),(14,27,kI (kV (·.nm) (((a.ss).take k2).drop 0) (((a.ss).getD k2 Sy.z).nm)))] [1,1,0,0,1,1] (((((!(bA (S ((a.ss).getD k2 Sy.z).nm))) || ((S (cJ (((a.ss).getD k2 Sy.z).kd))).toList == (S []).toList)) || (decide ((((a.ss).getD k2 Sy.z).mx : Int) < 1))) || (decide ((((a.ss).getD k2 Sy.z).mx : Int) > 9))) || (decide ((kV (·.nm) (((a.ss).take k2).drop 0) (((a.ss).getD k2 Sy.z).nm) : Int) >= 0))) (aD (by intros; exact aK _ (by omega) (by (try simp only [zq3,aC,aA,aB] at *); omega) : (0 : Int) <= (k2 : Int) /\ (aA a.ss)[k2]? = some (SyD ((a.ss).getD k2 Sy.z))) (cS2 g (mJ (S ((a.ss).getD k2 Sy.z).nm) (by first | (rw [bH]; simp only [maxLen]; omega) | (rw [bH]; exact hcn _ (mmQ.2 ⟨_,bG (by (try simp only [aC,aA,aB,lm] at *); omega),rfl⟩)) | (rw [bH]; exact hsn0 _ (mmQ.2 ⟨_,bG (by (try simp only [aC,aA,aB,lm] at *); omega),rfl⟩)))) (aD (fun (hg1 : (!(bA (S ((a.ss).getD k2 Sy.z).nm))) = false) => (mK (((a.ss).getD k2 Sy.z).kd) : SpG g _ _ _ _ _)) (aD (by intros; (try simp only [zq2,aC,aA,aB] at *); omega : ((((!(bA (S ((a.ss).getD k2 Sy.z).nm))) || ((S (cJ (((a.ss).getD k2 Sy.z).kd))).toList == (S []).toList)) || (decide ((((a.ss).getD k2 Sy.z).mx : Int) < 1))) || (decide ((((a.ss).getD k2 Sy.z).mx : Int) > 9))) = false -> (0 : Int) <= 0 /\ (0 : Int) <= (k2 : Int) /\ (k2 : Int) <= ((aA a.ss).length : Int)) (aG (fun (hg1 : ((((!(bA (S ((a.ss).getD k2 Sy.z).nm))) || ((S (cJ (((a.ss).getD k2 Sy.z).kd))).toList == (S []).toList)) || (decide ((((a.ss).getD k2 Sy.z).mx : Int) < 1))) || (decide ((((a.ss).getD k2 Sy.z).mx : Int) > 9))) = false) => (aJT (e := ((aA a.ss).take k2).drop 0) (((a.ss).take k2).drop 0) (by simp only [aA,List.map_take,List.map_drop]) (((a.ss).getD k2 Sy.z).nm) : SpG g _ _ _ _ _))))))) (fun hc8 => ?_) (fun hc8 => ?_)
     ·(try simp only [zq0,aC,aA,aB,bK,bM,List.drop_zero] at hc8)
      have hss := hc8
      refine zE hG [] .ret (⟨e3z,[(100,y2 (S a.nm) a.ve (aC a.cs) (aA a.ss) (aB a.rs) a.st)]⟩) aE rfl ?_
      refine zR hG [] [] (.c (cB false)) [] aE ?_ ?_
      ·refine aR ?_
       symm; rw [<- Bool.not_eq_true,right_iff]; intro h
       have hq := h.sym (k := k2) (by omega)
       have q1 := hq.nm; have q2 := hq.kd; have q3 := hq.nu; have q4 := hq.mx
       rcases hc8 with (((g1 | g2) | g3) | g4) | g5
       ·rw [q1] at g1; cases g1
       ·simp [-List.getD_eq_getElem?_getD] at g2; omega
       ·omega
       ·omega
       ·exact q3 ((aAB _ _ _).1 g5)
      ·rfl
     ·(try simp only [zq0,aC,aA,aB,bK,bM,List.drop_zero] at hc8)
      have hss := hc8
      refine zD hG [] (k2 + 1) (aG (by intros; (try simp only [zq2,aC,aA,aB] at *); omega : inR ((k2 : Int) + 1))) ?_ ?_
      ·(try dsimp only); omega
      ·obtain ⟨⟨⟨⟨g1,g2⟩,g3⟩,g4⟩,g5⟩ := hc8
       exact ⟨by omega,aW hsb ⟨by simpa [-List.getD_eq_getElem?_getD] using g1,by simp [-List.getD_eq_getElem?_getD] at g2; omega,by omega,fun hm => g5 ((aAB _ _ _).2 hm)⟩⟩
    ·(try simp only [zq0,aC,aA,aB,bK,bM,List.drop_zero] at hc7)
     refine zE hG [] (.exit 2) (⟨e3z,[(100,y2 (S a.nm) a.ve (aC a.cs) (aA a.ss) (aB a.rs) a.st)]⟩) aE rfl ?_
     refine zL hG [] [0,1,0,1,1,1,1,1] (fun (zz : Nat) => match zz with | k3 => (a.rs.length - k3,⟨e3z ++ [zM 113 4 (aB a.rs),zI 114 ((aB a.rs).length : Int),zI 115 (k3 : Int)],[(100,y2 (S a.nm) a.ve (aC a.cs) (aA a.ss) (aB a.rs) a.st)]⟩,k3 <= a.rs.length /\ ∀ j,j < k3 -> RulOk a j)) 0 aE ?_ ?_
     ·exact ⟨zl _,fun j hj => by omega⟩
     rintro k3 ⟨hk3,hrb⟩
     refine zc hG [] [0,1] (decide ((k3 : Int) < ((aB a.rs).length : Int))) aE (fun hc10 => ?_) (fun hc10 => ?_)
     ·(try simp only [zq0,aC,aA,aB,bK,bM,List.drop_zero] at hc10)
      refine zc hG [(19,1,.elem (RlD ((a.rs).getD k3 Rl.z))),(20,2,kB (d5 a ((a.rs).getD k3 Rl.z))),(20,10,kB (decide ((a.rs).getD k3 Rl.z ∈ (((a.rs).take k3).drop 0))))] [1,1,0,0,1,1] ((!(d5 a ((a.rs).getD k3 Rl.z))) || (decide ((a.rs).getD k3 Rl.z ∈ (((a.rs).take k3).drop 0)))) (aD (by intros; exact aK _ (by omega) (by (try simp only [zq3,aC,aA,aB] at *); omega) : (0 : Int) <= (k3 : Int) /\ (aB a.rs)[k3]? = some (RlD ((a.rs).getD k3 Rl.z))) (cS2 g (aK2 a ((a.rs).getD k3 Rl.z) (bT hs k3)) (aD (by intros; (try simp only [zq2,aC,aA,aB] at *); omega : (!(d5 a ((a.rs).getD k3 Rl.z))) = false -> (0 : Int) <= 0 /\ (0 : Int) <= (k3 : Int) /\ (k3 : Int) <= ((aB a.rs).length : Int)) (aG (fun (hg1 : (!(d5 a ((a.rs).getD k3 Rl.z))) = false) => (aFT (e := ((aB a.rs).take k3).drop 0) (((a.rs).take k3).drop 0) (by simp only [aB,List.map_take,List.map_drop]) ((a.rs).getD k3 Rl.z) : SpG g _ _ _ _ _)))))) (fun hc11 => ?_) (fun hc11 => ?_)
      ·(try simp only [zq0,aC,aA,aB,bK,bM,List.drop_zero] at hc11)
       have hrr := hc11
       refine zE hG [] .ret (⟨e3z,[(100,y2 (S a.nm) a.ve (aC a.cs) (aA a.ss) (aB a.rs) a.st)]⟩) aE rfl ?_
       refine zR hG [] [] (.c (cB false)) [] aE ?_ ?_
       ·refine aR ?_
        symm; rw [<- Bool.not_eq_true,right_iff]; intro h
        have hq := h.rul (k := k3) (by omega)
        have q1 := hq.ok; have q3 := hq.nu
        rcases hc11 with g1 | g3
        ·rw [q1] at g1; cases g1
        ·exact q3 (by simpa [-List.getD_eq_getElem?_getD] using g3)
       ·rfl
      ·(try simp only [zq0,aC,aA,aB,bK,bM,List.drop_zero] at hc11)
       have hrr := hc11
       refine zD hG [] (k3 + 1) (aG (by intros; (try simp only [zq2,aC,aA,aB] at *); omega : inR ((k3 : Int) + 1))) ?_ ?_
       ·(try dsimp only); omega
       ·obtain ⟨g1,g2⟩ := hc11
        exact ⟨by omega,aW hrb ⟨by simpa [-List.getD_eq_getElem?_getD] using g1,by simpa [-List.getD_eq_getElem?_getD] using g2⟩⟩
     ·(try simp only [zq0,aC,aA,aB,bK,bM,List.drop_zero] at hc10)
      refine zE hG [] (.exit 4) (⟨e3z,[(100,y2 (S a.nm) a.ve (aC a.cs) (aA a.ss) (aB a.rs) a.st)]⟩) aE rfl ?_
      refine zR hG [(23,3,kB (gA a a.st))] [] (.c (cB (gA a a.st))) [] (cS1 g (wX a a.st)) ?_ ?_
      ·refine aR ?_
       symm
       refine aKE ?_ ?_ ?_ ?_ ?_ (fun i hi => hcb i (by omega)) (fun i hi => hsb i (by omega)) (fun i hi => hrb i (by omega))
       ·exact hd1.1.1
       ·omega
       ·omega
       ·omega
       ·omega
      ·rfl
end
section
open Go.Eng (inR byteAt u8 dD)
variable {g : Gv}
theorem aIQ : nK Tryz.prog 128 := ⟨_,Tryz.func128,by kernel_rfl,by kernel_rfl,by kernel_rfl,by kernel_rfl⟩
theorem nP {f : FuncId} {ins : List SV} {refs : bR} {out : SV} {post post' : bR} (h : SpG g f ins refs out post) (e : lookO post = lookO post') : SpG g f ins refs out post' := by
 unfold SpG V.Spec at *
 rw [<- e]
 exact h
abbrev y11 : Ob := .box 79 [.bx 0 0,.ar 1 0]
theorem tD (es : LD) :
  SpG g 82 [.c (.bx 0 0)] [(0,y11),(1,.arr 0 5 1 es)] (.tup []) [(0,y11),(1,.arr 0 5 1 es)] := by
 refine aQ 20 Tryz.func82 fun fr hG => ?_
 refine zc hG [] [1] false aE (fun hc1 => absurd hc1 (by decide)) (fun _ => ?_)
 refine zC hG [] [1,1,1] false (⟨[],[(0,y11),(1,.arr 0 5 1 es)]⟩) aE (fun hc2 => absurd hc2 (by decide)) (fun _ => ?_)
 exact zr hG [] [] aE
abbrev y12 : Ob := .box 79 [.d (.v (.pointer none)),cN]
theorem aGA  :
  SpG g 82 [.c (.bx 0 0)] [(0,y12)] (.tup []) [(0,.box 79 [.bx 0 0,cN])] := by
 refine aQ 20 Tryz.func82 fun fr hG => ?_
 refine zc hG [] [1] true aE (fun _ => ?_) (fun hc1 => absurd hc1 (by decide))
 exact zr hG [] [] (aG (show nK Tryz.prog 128 from aIQ))
abbrev y13 (a0 : Int) : SV := .tup [(false,[cI a0]),(false,[.d (.v (.nilIface))])]
abbrev y14 : Ob := .box 79 [.bx 0 0,.ar 100 0]
theorem wI (s : ByteArray) (h : s.size <= 1000000000000) :
  SpG g 38 [.c (.bx 0 0),.c (cS s)] [(0,y12)] (y13 (s.size : Int)) [(0,y14),(100,.arr 0 5 1 (bytesD s.data.toList))] := by
 refine aQ 19 Tryz.func38 fun fr hG => ?_
 exact zr hG [(1,1,.callG (.tup []) [0] [(0,.box 79 [.bx 0 0,cN])])] [306] (cS2 g aGA (aG (by intros; first | assumption | omega : s.size <= 1000000000000)))
theorem wJ (es : LD) (s : ByteArray) (h : es.length + s.size <= 1000000000000) :
  SpG g 38 [.c (.bx 0 0),.c (cS s)] [(0,y11),(1,.arr 0 5 1 es)] (y13 (s.size : Int)) [(0,y11),(1,.arr 0 5 1 (es ++ bytesD s.data.toList))] := by
 refine aQ 19 Tryz.func38 fun fr hG => ?_
 exact zr hG [(1,1,.callG (.tup []) [0,1] [(0,y11),(1,.arr 0 5 1 es)])] [] (cS2 g (tD es) (aG (by intros; first | assumption | omega : es.length + s.size <= 1000000000000)))
theorem tJ (es : LD) (r : ByteArray) (h : es = bytesD r.data.toList) :
  SpG g 44 [.c (.bx 0 0)] [(0,y11),(1,.arr 0 5 1 es)] (.c (cS r)) [(1,.arr 0 5 1 []),(0,.box 79 [.bx 0 0,.any])] := by
 refine aQ 14 Tryz.func44 fun fr hG => ?_
 exact zr hG [(1,10,kS r)] [] (aD (show es = bytesD r.data.toList from h) (aG (by intros; first | assumption | (rw [h,eD]; rfl) : ((es.length : Int) : Int) = (r.size : Int))))
theorem uQ (es : LD) (r : ByteArray) (h : es = bytesD r.data.toList) :
  SpG g 44 [.c (.bx 0 0)] [(0,y11),(1,.arr 0 5 1 es)] (.c (cS r)) [(0,.box 79 [.bx 0 0,.any]),(1,.arr 0 5 1 [])] :=
 nP (tJ es r h) (by funext i; match i with | 0 => rfl | 1 => rfl | i + 2 => rfl)
theorem q9 (es : LD) (c : Int) (h : es.length <= 1000000000000) :
  SpG g 40 [.c (.bx 0 0),.c (.d (.y c))] [(0,y11),(1,.arr 0 5 1 es)] (.c (.d (.v (.nilIface)))) [(0,y11),(1,.arr 0 5 1 (es ++ [[D.y c]]))] := by
 refine aQ 17 Tryz.func40 fun fr hG => ?_
 exact zr hG [(1,1,.callG (.tup []) [0,1] [(0,y11),(1,.arr 0 5 1 es)])] [] (cS2 g (tD es) (aG (by intros; (try simp only [lc,lnQ]); omega : (es.length + ([[.y c]] : LD).length) * (1 + 1) <= 140737488355328)))
end
end Go.Proofs.YtgpedhfdniigoaaGreatDoor
namespace Go.Proofs
open Go.Shelf
def Tryz.lays156_ren : Go.Shelf.Ren := ⟨fun | 156 => 39 | 165 => 83 | 166 => 38 | 169 => 44 | 240 => 82 | 241 => 129 | 276 => 128 | 277 => 167 | n => n,fun | 31 => 73 | 9 => 9 | 3 => 3 | 4 => 4 | 0 => 0 | 20 => 20 | 72 => 79 | 76 => 82 | 70 => 76 | 37 => 77 | 75 => 81 | 127 => 137 | 164 => 176 | 5 => 5 | 80 => 88 | n => n,fun | n => n⟩
theorem Tryz.lays156 : Go.Proofs.Lays.n156 Tryz.prog Tryz.lays156_ren := {
 mixed := by kernel_rfl
 f156 := Tryz.func39.trans (congrArg some (by kernel_rfl))
 f165 := Tryz.func83.trans (congrArg some (by kernel_rfl))
 f166 := Tryz.func38.trans (congrArg some (by kernel_rfl))
 f169 := Tryz.func44.trans (congrArg some (by kernel_rfl))
 f240 := Tryz.func82.trans (congrArg some (by kernel_rfl))
 f241 := Tryz.func129.trans (congrArg some (by kernel_rfl))
 f276 := Tryz.func128.trans (congrArg some (by kernel_rfl))
 f277 := Tryz.func167.trans (congrArg some (by kernel_rfl))
 t0 := Tryz.underlying0
 a0 := Tryz.isAgg0
 z0 := Tryz.sizeOf0
 v0 := Tryz.zeroValue0
 t3 := Tryz.underlying3
 a3 := Tryz.isAgg3
 z3 := Tryz.sizeOf3
 v3 := Tryz.zeroValue3
 t4 := Tryz.underlying4
 a4 := Tryz.isAgg4
 z4 := Tryz.sizeOf4
 v4 := Tryz.zeroValue4
 t9 := Tryz.underlying9
 a9 := Tryz.isAgg9
 z9 := Tryz.sizeOf9
 v9 := Tryz.zeroValue9
 t20 := Tryz.underlying20
 a20 := Tryz.isAgg20
 z20 := Tryz.sizeOf20
 v20 := Tryz.zeroValue20
 t31 := Tryz.underlying73
 a31 := Tryz.isAgg73
 z31 := Tryz.sizeOf73
 v31 := Tryz.zeroValue73
 t37 := Tryz.underlying77
 a37 := Tryz.isAgg77
 z37 := Tryz.sizeOf77
 v37 := Tryz.zeroValue77
 t70 := Tryz.underlying76
 a70 := Tryz.isAgg76
 z70 := Tryz.sizeOf76
 v70 := Tryz.zeroValue76
 t72 := Tryz.underlying79
 a72 := Tryz.isAgg79
 z72 := Tryz.sizeOf79
 v72 := Tryz.zeroValue79
 t75 := Tryz.underlying81
 a75 := Tryz.isAgg81
 z75 := Tryz.sizeOf81
 v75 := Tryz.zeroValue81
 t76 := Tryz.underlying82
 a76 := Tryz.isAgg82
 z76 := Tryz.sizeOf82
 v76 := Tryz.zeroValue82
 t127 := Tryz.underlying137
 a127 := Tryz.isAgg137
 z127 := Tryz.sizeOf137
 v127 := Tryz.zeroValue137
 t164 := Tryz.underlying176
 a164 := Tryz.isAgg176
 z164 := Tryz.sizeOf176
 v164 := Tryz.zeroValue176 }
theorem Tryz.Builder_Extra_156 : Builder.Extra Tryz.prog Tryz.lays156_ren := {
 sizeBuilder := by kernel_rfl
 liesBuilder := by kernel_rfl
 t5 := Tryz.underlying5
 a5 := Tryz.isAgg5
 z5 := Tryz.sizeOf5
 v5 := Tryz.zeroValue5
 infoByte := by kernel_rfl
 cellsByte := by kernel_rfl
 sizeByte := by kernel_rfl
 neB5 := by decide }
open Go.RowKit in
theorem Tryz.strings_Join_none (a : Option Addr) (c : Nat) (sep : ByteArray) (w : World) :
  Calls Tryz.prog 39 #[.slice a 0 c,.string sep] w fun e w' => e = .returned (.string ⟨#[]⟩) /\ w' = w := Any.strings_Join_none Tryz.lays156 Tryz.Builder_Extra_156 a c sep w
open Go.RowKit in
theorem Tryz.strings_Join (bk o c : Nat) (xs : List ByteArray) (sep : ByteArray) (w : World) (hcells : ∀ (j : Nat) x,xs[j]? = some x -> w.cell? ⟨bk,o + j,none⟩ = some (.string x)) (hbk : bk < w.heap.size) (hN : xs.length <= 140737488355328) (hcap : xs.length <= c) (hlen : (Lib.join (xs.map (·.data.toList)) sep.data.toList).length <= 140737488355328) :
  Calls Tryz.prog 39 #[.slice (some ⟨bk,o,none⟩) xs.length c,.string sep] w fun e w' => e = .returned (.string ⟨(Lib.join (xs.map (·.data.toList)) sep.data.toList).toArray⟩) /\ Below w.heap.size w w' := Any.strings_Join Tryz.lays156 Tryz.Builder_Extra_156 bk o c xs sep w hcells hbk hN hcap hlen
def Tryz.lays106_ren : Go.Shelf.Ren := ⟨fun | 106 => 114 | 213 => 155 | 265 => 239 | n => n,fun | 9 => 9 | 3 => 3 | n => n,fun | n => n⟩
theorem Tryz.lays106 : Go.Proofs.Lays.n106 Tryz.prog Tryz.lays106_ren := {
 mixed := by kernel_rfl
 f106 := Tryz.func114.trans (congrArg some (by kernel_rfl))
 f213 := Tryz.func155.trans (congrArg some (by kernel_rfl))
 f265 := Tryz.func239.trans (congrArg some (by kernel_rfl))
 t3 := Tryz.underlying3
 a3 := Tryz.isAgg3
 z3 := Tryz.sizeOf3
 v3 := Tryz.zeroValue3
 t9 := Tryz.underlying9
 a9 := Tryz.isAgg9
 z9 := Tryz.sizeOf9
 v9 := Tryz.zeroValue9 }
open Go.RowKit in
theorem Tryz.strings_Compare (a b : ByteArray) (w : World) :
  Calls Tryz.prog 114 #[.string a,.string b] w fun e w' => e = .returned (.int .i64 (Lib.compareBytes a.data.toList b.data.toList)) /\ w' = w := Any.strings_Compare Tryz.lays106 a b w
def Tryz.laysM171_ren : Go.Shelf.Ren := ⟨fun | 171 => 41 | 243 => 84 | 246 => 130 | 283 => 168 | 284 => 169 | 285 => 170 | 286 => 171 | 129 => 257 | 317 => 256 | 318 => 258 | 319 => 259 | 320 => 260 | 337 => 325 | 338 => 326 | n => n,fun | 3 => 3 | 9 => 9 | 2 => 2 | 4 => 4 | 171 => 210 | 0 => 0 | 53 => 145 | 37 => 77 | 5 => 5 | 173 => 213 | 212 => 233 | 51 => 146 | 20 => 20 | 213 => 234 | 46 => 147 | 232 => 360 | 233 => 361 | n => n,fun | 17 => 1 | 18 => 5 | 19 => 6 | n => n⟩
theorem Tryz.laysM171 : Go.Proofs.LaysM.n171 Tryz.prog Tryz.laysM171_ren := {
 mixed := by kernel_rfl
 f129 := Tryz.func257.trans (congrArg some (by kernel_rfl))
 f171 := Tryz.func41.trans (congrArg some (by kernel_rfl))
 f243 := Tryz.func84.trans (congrArg some (by kernel_rfl))
 f246 := Tryz.func130.trans (congrArg some (by kernel_rfl))
 f283 := Tryz.func168.trans (congrArg some (by kernel_rfl))
 f284 := Tryz.func169.trans (congrArg some (by kernel_rfl))
 f285 := Tryz.func170.trans (congrArg some (by kernel_rfl))
 f286 := Tryz.func171.trans (congrArg some (by kernel_rfl))
 f317 := Tryz.func256.trans (congrArg some (by kernel_rfl))
 f318 := Tryz.func258.trans (congrArg some (by kernel_rfl))
 f319 := Tryz.func259.trans (congrArg some (by kernel_rfl))
 f320 := Tryz.func260.trans (congrArg some (by kernel_rfl))
 f337 := Tryz.func325.trans (congrArg some (by kernel_rfl))
 f338 := Tryz.func326.trans (congrArg some (by kernel_rfl))
 t0 := Tryz.underlying0
 a0 := Tryz.isAgg0
 z0 := Tryz.sizeOf0
 v0 := Tryz.zeroValue0
 t2 := Tryz.underlying2
 a2 := Tryz.isAgg2
 z2 := Tryz.sizeOf2
 v2 := Tryz.zeroValue2
 t3 := Tryz.underlying3
 a3 := Tryz.isAgg3
 z3 := Tryz.sizeOf3
 v3 := Tryz.zeroValue3
 t4 := Tryz.underlying4
 a4 := Tryz.isAgg4
 z4 := Tryz.sizeOf4
 v4 := Tryz.zeroValue4
 t5 := Tryz.underlying5
 a5 := Tryz.isAgg5
 z5 := Tryz.sizeOf5
 v5 := Tryz.zeroValue5
 t9 := Tryz.underlying9
 a9 := Tryz.isAgg9
 z9 := Tryz.sizeOf9
 v9 := Tryz.zeroValue9
 t20 := Tryz.underlying20
 a20 := Tryz.isAgg20
 z20 := Tryz.sizeOf20
 v20 := Tryz.zeroValue20
 t37 := Tryz.underlying77
 a37 := Tryz.isAgg77
 z37 := Tryz.sizeOf77
 v37 := Tryz.zeroValue77
 t46 := Tryz.underlying147
 a46 := Tryz.isAgg147
 z46 := Tryz.sizeOf147
 v46 := Tryz.zeroValue147
 t51 := Tryz.underlying146
 a51 := Tryz.isAgg146
 z51 := Tryz.sizeOf146
 v51 := Tryz.zeroValue146
 t53 := Tryz.underlying145
 a53 := Tryz.isAgg145
 z53 := Tryz.sizeOf145
 v53 := Tryz.zeroValue145
 t171 := Tryz.underlying210
 a171 := Tryz.isAgg210
 z171 := Tryz.sizeOf210
 v171 := Tryz.zeroValue210
 t173 := Tryz.underlying213
 a173 := Tryz.isAgg213
 z173 := Tryz.sizeOf213
 v173 := Tryz.zeroValue213
 t212 := Tryz.underlying233
 a212 := Tryz.isAgg233
 z212 := Tryz.sizeOf233
 v212 := Tryz.zeroValue233
 t213 := Tryz.underlying234
 a213 := Tryz.isAgg234
 z213 := Tryz.sizeOf234
 t232 := Tryz.underlying360
 a232 := Tryz.isAgg360
 z232 := Tryz.sizeOf360
 v232 := Tryz.zeroValue360
 t233 := Tryz.underlying361
 a233 := Tryz.isAgg361
 z233 := Tryz.sizeOf361
 v233 := Tryz.zeroValue361
 g17 := by kernel_rfl
 g18 := by kernel_rfl
 g19 := by kernel_rfl
 i0 := by kernel_rfl
 i2 := by kernel_rfl
 i3 := by kernel_rfl
 i4 := by kernel_rfl
 i5 := by kernel_rfl
 i9 := by kernel_rfl
 i20 := by kernel_rfl
 i37 := by kernel_rfl
 i46 := by kernel_rfl
 i51 := by kernel_rfl
 i53 := by kernel_rfl
 i171 := by kernel_rfl
 i173 := by kernel_rfl
 i212 := by kernel_rfl
 i232 := by kernel_rfl
 i233 := by kernel_rfl
 m17 := by kernel_rfl
 m18 := by kernel_rfl
 m19 := by kernel_rfl }
open Go.RowKit Go.Sort Go.Lib in
theorem Tryz.strconv_Itoa (n : Int) (h0 : -9223372036854775808 <= n) (h1 : n <= 9223372036854775807) (w : World) (htab : Lib.TabIs Tryz.prog w "internal/strconv.uint64pow10" .u64 Lib.pow10Tab) :
  Calls Tryz.prog 41 #[.int .i64 n] w fun e w' => e = .returned (.string ⟨(Lib.itoa n).toArray⟩) /\ ∃ k os,w' = grow (w.drewN k) os := Any.strconv_Itoa Tryz.laysM171 n h0 h1 w htab
def Tryz.lays217_ren : Go.Shelf.Ren := ⟨fun | 217 => 177 | 266 => 267 | n => n,fun | 9 => 9 | 5 => 5 | 3 => 3 | n => n,fun | n => n⟩
theorem Tryz.lays217 : Go.Proofs.Lays.n217 Tryz.prog Tryz.lays217_ren := {
 mixed := by kernel_rfl
 f217 := Tryz.func177.trans (congrArg some (by kernel_rfl))
 f266 := Tryz.func267.trans (congrArg some (by kernel_rfl))
 t3 := Tryz.underlying3
 a3 := Tryz.isAgg3
 z3 := Tryz.sizeOf3
 v3 := Tryz.zeroValue3
 t5 := Tryz.underlying5
 a5 := Tryz.isAgg5
 z5 := Tryz.sizeOf5
 v5 := Tryz.zeroValue5
 t9 := Tryz.underlying9
 a9 := Tryz.isAgg9
 z9 := Tryz.sizeOf9
 v9 := Tryz.zeroValue9 }
open Go.RowKit Go.Lib in
theorem Tryz.stringslite_IndexByte (s : ByteArray) (c : Int) (w : World) :
  Calls Tryz.prog 177 #[.string s,.int .u8 c] w fun e w' => e = .returned (.int .i64 (Lib.indexByte s.data.toList c.toNat.toUInt8)) /\ w' = w := Any.stringslite_IndexByte Tryz.lays217 s c w
def Tryz.lays145_ren : Go.Shelf.Ren := ⟨fun | 145 => 52 | 220 => 96 | 219 => 142 | 217 => 177 | 225 => 178 | 224 => 179 | 267 => 180 | 266 => 267 | 314 => 268 | n => n,fun | 9 => 9 | 4 => 4 | 59 => 99 | 3 => 3 | 5 => 5 | 46 => 147 | 146 => 244 | 51 => 146 | n => n,fun | 1 => 0 | n => n⟩
theorem Tryz.lays145 : Go.Proofs.Lays.n145 Tryz.prog Tryz.lays145_ren := {
 mixed := by kernel_rfl
 f145 := Tryz.func52.trans (congrArg some (by kernel_rfl))
 f217 := Tryz.func177.trans (congrArg some (by kernel_rfl))
 f219 := Tryz.func142.trans (congrArg some (by kernel_rfl))
 f220 := Tryz.func96.trans (congrArg some (by kernel_rfl))
 f224 := Tryz.func179.trans (congrArg some (by kernel_rfl))
 f225 := Tryz.func178.trans (congrArg some (by kernel_rfl))
 f266 := Tryz.func267.trans (congrArg some (by kernel_rfl))
 f267 := Tryz.func180.trans (congrArg some (by kernel_rfl))
 f314 := Tryz.func268.trans (congrArg some (by kernel_rfl))
 t3 := Tryz.underlying3
 a3 := Tryz.isAgg3
 z3 := Tryz.sizeOf3
 v3 := Tryz.zeroValue3
 t4 := Tryz.underlying4
 a4 := Tryz.isAgg4
 z4 := Tryz.sizeOf4
 v4 := Tryz.zeroValue4
 t5 := Tryz.underlying5
 a5 := Tryz.isAgg5
 z5 := Tryz.sizeOf5
 v5 := Tryz.zeroValue5
 t9 := Tryz.underlying9
 a9 := Tryz.isAgg9
 z9 := Tryz.sizeOf9
 v9 := Tryz.zeroValue9
 t46 := Tryz.underlying147
 a46 := Tryz.isAgg147
 z46 := Tryz.sizeOf147
 v46 := Tryz.zeroValue147
 t51 := Tryz.underlying146
 a51 := Tryz.isAgg146
 z51 := Tryz.sizeOf146
 v51 := Tryz.zeroValue146
 t59 := Tryz.underlying99
 a59 := Tryz.isAgg99
 z59 := Tryz.sizeOf99
 v59 := Tryz.zeroValue99
 t146 := Tryz.underlying244
 a146 := Tryz.isAgg244
 z146 := Tryz.sizeOf244
 v146 := Tryz.zeroValue244
 g1 := by kernel_rfl }
open Go.RowKit Go.Lib in
theorem Tryz.strings_Cut (s sep : ByteArray) (m : Int) (w : World) (hs : s.size < 4294967281) (hm : w.cell? ⟨0,0,none⟩ = some (.int .i64 m)) :
  Calls Tryz.prog 52 #[.string s,.string sep] w fun e w' => e = .returned (.tuple #[.string ⟨(Lib.cut s.data.toList sep.data.toList).1.toArray⟩,.string ⟨(Lib.cut s.data.toList sep.data.toList).2.1.toArray⟩,.bool (Lib.cut s.data.toList sep.data.toList).2.2]) /\ ∃ n,w' = w.drewN n := Any.strings_Cut Tryz.lays145 s sep m w hs hm
def Tryz.lays146_ren : Go.Shelf.Ren := ⟨fun | 146 => 141 | 221 => 176 | 268 => 266 | 138 => 131 | 143 => 132 | 195 => 172 | 197 => 133 | 218 => 173 | 219 => 142 | 260 => 174 | 217 => 177 | 225 => 178 | 224 => 179 | 267 => 180 | 266 => 267 | 314 => 268 | n => n,fun | 9 => 9 | 31 => 73 | 3 => 3 | 4 => 4 | 0 => 0 | 105 => 179 | 21 => 21 | 5 => 5 | 46 => 147 | 119 => 236 | 139 => 239 | 138 => 238 | 146 => 244 | 51 => 146 | n => n,fun | 1 => 0 | 3 => 2 | 4 => 3 | n => n⟩
theorem Tryz.lays146 : Go.Proofs.Lays.n146 Tryz.prog Tryz.lays146_ren := {
 mixed := by kernel_rfl
 f138 := Tryz.func131.trans (congrArg some (by kernel_rfl))
 f143 := Tryz.func132.trans (congrArg some (by kernel_rfl))
 f146 := Tryz.func141.trans (congrArg some (by kernel_rfl))
 f195 := Tryz.func172.trans (congrArg some (by kernel_rfl))
 f197 := Tryz.func133.trans (congrArg some (by kernel_rfl))
 f217 := Tryz.func177.trans (congrArg some (by kernel_rfl))
 f218 := Tryz.func173.trans (congrArg some (by kernel_rfl))
 f219 := Tryz.func142.trans (congrArg some (by kernel_rfl))
 f221 := Tryz.func176.trans (congrArg some (by kernel_rfl))
 f224 := Tryz.func179.trans (congrArg some (by kernel_rfl))
 f225 := Tryz.func178.trans (congrArg some (by kernel_rfl))
 f260 := Tryz.func174.trans (congrArg some (by kernel_rfl))
 f266 := Tryz.func267.trans (congrArg some (by kernel_rfl))
 f267 := Tryz.func180.trans (congrArg some (by kernel_rfl))
 f268 := Tryz.func266.trans (congrArg some (by kernel_rfl))
 f314 := Tryz.func268.trans (congrArg some (by kernel_rfl))
 t0 := Tryz.underlying0
 a0 := Tryz.isAgg0
 z0 := Tryz.sizeOf0
 v0 := Tryz.zeroValue0
 t3 := Tryz.underlying3
 a3 := Tryz.isAgg3
 z3 := Tryz.sizeOf3
 v3 := Tryz.zeroValue3
 t4 := Tryz.underlying4
 a4 := Tryz.isAgg4
 z4 := Tryz.sizeOf4
 v4 := Tryz.zeroValue4
 t5 := Tryz.underlying5
 a5 := Tryz.isAgg5
 z5 := Tryz.sizeOf5
 v5 := Tryz.zeroValue5
 t9 := Tryz.underlying9
 a9 := Tryz.isAgg9
 z9 := Tryz.sizeOf9
 v9 := Tryz.zeroValue9
 t21 := Tryz.underlying21
 a21 := Tryz.isAgg21
 z21 := Tryz.sizeOf21
 v21 := Tryz.zeroValue21
 t31 := Tryz.underlying73
 a31 := Tryz.isAgg73
 z31 := Tryz.sizeOf73
 v31 := Tryz.zeroValue73
 t46 := Tryz.underlying147
 a46 := Tryz.isAgg147
 z46 := Tryz.sizeOf147
 v46 := Tryz.zeroValue147
 t51 := Tryz.underlying146
 a51 := Tryz.isAgg146
 z51 := Tryz.sizeOf146
 v51 := Tryz.zeroValue146
 t105 := Tryz.underlying179
 a105 := Tryz.isAgg179
 z105 := Tryz.sizeOf179
 v105 := Tryz.zeroValue179
 t119 := Tryz.underlying236
 a119 := Tryz.isAgg236
 z119 := Tryz.sizeOf236
 t138 := Tryz.underlying238
 a138 := Tryz.isAgg238
 z138 := Tryz.sizeOf238
 v138 := Tryz.zeroValue238
 t139 := Tryz.underlying239
 a139 := Tryz.isAgg239
 z139 := Tryz.sizeOf239
 v139 := Tryz.zeroValue239
 t146 := Tryz.underlying244
 a146 := Tryz.isAgg244
 z146 := Tryz.sizeOf244
 v146 := Tryz.zeroValue244
 g1 := by kernel_rfl
 g3 := by kernel_rfl
 g4 := by kernel_rfl }
open Go.RowKit Go.Lib in
theorem Tryz.strings_Split (s sep : ByteArray) (m : Int) (w : World) (hs : s.size < 4294967281) (hm : w.cell? ⟨0,0,none⟩ = some (.int .i64 m)) (h1 : 1 <= sep.size) :
  Calls Tryz.prog 141 #[.string s,.string sep] w fun e w' =>
   e = .returned (.slice (some ⟨w.heap.size,0,none⟩) (Lib.countB s sep + 1) (Lib.countB s sep + 1)) /\ w' = w.alloc (.cells ((Lib.splitB sep 0 (Lib.countB s sep) s).map Value.string).toArray 9) := Any.strings_Split Tryz.lays146 (by kernel_rfl) s sep m w hs hm h1
def Tryz.lays155_ren : Go.Shelf.Ren := ⟨fun | 155 => 43 | 154 => 85 | 138 => 131 | 165 => 83 | 143 => 132 | 166 => 38 | 197 => 133 | 169 => 44 | 195 => 172 | 218 => 173 | 240 => 82 | 241 => 129 | 219 => 142 | 260 => 174 | 276 => 128 | 277 => 167 | 217 => 177 | 225 => 178 | 224 => 179 | 267 => 180 | 266 => 267 | 314 => 268 | n => n,fun | 9 => 9 | 3 => 3 | 4 => 4 | 72 => 79 | 0 => 0 | 76 => 82 | 105 => 179 | 21 => 21 | 5 => 5 | 70 => 76 | 20 => 20 | 37 => 77 | 75 => 81 | 127 => 137 | 164 => 176 | 46 => 147 | 119 => 236 | 139 => 239 | 138 => 238 | 146 => 244 | 51 => 146 | 80 => 88 | n => n,fun | 1 => 0 | 3 => 2 | 4 => 3 | n => n⟩
theorem Tryz.lays155 : Go.Proofs.Lays.n155 Tryz.prog Tryz.lays155_ren := {
 mixed := by kernel_rfl
 f138 := Tryz.func131.trans (congrArg some (by kernel_rfl))
 f143 := Tryz.func132.trans (congrArg some (by kernel_rfl))
 f154 := Tryz.func85.trans (congrArg some (by kernel_rfl))
 f155 := Tryz.func43.trans (congrArg some (by kernel_rfl))
 f165 := Tryz.func83.trans (congrArg some (by kernel_rfl))
 f166 := Tryz.func38.trans (congrArg some (by kernel_rfl))
 f169 := Tryz.func44.trans (congrArg some (by kernel_rfl))
 f195 := Tryz.func172.trans (congrArg some (by kernel_rfl))
 f197 := Tryz.func133.trans (congrArg some (by kernel_rfl))
 f217 := Tryz.func177.trans (congrArg some (by kernel_rfl))
 f218 := Tryz.func173.trans (congrArg some (by kernel_rfl))
 f219 := Tryz.func142.trans (congrArg some (by kernel_rfl))
 f224 := Tryz.func179.trans (congrArg some (by kernel_rfl))
 f225 := Tryz.func178.trans (congrArg some (by kernel_rfl))
 f240 := Tryz.func82.trans (congrArg some (by kernel_rfl))
 f241 := Tryz.func129.trans (congrArg some (by kernel_rfl))
 f260 := Tryz.func174.trans (congrArg some (by kernel_rfl))
 f266 := Tryz.func267.trans (congrArg some (by kernel_rfl))
 f267 := Tryz.func180.trans (congrArg some (by kernel_rfl))
 f276 := Tryz.func128.trans (congrArg some (by kernel_rfl))
 f277 := Tryz.func167.trans (congrArg some (by kernel_rfl))
 f314 := Tryz.func268.trans (congrArg some (by kernel_rfl))
 t0 := Tryz.underlying0
 a0 := Tryz.isAgg0
 z0 := Tryz.sizeOf0
 v0 := Tryz.zeroValue0
 t3 := Tryz.underlying3
 a3 := Tryz.isAgg3
 z3 := Tryz.sizeOf3
 v3 := Tryz.zeroValue3
 t4 := Tryz.underlying4
 a4 := Tryz.isAgg4
 z4 := Tryz.sizeOf4
 v4 := Tryz.zeroValue4
 t5 := Tryz.underlying5
 a5 := Tryz.isAgg5
 z5 := Tryz.sizeOf5
 v5 := Tryz.zeroValue5
 t9 := Tryz.underlying9
 a9 := Tryz.isAgg9
 z9 := Tryz.sizeOf9
 v9 := Tryz.zeroValue9
 t20 := Tryz.underlying20
 a20 := Tryz.isAgg20
 z20 := Tryz.sizeOf20
 v20 := Tryz.zeroValue20
 t21 := Tryz.underlying21
 a21 := Tryz.isAgg21
 z21 := Tryz.sizeOf21
 v21 := Tryz.zeroValue21
 t37 := Tryz.underlying77
 a37 := Tryz.isAgg77
 z37 := Tryz.sizeOf77
 v37 := Tryz.zeroValue77
 t46 := Tryz.underlying147
 a46 := Tryz.isAgg147
 z46 := Tryz.sizeOf147
 v46 := Tryz.zeroValue147
 t51 := Tryz.underlying146
 a51 := Tryz.isAgg146
 z51 := Tryz.sizeOf146
 v51 := Tryz.zeroValue146
 t70 := Tryz.underlying76
 a70 := Tryz.isAgg76
 z70 := Tryz.sizeOf76
 v70 := Tryz.zeroValue76
 t72 := Tryz.underlying79
 a72 := Tryz.isAgg79
 z72 := Tryz.sizeOf79
 v72 := Tryz.zeroValue79
 t75 := Tryz.underlying81
 a75 := Tryz.isAgg81
 z75 := Tryz.sizeOf81
 v75 := Tryz.zeroValue81
 t76 := Tryz.underlying82
 a76 := Tryz.isAgg82
 z76 := Tryz.sizeOf82
 v76 := Tryz.zeroValue82
 t105 := Tryz.underlying179
 a105 := Tryz.isAgg179
 z105 := Tryz.sizeOf179
 v105 := Tryz.zeroValue179
 t119 := Tryz.underlying236
 a119 := Tryz.isAgg236
 z119 := Tryz.sizeOf236
 t127 := Tryz.underlying137
 a127 := Tryz.isAgg137
 z127 := Tryz.sizeOf137
 v127 := Tryz.zeroValue137
 t138 := Tryz.underlying238
 a138 := Tryz.isAgg238
 z138 := Tryz.sizeOf238
 v138 := Tryz.zeroValue238
 t139 := Tryz.underlying239
 a139 := Tryz.isAgg239
 z139 := Tryz.sizeOf239
 v139 := Tryz.zeroValue239
 t146 := Tryz.underlying244
 a146 := Tryz.isAgg244
 z146 := Tryz.sizeOf244
 v146 := Tryz.zeroValue244
 t164 := Tryz.underlying176
 a164 := Tryz.isAgg176
 z164 := Tryz.sizeOf176
 v164 := Tryz.zeroValue176
 g1 := by kernel_rfl
 g3 := by kernel_rfl
 g4 := by kernel_rfl }
theorem Tryz.Builder_Extra_155 : Builder.Extra Tryz.prog Tryz.lays155_ren := {
 sizeBuilder := by kernel_rfl
 liesBuilder := by kernel_rfl
 t5 := Tryz.underlying5
 a5 := Tryz.isAgg5
 z5 := Tryz.sizeOf5
 v5 := Tryz.zeroValue5
 infoByte := by kernel_rfl
 cellsByte := by kernel_rfl
 sizeByte := by kernel_rfl
 neB5 := by decide }
open Go.RowKit Go.Lib in
theorem Tryz.strings_ReplaceAll (s old new : ByteArray) (m : Int) (w : World) (hs : s.size < 4294967281) (hm : w.cell? ⟨0,0,none⟩ = some (.int .i64 m)) (h1 : 1 <= old.size) (hlen : s.size + Lib.countB s old * new.size <= 140737488355328) :
  Calls Tryz.prog 43 #[.string s,.string old,.string new] w fun e w' =>
   e = .returned (.string ⟨(Lib.replaceAll s.data.toList old.data.toList new.data.toList).toArray⟩) /\ Below w.heap.size w w' := Any.strings_ReplaceAll Tryz.lays155 Tryz.Builder_Extra_155 s old new m w hs hm h1 hlen
end Go.Proofs
namespace Go.Proofs.YtgpedhfdniigoaaGreatDoor
open Go.RowKit Go.V
open Go.Eng (inR byteAt u8 dD)
section
variable {g : Gv}
def aAV (c : UInt8) : List UInt8 := if c = 39 then [39,39] else [c]
def eV (l : List UInt8) : List UInt8 := l.flatMap aAV
def joinL (sep : List UInt8) : List (List UInt8) -> List UInt8
 | [] => []
 | [x] => x
 | x :: y :: r => x ++ sep ++ joinL sep (y :: r)
def eS (sep : Nat) (l : List (List UInt8)) : Nat := (l.map fun x => x.length + sep).sum
theorem iJ (sep : List UInt8) : ∀ (l : List (List UInt8)),(joinL sep l).length <= eS sep.length l
 | [] => by simp [joinL,eS]
 | [x] => by simp [joinL,eS]
 | x :: y :: r => by
  have := iJ sep (y :: r)
  simp only [joinL,eS,mp1,List.sum_cons,la] at this ⊢
  omega
theorem aAL (sep : List UInt8) : ∀ l : List (List UInt8),Lib.join l sep = joinL sep l
 | [] => rfl
 | [x] => by simp [Lib.join,joinL,List.intercalate]
 | x :: y :: r => by
  have := aAL sep (y :: r)
  simp only [Lib.join,joinL,List.intercalate,List.intersperse,List.flatten_cons] at this ⊢
  rw [this]
  simp
theorem aAK (l : List (List UInt8)) (sep : List UInt8) (h : eS sep.length l <= 1000000000) (hl : l.length <= 1000000) : SpG g 39 [.c (cM 1 (strs l)),.c (cS (S sep))] [] (.c (cS (S (joinL sep l)))) [] := by
 intro fr w pl args hw hG m ha
 obtain ⟨v,r,rfl,h1,h2⟩ := ha.uncons
 obtain ⟨u,r',rfl,h3,h4⟩ := h2.uncons
 rw [h4.unnil]
 have hu : u = .string (S sep) := Rd.exact h3
 subst hu
 have fin : (Calls Tryz.prog 39 #[v,.string (S sep)] w fun e w' => e = .returned (.string (S (joinL sep l))) /\ Below w.heap.size w w') -> Calls Tryz.prog 39 [v,.string (S sep)].toArray w fun e w' => ∃ v pl',e = .returned v /\ Mem fr (lookO []) w' pl' /\ aV w' pl' (lookO []) (.c (cS (S (joinL sep l)))) v := by
  intro hc
  refine Calls.mono hc ?_
  rintro e w' ⟨rfl,hb⟩
  obtain ⟨m',L⟩ := m.ext (w' := w') ⟨hb.os,hb.tape,hb.output,hb.size,fun k hk _ => hb.block k hk⟩
  exact ⟨_,pl,rfl,m',Rd.v _ rfl⟩
 refine fin ?_
 have h1 : Rd w (Sh pl (lookO [])) (.sl 1 (strs l)) v := h1
 generalize hes : strs l = es at h1
 cases h1 with
 | nil =>
  have : l = [] := by simpa [strs] using hes
  subst this
  exact (Tryz.strings_Join_none none 0 (S sep) w).mono fun _ _ ⟨a,b⟩ => ⟨a,by rw [b]; exact Below.refl _ _⟩
 | far _ ad =>
  have : l = [] := by simpa [strs] using hes
  subst this
  exact (Tryz.strings_Join_none (some ad) 0 (S sep) w).mono fun _ _ ⟨a,b⟩ => ⟨a,by rw [b]; exact Below.refl _ _⟩
 | sl us hF hb hc hm hs hu hr =>
  rename_i b off c cs e fz
  subst hes
  have hlen : (strs l).length = l.length := by simp [strs]
  have hj := iJ sep l
  have e1 : (l.map S).map (fun x : ByteArray => x.data.toList) = l := by
   rw [List.map_map]
   exact (List.map_congr_left fun x _ => by simp [S]).trans (List.map_id l)
  have e2 : (S sep).data.toList = sep := by simp [S]
  have := Tryz.strings_Join b off c (l.map S) (S sep) w (fun j x hx => by
    simp only [List.getElem?_map,me] at hx
    obtain ⟨t,ht,rfl⟩ := hx
    have a1 : (strs l)[j]? = some [.s (S t)] := by simp [strs,iA,ht]
    have a2 := hu j 0 _ _ a1 rfl
    have a3 := Rd.exact (hr j 0 _ _ a1 rfl)
    rw [a3] at a2
    rw [Lib.cell_of_heap hb]
    simpa using a2) (Array.getElem?_eq_some_iff.1 hb).1 (by rw [lm]; omega) (by rw [lm,<- hlen]; exact hc) (by rw [e1,e2,aAL]; omega)
  rw [e1,e2,aAL,lm] at this
  rw [hlen]
  exact this
theorem aGX : ∀ s : List UInt8,Lib.replaceK [39] [39,39] (Lib.count s [39]) s = eV s
 | [] => by rw [Lib.count_one]; rfl
 | b :: l => by
  have ih := aGX l
  by_cases hb : b = 39
  subst hb
  rw [Lib.count_cons_eq,Nat.add_comm,Lib.replaceK_hit _ _ _ _ 0 (by simp [Lib.index,List.isPrefixOf])]
  simp [ih,eV,aAV]
  rw [Lib.count_cons_ne _ _ _ hb]
  have e : eV (b :: l) = b :: eV l := by simp [eV,aAV,hb]
  rw [e,<- ih]
  cases hn : Lib.count l [39] with
  | zero => rfl
  | succ k =>
   obtain ⟨i,hi⟩ := Lib.index_of_count (s := l) (old := [39]) (by omega)
   have hne : ¬ (39 : UInt8) = b := fun h => hb h.symm
   have hi2 : Lib.index (b :: l) [39] = ((i + 1 : Nat) : Int) := by
    simp only [Lib.index,List.isPrefixOf,hi]
    rw [if_neg (by simp [hne]),if_neg (by simp)]
    omega
   rw [Lib.replaceK_hit _ _ _ _ _ hi2,Lib.replaceK_hit _ _ _ _ _ hi]
   simp
theorem k4 (s : List UInt8) (h : s.length <= 1000000) : SpG g 43 [.c (cS (S s)),.c (cS (S [39])),.c (cS (S [39,39]))] [] (.c (cS (S (eV s)))) [] := by
 refine qS (args := [.string (S s),.string (S [39]),.string (S [39,39])]) rfl rfl rfl fun w hG => ?_
 obtain ⟨ty,fz,h0⟩ := hG 0 [.int .i64 g.maxLen] (by simp [Gl])
 have hc := Lib.countB_le (S [39]) (by decide) s.length (S s) (by rw [bH]; omega)
 rw [bH] at hc
 have := Tryz.strings_ReplaceAll (S s) (S [39]) (S [39,39]) g.maxLen w (by rw [bH]; omega) (by rw [Lib.cell_of_heap h0]; rfl) (by decide) (by
  have e : (S [39,39]).size = 2 := rfl
  rw [bH,e]; omega)
 have e1 : (S s).data.toList = s := by simp [S]
 have e2 : (S [39]).data.toList = [39] := by simp [S]
 have e3 : (S [39,39]).data.toList = [39,39] := by simp [S]
 rw [e1,e2,e3,Lib.replaceAll,Lib.replace,if_neg (by decide),Lib.replaceNum,if_pos (by omega),aGX] at this
 exact this
theorem jH (l : List UInt8) : (S l).data.toList = l := by simp [S]
theorem aI6 (w : World) (n : Nat) : Below w.heap.size w (w.drewN n) := ⟨rfl,rfl,rfl,lr _,fun _ _ => rfl⟩
theorem cut_ok' (s p : List UInt8) (hs : s.length < 4294967281) : SpG g 52 [.c (cS (S s)),.c (cS (S p))] [] (.tup [(false,[cS (S (Lib.cut s p).1)]),(false,[cS (S (Lib.cut s p).2.1)]),(false,[.d (.b (Lib.cut s p).2.2)])]) [] := by
 refine qS (args := [.string (S s),.string (S p)]) rfl rfl rfl fun w hG => ?_
 obtain ⟨ty,fz,h0⟩ := hG 0 [.int .i64 g.maxLen] (by simp [Gl])
 have := Tryz.strings_Cut (S s) (S p) g.maxLen w (by rw [bH]; omega) (by rw [Lib.cell_of_heap h0]; rfl)
 rw [jH,jH] at this
 exact this.mono fun _ _ ⟨x,n,y⟩ => ⟨x,by rw [y]; exact aI6 _ _⟩
theorem aA2 (s : ByteArray) : (⟨s.data.toList.toArray⟩ : ByteArray) = s := by cases s; simp
theorem aGI (s : ByteArray) : S s.data.toList = s := aA2 s
theorem aJW {f : FuncId} {ins : List SV} {args : List Value} {xs : List Value} {e : TypeId} (hi : s6 ins = some args) (h1 : ∀ x ∈ xs,x.oneCell' = true) (hn : xs.length <= maxLen)
  (h : ∀ w : World,(∀ g' cs,(g',cs) ∈ Gl g -> ∃ ty fz,w.heap[g']? = some (.cells cs.toArray ty fz)) -> Calls Tryz.prog f args.toArray w fun e' w' => e' = .returned (.slice (some ⟨w.heap.size,0,none⟩) xs.length xs.length) /\ w' = w.alloc (.cells xs.toArray e)) :
  V.Spec Tryz.prog (Gl g) f ins [] (.c (.ar 100 0)) [(100,.arr 0 ⟨e,[]⟩ 1 (xs.map fun x => [.v x]))] := by
 intro fr w pl as0 hw hG m ha
 obtain ⟨hGG,_,_,_⟩ := hG
 rw [s5 hi ha]
 refine Calls.mono (h w fun g' cs hg => by rw [<- hw]; exact (m.frOk.glob g' cs (by rw [hGG]; exact hg)).1) ?_
 rintro e' w' ⟨rfl,rfl⟩
 have hfl : ∀ xs : List Value,(xs.map fun x => [D.v x]).flatten = xs.map D.v := by
  intro xs
  induction xs with
  | nil => rfl
  | cons x r ih => simp only [mp1,List.flatten_cons,ih]; rfl
 obtain ⟨pl',m',L,hA⟩ := m.newArr (i := 100) (e := ⟨e,[]⟩) (sz := 1) (es := xs.map fun x => [.v x]) (xs := xs) (A := some ⟨w.heap.size,0,none⟩) (cap := xs.length) rfl (w' := w.alloc (.cells xs.toArray e)) ⟨rfl,rfl,rfl,by simp,fun k hk _ => Below.heap_alloc _ _ _ hk⟩
  ⟨by simp,.inr ⟨w.heap.size,xs.length,xs.toArray,by simp,zl _,heap_alloc_new w _,by simp,hn,by simp,by simp⟩⟩
  (fun ad h => by injection h with h; rw [<- h]; exact lr _) (by rw [hfl xs]; exact AllO.of ⟨by simp,fun j d x hd hx => by
   simp only [List.getElem?_map,me] at hd
   obtain ⟨y,hy,rfl⟩ := hd
   rw [hy] at hx
   simp only [oIQ] at hx
   subst hx
   exact .v _ (h1 _ (List.mem_of_getElem? hy))⟩) (fun ds hd => by
   obtain ⟨x,_,rfl⟩ := mmQ.1 hd
   rfl)
 have hown : upd (lookO []) 100 (.arr 0 ⟨e,[]⟩ 1 (xs.map fun x => [.v x])) = lookO [(100,.arr 0 ⟨e,[]⟩ 1 (xs.map fun x => [.v x]))] := by rw [d9]
 rw [hown] at m'
 exact ⟨_,pl',rfl,m',0,⟨e,[]⟩,1,_,rfl,lr _,fun _ => by rw [hA]; simp,rfl⟩
theorem aIB (s p : ByteArray) (hs : s.size < 4294967281) (h1 : 1 <= p.size) :
  V.Spec Tryz.prog (Gl g) 141 [.c (.d (.v (.string s))),.c (.d (.v (.string p)))] [] (.c (.ar 100 0)) [(100,.arr 0 ⟨9,[]⟩ 1 (((Lib.splitB p 0 (Lib.countB s p) s).map Value.string).map fun x => [.v x]))] := by
 have hl : (Lib.splitB p 0 (Lib.countB s p) s).length = Lib.countB s p + 1 := Lib.splitB_all p h1 0 _ s rfl
 have hc := Lib.countB_le p h1 s.size s (lr _)
 refine aJW (args := [.string s,.string p]) rfl (fun x hx => by obtain ⟨y,_,rfl⟩ := mmQ.1 hx; rfl) (by rw [lm,hl]; unfold maxLen; omega) fun w hG => ?_
 obtain ⟨ty,fz,h0⟩ := hG 0 [.int .i64 g.maxLen] (by simp [Gl])
 have := Tryz.strings_Split s p g.maxLen w hs (by rw [Lib.cell_of_heap h0]; rfl) h1
 rw [lm,hl]
 exact this
def aMB : Ent Tryz.prog (Gl g) where
 f := 141
 ask := fun _ ins refs => match ins,refs with
  | [.c (.d (.v (.string s))),.c (.d (.v (.string p)))],[] => bif Nat.blt s.size 4294967281 && Nat.ble 1 p.size then some (.c (.ar 100 0),[(100,.arr 0 ⟨9,[]⟩ 1 (((Lib.splitB p 0 (Lib.countB s p) s).map Value.string).map fun x => [.v x]))],[]) else none
  | _,_ => none
 ok := by
  intro k ins refs post out cs h _
  split at h
  rename_i s p
  cases hb : (Nat.blt s.size 4294967281 && Nat.ble 1 p.size) with
  | false => rw [hb] at h; cases h
  | true =>
   rw [hb] at h
   simp only [cond_true,oIQ,pIQ] at h
   obtain ⟨rfl,rfl,_⟩ := h
   simp only [bIQ,Nat.blt_eq,Nat.ble_eq] at hb
   exact aIB s p hb.1 hb.2
  cases h
def entCut : Ent Tryz.prog (Gl g) where
 f := 52
 ask := fun _ ins refs => match ins,refs with
  | [.c (.d (.v (.string s))),.c (.d (.v (.string p)))],[] => bif Nat.blt s.data.toList.length 4294967281 then some (.tup [(false,[cS (S (Lib.cut s.data.toList p.data.toList).1)]),(false,[cS (S (Lib.cut s.data.toList p.data.toList).2.1)]),(false,[.d (.b (Lib.cut s.data.toList p.data.toList).2.2)])],[],[]) else none
  | _,_ => none
 ok := by
  intro k ins refs post out cs h _
  split at h
  rename_i s p
  cases hb : Nat.blt s.data.toList.length 4294967281 with
  | false => rw [hb] at h; cases h
  | true =>
   rw [hb] at h
   simp only [cond_true,oIQ,pIQ] at h
   obtain ⟨rfl,rfl,_⟩ := h
   have := cut_ok' (g := g) s.data.toList p.data.toList (by simpa using hb)
   rw [aGI,aGI] at this
   exact this
  cases h
def entIdx : Ent Tryz.prog (Gl g) where
 f := 177
 ask := fun _ ins refs => match ins,refs with
  | [.c (.d (.v (.string s))),.c (.d (.v (.int .u8 c)))],[] => some (.c (cI (Lib.indexByte s.data.toList c.toNat.toUInt8)),[],[])
  | _,_ => none
 ok := by
  intro k ins refs post out cs h _
  split at h
  rename_i s c
  simp only [oIQ,pIQ] at h
  obtain ⟨rfl,rfl,_⟩ := h
  exact aC8 (args := [.string s,.int .u8 c]) rfl rfl rfl fun w => (Tryz.stringslite_IndexByte s c w).mono fun _ _ ⟨a,b⟩ => ⟨a,b.symm⟩
  cases h
theorem ne0 : nK Tryz.prog 128 := ⟨_,Tryz.func128,by kernel_rfl,by kernel_rfl,by kernel_rfl,by kernel_rfl⟩
def N0e : List (NE Tryz.prog) := [⟨_,ne0⟩]
theorem aJA (a b : ByteArray) : SpG g 114 [.c (.d (.v (.string a))),.c (.d (.v (.string b)))] [] (.c (cI (Lib.compareBytes a.data.toList b.data.toList))) [] :=
 aC8 (args := [.string a,.string b]) rfl rfl rfl fun w => (Tryz.strings_Compare a b w).mono fun _ _ ⟨a,b⟩ => ⟨a,b.symm⟩
def entCmp : Ent Tryz.prog (Gl g) where
 f := 114
 ask := fun _ ins refs => match ins,refs with
  | [.c (.d (.v (.string s))),.c (.d (.v (.string p)))],[] => some (.c (cI (Lib.compareBytes s.data.toList p.data.toList)),[],[])
  | _,_ => none
 ok := by
  intro k ins refs post out cs h _
  split at h
  simp only [oIQ,pIQ] at h
  obtain ⟨rfl,rfl,_⟩ := h
  exact aJA _ _
  cases h
def strOf : LD -> Option (List (List UInt8))
 | [] => some []
 | [.v (.string s)] :: r => match strOf r with
  | some l => some (s.data.toList :: l)
  | none => none
 | _ => none
theorem aBG : ∀ {es : LD} {l : List (List UInt8)},strOf es = some l -> es = strs l
 | [],l,h => by simp only [strOf,oIQ] at h; subst h; rfl
 | e :: r,l,h => by
  unfold strOf at h
  split at h
  rename_i heq; cases heq
  rename_i s r' heq
  injection heq with h1 h2
  subst h1; subst h2
  split at h
  rename_i l' hl
  simp only [oIQ] at h
  subst h
  rw [aBG hl]
  simp [strs,iA,D.s,aGI]
  cases h
  cases h
def entJoin : Ent Tryz.prog (Gl g) where
 f := 39
 ask := fun _ ins refs => match ins,refs with
  | [.c (.d (.sl 1 es)),.c (.d (.v (.string s)))],[] => match strOf es with
   | some l => bif Nat.ble (eS s.data.toList.length l) 1000000000 && Nat.ble l.length 1000000 then some (.c (cS (S (joinL s.data.toList l))),[],[]) else none
   | none => none
  | _,_ => none
 ok := by
  intro k ins refs post out cs h _
  split at h
  rename_i es s
  split at h
  rename_i l hl
  cases hb : (Nat.ble (eS s.data.toList.length l) 1000000000 && Nat.ble l.length 1000000) with
  | false => rw [hb] at h; cases h
  | true =>
   rw [hb] at h
   simp only [cond_true,oIQ,pIQ] at h
   obtain ⟨rfl,rfl,_⟩ := h
   simp only [bIQ,Nat.ble_eq] at hb
   have := aAK (g := g) l s.data.toList hb.1 hb.2
   rw [aBG hl]
   rw [aGI] at this
   exact this
  cases h
  cases h
def eqL : List UInt8 -> List UInt8 -> Bool
 | [],[] => true
 | x :: a,y :: b => bif Nat.beq x.toNat y.toNat then eqL a b else false
 | _,_ => false
theorem aAW : ∀ {a b : List UInt8},eqL a b = true -> a = b
 | [],[],_ => rfl
 | [],_ :: _,h => by cases h
 | _ :: _,[],h => by cases h
 | x :: a,y :: b,h => by
  unfold eqL at h
  cases hb : Nat.beq x.toNat y.toNat with
  | false => rw [hb] at h; cases h
  | true =>
   rw [hb] at h
   rw [UInt8.toNat_inj.1 (Nat.eq_of_beq_eq_true hb),aAW h]
def entRepl : Ent Tryz.prog (Gl g) where
 f := 43
 ask := fun _ ins refs => match ins,refs with
  | [.c (.d (.v (.string s))),.c (.d (.v (.string a))),.c (.d (.v (.string b)))],[] => bif eqL a.data.toList [39] && eqL b.data.toList [39,39] && Nat.ble s.data.toList.length 1000000 then some (.c (cS (S (eV s.data.toList))),[],[]) else none
  | _,_ => none
 ok := by
  intro k ins refs post out cs h _
  split at h
  rename_i s a b
  cases hb : (eqL a.data.toList [39] && eqL b.data.toList [39,39] && Nat.ble s.data.toList.length 1000000) with
  | false => rw [hb] at h; cases h
  | true =>
   rw [hb] at h
   simp only [cond_true,oIQ,pIQ] at h
   obtain ⟨rfl,rfl,_⟩ := h
   simp only [bIQ,Nat.ble_eq] at hb
   have := k4 (g := g) s.data.toList hb.2
   have e1 : a = S [39] := by rw [<- aAW hb.1.1,aGI]
   have e2 : b = S [39,39] := by rw [<- aAW hb.1.2,aGI]
   rw [aGI,<- e1,<- e2] at this
   exact this
  cases h
def allEq {α : Type} (r : α -> α -> Bool) : List α -> List α -> Bool
 | [],[] => true
 | x :: a,y :: b => bif r x y then allEq r a b else false
 | _,_ => false
theorem kG {α : Type} {r : α -> α -> Bool} (hr : ∀ x y,r x y = true -> x = y) : ∀ {a b : List α},allEq r a b = true -> a = b
 | [],[],_ => rfl
 | [],_ :: _,h => by cases h
 | _ :: _,[],h => by cases h
 | x :: a,y :: b,h => by
  unfold allEq at h
  cases hb : r x y with
  | false => rw [hb] at h; cases h
  | true => rw [hb] at h; rw [hr _ _ hb,kG hr h]
def vEq : Value -> Value -> Bool
 | .int .i64 a,.int .i64 b => decide (a = b)
 | .int .u8 a,.int .u8 b => decide (a = b)
 | .bool a,.bool b => decide (a = b)
 | .string a,.string b => eqL a.data.toList b.data.toList
 | .slice none 0 0,.slice none 0 0 => true
 | _,_ => false
theorem vEq_eq {a b : Value} (h : vEq a b = true) : a = b := by
 unfold vEq at h
 split at h
 rw [of_decide_eq_true h]
 rw [of_decide_eq_true h]
 rw [of_decide_eq_true h]
 rename_i s p
 have := aAW h
 rw [<- aA2 s,<- aA2 p,this]
 rfl
 cases h
def dEq : Nat -> D -> D -> Bool
 | f + 1,.v a,.v b => vEq a b
 | f + 1,.sl n a,.sl m b => Nat.beq n m && allEq (allEq (dEq f)) a b
 | _,_,_ => false
theorem aMF : ∀ {f : Nat} {a b : D},dEq f a b = true -> a = b
 | 0,a,b,h => by cases a <;> cases b <;> cases h
 | f + 1,.v a,.v b,h => by rw [vEq_eq (a := a) (b := b) h]
 | f + 1,.sl n a,.sl m b,h => by
  have h : (Nat.beq n m && allEq (allEq (dEq f)) a b) = true := h
  simp only [bIQ] at h
  rw [Nat.eq_of_beq_eq_true h.1,kG (fun x y hxy => kG (fun _ _ => aMF) hxy) h.2]
 | f + 1,.v _,.sl _ _,h => by cases h
 | f + 1,.sl _ _,.v _,h => by cases h
def cEq : C -> C -> Bool
 | .d a,.d b => dEq 20 a b
 | _,_ => false
theorem aMT {a b : C} (h : cEq a b = true) : a = b := by
 unfold cEq at h
 split at h
 rw [aMF h]
 cases h
def svEq : SV -> SV -> Bool
 | .c a,.c b => cEq a b
 | .agg a,.agg b => allEq cEq a b
 | _,_ => false
theorem svEq_eq {a b : SV} (h : svEq a b = true) : a = b := by
 unfold svEq at h
 split at h
 rw [aMT h]
 rw [kG (fun _ _ => aMT) h]
 cases h
structure Lit (g : Gv) (f : FuncId) where
 ins : List SV
 out : SV
 ok : V.Spec Tryz.prog (Gl g) f ins [] out []
def aHA {f : FuncId} : List (Lit g f) -> List SV -> Option (Lit g f)
 | [],_ => none
 | e :: r,ins => bif allEq svEq e.ins ins then some e else aHA r ins
theorem aDK {f : FuncId} : ∀ {T : List (Lit g f)} {ins : List SV} {e : Lit g f},aHA T ins = some e -> e.ins = ins
 | [],ins,e,h => by cases h
 | x :: r,ins,e,h => by
  unfold aHA at h
  cases hb : allEq svEq x.ins ins with
  | false => rw [hb] at h; exact aDK h
  | true =>
   rw [hb] at h
   simp only [cond_true,oIQ] at h
   subst h
   exact kG (fun _ _ => svEq_eq) hb
def cQ (f : FuncId) (T : List (Lit g f)) : Ent Tryz.prog (Gl g) where
 f := f
 ask := fun _ ins refs => match refs with
  | [] => match aHA T ins with
   | some e => some (e.out,[],[])
   | none => none
  | _ => none
 ok := by
  intro k ins refs post out cs h _
  split at h
  split at h
  rename_i e he
  simp only [oIQ,pIQ] at h
  obtain ⟨rfl,rfl,_⟩ := h
  rw [<- aDK he]
  exact e.ok
  cases h
  cases h
def T0 : List (Ent Tryz.prog (Gl g)) := [aMB,entCut,entIdx,entCmp,entJoin,entRepl]
end
def mkL (l : List Nat) (sl : List (Nat × Nat)) (k : Nat) : Option Value := bif l.any (Nat.beq k) then some .nilIface else match sl with
 | [] => none
 | x :: r => bif Nat.beq k x.1 then some (.agg #[.int .i64 (Int.ofNat x.2)]) else mkL [] r k
end Go.Proofs.YtgpedhfdniigoaaGreatDoor
namespace Go.Proofs.YtgpedhfdniigoaaGreatDoor
open Go.RowKit Go.V
open Go.Eng (inR byteAt u8 dD)
variable {g : Gv}
def cH (l : List (List UInt8)) : List UInt8 := joinL [32] l ++ [10]
theorem tH (l : List (List UInt8)) : bytesD (S (joinL [32] l)).data.toList ++ [[D.y 10]] = bytesD (cH l) := by
 rw [jH,cH]; simp [bytesD]; rfl
def zq6 := And.intro @la.{0} (And.intro @lm.{0,0} (@bytesD.eq_1))
theorem pLineN_ (l : List (List UInt8)) (hl1 : eS 1 l <= 1000000000) (hl2 : l.length <= 1000000) :
  SpG g 37 [.c (cM 1 (strs l)),.c (.bx 0 0)] [(0,y12)] (.tup []) [(100,.arr 0 5 1 (bytesD (cH l))),(0,y14)] := by
 have hj : (joinL [32] l).length <= eS 1 l := iJ [32] l
 have hz := bH (joinL [32] l)
 refine aQ 7 Tryz.func37 fun fr hG => ?_
 refine zR hG [(0,1,kS (S (joinL [32] l))),(0,2,.callG (y13 ((S (joinL [32] l)).size : Int)) [0] [(0,y14),(100,.arr 0 5 1 (bytesD (S (joinL [32] l)).data.toList))]),(1,0,.callG (.c (.d (.v (.nilIface)))) [0,102] [(0,y11),(1,.arr 0 5 1 ((bytesD (S (joinL [32] l)).data.toList) ++ [[D.y 10]]))])] [102] (.tup []) [(100,.arr 0 5 1 ((bytesD (S (joinL [32] l)).data.toList) ++ [[D.y 10]])),(0,y14)] (cS2 g (aAK l [32] hl1 hl2) (cS2 g (wI (S (joinL [32] l)) (by first | (rw [bH]; omega) | (simp only [bytesD,lm,jH]; omega) | (simp only [zq6,jH]; omega))) (cS1 g (q9 (bytesD (S (joinL [32] l)).data.toList) 10 (by first | (rw [bH]; omega) | (simp only [bytesD,lm,jH]; omega) | (simp only [zq6,jH]; omega)))))) ?_ ?_
 rfl
 rw [<- tH]
theorem pLineN (l : List (List UInt8)) (hl1 : eS 1 l <= 1000000000) (hl2 : l.length <= 1000000) :
  SpG g 37 [.c (cM 1 (strs l)),.c (.bx 0 0)] [(0,y12)] (.tup []) [(0,y14),(100,.arr 0 5 1 (bytesD (cH l)))] := by
 refine nP (pLineN_ l hl1 hl2) ?_
 first | rfl | (funext i; simp only [d9,upd]; ((repeat' split) <;> first | rfl | (exfalso; omega)))
theorem pLine1_ (l : List (List UInt8)) (hl1 : eS 1 l <= 1000000000) (hl2 : l.length <= 1000000) (es : LD) (he : es.length <= 100000000000) :
  SpG g 37 [.c (cM 1 (strs l)),.c (.bx 0 0)] [(0,y11),(1,.arr 0 5 1 es)] (.tup []) [(1,.arr 0 5 1 (es ++ bytesD (cH l))),(0,y11)] := by
 have hj : (joinL [32] l).length <= eS 1 l := iJ [32] l
 have hz := bH (joinL [32] l)
 refine aQ 7 Tryz.func37 fun fr hG => ?_
 refine zR hG [(0,1,kS (S (joinL [32] l))),(0,2,.callG (y13 ((S (joinL [32] l)).size : Int)) [0,1] [(0,y11),(1,.arr 0 5 1 (es ++ bytesD (S (joinL [32] l)).data.toList))]),(1,0,.callG (.c (.d (.v (.nilIface)))) [0,1] [(0,y11),(1,.arr 0 5 1 ((es ++ bytesD (S (joinL [32] l)).data.toList) ++ [[D.y 10]]))])] [] (.tup []) [(1,.arr 0 5 1 ((es ++ bytesD (S (joinL [32] l)).data.toList) ++ [[D.y 10]])),(0,y11)] (cS2 g (aAK l [32] hl1 hl2) (cS2 g (wJ es (S (joinL [32] l)) (by first | (rw [bH]; omega) | (simp only [bytesD,lm,jH]; omega) | (simp only [zq6,jH]; omega))) (cS1 g (q9 (es ++ bytesD (S (joinL [32] l)).data.toList) 10 (by first | (rw [bH]; omega) | (simp only [bytesD,lm,jH]; omega) | (simp only [zq6,jH]; omega)))))) ?_ ?_
 rfl
 rw [<- tH,<- List.append_assoc]
theorem wY (l : List (List UInt8)) (hl1 : eS 1 l <= 1000000000) (hl2 : l.length <= 1000000) (es : LD) (he : es.length <= 100000000000) :
  SpG g 37 [.c (cM 1 (strs l)),.c (.bx 0 0)] [(0,y11),(1,.arr 0 5 1 es)] (.tup []) [(0,y11),(1,.arr 0 5 1 (es ++ bytesD (cH l)))] := by
 refine nP (pLine1_ l hl1 hl2 es he) ?_
 first | rfl | (funext i; simp only [d9,upd]; ((repeat' split) <;> first | rfl | (exfalso; omega)))
end Go.Proofs.YtgpedhfdniigoaaGreatDoor
namespace Go.Proofs.YtgpedhfdniigoaaGreatDoor
open Go.RowKit Go.V
open Go.Eng (inR byteAt u8 dD)
def vd : List Int -> Int
 | [] => 0
 | d :: r => d + 16777216 * vd r
def Dg (l : List Int) : Prop := ∀ d,d ∈ l -> 0 <= d /\ d < 16777216
def dg (n : Nat) : List Int := if h : n = 0 then [] else ((n % 16777216 : Nat) : Int) :: dg (n / 16777216)
 termination_by n
 decreasing_by omega
theorem qZ : dg 0 = [] := by rw [dg]; simp
theorem aF4 {n : Nat} (h : n ≠ 0) : dg n = ((n % 16777216 : Nat) : Int) :: dg (n / 16777216) := by rw [dg]; simp [h]
theorem wK : ∀ a b : List Int,vd (a ++ b) = vd a + 16777216 ^ a.length * vd b
 | [],b => by simp [vd]
 | x :: a,b => by
  rw [List.cons_append,vd,wK a b,vd,lc,Int.pow_succ]
  grind
theorem aGK (a : List Int) (x : Int) : vd (a ++ [x]) = vd a + 16777216 ^ a.length * x := by rw [wK]; simp [vd]
theorem Dg.nil : Dg [] := fun d h => by cases h
theorem Dg.cons {x : Int} {l : List Int} (h0 : 0 <= x) (h1 : x < 16777216) (h : Dg l) : Dg (x :: l) := fun d hd => by
 rcases mc.1 hd with rfl | hd
 exact ⟨h0,h1⟩
 exact h d hd
theorem Dg.app {a b : List Int} (ha : Dg a) (hb : Dg b) : Dg (a ++ b) := fun d hd => (List.mem_append.1 hd).elim (ha d) (hb d)
theorem Dg.snoc {a : List Int} {x : Int} (ha : Dg a) (h0 : 0 <= x) (h1 : x < 16777216) : Dg (a ++ [x]) := ha.app (Dg.cons h0 h1 Dg.nil)
theorem Dg.at {l : List Int} (h : Dg l) {k : Nat} (hk : k < l.length) : 0 <= l.getD k 0 /\ l.getD k 0 < 16777216 := h _ (by simp [hk])
theorem kW : ∀ n : Nat,vd (dg n) = (n : Int) /\ Dg (dg n) := by
 intro n
 induction n using Nat.strongRecOn with
 | ind n ih =>
  by_cases h : n = 0
  subst h; rw [qZ]; exact ⟨rfl,Dg.nil⟩
  obtain ⟨h1,h2⟩ := ih (n / 16777216) (by omega)
  rw [aF4 h,vd,h1]
  exact ⟨by omega,Dg.cons (by omega) (by omega) h2⟩
theorem drop_at {l : List Int} {k : Nat} (h : k < l.length) : vd (l.drop k) = l.getD k 0 + 16777216 * vd (l.drop (k + 1)) := by
 rw [List.drop_eq_getElem_cons h,vd]; simp [h]
theorem j7 {l : List Int} {k : Nat} (h : l.length <= k) : vd (l.drop k) = 0 := by rw [List.drop_eq_nil_of_le h]; rfl
theorem aAX {n k : Nat} (h : (nb n).length <= 3 * k) : (dg n).length <= k := by
 induction k generalizing n with
 | zero =>
  have := (aDG n).1 (by omega)
  subst this; rw [qZ]; simp
 | succ k ih =>
  by_cases h0 : n = 0
  subst h0; rw [qZ]; simp
  rw [aF4 h0,lc]
  have : (nb (n / 16777216)).length <= 3 * k := by
   by_cases h1 : n / 256 = 0
   rw [show n / 16777216 = 0 by omega,nb_zero]; simp
   by_cases h2 : n / 65536 = 0
   rw [show n / 16777216 = 0 by omega,nb_zero]; simp
   by_cases h3 : n / 16777216 = 0
   rw [h3,nb_zero]; simp
   have e1 := congrArg List.length (lO h0)
   have e2 := congrArg List.length (lO (n := n / 256) h1)
   have e3 := congrArg List.length (lO (n := n / 256 / 256) (by omega))
   rw [la] at e1 e2 e3
   have e4 : n / 256 / 256 / 256 = n / 16777216 := by omega
   rw [e4] at e3
   simp only [lc,lnQ] at e1 e2 e3
   omega
  have := ih this
  omega
theorem aLB {n : Nat} {x : UInt8} {t : List UInt8} (h : nb n = x :: t) : ¬ x = 0 := by
 intro h0
 have e : cL (nb n) = nb n := by rw [aD2,f9]
 rw [h,h0] at e
 have h1 : cL (0 :: t) = cL t := by simp [cL]
 rw [h1] at e
 have : (cL t).length <= t.length := by unfold cL; exact (List.dropWhile_sublist _).length_le
 rw [e,lc] at this; omega
theorem aDF {n e : Nat} (he : 0 < e) (hl : e <= (nb n).length) : bL ((nb n).take e) ≠ 0 := by
 cases h : nb n with
 | nil => rw [h] at hl; simp at hl; omega
 | cons x t =>
  have hx := aLB h
  obtain ⟨k,rfl⟩ : ∃ k,e = k + 1 := ⟨e - 1,by omega⟩
  rw [List.take_succ_cons,kH]
  have : 0 < x.toNat := by
   rcases Nat.eq_zero_or_pos x.toNat with h0 | h0
   exact absurd (UInt8.toNat_inj.1 (by simpa using h0)) hx
   exact h0
  have h2 : 0 < x.toNat * 256 ^ (t.take k).length := Nat.mul_pos this (Nat.pow_pos (by decide))
  omega
theorem aEG {a : List UInt8} {s e : Nat} (h : s <= e) (he : e <= a.length) : bL (a.take e) = bL (a.take s) * 256 ^ (e - s) + bL ((a.take e).drop s) := by
 have e1 : a.take e = a.take s ++ (a.take e).drop s := by
  have := List.take_append_drop s (a.take e)
  rw [List.take_take,Nat.min_eq_left h] at this
  exact this.symm
 conv => lhs; rw [e1]
 rw [aBB,List.length_drop,lt1,Nat.min_eq_left he]
theorem of_step {n e : Nat} (he : 0 < e) (hl : e <= (nb n).length) : dg (bL ((nb n).take e)) = (bL (((nb n).take e).drop (e - 3)) : Int) :: dg (bL ((nb n).take (e - 3))) := by
 rw [aF4 (aDF he hl)]
 have hs := aEG (a := nb n) (s := e - 3) (e := e) (by omega) hl
 have hlt := qR (((nb n).take e).drop (e - 3))
 rw [List.length_drop,lt1,Nat.min_eq_left hl] at hlt
 by_cases h3 : 3 <= e
 rw [show e - (e - 3) = 3 by omega] at hs hlt
 rw [hs]
 have h1 : (bL ((nb n).take (e - 3)) * 256 ^ 3 + bL (((nb n).take e).drop (e - 3))) % 16777216 = bL (((nb n).take e).drop (e - 3)) := by omega
 have h2 : (bL ((nb n).take (e - 3)) * 256 ^ 3 + bL (((nb n).take e).drop (e - 3))) / 16777216 = bL ((nb n).take (e - 3)) := by omega
 rw [h1,h2]
 have h0 : e - 3 = 0 := by omega
 have hz : bL ((nb n).take (e - 3)) = 0 := by rw [h0]; rfl
 have hlt' : bL (((nb n).take e).drop (e - 3)) < 16777216 := by
  have : 256 ^ (e - (e - 3)) <= 256 ^ 3 := Nat.pow_le_pow_right (by decide) (by omega)
  omega
 rw [hz] at hs ⊢
 rw [Nat.zero_mul,Nat.zero_add] at hs
 rw [hs,Nat.mod_eq_of_lt hlt',Nat.div_eq_of_lt hlt']
theorem aC9 {acc : List UInt8} {d : Int} (h0 : 0 <= d) (h1 : d < 16777216) : (bL (acc ++ [u8 (Int.fdiv d 65536)] ++ [u8 (Int.fdiv d 256)] ++ [u8 d]) : Int) = bL acc * 16777216 + d := by
 rw [eE,eE,eE]
 have f1 : Int.fdiv d 65536 = d / 65536 := Int.fdiv_eq_ediv_of_nonneg _ (by decide)
 have f2 : Int.fdiv d 256 = d / 256 := Int.fdiv_eq_ediv_of_nonneg _ (by decide)
 rw [f1,f2]
 have h2 := lY (d / 65536)
 have h3 := lY (d / 256)
 have h4 := lY d
 omega
theorem aLC {acc : List UInt8} {n j : Nat} (hj : j < 8) (hv : bL acc = n / 2 ^ (64 - 8 * j)) : bL (acc ++ [u8 (Int.fdiv (n : Int) (2 ^ (56 - 8 * j)))]) = n / 2 ^ (64 - 8 * (j + 1)) := by
 rw [eE,hv]
 have e : ((u8 (Int.fdiv (n : Int) (2 ^ (56 - 8 * j)))).toNat : Int) = ((n / 2 ^ (56 - 8 * j) % 256 : Nat) : Int) := by
  rw [lY,Int.fdiv_eq_ediv_of_nonneg _ (Int.le_of_lt (Int.pow_pos (by decide)))]
  rw [Int.natCast_emod,Int.natCast_ediv,Int.natCast_pow]; rfl
 have e' : (u8 (Int.fdiv (n : Int) (2 ^ (56 - 8 * j)))).toNat = n / 2 ^ (56 - 8 * j) % 256 := Int.ofNat.inj e
 rw [e',show 64 - 8 * (j + 1) = 56 - 8 * j by omega,show 64 - 8 * j = (56 - 8 * j) + 8 by omega,Nat.pow_add,<- Nat.div_div_eq_div_mul]
 generalize n / 2 ^ (56 - 8 * j) = q
 omega
theorem Dg.set {l : List Int} (h : Dg l) {k : Nat} {x : Int} (h0 : 0 <= x) (h1 : x < 16777216) : Dg (l.set k x) := fun d hd => by
 rcases List.mem_or_eq_of_mem_set hd with h' | rfl
 exact h d h'
 exact ⟨h0,h1⟩
theorem uT {l : List Int} {k : Nat} (h : k < l.length) (x : Int) : vd (l.set k x) = vd l + 16777216 ^ k * (x - l.getD k 0) := by
 have e1 : l.set k x = l.take k ++ x :: l.drop (k + 1) := List.set_eq_take_append_cons_drop.trans (if_pos h)
 have e2 : l = l.take k ++ l.getD k 0 :: l.drop (k + 1) := by
  have := List.take_append_drop k l
  rw [List.drop_eq_getElem_cons h] at this
  simpa [h] using this.symm
 have e3 := congrArg vd e2
 rw [wK] at e3
 rw [e1,wK,e3,vd,vd]
 grind
theorem aA9 : ∀ n : Nat,vd (List.replicate n 0) = 0
 | 0 => rfl
 | n + 1 => by rw [List.replicate_succ,vd,aA9 n]; rfl
theorem Dg.zeros (n : Nat) : Dg (List.replicate n 0) := fun d hd => by rw [(List.mem_replicate.1 hd).2]; decide
end Go.Proofs.YtgpedhfdniigoaaGreatDoor
namespace Go.Proofs.YtgpedhfdniigoaaGreatDoor
open Go.RowKit Go.V
open Go.Eng (inR byteAt u8 dD)
variable {g : Gv}
theorem iK (acc : List Int) (x : Int) : intsD acc ++ [[D.i x]] = intsD (acc ++ [x]) := by simp [intsD,intD]
theorem bC (l : List Int) : (intsD l).length = l.length := by simp [intsD]
theorem aD3 (acc : List UInt8) (x y z : Int) : bytesD acc ++ [[D.y (IntKind.wrap .u8 x)],[D.y (IntKind.wrap .u8 y)],[D.y (IntKind.wrap .u8 z)]] = bytesD (acc ++ [u8 x] ++ [u8 y] ++ [u8 z]) := by
 rw [<- hJ,<- hJ,<- hJ]; simp
theorem mid_step {a : List UInt8} {s k : Nat} (hs : s <= k) (hk : k < a.length) : bL ((a.take (k + 1)).drop s) = 256 * bL ((a.take k).drop s) + (a.getD k 0).toNat := by
 have e : a.take (k + 1) = a.take k ++ [a.getD k 0] := by
  rw [List.take_add_one,gd,ge hk]; rfl
 rw [e,List.drop_append_of_le_length (by rw [lt1]; omega),eE]
theorem mid_bd {a : List UInt8} {s k : Nat} (hs : s <= k) (hk : k <= a.length) (h3 : k <= s + 3) : bL ((a.take k).drop s) < 16777216 /\ (k <= s + 2 -> bL ((a.take k).drop s) < 65536) := by
 have h := qR ((a.take k).drop s)
 rw [List.length_drop,lt1,Nat.min_eq_left hk] at h
 have h1 : 256 ^ (k - s) <= 256 ^ 3 := Nat.pow_le_pow_right (by decide) (by omega)
 refine ⟨by omega,fun h2 => ?_⟩
 have h1 : 256 ^ (k - s) <= 256 ^ 2 := Nat.pow_le_pow_right (by decide) (by omega)
 omega
theorem aHQ (l : List UInt8) (i : Int) : 0 <= byteAt (S l) i /\ byteAt (S l) i < 256 := by
 rw [gS]; have := (l.getD i.toNat 0).toNat_lt; omega
theorem wC (l : List UInt8) (i : Int) : IntKind.wrap .i64 (byteAt (S l) i) = byteAt (S l) i := by rw [gS,aA8]
theorem nb_ge {n k : Nat} : k < (nb n).length ↔ 256 ^ k <= n := by
 refine ⟨fun h => ?_,vL⟩
 rcases Nat.lt_or_ge n (256 ^ k) with h1 | h1
 have := fS h1; omega
 exact h1
theorem int_big {n : Nat} (h : (nb n).length > 8 \/ ((nb n).length = 8 /\ ((nb n).getD 0 0).toNat > 127)) : ¬ n < 2 ^ 63 := by
 intro hn
 rcases h with h | ⟨h,h'⟩
 have := fS (n := n) (k := 8) (by omega); omega
 have := nb_head hn h; omega
theorem aLZ {n : Nat} (h1 : ¬ (nb n).length > 8) (h2 : (nb n).length = 8 -> ¬ ((nb n).getD 0 0).toNat > 127) : n < 2 ^ 63 := by
 rcases Nat.lt_or_ge n (2 ^ 63) with h | h
 exact h
 exfalso
 have hl : (nb n).length = 8 := by
  have := vL (n := n) (k := 7) (by omega); omega
 have h3 := h2 hl
 have e : n = bL (nb n) := (f9 n).symm
 cases hb : nb n with
 | nil => rw [hb] at hl; simp at hl
 | cons x t =>
  rw [hb] at hl h3 e
  rw [kH] at e
  have ht : t.length = 7 := by simpa using hl
  have h4 := qR t
  rw [ht] at e h4
  have : x.toNat <= 127 := by simpa using h3
  have h5 : x.toNat * 256 ^ 7 <= 127 * 256 ^ 7 := Nat.mul_le_mul_right _ this
  omega
def aFL (n : Nat) : Int := if n < 2 ^ 63 then (n : Int) else 0
def aFM (n : Nat) : Bool := decide (n < 2 ^ 63)
def smV (n k : Nat) : Int := if n < 256 ^ k then (n : Int) else 0
def smK (n k : Nat) : Bool := decide (n < 256 ^ k)
theorem aJX {n k : Nat} (hk : k <= 7) (h : n < 256 ^ k) : aFL n = smV n k /\ aFM n = smK n k := by
 have h1 : 256 ^ k <= 256 ^ 7 := Nat.pow_le_pow_right (by decide) hk
 have h2 : n < 2 ^ 63 := by omega
 simp [aFL,aFM,smV,smK,h,h2]
def zq7 := And.intro @la.{0} (And.intro @lc.{0} (And.intro @lm.{0,0} (And.intro @lnQ.{0} (And.intro @bH (And.intro @decide_eq_true_eq (And.intro @Go.Eng.inR.eq_1 (And.intro @intsD.eq_1 (@maxLen.eq_1))))))))
def zq8 := And.intro @lm.{0,0} (And.intro @bH (And.intro @blS (And.intro @gS (@intsD.eq_1))))
theorem tF (l : List UInt8) (hl : l.length <= maxLen) :
  SpG g 60 [.c (cS (S l))] [] (.c (cS (S (nb (bL l))))) [] := by
 refine aQ 19 Tryz.func60 fun fr hG => ?_
 refine zL hG [] [0,0,1,1] (fun (zz : Nat) => match zz with | k => (l.length - k,⟨[zS 0 (S l),zS 2 (S []),zI 3 (k : Int)],[]⟩,k <= l.length /\ cL (l.drop k) = cL l)) 0 aE ?_ ?_
 exact ⟨zl _,rfl⟩
 rintro k ⟨hk,hn⟩
 refine zc hG [] [1,0] ((decide ((k : Int) < ((S l).size : Int))) && (decide ((byteAt (S l) (k : Int) : Int) = 0))) (aG (by intros; (try simp only [zq7] at *); omega : (decide ((k : Int) < ((S l).size : Int))) = true -> (0 : Int) <= (k : Int) /\ (k : Int) < ((S l).size : Int))) (fun hc2 => ?_) (fun hc2 => ?_)
 (try simp only [zq8] at hc2)
 refine zD hG [] (k + 1) (aG (by intros; (try simp only [zq7] at *); omega : inR ((k : Int) + 1))) ?_ ?_
 (try dsimp only); omega
 refine ⟨by omega,?_⟩
 rw [<- hn,aGC (k := k) (by omega) (by have := hc2.2; simp only [Int.toNat_natCast] at this; omega)]
 (try simp only [zq8] at hc2)
 refine zE hG [] (.exit 0) (⟨[zS 0 (S l),zS 2 (S []),zI 3 (k : Int)],[]⟩) aE rfl ?_
 refine zR hG [] [] (.c (cS ((S l).extract k (S l).size))) [] (aG (by intros; (try simp only [zq7] at *); omega : (0 : Int) <= (k : Int) /\ (k : Int) <= ((S l).size : Int) /\ ((S l).size : Int) <= ((S l).size : Int))) ?_ ?_
 have h0 : ¬ (k < l.length /\ (l.getD k 0).toNat = 0) := by
  rintro ⟨h1,h2⟩
  rcases hc2 with h | h
  omega
  simp only [Int.toNat_natCast] at h; omega
 rw [S_drop,<- aD2,<- hn,aGD h0]
 rfl
theorem lV (n : Nat) (hl : (nb n).length <= maxLen) : SpG g 60 [.c (cS (S (nb n)))] [] (.c (cS (S (nb n)))) [] := by
 have h := tF (g := g) (nb n) hl
 rw [f9] at h
 exact h
theorem aC7 (n : Int) (h : 0 <= n /\ n <= 9223372036854775807) :
  SpG g 23 [.c (cI n)] [] (.c (cS (S (nb n.toNat)))) [] := by
 refine aQ 23 Tryz.func23 fun fr hG => ?_
 refine zA hG [] [0,1,0,1,1] (⟨[zI 0 n,zS 2 (S []),zN 3,zI 4 56],[]⟩) [(3,9001,5,1)] [] (fun (zz : Nat × Int × LD × List UInt8) => match zz with | (j,kk,es,acc) => (8 - j,⟨[zI 0 n,zS 2 (S []),zY 3 9001 0,zI 4 kk],[(9001,.arr 0 5 1 es)]⟩,j <= 8 /\ kk = 56 - 8 * (j : Int) /\ es = bytesD acc /\ acc.length = j /\ bL acc = n.toNat / 2 ^ (64 - 8 * j))) (0,56,[],[]) aE ?_ ?_
 refine ⟨zl _,rfl,rfl,rfl,?_⟩
 rw [aBA,Nat.div_eq_of_lt (by omega)]
 rintro ⟨j,kk,es,acc⟩ ⟨hj,hkk,hes,ha,hv⟩
 have hlen : es.length = j := by rw [hes,eD,ha]
 have e0 : ((n.toNat : Nat) : Int) = n := by omega
 refine zc hG [] [1,0] ((decide ((kk : Int) >= 0)) && (decide ((n : Int) > 0))) aE (fun hc2 => ?_) (fun hc2 => ?_)
 (try simp only [zq8] at hc2)
 refine zD hG [] (j + 1,kk - 8,es ++ [[D.y (IntKind.wrap .u8 (Int.fdiv n (2 ^ min (kk : Int).toNat 64)))]],acc ++ [u8 (Int.fdiv n (2 ^ min (kk : Int).toNat 64))]) (aD (by intros; (try simp only [zq7] at *); omega : (0 : Int) <= kk) (aD (by intros; (try simp only [zq7] at *); omega : (es.length + (([[.y (IntKind.wrap .u8 (Int.fdiv n (2 ^ min (kk : Int).toNat 64)))]] : LD)).length) * (1 + 1) <= 140737488355328) (aG (by intros; (try simp only [zq7] at *); omega : inR (kk - 8))))) ?_ ?_
 (try dsimp only); omega
 have e1 : min (kk : Int).toNat 64 = 56 - 8 * j := by omega
 refine ⟨by omega,by omega,by rw [hes,hJ],by simp [ha],?_⟩
 rw [e1]
 have h := aLC (acc := acc) (n := n.toNat) (j := j) (by omega) hv
 rw [e0] at h; exact h
 (try simp only [zq8] at hc2)
 refine zE hG [] (.exit 0) (⟨[zS 2 (S []),zY 3 9001 0],[(9001,.arr 0 5 1 es)]⟩) aE rfl ?_
 refine zR hG [(6,1,kS (S acc)),(6,2,kS (S (nb (bL acc))))] [] (.c (cS (S (nb (bL acc))))) [] (aD (by rw [hes,aD4] : es = bytesD (S acc).data.toList) (cS1 g (tF acc (by simp only [maxLen]; omega)))) ?_ ?_
 have e : bL acc = n.toNat := by
  rw [hv]
  rcases hc2 with h | h
  rw [show 64 - 8 * j = 0 by omega]; simp
  rw [show n.toNat = 0 by omega]; simp
 rw [e]
 rfl
def zq9 := And.intro @la.{0} (And.intro @lc.{0} (And.intro @lnQ.{0} (And.intro @bH (And.intro @Go.Eng.inR.eq_1 (@maxLen.eq_1)))))
theorem z7 (n : Nat) (h : (nb n).length <= 1000000000) :
  SpG g 104 [.c (cS (S (nb n)))] [] (.c (cM 1 (intsD (dg n)))) [] := by
 refine aQ 35 Tryz.func104 fun fr hG => ?_
 refine zA hG [(1,1,kS (S (nb n)))] [0,1,0,1,1,1] (⟨[zS 0 (S (nb n)),zN 2,zN 3,zI 4 ((S (nb n)).size : Int)],[]⟩) [(3,9001,3,1)] [] (fun (zz : Int × LD × List Int) => match zz with | (e,es,acc) => ((e + 3).toNat,⟨[zS 0 (S (nb n)),zN 2,zY 3 9001 0,zI 4 e],[(9001,.arr 0 3 1 es)]⟩,e <= (nb n).length /\ -3 < e /\ es = intsD acc /\ acc.length <= (nb n).length /\ (acc.length : Int) + e <= (nb n).length /\ acc ++ dg (bL ((nb n).take e.toNat)) = dg n)) (((S (nb n)).size : Int),[],[]) (cS1 g (lV n (by simp only [maxLen]; omega))) ?_ ?_
 rw [bH]
 refine ⟨by omega,by omega,rfl,by simp,by simp,?_⟩
 rw [Int.toNat_natCast,List.take_length,f9]; rfl
 rintro ⟨e,es,acc⟩ ⟨he,hm,hes,ha,hae,hv⟩
 have hlen : es.length = acc.length := by rw [hes,bC]
 refine zc hG [] [1,0] (decide ((e : Int) > 0)) aE (fun hc2 => ?_) (fun hc2 => ?_)
 (try simp only [zq8] at hc2)
 refine zL hG [] [0,1,0,1,0,0,1] (fun (zz : Int × Int) => match zz with | (d,k) => ((e - k).toNat,⟨[zS 0 (S (nb n)),zN 2,zY 3 9001 0,zI 4 e,zI 5 d,zI 6 k],[(9001,.arr 0 3 1 es)]⟩,((e.toNat - 3 : Nat) : Int) <= k /\ k <= e /\ d = bL (((nb n).take k.toNat).drop (e.toNat - 3)))) (0,(if (0 : Int) > (e - 3) then 0 else (e - 3))) (aG (by intros; (try rw [hw]); (try have hm4 := hm3.2 (by omega)); (try simp only [zq9] at *); omega : inR (e - 3))) ?_ ?_
 refine ⟨by split <;> omega,by split <;> omega,?_⟩
 rw [List.drop_eq_nil_of_le]
 rfl
 rw [lt1]; split <;> omega
 rintro ⟨d,k⟩ ⟨hk1,hk2,hd⟩
 have hb := aHQ (nb n) k
 have hw := wC (nb n) k
 have hm3 := mid_bd (a := nb n) (s := e.toNat - 3) (k := k.toNat) (by omega) (by omega) (by omega)
 refine zc hG [] [1,0] (decide ((k : Int) < e)) aE (fun hc4 => ?_) (fun hc4 => ?_)
 (try simp only [zq8] at hc4)
 refine zD hG [] (d * 256 + IntKind.wrap .i64 (byteAt (S (nb n)) k),k + 1) (aD (by intros; (try rw [hw]); (try have hm4 := hm3.2 (by omega)); (try simp only [zq9] at *); omega : inR (d * 256)) (aD (by intros; (try rw [hw]); (try have hm4 := hm3.2 (by omega)); (try simp only [zq9] at *); omega : (0 : Int) <= k /\ k < ((S (nb n)).size : Int)) (aD (by intros; (try rw [hw]); (try have hm4 := hm3.2 (by omega)); (try simp only [zq9] at *); omega : inR ((d * 256) + (IntKind.wrap .i64 (byteAt (S (nb n)) k)))) (aG (by intros; (try rw [hw]); (try have hm4 := hm3.2 (by omega)); (try simp only [zq9] at *); omega : inR (k + 1)))))) ?_ ?_
 (try dsimp only); omega
 refine ⟨by omega,by omega,?_⟩
 have h1 : (k + 1).toNat = k.toNat + 1 := by omega
 rw [h1,mid_step (by omega) (by omega),hw,gS,hd]
 omega
 (try simp only [zq8] at hc4)
 refine zE hG [] (.exit 2) (⟨[zS 0 (S (nb n)),zN 2,zY 3 9001 0,zI 4 e,zI 5 d],[(9001,.arr 0 3 1 es)]⟩) aE rfl ?_
 refine zD hG [] (e - 3,es ++ [[D.i d]],acc ++ [d]) (aD (by intros; (try rw [hw]); (try have hm4 := hm3.2 (by omega)); (try simp only [zq9] at *); omega : (es.length + (([[.i d]] : LD)).length) * (8 + 1) <= 140737488355328) (aG (by intros; (try rw [hw]); (try have hm4 := hm3.2 (by omega)); (try simp only [zq9] at *); omega : inR (e - 3)))) ?_ ?_
 (try dsimp only); omega
 have hk0 : k = e := by omega
 subst hk0
 have hst := of_step (n := n) (e := k.toNat) (by omega) (by omega)
 refine ⟨by omega,by omega,by rw [hes,iK],by simp; omega,by simp; omega,?_⟩
 have e3 : (k - 3).toNat = k.toNat - 3 := by omega
 rw [e3,<- hv,hst,hd]; simp
 (try simp only [zq8] at hc2)
 refine zE hG [] (.exit 0) (⟨[zN 2,zY 3 9001 0],[(9001,.arr 0 3 1 es)]⟩) aE rfl ?_
 refine zR hG [] [] (.c (cM 1 es)) [] aE ?_ ?_
 have hz : (nb n).take e.toNat = [] := by rw [show e.toNat = 0 by omega]; rfl
 rw [hz,aBA,qZ,List.append_nil] at hv
 rw [hes,hv]
 rfl
theorem aIO (l : List Int) (hD : Dg l) (hl : l.length <= 400000000) :
  SpG g 105 [.c (cM 1 (intsD l))] [] (.c (cS (S (nb (vd l).toNat)))) [] := by
 refine aQ 35 Tryz.func105 fun fr hG => ?_
 refine dN 0 rfl fun hl0 => ?_
 refine zA hG [] [0,1,0,1,1] (⟨[zM 0 1 (intsD l),zS 2 (S []),zN 3,zI 4 (((intsD l).length : Int) - 1)],[]⟩) [(3,9001,5,1)] [] (fun (zz : Int × LD × List UInt8) => match zz with | (k,es,acc) => ((k + 1).toNat,⟨[zM 0 1 (intsD l),zS 2 (S []),zY 3 9001 0,zI 4 k],[(9001,.arr 0 5 1 es)]⟩,-1 <= k /\ k < l.length /\ es = bytesD acc /\ (acc.length : Int) + 3 * k + 3 = 3 * l.length /\ (bL acc : Int) = vd (l.drop (k + 1).toNat))) (((intsD l).length : Int) - 1,[],[]) (aG (by intros; (try simp only [zq7] at *); omega : inR (((intsD l).length : Int) - 1))) ?_ ?_
 rw [bC]
 refine ⟨by omega,by omega,rfl,by rw [lnQ]; omega,?_⟩
 rw [j7 (by omega)]; rfl
 rintro ⟨k,es,acc⟩ ⟨hk1,hk2,hes,ha,hv⟩
 have hlen : es.length = acc.length := by rw [hes,eD]
 refine zc hG [] [1,0] (decide ((k : Int) >= 0)) aE (fun hc2 => ?_) (fun hc2 => ?_)
 (try simp only [zq8] at hc2)
 refine zD hG [(5,3,.elem (intD (l.getD (k : Int).toNat 0))),(5,9,.elem (intD (l.getD (k : Int).toNat 0))),(5,15,.elem (intD (l.getD (k : Int).toNat 0)))] (k - 1,es ++ [[D.y (IntKind.wrap .u8 (Int.fdiv (l.getD k.toNat 0) (2 ^ min (16 : Int).toNat 64)))],[D.y (IntKind.wrap .u8 (Int.fdiv (l.getD k.toNat 0) (2 ^ min (8 : Int).toNat 64)))],[D.y (IntKind.wrap .u8 (l.getD k.toNat 0))]],acc ++ [u8 (Int.fdiv (l.getD k.toNat 0) (2 ^ min (16 : Int).toNat 64))] ++ [u8 (Int.fdiv (l.getD k.toNat 0) (2 ^ min (8 : Int).toNat 64))] ++ [u8 (l.getD k.toNat 0)]) (aD (by intros; exact aK _ (by omega) (by (try simp only [zq1] at *); omega) : (0 : Int) <= k /\ (intsD l)[(k : Int).toNat]? = some (intD (l.getD (k : Int).toNat 0))) (aD (by intros; (try simp only [zq7] at *); omega : (0 : Int) <= 16) (aD (by intros; exact aK _ (by omega) (by (try simp only [zq1] at *); omega) : (0 : Int) <= k /\ (intsD l)[(k : Int).toNat]? = some (intD (l.getD (k : Int).toNat 0))) (aD (by intros; (try simp only [zq7] at *); omega : (0 : Int) <= 8) (aD (by intros; exact aK _ (by omega) (by (try simp only [zq1] at *); omega) : (0 : Int) <= k /\ (intsD l)[(k : Int).toNat]? = some (intD (l.getD (k : Int).toNat 0))) (aD (by intros; (try simp only [zq7] at *); omega : (es.length + (([[.y (IntKind.wrap .u8 (Int.fdiv (l.getD (k : Int).toNat 0) (2 ^ min (16 : Int).toNat 64)))],[.y (IntKind.wrap .u8 (Int.fdiv (l.getD (k : Int).toNat 0) (2 ^ min (8 : Int).toNat 64)))],[.y (IntKind.wrap .u8 (l.getD (k : Int).toNat 0))]] : LD)).length) * (1 + 1) <= 140737488355328) (aG (by intros; (try simp only [zq7] at *); omega : inR (k - 1))))))))) ?_ ?_
 (try dsimp only); omega
 have hd := hD.at (k := k.toNat) (by omega)
 refine ⟨by omega,by omega,by rw [hes,aD3],by simp; omega,?_⟩
 have h := aC9 (acc := acc) hd.1 hd.2
 have e1 : (k - 1 + 1).toNat = k.toNat := by omega
 have e2 : (k + 1).toNat = k.toNat + 1 := by omega
 rw [e1,drop_at (by omega),<- e2,<- hv]
 have e3 : (2 : Int) ^ min (16 : Int).toNat 64 = 65536 := rfl
 have e4 : (2 : Int) ^ min (8 : Int).toNat 64 = 256 := rfl
 rw [e3,e4,h]; omega
 (try simp only [zq8] at hc2)
 refine zE hG [] (.exit 0) (⟨[zS 2 (S []),zY 3 9001 0],[(9001,.arr 0 5 1 es)]⟩) aE rfl ?_
 refine zR hG [(6,1,kS (S acc)),(6,2,kS (S (nb (bL acc))))] [] (.c (cS (S (nb (bL acc))))) [] (aD (by rw [hes,aD4] : es = bytesD (S acc).data.toList) (cS1 g (tF acc (by simp only [maxLen]; omega)))) ?_ ?_
 have e : bL acc = (vd l).toNat := by
  rw [show (k + 1).toNat = 0 by omega,List.drop_zero] at hv; omega
 rw [e]
 rfl
end Go.Proofs.YtgpedhfdniigoaaGreatDoor
