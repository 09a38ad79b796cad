/- Part 35 of the proof. -/
import Derived.Test.YtclaplngjmgnoaaGreatDoorP29
import Derived.Test.YtclaplngjmgnoaaGreatDoorP32
import Derived.Lib.AppendZerosOnto
import Derived.RangeFuncNested
set_option linter.all false
namespace Go.Proofs.YtclaplngjmgnoaaGreatDoor
open Go.RowKit Go.V
open Go.Eng (inR byteAt u8 dN)
variable {g : Gv}
theorem aIP {j : Int} (h : 0 <= j) : Int.tdiv (j - 1) 2 = (((j.toNat - 1) / 2 : Nat) : Int) := by
 have h1 : j = (j.toNat : Int) := by omega
 rcases Nat.eq_zero_or_pos j.toNat with h2 | h2;rw [h1,h2]; rfl;have h3 : j - 1 = ((j.toNat - 1 : Nat) : Int) := by omega
 rw [h3]; exact (Int.ofNat_tdiv _ _).symm
theorem up_stop {es : List Wt} {i : Int} {f : Nat} (h0 : 0 <= i) (hf : i.toNat < f) (hc : (decide (Int.tdiv (i - 1) 2 = i) || !wtB (es.getD i.toNat Wt.z) (es.getD (Int.tdiv (i - 1) 2).toNat Wt.z)) = true) : upM f es i.toNat = es := by
 obtain ⟨f,rfl⟩ : ∃ k,f = k + 1 := ⟨f - 1,by omega⟩
 rw [aIP h0,Int.toNat_natCast] at hc;have e : decide ((((i.toNat - 1) / 2 : Nat) : Int) = i) = decide ((i.toNat - 1) / 2 = i.toNat) := decide_eq_decide.2 (by omega);rw [e] at hc;simp only [upM,hc,cond_true]
theorem up_go {es : List Wt} {i : Int} {f : Nat} (h0 : 0 <= i) (hf : i.toNat < f) (hc : (decide (Int.tdiv (i - 1) 2 = i) || !wtB (es.getD i.toNat Wt.z) (es.getD (Int.tdiv (i - 1) 2).toNat Wt.z)) = false) : upM f es i.toNat = upM (f - 1) (bH es (Int.tdiv (i - 1) 2).toNat i.toNat) (Int.tdiv (i - 1) 2).toNat /\ 0 <= Int.tdiv (i - 1) 2 /\ Int.tdiv (i - 1) 2 < i := by
 obtain ⟨f,rfl⟩ : ∃ k,f = k + 1 := ⟨f - 1,by omega⟩
 rw [aIP h0,Int.toNat_natCast] at hc;have e : decide ((((i.toNat - 1) / 2 : Nat) : Int) = i) = decide ((i.toNat - 1) / 2 = i.toNat) := decide_eq_decide.2 (by omega);rw [e] at hc;have hc1 := (Bool.or_eq_false_iff.1 hc).1;rw [decide_eq_false_iff_not] at hc1;refine ⟨?_,by rw [aIP h0]; omega,by rw [aIP h0]; omega⟩;rw [aIP h0,Int.toNat_natCast];simp only [upM,hc,cond_false,Nat.add_sub_cancel]
theorem dn_ch {es : List Wt} {i n : Int} {b : Bool} (h0 : 0 <= i) (hc : (decide ((2 * i + 1) + 1 < n) && wtB (es.getD ((2 * i + 1) + 1).toNat Wt.z) (es.getD (2 * i + 1).toNat Wt.z)) = b) (hn : 0 <= n) : (hcM es i.toNat n.toNat : Int) = bif b then (2 * i + 1) + 1 else 2 * i + 1 := by
 have e1 : ((2 * i + 1) + 1).toNat = 2 * i.toNat + 2 := by omega
 have e2 : (2 * i + 1).toNat = 2 * i.toNat + 1 := by omega
 have e3 : decide ((2 * i + 1) + 1 < n) = decide (2 * i.toNat + 2 < n.toNat) := decide_eq_decide.2 (by omega);rw [e1,e2,e3] at hc;unfold hcM;rw [hc];cases b <;> simp only [cond_true,cond_false] <;> omega
theorem aAO {es : List Wt} {i n : Int} {f : Nat} (h0 : 0 <= i) (hn : 0 <= n) (hf : n.toNat - i.toNat < f \/ 0 < f) (hc : n <= 2 * i + 1 \/ ∃ j : Int,(hcM es i.toNat n.toNat : Int) = j /\ wtB (es.getD j.toNat Wt.z) (es.getD i.toNat Wt.z) = false) : dnM f es i.toNat n.toNat = (es,i.toNat) := by
 obtain ⟨f,rfl⟩ : ∃ k,f = k + 1 := ⟨f - 1,by omega⟩
 simp only [dnM];rcases hc with hc | ⟨j,h1,h2⟩
 rw [decide_eq_true (by omega : n.toNat <= 2 * i.toNat + 1),Bool.true_or,cond_true];have : hcM es i.toNat n.toNat = j.toNat := by omega
 rw [this,h2,Bool.not_false,Bool.or_true,cond_true]
theorem dn_go {es : List Wt} {i n j : Int} {f : Nat} (h0 : 0 <= i) (hn : 0 <= n) (hf : 0 < f) (h1 : ¬ n <= 2 * i + 1) (h2 : (hcM es i.toNat n.toNat : Int) = j) (h3 : wtB (es.getD j.toNat Wt.z) (es.getD i.toNat Wt.z) = true) : dnM f es i.toNat n.toNat = dnM (f - 1) (bH es i.toNat j.toNat) j.toNat n.toNat := by
 obtain ⟨f,rfl⟩ : ∃ k,f = k + 1 := ⟨f - 1,by omega⟩
 have e : hcM es i.toNat n.toNat = j.toNat := by omega
 simp only [dnM,e,h3,decide_eq_false (by omega : ¬ n.toNat <= 2 * i.toNat + 1),Bool.not_true,Bool.or_false,cond_false,Nat.add_sub_cancel]
theorem wts_cut (l : List Wt) (d : List V.D) : (((aL l).set (((aL l).length : Int) - 1).toNat d).take (((aL l).length : Int) - 1).toNat) = aL (l.take (l.length - 1)) := by
 have e : (((aL l).length : Int) - 1).toNat = l.length - 1 := by rw [aH]; omega
 rw [e,List.take_set_of_le (lr _),aL,<- List.map_take]; rfl
theorem yQ {l : List Wt} (h : l ≠ []) : (dnM (bH l 0 ((l.length : Int) - 1).toNat).length (bH l 0 ((l.length : Int) - 1).toNat) 0 ((l.length : Int) - 1).toNat).1 = aNA l := by
 have e : ((l.length : Int) - 1).toNat = l.length - 1 := by omega
 rw [e,bE]; rfl
theorem yP (l : List Wt) :
  SpG g 443 [.c (cM 5 (aL l))] [] (.c (cI (l.length : Int))) [] := by
 refine aP 5 Tryz.func443 fun fr hG => ?_;refine bJ hG aY [] [] (.c (cI ((aL l).length : Int))) [] (by kernel_rfl) aB ?_ ?_;rw [aH]
 first | rfl | (funext i; simp only [aF,upd]; ((repeat' split) <;> first | rfl | (exfalso; omega)))
theorem m0 (l : List Wt) (a b : Int) (ha : 0 <= a /\ a < (l.length : Int)) (hb : 0 <= b /\ b < (l.length : Int)) :
  SpG g 444 [.c (cM 5 (aL l)),.c (cI a),.c (cI b)] [] (.c (cB (wtB (l.getD a.toNat Wt.z) (l.getD b.toNat Wt.z)))) [] := by
 refine aP 40 Tryz.func444 fun fr hG => ?_;refine zC hG [(1,2,.elem (WtD (l.getD (a : Int).toNat Wt.z))),(1,7,.elem (WtD (l.getD (b : Int).toNat Wt.z)))] [1,0,1] (!decide (((l.getD (a : Int).toNat Wt.z).t : Int) = ((l.getD (b : Int).toNat Wt.z).t))) (⟨[zM 0 5 (aL l),zI 1 a,zI 2 b,zB 6 false],[]⟩) (aA (by intros; exact cE (f := WtD) Wt.z (by omega) (by (try simp only [aH] at *); omega) : (0 : Int) <= a /\ (aL l)[(a : Int).toNat]? = some (WtD (l.getD (a : Int).toNat Wt.z))) (aC (by intros; exact cE (f := WtD) Wt.z (by omega) (by (try simp only [aH] at *); omega) : (0 : Int) <= b /\ (aL l)[(b : Int).toNat]? = some (WtD (l.getD (b : Int).toNat Wt.z))))) (fun hc1 => ?_) (fun hc1 => ?_)
 (try simp only [blS] at hc1)
 refine bJ hG aY [(2,2,.elem (WtD (l.getD (a : Int).toNat Wt.z))),(2,7,.elem (WtD (l.getD (b : Int).toNat Wt.z)))] [] (.c (cB (decide (((l.getD (a : Int).toNat Wt.z).t : Int) < ((l.getD (b : Int).toNat Wt.z).t))))) [] (by kernel_rfl) (aA (by intros; exact cE (f := WtD) Wt.z (by omega) (by (try simp only [aH] at *); omega) : (0 : Int) <= a /\ (aL l)[(a : Int).toNat]? = some (WtD (l.getD (a : Int).toNat Wt.z))) (aC (by intros; exact cE (f := WtD) Wt.z (by omega) (by (try simp only [aH] at *); omega) : (0 : Int) <= b /\ (aL l)[(b : Int).toNat]? = some (WtD (l.getD (b : Int).toNat Wt.z))))) ?_ ?_;simp only [wtB]; rw [if_neg (by simpa using hc1)]
 first | rfl | (funext i; simp only [aF,upd]; ((repeat' split) <;> first | rfl | (exfalso; omega)))
 (try simp only [blS] at hc1)
 refine bJ hG aY [(3,2,.elem (WtD (l.getD (a : Int).toNat Wt.z))),(3,7,.elem (WtD (l.getD (b : Int).toNat Wt.z)))] [] (.c (cB (decide (((l.getD (a : Int).toNat Wt.z).n : Int) < ((l.getD (b : Int).toNat Wt.z).n))))) [] (by kernel_rfl) (aA (by intros; exact cE (f := WtD) Wt.z (by omega) (by (try simp only [aH] at *); omega) : (0 : Int) <= a /\ (aL l)[(a : Int).toNat]? = some (WtD (l.getD (a : Int).toNat Wt.z))) (aC (by intros; exact cE (f := WtD) Wt.z (by omega) (by (try simp only [aH] at *); omega) : (0 : Int) <= b /\ (aL l)[(b : Int).toNat]? = some (WtD (l.getD (b : Int).toNat Wt.z))))) ?_ ?_;simp only [wtB]; rw [if_pos (by simpa using hc1)]
 first | rfl | (funext i; simp only [aF,upd]; ((repeat' split) <;> first | rfl | (exfalso; omega)))
def dO := And.intro @lc.{0} (And.intro @ln.{0} (And.intro @List.length_set.{0} (@Go.Eng.inR.eq_1)))
abbrev y32 (a0 : LD) : Ob := .arr 0 124 5 a0
theorem mZ (l : List Wt) (a b : Int) (ha : 0 <= a /\ a < (l.length : Int)) (hb : 0 <= b /\ b < (l.length : Int)) :
  SpG g 447 [.c (.ar 1 0),.c (cI a),.c (cI b)] [(0,.box 130 [.ar 1 0]),(1,.arr 0 124 5 (aL l))] (.tup []) [(0,.box 130 [.ar 1 0]),(1,y32 (aL (bH l a.toNat b.toNat)))] := by
 refine aP 20 Tryz.func447 fun fr hG => ?_;refine bJ hG aY [(0,7,.elem (WtD (l.getD (b : Int).toNat Wt.z))),(0,11,.elem (WtD (l.getD (a : Int).toNat Wt.z)))] [] (.tup []) [(1,y32 (((aL l).set (a : Int).toNat [.i ((l.getD (b : Int).toNat Wt.z).t),.i ((l.getD (b : Int).toNat Wt.z).n),.i ((l.getD (b : Int).toNat Wt.z).m.f),.i ((l.getD (b : Int).toNat Wt.z).m.t),.s (S (aE (l.getD (b : Int).toNat Wt.z).m.m))]).set (b : Int).toNat [.i ((l.getD (a : Int).toNat Wt.z).t),.i ((l.getD (a : Int).toNat Wt.z).n),.i ((l.getD (a : Int).toNat Wt.z).m.f),.i ((l.getD (a : Int).toNat Wt.z).m.t),.s (S (aE (l.getD (a : Int).toNat Wt.z).m.m))])),(0,.box 130 [.ar 1 0])] (by kernel_rfl) (aA (by intros; (try simp only [dO,aH] at *); omega : (0 : Int) <= b /\ b < ((aL l).length : Int)) (aA (by intros; exact fN (f := WtD) Wt.z (by (try simp only [aH] at *); omega) : (aL l)[(b : Int).toNat]? = some (WtD (l.getD (b : Int).toNat Wt.z))) (aA (by intros; (try simp only [dO,aH] at *); omega : (0 : Int) <= a /\ a < ((aL l).length : Int)) (aA (by intros; exact fN (f := WtD) Wt.z (by (try simp only [aH] at *); omega) : (aL l)[(a : Int).toNat]? = some (WtD (l.getD (a : Int).toNat Wt.z))) (aA (by intros; (try simp only [dO,aH] at *); omega : (0 : Int) <= a /\ a < ((aL l).length : Int)) (aC (by intros; (try simp only [dO,aH] at *); omega : (0 : Int) <= b /\ b < (((aL l).set (a : Int).toNat [.i ((l.getD (b : Int).toNat Wt.z).t),.i ((l.getD (b : Int).toNat Wt.z).n),.i ((l.getD (b : Int).toNat Wt.z).m.f),.i ((l.getD (b : Int).toNat Wt.z).m.t),.s (S (aE (l.getD (b : Int).toNat Wt.z).m.m))]).length : Int)))))))) ?_ ?_
 ·rfl
 ·rw [<- aLD]
  all_goals (first | rfl | (funext i; simp only [aF,upd]; ((repeat' split) <;> first | rfl | (exfalso; omega))))
abbrev e9z (a0 : LD) : aZ := [(0,.box 130 [.ar 1 0]),(1,.arr 0 124 5 a0)]
theorem aM7 (l : List Wt) (x : Wt) (hl : l.length <= 1000000) :
  SpG g 446 [.c (.bx 0 0),.c (.d (.v (.iface 124 (.agg #[.int .i64 x.t,.int .i64 x.n,.int .i64 x.m.f,.int .i64 x.m.t,.string (S (aE x.m.m))]))))] [(0,.box 130 [.ar 1 0]),(1,.arr 0 124 5 (aL l))] (.tup []) [(0,.box 130 [.ar 1 0]),(1,y32 (aL (l ++ [x])))] := by
 refine aP 20 Tryz.func446 fun fr hG => ?_;refine zC hG [] [1,1] true (⟨[zX 0 0 0,zX 4 105 0],e9z (aL l) ++ [(105,.box 124 [cI x.t,cI x.n,cI x.m.f,cI x.m.t,cS (S (aE x.m.m))])]⟩) aB (fun _ => ?_) (fun hc1 => absurd hc1 (by decide));refine bJ hG aY [] [] (.tup []) [(0,.box 130 [.ar 1 0]),(1,y32 ((aL l) ++ ([[.i x.t,.i x.n,.i x.m.f,.i x.m.t,.s (S (aE x.m.m))]] : LD)))] (by kernel_rfl) (aC (by intros; (try simp only [dO,aH] at *); omega : ((aL l).length + ([[.i x.t,.i x.n,.i x.m.f,.i x.m.t,.s (S (aE x.m.m))]] : LD).length) * (48 + 1) <= 140737488355328)) ?_ ?_
 ·rfl
 ·rw [aLE]
  all_goals (first | rfl | (funext i; simp only [aF,upd]; ((repeat' split) <;> first | rfl | (exfalso; omega))))
theorem qpop_ok (l : List Wt) (hl : 0 < l.length) (hl1 : l.length <= 1000001) :
  SpG g 445 [.c (.bx 0 0)] [(0,.box 130 [.ar 1 0]),(1,.arr 0 124 5 (aL l))] (.c (.d (.v (.iface 124 (.agg #[.int .i64 ((l.getD (l.length - 1) Wt.z).t),.int .i64 ((l.getD (l.length - 1) Wt.z).n),.int .i64 ((l.getD (l.length - 1) Wt.z).m.f),.int .i64 ((l.getD (l.length - 1) Wt.z).m.t),.string (S (aE (l.getD (l.length - 1) Wt.z).m.m))]))))) [(0,.box 130 [.ar 1 0]),(1,y32 (aL (l.take (l.length - 1))))] := by
 have hnn : (((aL l).length : Int) - 1).toNat = l.length - 1 := by rw [aH]; omega
 refine aP 31 Tryz.func445 fun fr hG => ?_;refine bJ hG aY [(2,5,.elem (WtD (l.getD (((aL l).length : Int) - 1 : Int).toNat Wt.z)))] [] (.c (.d (.v (.iface 124 (.agg #[.int .i64 ((l.getD (((aL l).length : Int) - 1 : Int).toNat Wt.z).t),.int .i64 ((l.getD (((aL l).length : Int) - 1 : Int).toNat Wt.z).n),.int .i64 ((l.getD (((aL l).length : Int) - 1 : Int).toNat Wt.z).m.f),.int .i64 ((l.getD (((aL l).length : Int) - 1 : Int).toNat Wt.z).m.t),.string (S (aE (l.getD (((aL l).length : Int) - 1 : Int).toNat Wt.z).m.m))]))))) [(0,.box 130 [.ar 1 0]),(1,y32 (((aL l).set (((aL l).length : Int) - 1 : Int).toNat [.i 0,.i 0,.i 0,.i 0,.s (S [])]).take (((aL l).length : Int) - 1 : Int).toNat))] (by kernel_rfl) (aA (by intros; (try simp only [dO,aH] at *); omega : inR (((aL l).length : Int) - 1)) (aA (by intros; (try simp only [dO,aH] at *); omega : (0 : Int) <= (((aL l).length : Int) - 1) /\ (((aL l).length : Int) - 1) < ((aL l).length : Int)) (aA (by intros; exact fN (f := WtD) Wt.z (by (try simp only [aH] at *); omega) : (aL l)[(((aL l).length : Int) - 1 : Int).toNat]? = some (WtD (l.getD (((aL l).length : Int) - 1 : Int).toNat Wt.z))) (aA (by intros; (try simp only [dO,aH] at *); omega : (0 : Int) <= (((aL l).length : Int) - 1) /\ (((aL l).length : Int) - 1) < ((aL l).length : Int)) (aC (by intros; (try simp only [dO,aH] at *); omega : (0 : Int) <= (((aL l).length : Int) - 1) /\ (((aL l).length : Int) - 1) <= (((aL l).set (((aL l).length : Int) - 1 : Int).toNat [.i 0,.i 0,.i 0,.i 0,.s (S [])]).length : Int))))))) ?_ ?_
 ·rw [hnn]
 ·rw [<- wts_cut l [.i 0,.i 0,.i 0,.i 0,.s (S [])]]
  all_goals (first | rfl | (funext i; simp only [aF,upd]; ((repeat' split) <;> first | rfl | (exfalso; omega))))
def jR := And.intro @la.{0} (And.intro @lc.{0} (And.intro @ln.{0} (And.intro @decide_eq_false_iff_not (@decide_eq_true_eq))))
theorem up_ok (l : List Wt) (j : Int) (hl : l.length <= 1000001) (hj : 0 <= j /\ j < (l.length : Int)) :
  SpG g 100 [.c (.ib 128 0),.c (cI j)] [(0,.box 130 [.ar 1 0]),(1,.arr 0 124 5 (aL l))] (.tup []) [(0,.box 130 [.ar 1 0]),(1,y32 (aL (upM (j.toNat + 1) l j.toNat)))] := by
 refine aP 23 Tryz.func100 fun fr hG => ?_;refine zL hG [] [0] (fun (zz : Int × Nat × List Wt) => match zz with | (i,f,es) => (i.toNat,⟨[(0,[],.c (.ib 128 0)),zI 1 i],e9z (aL es)⟩,0 <= i /\ i < (es.length : Int) /\ es.length = l.length /\ i.toNat < f /\ upM f es i.toNat = upM (j.toNat + 1) l j.toNat)) (j,j.toNat + 1,l) aB ?_ ?_
 ·exact ⟨hj.1,hj.2,rfl,Nat.lt_succ_self _,rfl⟩
 rintro ⟨i,f,es⟩ ⟨h0,h1,h2,h3,h4⟩;have hq := aIP h0;refine zC hG [(1,7,kB (wtB (es.getD (i : Int).toNat Wt.z) (es.getD (Int.tdiv (i - 1) 2 : Int).toNat Wt.z)))] [1,0,1,0] ((decide ((Int.tdiv (i - 1) 2 : Int) = i)) || (!(wtB (es.getD (i : Int).toNat Wt.z) (es.getD (Int.tdiv (i - 1) 2 : Int).toNat Wt.z)))) (⟨[(0,[],.c (.ib 128 0)),zI 1 i,zI 4 (Int.tdiv (i - 1) 2)],e9z (aL es)⟩) (aA (by intros; (try simp only [dO,aH] at *); omega : inR (i - 1)) (aA (by intros; (try simp only [dO,aH] at *); omega : 2 ≠ (0 : Int) /\ inR (Int.tdiv (i - 1) 2)) (aC (fun (hg1 : (decide ((Int.tdiv (i - 1) 2 : Int) = i)) = false) => (m0 es i (Int.tdiv (i - 1) 2) (by first | omega | (simp only [jR,bE,aH] at *; omega) : 0 <= i /\ i < (es.length : Int)) (by first | omega | (simp only [jR,bE,aH] at *; omega) : 0 <= (Int.tdiv (i - 1) 2) /\ (Int.tdiv (i - 1) 2) < (es.length : Int)) : SpG g _ _ _ _ _))))) (fun hc2 => ?_) (fun hc2 => ?_)
 ·skip
  have hend := up_stop h0 h3 hc2;refine zE hG [] (.exit 0) (⟨[],[(0,.box 130 [.ar 1 0]),(1,.arr 0 124 5 (aL es))]⟩) aB rfl ?_;refine bJ hG aY [] [] (.tup []) [(0,.box 130 [.ar 1 0]),(1,.arr 0 124 5 (aL es))] (by kernel_rfl) aB ?_ ?_
  ·rfl
  ·rw [<- h4,hend]
   all_goals (first | rfl | (funext i; simp only [aF,upd]; ((repeat' split) <;> first | rfl | (exfalso; omega))))
 ·skip
  obtain ⟨g1,g2,g3⟩ := up_go h0 h3 hc2;refine zD hG [(2,3,.callG (.tup []) [0,1] [(0,.box 130 [.ar 1 0]),(1,y32 (aL (bH es (Int.tdiv (i - 1) 2 : Int).toNat (i : Int).toNat)))])] (Int.tdiv (i - 1) 2,f - 1,bH es (Int.tdiv (i - 1) 2).toNat i.toNat) (cS1 g (mZ es (Int.tdiv (i - 1) 2) i (by first | omega | (simp only [jR,bE,aH] at *; omega) : 0 <= (Int.tdiv (i - 1) 2) /\ (Int.tdiv (i - 1) 2) < (es.length : Int)) (by first | omega | (simp only [jR,bE,aH] at *; omega) : 0 <= i /\ i < (es.length : Int)))) ?_ ?_
  ·(try dsimp only); omega
  ·exact ⟨g2,by rw [bE]; omega,by rw [bE]; exact h2,by omega,by rw [<- g1]; exact h4⟩
theorem down_ok (l : List Wt) (n : Int) (hl : 0 < l.length /\ l.length <= 1000001) (hn : 0 <= n /\ n <= (l.length : Int)) :
  SpG g 99 [.c (.ib 128 0),.c (cI 0),.c (cI n)] [(0,.box 130 [.ar 1 0]),(1,.arr 0 124 5 (aL l))] (.c (cB (decide (((dnM l.length l 0 n.toNat).2 : Int) > 0)))) [(0,.box 130 [.ar 1 0]),(1,y32 (aL ((dnM l.length l 0 n.toNat).1)))] := by
 refine aP 48 Tryz.func99 fun fr hG => ?_;refine zL hG [] [0,0,1,1] (fun (zz : Int × Nat × List Wt) => match zz with | (i,f,es) => (n.toNat - i.toNat,⟨[(0,[],.c (.ib 128 0)),zI 1 0,zI 2 n,zI 7 i],e9z (aL es)⟩,0 <= i /\ i < (es.length : Int) /\ es.length = l.length /\ n.toNat <= i.toNat + f /\ 0 < f /\ dnM f es i.toNat n.toNat = dnM l.length l 0 n.toNat)) (0,l.length,l) aB ?_ ?_
 ·exact ⟨by omega,by omega,rfl,by omega,hl.1,rfl⟩
 rintro ⟨i,f,es⟩ ⟨h0,h1,h2,h3,h5,h6⟩;refine zC hG [] [1,0,1,0] ((decide (((2 * i) + 1 : Int) >= n)) || (decide (((2 * i) + 1 : Int) < 0))) (⟨[(0,[],.c (.ib 128 0)),zI 1 0,zI 2 n,zI 7 i,zI 8 ((2 * i) + 1)],e9z (aL es)⟩) (aA (by intros; (try simp only [dO,aH] at *); omega : inR (2 * i)) (aC (by intros; (try simp only [dO,aH] at *); omega : inR ((2 * i) + 1)))) (fun hc2 => ?_) (fun hc2 => ?_)
 ·skip
  have hend := aAO (es := es) (i := i) (n := n) h0 hn.1 (.inr h5) (.inl (by simp only [Bool.or_eq_true,decide_eq_true_eq] at hc2; omega));refine zE hG [] (.exit 0) (⟨[zI 1 0,zI 7 i],e9z (aL es)⟩) aB rfl ?_;refine bJ hG aY [] [] (.c (cB (decide ((i : Int) > 0)))) [(0,.box 130 [.ar 1 0]),(1,.arr 0 124 5 (aL es))] (by kernel_rfl) aB ?_ ?_
  ·rw [<- h6,hend]; simp only [Int.toNat_of_nonneg h0]
  ·rw [<- h6,hend]
   all_goals (first | rfl | (funext i; simp only [aF,upd]; ((repeat' split) <;> first | rfl | (exfalso; omega))))
 ·skip
  have hgo : ¬ n <= 2 * i + 1 := by simp only [Bool.or_eq_false_iff,decide_eq_false_iff_not] at hc2; omega
  obtain ⟨k1,k2,-⟩ := ch_lt (l := es) (i := i.toNat) (n := n.toNat) (by omega);refine zC hG [(6,7,kB (wtB (es.getD (((2 * i) + 1) + 1 : Int).toNat Wt.z) (es.getD ((2 * i) + 1 : Int).toNat Wt.z)))] [1,1,0,1,1,1,0] ((decide ((((2 * i) + 1) + 1 : Int) < n)) && (wtB (es.getD (((2 * i) + 1) + 1 : Int).toNat Wt.z) (es.getD ((2 * i) + 1 : Int).toNat Wt.z))) (⟨[(0,[],.c (.ib 128 0)),zI 1 0,zI 2 n,zI 7 i,zI 9 ((2 * i) + 1),zI 10 (((2 * i) + 1) + 1)],e9z (aL es)⟩) (aA (by intros; (try simp only [dO,aH] at *); omega : inR (((2 * i) + 1) + 1)) (aC (fun (hg1 : (decide ((((2 * i) + 1) + 1 : Int) < n)) = true) => (m0 es (((2 * i) + 1) + 1) ((2 * i) + 1) (by first | omega | (simp only [jR,bE,aH] at *; omega) : 0 <= (((2 * i) + 1) + 1) /\ (((2 * i) + 1) + 1) < (es.length : Int)) (by first | omega | (simp only [jR,bE,aH] at *; omega) : 0 <= ((2 * i) + 1) /\ ((2 * i) + 1) < (es.length : Int)) : SpG g _ _ _ _ _)))) (fun hc3 => ?_) (fun hc3 => ?_)
  ·skip
   have hch := dn_ch (b := true) h0 hc3 hn.1;simp only [cond_true] at hch;refine zC hG [(8,3,kB (wtB (es.getD (((2 * i) + 1) + 1 : Int).toNat Wt.z) (es.getD (i : Int).toNat Wt.z)))] [1,0,1,1,1,1,0] (!(wtB (es.getD (((2 * i) + 1) + 1 : Int).toNat Wt.z) (es.getD (i : Int).toNat Wt.z))) (⟨[(0,[],.c (.ib 128 0)),zI 1 0,zI 2 n,zI 7 i,zI 9 (((2 * i) + 1) + 1)],e9z (aL es)⟩) (cS1 g (m0 es (((2 * i) + 1) + 1) i (by first | omega | (simp only [jR,bE,aH] at *; omega) : 0 <= (((2 * i) + 1) + 1) /\ (((2 * i) + 1) + 1) < (es.length : Int)) (by first | omega | (simp only [jR,bE,aH] at *; omega) : 0 <= i /\ i < (es.length : Int)))) (fun hc4 => ?_) (fun hc4 => ?_)
   ·skip
    have hend := aAO (es := es) (i := i) (n := n) h0 hn.1 (.inr h5) (.inr ⟨_,hch,by simpa using hc4⟩);refine zE hG [] (.exit 0) (⟨[zI 1 0,zI 7 i],e9z (aL es)⟩) aB rfl ?_;refine bJ hG aY [] [] (.c (cB (decide ((i : Int) > 0)))) [(0,.box 130 [.ar 1 0]),(1,.arr 0 124 5 (aL es))] (by kernel_rfl) aB ?_ ?_
    ·rw [<- h6,hend]; simp only [Int.toNat_of_nonneg h0]
    ·rw [<- h6,hend]
     all_goals (first | rfl | (funext i; simp only [aF,upd]; ((repeat' split) <;> first | rfl | (exfalso; omega))))
   ·skip
    have hg := dn_go (es := es) (i := i) (n := n) h0 hn.1 h5 hgo hch (by simpa using hc4);refine zD hG [(9,3,.callG (.tup []) [0,1] [(0,.box 130 [.ar 1 0]),(1,y32 (aL (bH es (i : Int).toNat (((2 * i) + 1) + 1 : Int).toNat)))])] (((2 * i) + 1) + 1,f - 1,bH es i.toNat (((2 * i) + 1) + 1 : Int).toNat) (cS1 g (mZ es i (((2 * i) + 1) + 1) (by first | omega | (simp only [jR,bE,aH] at *; omega) : 0 <= i /\ i < (es.length : Int)) (by first | omega | (simp only [jR,bE,aH] at *; omega) : 0 <= (((2 * i) + 1) + 1) /\ (((2 * i) + 1) + 1) < (es.length : Int)))) ?_ ?_
    ·(try dsimp only); omega
    ·exact ⟨by omega,by rw [bE]; omega,by rw [bE]; exact h2,by omega,by omega,by rw [<- hg]; exact h6⟩
  ·skip
   have hch := dn_ch (b := false) h0 hc3 hn.1;simp only [cond_false] at hch;refine zC hG [(8,3,kB (wtB (es.getD ((2 * i) + 1 : Int).toNat Wt.z) (es.getD (i : Int).toNat Wt.z)))] [1,0,1,1,1,1,0] (!(wtB (es.getD ((2 * i) + 1 : Int).toNat Wt.z) (es.getD (i : Int).toNat Wt.z))) (⟨[(0,[],.c (.ib 128 0)),zI 1 0,zI 2 n,zI 7 i,zI 9 ((2 * i) + 1)],e9z (aL es)⟩) (cS1 g (m0 es ((2 * i) + 1) i (by first | omega | (simp only [jR,bE,aH] at *; omega) : 0 <= ((2 * i) + 1) /\ ((2 * i) + 1) < (es.length : Int)) (by first | omega | (simp only [jR,bE,aH] at *; omega) : 0 <= i /\ i < (es.length : Int)))) (fun hc5 => ?_) (fun hc5 => ?_)
   ·skip
    have hend := aAO (es := es) (i := i) (n := n) h0 hn.1 (.inr h5) (.inr ⟨_,hch,by simpa using hc5⟩);refine zE hG [] (.exit 0) (⟨[zI 1 0,zI 7 i],e9z (aL es)⟩) aB rfl ?_;refine bJ hG aY [] [] (.c (cB (decide ((i : Int) > 0)))) [(0,.box 130 [.ar 1 0]),(1,.arr 0 124 5 (aL es))] (by kernel_rfl) aB ?_ ?_
    ·rw [<- h6,hend]; simp only [Int.toNat_of_nonneg h0]
    ·rw [<- h6,hend]
     all_goals (first | rfl | (funext i; simp only [aF,upd]; ((repeat' split) <;> first | rfl | (exfalso; omega))))
   ·skip
    have hg := dn_go (es := es) (i := i) (n := n) h0 hn.1 h5 hgo hch (by simpa using hc5);refine zD hG [(9,3,.callG (.tup []) [0,1] [(0,.box 130 [.ar 1 0]),(1,y32 (aL (bH es (i : Int).toNat ((2 * i) + 1 : Int).toNat)))])] ((2 * i) + 1,f - 1,bH es i.toNat ((2 * i) + 1 : Int).toNat) (cS1 g (mZ es i ((2 * i) + 1) (by first | omega | (simp only [jR,bE,aH] at *; omega) : 0 <= i /\ i < (es.length : Int)) (by first | omega | (simp only [jR,bE,aH] at *; omega) : 0 <= ((2 * i) + 1) /\ ((2 * i) + 1) < (es.length : Int)))) ?_ ?_
    ·(try dsimp only); omega
    ·exact ⟨by omega,by rw [bE]; omega,by rw [bE]; exact h2,by omega,by omega,by rw [<- hg]; exact h6⟩
theorem nW (l : List Wt) (x : Wt) (hl : l.length <= 1000000) :
  SpG g 52 [.c (.ib 128 0),.c (.d (.v (.iface 124 (.agg #[.int .i64 x.t,.int .i64 x.n,.int .i64 x.m.f,.int .i64 x.m.t,.string (S (aE x.m.m))]))))] [(0,.box 130 [.ar 1 0]),(1,.arr 0 124 5 (aL l))] (.tup []) [(0,.box 130 [.ar 1 0]),(1,y32 (aL (uZ l x)))] := by
 have hpl : (l ++ [x]).length = l.length + 1 := by simp
 refine aP 12 Tryz.func52 fun fr hG => ?_;refine bJ hG aY [(0,2,.callG (.tup []) [0,1] [(0,.box 130 [.ar 1 0]),(1,y32 (aL (l ++ [x])))]),(1,2,kI ((l ++ [x]).length : Int)),(1,4,.callG (.tup []) [0,1] [(0,.box 130 [.ar 1 0]),(1,y32 (aL (upM ((((l ++ [x]).length : Int) - 1 : Int).toNat + 1) (l ++ [x]) (((l ++ [x]).length : Int) - 1 : Int).toNat)))])] [] (.tup []) [(1,y32 (aL (upM ((((l ++ [x]).length : Int) - 1 : Int).toNat + 1) (l ++ [x]) (((l ++ [x]).length : Int) - 1 : Int).toNat))),(0,.box 130 [.ar 1 0])] (by kernel_rfl) (cS2 g (aM7 l x (by omega)) (cS2 g (yP (l ++ [x])) (aA (by intros; (try simp only [dO,aH] at *); omega : inR (((l ++ [x]).length : Int) - 1)) (cS1 g (up_ok (l ++ [x]) (((l ++ [x]).length : Int) - 1) (by simp; omega) (by first | omega | (simp only [jR,bE,aH] at *; omega) : 0 <= (((l ++ [x]).length : Int) - 1) /\ (((l ++ [x]).length : Int) - 1) < ((l ++ [x]).length : Int))))))) ?_ ?_
 ·rfl
 ·rw [show (((l ++ [x]).length : Int) - 1).toNat = l.length from by omega]
  all_goals (first | rfl | (funext i; simp only [aF,upd]; ((repeat' split) <;> first | rfl | (exfalso; omega))))
theorem hpop_ok (l : List Wt) (hne : l ≠ []) (hl : l.length <= 1000000) :
  SpG g 50 [.c (.ib 128 0)] [(0,.box 130 [.ar 1 0]),(1,.arr 0 124 5 (aL l))] (.c (.d (.v (.iface 124 (.agg #[.int .i64 ((aD l).t),.int .i64 ((aD l).n),.int .i64 ((aD l).m.f),.int .i64 ((aD l).m.t),.string (S (aE (aD l).m.m))]))))) [(0,.box 130 [.ar 1 0]),(1,y32 (aL (bL l)))] := by
 have hp0 := List.length_pos_iff.2 hne;refine aP 15 Tryz.func50 fun fr hG => ?_;refine bJ hG aY [(1,1,kI (l.length : Int)),(2,2,.callG (.tup []) [0,1] [(0,.box 130 [.ar 1 0]),(1,y32 (aL (bH l 0 ((l.length : Int) - 1 : Int).toNat)))]),(3,2,.callG (.c (cB (decide (((dnM (bH l 0 ((l.length : Int) - 1 : Int).toNat).length (bH l 0 ((l.length : Int) - 1 : Int).toNat) 0 ((l.length : Int) - 1 : Int).toNat).2 : Int) > 0)))) [0,1] [(0,.box 130 [.ar 1 0]),(1,y32 (aL ((dnM (bH l 0 ((l.length : Int) - 1 : Int).toNat).length (bH l 0 ((l.length : Int) - 1 : Int).toNat) 0 ((l.length : Int) - 1 : Int).toNat).1)))]),(4,1,.callG (.c (.d (.v (.iface 124 (.agg #[.int .i64 ((((dnM (bH l 0 ((l.length : Int) - 1 : Int).toNat).length (bH l 0 ((l.length : Int) - 1 : Int).toNat) 0 ((l.length : Int) - 1 : Int).toNat).1).getD (((dnM (bH l 0 ((l.length : Int) - 1 : Int).toNat).length (bH l 0 ((l.length : Int) - 1 : Int).toNat) 0 ((l.length : Int) - 1 : Int).toNat).1).length - 1) Wt.z).t),.int .i64 ((((dnM (bH l 0 ((l.length : Int) - 1 : Int).toNat).length (bH l 0 ((l.length : Int) - 1 : Int).toNat) 0 ((l.length : Int) - 1 : Int).toNat).1).getD (((dnM (bH l 0 ((l.length : Int) - 1 : Int).toNat).length (bH l 0 ((l.length : Int) - 1 : Int).toNat) 0 ((l.length : Int) - 1 : Int).toNat).1).length - 1) Wt.z).n),.int .i64 ((((dnM (bH l 0 ((l.length : Int) - 1 : Int).toNat).length (bH l 0 ((l.length : Int) - 1 : Int).toNat) 0 ((l.length : Int) - 1 : Int).toNat).1).getD (((dnM (bH l 0 ((l.length : Int) - 1 : Int).toNat).length (bH l 0 ((l.length : Int) - 1 : Int).toNat) 0 ((l.length : Int) - 1 : Int).toNat).1).length - 1) Wt.z).m.f),.int .i64 ((((dnM (bH l 0 ((l.length : Int) - 1 : Int).toNat).length (bH l 0 ((l.length : Int) - 1 : Int).toNat) 0 ((l.length : Int) - 1 : Int).toNat).1).getD (((dnM (bH l 0 ((l.length : Int) - 1 : Int).toNat).length (bH l 0 ((l.length : Int) - 1 : Int).toNat) 0 ((l.length : Int) - 1 : Int).toNat).1).length - 1) Wt.z).m.t),.string (S (aE (((dnM (bH l 0 ((l.length : Int) - 1 : Int).toNat).length (bH l 0 ((l.length : Int) - 1 : Int).toNat) 0 ((l.length : Int) - 1 : Int).toNat).1).getD (((dnM (bH l 0 ((l.length : Int) - 1 : Int).toNat).length (bH l 0 ((l.length : Int) - 1 : Int).toNat) 0 ((l.length : Int) - 1 : Int).toNat).1).length - 1) Wt.z).m.m))]))))) [0,1] [(0,.box 130 [.ar 1 0]),(1,y32 (aL (((dnM (bH l 0 ((l.length : Int) - 1 : Int).toNat).length (bH l 0 ((l.length : Int) - 1 : Int).toNat) 0 ((l.length : Int) - 1 : Int).toNat).1).take (((dnM (bH l 0 ((l.length : Int) - 1 : Int).toNat).length (bH l 0 ((l.length : Int) - 1 : Int).toNat) 0 ((l.length : Int) - 1 : Int).toNat).1).length - 1))))])] [] (.c (.d (.v (.iface 124 (.agg #[.int .i64 ((((dnM (bH l 0 ((l.length : Int) - 1 : Int).toNat).length (bH l 0 ((l.length : Int) - 1 : Int).toNat) 0 ((l.length : Int) - 1 : Int).toNat).1).getD (((dnM (bH l 0 ((l.length : Int) - 1 : Int).toNat).length (bH l 0 ((l.length : Int) - 1 : Int).toNat) 0 ((l.length : Int) - 1 : Int).toNat).1).length - 1) Wt.z).t),.int .i64 ((((dnM (bH l 0 ((l.length : Int) - 1 : Int).toNat).length (bH l 0 ((l.length : Int) - 1 : Int).toNat) 0 ((l.length : Int) - 1 : Int).toNat).1).getD (((dnM (bH l 0 ((l.length : Int) - 1 : Int).toNat).length (bH l 0 ((l.length : Int) - 1 : Int).toNat) 0 ((l.length : Int) - 1 : Int).toNat).1).length - 1) Wt.z).n),.int .i64 ((((dnM (bH l 0 ((l.length : Int) - 1 : Int).toNat).length (bH l 0 ((l.length : Int) - 1 : Int).toNat) 0 ((l.length : Int) - 1 : Int).toNat).1).getD (((dnM (bH l 0 ((l.length : Int) - 1 : Int).toNat).length (bH l 0 ((l.length : Int) - 1 : Int).toNat) 0 ((l.length : Int) - 1 : Int).toNat).1).length - 1) Wt.z).m.f),.int .i64 ((((dnM (bH l 0 ((l.length : Int) - 1 : Int).toNat).length (bH l 0 ((l.length : Int) - 1 : Int).toNat) 0 ((l.length : Int) - 1 : Int).toNat).1).getD (((dnM (bH l 0 ((l.length : Int) - 1 : Int).toNat).length (bH l 0 ((l.length : Int) - 1 : Int).toNat) 0 ((l.length : Int) - 1 : Int).toNat).1).length - 1) Wt.z).m.t),.string (S (aE (((dnM (bH l 0 ((l.length : Int) - 1 : Int).toNat).length (bH l 0 ((l.length : Int) - 1 : Int).toNat) 0 ((l.length : Int) - 1 : Int).toNat).1).getD (((dnM (bH l 0 ((l.length : Int) - 1 : Int).toNat).length (bH l 0 ((l.length : Int) - 1 : Int).toNat) 0 ((l.length : Int) - 1 : Int).toNat).1).length - 1) Wt.z).m.m))]))))) [(1,y32 (aL (((dnM (bH l 0 ((l.length : Int) - 1 : Int).toNat).length (bH l 0 ((l.length : Int) - 1 : Int).toNat) 0 ((l.length : Int) - 1 : Int).toNat).1).take (((dnM (bH l 0 ((l.length : Int) - 1 : Int).toNat).length (bH l 0 ((l.length : Int) - 1 : Int).toNat) 0 ((l.length : Int) - 1 : Int).toNat).1).length - 1)))),(0,.box 130 [.ar 1 0])] (by kernel_rfl) (cS2 g (yP l) (aA (by intros; (try simp only [dO,aH] at *); omega : inR ((l.length : Int) - 1)) (cS2 g (mZ l 0 ((l.length : Int) - 1) (by first | omega | (simp only [jR,bE,aH] at *; omega) : (0 : Int) <= 0 /\ 0 < (l.length : Int)) (by first | omega | (simp only [jR,bE,aH] at *; omega) : 0 <= ((l.length : Int) - 1) /\ ((l.length : Int) - 1) < (l.length : Int))) (cS2 g (down_ok (bH l 0 ((l.length : Int) - 1 : Int).toNat) ((l.length : Int) - 1) (by simp only [bE]; omega) (by simp only [bE]; omega)) (cS1 g (qpop_ok ((dnM (bH l 0 ((l.length : Int) - 1 : Int).toNat).length (bH l 0 ((l.length : Int) - 1 : Int).toNat) 0 ((l.length : Int) - 1 : Int).toNat).1) (by rw [yQ hne,(kX hne).1]; exact hp0) (by rw [yQ hne,(kX hne).1]; omega))))))) ?_ ?_
 ·rw [yQ hne,(kX hne).1,aD]
 ·rw [yQ hne,(kX hne).1]
  all_goals (first | rfl | (funext i; simp only [aF,upd]; ((repeat' split) <;> first | rfl | (exfalso; omega))))
end Go.Proofs.YtclaplngjmgnoaaGreatDoor
namespace Go.V
open Go.RowKit
def aA2 (P : Program) (fr : Fr) (n : Nat) (ops : Array Oper) (i : Nat) (r : Rec) (envi : Env) (owni : Own) : Prop :=
 ∀ (env : Env) (own : Own) (a : Act) (w : World) (pl : Pl),Ok fr n env own a w pl -> (∀ u ∈ r.uses,env u = envi u) -> (∀ j ∈ r.touch,own j = owni j) ->
  (∀ t,r.dst = some t -> ∀ u q sv,env u = some (q,sv) -> u ≠ t -> ∀ x ∈ q,x.1 ≠ t) -> ∀ K : Act -> World -> Prop,(∀ a' w' pl',Ok fr n (dY env r) (bB own r.upd) a' w' pl' -> K a' w') -> eJ P ops i K a w
structure RecsOk (P : Program) (fr : Fr) (n : Nat) (ops : Array Oper) (rs : List Rec) (env : Env) (own : Own) (env' : Env) (own' : Own) : Prop where
 len : rs.length = ops.size
 envE : env' = bY rs (fun _ => true) 0 env
 ownE : own' = bW rs (fun _ => true) 0 own
 each : ∀ (i : Nat) (r : Rec),rs[i]? = some r -> ∃ envi owni,aA2 P fr n ops i r envi owni /\ envi = bY rs (fun j => decide (j < i)) 0 env /\ owni = bW rs (fun j => decide (j < i)) 0 own
 keysT : ∀ (i : Nat) (r : Rec),rs[i]? = some r -> ∀ x ∈ keys r.upd,x ∈ r.touch
 sub : ∀ (i : Nat) (r : Rec),rs[i]? = some r -> ∀ x,x ∈ slots r -> x ∈ r.uses
def okB : Nat -> List Rec -> List Nat -> Bool
 | _,[],_ => true
 | i,a :: r,_ :: ms => aFD a i r ms && okB (i + 1) r ms
 | _,_ :: _,[] => false
theorem yV : ∀ {l : List Rec} {ms : List Nat} {k i j : Nat} {a b : Rec},okB k l ms = true -> l[i]? = some a -> l[j]? = some b -> i < j -> ∃ m,ms[j]? = some m /\ (m.testBit (k + i) = true \/ qE a b = true)
 | [],ms,k,i,j,a,b,_,h,_,_ => by simp at h
 | x :: r,[],k,i,j,a,b,h,_,_,_ => by simp [okB] at h
 | x :: r,m :: ms,k,0,j,a,b,h,hi,hj,hlt => by
  simp only [okB,bIQ] at h;obtain ⟨j,rfl⟩ : ∃ j',j = j' + 1 := ⟨j - 1,by omega⟩
  simp only [cz,oIQ] at hi;subst hi;simpa using sU h.1 (by simpa using hj)
 | x :: r,m :: ms,k,i + 1,j,a,b,h,hi,hj,hlt => by
  simp only [okB,bIQ] at h;obtain ⟨j,rfl⟩ : ∃ j',j = j' + 1 := ⟨j - 1,by omega⟩
  obtain ⟨m',h1,h2⟩ := yV h.2 (by simpa using hi) (by simpa using hj) (by omega);exact ⟨m',by simpa using h1,by rw [show k + (i + 1) = k + 1 + i by omega]; exact h2⟩
theorem lH : ∀ (rs : List Rec) (D : Nat -> Bool) (_ : ∀ j,D j = false) (k : Nat) (e : Env),bY rs D k e = e
 | [],_,_,_,_ => rfl
 | y :: ys,D,h,k,e => by simp only [bY,h k,Bool.false_eq_true,if_false]; exact lH ys D h (k + 1) e
theorem kY : ∀ (rs : List Rec) (D : Nat -> Bool) (_ : ∀ j,D j = false) (k : Nat) (e : Own),bW rs D k e = e
 | [],_,_,_,_ => rfl
 | y :: ys,D,h,k,e => by simp only [bW,h k,Bool.false_eq_true,if_false]; exact kY ys D h (k + 1) e
section
variable {P : Program} {fr : Fr} {n : Nat} {ops : Array Oper}
theorem vK {env env' : Env} {own own' : Own} {rs : List Rec} (h : RecsOk P fr n ops rs env own env' own') {i : Nat} (hi : i < ops.size) : ∃ r,rs[i]? = some r := ⟨rs[i]'(by rw [h.len]; exact hi),ge _⟩
theorem stepX {env env' : Env} {own own' own0 : Own} {rs : List Rec} (h : RecsOk P fr n ops rs env own env' own') (hag : ∀ (i : Nat) (r : Rec),rs[i]? = some r -> ∀ x ∈ r.touch,own0 x = own x) (henv : ∀ u q sv,env u = some (q,sv) -> q = [])
  {D : Nat -> Bool} {i : Nat} {r : Rec} (hr : rs[i]? = some r) (hDi : D i = false)
  (hlow : ∀ j b,j < i -> rs[j]? = some b -> (b.dst.any (fun t => r.uses.contains t) || (keys b.upd).any (fun x => r.touch.contains x)) = true -> D j = true)
  (hhigh : ∀ j b,i < j -> rs[j]? = some b -> (b.dst.any (fun t => r.uses.contains t || r.dst == some t) || (keys b.upd).any (fun x => r.touch.contains x || (keys r.upd).contains x) || r.dst.any (fun t => (slots b).contains t)) = true -> D j = false)
  (hpath : ∀ j b,j < i -> rs[j]? = some b -> r.dst.any (fun t => (slots b).contains t) = false)
  {a : Act} {w : World} {pl : Pl} (hok : Ok fr n (bY rs D 0 env) (bW rs D 0 own0) a w pl) {K : Act -> World -> Prop}
  (hK : ∀ a' w' pl',Ok fr n (bY rs (bZ D i) 0 env) (bW rs (bZ D i) 0 own0) a' w' pl' -> K a' w') : eJ P ops i K a w := by
 obtain ⟨h1,h2,h3,h4,_⟩ := h;obtain ⟨envi,owni,hrec,he,hw⟩ := h4 i r hr;have hDu : ∀ u ∈ r.uses,∀ j b,rs[j]? = some b -> b.dst = some u -> D (0 + j) = decide (0 + j < i) := by
  intro u hu j b hj hb;rw [Nat.zero_add];rcases Nat.lt_trichotomy j i with hlt | rfl | hgt
  ·rw [decide_eq_true hlt]
   exact hlow j b hlt hj (by simp [hb,hu])
  ·rw [hDi,decide_eq_false (by omega)]
  ·rw [decide_eq_false (by omega)]
   exact hhigh j b hgt hj (by simp [hb,hu])
 refine hrec _ _ a w pl hok (fun u hu => ?_) (fun x hx => ?_) (fun t ht u q sv hq hne x hx hxt => ?_) K (fun a' w' pl' hok' => hK a' w' pl' ?_)
 ·rw [he]
  exact cO rs _ _ 0 _ _ u rfl (hDu u hu)
 ·rw [hw]
  refine cL rs _ _ 0 _ _ x (hag i r hr x hx) (fun j b hj hb => ?_);rw [Nat.zero_add];rcases Nat.lt_trichotomy j i with hlt | rfl | hgt
  ·rw [decide_eq_true hlt]
   exact hlow j b hlt hj (by simp only [Bool.or_eq_true,List.any_eq_true]; exact .inr ⟨x,hb,by simpa using hx⟩)
  ·rw [hDi,decide_eq_false (by omega)]
  ·rw [decide_eq_false (by omega)]
   exact hhigh j b hgt hj (by simp only [Bool.or_eq_true,List.any_eq_true]; exact .inl (.inr ⟨x,hb,.inl (by simpa using hx)⟩))
 ·rcases pR rs D 0 _ u q sv hq with h5 | ⟨j,b,h5,h6,h7,rfl⟩
  ·rw [henv u q sv h5] at hx; cases hx
  ·rw [Nat.zero_add] at h6
   have hsl : (slots b).contains t = true := by
    simp only [slots,List.contains_iff_mem,mm];exact ⟨x,hx,hxt⟩
   rcases Nat.lt_trichotomy j i with hlt | rfl | hgt
   ·have := hpath j b hlt h5
    rw [ht] at this;simp only [Option.any_some,hsl] at this;cases this
   ·rw [hDi] at h6; cases h6
   ·have := hhigh j b hgt h5 (by rw [ht]; simp only [Option.any_some,hsl,Bool.or_true])
    rw [this] at h6; cases h6
 ·
  have e1 : dY (bY rs D 0 env) r = bY rs (bZ D i) 0 env := by
   funext u;by_cases hu : r.dst = some u
   ·rw [pQ rs (bZ D i) 0 _ u i r hr hu (by simp [bZ]) (fun j b hj hb hbu => by
     rw [Nat.zero_add];simp only [bZ,if_neg (show j ≠ i by omega)];exact hhigh j b hj hb (by simp [hbu,hu]))]
    simp only [dY,hu];exact upd_same _ _ _
   ·have hp : dY (bY rs D 0 env) r u = bY rs D 0 env u := by
     unfold dY;cases hd' : r.dst with
     | none => rfl
     | some t => exact upd_ne _ _ (fun e => hu (by rw [hd',e]))
    rw [hp];refine cO rs _ _ 0 _ _ u rfl (fun j b hj hb => ?_);rw [Nat.zero_add];have : j ≠ i := fun e => by subst e; rw [hr] at hj; injection hj with hj; rw [hj] at hu; exact hu hb
    simp [bZ,this]
  have e2 : bB (bW rs D 0 own0) r.upd = bW rs (bZ D i) 0 own0 := by
   funext x;by_cases hu : x ∈ keys r.upd
   ·exact (o9 rs (bZ D i) 0 _ _ x i r hr hu (by simp [bZ]) (fun j b hj hb hbu => by
     rw [Nat.zero_add];simp only [bZ,if_neg (show j ≠ i by omega)];exact hhigh j b hj hb (by simp only [Bool.or_eq_true,List.any_eq_true]; exact .inl (.inr ⟨x,hbu,.inr (by simpa using hu)⟩)))).symm
   ·rw [fH _ _ x hu]
    refine cL rs _ _ 0 _ _ x rfl (fun j b hj hb => ?_);rw [Nat.zero_add];have : j ≠ i := fun e => by subst e; rw [hr] at hj; injection hj with hj; rw [hj] at hu; exact hu hb
    simp [bZ,this]
  rw [<- e1,<- e2];exact hok'
theorem textX {K : Act -> World -> Prop} {env env' : Env} {own own' own0 : Own} {rs : List Rec} (h : RecsOk P fr n ops rs env own env' own') (hag : ∀ (i : Nat) (r : Rec),rs[i]? = some r -> ∀ x ∈ r.touch,own0 x = own x) (henv : ∀ u q sv,env u = some (q,sv) -> q = []) (hT : okT rs = true)
  (hQ : ∀ a w pl,Ok fr n env' ((bW rs (fun _ => true) 0 own0)) a w pl -> K a w) : ∀ (m i : Nat),i + m = ops.size -> ∀ a w pl,Ok fr n (bY rs (fun j => decide (j < i)) 0 env) (bW rs (fun j => decide (j < i)) 0 own0) a w pl -> eV P ops K (List.range' i m) a w := by
 intro m;obtain ⟨h1,h2,h3,h4,_⟩ := id h
 induction m with
 | zero =>
  intro i hi a w pl hok;simp only [List.range'_zero,eV];refine hQ a w pl ?_;have hlt : ∀ j r,rs[j]? = some r -> (0 + j) < i := by
   intro j r hj;have := (gsQ.1 hj).1;omega
  have e1 : bY rs (fun j => decide (j < i)) 0 env = env' := by
   rw [h2];funext u;exact cO rs _ _ 0 _ _ u rfl (fun j r hj _ => decide_eq_true (hlt j r hj))
  have e2 : bW rs (fun j => decide (j < i)) 0 own0 = (bW rs (fun _ => true) 0 own0) := by
   funext u;exact cL rs _ _ 0 _ _ u rfl (fun j r hj _ => decide_eq_true (hlt j r hj))
  rw [<- e1,<- e2];exact hok
 | succ m ih =>
  intro i hi a w pl hok;rw [List.range'_succ,eV];obtain ⟨r,hr⟩ := vK h (i := i) (by omega);refine stepX h hag henv hr (D := fun j => decide (j < i)) (by simp) (fun j b hj _ _ => by simpa using hj) (fun j b hj _ _ => by simp; omega) (fun j b hj hb => ?_) hok (fun a' w' pl' hok' => ?_);have := nE hT hb hr hj;unfold l3 at this;cases hd : r.dst with
  | none => rfl
  | some t =>
   rw [hd] at this;simp only [Option.any_some];simpa using this
  have e : bZ (fun j => decide (j < i)) i = fun j => decide (j < i + 1) := by
   funext j;by_cases hj : j = i;subst hj; simp [bZ];simp only [bZ,if_neg hj];congr 1;simp only [eq_iff_iff];omega
  rw [e] at hok';exact ih (i + 1) (by omega) a' w' pl' hok'
theorem anyX {K : Act -> World -> Prop} {env env' : Env} {own own' own0 : Own} {rs : List Rec} (h : RecsOk P fr n ops rs env own env' own') (hag : ∀ (i : Nat) (r : Rec),rs[i]? = some r -> ∀ x ∈ r.touch,own0 x = own x) (henv : ∀ u q sv,env u = some (q,sv) -> q = []) (hT : okT rs = true) (hA : okB 0 rs (bef ops) = true) (hE : fO 0 ops.toList = true)
  (hQ : ∀ a w pl,Ok fr n env' ((bW rs (fun _ => true) 0 own0)) a w pl -> K a w) : ∀ (fuel : Nat) (listed : Array Bool),listed.size = ops.size -> (List.range ops.size).countP (fun i => !listed.getD i false) <= fuel ->
   (∀ i o,ops[i]? = some o -> listed.getD i false = true -> ∀ e ∈ o.after,Region.binds .any e = true -> listed.getD e.on false = true) ->
   ∀ a w pl,Ok fr n (bY rs (fun j => listed.getD j false) 0 env) (bW rs (fun j => listed.getD j false) 0 own0) a w pl -> rN P .any ops K fuel listed a w := by
 obtain ⟨h1,h2,h3,h4,hkt,hsl⟩ := id h;have hlen : rs.length = ops.size := h1;have fin : ∀ (listed : Array Bool),(∀ i,i < ops.size -> listed.getD i false = true) -> ∀ a w pl,Ok fr n (bY rs (fun j => listed.getD j false) 0 env) (bW rs (fun j => listed.getD j false) 0 own0) a w pl -> K a w := by
  intro listed hall a w pl hok;refine hQ a w pl ?_;have hlt : ∀ j r,rs[j]? = some r -> listed.getD (0 + j) false = true := by
   intro j r hj;have := (gsQ.1 hj).1;rw [Nat.zero_add];exact hall j (by omega)
  have e1 : bY rs (fun j => listed.getD j false) 0 env = env' := by
   rw [h2];funext u;exact cO rs _ _ 0 _ _ u rfl (fun j r hj _ => hlt j r hj)
  have e2 : bW rs (fun j => listed.getD j false) 0 own0 = (bW rs (fun _ => true) 0 own0) := by
   funext u;exact cL rs _ _ 0 _ _ u rfl (fun j r hj _ => hlt j r hj)
  rw [<- e1,<- e2];exact hok
 have rdy : ∀ (listed : Array Bool),listed.size = ops.size -> Region.ready .any ops listed = [] -> ∀ i,i < ops.size -> listed.getD i false = true := by
  intro listed hsz hr i
  induction i using Nat.strongRecOn with
  | _ i ih =>
   intro hi;cases hb : listed.getD i false with
   | true => rfl
   | false =>
    exfalso;have hmem : i ∈ Region.ready .any ops listed := by
     rw [mem_ready];refine ⟨?_,ops[i],Array.getElem?_eq_getElem hi,fun e he hbd => ?_⟩;have : i < listed.size := by omega
     simp only [Array.getD,this,dif_pos] at hb ⊢;exact hb;have := kE hE (i := i) (o := ops[i]) (by simp [hi]) e he hbd;exact ih e.on (by omega) (by omega)
    rw [hr] at hmem;cases hmem
 intro fuel
 induction fuel with
 | zero =>
  intro listed hsz hcnt hcl a w pl hok;have hall : ∀ i,i < ops.size -> listed.getD i false = true := by
   intro i hi;have h0 : (List.range ops.size).countP (fun i => !listed.getD i false) = 0 := by omega
   rw [List.countP_eq_zero] at h0;have := h0 i (List.mem_range.2 hi);simpa using this
  refine ⟨?_,fin listed hall a w pl hok⟩;rw [List.eq_nil_iff_forall_not_mem];intro i hi;obtain ⟨h5,o,ho,_⟩ := mem_ready.1 hi;have hlt := (Array.getElem?_eq_some_iff.1 ho).1;have h6 := hall i hlt;have : i < listed.size := by omega
  simp only [Array.getD,this,dif_pos] at h5 h6;rw [h5] at h6;cases h6
 | succ fuel ih =>
  intro listed hsz hcnt hcl a w pl hok;refine ⟨fun hr => fin listed (rdy listed hsz hr) a w pl hok,fun i hi => ?_⟩;obtain ⟨h5,o,ho,hedge⟩ := mem_ready.1 hi;have hlt := (Array.getElem?_eq_some_iff.1 ho).1;have hltl : i < listed.size := by omega
  have hDi : listed.getD i false = false := by
   simp only [Array.getD,hltl,dif_pos] at h5 ⊢;exact h5
  obtain ⟨r,hr⟩ := vK h hlt;have hmarked : (fun j => (listed.setIfInBounds i true).getD j false) = bZ (fun j => listed.getD j false) i := by
   funext j;by_cases hj : j = i;subst hj; simp [bZ,hltl];simp only [bZ,if_neg hj]; exact getD_set_ne false (Ne.symm hj)
  have hbef : ∀ b,(bef ops)[i]? = some b -> ∀ j,b.testBit j = true -> listed.getD j false = true :=
   fun b hb => jI (D := fun j => listed.getD j false) hcl i o b ho hb hedge
  have haft : ∀ j m,(bef ops)[j]? = some m -> m.testBit i = true -> listed.getD j false = false := by
   intro j m hm hbit;cases hb : listed.getD j false with
   | false => rfl
   | true =>
    exfalso;have hjl : j < ops.size := by
     rcases Nat.lt_or_ge j listed.size with h' | h';omega;simp [Array.getD,Nat.not_lt.2 h'] at hb
    have := jI (D := fun j => listed.getD j false) hcl j ops[j] m (Array.getElem?_eq_getElem hjl) hm (hcl j _ (Array.getElem?_eq_getElem hjl) hb) i hbit;rw [hDi] at this;cases this
  refine stepX h hag henv hr (D := fun j => listed.getD j false) hDi (fun j b hj hb hd => ?_) (fun j b hj hb hd => ?_) (fun j b hj hb => ?_) hok (fun a' w' pl' hok' => ?_);obtain ⟨m,hm,hor⟩ := yV hA hb hr hj;rw [Nat.zero_add] at hor;rcases hor with hbit | hind;exact hbef m hm j hbit;exfalso;simp only [qE,bIQ] at hind;obtain ⟨⟨⟨hi1,hi2⟩,hi3⟩,hi4⟩ := hind;simp only [Bool.or_eq_true] at hd;rcases hd with hd | hd;cases hbd : b.dst with
  | none => rw [hbd] at hd; cases hd
  | some t =>
   rw [hbd] at hd hi1;simp only [Option.any_some] at hd;simp at hi1;exact hi1.1 (by simpa using hd)
  obtain ⟨x,hx,hxt⟩ := List.any_eq_true.1 hd;have := at1.1 hi3 x hx;rw [hxt] at this;cases this;obtain ⟨m,hm,hor⟩ := yV hA hr hb hj;rw [Nat.zero_add] at hor;rcases hor with hbit | hind;exact haft j m hm hbit;exfalso;simp only [qE,bIQ] at hind;obtain ⟨⟨⟨hi1,hi2⟩,hi3⟩,hi4⟩ := hind;simp only [Bool.or_eq_true] at hd;rcases hd with (hd | hd) | hd;cases hbd : b.dst with
  | none => rw [hbd] at hd; cases hd
  | some t =>
   rw [hbd] at hd hi2;simp only [Option.any_some,Bool.or_eq_true] at hd;rcases hd with hd | hd;simp only [hd] at hi2; cases hi2;simp only [beq_iff_eq] at hd;rw [hd,hbd] at hi1;simp at hi1
  obtain ⟨x,hx,hxt⟩ := List.any_eq_true.1 hd;have h7 := at1.1 hi4 x hx;simp only [Bool.or_eq_true] at hxt;rcases hxt with hxt | hxt;rw [hxt] at h7; cases h7;have h8 : x ∈ keys r.upd := by simpa using hxt
  have h9 := hkt i r hr x h8;have : r.touch.contains x = true := by simpa using h9
  rw [this] at h7;cases h7;cases hrd : r.dst with
  | none => rw [hrd] at hd; cases hd
  | some t =>
   rw [hrd] at hd hi1;simp only [Option.any_some] at hd;simp only [bIQ] at hi1;have hsub : ∀ x,x ∈ slots b -> x ∈ b.uses := hsl j b hb;have := hsub t (by simpa using hd);have h7 : b.uses.contains t = true := by simpa using this
   rw [h7] at hi1;cases hi1.1
  have := nE hT hb hr hj;unfold l3 at this;cases hd : r.dst with
  | none => rfl
  | some t =>
   rw [hd] at this;simp only [Option.any_some];simpa using this
  refine ih _ (by simp [hsz]) ?_ ?_ a' w' pl' ?_;have hsplit : (List.range ops.size).countP (fun j => !(listed.setIfInBounds i true).getD j false) + 1 = (List.range ops.size).countP (fun j => !listed.getD j false) := by
   have hm : ∀ (l : List Nat),l.Nodup -> i ∈ l -> l.countP (fun j => !(listed.setIfInBounds i true).getD j false) + 1 = l.countP (fun j => !listed.getD j false) := by
    intro l
    induction l with
    | nil => intro _ h; cases h
    | cons x r ihl =>
     intro hn hi;rw [List.nodup_cons] at hn;by_cases hx : x = i;subst hx;have hsame : r.countP (fun j => !(listed.setIfInBounds x true).getD j false) = r.countP (fun j => !listed.getD j false) := by
      refine List.countP_congr (fun j hj => ?_);have : x ≠ j := fun e => hn.1 (by rw [e]; exact hj);rw [getD_set_ne false this]
     have hs : (listed.setIfInBounds x true).getD x false = true := by simp [hltl]
     rw [List.countP_cons_of_neg (by simp [hs]),List.countP_cons_of_pos (by simp [hDi]),hsame];have hir : i ∈ r := (mc.1 hi).resolve_left (fun e => hx e.symm);have := ihl hn.2 hir;rw [List.countP_cons,List.countP_cons,getD_set_ne false (fun e => hx e.symm)];omega
   exact hm _ List.nodup_range (List.mem_range.2 hlt)
  omega;intro j o' hj hdone e he hbd;by_cases hji : j = i;subst hji;rw [ho] at hj;injection hj with hj;subst hj;exact getD_set_true (hedge e he hbd);rw [getD_set_ne false (Ne.symm hji)] at hdone;exact getD_set_true (hcl j o' hj hdone e he hbd);rw [hmarked]; exact hok'
theorem aMX {R : Wp P} {id : Nat} {draw : Bool} (hm : P.follows .mixedOrders = true) {env env' : Env} {own own' own0 : Own} {rs : List Rec} (h : RecsOk P fr n ops rs env own env' own') (hag : ∀ (i : Nat) (r : Rec),rs[i]? = some r -> ∀ x ∈ r.touch,own0 x = own x) (henv : ∀ u q sv,env u = some (q,sv) -> q = [])
  (hT : okT rs = true) (hA : draw = true -> okB 0 rs (bef ops) = true /\ fO 0 ops.toList = true) (hnd : fM ops = true) {Q : Exit -> Act -> World -> Prop} {a : Act} {w : World} {pl : Pl} (hok : Ok fr n env own0 a w pl)
  (hQ : ∀ a w pl,Ok fr n env' (bW rs (fun _ => true) 0 own0) a w pl -> Q .normal a w) : R.wp (Code.region id ops draw) Q a w := by
 have h0 : ∀ e : Env,bY rs (fun j => decide (j < 0)) 0 e = e := fun e => lH rs _ (fun j => by simp) 0 e;have h0' : ∀ e : Own,bW rs (fun j => decide (j < 0)) 0 e = e := fun e => kY rs _ (fun j => by simp) 0 e;cases draw with
 | false =>
  refine R.region hnd ?_;rw [List.range_eq_range'];exact textX h hag henv hT hQ ops.size 0 (by omega) a w pl (by rw [h0,h0']; exact hok)
 | true =>
  obtain ⟨hA,hE⟩ := hA rfl;refine R.any hm hnd ?_;have hz : ∀ j,(Array.replicate ops.size false).getD j false = false := by
   intro j;simp only [Array.getD_eq_getD_getElem?,Array.getElem?_replicate];split <;> rfl
  have hg : w.grownBy { w with drawn := w.drawn + 1 } none := ⟨rfl,rfl,rfl,lr _,fun _ _ _ => rfl⟩
  obtain ⟨m',L⟩ := hok.mem.ext hg;refine anyX h hag henv hT hA hE hQ ops.size _ (by simp) ?_ (fun i o _ hd => by rw [hz] at hd; cases hd) a _ pl ?_;exact Nat.le_trans List.countP_le_length (by simp);rw [lH rs _ hz 0,kY rs _ hz 0];exact hok.later m' L
end
end Go.V
namespace Go.V
open Go.RowKit
inductive Tr (α : Type) where
 | e
 | n (v : Option α) (l r : Tr α)
def Tr.get {α : Type} : Tr α -> Nat -> Option α
 | .e,_ => none
 | .n v l r,i => bif Nat.beq i 0 then v else bif Nat.beq (i % 2) 1 then l.get (i / 2) else r.get (i / 2 - 1)
def Tr.put {α : Type} (x : Option α) : Nat -> Tr α -> Nat -> Tr α
 | 0,t,_ => t
 | f + 1,.e,i => bif Nat.beq i 0 then .n x .e .e else bif Nat.beq (i % 2) 1 then .n none (Tr.put x f .e (i / 2)) .e else .n none .e (Tr.put x f .e (i / 2 - 1))
 | f + 1,.n v l r,i => bif Nat.beq i 0 then .n x l r else bif Nat.beq (i % 2) 1 then .n v (Tr.put x f l (i / 2)) r else .n v l (Tr.put x f r (i / 2 - 1))
theorem wX {i j : Nat} : (Nat.beq i j = true) = (i = j) := by simp [Nat.beq_eq]
theorem eD {α : Type} {i j : Nat} {x y : α} : (bif Nat.beq i j then x else y) = if i = j then x else y := by
 by_cases h : i = j;subst h; simp [Nat.beq_refl];have : Nat.beq i j = false := by
  cases hb : Nat.beq i j with
  | false => rfl
  | true => exact absurd (Nat.eq_of_beq_eq_true hb) h
 rw [this,if_neg h]; rfl
theorem Tr.get_put {α : Type} (x : Option α) : ∀ (f : Nat) (t : Tr α) (i j : Nat),i + 1 < 2 ^ f -> (Tr.put x f t i).get j = if j = i then x else t.get j
 | 0,t,i,j,h => by simp at h
 | f + 1,t,i,j,h => by
  have h2 : 2 ^ (f + 1) = 2 * 2 ^ f := by rw [Nat.pow_succ]; omega
  cases t with
  | e =>
   simp only [Tr.put,eD];split;rename_i hi;subst hi;simp only [Tr.get,eD];split;rename_i hj; simp [hj];rename_i hj; simp [hj,Tr.get];rename_i hi;split;rename_i ho;simp only [Tr.get,eD];by_cases hj : j = 0;simp only [hj,if_true]; rw [if_neg (by omega)];rw [if_neg hj];by_cases hjo : j % 2 = 1;rw [if_pos hjo,Tr.get_put x f .e (i / 2) (j / 2) (by omega)];by_cases hji : j = i;simp [hji];rw [if_neg (show ¬ j / 2 = i / 2 by omega),if_neg hji]; simp [Tr.get];rw [if_neg hjo,if_neg (by omega)];rename_i ho;simp only [Tr.get,eD];by_cases hj : j = 0;simp only [hj,if_true]; rw [if_neg (by omega)];rw [if_neg hj];by_cases hjo : j % 2 = 1;rw [if_pos hjo,if_neg (by omega)];rw [if_neg hjo,Tr.get_put x f .e (i / 2 - 1) (j / 2 - 1) (by omega)];by_cases hji : j = i;simp [hji];rw [if_neg (show ¬ j / 2 - 1 = i / 2 - 1 by omega),if_neg hji]; simp [Tr.get]
  | n v l r =>
   simp only [Tr.put,eD];split;rename_i hi;subst hi;simp only [Tr.get,eD];split;rename_i hj; simp [hj];rename_i hj; simp [hj];rename_i hi;split;rename_i ho;simp only [Tr.get,eD];by_cases hj : j = 0;simp only [hj,if_true]; rw [if_neg (by omega)];rw [if_neg hj,if_neg hj];by_cases hjo : j % 2 = 1;rw [if_pos hjo,if_pos hjo,Tr.get_put x f l (i / 2) (j / 2) (by omega)];by_cases hji : j = i;simp [hji];rw [if_neg (show ¬ j / 2 = i / 2 by omega),if_neg hji];rw [if_neg hjo,if_neg hjo,if_neg (by omega)];rename_i ho;simp only [Tr.get,eD];by_cases hj : j = 0;simp only [hj,if_true]; rw [if_neg (by omega)];rw [if_neg hj,if_neg hj];by_cases hjo : j % 2 = 1;rw [if_pos hjo,if_pos hjo,if_neg (by omega)];rw [if_neg hjo,if_neg hjo,Tr.get_put x f r (i / 2 - 1) (j / 2 - 1) (by omega)];by_cases hji : j = i;simp [hji];rw [if_neg (show ¬ j / 2 - 1 = i / 2 - 1 by omega),if_neg hji]
def few (i : Nat) : Bool := Nat.ble (i + 2) 1099511627776
theorem Tr.get_put40 {α : Type} {x : Option α} {t : Tr α} {i : Nat} (h : few i = true) (j : Nat) : (Tr.put x 40 t i).get j = if j = i then x else t.get j :=
 Tr.get_put x 40 t i j (by
  have := Nat.le_of_ble_eq_true h;have e : (2 : Nat) ^ 40 = 1099511627776 := by decide
  omega)
def yG : Tr Ob -> List (Nat × Ob) -> Option (Tr Ob)
 | t,[] => some t
 | t,(i,o) :: r => if few i then yG (Tr.put (some o) 40 t i) r else none
theorem iG : ∀ {l : List (Nat × Ob)} {t t' : Tr Ob},yG t l = some t' -> t'.get = bB t.get l
 | [],t,t',h => by simp only [yG,oIQ] at h; subst h; rfl
 | (i,o) :: r,t,t',h => by
  simp only [yG] at h;split at h;rename_i hf;rw [iG h];simp only [bB];congr 1;funext j;rw [Tr.get_put40 hf];rfl;cases h
theorem lU : ∀ (l : List (Nat × Ob)) {own own' : Own} {i : Nat},own i = own' i -> bB own l i = bB own' l i
 | [],_,_,_,h => h
 | (j,o) :: r,own,own',i,h => lU r (by by_cases hi : i = j <;> simp [upd,hi,h])
theorem eL : ∀ (l m : List (Nat × Ob)) (own : Own),bB own (l ++ m) = bB (bB own l) m
 | [],_,_ => rfl
 | (j,o) :: r,m,own => eL r m _
def cJ (loc : bR) (tr : Tr SV) : Env := fun t => match aI loc t with
 | some x => some x
 | none => (tr.get t).map fun s => ([],s)
def tI : bR -> Tr SV -> Tr SV
 | [],tr => tr
 | (t,p,sv) :: r,tr => Tr.put (bif p.isEmpty then some sv else none) 40 (tI r tr) t
theorem tH : ∀ {loc : bR} {tr : Tr SV},(loc.all fun e => few e.1) = true -> ∀ {u : Nat} {q : Path} {sv : SV},cJ [] (tI loc tr) u = some (q,sv) -> q = [] /\ cJ loc tr u = some (q,sv)
 | [],tr,_,u,q,sv,h => by
  refine ⟨?_,h⟩;simp only [cJ,aI,tI,me,pIQ] at h;obtain ⟨_,_,h,_⟩ := h;exact h.symm
 | (t,p,s) :: r,tr,hf,u,q,sv,h => by
  simp only [List.all_cons,bIQ] at hf;simp only [cJ,aI,tI] at h ⊢;rw [Tr.get_put40 hf.1] at h;by_cases hu : t = u;subst hu;simp only [if_true,beq_self_eq_true] at h ⊢;cases p with
  | nil =>
   simp only [List.isEmpty_nil,cond_true,Option.map_some,oIQ,pIQ] at h;obtain ⟨rfl,rfl⟩ := h;exact ⟨rfl,rfl⟩
  | cons x y => simp at h
  have hne : (t == u) = false := by simpa using hu
  rw [if_neg (Ne.symm hu)] at h;rw [hne];simp only [Bool.false_eq_true,if_false];exact tH (loc := r) hf.2 (by simpa only [cJ,aI] using h)
structure Ent (P : Program) (G : List (Nat × List Value)) where
 f : FuncId
 ask : Nat -> List SV -> List (Nat × Ob) -> Option (SV × List (Nat × Ob) × List Prop)
 ok : ∀ {k : Nat} {ins : List SV} {refs post : List (Nat × Ob)} {out : SV} {cs : List Prop},ask k ins refs = some (out,post,cs) -> conj cs -> Spec P G f ins refs out post
def aC0 {P : Program} {G : List (Nat × List Value)} : List (Ent P G) -> FuncId -> Option (Ent P G)
 | [],_ => none
 | e :: r,f => bif Nat.beq e.f f then some e else aC0 r f
theorem aHZ {P : Program} {G : List (Nat × List Value)} : ∀ {T : List (Ent P G)} {f : FuncId} {e : Ent P G},aC0 T f = some e -> e.f = f
 | [],f,e,h => by simp [aC0] at h
 | x :: r,f,e,h => by
  simp only [aC0,eD] at h;split at h;rename_i hx; simp only [oIQ] at h; rw [<- h]; exact hx;exact aHZ h
def idsC : C -> List Nat
 | .bx i _ => [i]
 | .fn _ l m => (l ++ m).map (·.1)
 | .mp i => [i]
 | .yl i => [i]
 | .ib _ i => [i]
 | _ => []
def idsCA : C -> List Nat
 | .ar i _ => [i]
 | c => idsC c
def aON : SV -> List Nat
 | .c x => idsC x
 | .agg xs => xs.flatMap idsC
 | .tup xs => xs.flatMap fun p => p.2.flatMap idsC
def idsO : Option Ob -> List Nat
 | some (.box _ cells) => cells.flatMap idsCA
 | some (.arr _ e _ _) => e.ov.flatMap fun x => idsCA x.2
 | none => []
def gS (ob : Own) : Nat -> List Nat -> List Nat -> List Nat
 | 0,_,acc => acc
 | _ + 1,[],acc => acc
 | f + 1,i :: r,acc => if acc.contains i then gS ob f r acc else gS ob f (idsO (ob i) ++ r) (acc ++ [i])
structure OpR where
 sv : SV
 upd : List (Nat × Ob)
 touch : List Nat
 own : Tr Ob
 k : Nat
 cs : List Prop
def OpR.eff (r : OpR) : Eff := ⟨r.sv,r.upd,r.touch,[]⟩
def u0 (own : Tr Ob) (k : Nat) (cs : List Prop) (e : Eff) : Option OpR := match yG own e.upd with
 | some own' => some ⟨e.sv,e.upd,keys e.upd ++ e.touch,own',k,cs⟩
 | none => none
def aP0 {P : Program} {G : List (Nat × List Value)} (e : Ent P G) (k : Nat) (svs : List SV) (own : Tr Ob) : Option OpR :=
 match uE own.get (gS own.get 1000 (svs.flatMap aON) []) svs,qF own.get (gS own.get 1000 (svs.flatMap aON) []) 0 (gS own.get 1000 (svs.flatMap aON) []) with
 | some (ins,_),some refs => match e.ask k ins refs with
  | some (out,post,cs) => match mI (Spec P G e.f) own.get (some svs) k out (gS own.get 1000 (svs.flatMap aON) []) post with
   | some ef => if ef.obs.all (fun o => o.k || o.b) then u0 own (k + 1 + post.length) cs ef else none
   | none => none
  | none => none
 | _,_ => none
def aQP (P : Program) (G : List (Nat × List Value)) (lk : Lk) (p : Path) (o : Oper) (own : Tr Ob) (r : OpR) : Prop :=
 r.own.get = bB own.get r.upd /\ (∀ x ∈ keys r.upd,x ∈ r.touch) /\
 ∀ (fr : Fr) (own0 : Own) (a : Act) (w : World) (pl : Pl),fr.G = G -> conj r.cs -> (∀ i ∈ r.touch,own0 i = own.get i) -> Mem fr own0 w pl -> bA a w pl own0 p lk -> Eng.Holds a p -> f4 P fr own0 a w pl o r.eff
section
variable {P : Program} {G : List (Nat × List Value)} {lk : Lk} {p : Path} {o : Oper}
theorem tU {fr : Fr} {own : Own} {a : Act} {w : World} {pl : Pl} {e e' : Eff} (h1 : e'.sv = e.sv) (h2 : e'.upd = e.upd) (h : f4 P fr own a w pl o e) : f4 P fr own a w pl o e' := by
 unfold f4 at h ⊢;rw [h1,h2];exact h
theorem hV {own : Tr Ob} {k : Nat} {cs : List Prop} {e : Eff} {r : OpR} (h : u0 own k cs e = some r)
  (hd : ∀ (fr : Fr) (own0 : Own) (a : Act) (w : World) (pl : Pl),fr.G = G -> conj cs -> (∀ i ∈ e.touch,own0 i = own.get i) -> Mem fr own0 w pl -> bA a w pl own0 p lk -> Eng.Holds a p -> f4 P fr own0 a w pl o e) : aQP P G lk p o own r := by
 unfold u0 at h;split at h;rename_i own' hs;simp only [oIQ] at h;subst h;refine ⟨iG hs,fun x hx => by simp [hx],fun fr own0 a w pl hG hc ht m hl hp => ?_⟩;exact tU (e := e) rfl rfl (hd fr own0 a w pl hG hc (fun i hi => ht i (by simp [hi])) m hl hp);cases h
theorem fU : ∀ {l : List Prop},(∀ c ∈ l,c) -> conj l
 | [],_ => trivial
 | [c],h => h c (by simp)
 | c :: d :: r,h => ⟨h c (by simp),fU fun x hx => h x (by simp [hx])⟩
theorem aGB {S : List SV -> List (Nat × Ob) -> SV -> List (Nat × Ob) -> Prop} {ob : Own} {osv : Option (List SV)} {nid : Nat} {out : SV} {rs : List Nat} {post : List (Nat × Ob)} {e : Eff} (h : mI S ob osv nid out rs post = some e) :
  ∃ svs ins ars refs,osv = some svs /\ uE ob rs svs = some (ins,ars) /\ qF ob rs 0 rs = some refs /\ ∀ x ∈ e.obs,x.p = S ins refs out post \/ x.k = false := by
 unfold mI at h;split at h;rename_i svs;split at h;rename_i ins ars refs hargs hrefs;split at h;split at h;simp only [oIQ] at h;subst h;refine ⟨svs,ins,ars,refs,rfl,hargs,hrefs,fun x hx => ?_⟩;rcases mc.1 hx with rfl | hx;exact .inl rfl;right;split at hx;cases hx;obtain ⟨y,hy,hx⟩ := List.mem_flatMap.1 hx;unfold wI at hx;split at hx;cases hx;simp only [List.mem_singleton] at hx;subst hx; rfl
 iterate 4 cases h
theorem aPZ {T : Ent P G} {k : Nat} {svs : List SV} {own : Tr Ob} {r : OpR} (h : aP0 T k svs own = some r)
  (hrun : ∀ (own0 : Own) (a : Act) (w : World) (pl : Pl) ,bA a w pl own0 p lk -> Eng.Holds a p -> ∃ vals,All2 (bD w pl own0) svs vals /\ aA1 P G a w o vals (Spec P G T.f)) : aQP P G lk p o own r := by
 unfold aP0 at h;generalize hrs : gS own.get 1000 (svs.flatMap aON) [] = rs at h;split at h;rename_i ins ars refs hargs hrefs;split at h;rename_i out post cs hask;split at h;rename_i ef hef;split at h;rename_i hall;refine hV h fun fr own0 a w pl hG hc ht m hl hp => ?_;subst hG;obtain ⟨vals,hv,hr⟩ := hrun own0 a w pl hl hp;obtain ⟨svs',ins',ars',refs',h1,h2,h3,h4⟩ := aGB hef;simp only [oIQ] at h1;subst h1;rw [hargs] at h2;rw [hrefs] at h3;simp only [oIQ,pIQ] at h2 h3;obtain ⟨rfl,rfl⟩ := h2;subst h3;refine pT m (vals := vals) (fun s hs => by simp only [oIQ] at hs; subst hs; exact hv) hr hef ht (fU fun c hcm => ?_);simp only [Eff.obl,pOf,mm] at hcm;obtain ⟨x,hx,rfl⟩ := hcm;rcases h4 x hx with h5 | h5;rw [h5]; exact T.ok hask hc;have := at1.1 hall x hx;rw [h5,Bool.false_or] at this;exact x.h this
 iterate 4 cases h
end
end Go.V
namespace Go.V
open Go.RowKit
def cX (ov : List (Nat × C)) : Nat -> List D -> List C
 | _,[] => []
 | p,d :: r => (match ov.lookup p with
  | some c => c
  | none => .d d) :: cX ov (p + 1) r
def fF : List C -> List D
 | [] => []
 | .d x :: r => x :: fF r
 | _ :: r => .v undef :: fF r
def f6 : Nat -> List C -> List (Nat × C)
 | _,[] => []
 | p,.d _ :: r => f6 (p + 1) r
 | p,c :: r => (p,c) :: f6 (p + 1) r
section
variable {P : Program} {fr : Fr} {own : Own} {a : Act} {w w' : World} {pl : Pl} {o : Oper} {p : Path} {lk : Lk}
theorem gF (ov : List (Nat × C)) : ∀ (ds : List D) (p : Nat),(cX ov p ds).length = ds.length
 | [],_ => rfl
 | d :: r,p => by simp [cX,gF ov r]
theorem oS (ov : List (Nat × C)) : ∀ (ds : List D) (p j : Nat),(cX ov p ds)[j]? = (ds[j]?).map fun d => match ov.lookup (p + j) with
  | some c => c
  | none => .d d
 | [],_,j => by simp [cX]
 | d :: r,p,0 => by simp [cX]
 | d :: r,p,j + 1 => by
  simp only [cX,List.getElem?_cons_succ];rw [oS ov r (p + 1) j,show p + 1 + j = p + (j + 1) by omega]
theorem view_ok {ov : List (Nat × C)} {ds : List D} {xs : List Value} (h : AllO w pl own ov ds xs) : All2 (COk w pl own) (cX ov 0 ds) xs := by
 refine ⟨by rw [gF]; exact h.1,fun j c x hc hx => ?_⟩;rw [oS] at hc;simp only [me,Nat.zero_add] at hc;obtain ⟨d,hd,rfl⟩ := hc;have := h.2 j d x hd hx;cases ho : ov.lookup j with
 | none => rw [ho] at this; exact this
 | some c => rw [ho] at this; exact this
theorem gJ : ∀ cs : List C,(fF cs).length = cs.length
 | [] => rfl
 | c :: r => by cases c <;> simp [fF,gJ r]
theorem yS : ∀ (cs : List C) (p j : Nat),j < p -> (f6 p cs).lookup j = none
 | [],_,_,_ => rfl
 | c :: r,p,j,h => by
  cases c with
  | d x => exact yS r (p + 1) j (by omega)
  | _ =>
   simp only [f6,List.lookup];have : (j == p) = false := by simp; omega
   rw [this];exact yS r (p + 1) j (by omega)
theorem aBR : ∀ {cs : List C} {xs : List Value} (p : Nat),All2 (COk w pl own) cs xs -> ∀ (j : Nat) (d : D) (x : Value),(fF cs)[j]? = some d -> xs[j]? = some x -> aA3 w pl own d x ((f6 p cs).lookup (p + j))
 | [],xs,p,h,j,d,x,hd,hx => by simp [fF] at hd
 | c :: r,xs,p,h,j,d,x,hd,hx => by
  obtain ⟨y,ys,rfl,h1,h2⟩ := h.uncons;cases j with
  | zero =>
   simp only [cz,oIQ] at hx;subst hx;cases c with
   | d z =>
    simp only [fF,cz,oIQ] at hd;subst hd;simp only [f6,Nat.add_zero];rw [yS r (p + 1) p (by omega)];exact h1
   | _ => simp only [f6,Nat.add_zero,List.lookup,beq_self_eq_true]; exact h1
  | succ j =>
   have ih := aBR (p + 1) h2 j d x (by cases c <;> simpa [fF] using hd) (by simpa using hx);rw [show p + 1 + j = p + (j + 1) by omega] at ih;cases c with
   | d z => exact ih
   | _ =>
    simp only [f6,List.lookup];have : (p + (j + 1) == p) = false := by simp
    rw [this];exact ih
theorem rJ {cs : List C} {xs : List Value} (h : All2 (COk w pl own) cs xs) : AllO w pl own (f6 0 cs) (fF cs) xs :=
 ⟨by rw [gJ]; exact h.1,fun j d x hd hx => by have := aBR 0 h j d x hd hx; rwa [Nat.zero_add] at this⟩
theorem j4 : ∀ (cs : List C) (p : Nat),p + cs.length <= 4611686018427387904 -> mkd (f6 p cs) = false
 | [],_,_ => rfl
 | c :: r,p,h => by
  simp only [lc] at h;have ih := j4 r (p + 1) (by omega);cases c with
  | d x => exact ih
  | _ =>
   simp only [mkd,f6,List.any_cons,Bool.or_eq_false_iff] at ih ⊢;exact ⟨by simp; omega,ih⟩
def aIE (k : Nat) (e : TypeId) (sz n : Nat) (cs : List C) : Ob := .arr k ⟨e,f6 0 cs⟩ sz (chunks sz n (fF cs))
theorem uA {i k : Nat} {e : AT} {sz : Nat} {es : LD} (h : ObOk 0 w pl own i (.arr k e sz es)) : ∃ xs,ownsQ (mkd e.ov) w 0 e.e sz (.slice (pl.sl i).1 es.length (pl.sl i).2) es.length xs /\ All2 (COk w pl own) (cX e.ov 0 es.flatten) xs /\ es.flatten.length = es.length * sz := by
 obtain ⟨xs,hx,hr,hs⟩ := h;exact ⟨xs,hx,view_ok hr,bT hs⟩
def aN4 (P : Program) (lk : Lk) (ob : Own) (t : TypeId) (x : Operand) : Option Eff :=
 match lk [] x with
 | some (.c (.ea i k idx off)) => match ob i with
  | some (.arr k' ⟨e,y :: ov⟩ sz es) => match es[idx]? with
   | some ds => bif Nat.beq k' k && Nat.beq ds.length sz then (match j8 P t (cX (y :: ov) (idx * sz) ds) off with
    | some s => some ⟨s,[],[i],[]⟩
    | none => none) else none
   | none => none
  | _ => none
 | _ => none
theorem aN3 (m : Mem fr own w pl) (hl : bA a w pl own p lk) (hp : Eng.Holds a p) {t : TypeId} {x : Operand} (hop : o.op = .load t x) {ob : Own} {e : Eff} (h : aN4 P lk ob t x = some e) (hob : ∀ i ∈ e.touch,own i = ob i) : Does P fr own a w pl o e := by
 unfold aN4 at h;split at h;rename_i i k idx off hx;split at h;rename_i k' el y ov sz es hbx;split at h;rename_i ds hds;cases hc : (Nat.beq k' k && Nat.beq ds.length sz) with
 | false => rw [hc] at h; cases h
 | true =>
  rw [hc] at h;simp only [cond_true] at h;simp only [bIQ,wX] at hc;obtain ⟨rfl,hdl⟩ := hc;split at h;rename_i s hs;simp only [oIQ] at h;subst h;have hi : own i = some (.arr k' ⟨el,y :: ov⟩ sz es) := by rw [hob i (by simp),hbx]
  obtain ⟨k2,e2,sz2,es2,hi2,_,hv,_⟩ := hl [] x _ hx holds_nil hp;rw [hi] at hi2;injection hi2 with hi2;injection hi2 with h1 h2 h3 h4;subst h1; subst h2; subst h3; subst h4;obtain ⟨hlt,b,hA,hv⟩ := hv rfl;obtain ⟨xs,hxs,hr,hss⟩ := m.obj i _ hi;rcases hxs.all.2 with ⟨_,h0⟩ | ⟨g,cap,cur,fz,hvv,hB,hg,hn,hsz,htk⟩
  omega;injection hvv with hA1 hA2 hA3;rw [hA] at hA1;simp only [oIQ,Addr.mk.injEq,and_true] at hA1;subst hA1;have hL : aQQ w pl own (cX (y :: ov) (idx * sz) ds) cur.toList (idx * sz) := by
   intro j c hj;rw [oS] at hj;simp only [me] at hj;obtain ⟨d,hd,rfl⟩ := hj;have hfd := c6 hss hds hd;have hlt2 : idx * sz + j < xs.length := by rw [<- hr.1]; exact (gsQ.1 hfd).1
   obtain ⟨u,hxj⟩ : ∃ u,xs[idx * sz + j]? = some u := ⟨_,ge hlt2⟩
   have hok := hr.2 _ d _ hfd hxj;refine ⟨u,?_,?_⟩;rw [<- htk,List.getElem?_take] at hxj;split at hxj;exact hxj;cases hxj;cases ho : (y :: ov).lookup (idx * sz + j) with
   | none => rw [show (AT.mk el (y :: ov)).ov = y :: ov from rfl,ho] at hok; exact hok
   | some c => rw [show (AT.mk el (y :: ov)).ov = y :: ov from rfl,ho] at hok; exact hok
  obtain ⟨v,hv2,hok⟩ := eZ hs hL;exact eP (L := cur.toList) hop m hv (by simpa using hg) hv2 hok;cases h
 iterate 3 cases h
def aAY : List C -> Bool
 | [] => true
 | .d _ :: r => aAY r
 | _ => false
def aDU (P : Program) (lk : Lk) (ob : Own) (ty : TypeId) (x v : Operand) : Option Eff :=
 match lk [] x,lk [] v,P.info? ty with
 | some (.c (.ea i k idx off)),some s,some ti => match ob i,kK s with
  | some (.arr k' ⟨e,ov⟩ sz es),some cs =>
   bif ov.isEmpty && (Nat.beq off 0 && (aAY cs && Nat.beq cs.length sz)) then none else
   bif Nat.beq k' k && (Nat.beq cs.length ti.size && (Nat.ble (idx * sz + off + cs.length) (es.length * sz) && (!(mkd ov) && Nat.ble (es.length * sz) 4611686018427387904))) then
    some ⟨.c .any,[(i,aIE k e sz es.length (aM (cX ov 0 es.flatten) (idx * sz + off) cs))],[i],[]⟩ else none
  | _,_ => none
 | _,_,_ => none
theorem aIU (m : Mem fr own w pl) (hl : bA a w pl own p lk) (hp : Eng.Holds a p) {ty : TypeId} {x v : Operand} (hop : o.op = .store ty x v) (hd : o.dst = none) {ob : Own} {e : Eff} (h : aDU P lk ob ty x v = some e) (hob : ∀ i ∈ e.touch,own i = ob i) : Does P fr own a w pl o e := by
 unfold aDU at h;split at h
 ·rename_i i k idx off s ti hx hs hti
  split at h
  ·rename_i k' el ov sz es cs hbx hcs
   cases hc0 : (ov.isEmpty && (Nat.beq off 0 && (aAY cs && Nat.beq cs.length sz))) with
   | true => rw [hc0] at h; cases h
   | false =>
    rw [hc0] at h;simp only [cond_false] at h;cases hc : (Nat.beq k' k && (Nat.beq cs.length ti.size && (Nat.ble (idx * sz + off + cs.length) (es.length * sz) && (!(mkd ov) && Nat.ble (es.length * sz) 4611686018427387904)))) with
    | false => rw [hc] at h; cases h
    | true =>
     rw [hc] at h;simp only [cond_true,oIQ] at h;simp only [bIQ,wX,Nat.ble_eq,Bool.not_eq_true'] at hc;obtain ⟨rfl,hc1,hc2,hmk,hbig⟩ := hc;subst h;have hi : own i = some (.arr k' ⟨el,ov⟩ sz es) := by rw [hob i (by simp),hbx]
     obtain ⟨k2,e2,sz2,es2,hi2,_,hv,_⟩ := hl [] x _ hx holds_nil hp;rw [hi] at hi2;injection hi2 with hi2;injection hi2 with h1 h2 h3 h4;subst h1; subst h2; subst h3; subst h4;obtain ⟨hlt,b,hA,hv⟩ := hv rfl;have hcv := gK hcs (hl [] v s hs holds_nil hp);obtain ⟨xs,hxs,hview,hfl⟩ := uA (m.obj i _ hi);rw [show mkd (AT.mk el ov).ov = false from hmk] at hxs;have hview : All2 (COk w pl own) (cX ov 0 es.flatten) xs := hview;have hxl : xs.length = es.length * sz := by rw [<- hview.1,gF,hfl]
     have hvl : (a.eval v).cells.toList.length = cs.length := hcv.1.symm;have hlen1 : (a.eval v).cells.size = ti.size := by simp at hvl; omega
     generalize hcl : (a.eval v).cells.toList = cells at hcv hvl;generalize hpl : idx * sz + off = q at hc2 hv ⊢;have hsplC : All2 (COk w pl own) (aM (cX ov 0 es.flatten) q cs) (aM xs q cells) := gQ hview hcv q;have hslen : (aM (cX ov 0 es.flatten) q cs).length = es.length * sz := by
      unfold aM;simp only [la,lt1,List.length_drop,gF,hfl];omega
     rcases hxs.2 with ⟨_,h0⟩ | ⟨g,cap,cur,hvv,hB,hg,hn,hcap,hsz,htk⟩
     ·omega
     ·injection hvv with hA1 hA2 hA3
      rw [hA] at hA1;simp only [oIQ,Addr.mk.injEq,and_true] at hA1;subst hA1;have hcl2 : es.length * sz <= cur.size := by rw [hsz]; exact Nat.mul_le_mul_right _ hn
      have hsp : (aM cur.toList q cells).take (es.length * sz) = aM xs q cells := by
       have e1 : (cur.toList.take q).length = q := by rw [lt1,Array.length_toList]; omega
       have e2 : (cur.toList.take q ++ cells).length = q + cells.length := by rw [la,e1]
       have e3 : (cur.toList.take q ++ cells).take (es.length * sz) = cur.toList.take q ++ cells := tlQ (by rw [e2]; omega);have e4 : xs.take q = cur.toList.take q := by rw [<- htk,List.take_take,Nat.min_eq_left (by omega)]
       have e5 : xs.drop (q + cells.length) = (cur.toList.drop (q + cells.length)).take (es.length * sz - (q + cells.length)) := by rw [<- htk,List.drop_take]
       unfold aM;rw [List.take_append,e3,e2,e4,e5]
      have hsl : (aM cur.toList q cells).length = cur.size := by
       unfold aM;simp only [la,lt1,List.length_drop,Array.length_toList];omega
      have hrun : (execOp a.eval o).run P w = .ok .skip (w.setRow b (aM cur.toList q cells).toArray) := by
       unfold execOp;simp only [hop,hv];have := run_storeCells_at (P := P) b q el cells 0 cur w hg (by simp; omega) (iX hcv);simp only [Nat.add_zero] at this ⊢;simp only [Instr.storeAt,Instr.sureAddr,storeVar,sizeOf,typeInfo];simp [hti,hlen1,hcl,this,aM]
      have hgr : w.grownBy (w.setRow b (aM cur.toList q cells).toArray) ((pl.sl i).1.map (·.block)) := by
       refine ⟨rfl,rfl,rfl,by simp [World.setRow],fun q hq hne => dJ _ _ _ (fun he => hne ?_)⟩;rw [hA,he]; rfl
      intro K Q hK;obtain ⟨hch1,hch2,hch3⟩ := chunks_flatten sz es.length (fF (aM (cX ov 0 es.flatten) q cs)) (by rw [gJ]; exact hslen);have hmk2 : mkd (f6 0 (aM (cX ov 0 es.flatten) q cs)) = false := j4 _ 0 (by rw [hslen]; omega);obtain ⟨pl',m',L,hA'⟩ := m.turnArrO (k' := k') (e' := ⟨el,f6 0 (aM (cX ov 0 es.flatten) q cs)⟩) (es' := chunks sz es.length (fF (aM (cX ov 0 es.flatten) q cs))) (A := some ⟨b,0,none⟩) (cap := cap) (xs := aM xs q cells) hi hgr
       (by
        rw [show mkd (AT.mk el (f6 0 (aM (cX ov 0 es.flatten) q cs))).ov = false from hmk2,hch2];exact ⟨by rw [<- hsp]; simp only [lt1,hsl]; omega,.inr ⟨b,cap,(aM cur.toList q cells).toArray,rfl,hB,setRow_heap w _ cur _ el (0,0) hg,hn,hcap,by simp [hsl,hsz],hsp⟩⟩)
       (.inl (by rw [hA])) (by rw [hch1]; exact rJ hsplC) hch3 (.inr ⟨rfl,hch2,by rw [<- hA3,<- hA]⟩)
      unfold Oper.wp;rw [hrun,Oper.upon_skip];exact hK undef _ pl' m' L (.inl hd)
  ·cases h
 ·cases h
def bslG (P : Program) (lk : Lk) (ob : Own) (T : TypeId) (len : Nat) (parts : Array (Nat × Operand)) (nid : Nat) : Option Eff :=
 match ob nid,j0 lk parts.toList,P.underlying T with
 | none,some ps,some (.slice e) => match P.info? e with
  | some i => match i.zero with
   | some z => bif Nat.ble (len * i.size) 16777216 && (Nat.ble 1 i.size && Nat.beq z.cells.size i.size) then
     (match eF ((Array.range (len * i.size)).map ((if len * i.size = 0 then #[] else z.cells)[· % (if len * i.size = 0 then #[] else z.cells).size]!)).toList with
     | some zc => match nY (fun k => some (k * i.size,i.size)) zc ps with
      | some cs => bif aAY cs then none else bif Nat.beq cs.length (len * i.size) then some ⟨.c (.ar nid 0),[(nid,aIE 0 e i.size len cs)],[nid],[]⟩ else none
      | none => none
     | none => none) else none
   | none => none
  | none => none
 | _,_,_ => none
theorem bslG_ok (m : Mem fr own w pl) (hl : bA a w pl own p lk) (hp : Eng.Holds a p) {T : TypeId} {len : Nat} {parts : Array (Nat × Operand)} (hop : o.op = .buildSlice T len parts) {ob : Own} {nid : Nat} {e : Eff} (h : bslG P lk ob T len parts nid = some e) (hob : ∀ i ∈ e.touch,own i = ob i) : Does P fr own a w pl o e := by
 unfold bslG at h;split at h;rename_i ps el hnone hps hu;have hparts := iI hl hp hps;split at h;rename_i i hi;split at h;rename_i z hz;cases hc : (Nat.ble (len * i.size) 16777216 && (Nat.ble 1 i.size && Nat.beq z.cells.size i.size)) with
 | false => rw [hc] at h; cases h
 | true =>
  rw [hc] at h;simp only [cond_true] at h;simp only [bIQ,wX,Nat.ble_eq] at hc;obtain ⟨hc1,hc2,hc3⟩ := hc;split at h;rename_i zc hzc;split at h;rename_i cs hf;cases hall : aAY cs with
  | true => rw [hall] at h; cases h
  | false =>
   rw [hall] at h;simp only [cond_false] at h;cases hcl : Nat.beq cs.length (len * i.size) with
   | false => rw [hcl] at h; cases h
   | true =>
    rw [hcl] at h;simp only [cond_true,oIQ] at h;have hcl := Nat.eq_of_beq_eq_true hcl;subst h;obtain ⟨cells',h1,h2⟩ := gY hf (c8 hzc) hparts;obtain ⟨hfl,hln,hsz⟩ := chunks_flatten i.size len (fF cs) (by rw [gJ]; exact hcl);have hcs : cells'.size = len * i.size := by have := h2.1; simp at this; omega
    have hlen : len <= maxLen := by
     have : len <= len * i.size := Nat.le_mul_of_pos_right len hc2;unfold maxLen; omega
    have hg : w.grownBy (w.alloc (.cells cells' el)) none := ⟨rfl,rfl,rfl,by simp,fun k hk _ => Below.heap_alloc _ _ _ hk⟩
    have hr : (execOp a.eval o).run P w = .ok (.value (.slice (some ⟨w.heap.size,0,none⟩) len len)) (w.alloc (.cells cells' el)) := by
     unfold execOp;simp only [hop,Instr.buildSlice];have hsz2 : ¬ len * i.size > 2 ^ 24 := by omega
     by_cases h0 : len * i.size = 0;simp only [h0,if_true] at h1 hsz2 ⊢;simp at h1;simp [run_underlying hu,sizeOf,typeInfo,hi,h0,h1,newRow,newObj];rfl;simp only [h0,if_false] at h1;simp [run_underlying hu,sizeOf,typeInfo,hi,h0,h1,newRow,newObj,zeroValue,hz,hsz2];rfl
    intro K Q hK;have hmk : mkd (f6 0 cs) = false := j4 _ 0 (by omega);obtain ⟨pl',m',L,hA⟩ := m.newArr (i := nid) (e := ⟨el,f6 0 cs⟩) (sz := i.size) (es := chunks i.size len (fF cs)) (xs := cells'.toList) (A := some ⟨w.heap.size,0,none⟩) (cap := len) (by rw [hob nid (by simp),hnone]) hg
     (by
      rw [show mkd (AT.mk el (f6 0 cs)).ov = false from hmk];exact ⟨by rw [hln]; simp [hcs],.inr ⟨w.heap.size,len,cells',by rw [hln],zl _,heap_alloc_new w _,by omega,hlen,hcs,by rw [hln,tlQ (by simp [hcs])]⟩⟩)
     (fun ad h => by injection h with h; rw [<- h]; exact lr _) (by rw [hfl]; exact rJ h2) hsz
    unfold Oper.wp;rw [hr,Oper.upon_value];exact hK _ _ pl' m' L (.inr ⟨0,_,i.size,_,upd_same _ _ _,lr _,fun _ => by rw [hA,hln],rfl⟩)
  cases h;cases h
 iterate 3 cases h
def aM2 (lk : Lk) (ob : Own) (x : Operand) : Option (Nat × Nat × List C × List Nat) :=
 match lk [] x with
 | some (.c (.d (.sl sz es))) => some (sz,es.length,es.flatten.map .d,[])
 | some (.c (.ar i k)) => match ob i with
  | some (.arr k' ⟨_,ov⟩ sz es) => bif Nat.beq k' k && !(mkd ov) then some (sz,es.length,cX ov 0 es.flatten,[i]) else none
  | _ => none
 | _ => none
theorem aB0 (m : Mem fr own w pl) (hl : bA a w pl own p lk) (hp : Eng.Holds a p) {ob : Own} {x : Operand} {sz n : Nat} {cs : List C} {t : List Nat} (h : aM2 lk ob x = some (sz,n,cs,t)) (hob : ∀ i ∈ t,own i = ob i) :
  ∃ A c xs,a.eval x = .slice A n c /\ All2 (COk w pl own) cs xs /\ cs.length = n * sz /\ ((n = 0 /\ c = 0) \/ ∃ b off,A = some ⟨b,off,none⟩ /\ ∀ (j : Nat) (u : Value),xs[j]? = some u -> w.cell? ⟨b,off + j,none⟩ = some u) := by
 unfold aM2 at h;split at h;rename_i sz' es hx;simp only [oIQ,pIQ] at h;obtain ⟨rfl,rfl,rfl,rfl⟩ := h;obtain ⟨A,c,xs,h1,h2,h3,h4,h5⟩ := sQ (ob := own) m hl hp (show aB1 lk own x = some (sz',es,[]) by unfold aB1; rw [hx]) (fun i hi => by cases hi);refine ⟨A,c,xs,h1,wZ (f := C.d) (S := COk w pl own) (fun x y h => h) h2,by rw [lm]; exact bT h3,h5.imp (fun h => ⟨by rw [h.1]; rfl,h.2⟩) id⟩;rename_i i k hx;split at h;rename_i k' el ov sz' es hi;cases hc : (Nat.beq k' k && !(mkd ov)) with
 | false => rw [hc] at h; cases h
 | true =>
  rw [hc] at h;simp only [cond_true,oIQ,pIQ] at h;obtain ⟨rfl,rfl,rfl,rfl⟩ := h;simp only [bIQ,wX,Bool.not_eq_true'] at hc;obtain ⟨rfl,hmk⟩ := hc;have hi' : own i = some (.arr k' ⟨el,ov⟩ sz' es) := by rw [hob i (by simp),hi]
  have hv := cU (w := w) (hl [] x _ hx holds_nil hp) hi';obtain ⟨xs,hxs,hview,hfl⟩ := uA (m.obj i _ hi');rw [show mkd (AT.mk el ov).ov = false from hmk] at hxs;refine ⟨_,_,xs,hv,hview,by rw [gF]; exact hfl,?_⟩;rcases hxs.2 with ⟨h0,h1⟩ | ⟨g,cap,cur,hvv,hB,hg,hn,hcap,hsz,htk⟩
  injection h0 with _ _ h2;exact .inl ⟨h1,h2⟩;injection hvv with hA1 hA2 hA3;refine .inr ⟨g,0,hA1,fun j u hj => ?_⟩;rw [cell_of_row w g _ cur el (0,0) hg];rw [<- htk,List.getElem?_take] at hj;split at hj;simpa using hj;cases hj
 cases h;cases h
def appG (P : Program) (lk : Lk) (ob : Own) (T : TypeId) (s x : Operand) (nid : Nat) : Option Eff :=
 match P.underlying T,aM2 lk ob x with
 | some (.slice e),some (szx,nx,news,tx) => match P.info? e with
  | some i => match i.zero with
   | some z => bif Nat.beq z.cells.size i.size && (Nat.ble 1 i.size && Nat.beq szx i.size) then
     (match lk [] s with
     | some (.c (.ar j k)) => match ob j with
      | some (.arr k' ⟨e',ov⟩ sz es) => bif aAY news && ov.isEmpty then none else
       bif Nat.beq k' k && (Nat.beq e' e && (Nat.beq sz i.size && (!(mkd ov) && Nat.ble ((es.length + nx) * (i.bytes + 1)) 140737488355328))) && Nat.ble ((es.length + nx) * i.size) 4611686018427387904 then
        some ⟨.c (.ar j (k + 1)),[(j,aIE (k + 1) e i.size (es.length + nx) (cX ov 0 es.flatten ++ news))],j :: tx,[]⟩ else none
      | _ => none
     | some (.c (.d (.v (.slice none 0 0)))) => match ob nid with
      | none => bif aAY news then none else bif Nat.ble (nx * (i.bytes + 1)) 140737488355328 && Nat.ble (nx * i.size) 4611686018427387904 then some ⟨.c (.ar nid 0),[(nid,aIE 0 e i.size nx news)],nid :: tx,[]⟩ else none
      | some _ => none
     | _ => none) else none
   | none => none
  | none => none
 | _,_ => none
theorem appG_ok (m : Mem fr own w pl) (hl : bA a w pl own p lk) (hp : Eng.Holds a p) {T : TypeId} {s x : Operand} (hop : o.op = .call { callee := .builtin .append,args := #[s,x],argTypes := #[T,T] }) {ob : Own} {nid : Nat} {e : Eff} (h : appG P lk ob T s x nid = some e) (hob : ∀ i ∈ e.touch,own i = ob i) : Does P fr own a w pl o e := by
 unfold appG at h;have hrun : ∀ {v w'},(Builtin.append_ #[T,T] o.type #[a.eval s,a.eval x]).run P w = .ok v w' -> (execOp a.eval o).run P w = .ok (.value v) w' := by
  intro v w' hr;unfold execOp;simp only [hop,resolve,invoke,builtin,Sem.run_bind,Sem.run_pure,an,List.map_toArray,mp1,List.map_nil,hr]
 split at h;rename_i el szx nx news tx hu hrx;split at h;rename_i i hi;split at h;rename_i z hz;cases hc : (Nat.beq z.cells.size i.size && (Nat.ble 1 i.size && Nat.beq szx i.size)) with
 | false => rw [hc] at h; cases h
 | true =>
  rw [hc] at h;simp only [cond_true] at h;simp only [bIQ,wX,Nat.ble_eq] at hc;obtain ⟨hc1,hc2,rfl⟩ := hc;split at h;rename_i j k hs;split at h;rename_i k' e' ov sz es hbx;cases hc0 : (aAY news && ov.isEmpty) with
  | true => rw [hc0] at h; cases h
  | false =>
   rw [hc0] at h;simp only [cond_false] at h;cases hk : (Nat.beq k' k && (Nat.beq e' el && (Nat.beq sz i.size && (!(mkd ov) && Nat.ble ((es.length + nx) * (i.bytes + 1)) 140737488355328))) && Nat.ble ((es.length + nx) * i.size) 4611686018427387904) with
   | false => rw [hk] at h; cases h
   | true =>
    rw [hk] at h;simp only [cond_true,oIQ] at h;simp only [bIQ,wX,Nat.ble_eq,Bool.not_eq_true'] at hk;obtain ⟨⟨rfl,rfl,rfl,hmk,hbig⟩,hbig2⟩ := hk;subst h;have hj : own j = some (.arr k' ⟨e',ov⟩ i.size es) := by rw [hob j (by simp),hbx]
    have hv := cU (w := w) (hl [] s _ hs holds_nil hp) hj;obtain ⟨A2,c2,xs2,hx2,hr2,hl2,hA2⟩ := aB0 m hl hp hrx (fun i hi => hob i (by simp [hi]));obtain ⟨xs,hxs,hview,hfl⟩ := uA (m.obj j _ hj);rw [show mkd (AT.mk e' ov).ov = false from hmk] at hxs;have hview : All2 (COk w pl own) (cX ov 0 es.flatten) xs := hview;have hl2' : xs2.length = nx * i.size := by rw [<- hr2.1,hl2]
    obtain ⟨A',c',w',h1,h2,h3,h4⟩ := fP (P := P) (w := w) 0 T o.type e' i z hu hi hz hc1 hc2 hxs hl2' (iX hr2) hA2 hbig (zl _);intro K Q hK;have hall := hview.append hr2;have hcl : (cX ov 0 es.flatten ++ news).length = (es.length + nx) * i.size := by rw [la,gF,hfl,hl2,Nat.add_mul]
    obtain ⟨hch1,hch2,hch3⟩ := chunks_flatten i.size (es.length + nx) (fF (cX ov 0 es.flatten ++ news)) (by rw [gJ]; exact hcl);have hmk2 : mkd (f6 0 (cX ov 0 es.flatten ++ news)) = false := j4 _ 0 (by omega);obtain ⟨pl',m',L,hA⟩ := m.turnArrO (k' := k' + 1) (e' := ⟨e',f6 0 (cX ov 0 es.flatten ++ news)⟩) (es' := chunks i.size (es.length + nx) (fF (cX ov 0 es.flatten ++ news))) (A := A') (cap := c') (xs := xs ++ xs2) hj h3 (by
      rw [show mkd (AT.mk e' (f6 0 (cX ov 0 es.flatten ++ news))).ov = false from hmk2,hch2]; exact h2)
     (h4.imp id (fun h ad had => by rw [had] at h; simp only [Option.map_some,oIQ] at h; omega))
     (by rw [hch1]; exact rJ hall) hch3 (.inl (by omega))
    have := hrun (v := .slice A' (es.length + nx) c') (w' := w') (by rw [hv,hx2]; exact h1);unfold Oper.wp;rw [this,Oper.upon_value];exact hK _ _ pl' m' L (.inr ⟨k' + 1,_,i.size,_,upd_same _ _ _,lr _,fun _ => by rw [hA,hch2],rfl⟩)
  cases h;rename_i hs;split at h;rename_i hnone;cases hc0 : aAY news with
  | true => rw [hc0] at h; cases h
  | false =>
   rw [hc0] at h;simp only [cond_false] at h;cases hk : (Nat.ble (nx * (i.bytes + 1)) 140737488355328 && Nat.ble (nx * i.size) 4611686018427387904) with
   | false => rw [hk] at h; cases h
   | true =>
    rw [hk] at h;simp only [cond_true,oIQ] at h;simp only [bIQ,Nat.ble_eq] at hk;obtain ⟨hbig,hbig2⟩ := hk;subst h;have hv : a.eval s = .slice none 0 0 := Rd.exact (hl [] s _ hs holds_nil hp);obtain ⟨A2,c2,xs2,hx2,hr2,hl2,hA2⟩ := aB0 m hl hp hrx (fun i hi => hob i (by simp [hi]));have hl2' : xs2.length = nx * i.size := by rw [<- hr2.1,hl2]
    obtain ⟨A',c',w',h1,h2,h3,h4⟩ := fP (P := P) (w := w) 0 T o.type el i z hu hi hz hc1 hc2 (World.ownsRow_nil w _ _ _) hl2' (iX hr2) hA2 (by rw [Nat.zero_add]; exact hbig) (zl _);rw [Nat.zero_add] at h1 h2;intro K Q hK;obtain ⟨hch1,hch2,hch3⟩ := chunks_flatten i.size nx (fF news) (by rw [gJ]; exact hl2);have hmk2 : mkd (f6 0 news) = false := j4 _ 0 (by omega);obtain ⟨pl',m',L,hA⟩ := m.newArr (i := nid) (e := ⟨el,f6 0 news⟩) (sz := i.size) (es := chunks i.size nx (fF news)) (xs := xs2) (A := A') (cap := c') (by rw [hob nid (by simp),hnone]) h3 (by
      rw [show mkd (AT.mk el (f6 0 news)).ov = false from hmk2,hch2]; simp only [List.nil_append] at h2; exact h2)
     (fun ad had => by
      rw [had] at h4;rcases h4 with h | h;simp at h;simp only [Option.map_some,oIQ] at h; omega) (by rw [hch1]; exact rJ hr2) hch3
    have := hrun (v := .slice A' nx c') (w' := w') (by rw [hv,hx2]; exact h1);unfold Oper.wp;rw [this,Oper.upon_value];exact hK _ _ pl' m' L (.inr ⟨0,_,i.size,_,upd_same _ _ _,lr _,fun _ => by rw [hA,hch2],rfl⟩)
  cases h;cases h
 iterate 3 cases h
end
end Go.V
namespace Go.V
open Go.RowKit
section
variable {P : Program} {fr : Fr} {own : Own} {a : Act} {w w' : World} {pl : Pl} {o : Oper} {p : Path} {lk : Lk}
def opW (P : Program) (lk : Lk) (ob : Own) (o : Oper) (nid : Nat) : Option Eff := match o.op with
 | .load t x => aN4 P lk ob t x
 | .store ty x v => match o.dst with
  | none => aDU P lk ob ty x v
  | some _ => none
 | .buildSlice T len parts => bslG P lk ob T len parts nid
 | .call { callee := .builtin .append,args := ⟨[s,x]⟩,argTypes := ⟨[T,T']⟩ } => bif Nat.beq T T' then appG P lk ob T s x nid else none
 | _ => none
theorem opW_ok (m : Mem fr own w pl) (hl : bA a w pl own p lk) (hp : Eng.Holds a p) {ob : Own} {nid : Nat} {e : Eff} (h : opW P lk ob o nid = some e) (hob : ∀ i ∈ e.touch,own i = ob i) : Does P fr own a w pl o e := by
 unfold opW at h;split at h;rename_i hop; exact aN3 m hl hp hop h hob;rename_i hop;split at h;rename_i hd; exact aIU m hl hp hop hd h hob;cases h;rename_i hop; exact bslG_ok m hl hp hop h hob;rename_i s x T T' hop;cases hT : Nat.beq T T' with
 | false => rw [hT] at h; cases h
 | true =>
  rw [hT] at h;have := Nat.eq_of_beq_eq_true hT;subst this;exact appG_ok m hl hp hop h hob
 cases h
end
end Go.V
namespace Go.V
open Go.RowKit
section
variable {P : Program} {fr : Fr} {own own' : Own} {a : Act} {w w' : World} {pl pl' : Pl} {o : Oper} {p : Path} {lk : Lk}
theorem Mem.freeze (h : Mem fr own w pl) {i k : Nat} {e : TypeId} {sz : Nat} {es : LD} (hi : own i = some (.arr k ⟨e,[]⟩ sz es)) (h100 : 100 <= i) :
  ∃ pl',Mem fr (upd own i (.arr (k + 1) ⟨e,[]⟩ sz [])) w pl' /\ Later w pl own w pl' (upd own i (.arr (k + 1) ⟨e,[]⟩ sz [])) /\
   Rd w (Sh pl' (upd own i (.arr (k + 1) ⟨e,[]⟩ sz []))) (.sl sz es) (.slice (pl.sl i).1 es.length (pl.sl i).2) := by
 obtain ⟨xs,hxs,hr,hs⟩ := h.obj i _ hi;have hr : All2 (Rd w (Sh pl own)) es.flatten xs := hr;have hb0 : aN pl own i = (pl.sl i).1.map (·.block) := by unfold aN; rw [hi]
 have := Mem.set (own' := upd own i (.arr (k + 1) ⟨e,[]⟩ sz [])) (pl' := ⟨pl.S,pl.blk,qP pl.sl i (none,0)⟩) (w' := w) h i (.arr (k + 1) ⟨e,[]⟩ sz []) rfl rfl (fun j hj => ⟨rfl,kT _ _ hj⟩) (fun _ _ _ => rfl)
  (fun _ _ => ⟨[],by simp only [cC]; exact ⟨by simp,.inl ⟨rfl,rfl⟩⟩,AllO.of All2.nil,by simp⟩)
  (fun b hb => by simp [aN,upd_same,cC] at hb)
  (fun ty cs h => by rw [hi] at h; cases h)
  (fun k2 e2 sz2 es2 h => by
   rw [hi] at h;injection h with h;injection h with h1 h2 h3 h4;subst h1;exact ⟨k + 1,_,_,_,rfl,by omega,fun hk => by omega⟩) rfl rfl rfl (lr _) (fun _ _ _ he => by cases he)
 obtain ⟨m',L⟩ := this;refine ⟨_,m',L,?_⟩;rcases hxs.2 with ⟨hA,h0⟩ | ⟨g,cap,cur,hA,hB,hg,hn,hc,hsz,htk⟩
 ·injection hA with h1 h2 h3
  have : es = [] := List.eq_nil_of_length_eq_zero h0;subst this;rw [h1,h3];exact .nil sz
 ·injection hA with h1 h2 h3
  rw [h1,h3];have hbg : aN pl own i = some g := by rw [hb0,h1]; rfl
  have hSg : pl.S g := (h.hS g).2 (.inr (by
   rcases h.base i g hbg with hh | hh
   ·exact hh
   ·have := h.frOk.few i g hh; omega))
  have hget : ∀ (i j : Nat) (ds : List D) (d : D),es[i]? = some ds -> ds[j]? = some d -> ∃ x,xs[i * sz + j]? = some x /\ Rd w (Sh pl own) d x := fun i j ds d hi hj => hr.get (c6 hs hi hj);have hus : ∀ {q : Nat} {x : Value},xs[q]? = some x -> xs.getD q undef = x := fun hx => by rw [gd,hx]; rfl
  refine Rd.sl (off := 0) (fun i j => xs.getD (i * sz + j) undef) ⟨hSg,fun j hj => ?_⟩ hg hn (by omega) hs (fun i' j ds d hi' hj => ?_) (fun i' j ds d hi' hj => ?_)
  ·by_cases hji : j = i
   ·subst hji
    simp [aN,upd_same,cC] at hj
   ·rw [fW (own' := upd own i (.arr (k + 1) ⟨e,[]⟩ sz [])) (own := own) (pl' := ⟨pl.S,pl.blk,qP pl.sl i (none,0)⟩) (pl := pl) (upd_ne _ _ hji) rfl (kT _ _ hji)] at hj
    exact hji (h.inj j i g hj hbg)
  ·obtain ⟨x,hx,_⟩ := hget i' j ds d hi' hj
   rw [hus hx];rw [<- htk,List.getElem?_take] at hx;split at hx
   ·simpa using hx
   ·cases hx
  ·obtain ⟨x,hx,hrx⟩ := hget i' j ds d hi' hj
   rw [hus hx];exact L.rd hrx
def frC (i k sz : Nat) (es : LD) : C -> C
 | .ar j k' => bif Nat.beq j i && Nat.beq k' k then .d (.sl sz es) else .ar j k'
 | c => c
def lkF (lk : Lk) (i k sz : Nat) (es : LD) : Lk := fun q x => match lk q x with
 | some (.c c) => some (.c (frC i k sz es c))
 | some (.agg xs) => some (.agg (xs.map (frC i k sz es)))
 | r => r
def aFX (lk : Lk) (own : Tr Ob) (i : Nat) : Option (Lk × Tr Ob × (Nat × Ob)) := match own.get i with
 | some (.arr k ⟨e,[]⟩ sz es) => bif Nat.ble 100 i then (match yG own [(i,.arr (k + 1) ⟨e,[]⟩ sz [])] with
  | some own' => some (lkF lk i k sz es,own',(i,.arr (k + 1) ⟨e,[]⟩ sz []))
  | none => none) else none
 | _ => none
def tE : List Nat -> Lk -> Tr Ob -> Option (Lk × Tr Ob × List (Nat × Ob))
 | [],lk,own => some (lk,own,[])
 | i :: r,lk,own => match aFX lk own i with
  | some (lk1,own1,u) => match tE r lk1 own1 with
   | some (lk2,own2,us) => some (lk2,own2,u :: us)
   | none => none
  | none => none
def aK6 : List C -> List Nat -> List Nat
 | [],a => a
 | .ar i _ :: r,a => bif (aK6 r a).contains i then aK6 r a else i :: aK6 r a
 | _ :: r,a => aK6 r a
def aID (lk : Lk) : List Operand -> List Nat
 | [] => []
 | x :: r => match lk [] x with
  | some (.c c) => aK6 [c] (aID lk r)
  | some (.agg xs) => aK6 xs (aID lk r)
  | _ => aID lk r
theorem All2.mapL {α β γ : Type} {R : α -> β -> Prop} {S : γ -> β -> Prop} {f : α -> γ} {xs : List α} {ys : List β} (h : All2 R xs ys) (hf : ∀ x y,R x y -> S (f x) y) : All2 S (xs.map f) ys := by
 refine ⟨by simp [h.1],fun j x y hx hy => ?_⟩;rw [List.getElem?_map] at hx;cases hj : xs[j]? with
 | none => rw [hj] at hx; cases hx
 | some z =>
  rw [hj] at hx;simp only [Option.map_some,oIQ] at hx;subst hx;exact hf _ _ (h.2 j z y hj hy)
theorem aKO {T T1 : Tr Ob} {i : Nat} {lk1 : Lk} {u : Nat × Ob} (h : aFX lk T i = some (lk1,T1,u)) : u.1 = i /\ T1.get = upd T.get i u.2 /\
  ∀ {fr : Fr} {own0 : Own} {a : Act} {w : World} {pl : Pl} {p : Path},own0 i = T.get i -> Mem fr own0 w pl -> bA a w pl own0 p lk -> ∃ pl',Mem fr (upd own0 i u.2) w pl' /\ Later w pl own0 w pl' (upd own0 i u.2) /\ bA a w pl' (upd own0 i u.2) p lk1 := by
 unfold aFX at h;split at h;rename_i k e sz es hi;cases h100 : Nat.ble 100 i with
 | false => rw [h100] at h; cases h
 | true =>
  rw [h100] at h;simp only [cond_true] at h;split at h;rename_i T' hs;simp only [oIQ,pIQ] at h;obtain ⟨rfl,rfl,rfl⟩ := h;refine ⟨rfl,iG hs,fun {fr own0 a w pl p} h0 m hl => ?_⟩;obtain ⟨pl',m',L,hr⟩ := m.freeze (i := i) (by rw [h0]; exact hi) (Nat.le_of_ble_eq_true h100);refine ⟨pl',m',L,fun q x sv hx hq hp => ?_⟩;have key : ∀ {c : C} {v : Value},COk w pl own0 c v -> COk w pl' (upd own0 i (.arr (k + 1) ⟨e,[]⟩ sz [])) (frC i k sz es c) v := by
   intro c v hv;cases c with
   | ar j k' =>
    simp only [frC];cases hb : (Nat.beq j i && Nat.beq k' k) with
    | false => exact L.c hv
    | true =>
     simp only [bIQ] at hb;have e1 := Nat.eq_of_beq_eq_true hb.1;have e2 := Nat.eq_of_beq_eq_true hb.2;subst e1; subst e2;rw [cU (w := w) hv (by rw [h0]; exact hi)];exact hr
   | _ => exact L.c hv
  unfold lkF at hx;split at hx;rename_i c hj;simp only [oIQ] at hx;subst hx;exact key (hl q x _ hj hq hp);rename_i xs hj;simp only [oIQ] at hx;subst hx;obtain ⟨vs,hv,h2⟩ := hl q x _ hj hq hp;exact ⟨vs,hv,h2.mapL fun _ _ h => key h⟩;exact L.sv (hl q x _ hx hq hp);cases h
 cases h
theorem wH : ∀ {l : List Nat} {lk lk1 : Lk} {T T1 : Tr Ob} {us : List (Nat × Ob)},tE l lk T = some (lk1,T1,us) -> keys us = l /\ T1.get = bB T.get us /\
  ∀ {fr : Fr} {own0 : Own} {a : Act} {w : World} {pl : Pl} {p : Path},(∀ i ∈ l,own0 i = T.get i) -> Mem fr own0 w pl -> bA a w pl own0 p lk -> ∃ pl',Mem fr (bB own0 us) w pl' /\ Later w pl own0 w pl' (bB own0 us) /\ bA a w pl' (bB own0 us) p lk1
 | [],lk,lk1,T,T1,us,h => by
  simp only [tE,oIQ,pIQ] at h;obtain ⟨rfl,rfl,rfl⟩ := h;exact ⟨rfl,rfl,fun {fr own0 a w pl p} _ m hl => ⟨pl,m,Later.refl _ _ _,hl⟩⟩
 | i :: r,lk,lk1,T,T1,us,h => by
  simp only [tE] at h;split at h;rename_i lkA TA u h1;split at h;rename_i lkB TB us' h2;simp only [oIQ,pIQ] at h;obtain ⟨rfl,rfl,rfl⟩ := h;obtain ⟨a1,a2,a3⟩ := aKO h1;obtain ⟨b1,b2,b3⟩ := wH h2;obtain ⟨ui,uo⟩ := u;simp only at a1;subst a1;refine ⟨by simp only [keys,mp1]; rw [<- b1]; rfl,by rw [b2,a2]; rfl,fun {fr own0 a w pl p} h0 m hl => ?_⟩;obtain ⟨pl1,m1,L1,hl1⟩ := a3 (h0 ui (by simp)) m hl;obtain ⟨pl2,m2,L2,hl2⟩ := b3 (fun j hj => by
   rw [a2];by_cases hji : j = ui;subst hji; rw [upd_same,upd_same];rw [upd_ne _ _ hji,upd_ne _ _ hji]; exact h0 j (by simp [hj])) m1 hl1
  exact ⟨pl2,m2,L1.trans L2,hl2⟩;cases h;cases h
def cutE (P : Program) (lk : Lk) (ob : Own) (t : TypeId) (x : Operand) (lo hi : Option Operand) : Option Eff :=
 match P.underlying t,lk [] x with
 | some (.slice e),some (.c (.ar i k)) => match ob i,P.info? e with
  | some (.arr k' e' sz es),some ti => bif Nat.beq k' k && Nat.beq ti.size sz then (match lo with
   | none => (match mK lk hi es.length with
    | some (_,h) => bif decide (0 <= h /\ h <= (es.length : Int)) && !mkd e'.ov then some ⟨.c (.ar i (k' + 1)),[(i,.arr (k' + 1) e' sz (es.take h.toNat))],[i],[]⟩ else none
    | none => none)
   | some l0 => (match mK lk (some l0) 0,mK lk hi es.length with
    | some (_,l),some (_,h) => bif decide (0 <= l /\ l <= h /\ h <= (es.length : Int)) && !mkd e'.ov then some ⟨.c (.av i k' l.toNat (h.toNat - l.toNat)),[],[i],[]⟩ else none
    | _,_ => none)) else none
  | _,_ => none
 | some (.slice e),some (.c (.d (.v (.slice none 0 0)))) => match mK lk lo 0,mK lk hi ((0 : Nat) : Int),P.info? e with
  | some (_,l),some (_,h),some ti => bif decide (l = 0 /\ h = 0) then some ⟨.c (.d (.v (.slice none 0 0))),[],[],[]⟩ else none
  | _,_,_ => none
 | _,_ => none
theorem cutE_ok (m : Mem fr own w pl) (hl : bA a w pl own p lk) (hp : Eng.Holds a p) {t : TypeId} {x : Operand} {lo hi : Option Operand} (hop : o.op = .slice t x lo hi none) {ob : Own} {e : Eff} (h : cutE P lk ob t x lo hi = some e) (hob : ∀ i ∈ e.touch,own i = ob i) : Does P fr own a w pl o e := by
 unfold cutE at h;split at h;rename_i el i k hu hx;split at h;rename_i k' e' sz es ti hi' hti;cases hc : (Nat.beq k' k && Nat.beq ti.size sz) with
 | false => rw [hc] at h; cases h
 | true =>
  rw [hc] at h;simp only [cond_true] at h;simp only [bIQ] at hc;have e1 := Nat.eq_of_beq_eq_true hc.1;have e2 := Nat.eq_of_beq_eq_true hc.2;subst e1;split at h;split at h;rename_i v2 hh hb2;cases hd : (decide (0 <= hh /\ hh <= (es.length : Int)) && !mkd e'.ov) with
  | false => rw [hd] at h; cases h
  | true =>
   rw [hd] at h;simp only [cond_true,oIQ] at h;subst h;simp only [bIQ,decide_eq_true_eq,Bool.not_eq_true'] at hd;obtain ⟨hd,hmk⟩ := hd;have ho : own i = some (.arr k' e' sz es) := by rw [hob i (by simp)]; exact hi'
   have hv := cU (w := w) (hl [] x _ hx holds_nil hp) ho;obtain ⟨xs,hxs,hr,hs⟩ := m.obj i _ ho;rw [hmk] at hxs;have hcap : es.length <= (pl.sl i).2 := by
    rcases hxs.2 with ⟨hA,h0⟩ | ⟨g,cap,cur,hA,hB,hg,hn,_⟩
    omega;injection hA with _ _ h3; omega
   have hlen : (es.take hh.toNat).length = hh.toNat := by rw [lt1]; omega
   obtain ⟨pl',m',L,hsl⟩ := m.turnArrO (k' := k' + 1) (e' := e') (es' := es.take hh.toNat) (A := (pl.sl i).1) (cap := (pl.sl i).2) ho (w' := w) (World.grownBy.refl _ _) (by rw [hmk,hlen]; exact hxs.take (by omega)) (.inl rfl)
    ⟨by rw [d4 hs,lt1,lt1,hr.1],fun j d y hd' hy => by
     rw [d4 hs,List.getElem?_take] at hd';rw [List.getElem?_take] at hy;split at hd';rename_i hj; rw [if_pos hj] at hy; exact hr.2 j d y hd' hy;cases hd'⟩ (fun ds hd' => hs ds (List.mem_of_mem_take hd')) (.inl (by omega))
   have hrun := q0 (lo := none) (hi := hi) hop hu hti hv hl hp rfl hb2 ⟨by omega,by omega,by omega⟩;refine wS (pl' := pl') m' L hrun ⟨k' + 1,e',sz,_,upd_same _ _ _,lr _,fun _ => ?_,rfl⟩;rw [hsl,hlen];simp only [Int.toNat_zero,Nat.zero_mul,Nat.sub_zero];split;rfl;cases (pl.sl i).1 <;> simp [Addr.add]
  cases h;rename_i l0;split at h;rename_i v1 l v2 hh hb1 hb2;cases hd : (decide (0 <= l /\ l <= hh /\ hh <= (es.length : Int)) && !mkd e'.ov) with
  | false => rw [hd] at h; cases h
  | true =>
   rw [hd] at h;simp only [cond_true,oIQ] at h;subst h;simp only [bIQ,decide_eq_true_eq,Bool.not_eq_true'] at hd;obtain ⟨hd,hmk⟩ := hd;have ho : own i = some (.arr k' e' sz es) := by rw [hob i (by simp)]; exact hi'
   have hv := cU (w := w) (hl [] x _ hx holds_nil hp) ho;obtain ⟨xs,hxs,hr,hs⟩ := m.obj i _ ho;rw [hmk] at hxs;have hcap : es.length <= (pl.sl i).2 := by
    rcases hxs.2 with ⟨hA,h0⟩ | ⟨g,cap,cur,hA,hB,hg,hn,_⟩
    omega;injection hA with _ _ h3; omega
   have hrun := q0 (lo := some l0) (hi := hi) hop hu hti hv hl hp hb1 hb2 ⟨by omega,by omega,by omega⟩;refine aG m hrun ⟨k',e',sz,es,ho,lr _,fun _ => ⟨by omega,?_⟩,rfl⟩;rw [e2]
  cases h
 cases h;rename_i el hu hx;split at h;rename_i v1 l v2 hh ti hb1 hb2 hti;cases hd : (decide (l = 0 /\ hh = 0)) with
 | false => rw [hd] at h; cases h
 | true =>
  rw [hd] at h;simp only [cond_true,oIQ] at h;subst h;simp only [decide_eq_true_eq] at hd;obtain ⟨rfl,rfl⟩ := hd;have hv : a.eval x = .slice none 0 0 := Rd.exact (hl [] x _ hx holds_nil hp);have hrun := q0 hop hu hti hv hl hp hb1 hb2 ⟨by omega,by omega,by omega⟩;refine aG m hrun ?_;exact Rd.v _ rfl
 cases h;cases h
def vU (ob : Own) : SV -> Option (Bool × List Nat)
 | .c (.d (.sl _ (_ :: _))) => some (true,[])
 | .c (.ar i k) => match ob i with
  | some (.arr k' _ _ (_ :: _)) => bif Nat.beq k' k then some (true,[i]) else none
  | _ => none
 | .c (.av i k _ _) => match ob i with
  | some (.arr k' _ _ (_ :: _)) => bif Nat.beq k' k then some (true,[i]) else none
  | _ => none
 | .c (.fn _ _ _) => some (false,[])
 | _ => none
def isSl (P : Program) (t : TypeId) : Bool := match P.underlying t with
 | some (.slice _) => true
 | _ => false
def isFn (P : Program) (t : TypeId) : Bool := match P.underlying t with
 | some (.func _ _ _) => true
 | _ => false
def nilZ (P : Program) (lk : Lk) (ob : Own) (op : BinOp) (t : TypeId) (x y : Operand) : Option Eff :=
 match lk [] x,lk [] y with
 | some sv,some (.c (.d (.v (.slice none 0 0)))) => match vU ob sv with
  | some (true,tc) => bif isSl P t then (match op with
   | .eql => some ⟨.c (.d (.v (.bool false))),[],tc,[]⟩
   | .neq => some ⟨.c (.d (.v (.bool true))),[],tc,[]⟩
   | _ => none) else none
  | _ => none
 | some sv,some (.c (.d (.v .nilFunc))) => match vU ob sv with
  | some (false,tc) => bif isFn P t then (match op with
   | .eql => some ⟨.c (.d (.v (.bool false))),[],tc,[]⟩
   | .neq => some ⟨.c (.d (.v (.bool true))),[],tc,[]⟩
   | _ => none) else none
  | _ => none
 | _,_ => none
theorem rZ {t e : TypeId} {ad : Addr} {n c : Nat} (h : P.underlying t = some (.slice e)) : (Op.equal t (.slice (some ad) n c) (.slice none 0 0)).run P w = .ok false w := by
 have h : ∀ d : Nat,(Op.equalIn (d + 1) t (.slice (some ad) n c) (.slice none 0 0)).run P w = .ok false w := fun d => by
  simp [Op.equalIn,run_underlying h]
 simp [Op.equal,Op.maxDepth,h 9999]
theorem r8 {t : TypeId} {x y z} {g l m} (h : P.underlying t = some (.func x y z)) : (Op.equal t (.func g l m) .nilFunc).run P w = .ok false w := by
 have h : ∀ d : Nat,(Op.equalIn (d + 1) t (.func g l m) .nilFunc).run P w = .ok false w := fun d => by
  simp [Op.equalIn,run_underlying h]
 simp [Op.equal,Op.maxDepth,h 9999]
theorem aCB (m : Mem fr own w pl) {ob : Own} {sv : SV} {tc : List Nat} (h : vU ob sv = some (true,tc)) (hob : ∀ i ∈ tc,own i = ob i) {v : Value} (hv : bD w pl own sv v) : ∃ ad n c,v = .slice (some ad) n c := by
 have hne : ∀ {i k : Nat} {e : AT} {sz : Nat} {d : List D} {r : LD},own i = some (.arr k e sz (d :: r)) -> ∃ g,(pl.sl i).1 = some g := fun {i k e sz d r} ho => by
  rcases uD (m.obj i _ ho) with ⟨h0,_⟩ | ⟨b,hb⟩
  cases h0;exact ⟨_,hb⟩
 unfold vU at h;split at h;simp only [oIQ,pIQ] at h;obtain ⟨_,rfl⟩ := h;have hv : Rd _ _ _ _ := hv;cases hv with
 | sl us hF hb hc hm hs hu hr => exact ⟨_,_,_,rfl⟩
 rename_i i k;split at h;rename_i k' e' sz d r hi;cases hk : Nat.beq k' k with
 | false => rw [hk] at h; cases h
 | true =>
  rw [hk] at h;simp only [cond_true,oIQ,pIQ] at h;obtain ⟨_,rfl⟩ := h;have e1 := Nat.eq_of_beq_eq_true hk;subst e1;have ho : own i = some (.arr k' e' sz (d :: r)) := by rw [hob i (by simp)]; exact hi
  have := cU (w := w) hv ho;obtain ⟨g,hg⟩ := hne ho;rw [hg] at this;exact ⟨_,_,_,this⟩
 cases h;rename_i i k l n;split at h;rename_i k' e' sz d r hi;cases hk : Nat.beq k' k with
 | false => rw [hk] at h; cases h
 | true =>
  rw [hk] at h;simp only [cond_true,oIQ,pIQ] at h;obtain ⟨_,rfl⟩ := h;have e1 := Nat.eq_of_beq_eq_true hk;subst e1;have ho : own i = some (.arr k' e' sz (d :: r)) := by rw [hob i (by simp)]; exact hi
  have := (aAX (w := w) hv ho).2;obtain ⟨g,hg⟩ := hne ho;rw [hg] at this;split at this;exact ⟨_,_,_,this⟩;exact ⟨_,_,_,this⟩
 cases h;simp at h;cases h
theorem aCC {ob : Own} {sv : SV} {tc : List Nat} (h : vU ob sv = some (false,tc)) {v : Value} (hv : bD w pl own sv v) : ∃ g l m,v = .func g l m := by
 unfold vU at h;split at h;simp at h;split at h;rename_i k' _ _ _ _ _;cases hk : Nat.beq k' _ with
 | false => rw [hk] at h; cases h
 | true => rw [hk] at h; simp at h
 cases h;split at h;rename_i k' _ _ _ _ _;cases hk : Nat.beq k' _ with
 | false => rw [hk] at h; cases h
 | true => rw [hk] at h; simp at h
 cases h;exact ⟨_,_,_,hv.2⟩;cases h
theorem nilZ_ok (m : Mem fr own w pl) (hl : bA a w pl own p lk) (hp : Eng.Holds a p) {op : BinOp} {t : TypeId} {x y : Operand} {ty : TypeId} (hop : o.op = .binOp op t x y ty) {ob : Own} {e : Eff} (h : nilZ P lk ob op t x y = some e) (hob : ∀ i ∈ e.touch,own i = ob i) : Does P fr own a w pl o e := by
 unfold nilZ at h;split at h;rename_i sv hx hy;have hvy : a.eval y = .slice none 0 0 := Rd.exact (hl [] y _ hy holds_nil hp);split at h;rename_i tc hn;cases ht : isSl P t with
 | false => rw [ht] at h; cases h
 | true =>
  rw [ht] at h;simp only [cond_true] at h;unfold isSl at ht;split at ht;rename_i el hu;split at h;simp only [oIQ] at h;subst h;obtain ⟨ad,n,c,hvx⟩ := aCB m hn hob (hl [] x _ hx holds_nil hp);refine aG (v := .bool false) m ?_ (Rd.v _ rfl);unfold execOp;simp only [hop,hvx,hvy];simp [eqGuard,binOp,rZ hu];simp only [oIQ] at h;subst h;obtain ⟨ad,n,c,hvx⟩ := aCB m hn hob (hl [] x _ hx holds_nil hp);refine aG (v := .bool true) m ?_ (Rd.v _ rfl);unfold execOp;simp only [hop,hvx,hvy];simp [eqGuard,binOp,rZ hu];cases h;cases ht
 cases h;rename_i sv hx hy;have hvy : a.eval y = .nilFunc := Rd.exact (hl [] y _ hy holds_nil hp);split at h;rename_i tc hn;cases ht : isFn P t with
 | false => rw [ht] at h; cases h
 | true =>
  rw [ht] at h;simp only [cond_true] at h;unfold isFn at ht;split at ht;rename_i _ _ _ hu;split at h;simp only [oIQ] at h;subst h;obtain ⟨g,l,m',hvx⟩ := aCC hn (hl [] x _ hx holds_nil hp);refine aG (v := .bool false) m ?_ (Rd.v _ rfl);unfold execOp;simp only [hop,hvx,hvy];simp [eqGuard,binOp,r8 hu];simp only [oIQ] at h;subst h;obtain ⟨g,l,m',hvx⟩ := aCC hn (hl [] x _ hx holds_nil hp);refine aG (v := .bool true) m ?_ (Rd.v _ rfl);unfold execOp;simp only [hop,hvx,hvy];simp [eqGuard,binOp,r8 hu];cases h;cases ht
 cases h;cases h
def zerE (P : Program) (lk : Lk) (ob : Own) (T tn : TypeId) (s x : Operand) (nid : Nat) : Option Eff :=
 match P.underlying T,P.underlying tn,lk [] s,exO lk [] x with
 | some (.slice e),some (.int _),some (.c (.d (.v (.slice none 0 0)))),some (.int _ (.ofNat k)) => match P.info? e,ob nid with
  | some i,none => match i.zero with
   | some z => match z.cells with
    | ⟨[v]⟩ => bif Nat.blt 0 k && Nat.ble k 1000 && Nat.beq i.size 1 && Nat.ble i.bytes 1000 && v.oneCell' then some ⟨.c (.ar nid 0),[(nid,.arr 0 ⟨e,[]⟩ 1 (List.replicate k [.v v]))],[nid],[]⟩ else none
    | _ => none
   | none => none
  | _,_ => none
 | _,_,_,_ => none
theorem aIL (v : Value) (k : Nat) : (Builtin.zeroCells #[v] k).toList = List.replicate k v := by
 apply List.ext_getElem;simp [Builtin.zeroCells];intro j h1 h2;simp [Builtin.zeroCells,Nat.mod_one]
theorem aCX (v : D) : ∀ k : Nat,(List.replicate k [v]).flatten = List.replicate k v
 | 0 => rfl
 | k + 1 => by simp only [List.replicate_succ,List.flatten_cons,aCX v k]; rfl
theorem zerE_ok (m : Mem fr own w pl) (hl : bA a w pl own p lk) (hp : Eng.Holds a p) {T tn : TypeId} {s x : Operand} (hop : o.op = .call { callee := .builtin .append,args := #[s,x],argTypes := #[T,tn] }) {ob : Own} {nid : Nat} {e : Eff} (h : zerE P lk ob T tn s x nid = some e) (hob : ∀ i ∈ e.touch,own i = ob i) : Does P fr own a w pl o e := by
 unfold zerE at h;split at h;rename_i el kn kq k hT htn hs hx;split at h;rename_i i hi hnone;split at h;rename_i z hz;split at h;rename_i v hzc;cases hc : (Nat.blt 0 k && Nat.ble k 1000 && Nat.beq i.size 1 && Nat.ble i.bytes 1000 && v.oneCell') with
 | false => rw [hc] at h; cases h
 | true =>
  rw [hc] at h;simp only [cond_true,oIQ] at h;subst h;simp only [bIQ] at hc;obtain ⟨⟨⟨⟨c1,c2⟩,c3⟩,c4⟩,c5⟩ := hc;have c1 : 0 < k := by simpa using c1
  have c2 := Nat.le_of_ble_eq_true c2;have c3 := Nat.eq_of_beq_eq_true c3;have c4 := Nat.le_of_ble_eq_true c4;have hvs : a.eval s = .slice none 0 0 := Rd.exact (hl [] s _ hs holds_nil hp);have hvx : a.eval x = .int kq (k : Int) := bG hl hp holds_nil hx;have hnx : Builtin.nextslicecap (0 + k) 0 = 0 + k := by unfold Builtin.nextslicecap; rw [if_pos (by omega)]
  have hkb : k * i.bytes <= 1000 * 1000 := Nat.mul_le_mul c2 c4;have hr := Lib.run_append_grow_zeros (P := P) w T tn o.type el i z kq kn hT htn hi hz none 0 0 [] (by simp [Builtin.firstCells]) k c1 (by omega) (by omega) (by omega) (by omega) (by rw [hnx,Nat.zero_add]; omega);simp only [Nat.zero_add] at hr;have hge := grownCap_ge w k 0 el;have hcm : grownCap w k 0 el <= maxLen := grownCap_le_maxLen w k 0 el (by unfold maxLen; omega);obtain ⟨pl',m',L,hsl⟩ := m.newArr (i := nid) (e := ⟨el,[]⟩) (sz := 1) (es := List.replicate k [.v v]) (by rw [hob nid (by simp)]; exact hnone)
   (w' := w.drew.alloc (.cells (([] : List Value).toArray ++ Builtin.zeroCells z.cells k ++ Builtin.zeroCells z.cells (grownCap w k 0 el - k)) el)) (A := some ⟨w.heap.size,0,none⟩) (cap := grownCap w k 0 el) (xs := List.replicate k v)
   ⟨rfl,rfl,rfl,by simp,fun j hj _ => Below.heap_alloc w.drew _ _ hj⟩
   ⟨by simp,.inr ⟨w.heap.size,_,_,rfl,zl _,heap_alloc_new w.drew _,by simpa using hge,hcm,by
    simp only [Array.size_append,List.size_toArray,size_zeroCells,hzc];simp only [ln,lc];omega,by
    rw [hzc];simp only [Array.toList_append,aIL,List.nil_append];have : (List.replicate k [D.v v]).length * 1 = (List.replicate k v).length := by simp
    rw [this];exact List.take_left⟩⟩
   (fun ad had => by injection had with had; rw [<- had]; exact lr _)
   (AllO.of ⟨by simp,fun j d y hd hy => by
    rw [aCX] at hd;have h1 := List.eq_of_mem_replicate (List.mem_of_getElem? hd);have h2 := List.eq_of_mem_replicate (List.mem_of_getElem? hy);subst h1; subst h2;exact Rd.v _ c5⟩)
   (fun ds hd => by have := List.eq_of_mem_replicate hd; subst this; rfl)
  intro K Q hK;have hrun : (execOp a.eval o).run P w = .ok (.value (.slice (some ⟨w.heap.size,0,none⟩) k (grownCap w k 0 el))) (w.drew.alloc (.cells (([] : List Value).toArray ++ Builtin.zeroCells z.cells k ++ Builtin.zeroCells z.cells (grownCap w k 0 el - k)) el)) := by
   unfold execOp;simp only [hop,resolve,invoke,builtin,Sem.run_bind,Sem.run_pure,an,List.map_toArray,mp1,List.map_nil,hvs,hvx,hr]
  unfold Oper.wp;rw [hrun,Oper.upon_value];refine hK _ _ pl' m' L (.inr ⟨0,⟨el,[]⟩,1,_,upd_same _ _ _,lr _,fun _ => ?_,rfl⟩);rw [hsl];simp
 iterate 4 cases h
def avE (P : Program) (lk : Lk) (ob : Own) (o : Oper) : Option Eff := match o.op with
 | .call { callee := .builtin .len,args := ⟨[x]⟩,argTypes := ⟨[t]⟩ } => match P.underlying t,lk [] x with
  | some (.slice _),some (.c (.av i k _ n)) => match ob i with
   | some (.arr k' _ _ _) => bif Nat.beq k' k then some ⟨.c (.d (.v (.int .i64 (n : Int)))),[],[i],[]⟩ else none
   | _ => none
  | _,_ => none
 | .indexAddr t x ix => match lk [] x,exO lk [] ix,P.underlying t with
  | some (.c (.av j k l n)),some (.int _ m),some (.slice e) => match ob j,P.info? e with
   | some (.arr k' _ sz _),some ti => bif (Nat.beq ti.size sz && Nat.beq k' k) && decide (0 <= m /\ m < (n : Int)) then some ⟨.c (.ea j k' (l + m.toNat) 0),[],[j],[]⟩ else none
   | _,_ => none
  | _,_,_ => none
 | _ => none
theorem avE_ok (m : Mem fr own w pl) (hl : bA a w pl own p lk) (hp : Eng.Holds a p) {ob : Own} {e : Eff} (h : avE P lk ob o = some e) (hob : ∀ i ∈ e.touch,own i = ob i) : Does P fr own a w pl o e := by
 unfold avE at h;split at h;rename_i x t hop;split at h;rename_i el i k l n hu hx;split at h;rename_i k' e' sz es hbx;cases hk : Nat.beq k' k with
 | false => rw [hk] at h; cases h
 | true =>
  rw [hk] at h;simp only [cond_true,oIQ] at h;subst h;obtain rfl := Nat.eq_of_beq_eq_true hk;have hj : own i = some (.arr k' e' sz es) := by rw [hob i (by simp),hbx]
  obtain ⟨_,hv⟩ := aAX (w := w) (hl [] x _ hx holds_nil hp) hj;refine aG m ?_ (Rd.v _ rfl);unfold execOp;simp only [hop,resolve,invoke,builtin,Sem.run_bind,Sem.run_pure,an,List.map_toArray,mp1,List.map_nil,hv];simp [Builtin.len_,run_underlying hu,goInt]
 cases h;cases h;rename_i t x ix hop;split at h;rename_i j k l n kd q el hx hi hu;split at h;rename_i k' e' sz es ti hbx hti;cases hc : ((Nat.beq ti.size sz && Nat.beq k' k) && decide (0 <= q /\ q < (n : Int))) with
 | false => rw [hc] at h; cases h
 | true =>
  rw [hc] at h;simp only [cond_true,oIQ] at h;subst h;simp only [bIQ,decide_eq_true_eq] at hc;obtain ⟨⟨h1,h2⟩,h3,h4⟩ := hc;have hsz := Nat.eq_of_beq_eq_true h1;obtain rfl := Nat.eq_of_beq_eq_true h2;have hj : own j = some (.arr k' e' sz es) := by rw [hob j (by simp),hbx]
  obtain ⟨hln,hv⟩ := aAX (w := w) (hl [] x _ hx holds_nil hp) hj;have hi' := bG hl hp holds_nil hi;have hcap : es.length <= (pl.sl j).2 := by
   obtain ⟨xs,ho,_⟩ := m.obj j _ hj;rcases ho.all.2 with ⟨h0,h5⟩ | ⟨g,cap,cur,fz,h0,_,_,h5,_⟩
   omega;injection h0 with _ _ h0; rw [h0]; exact h5
  rcases uD (m.obj j _ hj) with ⟨rfl,_⟩ | ⟨b,hA⟩
  simp at hln; omega;have hne : ¬ (pl.sl j).2 = l := by omega
  refine aG (v := .pointer (some ⟨b,(l + q.toNat) * sz,none⟩)) (s := .c (.ea j k' (l + q.toNat) 0)) m ?_ ⟨k',e',sz,es,hj,lr _,fun _ => ⟨by omega,b,hA,rfl⟩,rfl⟩;rw [if_neg hne,hA] at hv;unfold execOp;simp only [hop,hv,hi',Option.map_some];simp [Instr.indexAt,run_underlying hu,asIntOf,sizeOf,typeInfo,hti,h3,h4,addr_add,hsz,Nat.add_mul]
 iterate 3 cases h
def opQ (P : Program) (lk : Lk) (ob : Own) (o : Oper) (nid : Nat) : Option Eff := match o.op with
 | .call { callee := .builtin .append,args := ⟨[s,x]⟩,argTypes := ⟨[T,tn]⟩ } => zerE P lk ob T tn s x nid
 | .slice t x lo hi none => cutE P lk ob t x lo hi
 | .binOp op t x y _ => nilZ P lk ob op t x y
 | _ => avE P lk ob o
theorem opQ_ok (m : Mem fr own w pl) (hl : bA a w pl own p lk) (hp : Eng.Holds a p) {ob : Own} {nid : Nat} {e : Eff} (h : opQ P lk ob o nid = some e) (hob : ∀ i ∈ e.touch,own i = ob i) : Does P fr own a w pl o e := by
 unfold opQ at h;split at h;rename_i hop; exact zerE_ok m hl hp hop h hob;rename_i hop; exact cutE_ok m hl hp hop h hob;rename_i hop; exact nilZ_ok m hl hp hop h hob;exact avE_ok m hl hp h hob
def sameT : Operand -> Option Operand -> Bool
 | .tmp a,some (.tmp b) => a == b
 | _,_ => false
def lkN (P : Program) (o : Oper) (lk : Lk) : Lk := match o.op with
 | .call { callee := .builtin .append,args := xs,argTypes := ats } => match P.underlying (ats.getD 0 0) with
  | some (.slice e) => match P.info? e with
   | some i => fun q x => match lk q x with
    | some (.c (.d (.v (.slice none 0 0)))) => bif sameT x xs[0]? then lk q x else some (.c (.d (.sl i.size [])))
    | r => r
   | none => lk
  | _ => lk
 | _ => lk
theorem lkN_ok (hl : bA a w pl own p lk) : bA a w pl own p (lkN P o lk) := by
 unfold lkN;split;split;split;rename_i i hi;intro q x sv hx hq hp;simp only at hx;split at hx;rename_i hv;revert hx;cases sameT x _ with
 | true => intro hx; exact hl q x _ hx hq hp
 | false =>
  intro hx;simp only [cond_false,oIQ] at hx;subst hx;have := Rd.exact (hl q x _ hv hq hp);show Rd _ _ _ _;rw [this];exact .nil _
 exact hl q x _ hx hq hp;exact hl;exact hl;exact hl
end
end Go.V
namespace Go.V
open Go.RowKit
def bytesOf : LD -> Option (List UInt8)
 | [] => some []
 | [.v (.int .u8 n)] :: r => match bytesOf r with
  | some l => some (UInt8.ofNat n.toNat :: l)
  | none => none
 | _ => none
def pU (es : LD) : Hint := match bytesOf es with
 | some l => .call (.c (.d (.v (.string ⟨l.toArray⟩)))) [] []
 | none => .none
def aP5 (lk : Lk) (ob : Own) (o : Oper) : Hint := match o.op with
 | .load _ _ => .auto
 | .indexAddr _ _ _ => .auto
 | .buildSlice _ len _ => bif Nat.beq len 0 then .none else .elem []
 | .makeSlice _ x _ => match exO lk [] x with
  | some (.int _ (.ofNat 0)) => .none
  | _ => .mask []
 | .convert _ _ x => match lk [] x with
  | some (.c (.d (.sl 1 es))) => pU es
  | some (.c (.ar i _)) => match ob i with
   | some (.arr _ _ 1 es) => pU es
   | _ => .none
  | _ => .none
 | .call { callee := .builtin .unsafeString,args := ⟨x :: _⟩,argTypes := _ } => match lk [] x with
  | some (.c (.sd i _)) => match ob i with
   | some (.arr _ _ _ es) => pU es
   | _ => .none
  | _ => .none
 | _ => .none
inductive Who where
 | fn (f : FuncId) (svs : List SV)
 | yl (i : Nat) (svs : List SV)
 | no
def aKA : List Value -> Option (List SV)
 | [] => some []
 | v :: r => match ofV v,aKA r with
  | some s,some l => some (s :: l)
  | _,_ => none
def whoV (P : Program) (sv : SV) (svs : List SV) : Who := match sv with
 | .c (.d (.v (.func (.func f) l m))) => bif enters P f then (match aKA l.toList,aKA m.toList with
   | some l',some m' => .fn f (l' ++ svs ++ m')
   | _,_ => .no) else .no
 | .c (.fn f l m) => bif enters P f then .fn f (l.map (fun y => .c (.bx y.1 y.2)) ++ svs ++ m.map (fun y => .c (.bx y.1 y.2))) else .no
 | .c (.yl i) => .yl i svs
 | _ => .no
def who (P : Program) (lk : Lk) (o : Oper) : Who := match o.op with
 | .call { callee := .value (.func f),args := xs,argTypes := _ } => bif enters P f then (match d8 (xs.toList.map (lk [])) with
  | some svs => .fn f svs
  | none => .no) else .no
 | .call { callee := .value (.tmp x),args := xs,argTypes := _ } => match lk [] (.tmp x),d8 (xs.toList.map (lk [])) with
  | some sv,some svs => whoV P sv svs
  | _,_ => .no
 | _ => .no
abbrev Step := Nat -> FuncId -> List SV -> Tr Ob -> Option OpR
abbrev StepY := Nat -> Nat -> List SV -> Tr Ob -> Option OpR
structure NE (P : Program) where
 f : FuncId
 ok : oR P f
def aNU {P : Program} : List (NE P) -> FuncId -> Option (NE P)
 | [],_ => none
 | e :: r,f => bif Nat.beq e.f f then some e else aNU r f
theorem aNT {P : Program} : ∀ {T : List (NE P)} {f : FuncId} {e : NE P},aNU T f = some e -> e.f = f
 | [],f,e,h => by simp [aNU] at h
 | x :: r,f,e,h => by
  simp only [aNU,eD] at h;split at h;rename_i hx; simp only [oIQ] at h; rw [<- h]; exact hx;exact aNT h
def neOp {P : Program} (ne : List (NE P)) (lk : Lk) (o : Oper) : Option SV := match o.op with
 | .call { callee := .value (.func f),args := ⟨[x]⟩,argTypes := _ } => match aNU ne f with
  | some _ => bif zZ P f then (match lk [] x with
   | some (.c c) => some (.c c)
   | _ => none) else none
  | none => none
 | _ => none
structure EntD (P : Program) where
 f : FuncId
 ar : Nat
 ok : ∀ (args : Array Value) (w : World),args.size = ar -> CallsDIn Fence.wide 0 P f args .returning w fun e u w' => ∃ v,e = .returned v /\ u = .returning /\ w.grownBy w' none
structure Exe (P : Program) (G : List (Nat × List Value)) where
 T : List (Ent P G)
 ne : List (NE P)
 df : List (EntD P)
 orc : Nat -> Option Bool
 lit : Nat -> Option Value
 call : Step
 yld : StepY
 hnt : Nat -> Option (List D) := fun _ => none
def litR (own : Tr Ob) (k : Nat) (e : Eff) (v : Value) : Option OpR := match e.sv with
 | .c (.d (.v x)) => u0 own (k + 1) ((x = v) :: e.obl) ⟨.c (.d (.v v)),e.upd,e.touch,e.obs⟩
 | _ => none
def aH2 {P : Program} {G : List (Nat × List Value)} (E : Exe P G) (lt : Option Value) (hint : Hint) (lk : Lk) (own : Tr Ob) (o : Oper) (k : Nat) : Option OpR :=
  match who P lk o with
  | .fn f svs => match aC0 E.T f with
    | some e => match aP0 e k svs own with
      | some r => some r
      | none => E.call k f svs own
    | none => E.call k f svs own
  | .yl i svs => E.yld k i svs own
  | .no => match neOp E.ne lk o with
   | some s => u0 own (k + 1) [] ⟨s,[],[],[]⟩
   | none => match opW P lk own.get o k with
    | some e => u0 own (k + 1) [] e
    | none => match opE P G lk own.get o k hint with
      | some e => match lt with
       | some v => litR own k e v
       | none => match E.orc k with
        | some _ => u0 own (k + 1) e.obl e
        | none => bif e.obs.all (·.b) then u0 own (k + 1) [] e else none
      | none => match opQ P lk own.get o k with
       | some e => u0 own (k + 1) [] e
       | none => match opE P G (lkN P o lk) own.get o k hint with
        | some e => bif e.obs.all (·.b) then u0 own (k + 1) [] e else none
        | none => none
def aOJ : Option Value -> Bool
 | some .nilIface => true
 | _ => false
def hntH (h : Option (List D)) (a : Hint) : Hint := match h with
 | some ds => .elem ds
 | none => a
def litV : Option Value -> Option Value
 | some (.agg _) => none
 | v => v
def doOp {P : Program} {G : List (Nat × List Value)} (E : Exe P G) (lk : Lk) (own : Tr Ob) (o : Oper) (k : Nat) : Option OpR :=
 bif aOJ (E.lit k) then (match tE (aID lk o.op.operands.toList) lk own with
  | some (lk1,own1,us) => match aH2 E none .none lk1 own1 o k with
   | some r => some ⟨r.sv,us ++ r.upd,keys us ++ r.touch,r.own,r.k,r.cs⟩
   | none => none
  | none => none) else aH2 E (litV (E.lit k)) (hntH (E.hnt k) (aP5 lk own.get o)) lk own o k
def aQS (P : Program) (G : List (Nat × List Value)) (call : Step) : Prop :=
 ∀ (k : Nat) (f : FuncId) (svs : List SV) (own : Tr Ob) (r : OpR),call k f svs own = some r -> r.own.get = bB own.get r.upd /\ (∀ x ∈ keys r.upd,x ∈ r.touch) /\
  ∀ (fr : Fr) (own0 : Own) (w : World) (pl : Pl) (vals : List Value),fr.G = G -> conj r.cs -> (∀ i ∈ r.touch,own0 i = own.get i) -> Mem fr own0 w pl -> All2 (bD w pl own0) svs vals ->
   Calls P f vals.toArray w fun e w' => ∃ v pl',e = .returned v /\ Mem fr (bB own0 r.upd) w' pl' /\ Later w pl own0 w' pl' (bB own0 r.upd) /\ bD w' pl' (bB own0 r.upd) r.sv v
def YldOk (P : Program) (G : List (Nat × List Value)) (yld : StepY) : Prop :=
 ∀ (k : Nat) (i : Nat) (svs : List SV) (own : Tr Ob) (r : OpR),yld k i svs own = some r -> r.own.get = bB own.get r.upd /\ (∀ x ∈ keys r.upd,x ∈ r.touch) /\
  ∀ (fr : Fr) (own0 : Own) (w : World) (pl : Pl) (vals : List Value),fr.G = G -> conj r.cs -> (∀ i ∈ r.touch,own0 i = own.get i) -> Mem fr own0 w pl -> All2 (bD w pl own0) svs vals ->
   ∃ (f : FuncId) (tmps : Array Value) (assign body : Code),(Instr.yield (pl.blk i) vals.toArray).run P w = .ok (.round (pl.blk i) f tmps assign body) w /\
    RoundIn Fence.wide 0 P (pl.blk i) f tmps assign body w fun e w' => ∃ v pl',e = .returned v /\ Mem fr (bB own0 r.upd) w' pl' /\ Later w pl own0 w' pl' (bB own0 r.upd) /\ bD w' pl' (bB own0 r.upd) r.sv v
structure ExeOk {P : Program} {G : List (Nat × List Value)} (E : Exe P G) : Prop where
 call : aQS P G E.call
 yld : YldOk P G E.yld
section
variable {P : Program} {G : List (Nat × List Value)} {lk : Lk} {p : Path} {o : Oper} {E : Exe P G}
theorem yX {w : World} {pl : Pl} {own : Own} : ∀ {l : List Value} {s : List SV},aKA l = some s -> All2 (bD w pl own) s l
 | [],s,h => by simp only [aKA,oIQ] at h; subst h; exact All2.nil
 | v :: r,s,h => by
  simp only [aKA] at h;split at h;rename_i s' l hs hl;simp only [oIQ] at h; subst h;exact All2.cons (l4 hs) (yX hl);cases h
def WhoOk (P : Program) (lk : Lk) (p : Path) (o : Oper) : Who -> Prop
 | .fn f svs => ∀ (own0 : Own) (a : Act) (w : World) (pl : Pl),bA a w pl own0 p lk -> Eng.Holds a p -> ∃ vals : List Value,All2 (bD w pl own0) svs vals /\ (execOp a.eval o).run P w = .ok (.enter f vals.toArray) w
 | .yl i svs => ∀ (own0 : Own) (a : Act) (w : World) (pl : Pl),bA a w pl own0 p lk -> Eng.Holds a p -> ∃ vals : List Value,All2 (bD w pl own0) svs vals /\ (execOp a.eval o).run P w = (Instr.yield (pl.blk i) vals.toArray).run P w
 | .no => True
def WhoVOk (P : Program) (sv : SV) (svs : List SV) : Who -> Prop
 | .fn f svs' => ∀ (own0 : Own) (w : World) (pl : Pl) (v : Value) (vals : List Value),bD w pl own0 sv v -> All2 (bD w pl own0) svs vals ->
   ∃ lv mv : Array Value,enters P f = true /\ v = .func (.func f) lv mv /\ All2 (bD w pl own0) svs' (lv.toList ++ vals ++ mv.toList)
 | .yl i svs' => ∀ (own0 : Own) (w : World) (pl : Pl) (v : Value),bD w pl own0 sv v -> svs' = svs /\ v = .func (.yield (pl.blk i)) #[] #[]
 | .no => True
theorem whoV_ok (sv : SV) (svs : List SV) : WhoVOk P sv svs (whoV P sv svs) := by
 unfold whoV;split;rename_i f l m;cases he : enters P f with
 | false => trivial
 | true =>
  simp only [cond_true];split;rename_i l' m' hl' hm';intro own0 w pl v vals hv hvs;have hv : v = .func (.func f) l m := Rd.exact hv;exact ⟨l,m,he,hv,((yX hl').append hvs).append (yX hm')⟩;trivial
 rename_i f l m;cases he : enters P f with
 | false => trivial
 | true =>
  intro own0 w pl v vals hv hvs;obtain ⟨hb,hv⟩ := hv;refine ⟨(l.map (adV pl)).toArray,(m.map (adV pl)).toArray,he,hv,?_⟩;exact ((aAW fun y hy => hb y (by simp [hy])).append hvs).append (aAW fun y hy => hb y (by simp [hy]))
 intro own0 w pl v hv;exact ⟨rfl,hv.2⟩;trivial
theorem who_ok : WhoOk P lk p o (who P lk o) := by
 unfold who;split;rename_i f xs ats hop;cases he : enters P f with
 | false => trivial
 | true =>
  simp only [cond_true];split;rename_i svs hs;intro own0 a w pl hl hp;exact ⟨_,dF hl hp hs,kW hop he⟩;trivial
 rename_i x xs ats hop;split;rename_i sv svs hx hs;have hw := whoV_ok (P := P) sv svs;cases hwv : whoV P sv svs with
 | no => trivial
 | fn f svs' =>
  rw [hwv] at hw;intro own0 a w pl hl hp;obtain ⟨lv,mv,he,hv,h2⟩ := hw own0 w pl _ _ (hl [] _ _ hx holds_nil hp) (dF hl hp hs);exact ⟨_,h2,kV (l := lv.toList) (m := mv.toList) hop (by simpa using hv) he⟩
 | yl i svs' =>
  rw [hwv] at hw;intro own0 a w pl hl hp;obtain ⟨rfl,hv⟩ := hw own0 w pl _ (hl [] _ _ hx holds_nil hp);exact ⟨_,dF hl hp hs,vF hop hv⟩
 trivial;trivial
theorem aC5 (hE : ExeOk E) {lt : Option Value} {hint : Hint} {own : Tr Ob} {k : Nat} {r : OpR} (h : aH2 E lt hint lk own o k = some r) : aQP P G lk p o own r := by
 have hw : WhoOk P lk p o (who P lk o) := who_ok;unfold aH2 at h;split at h
 ·rename_i f svs hwho
  rw [hwho] at hw;have inl : E.call k f svs own = some r -> aQP P G lk p o own r := by
   intro h;obtain ⟨h1,h2,h3⟩ := hE.call _ _ _ _ _ h;refine ⟨h1,h2,fun fr own0 a w pl hG hc ht m hl hp => ?_⟩;obtain ⟨vals,hv,hr⟩ := hw own0 a w pl hl hp;intro K hK;refine .inl fun Q => ?_;unfold Oper.wp;rw [hr,Oper.upon_enter];refine Calls.mono (h3 fr own0 w pl vals hG hc ht m hv) ?_;rintro e w' ⟨v,pl',rfl,m',L,hs⟩;exact hK v w' pl' m' L (.inr hs)
  split at h
  ·rename_i e he
   split at h
   ·rename_i r' hr'
    simp only [oIQ] at h;subst h;refine aPZ hr' fun own0 a w pl hl hp => ?_;obtain ⟨vals,hv,hr⟩ := hw own0 a w pl hl hp;have := aHZ he;subst this;exact ⟨vals,hv,vC hr⟩
   ·exact inl h
  ·exact inl h
 ·rename_i i svs hwho
  rw [hwho] at hw;obtain ⟨h1,h2,h3⟩ := hE.yld _ _ _ _ _ h;refine ⟨h1,h2,fun fr own0 a w pl hG hc ht m hl hp => ?_⟩;obtain ⟨vals,hv,hr⟩ := hw own0 a w pl hl hp;intro K hK;obtain ⟨f,tmps,asg,bd,h4,h5⟩ := h3 fr own0 w pl vals hG hc ht m hv;refine .inr ⟨_,f,tmps,asg,bd,hr.trans h4,h5.mono ?_⟩;rintro e w' ⟨v,pl',rfl,m',L,hs⟩;exact ⟨v,rfl,hK v w' pl' m' L (.inr hs)⟩
 ·split at h
  ·rename_i s hs
   refine hV h fun fr own0 a w pl hG hc ht m hl hp => ?_;unfold neOp at hs;split at hs
   ·rename_i f x ats hop
    split at hs
    ·rename_i ne hne
     cases hn : zZ P f with
     | false => rw [hn] at hs; cases hs
     | true =>
      rw [hn] at hs;simp only [cond_true] at hs;split at hs
      ·rename_i c hx
       simp only [oIQ] at hs;subst hs;have hNE : oR P f := by have := aNT hne; subst this; exact ne.ok
       exact (tU (e := ⟨.c c,[],[],[.un (oR P f)]⟩) rfl rfl (aCD m hl hp hop (show aCE P lk f x = some ⟨.c c,[],[],[.un (oR P f)]⟩ by unfold aCE; rw [hn,if_pos rfl,hx]) hNE).x)
      ·cases hs
    ·cases hs
   ·cases hs
  split at h
  ·rename_i e he
   exact hV h fun fr own0 a w pl hG hc ht m hl hp => (opW_ok m hl hp he ht).x
  ·split at h
   ·rename_i e he
    split at h
    ·rename_i v
     unfold litR at h;split at h
     ·rename_i x hx
      refine hV h fun fr own0 a w pl hG hc ht m hl hp => ?_;subst hG;have hc1 : x = v := kJ hc (by simp);have hc2 : conj e.obl := fU fun c hcm => kJ hc (by simp [hcm]);subst hc1;exact tU (e := e) hx.symm rfl (pB m hl hp he ht hc2)
     ·cases h
    split at h
    ·refine hV h fun fr own0 a w pl hG hc ht m hl hp => ?_
     subst hG;exact pB m hl hp he ht hc
    cases hob : e.obs.all (·.b) with
    | false => rw [hob] at h; cases h
    | true =>
     rw [hob] at h;refine hV h fun fr own0 a w pl hG hc ht m hl hp => ?_;subst hG;refine pB m hl hp he ht (fU fun c hcm => ?_);simp only [Eff.obl,pOf,mm] at hcm;obtain ⟨x,hx,rfl⟩ := hcm;exact x.h (at1.1 hob x hx)
   ·split at h
    ·rename_i e he
     exact hV h fun fr own0 a w pl hG hc ht m hl hp => (opQ_ok m hl hp he ht).x
    ·split at h
     ·rename_i e he
      cases hob : e.obs.all (·.b) with
      | false => rw [hob] at h; cases h
      | true =>
       rw [hob] at h;refine hV h fun fr own0 a w pl hG hc ht m hl hp => ?_;subst hG;refine pB m (lkN_ok hl) hp he ht (fU fun c hcm => ?_);simp only [Eff.obl,pOf,mm] at hcm;obtain ⟨x,hx,rfl⟩ := hcm;exact x.h (at1.1 hob x hx)
     ·cases h
theorem aH1 (hE : ExeOk E) {own : Tr Ob} {k : Nat} {r : OpR} (h : doOp E lk own o k = some r) : aQP P G lk p o own r := by
 unfold doOp at h;cases hm : aOJ (E.lit k) with
 | false => rw [hm] at h; exact aC5 hE h
 | true =>
  rw [hm] at h;simp only [cond_true] at h;split at h;rename_i lk1 own1 us hf;split at h;rename_i r1 hr;simp only [oIQ] at h;subst h;obtain ⟨f1,f2,f3⟩ := wH hf;have hin : ∀ {fr : Fr} {own0 : Own} {a : Act} {w : World} {pl : Pl},bA a w pl own0 p lk1 -> bA a w pl own0 p lk1 := id;obtain ⟨g1,g2,g3⟩ := aC5 (p := p) hE hr;refine ⟨by show r1.own.get = _; rw [g1,f2,eL],fun x hx => ?_,fun fr own0 a w pl hG hc ht m hl hp => ?_⟩;simp only [keys,List.map_append,List.mem_append] at hx ⊢;rcases hx with hx | hx;exact .inl hx;exact .inr (g2 x hx);obtain ⟨pl1,m1,L1,hl1⟩ := f3 (fun i hi => ht i (by simp only [List.mem_append]; exact .inl (f1 ▸ hi))) m hl;have hd := g3 fr (bB own0 us) a w pl1 hG hc (fun i hi => by
   rw [f2];exact lU _ (ht i (by simp only [List.mem_append]; exact .inr hi))) m1 hl1 hp
  intro K hK;refine hd K fun v w' pl' m' L' hs => ?_;simp only [OpR.eff] at hK m' L' hs;rw [eL] at hK;exact hK v w' pl' m' (L1.trans L') hs;cases h;cases h
end
inductive Mk where
 | mark (i : Nat)
 | df (f : FuncId) (cap : List (Nat × Nat))
structure XS where
 env : Tr SV
 own : Tr Ob
 k : Nat
 T : List Nat
 U : List (Nat × Ob)
 cs : List Prop
 mks : List Mk
def lkX (loc : bR) (tr : Tr SV) (p : Path) (us : List Nat) : Lk := sZ (cJ loc tr) p us
def aPD (n : Nat) (d : Option Nat) : Bool := match d with
 | some t => Nat.blt t n && few t
 | none => true
def putX (loc : bR) (r : Rec) : bR := match r.dst with
 | some t => (t,r.path,r.sv) :: loc
 | none => loc
def aMZ {P : Program} {G : List (Nat × List Value)} (E : Exe P G) (n : Nat) (ops : Array Oper) (loc : bR) (tr : Tr SV) (own : Tr Ob) (k : Nat) (o : Oper) : Option (Rec × Tr Ob × Nat × List Prop) :=
 match pathOf ops (cJ loc tr) o with
 | some p => bif closed (cJ loc tr) p && chainB (cJ loc tr) p && aPD n o.dst && kF n o.dst p then
   bif j9 (cJ loc tr) p then (match doOp E (lkX loc tr p (j3 o)) own o k with
    | some r => some (⟨o.dst,[],r.sv,r.upd,r.touch,j3 o ++ p.map (·.1),[]⟩,r.own,r.k,r.cs)
    | none => none)
   else some (⟨o.dst,p,.c (.d (.v (.bool false))),[],[],p.map (·.1),[]⟩,own,k,[])
  else none
 | none => none
def p8 {P : Program} {G : List (Nat × List Value)} (E : Exe P G) (n : Nat) (ops : Array Oper) : List Oper -> bR -> Tr SV -> Tr Ob -> Nat -> Option (List Rec × bR × Tr Ob × Nat × List Prop)
 | [],loc,_,own,k => some ([],loc,own,k,[])
 | o :: l,loc,tr,own,k => match aMZ E n ops loc tr own k o with
  | some (r,own1,k1,cs1) => match p8 E n ops l (putX loc r) tr own1 k1 with
   | some (rs,loc',own',k',cs) => some (r :: rs,loc',own',k',cs1 ++ cs)
   | none => none
  | none => none
def regX {P : Program} {G : List (Nat × List Value)} (E : Exe P G) (n : Nat) (ops : Array Oper) (draw : Bool) (st : XS) : Option XS :=
 match p8 E n ops ops.toList [] st.env st.own st.k with
 | some (rs,loc,own,k,cs) => bif okT rs && (!draw || (okB 0 rs (bef ops) && fO 0 ops.toList)) then
   some ⟨tI loc st.env,own,k,(rs.flatMap (·.touch)) ++ st.T,(rs.flatMap (·.upd)).reverse ++ st.U,cs ++ st.cs,st.mks⟩ else none
 | none => none
section
variable {P : Program} {G : List (Nat × List Value)} {E : Exe P G} {fr : Fr} {n : Nat} {ops : Array Oper}
theorem aCZ (loc : bR) (tr : Tr SV) (r : Rec) : cJ (putX loc r) tr = dY (cJ loc tr) r := by
 funext u;unfold putX dY;cases r.dst with
 | none => rfl
 | some t =>
  simp only [cJ,aI,upd];by_cases h : u = t;subst h; simp;have : (t == u) = false := by simpa using fun e => h e.symm
  simp [this,h]
theorem m9 {env env' : Env} {o : Oper} {p : Path} (h : pathOf ops env o = some p) (hu : ∀ x ∈ p,env' x.1 = env x.1) : pathOf ops env' o = some p := by
 unfold pathOf at h ⊢;split at h;exact h;rename_i j want hg;split at h;cases h;rename_i g hd;split at h;rename_i q b hfd;simp only [oIQ] at h;have : env' g = env g := hu (g,want) (by rw [<- h]; simp);simp only [hd,this,hfd,h];cases h
theorem recX_ok (hE : ExeOk E) (hG : fr.G = G) {loc : bR} {tr : Tr SV} {own own' : Tr Ob} {k k' : Nat} {i : Nat} {o : Oper} {r : Rec} {cs : List Prop} (h : aMZ E n ops loc tr own k o = some (r,own',k',cs)) (hoi : ops[i]? = some o) (hc : conj cs) :
  own'.get = bB own.get r.upd /\ (∀ x ∈ keys r.upd,x ∈ r.touch) /\ (∀ x,x ∈ slots r -> x ∈ r.uses) /\ aA2 P fr n ops i r (cJ loc tr) own.get /\ r.dst = o.dst /\ aPD n o.dst = true := by
 unfold aMZ at h;split at h;rename_i p hp;cases hchk : (closed (cJ loc tr) p && chainB (cJ loc tr) p && aPD n o.dst && kF n o.dst p) with
 | false => rw [hchk] at h; cases h
 | true =>
  rw [hchk] at h;simp only [bIQ] at hchk;obtain ⟨⟨⟨hcl,hch⟩,hdx⟩,hdo⟩ := hchk;cases hh : j9 (cJ loc tr) p with
  | true =>
   rw [hh] at h;simp only [cond_true] at h;split at h;rename_i r' hr;simp only [oIQ,pIQ] at h;obtain ⟨rfl,rfl,rfl,rfl⟩ := h;obtain ⟨h1,h2,h3⟩ := aH1 (p := p) hE hr;refine ⟨h1,h2,fun x hx => by simp [slots] at hx,?_,rfl,hdx⟩;intro env own0 a w pl hok hu ht hm K hK;simp only at hu ht hm hK;have hpu : ∀ x ∈ p,env x.1 = cJ loc tr x.1 := fun x hx => hu x.1 (by simp only [List.mem_append,mm]; exact .inr ⟨x,hx,rfl⟩);have hpath := m9 hp hpu;have hw := gM hok hpath;have hP : Eng.Holds a p := by
    obtain ⟨e1,e2⟩ := fD hpu;exact pL hok (by rw [e1]; exact hch) (by rw [e2]; exact holdsB_iff.1 hh)
   have hlk : bA a w pl own0 p (lkX loc tr p (j3 o)) := by
    intro q x sv hs hq hh;refine iN hok p q x sv ?_ hq hh;cases x with
    | tmp t =>
     simp only [lkX,sZ] at hs;split at hs;rename_i hin;have : env t = cJ loc tr t := hu t (by simp only [List.mem_append]; exact .inl (by simpa using hin));simp only [j7] at hs ⊢;rw [this]; exact hs;cases hs
    | const v => exact hs
    | global g => exact hs
    | func f => exact hs
   unfold eJ;rw [hoi];simp only;rw [if_pos (hw.2 hP)];refine h3 fr own0 a w pl hG hc ht hok.mem hlk hP K fun v w' pl' m' L hv => ?_;refine hK _ w' pl' ?_;have hok' := hok.later m' L;cases hd : o.dst with
   | none => simp only [dY,hd]; exact hok'
   | some t =>
    simp only [kF,hd,bIQ,decide_eq_true_eq] at hdo;simp only [dY,hd];exact hok'.put hdo.1 (hm t hd) (fun x hx => by cases hx) (fun _ => hv.resolve_left (by rw [hd]; simp)) (fun h => absurd holds_nil h)
   cases h
  | false =>
   rw [hh] at h;simp only [cond_false,oIQ,pIQ] at h;obtain ⟨rfl,rfl,rfl,rfl⟩ := h;refine ⟨rfl,fun x hx => by simp [keys] at hx,fun x hx => hx,?_,rfl,hdx⟩;intro env own0 a w pl hok hu ht hm K hK;simp only at hu ht hm hK;have hpu : ∀ x ∈ p,env x.1 = cJ loc tr x.1 := fun x hx => hu x.1 (by simp only [mm]; exact ⟨x,hx,rfl⟩);have hw := gM hok (m9 hp hpu);have hP : ¬ Eng.Holds a p := by
    intro hP;obtain ⟨e1,e2⟩ := fD hpu;have := pM hok (by rw [e1]; exact hch) hP;rw [e2] at this;rw [holdsB_iff.2 this] at hh;cases hh
   unfold eJ;rw [hoi];simp only;rw [if_neg (fun h => hP (hw.1 h))];refine hK _ w pl ?_;cases hd : o.dst with
   | none => simp only [dY,hd]; exact hok
   | some t =>
    simp only [kF,hd,bIQ,decide_eq_true_eq,at1,bne_iff_ne] at hdo;simp only [dY,hd];exact hok.put hdo.1 (hm t hd) (fun x hx => hdo.2 x hx) (fun h => absurd h hP) (fun _ => rfl)
 cases h
theorem aBZ (hE : ExeOk E) (hG : fr.G = G) {tr : Tr SV} : ∀ {l : List Oper} {i0 : Nat} {loc loc' : bR} {own own' : Tr Ob} {k k' : Nat} {rs : List Rec} {cs : List Prop},p8 E n ops l loc tr own k = some (rs,loc',own',k',cs) -> (∀ i o,l[i]? = some o -> ops[i0 + i]? = some o) -> conj cs ->
  rs.length = l.length /\ cJ loc' tr = bY rs (fun _ => true) 0 (cJ loc tr) /\ own'.get = bW rs (fun _ => true) 0 own.get /\
  (∀ (i : Nat) (r : Rec),rs[i]? = some r -> ∃ envi owni,aA2 P fr n ops (i0 + i) r envi owni /\ envi = bY rs (fun j => decide (j < i)) 0 (cJ loc tr) /\ owni = bW rs (fun j => decide (j < i)) 0 own.get) /\
  (∀ (i : Nat) (r : Rec),rs[i]? = some r -> ∀ x ∈ keys r.upd,x ∈ r.touch) /\ (∀ (i : Nat) (r : Rec),rs[i]? = some r -> ∀ x,x ∈ slots r -> x ∈ r.uses) /\ ((loc.all fun e => few e.1) = true -> (loc'.all fun e => few e.1) = true) /\
  own'.get = bB own.get (rs.flatMap (·.upd))
 | [],i0,loc,loc',own,own',k,k',rs,cs,h,_,_ => by
  simp only [p8,oIQ,pIQ] at h;obtain ⟨rfl,rfl,rfl,rfl,rfl⟩ := h;exact ⟨rfl,rfl,rfl,fun i r hi => by simp at hi,fun i r hi => by simp at hi,fun i r hi => by simp at hi,fun h => h,rfl⟩
 | o :: l,i0,loc,loc',own,own',k,k',rs,cs,h,hops,hc => by
  simp only [p8] at h;split at h
  ·rename_i r own1 k1 cs1 hr
   split at h
   ·rename_i rs2 loc2 own2 k2 cs2 hrs
    simp only [oIQ,pIQ] at h;obtain ⟨rfl,rfl,rfl,rfl,rfl⟩ := h;obtain ⟨hc1,hc2⟩ := d3 hc;obtain ⟨a1,a2,a3,a4,a5,a6⟩ := recX_ok hE hG (i := i0) hr (by simpa using hops 0 o rfl) hc1;obtain ⟨b1,b2,b3,b4,b5,b6,b7,b8⟩ := aBZ hE hG (i0 := i0 + 1) hrs (fun i o' hi => by rw [show i0 + 1 + i = i0 + (i + 1) by omega]; exact hops (i + 1) o' (by simpa using hi)) hc2;have shE : ∀ (rs : List Rec) (D D' : Nat -> Bool) (k k' : Nat) (e : Env),(∀ j,D (k + j) = D' (k' + j)) -> bY rs D k e = bY rs D' k' e := by
     intro rs
     induction rs with
     | nil => intros; rfl
     | cons y ys ih =>
      intro D D' k k' e hD;have h0 := hD 0;simp only [Nat.add_zero] at h0;simp only [bY,h0];exact ih _ _ _ _ _ fun j => by have := hD (j + 1); rw [show k + 1 + j = k + (j + 1) by omega,show k' + 1 + j = k' + (j + 1) by omega]; exact this
    have shO : ∀ (rs : List Rec) (D D' : Nat -> Bool) (k k' : Nat) (e : Own),(∀ j,D (k + j) = D' (k' + j)) -> bW rs D k e = bW rs D' k' e := by
     intro rs
     induction rs with
     | nil => intros; rfl
     | cons y ys ih =>
      intro D D' k k' e hD;have h0 := hD 0;simp only [Nat.add_zero] at h0;simp only [bW,h0];exact ih _ _ _ _ _ fun j => by have := hD (j + 1); rw [show k + 1 + j = k + (j + 1) by omega,show k' + 1 + j = k' + (j + 1) by omega]; exact this
    refine ⟨by simp [b1],?_,?_,fun i r' hi => ?_,fun i r' hi => ?_,fun i r' hi => ?_,fun hf => b7 ?_,?_⟩
    ·rw [b2,aCZ]
     simp only [bY,if_true];exact shE _ _ _ _ _ _ fun j => rfl
    ·rw [b3,a1]
     simp only [bW,if_true];exact shO _ _ _ _ _ _ fun j => rfl
    ·cases i with
     | zero =>
      simp only [cz,oIQ] at hi;subst hi;exact ⟨_,_,a4,(lH _ _ (fun j => by simp) 0 _).symm,(kY _ _ (fun j => by simp) 0 _).symm⟩
     | succ i =>
      obtain ⟨envi,owni,c1,c2,c3⟩ := b4 i r' (by simpa using hi);refine ⟨envi,owni,by rw [show i0 + (i + 1) = i0 + 1 + i by omega]; exact c1,?_,?_⟩
      ·rw [c2,aCZ]
       simp only [bY,decide_eq_true (show 0 < i + 1 by omega),if_true];exact shE _ _ _ _ _ _ fun j => by simp only [Nat.zero_add,decide_eq_decide]; omega
      ·rw [c3,a1]
       simp only [bW,decide_eq_true (show 0 < i + 1 by omega),if_true];exact shO _ _ _ _ _ _ fun j => by simp only [Nat.zero_add,decide_eq_decide]; omega
    ·cases i with
     | zero => simp only [cz,oIQ] at hi; subst hi; exact a2
     | succ i => exact b5 i r' (by simpa using hi)
    ·cases i with
     | zero => simp only [cz,oIQ] at hi; subst hi; exact a3
     | succ i => exact b6 i r' (by simpa using hi)
    ·unfold putX
     cases hd : r.dst with
     | none => exact hf
     | some t =>
      rw [a5] at hd;rw [hd] at a6;simp only [aPD,bIQ] at a6;simp only [List.all_cons,a6.2,Bool.true_and];exact hf
    ·rw [b8,a1,List.flatMap_cons,eL]
   ·cases h
  ·cases h
theorem aMY (hE : ExeOk E) {loc : bR} {tr : Tr SV} {own own' : Tr Ob} {k k' : Nat} {o : Oper} {r : Rec} {cs : List Prop} (h : aMZ E n ops loc tr own k o = some (r,own',k',cs)) :
  own'.get = bB own.get r.upd /\ (∀ x ∈ keys r.upd,x ∈ r.touch) := by
 unfold aMZ at h;split at h;rename_i p hp;cases hchk : (closed (cJ loc tr) p && chainB (cJ loc tr) p && aPD n o.dst && kF n o.dst p) with
 | false => rw [hchk] at h; cases h
 | true =>
  rw [hchk] at h;cases hh : j9 (cJ loc tr) p with
  | true =>
   rw [hh] at h;simp only [cond_true] at h;split at h;rename_i r' hr;simp only [oIQ,pIQ] at h;obtain ⟨rfl,rfl,rfl,rfl⟩ := h;obtain ⟨h1,h2,h3⟩ := aH1 (p := p) hE hr;exact ⟨h1,h2⟩;cases h
  | false =>
   rw [hh] at h;simp only [cond_true,cond_false,oIQ,pIQ] at h;obtain ⟨rfl,rfl,rfl,rfl⟩ := h;exact ⟨rfl,fun x hx => by simp [keys] at hx⟩
 cases h
theorem o6 (hE : ExeOk E) {tr : Tr SV} : ∀ {l : List Oper} {loc loc' : bR} {own own' : Tr Ob} {k k' : Nat} {rs : List Rec} {cs : List Prop},p8 E n ops l loc tr own k = some (rs,loc',own',k',cs) ->
  own'.get = bB own.get (rs.flatMap (·.upd)) /\ ∀ r ∈ rs,∀ x ∈ keys r.upd,x ∈ r.touch
 | [],loc,loc',own,own',k,k',rs,cs,h => by
  simp only [p8,oIQ,pIQ] at h;obtain ⟨rfl,rfl,rfl,rfl,rfl⟩ := h;exact ⟨rfl,fun r hr => by cases hr⟩
 | o :: l,loc,loc',own,own',k,k',rs,cs,h => by
  simp only [p8] at h;split at h
  ·rename_i r own1 k1 cs1 hr
   split at h
   ·rename_i rs2 loc2 own2 k2 cs2 hrs
    simp only [oIQ,pIQ] at h;obtain ⟨rfl,rfl,rfl,rfl,rfl⟩ := h;obtain ⟨a1,a2⟩ := aMY hE hr;obtain ⟨b1,b2⟩ := o6 hE hrs;refine ⟨by rw [b1,a1,List.flatMap_cons,eL],fun r' hr' => ?_⟩;rcases mc.1 hr' with rfl | hr'
    ·exact a2
    ·exact b2 r' hr'
   ·cases h
  ·cases h
def iZ : List (Nat × Ob) -> Own -> Own
 | [],own => own
 | (i,o) :: r,own => upd (iZ r own) i o
theorem eK : ∀ (l m : List (Nat × Ob)) (own : Own),iZ (l ++ m) own = iZ l (iZ m own)
 | [],_,_ => rfl
 | (i,o) :: r,m,own => by simp only [List.cons_append,iZ,eK r m own]
theorem gN : ∀ (l : List (Nat × Ob)) (own : Own),iZ l.reverse own = bB own l
 | [],_ => rfl
 | (i,o) :: r,own => by
  simp only [List.reverse_cons,bB];rw [eK,gN r];rfl
theorem lT (l : List (Nat × Ob)) {own own' : Own} {i : Nat} (h : own i = own' i) : iZ l own i = iZ l own' i := by
 rw [<- List.reverse_reverse l,gN,gN];exact lU _ h
theorem aB4 : ∀ (rs : List Rec) (k : Nat) (own : Own),bW rs (fun _ => true) k own = bB own (rs.flatMap (·.upd))
 | [],_,_ => rfl
 | r :: rs,k,own => by simp only [bW,if_true,List.flatMap_cons,eL]; exact aB4 rs (k + 1) _
def Mk.d (pl : Pl) : Mk -> Deferred
 | .mark i => { target := .collected (pl.blk i),args := #[] }
 | .df f cap => { target := .fn (.func f) (cap.map (adV pl)).toArray,args := #[] }
def mkD (pl : Pl) (mk : List Mk) : List Deferred := mk.map (Mk.d pl)
def Mk.bx (own : Own) : Mk -> Prop
 | .mark i => ∃ ty cs,own i = some (.box ty cs)
 | .df _ cap => ∀ x ∈ cap,∃ ty cs,own x.1 = some (.box ty cs)
structure OkM (fr : Fr) (n : Nat) (env : Env) (own : Own) (mk : List Mk) (a : Act) (w : World) (pl : Pl) : Prop where
 ok : Ok { fr with ds := mkD pl mk } n env own a w pl
 bx : ∀ x ∈ mk,x.bx own
theorem vW {w w' : World} {pl pl' : Pl} {own own' : Own} (L : Later w pl own w' pl' own') {mk : List Mk} (h : ∀ x ∈ mk,x.bx own) : mkD pl' mk = mkD pl mk /\ ∀ x ∈ mk,x.bx own' := by
 refine ⟨List.map_congr_left fun x hx => ?_,fun x hx => ?_⟩;have hb := h x hx;cases x with
 | mark i =>
  obtain ⟨ty,cs,ho⟩ := hb;simp only [Mk.d,(L.bx i ty cs ho).2]
 | df f cap =>
  simp only [Mk.d];congr 3;exact List.map_congr_left fun y hy => by
   obtain ⟨ty,cs,ho⟩ := hb y hy;simp only [adV,(L.bx y.1 ty cs ho).2]
 have hb := h x hx;cases x with
 | mark i =>
  obtain ⟨ty,cs,ho⟩ := hb;exact (L.bx i ty cs ho).1
 | df f cap =>
  intro y hy;obtain ⟨ty,cs,ho⟩ := hb y hy;exact (L.bx y.1 ty cs ho).1
theorem Mem.to {fr : Fr} (ds : List Deferred) (lat : List (World × Pl × Own)) {own : Own} {w : World} {pl : Pl} (m : Mem fr own w pl) : Mem { fr with ds := ds,lat := lat } own w pl :=
 ⟨⟨m.frOk.glob,m.frOk.inW,m.frOk.few⟩,m.hS,m.obj,m.inj,m.base,m.bor,m.os,m.tape,m.output,m.grow,m.keep,m.pin⟩
theorem Mem.of {fr : Fr} {ds : List Deferred} {lat : List (World × Pl × Own)} {own : Own} {w : World} {pl : Pl} (m : Mem { fr with ds := ds,lat := lat } own w pl) : Mem fr own w pl :=
 ⟨⟨m.frOk.glob,m.frOk.inW,m.frOk.few⟩,m.hS,m.obj,m.inj,m.base,m.bor,m.os,m.tape,m.output,m.grow,m.keep,m.pin⟩
theorem OkM.snap {fr : Fr} {n : Nat} {env : Env} {own : Own} {mk : List Mk} {a : Act} {w : World} {pl : Pl} (h : OkM fr n env own mk a w pl) : Ok { fr with ds := mkD pl mk,lat := (w,pl,own) :: fr.lat } n env own a w pl :=
 ⟨h.ok.mem.of.to _ _,h.ok.defers,h.ok.size,h.ok.yes,h.ok.no,fun q hq => by
  rcases mc.1 hq with rfl | hq;exact Later.refl _ _ _;exact h.ok.late q hq⟩
theorem OkM.unsnap {fr : Fr} {n : Nat} {env env' : Env} {own own' : Own} {mk : List Mk} {a a' : Act} {w w' : World} {pl pl' : Pl} (h : OkM fr n env own mk a w pl) (h' : Ok { fr with ds := mkD pl mk,lat := (w,pl,own) :: fr.lat } n env' own' a' w' pl') : OkM fr n env' own' mk a' w' pl' /\ Later w pl own w' pl' own' := by
 have L := h'.late (w,pl,own) (by simp);obtain ⟨h1,h2⟩ := vW L h.bx;refine ⟨⟨⟨h'.mem.of.to _ _,by rw [h1]; exact h'.defers,h'.size,h'.yes,h'.no,fun q hq => h'.late q (by simp; exact .inr hq)⟩,h2⟩,L⟩
def RIs (P : Program) (fl : Option Nat) (fr : Fr) (R : Wp P) : Prop := match fl with
 | none => R = d6 P
 | some i => ∃ q ∈ fr.lat,(∃ ty cs,q.2.2 i = some (.box ty cs)) /\ R = mU P (q.2.1.blk i)
structure Goes (P : Program) (G : List (Nat × List Value)) (fl : Option Nat) (n : Nat) (V : Wp P -> (Exit -> Act -> World -> Prop) -> Act -> World -> Prop) (e : Ex) (st st' : XS) : Prop where
 dl : ∃ (dT : List Nat) (dU : List (Nat × Ob)) (dC : List Prop),st'.T = dT ++ st.T /\ st'.U = dU ++ st.U /\ st'.cs = dC ++ st.cs /\ st'.own.get = iZ dU st.own.get /\ (∀ x ∈ keys dU,x ∈ dT) /\
  ∀ (R : Wp P) (fr : Fr) (own0 : Own) (a : Act) (w : World) (pl : Pl) (Q : Exit -> Act -> World -> Prop),RIs P fl fr R -> fr.G = G -> conj dC -> (∀ i ∈ dT,own0 i = st.own.get i) -> OkM fr n (cJ [] st.env) own0 st.mks a w pl ->
   (∀ a' w' pl',OkM fr n (cJ [] st'.env) (iZ dU own0) st'.mks a' w' pl' -> Q e.to a' w') -> V R Q a w
theorem regX_ok (hE : ExeOk E) (hm : P.follows .mixedOrders = true) {fl : Option Nat} {id : Nat} {draw : Bool} {st st' : XS} (hnd : fM ops = true) (h : regX E n ops draw st = some st') : Goes P G fl n (fun R Q => R.wp (.region id ops draw) Q) .normal st st' := by
 unfold regX at h;split at h
 ·rename_i rs loc own k cs hrs
  cases hchk : (okT rs && (!draw || (okB 0 rs (bef ops) && fO 0 ops.toList))) with
  | false => rw [hchk] at h; cases h
  | true =>
   rw [hchk] at h;simp only [cond_true,oIQ] at h;subst h;simp only [bIQ,Bool.or_eq_true,Bool.not_eq_true'] at hchk;obtain ⟨hT,hA⟩ := hchk;have hops : ∀ i o,ops.toList[i]? = some o -> ops[0 + i]? = some o := fun i o h => by rw [Nat.zero_add]; simpa using h
   refine ⟨rs.flatMap (·.touch),(rs.flatMap (·.upd)).reverse,cs,rfl,rfl,rfl,?_,?_,fun R fr own0 a w pl Q hR hG hc ht hok hQ => ?_⟩
   ·
    rw [gN];exact (o6 hE hrs).1
   ·intro x hx
    obtain ⟨y,hy,rfl⟩ := mm.1 hx;obtain ⟨r,hr,hy⟩ := List.mem_flatMap.1 (List.mem_reverse.1 hy);exact List.mem_flatMap.2 ⟨r,hr,(o6 hE hrs).2 r hr _ (mm.2 ⟨y,hy,rfl⟩)⟩
   ·obtain ⟨b1,b2,b3,b4,b5,b6,b7,b8⟩ := aBZ (fr := { fr with ds := mkD pl st.mks,lat := (w,pl,own0) :: fr.lat }) hE hG hrs hops hc
    have hRR : RecsOk P { fr with ds := mkD pl st.mks,lat := (w,pl,own0) :: fr.lat } n ops rs (cJ [] st.env) st.own.get (cJ loc st.env) own.get :=
     ⟨by rw [b1]; simp,b2,b3,fun i r hi => by obtain ⟨x,y,c1,c2,c3⟩ := b4 i r hi; rw [Nat.zero_add] at c1; exact ⟨x,y,c1,c2,c3⟩,b5,b6⟩
    refine aMX hm hRR (fun i r hi x hx => ht x (List.mem_flatMap.2 ⟨r,List.mem_of_getElem? hi,hx⟩)) (fun u q sv h => ?_) hT (fun hd => by
     rcases hA with h | h
     ·rw [hd] at h; cases h
     ·exact h) hnd hok.snap (fun a' w' pl' hok' => ?_)
    ·simp only [cJ,aI,me,pIQ] at h
     obtain ⟨_,_,h,_⟩ := h;exact h.symm
    ·refine hQ a' w' pl' ?_
     rw [gN,<- aB4 rs 0];exact (hok.unsnap (aFA hok' fun u q sv h => (tH (b7 rfl) h).2)).1
 ·cases h
end
end Go.V
namespace Go.V
open Go.RowKit
def frzT (t : Nat) (st : XS) : Option XS := match st.env.get t with
 | some (.c (.ar i k)) => match st.own.get i with
  | some (.arr k' ⟨e,[]⟩ sz es) => bif Nat.beq k' k && Nat.ble 100 i && few t then (match yG st.own [(i,.arr (k' + 1) ⟨e,[]⟩ sz [])] with
   | some own' => some ⟨Tr.put (some (.c (.d (.sl sz es)))) 40 st.env t,own',st.k,i :: st.T,(i,.arr (k' + 1) ⟨e,[]⟩ sz []) :: st.U,st.cs,st.mks⟩
   | none => none) else none
  | _ => none
 | _ => none
def frzS (l : Option Value) (st : XS) : XS := match l with
 | some (.agg ⟨[.int .i64 (.ofNat t)]⟩) => match frzT t st with
  | some st' => st'
  | none => st
 | _ => st
def evC {P : Program} {G : List (Nat × List Value)} (E : Exe P G) (fl : Option Nat) (n : Nat) : Nat -> Code -> XS -> Option (Ex × XS)
 | 0,_,_ => none
 | f + 1,c,st => match c with
  | .skip => some (.normal,st)
  | .region id ops draw => bif fM ops then (match regX E n ops draw (frzS (E.lit st.k) st) with
   | some st' => some (.normal,st')
   | none => none) else none
  | .seq x y => match evC E fl n f x st with
   | some (.normal,st') => evC E fl n f y st'
   | some (e,st') => some (e,st')
   | none => none
  | .cond c x y => match j7 (cJ [] st.env) [] [] c with
   | some (.c (.d (.v (.bool b)))) => match E.orc st.k with
    | some true => evC E fl n f x ⟨st.env,st.own,st.k,st.T,st.U,(b = true) :: st.cs,st.mks⟩
    | some false => evC E fl n f y ⟨st.env,st.own,st.k,st.T,st.U,(b = false) :: st.cs,st.mks⟩
    | none => match b with
     | true => evC E fl n f x st
     | false => evC E fl n f y st
   | _ => none
  | .block id x => match evC E fl n f x st with
   | some (.exit k,st') => bif Nat.beq k id then some (.normal,st') else some (.exit k,st')
   | some (e,st') => some (e,st')
   | none => none
  | .loop x => match evC E fl n f x st with
   | some (.normal,st') => evC E fl n f (.loop x) st'
   | some (e,st') => some (e,st')
   | none => none
  | .exit id => some (.exit id,st)
  | .ret => some (.ret,st)
  | _ => none
section
variable {P : Program} {G : List (Nat × List Value)} {E : Exe P G} {n : Nat} {fl : Option Nat}
theorem Goes.nil {V : Wp P -> (Exit -> Act -> World -> Prop) -> Act -> World -> Prop} {e : Ex} {st : XS} (h : ∀ (R : Wp P) (Q : Exit -> Act -> World -> Prop) (a : Act) (w : World),Q e.to a w -> V R Q a w) : Goes P G fl n V e st st :=
 ⟨[],[],[],rfl,rfl,rfl,rfl,fun x hx => by simp [keys] at hx,fun R fr own0 a w pl Q _ _ _ _ hok hQ => h R Q a w (hQ a w pl hok)⟩
theorem Goes.trans {V V1 V2 : Wp P -> (Exit -> Act -> World -> Prop) -> Act -> World -> Prop} {e1 e2 : Ex} {st st1 st2 : XS} (h1 : Goes P G fl n V1 e1 st st1) (h2 : Goes P G fl n V2 e2 st1 st2)
  (h : ∀ (R : Wp P) (Q : Exit -> Act -> World -> Prop) (a : Act) (w : World),V1 R (fun e a w => e = e1.to /\ V2 R (fun e a w => e = e2.to /\ Q e2.to a w) a w) a w -> V R Q a w) : Goes P G fl n V e2 st st2 := by
 obtain ⟨T1,U1,C1,a1,a2,a3,a4,a5,a6⟩ := h1.dl;obtain ⟨T2,U2,C2,b1,b2,b3,b4,b5,b6⟩ := h2.dl;refine ⟨T2 ++ T1,U2 ++ U1,C2 ++ C1,by rw [b1,a1,List.append_assoc],by rw [b2,a2,List.append_assoc],by rw [b3,a3,List.append_assoc],by rw [b4,a4,eK],fun x hx => ?_,fun R fr own0 a w pl Q hR hG hc ht hok hQ => ?_⟩;simp only [keys,List.map_append,List.mem_append] at hx ⊢;exact hx.imp (b5 x) (a5 x);obtain ⟨hc2,hc1⟩ := d3 hc;refine h R Q a w (a6 R fr own0 a w pl _ hR hG hc1 (fun i hi => ht i (by simp [hi])) hok fun a' w' pl' hok' => ⟨rfl,?_⟩);refine b6 R fr _ a' w' pl' _ hR hG hc2 (fun i hi => ?_) hok' fun a2 w2 pl2 hok2 => ⟨rfl,?_⟩
 rw [a4]; exact lT U1 (ht i (by simp [hi]));rw [<- eK] at hok2;exact hQ a2 w2 pl2 hok2
theorem Goes.one {V V1 : Wp P -> (Exit -> Act -> World -> Prop) -> Act -> World -> Prop} {e1 e : Ex} {st st1 : XS} (h1 : Goes P G fl n V1 e1 st st1)
  (h : ∀ (R : Wp P) (Q : Exit -> Act -> World -> Prop) (a : Act) (w : World),V1 R (fun e' a w => e' = e1.to /\ Q e.to a w) a w -> V R Q a w) : Goes P G fl n V e st st1 := by
 obtain ⟨T1,U1,C1,a1,a2,a3,a4,a5,a6⟩ := h1.dl;refine ⟨T1,U1,C1,a1,a2,a3,a4,a5,fun R fr own0 a w pl Q hR hG hc ht hok hQ => ?_⟩;exact h R Q a w (a6 R fr own0 a w pl _ hR hG hc ht hok fun a' w' pl' hok' => ⟨rfl,hQ a' w' pl' hok'⟩)
def g9 (R : Wp P) (c : Code) (Q : Exit -> Act -> World -> Prop) : Nat -> Act -> World -> Prop
 | 0 => fun _ _ => False
 | k + 1 => R.wp c (Exit.then (g9 R c Q k) Q)
theorem aEA {R : Wp P} {c : Code} {Q : Exit -> Act -> World -> Prop} {k : Nat} {a : Act} {w : World} (h : g9 R c Q k a w) : R.wp (.loop c) Q a w := by
 refine R.loop (fun k a w => g9 R c Q k a w) k h fun k a w h => ?_;cases k with
 | zero => exact h.elim
 | succ k =>
  refine R.mono h fun e a w h => ?_;cases e with
  | normal => exact ⟨k,by omega,h⟩
  | _ => exact h
def walkV (P : Program) (f : Nat) : Code -> Wp P -> (Exit -> Act -> World -> Prop) -> Act -> World -> Prop
 | .loop x => fun R Q => g9 R x Q f
 | c => fun R Q => R.wp c Q
theorem cW {f : Nat} {c : Code} {R : Wp P} {Q : Exit -> Act -> World -> Prop} {a : Act} {w : World} (h : walkV P f c R Q a w) : R.wp c Q a w := by
 cases c with
 | loop x => exact aEA h
 | _ => exact h
theorem jC {st : XS} {fr : Fr} {own0 : Own} {a : Act} {w : World} {pl : Pl} {c : Operand} {b : Bool} (hok : Ok fr n (cJ [] st.env) own0 a w pl) (h : j7 (cJ [] st.env) [] [] c = some (.c (.d (.v (.bool b))))) : a.eval c = .bool b :=
 Rd.exact (iN hok [] [] c _ h holds_nil holds_nil)
theorem frzT_ok {t : Nat} {st st' : XS} (h : frzT t st = some st') : Goes P G fl n (fun _ Q => Q .normal) .normal st st' := by
 unfold frzT at h;split at h;rename_i i k hsl;split at h;rename_i k' e sz es hi;cases hc : (Nat.beq k' k && Nat.ble 100 i && few t) with
 | false => rw [hc] at h; cases h
 | true =>
  rw [hc] at h;simp only [cond_true] at h;simp only [bIQ] at hc;obtain ⟨⟨hk,h100⟩,hft⟩ := hc;have hk := Nat.eq_of_beq_eq_true hk;subst hk;split at h;rename_i own' hset;simp only [oIQ] at h;subst h;refine ⟨[i],[(i,.arr (k' + 1) ⟨e,[]⟩ sz [])],[],rfl,rfl,rfl,iG hset,fun x hx => by simpa [keys] using hx,fun R fr own0 a w pl Q hR hG hc ht hok hQ => ?_⟩;have h0 : own0 i = some (.arr k' ⟨e,[]⟩ sz es) := (ht i (by simp)).trans hi;have ok := hok.ok;obtain ⟨pl',m',L,hr⟩ := ok.mem.freeze h0 (Nat.le_of_ble_eq_true h100);have ok' := ok.later m' L;obtain ⟨e1,e2⟩ := vW L hok.bx;have hv : COk w pl own0 (.ar i k') (a.tmps.getD t undef) := ok.yes t [] (.c (.ar i k')) (by simp [cJ,aI,hsl]) holds_nil;refine hQ a w pl' ⟨⟨ok'.mem.of.to _ _,?_,ok'.size,fun u p sv hu hp => ?_,fun u p sv hu hp => ?_,fun q hq => ok'.late q hq⟩,e2⟩;show a.defers = mkD pl' st.mks;have hdd : a.defers = mkD pl st.mks := ok.defers;rw [hdd,e1];simp only [cJ,aI,me,pIQ] at hu;obtain ⟨s',hs',_,rfl⟩ := hu;rw [Tr.get_put40 hft] at hs';by_cases hut : u = t;subst hut;rw [if_pos rfl] at hs';simp only [oIQ] at hs';subst hs';rw [cU (w := w) hv h0];exact hr;rw [if_neg hut] at hs';exact ok'.yes u [] s' (by simp [cJ,aI,hs']) holds_nil;simp only [cJ,aI,me,pIQ] at hu;obtain ⟨_,_,rfl,_⟩ := hu;exact absurd holds_nil hp;cases h
 cases h;cases h
theorem frzS_ok (l : Option Value) (st : XS) : Goes P G fl n (fun _ Q => Q .normal) .normal st (frzS l st) := by
 unfold frzS;split;split;rename_i h; exact frzT_ok h;exact Goes.nil fun R Q a w hq => hq;exact Goes.nil fun R Q a w hq => hq
theorem aF5 (hE : ExeOk E) (hm : P.follows .mixedOrders = true) : ∀ (f : Nat) (c : Code) (e : Ex) (st st' : XS),evC E fl n f c st = some (e,st') -> Goes P G fl n (walkV P f c) e st st'
 | 0,c,e,st,st',h => by simp [evC] at h
 | f + 1,c,e,st,st',h => by
  have ih := aF5 hE hm f;cases c with
  | skip =>
   simp only [evC,oIQ,pIQ] at h;obtain ⟨rfl,rfl⟩ := h;exact Goes.nil fun R Q a w hq => R.skip hq
  | region id ops draw =>
   simp only [evC] at h;cases hnd : fM ops with
   | false =>
    rw [hnd] at h;cases h
   | true =>
    rw [hnd] at h;simp only [cond_true] at h;split at h;rename_i st1 hr;simp only [oIQ,pIQ] at h;obtain ⟨rfl,rfl⟩ := h;refine Goes.trans (frzS_ok (E.lit st.k) st) (regX_ok (id := id) hE hm hnd hr) fun R Q a w hq => ?_;exact R.mono hq.2 fun e' a w h => by obtain ⟨rfl,h⟩ := h; exact h
    cases h
  | seq x y =>
   simp only [evC] at h;split at h;rename_i st1 hx;refine Goes.trans (ih x _ _ _ hx) (ih y _ _ _ h) fun R Q a w hq => ?_;refine R.seq (R.mono (cW hq) fun e' a w h => ?_);obtain ⟨rfl,h⟩ := h;exact R.mono (cW h) fun e' a w h => by obtain ⟨rfl,h⟩ := h; exact h
   rename_i e1 st1 hne hx;simp only [oIQ,pIQ] at h;obtain ⟨rfl,rfl⟩ := h;refine Goes.one (ih x _ _ _ hx) fun R Q a w hq => ?_;refine R.seq (R.mono (cW hq) fun e' a w h => ?_);obtain ⟨rfl,h⟩ := h;cases e1 with
   | normal => exact (hne rfl).elim
   | exit k => exact h
   | ret => exact h
   cases h
  | cond c x y =>
   simp only [evC] at h;split at h;rename_i b hb;split at h;obtain ⟨T1,U1,C1,a1,a2,a3,a4,a5,a6⟩ := (ih x _ _ _ h).dl;refine ⟨T1,U1,C1 ++ [b = true],a1,a2,by rw [a3]; simp,a4,a5,fun R fr own0 a w pl Q hR hG hc ht hok hQ => ?_⟩;obtain ⟨hc1,hc2⟩ := d3 hc;have hc2 : b = true := hc2;exact R.cond (jC hok.ok hb) (fun _ => cW (a6 R fr own0 a w pl Q hR hG hc1 ht hok hQ)) (fun h => by rw [hc2] at h; cases h);obtain ⟨T1,U1,C1,a1,a2,a3,a4,a5,a6⟩ := (ih y _ _ _ h).dl;refine ⟨T1,U1,C1 ++ [b = false],a1,a2,by rw [a3]; simp,a4,a5,fun R fr own0 a w pl Q hR hG hc ht hok hQ => ?_⟩;obtain ⟨hc1,hc2⟩ := d3 hc;have hc2 : b = false := hc2;exact R.cond (jC hok.ok hb) (fun h => by rw [hc2] at h; cases h) (fun _ => cW (a6 R fr own0 a w pl Q hR hG hc1 ht hok hQ));cases b with
   | true =>
    obtain ⟨T1,U1,C1,a1,a2,a3,a4,a5,a6⟩ := (ih x _ _ _ h).dl;refine ⟨T1,U1,C1,a1,a2,a3,a4,a5,fun R fr own0 a w pl Q hR hG hc ht hok hQ => ?_⟩;exact R.cond (jC hok.ok hb) (fun _ => cW (a6 R fr own0 a w pl Q hR hG hc ht hok hQ)) (fun h => by cases h)
   | false =>
    obtain ⟨T1,U1,C1,a1,a2,a3,a4,a5,a6⟩ := (ih y _ _ _ h).dl;refine ⟨T1,U1,C1,a1,a2,a3,a4,a5,fun R fr own0 a w pl Q hR hG hc ht hok hQ => ?_⟩;exact R.cond (jC hok.ok hb) (fun h => by cases h) (fun _ => cW (a6 R fr own0 a w pl Q hR hG hc ht hok hQ))
   cases h
  | block id x =>
   simp only [evC] at h;split at h;rename_i k st1 hx;cases hk : Nat.beq k id with
   | true =>
    rw [hk] at h;simp only [cond_true,oIQ,pIQ] at h;obtain ⟨rfl,rfl⟩ := h;refine Goes.one (ih x _ _ _ hx) fun R Q a w hq => ?_;refine R.block (R.mono (cW hq) fun e' a w h => ?_);obtain ⟨rfl,h⟩ := h;have := Nat.eq_of_beq_eq_true hk;subst this;simp only [Ex.to,Exit.inBlock,if_true];exact h
   | false =>
    rw [hk] at h;simp only [cond_false,oIQ,pIQ] at h;obtain ⟨rfl,rfl⟩ := h;refine Goes.one (ih x _ _ _ hx) fun R Q a w hq => ?_;refine R.block (R.mono (cW hq) fun e' a w h => ?_);obtain ⟨rfl,h⟩ := h;have hne : k ≠ id := fun e => by subst e; rw [Nat.beq_refl] at hk; cases hk
    simp only [Ex.to,Exit.inBlock,if_neg hne];exact h
   rename_i e1 st1 hne hx;simp only [oIQ,pIQ] at h;obtain ⟨rfl,rfl⟩ := h;refine Goes.one (ih x _ _ _ hx) fun R Q a w hq => ?_;refine R.block (R.mono (cW hq) fun e' a w h => ?_);obtain ⟨rfl,h⟩ := h;cases e1 with
   | normal => exact h
   | exit k => exact (hne k rfl).elim
   | ret => exact h
   cases h
  | loop x =>
   simp only [evC] at h;split at h;rename_i st1 hx;refine Goes.trans (ih x _ _ _ hx) (ih (.loop x) _ _ _ h) fun R Q a w hq => ?_;show R.wp x (Exit.then (g9 R x Q f) Q) a w;refine R.mono (cW hq) fun e' a w h => ?_;obtain ⟨rfl,h⟩ := h;have mono : ∀ (k : Nat) (Q Q' : Exit -> Act -> World -> Prop),(∀ e a w,Q e a w -> Q' e a w) -> ∀ a w,g9 R x Q k a w -> g9 R x Q' k a w := by
    intro k Q Q' hQQ
    induction k with
    | zero => exact fun _ _ h => h
    | succ k ihk =>
     intro a w h;refine R.mono h fun e a w h => ?_;cases e with
     | normal => exact ihk a w h
     | _ => exact hQQ _ _ _ h
   exact mono f _ _ (fun e' a w h => by obtain ⟨rfl,h⟩ := h; exact h) a w h;rename_i e1 st1 hne hx;simp only [oIQ,pIQ] at h;obtain ⟨rfl,rfl⟩ := h;refine Goes.one (ih x _ _ _ hx) fun R Q a w hq => ?_;show R.wp x (Exit.then (g9 R x Q f) Q) a w;refine R.mono (cW hq) fun e' a w h => ?_;obtain ⟨rfl,h⟩ := h;cases e1 with
   | normal => exact (hne rfl).elim
   | exit k => exact h
   | ret => exact h
   cases h
  | exit id =>
   simp only [evC,oIQ,pIQ] at h;obtain ⟨rfl,rfl⟩ := h;exact Goes.nil fun R Q a w hq => R.exit hq
  | ret =>
   simp only [evC,oIQ,pIQ] at h;obtain ⟨rfl,rfl⟩ := h;exact Goes.nil fun R Q a w hq => R.ret hq
  | _ => simp [evC] at h
end
end Go.V
namespace Go.V
open Go.RowKit
section
variable {P : Program} {fr : Fr} {n : Nat} {a : Act} {w : World} {pl : Pl}
def p6 (P : Program) (env : Env) (own : Own) : ResultVar -> Option SV
 | .tmp t => match env t with
  | some ([],s) => some s
  | _ => none
 | .cell x t => match env x with
  | some ([],.c (.bx i off)) => match own i with
   | some (.box ⟨.c _,_⟩ cells) => j8 P t cells off
   | _ => none
  | _ => none
def dZ (P : Program) (env : Env) (own : Own) : List ResultVar -> Option (List (Bool × List C))
 | [] => some []
 | r :: l => match p6 P env own r with
  | some s => match partOf s,dZ P env own l with
   | some p,some q => some (p :: q)
   | _,_ => none
  | none => none
def sF (P : Program) (env : Env) (own : Own) (fn : Func) : Option SV :=
 match fn.results.toList with
 | [r] => p6 P env own r
 | l => match dZ P env own l with
  | some q => some (.tup q)
  | none => none
theorem aBX {env : Env} {own : Own} (h : Ok fr n env own a w pl) {r : ResultVar} {s : SV} (hr : p6 P env own r = some s) : ∃ v,(Eng.resRun a.tmps r).run P w = .ok v w /\ bD w pl own s v := by
 cases r with
 | tmp t =>
  simp only [p6] at hr;split at hr;rename_i s' hf;simp only [oIQ] at hr;subst hr;exact ⟨_,by simp [Eng.resRun],h.yes t [] _ hf holds_nil⟩;cases hr
 | cell x t =>
  simp only [p6] at hr;split at hr;rename_i i off hf;split at hr;rename_i ty cells ho;obtain ⟨_,hv⟩ := h.yes x [] _ hf holds_nil;obtain ⟨vs,hb,h2⟩ := h.mem.obj i _ ho;obtain ⟨v,hv2,hok⟩ := eZ hr (iO h2);rw [Nat.zero_add] at hv2;have hl := Eng.run_loadB hv2 hb;simp only [Instr.loadAt,Instr.sureAddr,Sem.run_bind,Sem.run_pure,an] at hl;exact ⟨v,by simp [Eng.resRun,hv,asAddr,hl],hok⟩;cases hr;cases hr
theorem qC {env : Env} {own : Own} (h : Ok fr n env own a w pl) : ∀ {l : List ResultVar} {q : List (Bool × List C)},dZ P env own l = some q -> ∃ vs : List Value,(l.mapM (Eng.resRun a.tmps)).run P w = .ok vs w /\ All2 (bV w pl own) q vs
 | [],q,hq => by simp only [dZ,oIQ] at hq; subst hq; exact ⟨[],by simp,All2.nil⟩
 | r :: l,q,hq => by
  simp only [dZ] at hq;split at hq;rename_i s hs;split at hq;rename_i p q' hp hq';simp only [oIQ] at hq;subst hq;obtain ⟨v,h1,h2⟩ := aBX h hs;obtain ⟨vs,h3,h4⟩ := qC h hq';exact ⟨v :: vs,by simp [h1,h3],All2.cons (vO hp h2) h4⟩;cases hq;cases hq
theorem aMT {env : Env} {own : Own} {fn : Func} (h : Ok fr n env own a w pl) {s : SV} (hs : sF P env own fn = some s) : ∃ v,(results fn a.tmps).run P w = .ok v w /\ bD w pl own s v := by
 rw [Eng.results_eq];have hmm : (fn.results.mapM (Eng.resRun a.tmps)) = (do let vs <- fn.results.toList.mapM (Eng.resRun a.tmps); pure vs.toArray) := by
  rw [Array.mapM_eq_mapM_toList];rfl
 rw [hmm];unfold sF at hs;split at hs;rename_i r hr;obtain ⟨v,h1,h2⟩ := aBX h hs;refine ⟨v,?_,h2⟩;rw [hr];simp [h1];rename_i l hne;split at hs;rename_i q hq;simp only [oIQ] at hs;subst hs;obtain ⟨vs,h1,h2⟩ := qC h hq;refine ⟨.tuple vs.toArray,?_,vs,rfl,h2⟩;have hl : vs.length ≠ 1 := by
  intro h1';have hlen : ∀ (l : List ResultVar) (q : List (Bool × List C)),dZ P env own l = some q -> q.length = l.length := by
   intro l
   induction l with
   | nil => intro q h; simp only [dZ,oIQ] at h; subst h; rfl
   | cons x r ih =>
    intro q h;simp only [dZ] at h;split at h;split at h;rename_i p q' hp hq';simp only [oIQ] at h;subst h;simp [ih q' hq'];cases h;cases h
  have e1 := hlen _ _ hq;have e2 := h2.1;have e3 : fn.results.toList.length = 1 := by omega
  obtain ⟨r,hr⟩ := List.length_eq_one_iff.1 e3;exact hne r hr
 simp [h1,hl];cases hs
end
def dX (env : Env) : List ResultVar -> List Nat
 | [] => []
 | .cell x _ :: r => match env x with
  | some ([],.c (.bx i _)) => i :: dX env r
  | _ => dX env r
 | _ :: r => dX env r
theorem p5 {P : Program} {env : Env} {own own' : Own} {r : ResultVar} (h : ∀ i ∈ dX env [r],own i = own' i) : p6 P env own r = p6 P env own' r := by
 cases r with
 | tmp t => rfl
 | cell x t =>
  simp only [p6];split;rename_i i off hx;rw [h i (by simp [dX,hx])];rfl
theorem jZ {P : Program} {env : Env} {own own' : Own} : ∀ {l : List ResultVar},(∀ i ∈ dX env l,own i = own' i) -> dZ P env own l = dZ P env own' l
 | [],_ => rfl
 | r :: l,h => by
  have h1 : ∀ i ∈ dX env [r],i ∈ dX env (r :: l) := by
   intro i hi;cases r with
   | tmp t => simp [dX] at hi
   | cell x t =>
    simp only [dX] at hi ⊢;split;rename_i k off hx;rw [hx] at hi;simp only [List.mem_singleton] at hi;simp [hi];rename_i hne;split at hi;rename_i k off hx; exact absurd hx (hne k off);cases hi
  have h2 : ∀ i ∈ dX env l,i ∈ dX env (r :: l) := by
   intro i hi;cases r with
   | tmp t => exact hi
   | cell x t =>
    simp only [dX];split;exact List.mem_cons_of_mem _ hi;exact hi
  simp only [dZ];rw [p5 (own := own) (own' := own') fun i hi => h i (h1 i hi),jZ fun i hi => h i (h2 i hi)]
theorem aBW {P : Program} {env : Env} {own own' : Own} {fn : Func} (h : ∀ i ∈ dX env fn.results.toList,own i = own' i) : sF P env own fn = sF P env own' fn := by
 unfold sF;split;rename_i r hr;rw [hr] at h;exact p5 h;rw [jZ h]
def aAU {P : Program} (df : List (EntD P)) : List Mk -> Tr Ob -> Option (Tr Ob × List (Nat × Ob))
 | [],own => some (own,[])
 | _ :: _,_ => none
def sW : List Mk -> List Nat
 | [] => []
 | .mark i :: r => i :: sW r
 | .df _ _ :: r => sW r
section
variable {P : Program} {G : List (Nat × List Value)} {fr : Fr}
theorem wU {df : List (EntD P)} {fn : Func} {tmps : Array Value} {R : Ending -> World -> Prop} {pl : Pl} : ∀ {mk : List Mk} {own own2 : Tr Ob} {us : List (Nat × Ob)},aAU df mk own = some (own2,us) ->
  own2.get = iZ us own.get /\ (∀ x ∈ keys us,x ∈ sW mk) /\ ∀ (own0 : Own) (w : World),(∀ i ∈ sW mk,own0 i = own.get i) -> Mem fr own0 w pl ->
   (∀ w',Mem fr (iZ us own0) w' pl -> Later w pl own0 w' pl (iZ us own0) -> LeavesInM Fence.wide 0 P fn tmps R [] .returning w') -> LeavesInM Fence.wide 0 P fn tmps R (mkD pl mk) .returning w
 | [],own,own2,us,h => by
  simp only [aAU,oIQ,pIQ] at h;obtain ⟨rfl,rfl⟩ := h;exact ⟨rfl,fun x hx => by simp [keys] at hx,fun own0 w _ m hk => hk w m (Later.refl _ _ _)⟩
 | _ :: _,own,own2,us,h => by simp [aAU] at h
def aNO : Nat -> List SV -> Tr SV
 | _,[] => .e
 | k,s :: r => Tr.put (some s) 40 (aNO (k + 1) r) k
theorem aCA : ∀ {l : List SV} {k t : Nat} {sv : SV},few (k + l.length) = true -> (aNO k l).get t = some sv -> ∃ i,t = k + i /\ l[i]? = some sv
 | [],k,t,sv,_,h => by simp [aNO,Tr.get] at h
 | s :: r,k,t,sv,hf,h => by
  simp only [aNO] at h;have hk : few k = true := by
   simp only [few,Nat.ble_eq] at hf ⊢;simp only [lc] at hf;omega
  rw [Tr.get_put40 hk] at h;split at h;rename_i ht;simp only [oIQ] at h;exact ⟨0,by omega,by simp [h]⟩;obtain ⟨i,h1,h2⟩ := aCA (by rw [show k + 1 + r.length = k + (s :: r).length by simp; omega]; exact hf) h;exact ⟨i + 1,by omega,by simpa using h2⟩
def Ex.isEx : Ex -> Bool
 | .exit _ => true
 | _ => false
def runX {P : Program} {G : List (Nat × List Value)} (E : Exe P G) (F : Nat) : Step := fun k f svs own =>
 match P.funcs[f]? with
 | some fn => match fn.body with
  | some c => bif Nat.ble svs.length fn.ntmps && few fn.ntmps then (match evC E none fn.ntmps F c ⟨aNO 0 svs,own,k,[],[],[],[]⟩ with
   | some (e,st) => bif Ex.isEx e then none else (match aAU E.df st.mks st.own with
    | some (own2,us) => match sF P (cJ [] st.env) own2.get fn with
     | some s => some ⟨s,(us ++ st.U).reverse,dX (cJ [] st.env) fn.results.toList ++ (sW st.mks ++ st.T),own2,st.k,st.cs⟩
     | none => none
    | none => none)
   | none => none) else none
  | none => none
 | none => none
theorem runX_ok {E : Exe P G} (hE : ExeOk E) (hm : P.follows .mixedOrders = true) (F : Nat) : aQS P G (runX E F) := by
 intro k f svs own r h;unfold runX at h;split at h;rename_i fn hfn;split at h;rename_i c hb;cases hchk : (Nat.ble svs.length fn.ntmps && few fn.ntmps) with
 | false => rw [hchk] at h; cases h
 | true =>
  rw [hchk] at h;simp only [cond_true] at h;simp only [bIQ,Nat.ble_eq] at hchk;obtain ⟨hle,hfew⟩ := hchk;split at h;rename_i e st hev;cases hex : Ex.isEx e with
  | true => rw [hex] at h; cases h
  | false =>
   rw [hex] at h;simp only [cond_false] at h;split at h;rename_i own2 us hcl;split at h;rename_i s hret;simp only [oIQ] at h;subst h;obtain ⟨dT,dU,dC,a1,a2,a3,a4,a5,a6⟩ := (aF5 hE hm F c e _ st hev).dl;simp only [List.append_nil] at a1 a2 a3;subst a1;have hU := a2;subst a2;subst a3;obtain ⟨b1,b2,_⟩ := wU (fr := { w0 := default,X := [],G := [],F := fun _ => False }) (P := P) (fn := fn) (tmps := #[]) (R := fun _ _ => True) (pl := ⟨fun _ => False,fun _ => 0,fun _ => (none,0)⟩) hcl;refine ⟨by rw [b1,a4,<- eK,<- gN,List.reverse_reverse],fun x hx => ?_,fun fr own0 w pl vals hG hc ht m hv => ?_⟩;simp only [keys,List.map_reverse,List.map_append,List.mem_reverse,List.mem_append] at hx ⊢;rcases hx with hx | hx;exact .inr (.inl (b2 x hx));exact .inr (.inr (a5 x hx));have ht : ∀ i,i ∈ dX (cJ [] st.env) fn.results.toList \/ i ∈ sW st.mks \/ i ∈ st.T -> own0 i = own.get i := fun i hi => ht i (by simpa using hi);have hfn' : (fn.ntmps = fn.ntmps) := rfl;refine callsIn_wide.1 (callsIn_of_wp_marks (n := 0) hfn hb trivial (wpIn_wide.2 ?_));show (d6 P).wp c _ _ w;have hlen : vals.length = svs.length := hv.1.symm;refine cW (a6 (d6 P) { fr with lat := [(w,pl,own0)] } own0 _ w pl (bodyPostM Fence.wide 0 P fn _) rfl hG hc (fun i hi => ht i (.inr (.inr hi))) ⟨⟨m.to _ _,rfl,?_,?_,?_,?_⟩,fun i hi => by cases hi⟩ ?_);simp; omega;intro t p sv hfd _;simp only [cJ,aI,me,pIQ] at hfd;obtain ⟨s',hs',_,rfl⟩ := hfd;obtain ⟨i,rfl,hi⟩ := aCA (by
    simp only [few,Nat.ble_eq] at hfew ⊢;omega) hs'
   obtain ⟨v,hvi,hok⟩ := hv.get hi;have hlt := (gsQ.1 hvi).1;simp only [Nat.zero_add,Array.getD_eq_getD_getElem?];rw [Array.getElem?_append_left (by simpa using hlt)];simp [hvi];exact hok;intro t p sv hfd hh;simp only [cJ,aI,me,pIQ] at hfd;obtain ⟨_,_,rfl,_⟩ := hfd;exact absurd holds_nil hh;intro q hq;simp only [List.mem_singleton] at hq;subst hq;exact Later.refl _ _ _;intro a' w' pl' hok;obtain ⟨_,_,c3⟩ := wU (fr := fr) (P := P) (fn := fn) (tmps := a'.tmps) (R := fun e w' => ∃ v pl',e = .returned v /\ Mem fr (bB own0 (us ++ st.U).reverse) w' pl' /\ Later w pl own0 w' pl' (bB own0 (us ++ st.U).reverse) /\ bD w' pl' (bB own0 (us ++ st.U).reverse) s v) (pl := pl') hcl;have hownU : ∀ i,i ∈ dX (cJ [] st.env) fn.results.toList \/ i ∈ sW st.mks \/ i ∈ st.T -> iZ st.U own0 i = st.own.get i := fun i hi => by rw [a4]; exact lT _ (ht i hi)
   have fin := c3 (iZ st.U own0) w' (fun i hi => hownU i (.inr (.inl hi))) (Mem.of (fr := fr) (ds := fr.ds) hok.ok.mem.of) (fun w2 m2 L2 => by
    have ok2 := hok.ok.later (m2.to _ _) L2;have e0 : iZ us (iZ st.U own0) = bB own0 (us ++ st.U).reverse := by rw [<- eK,<- gN,List.reverse_reverse]
    rw [e0] at ok2 m2 L2;have hr2 : sF P (cJ [] st.env) (bB own0 (us ++ st.U).reverse) fn = some s := by
     rw [<- hret];refine aBW fun i hi => ?_;rw [<- e0,b1];exact lT _ (hownU i (.inl hi))
    obtain ⟨v,h1,h2⟩ := aMT ok2 hr2;exact ⟨v,h1,v,pl',rfl,m2,ok2.late (w,pl,own0) (by simp),h2⟩)
   have hdd : a'.defers = mkD pl' st.mks := hok.ok.defers;cases e with
   | normal => show LeavesInM Fence.wide 0 P fn a'.tmps _ a'.defers .returning w'; rw [hdd]; exact fin
   | exit id => cases hex
   | ret => show LeavesInM Fence.wide 0 P fn a'.tmps _ a'.defers .returning w'; rw [hdd]; exact fin
   cases h;cases h
  cases h
 cases h;cases h
end
end Go.V
namespace Go.V
open Go.RowKit
section
variable {P : Program} {G : List (Nat × List Value)}
def aF4 (T : List (Ent P G)) (ne : List (NE P)) (df : List (EntD P)) (orc : Nat -> Option Bool) (lit : Nat -> Option Value) (F : Nat) (hnt : Nat -> Option (List D)) : Nat -> Exe P G
 | 0 => ⟨T,ne,df,orc,lit,fun _ _ _ _ => none,fun _ _ _ _ => none,hnt⟩
 | d + 1 => ⟨T,ne,df,orc,lit,runX (aF4 T ne df orc lit F hnt d) F,(fun _ _ _ _ => none),hnt⟩
theorem lG {T : List (Ent P G)} {ne : List (NE P)} {df : List (EntD P)} {orc : Nat -> Option Bool} {lit : Nat -> Option Value} {F : Nat} {hnt : Nat -> Option (List D)} (hm : P.follows .mixedOrders = true) : ∀ d,ExeOk (aF4 T ne df orc lit F hnt d)
 | 0 => ⟨(by intro k f svs own r h; cases h),(by intro k f svs own r h; cases h)⟩
 | d + 1 => ⟨runX_ok (lG hm d) hm F,(by intro k f svs own r h; cases h)⟩
def xW (T : List (Ent P G)) (ne : List (NE P)) (df : List (EntD P)) (orc : Nat -> Option Bool) (lit : Nat -> Option Value) (F d : Nat) (f : FuncId) (ins : List SV) (hnt : Nat -> Option (List D) := fun _ => none) : Option (SV × List Prop) :=
 match (aF4 T ne df orc lit F hnt (d + 1)).call 100 f ins .e with
 | some r => some (aC8 r.own.get (fun _ => false) r.sv,r.cs)
 | none => none
theorem oY {T : List (Ent P G)} {ne : List (NE P)} {df : List (EntD P)} (orc : Nat -> Option Bool) (lit : Nat -> Option Value) (hnt : Nat -> Option (List D)) {F d : Nat} {f : FuncId} {ins : List SV} {out : SV} {cs : List Prop} (hm : P.follows .mixedOrders = true) (h : xW T ne df orc lit F d f ins hnt = some (out,cs)) (hc : conj cs) : Spec P G f ins [] out [] := by
 unfold xW at h;split at h;rename_i r hr;simp only [oIQ,pIQ] at h;obtain ⟨rfl,rfl⟩ := h;obtain ⟨c1,c2,c3⟩ := (lG (T := T) (ne := ne) (df := df) (orc := orc) (lit := lit) (F := F) (hnt := hnt) hm (d + 1)).call _ _ _ _ _ hr;intro fr w pl args hw hG m ha;have hE : lookO [] = (Tr.e : Tr Ob).get := by funext i; rfl
 have hX : ∀ i b,(i,b) ∉ fr.X := by
  intro i b hib;rcases m.bor i b hib with ⟨_,_,h,_⟩ | ⟨_,_,_,_,h⟩ <;> cases h
 refine (c3 fr (lookO []) w pl args hG.G hc (fun i _ => by rw [hE]) m ha).mono ?_;rintro e w' ⟨v,pl',rfl,m',L,hs⟩;rw [hE,<- c1] at m' hs;have hk : b9 r.own.get (fun _ => false) = lookO [] := by funext i; simp [b9,lookO]
 refine ⟨v,pl',rfl,?_,?_⟩;rw [<- hk]; exact iP m' fun i b h => absurd h (hX i b);rw [<- hk]; exact oI m' (fun i b h => absurd h (hX i b)) hs;cases h
theorem a8 {T : List (Ent P G)} {ne : List (NE P)} {df : List (EntD P)} (orc : Nat -> Option Bool) (lit : Nat -> Option Value) {F d : Nat} {f : FuncId} {ins : List SV} {out : SV} {cs : List Prop} (hm : P.follows .mixedOrders = true) (h : xW T ne df orc lit F d f ins = some (out,cs)) (hc : conj cs) : Spec P G f ins [] out [] := oY orc lit nFQ hm h hc
end
end Go.V
namespace Go.V
open Go.RowKit
def jP (l : List Nat) (j : Nat) : Bool := l.any (Nat.beq j)
def nodupB : List Nat -> Bool
 | [] => true
 | x :: r => !(jP r x) && nodupB r
theorem hasN_iff {l : List Nat} {j : Nat} : jP l j = true ↔ j ∈ l := by
 unfold jP;rw [List.any_eq_true];constructor;rintro ⟨x,hx,h⟩; rw [Nat.eq_of_beq_eq_true h]; exact hx;intro h; exact ⟨j,h,Nat.beq_refl j⟩
theorem gG : ∀ {l : List Nat},nodupB l = true -> l.Nodup
 | [],_ => List.nodup_nil
 | x :: r,h => by
  simp only [nodupB,bIQ,Bool.not_eq_true'] at h;refine List.nodup_cons.2 ⟨fun hx => ?_,gG h.2⟩;rw [hasN_iff.2 hx] at h;cases h.1
def vQ (own : Own) (keep : Nat -> Bool) : List Nat -> Option aZ
 | [] => some []
 | i :: r => match own i,vQ own keep r with
  | some o,some l => some ((i,kG own keep o) :: l)
  | _,_ => none
theorem l5 {own : Own} {keep : Nat -> Bool} : ∀ {l : List Nat} {p : aZ},vQ own keep l = some p -> ∀ j,lookO p j = if j ∈ l then (match own j with | some o => some (kG own keep o) | none => none) else none
 | [],p,h,j => by
  simp only [vQ,oIQ] at h;subst h;simp [lookO]
 | i :: r,p,h,j => by
  simp only [vQ] at h;split at h;rename_i o l ho hl;simp only [oIQ] at h;subst h;have ih := l5 hl j;by_cases hj : i = j;subst hj;simp [lookO,ho];have e2 : (i == j) = false := by simpa using hj
  have e3 : j ≠ i := fun h => hj h.symm;simp only [lookO,e2,mc,e3,false_or];exact ih;cases h
def number (l : List Nat) : Nat -> List (Nat × Nat)
 | k => match l with
  | [] => []
  | i :: r => (i,k) :: number r (k + 1)
theorem sV : ∀ (l : List Nat) (k : Nat),(number l k).map (·.1) = l
 | [],k => by simp [number]
 | i :: r,k => by simp [number,sV r (k + 1)]
theorem aB9 : ∀ (l : List Nat) (k : Nat) (j : Nat),j ∈ (number l k).map (·.2) -> k <= j
 | [],k,j,h => by simp [number] at h
 | i :: r,k,j,h => by
  simp only [number,mp1,mc] at h;rcases h with rfl | h
  ·exact lr _
  ·exact Nat.le_of_succ_le (aB9 r (k + 1) j h)
theorem vR : ∀ (l : List Nat) (k : Nat),((number l k).map (·.2)).Nodup
 | [],k => by simp [number]
 | i :: r,k => by
  simp only [number,mp1];refine List.nodup_cons.2 ⟨fun h => ?_,vR r (k + 1)⟩;have := aB9 r (k + 1) k h;omega
section
variable {P : Program} {G : List (Nat × List Value)}
def topN (T : List (Ent P G)) (ne : List (NE P)) (df : List (EntD P)) (orc : Nat -> Option Bool) (lit : Nat -> Option Value) (F d : Nat) (f : FuncId) (ins : List SV) : Option (SV × aZ × List Prop) :=
 match (aF4 T ne df orc lit F nFQ (d + 1)).call 100 f ins .e with
 | some r => match r.sv with
  | .c (.ar i _) =>
   match vQ r.own.get (jP (gS r.own.get 1000 [i] [])) (gS r.own.get 1000 [i] []) with
   | some obs => match sO (number (gS r.own.get 1000 [i] []) 100) false (aC8 r.own.get (jP (gS r.own.get 1000 [i] [])) r.sv),iA (number (gS r.own.get 1000 [i] []) 100) obs with
    | some out,some post => bif nodupB (gS r.own.get 1000 [i] []) && (gS r.own.get 1000 [i] []).all (Nat.ble 100) then some (out,post,r.cs) else none
    | _,_ => none
   | none => none
  | _ => none
 | none => none
theorem lX {T : List (Ent P G)} {ne : List (NE P)} {df : List (EntD P)} (orc : Nat -> Option Bool) (lit : Nat -> Option Value) {F d : Nat} {f : FuncId} {ins : List SV} {out : SV} {post : aZ} {cs : List Prop} (hm : P.follows .mixedOrders = true) (h : topN T ne df orc lit F d f ins = some (out,post,cs)) (hc : conj cs) : Spec P G f ins [] out post := by
 unfold topN at h;split at h
 ·rename_i r hr
  split at h
  ·rename_i i kk hsv
   revert h;generalize gS r.own.get 1000 [i] [] = ids;intro h;split at h
   ·rename_i obs ho
    split at h
    ·rename_i out' post' hout hpost
     cases hb : (nodupB ids && ids.all (Nat.ble 100)) with
     | false => rw [hb] at h; cases h
     | true =>
      rw [hb] at h;simp only [cond_true,oIQ,pIQ] at h;obtain ⟨rfl,rfl,rfl⟩ := h;rw [bIQ] at hb;obtain ⟨hnd,hall⟩ := hb;have hnd := gG hnd;have h100 : ∀ j ∈ ids,100 <= j := fun j hj => Nat.le_of_ble_eq_true (at1.1 hall j hj);obtain ⟨c1,c2,c3⟩ := (lG (T := T) (ne := ne) (df := df) (orc := orc) (lit := lit) (F := F) (hnt := fun _ => none) hm (d + 1)).call _ _ _ _ _ hr;intro fr w pl args hw hG m ha;have hE : lookO [] = (Tr.e : Tr Ob).get := by funext i; rfl
      have hX : ∀ i b,(i,b) ∉ fr.X := by
       intro i b hib;rcases m.bor i b hib with ⟨_,_,h,_⟩ | ⟨_,_,_,_,h⟩ <;> cases h
      refine (c3 fr (lookO []) w pl args hG.G hc (fun i _ => by rw [hE]) m ha).mono ?_;rintro e w' ⟨v,pl',rfl,m',L,hs⟩;rw [hE,<- c1] at m' hs;have hk : b9 r.own.get (jP ids) = lookO obs := by
       funext j;rw [l5 ho j];unfold b9;by_cases hj : j ∈ ids
       ·rw [if_pos (hasN_iff.2 hj),if_pos hj]
        cases r.own.get j <;> rfl
       ·rw [if_neg hj]
        cases hq : jP ids j with
        | false => rfl
        | true => exact absurd (hasN_iff.1 hq) hj
      have m1 := iP (keep := jP ids) m' fun i b h => absurd h (hX i b);have s1 := oI (keep := jP ids) m' (fun i b h => absurd h (hX i b)) hs;rw [hk] at m1 s1;obtain ⟨pl2,m2,R⟩ := sM (ij := number ids 100) (vR ids 100) (by rw [sV]; exact hnd) (fun a b hab hlt => by
       have : a ∈ (number ids 100).map (·.1) := mm.2 ⟨(a,b),hab,rfl⟩
       rw [sV] at this;have := h100 a this;omega) hpost m1
      exact ⟨v,pl2,rfl,m2,R.s hout s1⟩
    ·cases h
   ·cases h
  ·cases h
 ·cases h
end
def lZ (dp : C -> Option D) (ov : List (Nat × C)) : Nat -> LD -> Option (LD)
 | _,[] => some []
 | j,[d] :: r => match lZ dp ov (j + 1) r with
  | some r' => match ov.lookup j with
   | some c => match dp c with
    | some d' => some ([d'] :: r')
    | none => none
   | none => some ([d] :: r')
  | none => none
 | _,_ => none
def wT (own : Own) : Nat -> C -> Option D
 | 0,_ => none
 | f + 1,c => match c with
  | .d x => some x
  | .ar i k => match own i with
   | some (.arr k' e sz es) => bif Nat.beq k' k then (match e.ov with
    | [] => some (.sl sz es)
    | x :: r => bif Nat.beq sz 1 && !(mkd (x :: r)) then (match lZ (wT own f) (x :: r) 0 es with
     | some es' => some (.sl 1 es')
     | none => none) else none) else none
   | _ => none
  | _ => none
theorem vN {dp : C -> Option D} {ov : List (Nat × C)} : ∀ {es es' : LD} {j : Nat},lZ dp ov j es = some es' -> es'.length = es.length /\ es'.flatten.length = es.flatten.length /\ (∀ ds ∈ es',ds.length = 1) /\
  ∀ q d',es'.flatten[q]? = some d' -> ∃ d,es.flatten[q]? = some d /\ ((∃ c,ov.lookup (j + q) = some c /\ dp c = some d') \/ (ov.lookup (j + q) = none /\ d' = d))
 | [],es',j,h => by
  simp only [lZ,oIQ] at h;subst h;simp
 | [] :: r,es',j,h => by simp [lZ] at h
 | (_ :: _ :: _) :: r,es',j,h => by simp [lZ] at h
 | [d] :: r,es',j,h => by
  simp only [lZ] at h;split at h;rename_i r' hr;obtain ⟨a1,a2,a3,a4⟩ := vN hr;have tail : ∀ (y : D) q d',([y] :: r').flatten[q + 1]? = some d' -> ∃ x,([d] :: r).flatten[q + 1]? = some x /\ ((∃ c,ov.lookup (j + (q + 1)) = some c /\ dp c = some d') \/ (ov.lookup (j + (q + 1)) = none /\ d' = x)) := by
   intro y q d' hq;obtain ⟨x,hx,hc⟩ := a4 q d' (by simpa using hq);exact ⟨x,by simpa using hx,by rw [show j + (q + 1) = j + 1 + q by omega]; exact hc⟩
  split at h;rename_i c hc;split at h;rename_i d1 hd;simp only [oIQ] at h;subst h;refine ⟨by simp [a1],by simp [a2],fun ds hds => ?_,fun q d' hq => ?_⟩;rcases mc.1 hds with rfl | hds;rfl;exact a3 ds hds;cases q with
  | zero =>
   simp only [List.flatten_cons,List.cons_append,cz,oIQ] at hq;subst hq;exact ⟨d,by simp,.inl ⟨c,hc,hd⟩⟩
  | succ q => exact tail _ q d' hq
  cases h;rename_i hc;simp only [oIQ] at h;subst h;refine ⟨by simp [a1],by simp [a2],fun ds hds => ?_,fun q d' hq => ?_⟩;rcases mc.1 hds with rfl | hds;rfl;exact a3 ds hds;cases q with
  | zero =>
   simp only [List.flatten_cons,List.cons_append,cz,oIQ] at hq;subst hq;exact ⟨d,by simp,.inr ⟨hc,rfl⟩⟩
  | succ q => exact tail _ q d' hq
  cases h
theorem aC6 {fr : Fr} {own : Own} {w : World} {pl : Pl} (m : Mem fr own w pl) (hX : ∀ i b,(i,b) ∉ fr.X) : ∀ {f : Nat} {c : C} {d : D} {v : Value},wT own f c = some d -> COk w pl own c v -> Rd w (Sh pl (lookO [])) d v
 | 0,c,d,v,h,_ => by cases h
 | f + 1,c,d,v,h,hv => by
  have T : ∀ d v,Rd w (Sh pl own) d v -> Rd w (Sh pl (lookO [])) d v := fun d v h => Rd.frame (fun _ _ _ => rfl) (fun _ _ h => ⟨h.1,fun j hj => by simp [aN,lookO] at hj⟩) h;cases c with
  | d x =>
   simp only [wT,oIQ] at h;subst h;exact T _ _ hv
  | ar i k =>
   simp only [wT] at h;obtain ⟨k',e,sz,es,ho,hkk,hw,h1⟩ := hv;rw [ho] at h;simp only at h;cases hb : Nat.beq k' k with
   | false => rw [hb] at h; cases h
   | true =>
    rw [hb] at h;simp only [cond_true] at h;have hk := Nat.eq_of_beq_eq_true hb;have hblk : ∀ b,(pl.sl i).1.map (·.block) = some b -> Sh pl (lookO []) b := by
     intro b hbb;have hbi : aN pl own i = some b := by simp only [aN,ho]; exact hbb
     refine ⟨?_,fun j hj => by simp [aN,lookO] at hj⟩;rcases m.base i b hbi with h2 | h2
     ·exact (m.hS b).2 (.inr h2)
     ·exact absurd h2 (hX i b)
    obtain ⟨e,ov⟩ := e;split at h
    ·rename_i hov
     have hov : ov = [] := hov;subst hov;simp only [oIQ] at h;subst h;rw [hw hk];exact uB (m.obj i _ ho) hblk T
    ·rename_i x r hov
     have hov : ov = x :: r := hov;subst hov;cases hz : (Nat.beq sz 1 && !(mkd (x :: r))) with
     | false => rw [hz] at h; cases h
     | true =>
      rw [hz] at h;rw [bIQ,Bool.not_eq_true'] at hz;obtain ⟨hz,hmk⟩ := hz;have hz := Nat.eq_of_beq_eq_true hz;subst hz;simp only [cond_true] at h;split at h
      ·rename_i es' hp
       simp only [oIQ] at h;subst h;obtain ⟨a1,a2,a3,a4⟩ := vN hp;obtain ⟨xs,hx,hr,hs⟩ := m.obj i _ ho;rw [hw hk,<- a1];rw [<- a1] at hx;have hx : ownsQ (mkd (x :: r)) w 0 e 1 (.slice (pl.sl i).1 es'.length (pl.sl i).2) es'.length xs := hx;rw [hmk] at hx;refine o0 hx hblk ⟨by rw [a2]; exact hr.1,fun q d' u hd hu => ?_⟩ a3;obtain ⟨d0,hd0,hc⟩ := a4 q d' hd;have hq := hr.2 q d0 u hd0 hu;rw [Nat.zero_add] at hc;rcases hc with ⟨c,hl,hdp⟩ | ⟨hl,rfl⟩
       ·have hq : COk w pl own c u := by
         have := hq;rw [hl] at this;exact this
        exact aC6 m hX hdp hq
       ·rw [hl] at hq
        exact T _ _ hq
      ·cases h
  | _ => simp [wT] at h
section
variable {P : Program} {G : List (Nat × List Value)}
def topD (T : List (Ent P G)) (ne : List (NE P)) (df : List (EntD P)) (orc : Nat -> Option Bool) (lit : Nat -> Option Value) (F d : Nat) (f : FuncId) (ins : List SV) : Option (SV × List Prop) :=
 match (aF4 T ne df orc lit F nFQ (d + 1)).call 100 f ins .e with
 | some r => match r.sv with
  | .c c => match wT r.own.get 20 c with
   | some x => some (.c (.d x),r.cs)
   | none => none
  | _ => none
 | none => none
theorem yE {T : List (Ent P G)} {ne : List (NE P)} {df : List (EntD P)} (orc : Nat -> Option Bool) (lit : Nat -> Option Value) {F d : Nat} {f : FuncId} {ins : List SV} {out : SV} {cs : List Prop} (hm : P.follows .mixedOrders = true) (h : topD T ne df orc lit F d f ins = some (out,cs)) (hc : conj cs) : Spec P G f ins [] out [] := by
 unfold topD at h;split at h;rename_i r hr;split at h;rename_i c hsv;split at h;rename_i x hx;simp only [oIQ,pIQ] at h;obtain ⟨rfl,rfl⟩ := h;obtain ⟨c1,c2,c3⟩ := (lG (T := T) (ne := ne) (df := df) (orc := orc) (lit := lit) (F := F) (hnt := fun _ => none) hm (d + 1)).call _ _ _ _ _ hr;intro fr w pl args hw hG m ha;have hE : lookO [] = (Tr.e : Tr Ob).get := by funext i; rfl
 have hX : ∀ i b,(i,b) ∉ fr.X := by
  intro i b hib;rcases m.bor i b hib with ⟨_,_,h,_⟩ | ⟨_,_,_,_,h⟩ <;> cases h
 refine (c3 fr (lookO []) w pl args hG.G hc (fun i _ => by rw [hE]) m ha).mono ?_;rintro e w' ⟨v,pl',rfl,m',L,hs⟩;rw [hE,<- c1] at m' hs;have hk : b9 r.own.get (fun _ => false) = lookO [] := by funext i; simp [b9,lookO]
 refine ⟨v,pl',rfl,?_,?_⟩;rw [<- hk]; exact iP m' fun i b h => absurd h (hX i b);rw [hsv] at hs;exact aC6 m' hX hx hs
 iterate 3 cases h
end
end Go.V
namespace Go.V
open Go.RowKit
section
variable {P : Program} {G : List (Nat × List Value)}
def eT (f : FuncId) (tell : Nat -> List (Nat × Ob) -> Option (SV × List (Nat × Ob))) : Ent P G where
 f := f
 ask := fun k ins refs => match tell k refs with
  | some (out,post) => some (out,post,[Spec P G f ins refs out post])
  | none => none
 ok := by
  intro k ins refs post out cs h hc;split at h;cases h; exact hc;cases h
def topG (T : List (Ent P G)) (ne : List (NE P)) (df : List (EntD P)) (orc : Nat -> Option Bool) (lit : Nat -> Option Value) (hnt : Nat -> Option (List D)) (F d : Nat) (f : FuncId) (ins : List SV) (refs : aZ) (ij : List (Nat × Nat)) : Option (SV × aZ × List Prop) :=
 match yG .e refs.reverse with
 | some own => match (aF4 T ne df orc lit F hnt (d + 1)).call 100 f ins own with
  | some r => match vQ r.own.get (jP (ij.map (·.1))) (ij.map (·.1)) with
   | some obs => match sO ij false (aC8 r.own.get (jP (ij.map (·.1))) r.sv),iA ij obs with
    | some out,some post => bif (nodupB (ij.map (·.1)) && nodupB (ij.map (·.2))) && (ij.all (fun x => Nat.ble 100 x.1 || Nat.beq x.2 x.1) && refs.all (fun x => jP (ij.map (·.1)) x.1)) then some (out,post,r.cs) else none
    | _,_ => none
   | none => none
  | none => none
 | none => none
theorem rQ : ∀ {l : List (Nat × Ob)},bB nFQ l.reverse = lookO l
 | [] => rfl
 | (i,o) :: r => by
  have h : ∀ (l m : List (Nat × Ob)) (own : Own),bB own (l ++ m) = bB (bB own l) m := by
   intro l
   induction l with
   | nil => intro m own; rfl
   | cons x l ih => intro m own; exact ih m _
  rw [List.reverse_cons,h,rQ];funext j;simp only [bB,upd,lookO];by_cases hj : j = i;subst hj; simp;have : (i == j) = false := by simp; exact fun e => hj e.symm
  simp [this,hj]
theorem specXG {T : List (Ent P G)} {ne : List (NE P)} {df : List (EntD P)} (orc : Nat -> Option Bool) (lit : Nat -> Option Value) (hnt : Nat -> Option (List D)) {F d : Nat} {f : FuncId} {ins : List SV} {refs : aZ} (ij : List (Nat × Nat)) {out : SV} {post : aZ} {cs : List Prop} (hm : P.follows .mixedOrders = true) (h : topG T ne df orc lit hnt F d f ins refs ij = some (out,post,cs)) (hc : conj cs) : Spec P G f ins refs out post := by
 unfold topG at h;split at h
 ·rename_i own hown
  split at h
  ·rename_i r hr
   split at h
   ·rename_i obs ho
    split at h
    ·rename_i out' post' hout hpost
     generalize hb : ((nodupB (ij.map (·.1)) && nodupB (ij.map (·.2))) && (ij.all (fun x => Nat.ble 100 x.1 || Nat.beq x.2 x.1) && refs.all (fun x => jP (ij.map (·.1)) x.1))) = b at h
     cases b with
     | false => cases h
     | true =>
      simp only [cond_true,oIQ,pIQ] at h;obtain ⟨rfl,rfl,rfl⟩ := h;simp only [bIQ] at hb;obtain ⟨⟨h1,h2⟩,h3,h4⟩ := hb;have hE : lookO refs = own.get := by
       rw [iG hown,<- rQ]; congr 1
      obtain ⟨c1,c2,c3⟩ := (lG (T := T) (ne := ne) (df := df) (orc := orc) (lit := lit) (F := F) (hnt := hnt) hm (d + 1)).call _ _ _ _ _ hr;intro fr w pl args hw hG m ha;have hX : ∀ i b,(i,b) ∈ fr.X -> jP (ij.map (·.1)) i = true := by
       intro i b hib;have : ∃ o,lookO refs i = some o := by
        rcases m.bor i b hib with ⟨_,_,h,_⟩ | ⟨_,_,_,_,h⟩ <;> exact ⟨_,h⟩
       obtain ⟨o,ho⟩ := this;exact at1.1 h4 (i,o) (gI ho)
      refine (c3 fr (lookO refs) w pl args hG.G hc (fun i _ => by rw [hE]) m ha).mono ?_;rintro e w' ⟨v,pl',rfl,m',L,hs⟩;rw [hE,<- c1] at m' hs;have hk : b9 r.own.get (jP (ij.map (·.1))) = lookO obs := by
       funext j;rw [l5 ho j];unfold b9;by_cases hj : j ∈ ij.map (·.1)
       ·rw [if_pos (hasN_iff.2 hj),if_pos hj]
        cases r.own.get j <;> rfl
       ·rw [if_neg hj]
        cases hq : jP (ij.map (·.1)) j with
        | false => rfl
        | true => exact absurd (hasN_iff.1 hq) hj
      have m1 := iP (keep := jP (ij.map (·.1))) m' hX
      have s1 := oI (keep := jP (ij.map (·.1))) m' hX hs
      rw [hk] at m1 s1;obtain ⟨pl2,m2,R⟩ := sM (ij := ij) (gG h2) (gG h1) (fun a b hab hlt => by
       have := at1.1 h3 (a,b) hab;simp only [Bool.or_eq_true] at this;rcases this with h | h
       ·have := Nat.le_of_ble_eq_true h; omega
       ·exact Nat.eq_of_beq_eq_true h) hpost m1
      exact ⟨v,pl2,rfl,m2,R.s hout s1⟩
    ·cases h
   ·cases h
  ·cases h
 ·cases h
end
end Go.V
namespace Go.Proofs.YtclaplngjmgnoaaGreatDoor
open Go.RowKit Go.V
open Go.Eng (inR byteAt u8 dN)
variable {g : Gv}
def cpI (c : Int) : Int := (if (8 : Int) < (if (1 : Int) > c then 1 else c) then 8 else (if (1 : Int) > c then 1 else c))
def dlI (d : Int) : Int := (if (0 : Int) > d then 0 else d)
theorem aC9 (c : Int) : 1 <= cpI c /\ cpI c <= 8 := by unfold cpI; constructor <;> (repeat' split) <;> omega
theorem dl_bd {d : Int} (h : 0 <= d /\ d < 20) : 0 <= dlI d /\ dlI d < 20 := by unfold dlI; split <;> omega
def eI (t n : Int) (m : Ms) : Nat -> List Wt -> List Wt
 | 0,l => l
 | k + 1,l => uZ (eI t n m k l) ⟨t + (k : Int),n,m⟩
theorem bN (t n : Int) (m : Ms) (l : List Wt) : ∀ k,(eI t n m k l).length = l.length + k
 | 0 => rfl
 | k + 1 => by rw [eI,(aG3 _ _).1,bN t n m l k]; omega
theorem q_add {T c : Nat} {U : List (List UInt8)} {l : List Wt} (h : QOk T c U l) {t n : Int} {m : Ms} (h0 : 0 <= t) (hm : MsOk U m) : ∀ k,k <= 8 -> t + 8 <= (T : Int) -> QOk T (c + k) U (eI t n m k l)
 | 0,_,_ => h
 | k + 1,hk,hT => q_psh (q_add h h0 hm k (by omega) hT) (by show 0 <= t + (k : Int); omega) (by show t + (k : Int) <= T; omega) hm
theorem tbs_at {s : List Tb} {i : Int} (h0 : 0 <= i) (h : i < (s.length : Int)) : 0 <= i /\ (aK s)[i.toNat]? = some (TbD (s.getD i.toNat Tb.z)) := cE (f := TbD) Tb.z h0 h
abbrev y33 (a0 : LD) (a1 : Int) : Ob := .box 121 [cI 4,cM 3 a0,.d (.v (.map none)),.ib 128 1,cI a1]
theorem kZ (s : List Tb) (c k : Int) (l : List Wt) (hk : 0 <= k /\ k < 4) :
  SpG g 51 [.c (.bx 0 0),.c (cI k)] [(0,y33 (aK s) c),(1,.box 130 [.ar 2 0]),(2,.arr 0 124 5 (aL l))] (.c (cB true)) [(0,y33 (aK s) c),(1,.box 130 [.ar 2 0]),(2,.arr 0 124 5 (aL l))] := by
 refine aP 15 Tryz.func51 fun fr hG => ?_;refine bJ hG aY [] [] (.c (cB ((decide ((k : Int) >= 0)) && (decide ((k : Int) < 4))))) [(0,y33 (aK s) c),(1,.box 130 [.ar 2 0]),(2,.arr 0 124 5 (aL l))] (by kernel_rfl) aB ?_ ?_;simp [hk.1,hk.2]
 first | rfl | (funext i; simp only [aF,upd]; ((repeat' split) <;> first | rfl | (exfalso; omega)))
abbrev e7z (a0 : LD) (a1 : Int) (a2 : LD) : aZ := [(0,y33 a0 a1),(1,.box 130 [.ar 2 0]),(2,.arr 0 124 5 a2)]
theorem mN (s : List Tb) (c : Int) (l : List Wt) :
  SpG g 49 [.c (.bx 0 0)] [(0,y33 (aK s) c),(1,.box 130 [.ar 2 0]),(2,.arr 0 124 5 (aL l))] (.c (cI (l.length : Int))) [(0,y33 (aK s) c),(1,.box 130 [.ar 2 0]),(2,.arr 0 124 5 (aL l))] := by
 refine aP 17 Tryz.func49 fun fr hG => ?_;refine zC hG [] [1,0,1] false (⟨[zX 0 0 0,zI 2 0],e7z (aK s) c (aL l)⟩) aB (fun hc1 => absurd hc1 (by decide)) (fun _ => ?_);refine bJ hG aY [(3,4,kI (l.length : Int))] [] (.c (cI (l.length : Int))) [(0,y33 (aK s) c),(1,.box 130 [.ar 2 0]),(2,.arr 0 124 5 (aL l))] (by kernel_rfl) (cS1 g (yP l)) ?_ ?_;rfl
 first | rfl | (funext i; simp only [aF,upd]; ((repeat' split) <;> first | rfl | (exfalso; omega)))
abbrev y34 (a0 : LD) (a1 : Int) : Ob := .box 121 [cI 4,cM 3 a0,.d (.v (.map none)),.d (.v (.nilIface)),cI a1]
theorem k4 (s : List Tb) (c k : Int) (hk : 0 <= k /\ k < 4) :
  SpG g 51 [.c (.bx 0 0),.c (cI k)] [(0,y34 (aK s) c)] (.c (cB true)) [(0,y34 (aK s) c)] := by
 refine aP 15 Tryz.func51 fun fr hG => ?_;refine bJ hG aY [] [] (.c (cB ((decide ((k : Int) >= 0)) && (decide ((k : Int) < 4))))) [(0,y34 (aK s) c)] (by kernel_rfl) aB ?_ ?_;simp [hk.1,hk.2]
 first | rfl | (funext i; simp only [aF,upd]; ((repeat' split) <;> first | rfl | (exfalso; omega)))
theorem w8 (s : List Tb) (c : Int) :
  SpG g 49 [.c (.bx 0 0)] [(0,y34 (aK s) c)] (.c (cI 0)) [(0,y34 (aK s) c)] := by
 refine aP 17 Tryz.func49 fun fr hG => ?_;refine zC hG [] [1,0,1] true (⟨[zX 0 0 0,zI 2 0],[(0,y34 (aK s) c)]⟩) aB (fun _ => ?_) (fun hc1 => absurd hc1 (by decide));refine bJ hG aY [] [] (.c (cI 0)) [(0,y34 (aK s) c)] (by kernel_rfl) aB ?_ ?_;rfl
 first | rfl | (funext i; simp only [aF,upd]; ((repeat' split) <;> first | rfl | (exfalso; omega)))
abbrev y35 : SV := .tup [(true,[cI 0,cI 0,cS (S [])]),(false,[cI 0]),(false,[cB false])]
theorem aKC (s : List Tb) (c : Int) :
  SpG g 29 [.c (.bx 0 0)] [(0,y34 (aK s) c)] y35 [(0,y34 (aK s) c)] := by
 refine aP 27 Tryz.func29 fun fr hG => ?_;refine zC hG [(1,1,.callG (.c (cI 0)) [0] [(0,y34 (aK s) c)])] [1,0,1] true (⟨[zX 0 0 0,zX 2 100 0,zI 3 0,zB 4 false],[(0,y34 (aK s) c),(100,.box 43 [cI 0,cI 0,cS (S [])])]⟩) (cS1 g (w8 s c)) (fun _ => ?_) (fun hc1 => absurd hc1 (by decide));refine bJ hG aY [] [] y35 [(0,y34 (aK s) c)] (by kernel_rfl) aB ?_ ?_;rfl
 first | rfl | (funext i; simp only [aF,upd]; ((repeat' split) <;> first | rfl | (exfalso; omega)))
theorem aNQ (s : List Tb) (c : Int) (l : List Wt) (hn : l = []) :
  SpG g 29 [.c (.bx 0 0)] [(0,y33 (aK s) c),(1,.box 130 [.ar 2 0]),(2,.arr 0 124 5 (aL l))] y35 [(0,y33 (aK s) c),(1,.box 130 [.ar 2 0]),(2,.arr 0 124 5 (aL l))] := by
 refine aP 27 Tryz.func29 fun fr hG => ?_;refine zP hG [(1,1,.callG (.c (cI (l.length : Int))) [0,1,2] [(0,y33 (aK s) c),(1,.box 130 [.ar 2 0]),(2,.arr 0 124 5 (aL l))])] [1,0,1] (((l.length : Int) : Int) = 0) (⟨[zX 0 0 0,zX 2 100 0,zI 3 0,zB 4 false],e7z (aK s) c (aL l) ++ [(100,.box 43 [cI 0,cI 0,cS (S [])])]⟩) (cS1 g (mN s c l)) (fun hc1 => ?_) (fun hc1 => ?_);skip;refine bJ hG aY [] [] y35 [(0,y33 (aK s) c),(1,.box 130 [.ar 2 0]),(2,.arr 0 124 5 (aL l))] (by kernel_rfl) aB ?_ ?_;rfl
 first | rfl | (funext i; simp only [aF,upd]; ((repeat' split) <;> first | rfl | (exfalso; omega)))
 skip;rw [hn] at hc1; exact absurd rfl hc1
theorem aKB (s : List Tb) (c : Int) (l : List Wt) (hne : l ≠ []) (hl : l.length <= 1000000) :
  SpG g 29 [.c (.bx 0 0)] [(0,y33 (aK s) c),(1,.box 130 [.ar 2 0]),(2,.arr 0 124 5 (aL l))] (.tup [(true,[cI ((aD l).m.f),cI ((aD l).m.t),cS (S (aE (aD l).m.m))]),(false,[cI ((aD l).t)]),(false,[cB true])]) [(0,y33 (aK s) c),(1,.box 130 [.ar 2 0]),(2,y32 (aL (bL l)))] := by
 refine aP 27 Tryz.func29 fun fr hG => ?_;refine zP hG [(1,1,.callG (.c (cI (l.length : Int))) [0,1,2] [(0,y33 (aK s) c),(1,.box 130 [.ar 2 0]),(2,.arr 0 124 5 (aL l))])] [1,0,1] (((l.length : Int) : Int) = 0) (⟨[zX 0 0 0,zX 2 100 0,zI 3 0,zB 4 false],e7z (aK s) c (aL l) ++ [(100,.box 43 [cI 0,cI 0,cS (S [])])]⟩) (cS1 g (mN s c l)) (fun hc1 => ?_) (fun hc1 => ?_);skip;exact (hne (List.eq_nil_of_length_eq_zero (by omega))).elim;skip;refine zC hG [(3,4,.callG (.c (.d (.v (.iface 124 (.agg #[.int .i64 ((aD l).t),.int .i64 ((aD l).n),.int .i64 ((aD l).m.f),.int .i64 ((aD l).m.t),.string (S (aE (aD l).m.m))]))))) [1,2] [(0,.box 130 [.ar 1 0]),(1,y32 (aL (bL l)))])] [1,0,1,1,1] false (⟨[zX 2 100 0,zI 3 0,zB 4 false,zX 5 409 0],[(0,y33 (aK s) c),(1,.box 130 [.ar 2 0]),(2,y32 (aL (bL l))),(100,.box 43 [cI 0,cI 0,cS (S [])]),(409,.box 124 [cI ((aD l).t),cI ((aD l).n),cI ((aD l).m.f),cI ((aD l).m.t),cS (S (aE (aD l).m.m))])]⟩) (cS1 g (hpop_ok l hne (by omega))) (fun hc2 => absurd hc2 (by decide)) (fun _ => ?_);refine bJ hG aY [] [] (.tup [(true,[cI ((aD l).m.f),cI ((aD l).m.t),cS (S (aE (aD l).m.m))]),(false,[cI ((aD l).t)]),(false,[cB true])]) [(0,y33 (aK s) c),(1,.box 130 [.ar 2 0]),(2,y32 (aL (bL l)))] (by kernel_rfl) aB ?_ ?_;rfl
 first | rfl | (funext i; simp only [aF,upd]; ((repeat' split) <;> first | rfl | (exfalso; omega)))
abbrev y36 : Ob := .box 77 [cB false,cI 1,cI 1]
abbrev e8z (a0 : Int) : bR := [zX 0 0 0,zI 1 a0,zX 5 100 0,zX 6 301 0]
theorem aD0 (s : List Tb) (c now : Int) (cp dl : Int) (m : Ms) (l : List Wt) (hf : 0 <= m.f /\ m.f < 4) (ht : 0 <= m.t /\ m.t < 4) (hc : 0 <= c /\ c <= 1000000) (hw : 0 <= now /\ now <= 1000000) (hd : 0 <= dl /\ dl < 20) (hl : l.length <= 900000) (hs : s ≠ []) (hel : (0 : Int) <= Int.tmod c ((aK s).length : Int) /\ (aK s)[(Int.tmod c ((aK s).length : Int) : Int).toNat]? = some [.b true,.i cp,.i dl]) :
  SpG g 30 [.c (.bx 0 0),.c (cI now),y21 m.f m.t (S (aE m.m))] [(0,y33 (aK s) c),(1,.box 130 [.ar 2 0]),(2,.arr 0 124 5 (aL l))] (.tup []) [(0,y33 (aK s) (c + 1)),(1,.box 130 [.ar 2 0]),(2,.arr 0 124 5 (aL l))] := by
 refine aP 112 Tryz.func30 fun fr hG => ?_;refine zC hG [] [1,0,1] false (⟨[zX 0 0 0,zI 1 now,zX 5 100 0],e7z (aK s) c (aL l) ++ [(100,y22 m.f m.t (S (aE m.m)))]⟩) aB (fun hc1 => absurd hc1 (by decide)) (fun _ => ?_);refine zP hG [] [1,0,1,1,1] ((((aK s).length : Int) : Int) > 0) (⟨e8z now,e7z (aK s) c (aL l) ++ [(100,y22 m.f m.t (S (aE m.m))),(301,y36)]⟩) aB (fun hc2 => ?_) (fun hc2 => ?_);skip;refine zC hG [(4,14,.elem ([.b true,.i cp,.i dl])),(7,6,.dead (.c (cB false))),(7,13,.dead (.c (cB false)))] [1,0,1,1,1,1,1,1] true (⟨e8z now ++ [zI 7 c],e7z (aK s) (c + 1) (aL l) ++ [(100,y22 m.f m.t (S (aE m.m))),(301,.box 77 [cB true,cI cp,cI dl])]⟩) (aA (by intros; (try simp only [dO,aH,aU,bN] at *); omega : ((aK s).length : Int) ≠ (0 : Int)) (aA (show (0 : Int) <= (Int.tmod c ((aK s).length : Int)) /\ (aK s)[(Int.tmod c ((aK s).length : Int) : Int).toNat]? = some ([.b true,.i cp,.i dl]) from hel) (aA (by intros; (try simp only [dO,aH,aU,bN] at *); omega : inR (c + 1)) (aA (show ¬ (true = false /\ True) from (fun h => absurd h.1 (by decide))) (aC (show ¬ (true = false /\ True) from (fun h => absurd h.1 (by decide)))))))) (fun _ => ?_) (fun hc3 => absurd hc3 (by decide));refine bJ hG aY [] [] (.tup []) [(0,y33 (aK s) (c + 1)),(1,.box 130 [.ar 2 0]),(2,.arr 0 124 5 (aL l))] (by kernel_rfl) aB ?_ ?_;rfl
 first | rfl | (funext i; simp only [aF,upd]; ((repeat' split) <;> first | rfl | (exfalso; omega)))
 skip;have := List.length_pos_iff.2 hs; rw [aU] at hc2; omega
theorem aD1 (s : List Tb) (c now : Int) (cp dl : Int) (m : Ms) (hf : 0 <= m.f /\ m.f < 4) (ht : 0 <= m.t /\ m.t < 4) (hc : 0 <= c /\ c <= 1000000) (hw : 0 <= now /\ now <= 1000000) (hd : 0 <= dl /\ dl < 20) (hs : s ≠ []) (hel : (0 : Int) <= Int.tmod c ((aK s).length : Int) /\ (aK s)[(Int.tmod c ((aK s).length : Int) : Int).toNat]? = some [.b true,.i cp,.i dl]) :
  SpG g 30 [.c (.bx 0 0),.c (cI now),y21 m.f m.t (S (aE m.m))] [(0,y34 (aK s) c)] (.tup []) [(0,y34 (aK s) (c + 1))] := by
 refine aP 112 Tryz.func30 fun fr hG => ?_;refine zC hG [] [1,0,1] false (⟨[zX 0 0 0,zI 1 now,zX 5 100 0],[(0,y34 (aK s) c),(100,y22 m.f m.t (S (aE m.m)))]⟩) aB (fun hc1 => absurd hc1 (by decide)) (fun _ => ?_);refine zP hG [] [1,0,1,1,1] ((((aK s).length : Int) : Int) > 0) (⟨e8z now,[(0,y34 (aK s) c),(100,y22 m.f m.t (S (aE m.m))),(301,y36)]⟩) aB (fun hc2 => ?_) (fun hc2 => ?_);skip;refine zC hG [(4,14,.elem ([.b true,.i cp,.i dl])),(7,6,.dead (.c (cB false))),(7,13,.dead (.c (cB false)))] [1,0,1,1,1,1,1,1] true (⟨e8z now ++ [zI 7 c],[(0,y34 (aK s) (c + 1)),(100,y22 m.f m.t (S (aE m.m))),(301,.box 77 [cB true,cI cp,cI dl])]⟩) (aA (by intros; (try simp only [dO,aH,aU,bN] at *); omega : ((aK s).length : Int) ≠ (0 : Int)) (aA (show (0 : Int) <= (Int.tmod c ((aK s).length : Int)) /\ (aK s)[(Int.tmod c ((aK s).length : Int) : Int).toNat]? = some ([.b true,.i cp,.i dl]) from hel) (aA (by intros; (try simp only [dO,aH,aU,bN] at *); omega : inR (c + 1)) (aA (show ¬ (true = false /\ True) from (fun h => absurd h.1 (by decide))) (aC (show ¬ (true = false /\ True) from (fun h => absurd h.1 (by decide)))))))) (fun _ => ?_) (fun hc3 => absurd hc3 (by decide));refine bJ hG aY [] [] (.tup []) [(0,y34 (aK s) (c + 1))] (by kernel_rfl) aB ?_ ?_;rfl
 first | rfl | (funext i; simp only [aF,upd]; ((repeat' split) <;> first | rfl | (exfalso; omega)))
 skip;have := List.length_pos_iff.2 hs; rw [aU] at hc2; omega
theorem aD2 (s : List Tb) (c now : Int) (cp dl : Int) (m : Ms) (l : List Wt) (hf : 0 <= m.f /\ m.f < 4) (ht : 0 <= m.t /\ m.t < 4) (hc : 0 <= c /\ c <= 1000000) (hw : 0 <= now /\ now <= 1000000) (hd : 0 <= dl /\ dl < 20) (hl : l.length <= 900000) (hs : s ≠ []) (hel : (0 : Int) <= Int.tmod c ((aK s).length : Int) /\ (aK s)[(Int.tmod c ((aK s).length : Int) : Int).toNat]? = some [.b false,.i cp,.i dl]) :
  SpG g 30 [.c (.bx 0 0),.c (cI now),y21 m.f m.t (S (aE m.m))] [(0,y33 (aK s) c),(1,.box 130 [.ar 2 0]),(2,.arr 0 124 5 (aL l))] (.tup []) [(0,y33 (aK s) (c + 1)),(1,.box 130 [.ar 2 0]),(2,y32 (aL (eI (now + dlI dl) c m (cpI cp).toNat l)))] := by
 refine aP 112 Tryz.func30 fun fr hG => ?_;refine zC hG [] [1,0,1] false (⟨[zX 0 0 0,zI 1 now,zX 5 100 0],e7z (aK s) c (aL l) ++ [(100,y22 m.f m.t (S (aE m.m)))]⟩) aB (fun hc1 => absurd hc1 (by decide)) (fun _ => ?_);refine zP hG [] [1,0,1,1,1] ((((aK s).length : Int) : Int) > 0) (⟨e8z now,e7z (aK s) c (aL l) ++ [(100,y22 m.f m.t (S (aE m.m))),(301,y36)]⟩) aB (fun hc2 => ?_) (fun hc2 => ?_)
 ·skip
  refine zC hG [(4,14,.elem ([.b false,.i cp,.i dl])),(7,6,.callG (.c (cB true)) [0,1,2] [(0,y33 (aK s) (c + 1)),(1,.box 130 [.ar 2 0]),(2,.arr 0 124 5 (aL l))]),(7,13,.callG (.c (cB true)) [0,1,2] [(0,y33 (aK s) (c + 1)),(1,.box 130 [.ar 2 0]),(2,.arr 0 124 5 (aL l))])] [1,0,1,1,1,1,1,1] false (⟨e8z now ++ [zI 7 c],e7z (aK s) (c + 1) (aL l) ++ [(100,y22 m.f m.t (S (aE m.m))),(301,.box 77 [cB false,cI cp,cI dl])]⟩) (aA (by intros; (try simp only [dO,aH,aU,bN] at *); omega : ((aK s).length : Int) ≠ (0 : Int)) (aA (show (0 : Int) <= (Int.tmod c ((aK s).length : Int)) /\ (aK s)[(Int.tmod c ((aK s).length : Int) : Int).toNat]? = some ([.b false,.i cp,.i dl]) from hel) (aA (by intros; (try simp only [dO,aH,aU,bN] at *); omega : inR (c + 1)) (aA (show false = false /\ True from ⟨rfl,trivial⟩) (aA (fun (hg1 : false = false) => (kZ s (c + 1) m.t l (by omega) : SpG g _ _ _ _ _)) (aA (show false = false /\ True from ⟨rfl,trivial⟩) (aC (fun (hg1 : false = false) => (kZ s (c + 1) m.f l (by omega) : SpG g _ _ _ _ _))))))))) (fun hc3 => absurd hc3 (by decide)) (fun _ => ?_);refine zc hG [] [1,0,1,1,1,1,1,1,1] false aB (fun hc4 => absurd hc4 (by decide)) (fun _ => ?_);refine zL hG [] [0,1,1,1,1,1,1,1,1,1] (fun (zz : Nat) => match zz with | k => ((cpI cp).toNat - k,⟨e8z now ++ [zI 7 c,zI 91 (if (8 : Int) < (if (1 : Int) > cp then 1 else cp) then 8 else (if (1 : Int) > cp then 1 else cp)),zI 92 (k : Int)],[(0,y33 (aK s) (c + 1)),(1,.box 130 [.ar 2 0]),(2,y32 (aL (eI (now + dlI dl) c m k l))),(100,y22 m.f m.t (S (aE m.m))),(301,.box 77 [cB false,cI cp,cI dl])]⟩,k <= (cpI cp).toNat)) 0 aB ?_ ?_
  ·exact zl _
  rintro k hk;have hb := aC9 cp;have hal := bN (now + dlI dl) c m l k
  (try simp only [ln] at hal)
  refine zp hG [] [0,1] ((k : Int) < (if (8 : Int) < (if (1 : Int) > cp then 1 else cp) then 8 else (if (1 : Int) > cp then 1 else cp))) aB (fun hc6 => ?_) (fun hc6 => ?_)
  ·skip
   have h9 : (k : Int) < cpI cp := hc6;refine zD hG [(13,15,.callG (.tup []) [1,2] [(0,.box 130 [.ar 1 0]),(1,y32 (aL (uZ (eI (now + dlI dl) c m k l) ⟨(now + (if (0 : Int) > dl then 0 else dl)) + (k : Int),c,m⟩)))])] (k + 1) (aA (by intros; (try simp only [dO,aH,aU,bN] at *); omega : inR (now + (if (0 : Int) > dl then 0 else dl))) (aA (by intros; (try simp only [dO,aH,aU,bN] at *); omega : inR ((now + (if (0 : Int) > dl then 0 else dl)) + (k : Int))) (cS2 g (nW (eI (now + dlI dl) c m k l) ⟨(now + (if (0 : Int) > dl then 0 else dl)) + (k : Int),c,m⟩ (by omega)) (aC (by intros; (try simp only [dO,aH,aU,bN] at *); omega : inR ((k : Int) + 1)))))) ?_ ?_
   ·(try dsimp only); omega
   ·show k + 1 <= (cpI cp).toNat; omega
  ·skip
   have h9 : ¬ ((k : Int) < cpI cp) := hc6;have hkk : k = (cpI cp).toNat := by omega
   refine zE hG [] (.exit 0) (⟨[],[(0,y33 (aK s) (c + 1)),(1,.box 130 [.ar 2 0]),(2,y32 (aL (eI (now + dlI dl) c m k l)))]⟩) aB rfl ?_;refine bJ hG aY [] [] (.tup []) [(0,y33 (aK s) (c + 1)),(1,.box 130 [.ar 2 0]),(2,y32 (aL (eI (now + dlI dl) c m k l)))] (by kernel_rfl) aB ?_ ?_
   ·rfl
   ·rw [hkk]
    all_goals (first | rfl | (funext i; simp only [aF,upd]; ((repeat' split) <;> first | rfl | (exfalso; omega))))
 ·skip
  have := List.length_pos_iff.2 hs; rw [aU] at hc2; omega
abbrev y37 (a0 : LD) (a1 : Int) : Ob := .box 121 [cI 4,cM 3 a0,.d (.v (.map none)),.ib 128 100,cI a1]
abbrev y38 (a0 : LD) (a1 : Int) : Ob := .box 121 [cI 4,cM 3 a0,.d (.v (.map none)),.ib 128 1002,cI a1]
theorem aD3 (s : List Tb) (c now : Int) (cp dl : Int) (m : Ms) (hf : 0 <= m.f /\ m.f < 4) (ht : 0 <= m.t /\ m.t < 4) (hc : 0 <= c /\ c <= 1000000) (hw : 0 <= now /\ now <= 1000000) (hd : 0 <= dl /\ dl < 20) (hs : s ≠ []) (hel : (0 : Int) <= Int.tmod c ((aK s).length : Int) /\ (aK s)[(Int.tmod c ((aK s).length : Int) : Int).toNat]? = some [.b false,.i cp,.i dl]) :
  SpG g 30 [.c (.bx 0 0),.c (cI now),y21 m.f m.t (S (aE m.m))] [(0,y34 (aK s) c)] (.tup []) [(0,y37 (aK s) (c + 1)),(100,.box 130 [.ar 101 0]),(101,y32 (aL (eI (now + dlI dl) c m (cpI cp).toNat [])))] := by
 refine aP 112 Tryz.func30 fun fr hG => ?_;refine zC hG [] [1,0,1] false (⟨[zX 0 0 0,zI 1 now,zX 5 100 0],[(0,y34 (aK s) c),(100,y22 m.f m.t (S (aE m.m)))]⟩) aB (fun hc1 => absurd hc1 (by decide)) (fun _ => ?_);refine zP hG [] [1,0,1,1,1] ((((aK s).length : Int) : Int) > 0) (⟨e8z now,[(0,y34 (aK s) c),(100,y22 m.f m.t (S (aE m.m))),(301,y36)]⟩) aB (fun hc2 => ?_) (fun hc2 => ?_)
 ·skip
  refine zC hG [(4,14,.elem ([.b false,.i cp,.i dl])),(7,6,.callG (.c (cB true)) [0] [(0,y34 (aK s) (c + 1))]),(7,13,.callG (.c (cB true)) [0] [(0,y34 (aK s) (c + 1))])] [1,0,1,1,1,1,1,1] false (⟨e8z now ++ [zI 7 c],[(0,y34 (aK s) (c + 1)),(100,y22 m.f m.t (S (aE m.m))),(301,.box 77 [cB false,cI cp,cI dl])]⟩) (aA (by intros; (try simp only [dO,aH,aU,bN] at *); omega : ((aK s).length : Int) ≠ (0 : Int)) (aA (show (0 : Int) <= (Int.tmod c ((aK s).length : Int)) /\ (aK s)[(Int.tmod c ((aK s).length : Int) : Int).toNat]? = some ([.b false,.i cp,.i dl]) from hel) (aA (by intros; (try simp only [dO,aH,aU,bN] at *); omega : inR (c + 1)) (aA (show false = false /\ True from ⟨rfl,trivial⟩) (aA (fun (hg1 : false = false) => (k4 s (c + 1) m.t (by omega) : SpG g _ _ _ _ _)) (aA (show false = false /\ True from ⟨rfl,trivial⟩) (aC (fun (hg1 : false = false) => (k4 s (c + 1) m.f (by omega) : SpG g _ _ _ _ _))))))))) (fun hc3 => absurd hc3 (by decide)) (fun _ => ?_);refine zc hG [] [1,0,1,1,1,1,1,1,1] true aB (fun _ => ?_) (fun hc4 => absurd hc4 (by decide));refine zL hG [] [0,1,1,1,1,1,1,1,1,1] (fun (zz : Nat) => match zz with | k => ((cpI cp).toNat - k,⟨e8z now ++ [zI 7 c,zI 91 (if (8 : Int) < (if (1 : Int) > cp then 1 else cp) then 8 else (if (1 : Int) > cp then 1 else cp)),zI 92 (k : Int)],[(0,y38 (aK s) (c + 1)),(100,y22 m.f m.t (S (aE m.m))),(301,.box 77 [cB false,cI cp,cI dl]),(1001,y32 (aL (eI (now + dlI dl) c m k []))),(1002,.box 130 [.ar 1001 0])]⟩,k <= (cpI cp).toNat)) 0 aB ?_ ?_
  ·exact zl _
  rintro k hk;have hb := aC9 cp;have hal := bN (now + dlI dl) c m [] k
  (try simp only [ln] at hal)
  refine zp hG [] [0,1] ((k : Int) < (if (8 : Int) < (if (1 : Int) > cp then 1 else cp) then 8 else (if (1 : Int) > cp then 1 else cp))) aB (fun hc6 => ?_) (fun hc6 => ?_)
  ·skip
   have h9 : (k : Int) < cpI cp := hc6;refine zD hG [(13,15,.callG (.tup []) [1002,1001] [(0,.box 130 [.ar 1 0]),(1,y32 (aL (uZ (eI (now + dlI dl) c m k []) ⟨(now + (if (0 : Int) > dl then 0 else dl)) + (k : Int),c,m⟩)))])] (k + 1) (aA (by intros; (try simp only [dO,aH,aU,bN] at *); omega : inR (now + (if (0 : Int) > dl then 0 else dl))) (aA (by intros; (try simp only [dO,aH,aU,bN] at *); omega : inR ((now + (if (0 : Int) > dl then 0 else dl)) + (k : Int))) (cS2 g (nW (eI (now + dlI dl) c m k []) ⟨(now + (if (0 : Int) > dl then 0 else dl)) + (k : Int),c,m⟩ (by omega)) (aC (by intros; (try simp only [dO,aH,aU,bN] at *); omega : inR ((k : Int) + 1)))))) ?_ ?_
   ·(try dsimp only); omega
   ·show k + 1 <= (cpI cp).toNat; omega
  ·skip
   have h9 : ¬ ((k : Int) < cpI cp) := hc6;have hkk : k = (cpI cp).toNat := by omega
   refine zE hG [] (.exit 0) (⟨[],[(0,y38 (aK s) (c + 1)),(1001,y32 (aL (eI (now + dlI dl) c m k []))),(1002,.box 130 [.ar 1001 0])]⟩) aB rfl ?_;refine bJ hG aY [] [1002,1001] (.tup []) [(0,y37 (aK s) (c + 1)),(101,y32 (aL (eI (now + dlI dl) c m k []))),(100,.box 130 [.ar 101 0])] (by kernel_rfl) aB ?_ ?_
   ·rfl
   ·rw [hkk]
    all_goals (first | rfl | (funext i; simp only [aF,upd]; ((repeat' split) <;> first | rfl | (exfalso; omega))))
 ·skip
  have := List.length_pos_iff.2 hs; rw [aU] at hc2; omega
theorem aD4 (s : List Tb) (c now : Int) (m : Ms) (l : List Wt) (hf : 0 <= m.f /\ m.f < 4) (ht : 0 <= m.t /\ m.t < 4) (hc : 0 <= c /\ c <= 1000000) (hw : 0 <= now /\ now <= 1000000) (hl : l.length <= 900000) (hs : s = []) :
  SpG g 30 [.c (.bx 0 0),.c (cI now),y21 m.f m.t (S (aE m.m))] [(0,y33 (aK s) c),(1,.box 130 [.ar 2 0]),(2,.arr 0 124 5 (aL l))] (.tup []) [(0,y33 (aK s) (c + 1)),(1,.box 130 [.ar 2 0]),(2,y32 (aL (eI (now + dlI 1) c m (cpI 1).toNat l)))] := by
 refine aP 112 Tryz.func30 fun fr hG => ?_;refine zC hG [] [1,0,1] false (⟨[zX 0 0 0,zI 1 now,zX 5 100 0],e7z (aK s) c (aL l) ++ [(100,y22 m.f m.t (S (aE m.m)))]⟩) aB (fun hc1 => absurd hc1 (by decide)) (fun _ => ?_);refine zP hG [] [1,0,1,1,1] ((((aK s).length : Int) : Int) > 0) (⟨e8z now,e7z (aK s) c (aL l) ++ [(100,y22 m.f m.t (S (aE m.m))),(301,y36)]⟩) aB (fun hc2 => ?_) (fun hc2 => ?_)
 ·skip
  rw [hs] at hc2; exact absurd hc2 (by decide)
 ·skip
  refine zC hG [(7,6,.callG (.c (cB true)) [0,1,2] [(0,y33 (aK s) (c + 1)),(1,.box 130 [.ar 2 0]),(2,.arr 0 124 5 (aL l))]),(7,13,.callG (.c (cB true)) [0,1,2] [(0,y33 (aK s) (c + 1)),(1,.box 130 [.ar 2 0]),(2,.arr 0 124 5 (aL l))])] [1,0,1,1,1,1,1,1] false (⟨e8z now ++ [zI 7 c],e7z (aK s) (c + 1) (aL l) ++ [(100,y22 m.f m.t (S (aE m.m))),(301,y36)]⟩) (aA (by intros; (try simp only [dO,aH,aU,bN] at *); omega : inR (c + 1)) (aA (show false = false /\ True from ⟨rfl,trivial⟩) (aA (fun (hg1 : false = false) => (kZ s (c + 1) m.t l (by omega) : SpG g _ _ _ _ _)) (aA (show false = false /\ True from ⟨rfl,trivial⟩) (aC (fun (hg1 : false = false) => (kZ s (c + 1) m.f l (by omega) : SpG g _ _ _ _ _))))))) (fun hc3 => absurd hc3 (by decide)) (fun _ => ?_);refine zc hG [] [1,0,1,1,1,1,1,1,1] false aB (fun hc4 => absurd hc4 (by decide)) (fun _ => ?_);refine zL hG [] [0,1,1,1,1,1,1,1,1,1] (fun (zz : Nat) => match zz with | k => ((cpI 1).toNat - k,⟨e8z now ++ [zI 7 c,zI 91 1,zI 92 (k : Int)],[(0,y33 (aK s) (c + 1)),(1,.box 130 [.ar 2 0]),(2,y32 (aL (eI (now + dlI 1) c m k l))),(100,y22 m.f m.t (S (aE m.m))),(301,y36)]⟩,k <= (cpI 1).toNat)) 0 aB ?_ ?_
  ·exact zl _
  rintro k hk;have hb := aC9 1;have hal := bN (now + dlI 1) c m l k
  (try simp only [ln] at hal)
  refine zp hG [] [0,1] ((k : Int) < 1) aB (fun hc6 => ?_) (fun hc6 => ?_)
  ·skip
   have h9 : (k : Int) < cpI 1 := hc6;refine zD hG [(13,15,.callG (.tup []) [1,2] [(0,.box 130 [.ar 1 0]),(1,y32 (aL (uZ (eI (now + dlI 1) c m k l) ⟨(now + 1) + (k : Int),c,m⟩)))])] (k + 1) (aA (by intros; (try simp only [dO,aH,aU,bN] at *); omega : inR (now + 1)) (aA (by intros; (try simp only [dO,aH,aU,bN] at *); omega : inR ((now + 1) + (k : Int))) (cS2 g (nW (eI (now + dlI 1) c m k l) ⟨(now + 1) + (k : Int),c,m⟩ (by omega)) (aC (by intros; (try simp only [dO,aH,aU,bN] at *); omega : inR ((k : Int) + 1)))))) ?_ ?_
   ·(try dsimp only); omega
   ·show k + 1 <= (cpI 1).toNat; omega
  ·skip
   have h9 : ¬ ((k : Int) < cpI 1) := hc6;have hkk : k = (cpI 1).toNat := by omega
   refine zE hG [] (.exit 0) (⟨[],[(0,y33 (aK s) (c + 1)),(1,.box 130 [.ar 2 0]),(2,y32 (aL (eI (now + dlI 1) c m k l)))]⟩) aB rfl ?_;refine bJ hG aY [] [] (.tup []) [(0,y33 (aK s) (c + 1)),(1,.box 130 [.ar 2 0]),(2,y32 (aL (eI (now + dlI 1) c m k l)))] (by kernel_rfl) aB ?_ ?_
   ·rfl
   ·rw [hkk]
    all_goals (first | rfl | (funext i; simp only [aF,upd]; ((repeat' split) <;> first | rfl | (exfalso; omega))))
theorem aD5 (s : List Tb) (c now : Int) (m : Ms) (hf : 0 <= m.f /\ m.f < 4) (ht : 0 <= m.t /\ m.t < 4) (hc : 0 <= c /\ c <= 1000000) (hw : 0 <= now /\ now <= 1000000) (hs : s = []) :
  SpG g 30 [.c (.bx 0 0),.c (cI now),y21 m.f m.t (S (aE m.m))] [(0,y34 (aK s) c)] (.tup []) [(0,y37 (aK s) (c + 1)),(100,.box 130 [.ar 101 0]),(101,y32 (aL (eI (now + dlI 1) c m (cpI 1).toNat [])))] := by
 refine aP 112 Tryz.func30 fun fr hG => ?_;refine zC hG [] [1,0,1] false (⟨[zX 0 0 0,zI 1 now,zX 5 100 0],[(0,y34 (aK s) c),(100,y22 m.f m.t (S (aE m.m)))]⟩) aB (fun hc1 => absurd hc1 (by decide)) (fun _ => ?_);refine zP hG [] [1,0,1,1,1] ((((aK s).length : Int) : Int) > 0) (⟨e8z now,[(0,y34 (aK s) c),(100,y22 m.f m.t (S (aE m.m))),(301,y36)]⟩) aB (fun hc2 => ?_) (fun hc2 => ?_)
 ·skip
  rw [hs] at hc2; exact absurd hc2 (by decide)
 ·skip
  refine zC hG [(7,6,.callG (.c (cB true)) [0] [(0,y34 (aK s) (c + 1))]),(7,13,.callG (.c (cB true)) [0] [(0,y34 (aK s) (c + 1))])] [1,0,1,1,1,1,1,1] false (⟨e8z now ++ [zI 7 c],[(0,y34 (aK s) (c + 1)),(100,y22 m.f m.t (S (aE m.m))),(301,y36)]⟩) (aA (by intros; (try simp only [dO,aH,aU,bN] at *); omega : inR (c + 1)) (aA (show false = false /\ True from ⟨rfl,trivial⟩) (aA (fun (hg1 : false = false) => (k4 s (c + 1) m.t (by omega) : SpG g _ _ _ _ _)) (aA (show false = false /\ True from ⟨rfl,trivial⟩) (aC (fun (hg1 : false = false) => (k4 s (c + 1) m.f (by omega) : SpG g _ _ _ _ _))))))) (fun hc3 => absurd hc3 (by decide)) (fun _ => ?_);refine zc hG [] [1,0,1,1,1,1,1,1,1] true aB (fun _ => ?_) (fun hc4 => absurd hc4 (by decide));refine zL hG [] [0,1,1,1,1,1,1,1,1,1] (fun (zz : Nat) => match zz with | k => ((cpI 1).toNat - k,⟨e8z now ++ [zI 7 c,zI 91 1,zI 92 (k : Int)],[(0,y38 (aK s) (c + 1)),(100,y22 m.f m.t (S (aE m.m))),(301,y36),(1001,y32 (aL (eI (now + dlI 1) c m k []))),(1002,.box 130 [.ar 1001 0])]⟩,k <= (cpI 1).toNat)) 0 aB ?_ ?_
  ·exact zl _
  rintro k hk;have hb := aC9 1;have hal := bN (now + dlI 1) c m [] k
  (try simp only [ln] at hal)
  refine zp hG [] [0,1] ((k : Int) < 1) aB (fun hc6 => ?_) (fun hc6 => ?_)
  ·skip
   have h9 : (k : Int) < cpI 1 := hc6;refine zD hG [(13,15,.callG (.tup []) [1002,1001] [(0,.box 130 [.ar 1 0]),(1,y32 (aL (uZ (eI (now + dlI 1) c m k []) ⟨(now + 1) + (k : Int),c,m⟩)))])] (k + 1) (aA (by intros; (try simp only [dO,aH,aU,bN] at *); omega : inR (now + 1)) (aA (by intros; (try simp only [dO,aH,aU,bN] at *); omega : inR ((now + 1) + (k : Int))) (cS2 g (nW (eI (now + dlI 1) c m k []) ⟨(now + 1) + (k : Int),c,m⟩ (by omega)) (aC (by intros; (try simp only [dO,aH,aU,bN] at *); omega : inR ((k : Int) + 1)))))) ?_ ?_
   ·(try dsimp only); omega
   ·show k + 1 <= (cpI 1).toNat; omega
  ·skip
   have h9 : ¬ ((k : Int) < cpI 1) := hc6;have hkk : k = (cpI 1).toNat := by omega
   refine zE hG [] (.exit 0) (⟨[],[(0,y38 (aK s) (c + 1)),(1001,y32 (aL (eI (now + dlI 1) c m k []))),(1002,.box 130 [.ar 1001 0])]⟩) aB rfl ?_;refine bJ hG aY [] [1002,1001] (.tup []) [(0,y37 (aK s) (c + 1)),(101,y32 (aL (eI (now + dlI 1) c m k []))),(100,.box 130 [.ar 101 0])] (by kernel_rfl) aB ?_ ?_
   ·rfl
   ·rw [hkk]
    all_goals (first | rfl | (funext i; simp only [aF,upd]; ((repeat' split) <;> first | rfl | (exfalso; omega))))
end Go.Proofs.YtclaplngjmgnoaaGreatDoor
namespace Go.V
open Go.RowKit
section
variable {P : Program} {fr : Fr} {n : Nat} {root : Code} {Q : Exit -> Act -> World -> Prop} {G : List (Nat × List Value)}
def aO7 : bR -> Option (Tr SV)
 | [] => some .e
 | (t,[],sv) :: r => match aO7 r with
  | some tr => bif few t then some (Tr.put (some sv) 40 tr t) else none
  | none => none
 | _ :: _ => none
theorem aHY : ∀ {env : bR} {tr : Tr SV},aO7 env = some tr -> ∀ t s,tr.get t = some s -> aI env t = some ([],s)
 | [],tr,h,t,s,hs => by simp only [aO7,oIQ] at h; subst h; cases hs
 | (u,[],sv) :: r,tr,h,t,s,hs => by
  simp only [aO7] at h;split at h;rename_i tr' h';cases hf : few u with
  | false => rw [hf] at h; cases h
  | true =>
   rw [hf] at h;simp only [cond_true,oIQ] at h;subst h;rw [Tr.get_put40 hf] at hs;simp only [aI];by_cases ht : t = u;subst ht;simp only [if_true,oIQ] at hs;subst hs;simp;rw [if_neg ht] at hs;have : (u == t) = false := by simp; exact fun e => ht e.symm
   simp only [this];exact aHY h' t s hs
  cases h
 | (_,_ :: _,_) :: _,tr,h,_,_,_ => by cases h
def oZ (tr : Tr SV) : List Nat -> bR
 | [] => []
 | t :: r => match tr.get t with
  | some s => (t,[],s) :: oZ tr r
  | none => oZ tr r
theorem kR {tr : Tr SV} : ∀ {l : List Nat} {t : Nat} {p : Path} {s : SV},aI (oZ tr l) t = some (p,s) -> p = [] /\ tr.get t = some s
 | [],t,p,s,h => by cases h
 | u :: r,t,p,s,h => by
  simp only [oZ] at h;split at h;rename_i s' hs;simp only [aI] at h;by_cases hu : u = t;subst hu;simp only [beq_self_eq_true,if_true,oIQ,pIQ] at h;obtain ⟨rfl,rfl⟩ := h;exact ⟨rfl,hs⟩;have : (u == t) = false := by simpa using hu
  simp only [this] at h;exact kR h;exact kR h
def exB : Ex -> Ex -> Bool
 | .normal,.normal => true
 | .ret,.ret => true
 | .exit a,.exit b => Nat.beq a b
 | _,_ => false
theorem exB_ok {a b : Ex} (h : exB a b = true) : a = b := by
 cases a <;> cases b <;> first | rfl | cases h | skip
 exact congrArg _ (Nat.eq_of_beq_eq_true h)
def xK (E : Exe P G) (F : Nat) (n : Nat) (root : Code) (pos : List Nat) (k : Nat) (ex : Ex) (st st' : St) : Option (List (Option (Path × SV)) × List (Option Ob) × Bool × List Prop) :=
 match dV root pos,aO7 st.env,yG .e st.own.reverse with
 | some c,some env,some own => match evC E none n F c ⟨env,own,k,[],[],[],[]⟩ with
  | some (e,x) => match x.mks with
   | [] => match v8 [] ⟨oZ x.env (st'.env.map (·.1)),x.U ++ st.own⟩ st' with
    | some (_,a,b,ok,_) => some (a,b,ok && exB e ex,x.cs)
    | none => none
   | _ => none
  | none => none
 | _,_,_ => none
theorem s3 : ∀ (l m : List (Nat × Ob)),lookO (l ++ m) = iZ l (lookO m)
 | [],m => rfl
 | (i,o) :: r,m => by
  funext j;simp only [List.cons_append,lookO,iZ,upd];by_cases hj : j = i;subst hj; simp;have : (i == j) = false := by simp; exact fun e => hj e.symm
  simp [this,hj,s3 r m]
def rT (root : Code) : Nat -> Now -> Option (List Nat)
 | 0,_ => none
 | _ + 1,.code pos => some pos
 | _ + 1,.exit [] _ => none
 | f + 1,.exit (k :: p) e => match dV root p with
  | some (.seq _ _) => if k == 0 && e.isNormal then some (1 :: p) else rT root f (.exit p e)
  | some (.cond _ _ _) => rT root f (.exit p e)
  | some (.block id _) => if e.isExit id then rT root f (.exit p .normal) else rT root f (.exit p e)
  | _ => none
theorem eW {R : Wp P} {st : St} {pos : List Nat} : ∀ {f : Nat} {now : Now},rT root f now = some pos -> W R fr n root Q (.code pos) st -> W R fr n root Q now st
 | 0,now,h,_ => by cases h
 | f + 1,.code p,h,hk => by
  simp only [rT,oIQ] at h;subst h; exact hk
 | f + 1,.exit [] e,h,_ => by cases h
 | f + 1,.exit (k :: p) e,h,hk => by
  intro a w hok;simp only [rT] at h;split at h;rename_i x y hcode;split at h;rename_i hc;simp only [bIQ,beq_iff_eq] at hc;obtain ⟨rfl,he⟩ := hc;simp only [oIQ] at h;subst h;have := hk y (by simp [dV,hcode,child]) a w hok;simp only [ctx,hcode] at this ⊢;cases e <;> first | exact this | cases he
  rename_i hc;have := eW h hk a w hok;simp only [ctx,hcode];cases k with
  | zero => cases e <;> first | exact this | exact absurd rfl hc
  | succ k => exact this
  rename_i hcode;have := eW h hk a w hok;simp only [ctx,hcode];exact this;rename_i id x hcode;simp only [ctx,hcode];split at h;rename_i hc;have := eW h hk a w hok;cases e with
  | exit j =>
   have : j = id := by simpa [Ex.isExit] using hc
   subst this;simp only [Ex.to,Exit.inBlock,if_true];assumption
  | normal => cases hc
  | ret => cases hc
  rename_i hc;have := eW h hk a w hok;cases e with
  | exit j =>
   have hj : ¬ j = id := by simpa [Ex.isExit] using hc
   simp only [Ex.to,Exit.inBlock,if_neg hj];exact this
  | normal => exact this
  | ret => exact this
  cases h
theorem cT (hG : FrIs fr G []) (hm : P.follows .mixedOrders = true) (T : List (Ent P G)) (orc : Nat -> Option Bool) (lit : Nat -> Option Value) (hnt : Nat -> Option (List D)) (k : Nat) (ex : Ex) {pos : List Nat} {st : St} (st' : St) {cs : List Prop}
  (h : xK (aF4 T [] [] orc lit 100000 hnt 60) 100000 n root pos k ex st st' = some (st'.env.map (fun e => some e.2),st'.own.map (fun e => some e.2),true,cs)) (hc : conj cs)
  (hk : W (d6 P) fr n root Q (.exit pos ex) st') : W (d6 P) fr n root Q (.code pos) st := by
 unfold xK at h;split at h
 ·rename_i c env own hcode henv hown
  split at h
  ·rename_i e x hx
   split at h
   ·rename_i hmk
    split at h
    ·rename_i s0 a0 b0 ok0 c0 hkp
     simp only [oIQ,pIQ,bIQ] at h;obtain ⟨rfl,rfl,⟨rfl,hex⟩,rfl⟩ := h;obtain rfl := exB_ok hex;obtain ⟨dT,dU,dC,a1,a2,a3,a4,a5,a6⟩ := (aF5 (lG (T := T) (ne := []) (df := []) (orc := orc) (lit := lit) (F := 100000) (hnt := hnt) hm 60) hm 100000 c e _ x hx).dl;simp only [List.append_nil] at a1 a2 a3;subst a1;subst a3;intro c' hc' a w hok;rw [hcode] at hc';simp only [oIQ] at hc';subst hc';obtain ⟨pl,hok⟩ := hok;have hds : fr.ds = [] := hG.ds rfl;have hfr : { fr with ds := mkD pl [] } = fr := by
      have : mkD pl [] = fr.ds := by rw [hds]; rfl
      rw [this]
     have hE : own.get = lookO st.own := by
      rw [iG hown];have := rQ (l := st.own);rw [<- this]; congr 1
     refine cW (a6 (d6 P) fr (lookO st.own) a w pl _ rfl hG.G hc (fun i _ => by rw [hE]) ⟨?_,fun i hi => by cases hi⟩ ?_)
     ·rw [hfr]
      refine ⟨hok.mem,hok.defers,hok.size,fun t p sv hf hh => ?_,fun t p sv hf hh => ?_,hok.late⟩
      ·simp only [cJ,aI,me,pIQ] at hf
       obtain ⟨s,h1,rfl,rfl⟩ := hf;exact hok.yes t [] s (aHY henv t s h1) hh
      ·simp only [cJ,aI,me,pIQ] at hf
       obtain ⟨s,h1,rfl,rfl⟩ := hf;exact absurd holds_nil hh
     ·intro a' w' pl' hok'
      have hfr' : { fr with ds := mkD pl' x.mks } = fr := by
       have : mkD pl' x.mks = fr.ds := by rw [hds,hmk]; rfl
       rw [this]
      have ok1 := hok'.ok;rw [hfr'] at ok1;have hst : W (d6 P) fr n root Q (.exit pos e) ⟨oZ x.env (st'.env.map (·.1)),x.U ++ st.own⟩ := jT hG st' (by rw [hkp]; unfold v8 at hkp; simp only [oIQ,pIQ] at hkp; obtain ⟨rfl,_,_,_,rfl⟩ := hkp; rfl) hk
      refine hst a' w' ⟨pl',?_⟩;rw [s3,a2];refine ⟨ok1.mem,ok1.defers,ok1.size,fun t p sv hf hh => ?_,fun t p sv hf hh => ?_,ok1.late⟩
      ·obtain ⟨rfl,h1⟩ := kR hf
       exact ok1.yes t [] sv (by simp [cJ,aI,h1]) hh
      ·obtain ⟨rfl,h1⟩ := kR hf
       exact absurd holds_nil hh
    ·cases h
   ·cases h
  ·cases h
 ·cases h
end
end Go.V
