/- Part 31 of the proof. -/
import Derived.Test.YtgpedhfdniigoaaGreatDoorP30
import Derived.Test.YtgpedhfdniigoaaGreatDoorProg
import Derived.Test.YtgpedhfdniigoaaGreatDoorCards
import Derived.WalkKit
import Derived.ProofKit
import Derived.OpenShut
import Derived.Deep.DeepHandedRow
import Derived.Lib.LaidTab
import Derived.Lay
import Derived.Stop.LaidErr
import Derived.MakeChecks
import Derived.Carry
set_option linter.all false
namespace Go.Proofs.YtgpedhfdniigoaaGreatDoor
open Go.RowKit
open Go.Eng (inR byteAt u8 dD)
abbrev bs (s : ByteArray) : List UInt8 := s.data.toList
theorem wD (s : ByteArray) : (bs s).length = s.size := by cases s; simp [ByteArray.size]
def bAt (s : ByteArray) (k : Nat) : UInt8 := (bs s).getD k 0
theorem hM (s : ByteArray) (k : Nat) (h : k < s.size) : (bs s).drop k = bAt s k :: (bs s).drop (k + 1) := by
 have h' : k < (bs s).length := by rw [wD]; exact h
 rw [List.drop_eq_getElem_cons h',bAt,gd,ge h']; rfl
theorem aGP (a b : ByteArray) : (a.toList == b.toList) = decide (a = b) := by
 rw [Bool.eq_iff_iff]; simp only [beq_iff_eq,decide_eq_true_eq,ByteArray.toList_eq]
 constructor
 intro h
 cases a; cases b
 exact congrArg ByteArray.mk (Array.toList_inj.1 h)
 rintro rfl; rfl
theorem aA0 (s : ByteArray) (k : Nat) (h : s.size <= k) : (bs s).drop k = [] := List.drop_eq_nil_of_le (by rw [wD]; exact h)
theorem dX (s : ByteArray) (k : Nat) : byteAt s (k : Int) = ((bAt s k).toNat : Int) := by simp [byteAt,bAt]
def cK (c : Int) : Bool := (decide (c >= 97) && decide (c <= 122)) || (decide (c >= 65) && decide (c <= 90))
def iX (c : UInt8) : Bool := decide (32 <= (c.toNat : Int)) && decide ((c.toNat : Int) <= 126)
def bS (c : UInt8) : Bool := cK c.toNat || decide ((c.toNat : Int) = 95) || (decide (48 <= (c.toNat : Int)) && decide ((c.toNat : Int) <= 57))
def bA (s : ByteArray) : Bool := decide (1 <= s.size) && decide (s.size <= 20) && cK (bAt s 0).toNat && (bs s).all bS
theorem tail_of {x : Int} {b : Bool} (h : (b = true \/ x = 95) \/ ¬ x < 48 /\ ¬ x > 57) : (b || decide (x = 95) || (decide (48 <= x) && decide (x <= 57))) = true := by
 rcases h with (h | h) | h
 simp [h]
 simp [h]
 have h1 : 48 <= x := by omega
 have h2 : x <= 57 := by omega
 simp [h1,h2]
theorem aJR {x : Int} {b : Bool} (h : (b = false /\ ¬ x = 95) /\ (x < 48 \/ x > 57)) : (b || decide (x = 95) || (decide (48 <= x) && decide (x <= 57))) = false := by
 obtain ⟨⟨h1,h2⟩,h3⟩ := h
 simp [h1,h2]; omega
theorem pC (s : ByteArray) : byteAt s 0 = ((bAt s 0).toNat : Int) := dX s 0
theorem aFH {s : ByteArray} (h : (s.size = 0 \/ (s.size : Int) > 20) \/ cK (byteAt s 0) = false) : bA s = false := by
 rcases h with (h | h) | h
 simp [bA,h]
 have : ¬ s.size <= 20 := by omega
 simp [bA,this]
 rw [pC] at h; simp [bA,h]
theorem vM {s : ByteArray} (ht : (bs s).all bS = false) : bA s = false := by simp [bA,ht]
theorem i6 (x : Int) : cK x = true ↔ (x >= 97 /\ x <= 122 \/ x >= 65 /\ x <= 90) := by simp [cK]
theorem m4 (x : Int) : cK x = false ↔ ¬ (x >= 97 /\ x <= 122 \/ x >= 65 /\ x <= 90) := by rw [<- i6]; simp
theorem rn_tail {c : UInt8} {k : Int} (h : ((c.toNat : Int) >= 97 /\ (c.toNat : Int) <= 122 \/ (c.toNat : Int) >= 65 /\ (c.toNat : Int) <= 90) \/ ¬ k = 0 /\ ((c.toNat : Int) = 95 \/ ¬ (c.toNat : Int) < 48 /\ ¬ (c.toNat : Int) > 57)) : bS c = true := by
 rcases h with h | ⟨_,h | h⟩
 rw [bS,(i6 _).2 h]; rfl
 rw [bS,h]; simp
 exact tail_of (.inr h)
theorem rn_head {s : ByteArray} {k : Nat} {Z : Prop} (h : (((bAt s k).toNat : Int) >= 97 /\ ((bAt s k).toNat : Int) <= 122 \/ ((bAt s k).toNat : Int) >= 65 /\ ((bAt s k).toNat : Int) <= 90) \/ ¬ (k : Int) = 0 /\ Z)
  (hl : 1 <= k -> cK (bAt s 0).toNat = true) : cK (bAt s 0).toNat = true := by
 by_cases hk : k = 0
 subst hk
 rcases h with h | h
 exact (i6 _).2 h
 exact absurd rfl h.1
 exact hl (by omega)
theorem rn_bad {s : ByteArray} {k : Nat} {r : List UInt8} (h : ¬ (((bAt s k).toNat : Int) >= 97 /\ ((bAt s k).toNat : Int) <= 122 \/ ((bAt s k).toNat : Int) >= 65 /\ ((bAt s k).toNat : Int) <= 90) /\ ((k : Int) = 0 \/ ¬ ((bAt s k).toNat : Int) = 95 /\ (((bAt s k).toNat : Int) < 48 \/ ((bAt s k).toNat : Int) > 57)))
  (hall : (bs s).all bS = ((bs s).drop k).all bS) (hd : (bs s).drop k = bAt s k :: r) : bA s = false := by
 obtain ⟨h1,h2⟩ := h
 rcases h2 with h2 | h2
 have : k = 0 := by omega
 subst this
 exact aFH (.inr (by rw [pC]; exact (m4 _).2 h1))
 exact vM (by rw [hall,hd,List.all_cons,bS,aJR ⟨⟨(m4 _).2 h1,h2.1⟩,h2.2⟩,Bool.false_and])
theorem rn_end {s : ByteArray} {k : Nat} (hall : (bs s).all bS = ((bs s).drop k).all bS) (hd : (bs s).drop k = []) (hk : s.size <= k) (hl : 1 <= k -> cK (bAt s 0).toNat = true) :
  (decide ((s.size : Int) >= 1) && decide ((s.size : Int) <= 20)) = bA s := by
 rw [hd] at hall
 simp only [List.all_nil] at hall
 by_cases h : s.size = 0
 simp [bA,h]
 simp only [bA,hall,hl (by omega),Bool.and_true]
 rw [Bool.eq_iff_iff]; simp; omega
def mlen : List Int := [31,28,31,30,31,30,31,31,30,31,30,31]
def S (l : List UInt8) : ByteArray := ⟨l.toArray⟩
theorem bH (l : List UInt8) : (S l).size = l.length := by simp [S,ByteArray.size]
def bL (l : List UInt8) : Nat := l.foldl (fun a b => 256 * a + b.toNat) 0
def cL (l : List UInt8) : List UInt8 := l.dropWhile (· == 0)
def nb (n : Nat) : List UInt8 := if h : n = 0 then [] else nb (n / 256) ++ [UInt8.ofNat (n % 256)]
termination_by n
decreasing_by exact Nat.div_lt_self (Nat.pos_of_ne_zero h) (by decide)
theorem nb_zero : nb 0 = [] := by rw [nb]; simp
theorem lO {n : Nat} (h : n ≠ 0) : nb n = nb (n / 256) ++ [UInt8.ofNat (n % 256)] := by rw [nb]; simp [h]
theorem eE (l : List UInt8) (x : UInt8) : bL (l ++ [x]) = 256 * bL l + x.toNat := by simp [bL,List.foldl_append]
theorem aBA : bL [] = 0 := rfl
theorem foldB (l : List UInt8) : ∀ a : Nat,l.foldl (fun a b => 256 * a + b.toNat) a = a * 256 ^ l.length + bL l := by
 induction l with
 | nil => intro a; simp [bL]
 | cons x t ih =>
  intro a
  have hv : bL (x :: t) = (256 * 0 + x.toNat) * 256 ^ t.length + bL t := ih (256 * 0 + x.toNat)
  rw [List.foldl_cons,ih,hv]
  simp only [lc,Nat.pow_succ,Nat.mul_zero,Nat.zero_add,Nat.add_mul]
  rw [Nat.mul_comm 256 a,Nat.mul_assoc,Nat.mul_comm 256 (256 ^ t.length)]
  omega
theorem kH (x : UInt8) (t : List UInt8) : bL (x :: t) = x.toNat * 256 ^ t.length + bL t := by
 rw [bL,List.foldl_cons,foldB]; simp
theorem aBB (a b : List UInt8) : bL (a ++ b) = bL a * 256 ^ b.length + bL b := by
 rw [bL,List.foldl_append,foldB]; rfl
theorem qR (l : List UInt8) : bL l < 256 ^ l.length := by
 induction l with
 | nil => simp [bL]
 | cons x t ih =>
  rw [kH,lc,Nat.pow_succ]
  have := x.toNat_lt
  have h : (x.toNat + 1) * 256 ^ t.length <= 256 * 256 ^ t.length := Nat.mul_le_mul_right _ (by omega)
  rw [Nat.add_mul] at h
  rw [Nat.mul_comm (256 ^ t.length) 256]
  omega
theorem f9 (n : Nat) : bL (nb n) = n := by
 induction n using Nat.strongRecOn with
 | ind n ih =>
  by_cases h : n = 0
  subst h; rw [nb_zero]; rfl
  rw [lO h,eE,ih _ (Nat.div_lt_self (Nat.pos_of_ne_zero h) (by decide))]
  have : (UInt8.ofNat (n % 256)).toNat = n % 256 := by simp
  rw [this]; omega
theorem aLA {v : Nat} {x : UInt8} (h : ¬ (v = 0 /\ x = 0)) : nb (256 * v + x.toNat) = nb v ++ [x] := by
 have hx := x.toNat_lt
 have hn : 256 * v + x.toNat ≠ 0 := by
  intro hz
  have hx0 : x.toNat = 0 := by omega
  exact h ⟨by omega,UInt8.toNat_inj.1 (by simpa using hx0)⟩
 rw [lO hn]
 have h1 : (256 * v + x.toNat) / 256 = v := by omega
 have h2 : (256 * v + x.toNat) % 256 = x.toNat := by omega
 rw [h1,h2]; simp
theorem aGV {P : List UInt8 -> Prop} (h0 : P []) (h1 : ∀ l x,P l -> P (l ++ [x])) (l : List UInt8) : P l := by
 have : ∀ r : List UInt8,P r.reverse := by
  intro r
  induction r with
  | nil => exact h0
  | cons x t ih => rw [List.reverse_cons]; exact h1 _ _ ih
 have := this l.reverse
 rwa [List.reverse_reverse] at this
theorem v7 (l : List UInt8) (x : UInt8) : cL (l ++ [x]) = if cL l = [] then (if x = 0 then [] else [x]) else cL l ++ [x] := by
 induction l with
 | nil => simp [cL,List.dropWhile_cons]
 | cons y t ih =>
  simp only [cL,List.cons_append,List.dropWhile_cons] at ih ⊢
  by_cases hy : (y == 0) = true
  simp only [hy,if_true]; exact ih
  simp [hy]
theorem wB (l : List UInt8) : cL l = [] ↔ bL l = 0 := by
 refine aGV (P := fun l => cL l = [] ↔ bL l = 0) ?_ ?_ l
 simp [cL,bL]
 intro l x ih
 rw [v7,eE]
 by_cases h : cL l = []
 rw [if_pos h,ih.1 h]
 by_cases hx : x = 0
 simp [hx]
 rw [if_neg hx]
 constructor
 intro h; simp at h
 intro h; exact absurd (UInt8.toNat_inj.1 (by simpa using h)) hx
 rw [if_neg h]
 have : bL l ≠ 0 := fun hz => h (ih.2 hz)
 constructor
 intro h; simp at h
 intro h; omega
theorem aD2 (l : List UInt8) : cL l = nb (bL l) := by
 refine aGV (P := fun l => cL l = nb (bL l)) ?_ ?_ l
 simp [cL,bL,nb_zero]
 intro l x ih
 rw [v7,eE]
 by_cases h : cL l = []
 rw [if_pos h,(wB l).1 h]
 by_cases hx : x = 0
 subst hx; simp [nb_zero]
 rw [if_neg hx,aLA (v := 0) (fun hh => hx hh.2),nb_zero]; rfl
 rw [if_neg h]
 have : bL l ≠ 0 := fun hz => h ((wB l).2 hz)
 rw [aLA (fun hh => this hh.1),ih]
theorem fS {n k : Nat} (h : n < 256 ^ k) : (nb n).length <= k := by
 induction k generalizing n with
 | zero => simp at h; subst h; rw [nb_zero]; simp
 | succ k ih =>
  by_cases hn : n = 0
  subst hn; rw [nb_zero]; simp
  rw [lO hn]; simp
  refine ih ?_
  rw [Nat.pow_succ] at h
  exact Nat.div_lt_of_lt_mul (by rw [Nat.mul_comm]; exact h)
theorem vL {n k : Nat} (h : 256 ^ k <= n) : k < (nb n).length := by
 rcases Nat.lt_or_ge k (nb n).length with h1 | h1
 exact h1
 have := qR (nb n)
 rw [f9] at this
 have h2 := Nat.pow_le_pow_right (n := 256) (by decide) h1
 omega
theorem aDG (n : Nat) : (nb n).length = 0 ↔ n = 0 := by
 constructor
 intro h
 have := f9 n
 rw [List.length_eq_zero_iff.1 h] at this
 exact this.symm
 intro h; subst h; rw [nb_zero]; rfl
theorem nb_head {n : Nat} (h : n < 2 ^ 63) (hl : (nb n).length = 8) : ((nb n).getD 0 0).toNat <= 127 := by
 have hv := f9 n
 cases hn : nb n with
 | nil => rw [hn] at hl; simp at hl
 | cons x t =>
  rw [hn] at hl hv
  rw [kH] at hv
  simp at hl
  rw [hl] at hv
  simp
  have : x.toNat * 256 ^ 7 < 2 ^ 63 := by omega
  omega
theorem wL (l : List UInt8) (k : Nat) : bL (l.take k) <= bL l := by
 have h := aBB (l.take k) (l.drop k)
 rw [List.take_append_drop] at h
 have h1 : 1 <= 256 ^ (l.drop k).length := Nat.one_le_pow _ _ (by decide)
 have h2 := Nat.mul_le_mul_left (bL (l.take k)) h1
 omega
theorem rC {l : List UInt8} {k : Nat} (h : k < l.length) : bL (l.take (k + 1)) = 256 * bL (l.take k) + (l.getD k 0).toNat := by
 rw [List.take_add_one,ge h]
 simp only [Option.toList]
 rw [eE]
 simp [List.getD,h]
theorem gS (l : List UInt8) (i : Int) : byteAt (S l) i = ((l.getD i.toNat 0).toNat : Int) := by simp [byteAt,S]
theorem S_drop (l : List UInt8) (k : Nat) : (S l).extract k (S l).size = S (l.drop k) := by
 have h : ((S l).extract k (S l).size).data = (S (l.drop k)).data := by
  rw [ByteArray.data_extract,bH]
  simp [S,tl]
 cases h1 : (S l).extract k (S l).size; cases h2 : S (l.drop k); rw [h1,h2] at h; simpa using h
theorem aGC {l : List UInt8} {k : Nat} (h : k < l.length) (hz : (l.getD k 0).toNat = 0) : cL (l.drop k) = cL (l.drop (k + 1)) := by
 rw [List.drop_eq_getElem_cons h]
 have : l[k] = 0 := by
  simp [List.getD,h] at hz
  exact UInt8.toNat_inj.1 (by simpa using hz)
 simp [cL,List.dropWhile_cons,this]
theorem aGD {l : List UInt8} {k : Nat} (h : ¬ (k < l.length /\ (l.getD k 0).toNat = 0)) : cL (l.drop k) = l.drop k := by
 rcases Nat.lt_or_ge k l.length with hk | hk
 rw [List.drop_eq_getElem_cons hk]
 have : ¬ (l[k] = 0) := by
  intro hz
  exact h ⟨hk,by simp [List.getD,hk,hz]⟩
 have h2 : (l[k] == 0) = false := by simpa using this
 rw [cL,List.dropWhile_cons,h2]; rfl
 rw [List.drop_eq_nil_of_le hk]; rfl
theorem lY (x : Int) : ((u8 x).toNat : Int) = x % 256 := by
 have h1 := Int.emod_nonneg x (show (256 : Int) ≠ 0 by decide)
 have h2 := Int.emod_lt_of_pos x (show (0 : Int) < 256 by decide)
 rw [u8]; simp; omega
theorem wrap64 {x : Int} (h : inR x) : IntKind.wrap .i64 x = x := by
 unfold inR at h
 simp [IntKind.wrap,IntKind.bits,IntKind.signed]
 omega
theorem aA8 (x : UInt8) : IntKind.wrap .i64 (x.toNat : Int) = (x.toNat : Int) := by
 have := x.toNat_lt
 exact wrap64 (by unfold inR; omega)
end Go.Proofs.YtgpedhfdniigoaaGreatDoor
namespace Go.Proofs.YtgpedhfdniigoaaGreatDoor
open Go.RowKit Go.V
open Go.Eng (inR byteAt u8 dD)
structure Gv where
 maxLen : Int
 more : List (Nat × List Value) := []
def powL : List Int := [1,10,100,1000,10000,100000,1000000,10000000,100000000,1000000000,10000000000,100000000000,1000000000000,10000000000000,100000000000000,1000000000000000,10000000000000000,100000000000000000,1000000000000000000,10000000000000000000]
def Gl (g : Gv) : List (Nat × List Value) := (0,[.int .i64 g.maxLen]) :: (1,powL.map (Value.int .u64)) :: (10,mlen.map (Value.int .i64)) :: g.more
def SpG (g : Gv) (f : FuncId) (ins : List SV) (refs : bR) (out : SV) (post : bR) : Prop := V.Spec Tryz.prog (Gl g) f ins refs out post
theorem cS1 (g) {f i r o p} (h : SpG g f i r o p) : conj [SpG g f i r o p] := h
theorem cS2 (g) {f i r o p} {d : Prop} {l : List Prop} (h : SpG g f i r o p) (k : conj (d :: l)) : conj (SpG g f i r o p :: d :: l) := ⟨h,k⟩
theorem aH : Tryz.prog.follows .mixedOrders = true := by kernel_rfl
section
variable {R : Wp Tryz.prog} {fr : Fr} {n : Nat} {root : Code} {Q : Exit -> Act -> World -> Prop} {G : List (Nat × List Value)} {pids : List Nat} {now : Now} {st : V.St} {cs : List Prop}
theorem zC (hG : FrIs fr G pids) (hs : dM) (pos : List Nat) (b : Bool) (st' : V.St) (hc : V.conj cs) (ht : b = true -> W R fr n root Q (.code (0 :: pos)) st') (hf : b = false -> W R fr n root Q (.code (1 :: pos)) st') (h : goS Tryz.prog G pids n root hs 1000 now st st' = told (.cond pos b) st' cs := by kernel_rfl) : W R fr n root Q now st := stepC hG aH hs pos b st' cs h hc ht hf
theorem zc (hG : FrIs fr G pids) (hs : dM) (pos : List Nat) (b : Bool) (hc : V.conj cs) (ht : b = true -> W R fr n root Q (.code (0 :: pos)) st) (hf : b = false -> W R fr n root Q (.code (1 :: pos)) st) (h : goS Tryz.prog G pids n root hs 1000 now st st = told (.cond pos b) st cs := by kernel_rfl) : W R fr n root Q now st := stepC hG aH hs pos b st cs h hc ht hf
theorem zr {fn : Func} {out : SV} {post : bR} (hG : FrIs fr G []) (hs : dM) (ids : List Nat) (hc : V.conj cs) (h : goR Tryz.prog G n root hs 1000 now st fn ids = some (out,post,cs) := by kernel_rfl) : W R fr n root (bodyPost Tryz.prog fn (uS fr out post)) now st := aEN hG aH hs ids out post h hc rfl rfl
theorem zR {fn : Func} {out : SV} {post : bR} (hG : FrIs fr G []) (hs : dM) (ids : List Nat) (out' : SV) (post' : bR) (hc : V.conj cs) (ho : out' = out) (hp : post' = post) (h : goR Tryz.prog G n root hs 1000 now st fn ids = some (out',post',cs) := by kernel_rfl) : W R fr n root (bodyPost Tryz.prog fn (uS fr out post)) now st := aEN hG aH hs ids out' post' h hc ho hp
theorem zL {σ : Type} (hG : FrIs fr G pids) (hs : dM) (pos : List Nat) (F : σ -> Nat × V.St × Prop) (x0 : σ) (hc : V.conj cs) (h0 : (F x0).2.2) (round : ∀ x,(F x).2.2 -> W R fr n (jZ root pos) (Exit.then (V.Handed fr n (fun x => (F x).1) (fun x => (F x).2.1) (fun x => (F x).2.2) x) (ctx R root Q pos)) (.code []) (F x).2.1) (h : goS Tryz.prog G pids n root hs 1000 now st (F x0).2.1 = told (.loop pos) (F x0).2.1 cs := by kernel_rfl) (hl : aAN root pos = true := by kernel_rfl) : W R fr n root Q now st :=
 uZ hG aH hs pos (F x0).2.1 cs h hc (vN (fun x => (F x).1) (fun x => (F x).2.1) (fun x => (F x).2.2) x0 hl h0 round)
theorem zA {σ : Type} (hG : FrIs fr G pids) (hs : dM) (pos : List Nat) (st6 : V.St) (ss : List (Nat × Nat × Nat × Nat)) (cc : List (Nat × Nat × Nat × Nat × Nat)) (F : σ -> Nat × V.St × Prop) (x0 : σ) (hc : V.conj cs) (h0 : (F x0).2.2) (round : ∀ x,(F x).2.2 -> W R fr n (jZ root pos) (Exit.then (V.Handed fr n (fun x => (F x).1) (fun x => (F x).2.1) (fun x => (F x).2.2) x) (ctx R root Q pos)) (.code []) (F x).2.1) (h : goS Tryz.prog G pids n root hs 1000 now st st6 = told (.loop pos) st6 cs := by kernel_rfl) (ha : adK pids ss cc st6 (F x0).2.1 = told (.loop []) (F x0).2.1 [] := by kernel_rfl) (hl : aAN root pos = true := by kernel_rfl) : W R fr n root Q now st :=
 uZ hG aH hs pos st6 cs h hc (stepA hG ss cc (F x0).2.1 ha (vN (fun x => (F x).1) (fun x => (F x).2.1) (fun x => (F x).2.2) x0 hl h0 round))
theorem zD {σ : Type} {m : σ -> Nat} {S : σ -> V.St} {Inv : σ -> Prop} {x : σ} {Q0 : Exit -> Act -> World -> Prop} (hG : FrIs fr G pids) (hs : dM) (y : σ) (hc : V.conj cs) (hlt : m y < m x) (hI : Inv y) (h : goS Tryz.prog G pids n root hs 1000 now st (S y) = told (.done .normal) (S y) cs := by kernel_rfl) : W R fr n root (Exit.then (V.Handed fr n m S Inv x) Q0) now st := roundE hG aH hs y cs h hc hlt hI
theorem zE {H : Act -> World -> Prop} {root' : Code} {pos : List Nat} (hG : FrIs fr G pids) (hs : dM) (e : Ex) (st' : V.St) (hc : V.conj cs) (he : e.isNormal = false) (hk : W R fr n root' Q (.exit pos e) st') (h : goS Tryz.prog G pids n root hs 1000 now st st' = told (.done e) st' cs := by kernel_rfl) : W R fr n root (Exit.then H (ctx R root' Q pos)) now st := leaveE hG aH hs e st' cs h hc he hk
theorem zP (hG : FrIs fr G pids) (hs : dM) (pos : List Nat) (p : Prop) [Decidable p] (st' : V.St) (hc : V.conj cs) (ht : p -> W R fr n root Q (.code (0 :: pos)) st') (hf : ¬ p -> W R fr n root Q (.code (1 :: pos)) st') (h : goS Tryz.prog G pids n root hs 1000 now st st' = told (.cond pos (decide p)) st' cs := by kernel_rfl) : W R fr n root Q now st := zC hG hs pos (decide p) st' hc (fun h => ht (of_decide_eq_true h)) (fun h => hf (of_decide_eq_false h)) h
theorem zp (hG : FrIs fr G pids) (hs : dM) (pos : List Nat) (p : Prop) [Decidable p] (hc : V.conj cs) (ht : p -> W R fr n root Q (.code (0 :: pos)) st) (hf : ¬ p -> W R fr n root Q (.code (1 :: pos)) st) (h : goS Tryz.prog G pids n root hs 1000 now st st = told (.cond pos (decide p)) st cs := by kernel_rfl) : W R fr n root Q now st := zc hG hs pos (decide p) hc (fun h => ht (of_decide_eq_true h)) (fun h => hf (of_decide_eq_false h)) h
end
structure Cl where
 kind : Int
 s : List UInt8
 dn : Int
 ds : Int
 n : Int
 deriving DecidableEq
structure Vl where
 kind : Int
 s : List UInt8
 dn : Int
 ds : Int
 n : Int
 cols : List (List UInt8)
 rows : List (List Cl)
 deriving DecidableEq
def iA (s : List UInt8) : List D := [.s (S s)]
def strs (l : List (List UInt8)) : LD := l.map iA
def ClD (c : Cl) : List D := [.i c.kind,.s (S c.s),.i c.dn,.i c.ds,.i c.n,.sl 1 [],.sl 1 []]
def rowD (r : List Cl) : LD := r.map ClD
def rows1 (r : List Cl) : List D := [.sl 7 (rowD r)]
def aBP (l : List (List Cl)) : LD := l.map rows1
def VlD (v : Vl) : List D := [.i v.kind,.s (S v.s),.i v.dn,.i v.ds,.i v.n,.sl 1 (strs v.cols),.sl 1 (aBP v.rows)]
def aJQ (l : List Vl) : LD := l.map VlD
theorem aK {α β : Type} {f : α -> β} {l : List α} {i : Int} (z : α) (h0 : 0 <= i) (h : i < (l.length : Int)) : 0 <= i /\ (l.map f)[i.toNat]? = some (f (l.getD i.toNat z)) := by
 have : i.toNat < l.length := by omega
 exact ⟨h0,by simp [this]⟩
theorem bN {α β : Type} {f : α -> β} {l : List α} {k : Nat} (z : α) (h : k < l.length) : (l.map f)[k]? = some (f (l.getD k z)) := by simp [h]
theorem aM8 {a b : List UInt8} : S a = S b ↔ a = b := by
 constructor
 intro h; have := congrArg (fun x => x.data.toList) h; simpa [S] using this
 rintro rfl; rfl
theorem lC (a b : List UInt8) : ((S a).toList == (S b).toList) = decide (a = b) := by rw [aGP]; simp [aM8]
theorem S_eqv {a b : List UInt8} : (((S a).toList == (S b).toList) = true) = (a = b) := by rw [lC]; simp
theorem S_eqf {a b : List UInt8} : (((S a).toList == (S b).toList) = false) = ¬ (a = b) := by rw [lC]; simp
section
variable {g : Gv}
theorem aC8 {f : FuncId} {ins : List SV} {out : SV} {args : List Value} {v : Value} (hi : s6 ins = some args) (ho : exT out = some v) (hk : okS out = true)
  (h : ∀ w : World,Calls Tryz.prog f args.toArray w fun e w' => e = .returned v /\ w = w') : SpG g f ins [] out [] :=
 qS hi ho hk fun w _ => (h w).mono fun e w' ⟨h1,h2⟩ => ⟨h1,by subst h2; exact Below.refl _ _⟩
end
def intD (x : Int) : List D := [.i x]
def intsD (l : List Int) : LD := l.map intD
theorem hJ (acc : List UInt8) (x : Int) : bytesD acc ++ [[D.y (IntKind.wrap .u8 x)]] = bytesD (acc ++ [u8 x]) := by
 simp [bytesD,D.y,Eng.wrap_u8]
theorem aD4 (acc : List UInt8) : bytesD (S acc).data.toList = bytesD acc := by simp [S]
abbrev zI (n : Nat) (x : Int) : Nat × Path × SV := (n,[],.c (.d (.i x)))
abbrev zS (n : Nat) (x : ByteArray) : Nat × Path × SV := (n,[],.c (.d (.s x)))
abbrev zB (n : Nat) (x : Bool) : Nat × Path × SV := (n,[],.c (.d (.b x)))
abbrev zX (n a b : Nat) : Nat × Path × SV := (n,[],.c (.bx a b))
abbrev zY (n a b : Nat) : Nat × Path × SV := (n,[],.c (.ar a b))
abbrev zN (n : Nat) : Nat × Path × SV := (n,[],.c (.d (.nil)))
abbrev zM (n s : Nat) (e : LD) : Nat × Path × SV := (n,[],.c (.d (.sl s e)))
abbrev cI (x : Int) : C := .d (.i x)
abbrev cS (x : ByteArray) : C := .d (.s x)
abbrev cB (x : Bool) : C := .d (.b x)
abbrev cN : C := .d (.nil)
abbrev cM (s : Nat) (e : LD) : C := .d (.sl s e)
abbrev zV (v : Vl) : List C := [cI v.kind,cS (S v.s),cI v.dn,cI v.ds,cI v.n,cM 1 (strs v.cols),cM 1 (aBP v.rows)]
abbrev zW (v : Cl) : List C := [cI v.kind,cS (S v.s),cI v.dn,cI v.ds,cI v.n,cM 1 [],cM 1 []]
abbrev kI (x : Int) : Hint := .call (.c (cI x)) [] []
abbrev kS (x : ByteArray) : Hint := .call (.c (cS x)) [] []
abbrev kB (x : Bool) : Hint := .call (.c (cB x)) [] []
abbrev kC (x : SV) : Hint := .call x [] []
end Go.Proofs.YtgpedhfdniigoaaGreatDoor
namespace Go.Proofs.YtgpedhfdniigoaaGreatDoor
open Go.RowKit Go.V
open Go.Eng (inR byteAt u8 dD)
variable {g : Gv}
theorem aR {a b : Bool} (h : a = b) : (SV.c (cB a) : SV) = .c (cB b) := by rw [h]
theorem aBU (s : ByteArray) (hs : s.size <= maxLen) :
  SpG g 46 [.c (cS s)] [] (.c (cB (bA s))) [] := by
 unfold maxLen at hs
 refine aQ 55 Tryz.func46 fun fr hG => ?_
 refine zL hG [] [0,1,0,1] (fun (zz : Nat) => match zz with | k => (s.size - k,⟨[zS 0 s,zB 2 false,zI 3 (k : Int)],[]⟩,k <= s.size /\ (bs s).all bS = ((bs s).drop k).all bS /\ (1 <= k -> cK (bAt s 0).toNat = true))) 0 aE ?_ ?_
 exact ⟨zl _,rfl,fun h => by omega⟩
 rintro k ⟨hk,hall,hl0⟩
 refine zp hG [] [1,0] ((k : Int) < (s.size : Int)) aE (fun hc2 => ?_) (fun hc2 => ?_)
 skip
 refine zc hG [] [1,1,1,0,0,1] ((!(((decide ((byteAt s (k : Int) : Int) >= 97)) && (decide ((byteAt s (k : Int) : Int) <= 122))) || ((decide ((byteAt s (k : Int) : Int) >= 65)) && (decide ((byteAt s (k : Int) : Int) <= 90))))) && ((decide ((k : Int) = 0)) || ((!decide ((byteAt s (k : Int) : Int) = 95)) && ((decide ((byteAt s (k : Int) : Int) < 48)) || (decide ((byteAt s (k : Int) : Int) > 57)))))) (aG (by intros; first | omega | decide | (simp only [inR,blS] at *; omega) : (0 : Int) <= (k : Int) /\ (k : Int) < (s.size : Int))) (fun hc3 => ?_) (fun hc3 => ?_)
 (try simp only [blS] at hc3)
 refine zE hG [] .ret (⟨[zS 0 s,zB 2 false],[]⟩) aE rfl ?_
 refine zR hG [] [] (.c (cB false)) [] aE ?_ ?_
 simp only [dX] at hc3
 exact aR (rn_bad (by omega) hall (hM s k (by omega))).symm
 rfl
 (try simp only [blS] at hc3)
 refine zD hG [] (k + 1) (aG (by intros; first | omega | decide | (simp only [inR,blS] at *; omega) : inR ((k : Int) + 1))) ?_ ?_
 (try dsimp only); omega
 simp only [dX] at hc3
 exact ⟨by omega,by rw [hall,hM s k (by omega),List.all_cons,rn_tail hc3,Bool.true_and],fun _ => rn_head hc3 hl0⟩
 skip
 refine zE hG [] (.exit 0) (⟨[zS 0 s,zB 2 false],[]⟩) aE rfl ?_
 refine zR hG [] [] (.c (cB ((decide (((s.size : Int) : Int) >= 1)) && (decide (((s.size : Int) : Int) <= 20))))) [] aE ?_ ?_
 exact aR (rn_end hall (aA0 s k (by omega)) (by omega) hl0)
 rfl
end Go.Proofs.YtgpedhfdniigoaaGreatDoor
namespace Go.Proofs.YtgpedhfdniigoaaGreatDoor
open Go.RowKit Go.V
open Go.Eng (inR byteAt u8 dD)
variable {g : Gv}
structure Co where
 nm : List UInt8
 kd : Int
 deriving DecidableEq
structure Sy where
 nm : List UInt8
 kd : Int
 mx : Int
 deriving DecidableEq
structure Rl where
 h : Int
 op : List UInt8
 pa : List UInt8
 ar : List Int
 deriving DecidableEq
structure Gr where
 nm : List UInt8
 ve : Int
 cs : List Co
 ss : List Sy
 rs : List Rl
 st : Int
 deriving DecidableEq
def Co.z : Co := ⟨[],0⟩
def Sy.z : Sy := ⟨[],0,0⟩
def Rl.z : Rl := ⟨0,[],[],[]⟩
def CoD (c : Co) : List D := [.s (S c.nm),.i c.kd]
def SyD (c : Sy) : List D := [.s (S c.nm),.i c.kd,.i c.mx]
def RlD (r : Rl) : List D := [.i r.h,.s (S r.op),.s (S r.pa),.sl 1 (intsD r.ar)]
def aC (l : List Co) : LD := l.map CoD
def aA (l : List Sy) : LD := l.map SyD
def aB (l : List Rl) : LD := l.map RlD
def rlC (r : Rl) : List C := [cI r.h,cS (S r.op),cS (S r.pa),cM 1 (intsD r.ar)]
def grC (a : Gr) : List C := [cS (S a.nm),cI a.ve,cM 2 (aC a.cs),cM 3 (aA a.ss),cM 4 (aB a.rs),cI a.st]
theorem eI {α : Type} {a b : List α} (z : α) (hl : a.length = b.length) (h : ∀ j,j < a.length -> a.getD j z = b.getD j z) : a = b := by
 apply List.ext_getElem hl
 intro j h1 h2
 have := h j h1
 simpa [h1,h2] using this
theorem jW {α : Type} {a b : List α} (z : α) {j : Nat} (h : ¬ a.getD j z = b.getD j z) : ¬ a = b := fun e => h (by rw [e])
theorem aW {P : Nat -> Prop} {k : Nat} (h : ∀ j,j < k -> P j) (hk : P k) : ∀ j,j < k + 1 -> P j := fun j hj => by
 rcases Nat.lt_succ_iff_lt_or_eq.1 hj with h' | h'
 exact h j h'
 rw [h']; exact hk
theorem gF {α β : Type} {f : α -> β} {l : List α} {k : Nat} (z : α) (h : k < l.length) : (l.take k).map f ++ [f (l.getD k z)] = (l.take (k + 1)).map f := by
 have e : l.take (k + 1) = l.take k ++ [l.getD k z] := by rw [List.take_add_one]; simp [h]
 rw [e]; simp
theorem S_bq (a b : List UInt8) : (S a == S b) = decide (a = b) := by
 rw [Bool.eq_iff_iff,decide_eq_true_eq,<- aM8 (a := a)]
 show ((S a).data == (S b).data) = true ↔ _
 rw [beq_iff_eq]
 exact ⟨fun h => congrArg ByteArray.mk h,fun h => congrArg ByteArray.data h⟩
theorem bZ {x y : Co} : ((S x.nm == S y.nm) && ((x.kd : Int) == y.kd)) = decide (x = y) := by
 obtain ⟨a,b⟩ := x; obtain ⟨c,d⟩ := y
 rw [S_bq]; by_cases h1 : a = c <;> by_cases h2 : b = d <;> simp [h1,h2]
theorem bX {x y : Sy} : ((S x.nm == S y.nm) && ((x.kd : Int) == y.kd) && ((x.mx : Int) == y.mx)) = decide (x = y) := by
 obtain ⟨a,b,e⟩ := x; obtain ⟨c,d,f⟩ := y
 rw [S_bq]; by_cases h1 : a = c <;> by_cases h2 : b = d <;> by_cases h3 : e = f <;> simp [h1,h2,h3]
structure Rl.small (r : Rl) : Prop where
 op : r.op.length <= 1000000
 pa : r.pa.length <= 1000000
 ar : r.ar.length <= 1000000
structure Gr.small (a : Gr) : Prop where
 nm : a.nm.length <= 1000000
 cs : a.cs.length <= 1000000
 ss : a.ss.length <= 1000000
 rs : a.rs.length <= 1000000
 each : ∀ r,r ∈ a.rs -> r.small
theorem bG {α : Type} {z : α} {l : List α} {k : Nat} (h : k < l.length) : l.getD k z ∈ l := by
 simp [gd,h]
theorem bT {a : Gr} (h : a.small) (k : Nat) : (a.rs.getD k Rl.z).small := by
 by_cases hk : k < a.rs.length
 exact h.each _ (bG hk)
 rw [gd,List.getElem?_eq_none (by omega)]
 exact ⟨by simp [Rl.z],by simp [Rl.z],by simp [Rl.z]⟩
def zq0 := And.intro @lm.{0,0} (And.intro @S_eqf (And.intro @S_eqv (And.intro @blS (And.intro @intsD.eq_1 (@strs.eq_1)))))
def zq1 := And.intro @lm.{0,0} (@intsD.eq_1)
def zq2 := And.intro @la.{0} (And.intro @lc.{0} (And.intro @lm.{0,0} (And.intro @lnQ.{0} (And.intro @lt1.{0} (And.intro @bH (And.intro @and_true (And.intro @Go.Eng.inR.eq_1 (And.intro @intsD.eq_1 (And.intro @maxLen.eq_1 (And.intro @strs.eq_1 (@true_and)))))))))))
theorem ints_ok (a b : List Int) :
  SpG g 97 [.c (cM 1 (intsD a)),.c (cM 1 (intsD b))] [] (.c (cB (decide (a = b)))) [] := by
 refine aQ 26 Tryz.func97 fun fr hG => ?_
 refine dN 0 rfl fun hl0 => ?_
 refine dN 1 rfl fun hl1 => ?_
 refine zC hG [] [1,0,1] (!decide ((((intsD a).length : Int) : Int) = ((intsD b).length : Int))) (⟨[zM 0 1 (intsD a),zM 1 1 (intsD b),zB 4 false],[]⟩) aE (fun hc1 => ?_) (fun hc1 => ?_)
 (try simp only [zq0,aC,aA,aB] at hc1)
 refine zR hG [] [] (.c (cB false)) [] aE ?_ ?_
 have : ¬ a = b := fun e => hc1 (by rw [e])
 simp [this]
 rfl
 (try simp only [zq0,aC,aA,aB] at hc1)
 refine zL hG [] [0,1,0,1,1] (fun (zz : Nat) => match zz with | k => (a.length - k,⟨[zM 0 1 (intsD a),zM 1 1 (intsD b),zB 4 false,zI 5 (k : Int)],[]⟩,k <= a.length /\ ∀ j,j < k -> a.getD j 0 = b.getD j 0)) 0 aE ?_ ?_
 exact ⟨zl _,fun j hj => by omega⟩
 rintro k ⟨hk,hn⟩
 refine zc hG [] [1,0] (decide ((k : Int) < ((intsD a).length : Int))) aE (fun hc3 => ?_) (fun hc3 => ?_)
 (try simp only [zq0,aC,aA,aB] at hc3)
 refine zc hG [(6,2,.elem (intD (a.getD k 0))),(6,6,.elem (intD (b.getD k 0)))] [1,0,0,1] (!decide ((a.getD k 0 : Int) = (b.getD k 0))) (aD (by intros; exact aK _ (by omega) (by (try simp only [zq1] at *); omega) : (0 : Int) <= (k : Int) /\ (intsD a)[k]? = some (intD (a.getD k 0))) (aG (by intros; exact aK _ (by omega) (by (try simp only [zq1] at *); omega) : (0 : Int) <= (k : Int) /\ (intsD b)[k]? = some (intD (b.getD k 0))))) (fun hc4 => ?_) (fun hc4 => ?_)
 (try simp only [zq0,aC,aA,aB] at hc4)
 refine zE hG [] .ret (⟨[zB 4 false],[]⟩) aE rfl ?_
 refine zR hG [] [] (.c (cB false)) [] aE ?_ ?_
 have : ¬ a = b := jW 0 (j := k) (by simpa using hc4)
 simp [this]
 rfl
 (try simp only [zq0,aC,aA,aB] at hc4)
 refine zD hG [] (k + 1) (aG (by intros; (try simp only [zq2,aC,aA,aB] at *); omega : inR ((k : Int) + 1))) ?_ ?_
 (try dsimp only); omega
 exact ⟨by omega,aW hn (by simpa using hc4)⟩
 (try simp only [zq0,aC,aA,aB] at hc3)
 refine zE hG [] (.exit 0) (⟨[zB 4 false],[]⟩) aE rfl ?_
 refine zR hG [] [] (.c (cB true)) [] aE ?_ ?_
 have : a = b := eI 0 (by omega) (fun j hj => hn j (by omega))
 simp [this]
 rfl
abbrev y0 (a0 : Int) (a1 : ByteArray) (a2 : ByteArray) (a3 : LD) : SV := .agg [cI a0,cS a1,cS a2,cM 1 a3]
theorem oQ (a b : Rl) :
  SpG g 54 [y0 (a.h) (S a.op) (S a.pa) (intsD (a.ar)),y0 (b.h) (S b.op) (S b.pa) (intsD (b.ar))] [] (.c (cB (decide (a = b)))) [] := by
 refine aQ 33 Tryz.func54 fun fr hG => ?_
 refine zR hG [(1,4,kB (decide ((a.ar) = (b.ar))))] [] (.c (cB ((((decide ((a.h : Int) = (b.h))) && ((S a.op).toList == (S b.op).toList)) && ((S a.pa).toList == (S b.pa).toList)) && (decide ((a.ar) = (b.ar)))))) [] (cS1 g (ints_ok (a.ar) (b.ar))) ?_ ?_
 obtain ⟨h,o,p,r⟩ := a; obtain ⟨h2,o2,p2,r2⟩ := b
 refine aR ?_
 simp only [lC]
 by_cases h1 : h = h2 <;> by_cases h2 : o = o2 <;> by_cases h3 : p = p2 <;> by_cases h4 : r = r2 <;> simp [h1,h2,h3,h4]
 rfl
def zq3 := And.intro @lm.{0,0} (And.intro @intsD.eq_1 (@strs.eq_1))
abbrev y1 (a0 : ByteArray) (a1 : Int) (a2 : LD) (a3 : LD) (a4 : LD) (a5 : Int) : SV := .agg [cS a0,cI a1,cM 2 a2,cM 3 a3,cM 4 a4,cI a5]
abbrev y2 (a0 : ByteArray) (a1 : Int) (a2 : LD) (a3 : LD) (a4 : LD) (a5 : Int) : Ob := .box 30 [cS a0,cI a1,cM 2 a2,cM 3 a3,cM 4 a4,cI a5]
abbrev e0z : cO := [zX 2 100 0,zX 3 101 0,zB 4 false]
theorem mE (a b : Gr) (hs : a.small) :
  SpG g 17 [y1 (S a.nm) a.ve (aC a.cs) (aA a.ss) (aB a.rs) a.st,y1 (S b.nm) b.ve (aC b.cs) (aA b.ss) (aB b.rs) b.st] [] (.c (cB (decide (a = b)))) [] := by
 have h1 := hs.cs
 have h2 := hs.ss
 have h3 := hs.rs
 refine aQ 111 Tryz.func17 fun fr hG => ?_
 refine zC hG [] [1,0,1] ((((((!((S a.nm).toList == (S b.nm).toList)) || (!decide ((a.ve : Int) = b.ve))) || (!decide ((a.st : Int) = b.st))) || (!decide ((((aC a.cs).length : Int) : Int) = ((aC b.cs).length : Int)))) || (!decide ((((aA a.ss).length : Int) : Int) = ((aA b.ss).length : Int)))) || (!decide ((((aB a.rs).length : Int) : Int) = ((aB b.rs).length : Int)))) (⟨e0z,[(100,y2 (S a.nm) a.ve (aC a.cs) (aA a.ss) (aB a.rs) a.st),(101,y2 (S b.nm) b.ve (aC b.cs) (aA b.ss) (aB b.rs) b.st)]⟩) aE (fun hc1 => ?_) (fun hc1 => ?_)
 (try simp only [zq0,aC,aA,aB,bZ,bX] at hc1)
 refine zR hG [] [] (.c (cB false)) [] aE ?_ ?_
 refine aR ?_
 symm; simp only [decide_eq_false_iff_not]; intro e; subst e; simp at hc1
 rfl
 (try simp only [zq0,aC,aA,aB,bZ,bX] at hc1)
 refine zL hG [] [0,1,0,1,1] (fun (zz : Nat) => match zz with | k => (a.cs.length - k,⟨e0z ++ [zI 5 (k : Int)],[(100,y2 (S a.nm) a.ve (aC a.cs) (aA a.ss) (aB a.rs) a.st),(101,y2 (S b.nm) b.ve (aC b.cs) (aA b.ss) (aB b.rs) b.st)]⟩,k <= a.cs.length /\ ∀ j,j < k -> a.cs.getD j Co.z = b.cs.getD j Co.z)) 0 aE ?_ ?_
 exact ⟨zl _,fun j hj => by omega⟩
 rintro k ⟨hk,hn⟩
 refine zc hG [] [1,0] (decide ((k : Int) < ((aC a.cs).length : Int))) aE (fun hc3 => ?_) (fun hc3 => ?_)
 (try simp only [zq0,aC,aA,aB,bZ,bX] at hc3)
 refine zc hG [(6,3,.elem (CoD ((a.cs).getD k Co.z))),(6,8,.elem (CoD ((b.cs).getD k Co.z)))] [1,0,0,1] (!((S ((a.cs).getD k Co.z).nm) == (S ((b.cs).getD k Co.z).nm) && (((a.cs).getD k Co.z).kd : Int) == (((b.cs).getD k Co.z).kd))) (aD (by intros; exact aK _ (by omega) (by (try simp only [zq3,aC,aA,aB] at *); omega) : (0 : Int) <= (k : Int) /\ (aC a.cs)[k]? = some (CoD ((a.cs).getD k Co.z))) (aG (by intros; exact aK _ (by omega) (by (try simp only [zq3,aC,aA,aB] at *); omega) : (0 : Int) <= (k : Int) /\ (aC b.cs)[k]? = some (CoD ((b.cs).getD k Co.z))))) (fun hc4 => ?_) (fun hc4 => ?_)
 (try simp only [zq0,aC,aA,aB,bZ,bX] at hc4)
 refine zE hG [] .ret (⟨e0z,[(100,y2 (S a.nm) a.ve (aC a.cs) (aA a.ss) (aB a.rs) a.st),(101,y2 (S b.nm) b.ve (aC b.cs) (aA b.ss) (aB b.rs) b.st)]⟩) aE rfl ?_
 refine zR hG [] [] (.c (cB false)) [] aE ?_ ?_
 refine aR ?_
 symm; simp only [decide_eq_false_iff_not]; intro e; exact hc4 (by rw [e])
 rfl
 (try simp only [zq0,aC,aA,aB,bZ,bX] at hc4)
 refine zD hG [] (k + 1) (aG (by intros; (try simp only [zq2,aC,aA,aB] at *); omega : inR ((k : Int) + 1))) ?_ ?_
 (try dsimp only); omega
 exact ⟨by omega,aW hn (by simpa using hc4)⟩
 (try simp only [zq0,aC,aA,aB,bZ,bX] at hc3)
 refine zE hG [] (.exit 0) (⟨e0z,[(100,y2 (S a.nm) a.ve (aC a.cs) (aA a.ss) (aB a.rs) a.st),(101,y2 (S b.nm) b.ve (aC b.cs) (aA b.ss) (aB b.rs) b.st)]⟩) aE rfl ?_
 refine zL hG [] [0,1,0,1,1,1] (fun (zz : Nat) => match zz with | k2 => (a.ss.length - k2,⟨e0z ++ [zI 6 (k2 : Int)],[(100,y2 (S a.nm) a.ve (aC a.cs) (aA a.ss) (aB a.rs) a.st),(101,y2 (S b.nm) b.ve (aC b.cs) (aA b.ss) (aB b.rs) b.st)]⟩,k2 <= a.ss.length /\ ∀ j,j < k2 -> a.ss.getD j Sy.z = b.ss.getD j Sy.z)) 0 aE ?_ ?_
 exact ⟨zl _,fun j hj => by omega⟩
 rintro k2 ⟨hk2,hn2⟩
 refine zc hG [] [1,0] (decide ((k2 : Int) < ((aA a.ss).length : Int))) aE (fun hc6 => ?_) (fun hc6 => ?_)
 (try simp only [zq0,aC,aA,aB,bZ,bX] at hc6)
 refine zc hG [(11,3,.elem (SyD ((a.ss).getD k2 Sy.z))),(11,8,.elem (SyD ((b.ss).getD k2 Sy.z)))] [1,0,0,1] (!((S ((a.ss).getD k2 Sy.z).nm) == (S ((b.ss).getD k2 Sy.z).nm) && (((a.ss).getD k2 Sy.z).kd : Int) == (((b.ss).getD k2 Sy.z).kd) && (((a.ss).getD k2 Sy.z).mx : Int) == (((b.ss).getD k2 Sy.z).mx))) (aD (by intros; exact aK _ (by omega) (by (try simp only [zq3,aC,aA,aB] at *); omega) : (0 : Int) <= (k2 : Int) /\ (aA a.ss)[k2]? = some (SyD ((a.ss).getD k2 Sy.z))) (aG (by intros; exact aK _ (by omega) (by (try simp only [zq3,aC,aA,aB] at *); omega) : (0 : Int) <= (k2 : Int) /\ (aA b.ss)[k2]? = some (SyD ((b.ss).getD k2 Sy.z))))) (fun hc7 => ?_) (fun hc7 => ?_)
 (try simp only [zq0,aC,aA,aB,bZ,bX] at hc7)
 refine zE hG [] .ret (⟨e0z,[(100,y2 (S a.nm) a.ve (aC a.cs) (aA a.ss) (aB a.rs) a.st),(101,y2 (S b.nm) b.ve (aC b.cs) (aA b.ss) (aB b.rs) b.st)]⟩) aE rfl ?_
 refine zR hG [] [] (.c (cB false)) [] aE ?_ ?_
 refine aR ?_
 symm; simp only [decide_eq_false_iff_not]; intro e; exact hc7 (by rw [e])
 rfl
 (try simp only [zq0,aC,aA,aB,bZ,bX] at hc7)
 refine zD hG [] (k2 + 1) (aG (by intros; (try simp only [zq2,aC,aA,aB] at *); omega : inR ((k2 : Int) + 1))) ?_ ?_
 (try dsimp only); omega
 exact ⟨by omega,aW hn2 (by simpa using hc7)⟩
 (try simp only [zq0,aC,aA,aB,bZ,bX] at hc6)
 refine zE hG [] (.exit 2) (⟨e0z,[(100,y2 (S a.nm) a.ve (aC a.cs) (aA a.ss) (aB a.rs) a.st),(101,y2 (S b.nm) b.ve (aC b.cs) (aA b.ss) (aB b.rs) b.st)]⟩) aE rfl ?_
 refine zL hG [] [0,1,0,1,1,1,1] (fun (zz : Nat) => match zz with | k3 => (a.rs.length - k3,⟨e0z ++ [zI 7 (k3 : Int)],[(100,y2 (S a.nm) a.ve (aC a.cs) (aA a.ss) (aB a.rs) a.st),(101,y2 (S b.nm) b.ve (aC b.cs) (aA b.ss) (aB b.rs) b.st)]⟩,k3 <= a.rs.length /\ ∀ j,j < k3 -> a.rs.getD j Rl.z = b.rs.getD j Rl.z)) 0 aE ?_ ?_
 exact ⟨zl _,fun j hj => by omega⟩
 rintro k3 ⟨hk3,hn3⟩
 refine zc hG [] [1,0] (decide ((k3 : Int) < ((aB a.rs).length : Int))) aE (fun hc9 => ?_) (fun hc9 => ?_)
 (try simp only [zq0,aC,aA,aB,bZ,bX] at hc9)
 refine zc hG [(16,3,.elem (RlD ((a.rs).getD k3 Rl.z))),(16,8,.elem (RlD ((b.rs).getD k3 Rl.z))),(16,10,kB (decide (((a.rs).getD k3 Rl.z) = ((b.rs).getD k3 Rl.z))))] [1,1,0,0,1] (!(decide (((a.rs).getD k3 Rl.z) = ((b.rs).getD k3 Rl.z)))) (aD (by intros; exact aK _ (by omega) (by (try simp only [zq3,aC,aA,aB] at *); omega) : (0 : Int) <= (k3 : Int) /\ (aB a.rs)[k3]? = some (RlD ((a.rs).getD k3 Rl.z))) (aD (by intros; exact aK _ (by omega) (by (try simp only [zq3,aC,aA,aB] at *); omega) : (0 : Int) <= (k3 : Int) /\ (aB b.rs)[k3]? = some (RlD ((b.rs).getD k3 Rl.z))) (cS1 g (oQ ((a.rs).getD k3 Rl.z) ((b.rs).getD k3 Rl.z))))) (fun hc10 => ?_) (fun hc10 => ?_)
 (try simp only [zq0,aC,aA,aB,bZ,bX] at hc10)
 refine zE hG [] .ret (⟨[zB 4 false],[]⟩) aE rfl ?_
 refine zR hG [] [] (.c (cB false)) [] aE ?_ ?_
 refine aR ?_
 symm; simp only [decide_eq_false_iff_not]; intro e; exact hc10 (by rw [e])
 rfl
 (try simp only [zq0,aC,aA,aB,bZ,bX] at hc10)
 refine zD hG [] (k3 + 1) (aG (by intros; (try simp only [zq2,aC,aA,aB] at *); omega : inR ((k3 : Int) + 1))) ?_ ?_
 (try dsimp only); omega
 exact ⟨by omega,aW hn3 (by simpa using hc10)⟩
 (try simp only [zq0,aC,aA,aB,bZ,bX] at hc9)
 refine zE hG [] (.exit 4) (⟨[zB 4 false],[]⟩) aE rfl ?_
 refine zR hG [] [] (.c (cB true)) [] aE ?_ ?_
 have e1 : a.cs = b.cs := eI Co.z (by omega) (fun j hj => hn j (by omega))
 have e2 : a.ss = b.ss := eI Sy.z (by omega) (fun j hj => hn2 j (by omega))
 have e3 : a.rs = b.rs := eI Rl.z (by omega) (fun j hj => hn3 j (by omega))
 refine aR ?_
 symm; rw [decide_eq_true_eq]
 obtain ⟨n1,v1,c1,s1,r1,t1⟩ := a; obtain ⟨n2,v2,c2,s2,r2,t2⟩ := b
 simp_all
 rfl
abbrev y3 (a0 : ByteArray) (a1 : Int) (a2 : Int) : SV := .agg [cS a0,cI a1,.ar 100 0,.ar 102 0,.ar 103 0,cI a2]
abbrev y4 : Ob := .box 30 [cS (S []),cI 0,cN,cN,cN,cI 0]
abbrev y5 (a0 : LD) : Ob := .arr 0 75 2 a0
abbrev y6 (a0 : ByteArray) (a1 : Int) (a2 : Int) : Ob := .box 30 [cS a0,cI a1,.ar 300 0,.ar 400 0,.ar 9001 0,cI a2]
theorem oI (a : Gr) (hs : a.small) :
  SpG g 24 [y1 (S a.nm) a.ve (aC a.cs) (aA a.ss) (aB a.rs) a.st] [] (y3 (S a.nm) a.ve a.st) [(100,.arr 0 75 2 (aC a.cs)),(102,.arr 0 51 3 (aA a.ss)),(103,.arr 0 66 4 (aB a.rs))] := by
 have h1 := hs.cs
 have h2 := hs.ss
 have h3 := hs.rs
 refine aQ 42 Tryz.func24 fun fr hG => ?_
 refine zA hG [] [0,1,0,1,1,1,1,1] (⟨[zX 1 100 0,zX 2 101 0,zX 3 201 0,zI 4 0],[(100,y2 (S a.nm) a.ve (aC a.cs) (aA a.ss) (aB a.rs) a.st),(101,y4),(201,.box 30 [cS (S a.nm),cI a.ve,.ar 300 0,.ar 400 0,cN,cI a.st]),(300,y5 (([] : LD) ++ (aC a.cs))),(400,.arr 0 51 3 (([] : LD) ++ (aA a.ss)))]⟩) [] [(201,4,9001,66,4)] (fun (zz : Nat × LD) => match zz with | (k,es) => (a.rs.length - k,⟨[zX 1 100 0,zX 2 101 0,zX 3 201 0,zI 4 (k : Int)],[(100,y2 (S a.nm) a.ve (aC a.cs) (aA a.ss) (aB a.rs) a.st),(101,y4),(201,y6 (S a.nm) a.ve a.st),(300,y5 (([] : LD) ++ (aC a.cs))),(400,.arr 0 51 3 (([] : LD) ++ (aA a.ss))),(9001,.arr 0 66 4 es)]⟩,k <= a.rs.length /\ es = (a.rs.take k).map RlD)) (0,[]) (aD (by intros; (try simp only [zq2,aC,aA,aB] at *); omega : (([] : LD).length + (aC a.cs).length) * (24 + 1) <= 140737488355328) (aG (by intros; (try simp only [zq2,aC,aA,aB] at *); omega : (([] : LD).length + (aA a.ss).length) * (32 + 1) <= 140737488355328))) ?_ ?_
 exact ⟨zl _,rfl⟩
 rintro ⟨k,es⟩ ⟨hk,hes⟩
 have hlen : es.length = k := by rw [hes,lm,lt1]; omega
 have hr := (bT hs k).ar
 refine zc hG [] [1,0] (decide ((k : Int) < ((aB a.rs).length : Int))) aE (fun hc2 => ?_) (fun hc2 => ?_)
 (try simp only [zq0,aC,aA,aB] at hc2)
 refine zD hG [(8,3,.elem (RlD ((a.rs).getD k Rl.z))),(9,3,.elem [])] (k + 1,es ++ [RlD (a.rs.getD k Rl.z)]) (aD (by intros; exact aK _ (by omega) (by (try simp only [zq3,aC,aA,aB] at *); omega) : (0 : Int) <= (k : Int) /\ (aB a.rs)[k]? = some (RlD ((a.rs).getD k Rl.z))) (aD (by intros; (try simp only [zq2,aC,aA,aB] at *); omega : ((([] : LD)).length + (intsD (((a.rs).getD k Rl.z).ar)).length) * (8 + 1) <= 140737488355328) (aD (by intros; (try simp only [zq2,aC,aA,aB] at *); omega : (es.length + (([[.i (((a.rs).getD k Rl.z).h),.s (S ((a.rs).getD k Rl.z).op),.s (S ((a.rs).getD k Rl.z).pa),.sl 1 (([] : LD) ++ (intsD (((a.rs).getD k Rl.z).ar)))]] : LD)).length) * (64 + 1) <= 140737488355328) (aG (by intros; (try simp only [zq2,aC,aA,aB] at *); omega : inR ((k : Int) + 1)))))) ?_ ?_
 (try dsimp only); omega
 refine ⟨by omega,?_⟩
 rw [hes,gF Rl.z (by omega)]
 (try simp only [zq0,aC,aA,aB] at hc2)
 refine zE hG [] (.exit 0) (⟨[zX 2 101 0,zX 3 201 0],[(101,y4),(201,y6 (S a.nm) a.ve a.st),(300,y5 (([] : LD) ++ (aC a.cs))),(400,.arr 0 51 3 (([] : LD) ++ (aA a.ss))),(9001,.arr 0 66 4 es)]⟩) aE rfl ?_
 refine zR hG [] [300,77777,400,9001] (y3 (S a.nm) a.ve a.st) [(100,y5 (([] : LD) ++ (aC a.cs))),(102,.arr 0 51 3 (([] : LD) ++ (aA a.ss))),(103,.arr 0 66 4 es)] aE ?_ ?_
 rfl
 have e : a.rs.take k = a.rs := tl (by omega)
 rw [hes,e]; rfl
end Go.Proofs.YtgpedhfdniigoaaGreatDoor
namespace Go.Proofs.YtgpedhfdniigoaaGreatDoor
open Go.ChangeShapes Go.WideShapes Go.ChangeAt Go.RowKit Go.V
theorem own : ownKnob Tryz.prog.godebug = none := by kernel_rfl
theorem laidOut : laidOutB Tryz.prog = true := by kernel_rfl
theorem uU {W : World} {name : String} {b : Nat} {cs : Array Value} (hg : Tryz.prog.globalNamed name = some b) (h : W.var? Tryz.prog name = some cs) : ∃ ty fz,W.heap[b]? = some (.cells cs ty fz) := by
 unfold World.var? at h
 rw [hg,Option.bind_some] at h
 split at h
 rename_i c t f e
 cases h
 exact ⟨_,_,e⟩
 cases h
theorem vO {P : Program} {w : World} {r : Reach} {b : Nat} {t : TypeId} {v : Value} {k : IntKind} (h : P.underlying t = some (.int k)) (hc : Cell.ok P w r b t v) : ∃ n,v = .int k n := by
 unfold Cell.ok at hc
 rw [h] at hc
 cases v <;> simp at hc
 exact ⟨_,by rw [hc.1]⟩
theorem zero0 : ((begin Tryz.prog (fun _ _ => 0) default).world.heap[0]?).bind Obj.row? = some (#[.int .i64 0],3) := by kernel_rfl
theorem int_var {P : Program} {W : World} {b : Nat} {t : TypeId} {zero : Array Value} (h : W.ShapedOpen P) (hb : b < P.globals.size) (hz : ((begin P (fun _ _ => 0) default).world.heap[b]?).bind Obj.row? = some (zero,t)) (h1 : zero.size = 1)
  (hB : P.buildable t = true) (hts : P.cellTypes P.depth t = some [t]) (hu : P.underlying t = some (.int .i64)) : ∃ n : Int,∃ ty fz,W.heap[b]? = some (.cells #[.int .i64 n] ty fz) := by
 obtain ⟨cs,hb,hs,hr⟩ := h.1 b _ _ hb hz
 obtain ⟨ts,hts',_,hall⟩ := hr hB
 obtain rfl := Option.some.inj (hts.symm.trans hts')
 obtain ⟨l⟩ := cs
 rw [h1] at hs
 match l,hs,hb,hall with
 | [v],_,hb,hall =>
  obtain ⟨u,hu',hc⟩ := hall 0 v rfl
  obtain rfl : t = u := by simpa using hu'
  obtain ⟨n,rfl⟩ := vO hu hc
  exact ⟨n,_,_,hb⟩
theorem aIT {W : World} (h : W.ShapedOpen Tryz.prog) : ∃ n : Int,∃ ty fz,W.heap[0]? = some (.cells #[.int .i64 n] ty fz) :=
 int_var h (of_decide_eq_true (by kernel_rfl)) zero0 rfl (by kernel_rfl) (by kernel_rfl) (by kernel_rfl)
theorem pow_of {W : World} {r : List (String × DataW Unit)} (h : laidMet Tryz.prog (("internal/strconv.uint64pow10", Rows.laid_internal_strconv_uint64pow10) :: r) W) : ∃ ty fz, W.heap[1]? = some (.cells (powL.map (Value.int .u64)).toArray ty fz) :=
 uU (by kernel_rfl) (Lib.tabIs_of_head (k := .u64) (zs := powL) (t := 233) (e := 145) (n := 20) (g := 1) (by kernel_rfl) (by kernel_rfl) (by kernel_rfl) (by kernel_rfl) (by kernel_rfl) (by kernel_rfl) h)
theorem lens_of {W : World} {r : List (String × DataW Unit)} (h : laidMet Tryz.prog (("concord/date.lengths", Rows.laid_concord_date_lengths) :: r) W) : ∃ ty fz, W.heap[10]? = some (.cells (mlen.map (Value.int .i64)).toArray ty fz) :=
 uU (by kernel_rfl) (Lib.tabIs_of_head (k := .i64) (zs := mlen) (t := 393) (e := 3) (n := 12) (g := 10) (by kernel_rfl) (by kernel_rfl) (by kernel_rfl) (by kernel_rfl) (by kernel_rfl) (by kernel_rfl) h)
def aM7 (W : World) (g : Gv) : Prop := ∀ b cs,(b,cs) ∈ Gl g -> ∃ ty fz,W.heap[b]? = some (.cells cs.toArray ty fz)
theorem starts8 {W : World} (hS : W.ShapedOpen Tryz.prog) (hL : laidMetH Tryz.prog Rows.grammarEqualRow.laid W) : ∃ g : Gv,aM7 W g := by
 rw [MakeChecks.laidMetH_plain _ _ _ (by kernel_rfl)] at hL
 obtain ⟨n,h0⟩ := aIT hS
 have h2 := pow_of (laidMet.tail (laidMet.tail hL))
 have h5 := lens_of (laidMet.tail (laidMet.tail (laidMet.tail (laidMet.tail (laidMet.tail (laidMet.tail hL))))))
 refine ⟨⟨n,[]⟩,fun b cs h => ?_⟩
 simp only [Gl,mc,pIQ,List.not_mem_nil,or_false] at h
 rcases h with ⟨rfl,rfl⟩ | ⟨rfl,rfl⟩ | ⟨rfl,rfl⟩
 exact h0
 exact h2
 exact h5
def pl0 : Pl := ⟨fun _ => True,fun _ => 0,fun _ => (none,0)⟩
theorem sh0 (b : Nat) : Sh pl0 (lookO []) b := ⟨trivial,fun i h => by simp [aM,lookO] at h⟩
theorem call_of {g : Gv} {f : FuncId} {ins : List SV} {W : World} {args : List Value} (hS : SpG g f ins [] (.c (cB true)) []) (hG : aM7 W g)
  (ha : All2 (aV W pl0 (lookO [])) ins args) : Calls Tryz.prog f args.toArray W fun e W' => e = .returned (.bool true) /\ Below W.heap.size W W' := by
 have fk : FrOk ⟨W,[],Gl g,fun _ => True,[],[],[],false⟩ := ⟨fun b cs h => ⟨hG b cs h,fun i h => by cases h⟩,fun i b h => (by cases h),fun i b h => (by cases h)⟩
 have m : Mem ⟨W,[],Gl g,fun _ => True,[],[],[],false⟩ (lookO []) W pl0 := by
  refine ⟨fk,fun b => ⟨fun _ => .inl trivial,fun _ => trivial⟩,fun i o h => (by cases h),fun i j b h => (by simp [aM,lookO] at h),fun i b h => (by simp [aM,lookO] at h),fun i b h => (by cases h),rfl,rfl,rfl,lr _,fun _ _ _ => rfl,fun i ty cs b h => (by cases h)⟩
 refine (hS ⟨W,[],Gl g,fun _ => True,[],[],[],false⟩ W pl0 args rfl ⟨rfl,rfl,fun _ => ⟨rfl,rfl⟩,rfl⟩ m ha).mono ?_
 rintro e W' ⟨v,pl',rfl,m',hv⟩
 have hv : Rd W' _ (.b true) v := hv
 obtain rfl := Rd.exact hv
 exact ⟨rfl,m'.os,m'.tape,m'.output,m'.grow,fun k hk => m'.keep k hk fun i h => by cases h⟩
section
variable {H : Type} {enc : TypeId × Value -> H} {P : Program} {W : World}
theorem aBK {r : Reach} {b : Nat} {t e : TypeId} {v : Value} (ht : P.underlying t = some (.slice e)) (h : Cell.ok P W r b t v) :
  v = .slice none 0 0 \/ ∃ bl off len cap c ty fz,v = .slice (some ⟨bl,off,none⟩) len cap /\ W.heap[bl]? = some (.cells c ty fz) := by
 unfold Cell.ok at h
 rw [ht] at h
 cases v <;> simp at h
 rename_i a len cap
 cases a with
 | none =>
  left
  cases len <;> cases cap <;> simp at h
  rfl
 | some a =>
  obtain ⟨hl,hc,_,hs,row,cells,hsh,_⟩ := (show len <= cap /\ (cap : Int) <= IntKind.i64.max /\ W.has P r b a e cap from h)
  obtain ⟨bl,off,sp⟩ := a
  obtain rfl : sp = none := hs
  unfold World.shape? at hsh
  split at hsh
  rename_i c ty fz e; exact .inr ⟨bl,off,len,cap,c,ty,fz,rfl,e⟩
  cases hsh
theorem aEP {r : Reach} {b : Nat} {t e : TypeId} {v : Value} (ht : P.underlying t = some (.slice e)) (h : Value.okWide P W r b t v) : Cell.ok P W r b t v := by
 unfold Value.okWide at h
 rw [ht] at h
 unfold Cell.okWide at h
 rw [ht] at h
 exact h
theorem aKP {fuel : Nat} {b : Nat} {t e : TypeId} {v : Value} {x : DataW H × List MemPlace} (ht : P.underlying t = some (.slice e)) (he : P.underlying e = some (.int .i64)) (hc : P.cellsOf e = 1)
  (hval : Cell.ok P W .any b t v) (hf : DataW.trod enc P W 0 (fun _ => true) true fuel t [v] = some x) : ∃ l : List Int,Rd W (Sh pl0 (lookO [])) (.sl 1 (intsD l)) v := by
 rcases open_ints ht he hc hf with ⟨h1,_⟩ | ⟨a,len,cap,zs,h1,_,hl,hm,hlen,_,hcell,_⟩
 simp only [List.cons.injEq,and_true] at h1
 subst h1
 exact ⟨[],Rd.nil 1⟩
 simp only [List.cons.injEq,and_true] at h1
 subst h1
 rcases aBK ht hval with h | ⟨bl,off,len',cap',c,ty,fz,h,hb⟩
 simp at h
 simp only [Value.slice.injEq,oIQ] at h
 obtain ⟨rfl,rfl,rfl⟩ := h
 simp only [if_true] at hlen
 have hlt : len <= zs.length := by omega
 have el : (intsD (zs.take len)).length = len := by simp [intsD]; omega
 refine ⟨zs.take len,?_⟩
 have key : Rd W (Sh pl0 (lookO [])) (.sl 1 (intsD (zs.take len))) (.slice (some ⟨bl,off,none⟩) (intsD (zs.take len)).length cap) := by
  refine Rd.sl (us := fun i _ => .int .i64 (zs.getD i 0)) (sh0 _) hb (by rw [el]; exact hl) hm ?_ ?_ ?_
  intro ds hds
  simp only [intsD,mmQ] at hds
  obtain ⟨n,_,rfl⟩ := hds
  rfl
  intro i j ds d hi hj
  have hil : i < (zs.take len).length := by
   have := (gsQ.1 hi).1
   simpa [intsD] using this
  simp only [lt1] at hil
  have := hcell i (by omega)
  simp only [intsD,List.getElem?_map,me] at hi
  obtain ⟨n,hn,rfl⟩ := hi
  match j,hj with
  | 0,hj =>
   have ea : Addr.add ⟨bl,off,none⟩ i = ⟨bl,off + i,none⟩ := by
    unfold Addr.add
    split <;> simp_all
   rw [ea] at this
   simp only [World.cell?,hb] at this
   simpa using this
  intro i j ds d hi hj
  simp only [intsD,List.getElem?_map,me] at hi
  obtain ⟨n,hn,rfl⟩ := hi
  match j,hj with
  | 0,hj =>
   simp only [intD,cz,oIQ] at hj
   subst hj
   have hz : zs.getD i 0 = n := by
    rw [List.getElem?_take] at hn
    split at hn
    simp [hn]
    cases hn
   rw [hz]
   exact Rd.v _ rfl
 rw [el] at key
 exact key
theorem one_cell {r : Reach} {b : Nat} {t e : TypeId} {v : Value} (ht : P.underlying t = some (.slice e)) (h : Cell.ok P W r b t v) : v.cells.toList = [v] := by
 rcases aBK ht h with rfl | ⟨_,_,_,_,_,_,_,rfl,_⟩ <;> rfl
theorem rd_ints {b : Nat} {t e : TypeId} {v : Value} {d : DataW H} {ps : List MemPlace} (ht : P.underlying t = some (.slice e)) (he : P.underlying e = some (.int .i64)) (hc : P.cellsOf e = 1)
  (hval : Value.okWide P W .any b t v) (hd : DataW.Trod enc P W 0 (fun _ => true) true t v d ps) : ∃ l : List Int,Rd W (Sh pl0 (lookO [])) (.sl 1 (intsD l)) v := by
 obtain ⟨fuel,hf⟩ := hd
 have hv := aEP ht hval
 rw [one_cell ht hv] at hf
 exact aKP ht he hc hv hf
theorem sT {r : Reach} {b : Nat} {t : TypeId} {v : Value} {k : IntKind} (h : P.underlying t = some (.int k)) (hc : Cell.okWide P W r b t v) : ∃ n,v = .int k n := by
 unfold Cell.okWide at hc
 rw [h] at hc
 exact vO h hc
theorem aJI {r : Reach} {b : Nat} {t e : TypeId} {v : Value} (ht : P.underlying t = some (.array 3 e)) (hc : P.cellsOf t = 3) (hts : P.cellTypes P.depth t = some [e,e,e]) (he : P.underlying e = some (.int .i64)) (h : Value.okWide P W r b t v) :
  ∃ x y z : Int,v = .agg #[.int .i64 x,.int .i64 y,.int .i64 z] := by
 unfold Value.okWide at h
 rw [ht] at h
 obtain ⟨cs,rfl,hs,ts,hts',_,hall⟩ := h
 obtain rfl := Option.some.inj (hts.symm.trans hts')
 rw [hc] at hs
 obtain ⟨l⟩ := cs
 match l,hs,hall with
 | [c0,c1,c2],_,hall =>
  obtain ⟨u0,h0,k0⟩ := hall 0 c0 rfl
  obtain ⟨u1,h1,k1⟩ := hall 1 c1 rfl
  obtain ⟨u2,h2,k2⟩ := hall 2 c2 rfl
  obtain rfl : e = u0 := by simpa using h0
  obtain rfl : e = u1 := by simpa using h1
  obtain rfl : e = u2 := by simpa using h2
  obtain ⟨x,rfl⟩ := sT he k0
  obtain ⟨y,rfl⟩ := sT he k1
  obtain ⟨z,rfl⟩ := sT he k2
  exact ⟨x,y,z,rfl⟩
end
section
variable {P : Program} {W : World}
end
section
variable {H : Type} {enc : TypeId × Value -> H} {P : Program} {W : World}
end
section
variable {H : Type} {enc : TypeId × Value -> H} {P : Program} {W : World}
end
theorem rd_bound {w : World} {F : Nat -> Prop} {sz : Nat} {es : LD} {v : Value} (h : Rd w F (.sl sz es) v) : es.length <= maxLen := by
 cases h with
 | nil => exact zl _
 | far => exact zl _
 | sl us hF hb hc hm hs hu hr => exact Nat.le_trans hc hm
theorem rd_3int {P : Program} {W : World} {r : Reach} {b : Nat} {t e : TypeId} {v : Value} (ht : P.underlying t = some (.array 3 e)) (hc : P.cellsOf t = 3) (hts : P.cellTypes P.depth t = some [e,e,e]) (he : P.underlying e = some (.int .i64)) (h : Value.okWide P W r b t v) :
  ∃ x y z : Int,aV W pl0 (lookO []) (.agg [cI x,cI y,cI z]) v := by
 obtain ⟨x,y,z,rfl⟩ := aJI ht hc hts he h
 exact ⟨x,y,z,[_,_,_],rfl,All2.cons (Rd.v _ rfl) (All2.cons (Rd.v _ rfl) (All2.one (Rd.v _ rfl)))⟩
end Go.Proofs.YtgpedhfdniigoaaGreatDoor
