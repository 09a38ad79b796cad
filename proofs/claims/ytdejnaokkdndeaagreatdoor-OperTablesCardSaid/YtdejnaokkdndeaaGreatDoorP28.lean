/- Part 28 of the proof: texts M0, D0, M1, D1, D2, N0, N1, N2, N3, N4, D3. -/
import Derived.Test.YtdejnaokkdndeaaGreatDoorP27
import Derived.Test.YtdejnaokkdndeaaGreatDoorProg
import Derived.Lib.Small
set_option linter.all false
namespace Go.Proofs.YtdejnaokkdndeaaGreatDoor
open Go.RowKit
open Go.Eng (inR byteAt u8 bytesV)
abbrev bs (s : ByteArray) : List UInt8 := s.data.toList
theorem bs_length (s : ByteArray) : (bs s).length = s.size := by cases s; simp [ByteArray.size]
def bAt (s : ByteArray) (k : Nat) : UInt8 := (bs s).getD k 0
theorem bs_drop (s : ByteArray) (k : Nat) (h : k < s.size) : (bs s).drop k = bAt s k :: (bs s).drop (k + 1) := by
 have h' : k < (bs s).length := by rw [bs_length]; exact h
 rw [List.drop_eq_getElem_cons h', bAt, List.getD_eq_getElem?_getD, List.getElem?_eq_getElem h']; rfl
theorem str_beq (a b : ByteArray) : (a.toList == b.toList) = decide (a = b) := by
 rw [Bool.eq_iff_iff]; simp only [beq_iff_eq, decide_eq_true_eq, ByteArray.toList_eq]
 constructor
 ·intro h
  cases a; cases b
  exact congrArg ByteArray.mk (Array.toList_inj.1 h)
 ·rintro rfl; rfl
theorem empty_iff (a : ByteArray) : a = ⟨#[]⟩ ↔ a.size = 0 := by
 constructor
 ·rintro rfl; rfl
 ·intro h
  cases a with
  | mk d => simp only [ByteArray.size] at h; rw [Array.eq_empty_of_size_eq_zero h]
theorem bs_nil (s : ByteArray) (k : Nat) (h : s.size ≤ k) : (bs s).drop k = [] := List.drop_eq_nil_of_le (by rw [bs_length]; exact h)
theorem byteAt_nat (s : ByteArray) (k : Nat) : byteAt s (k : Int) = ((bAt s k).toNat : Int) := by simp [byteAt, bAt]
def isLetter (c : Int) : Bool := (decide (c ≥ 97) && decide (c ≤ 122)) || (decide (c ≥ 65) && decide (c ≤ 90))
def okByte (c : UInt8) : Bool := decide (32 ≤ (c.toNat : Int)) && decide ((c.toNat : Int) ≤ 126)
def isTextB (s : ByteArray) : Bool := (bs s).all okByte && decide ((s.size : Int) ≤ 200)
def tailByte (c : UInt8) : Bool := isLetter c.toNat || decide ((c.toNat : Int) = 95) || (decide (48 ≤ (c.toNat : Int)) && decide ((c.toNat : Int) ≤ 57))
def isNameB (s : ByteArray) : Bool := decide (1 ≤ s.size) && decide (s.size ≤ 20) && isLetter (bAt s 0).toNat && (bs s).all tailByte
theorem tail_of {x : Int} {b : Bool} (h : (b = true ∨ x = 95) ∨ ¬ x < 48 ∧ ¬ x > 57) : (b || decide (x = 95) || (decide (48 ≤ x) && decide (x ≤ 57))) = true := by
 rcases h with (h | h) | h
 ·simp [h]
 ·simp [h]
 ·have h1 : 48 ≤ x := by omega
  have h2 : x ≤ 57 := by omega
  simp [h1, h2]
theorem tail_not {x : Int} {b : Bool} (h : (b = false ∧ ¬ x = 95) ∧ (x < 48 ∨ x > 57)) : (b || decide (x = 95) || (decide (48 ≤ x) && decide (x ≤ 57))) = false := by
 obtain ⟨⟨h1, h2⟩, h3⟩ := h
 simp [h1, h2]; omega
theorem byteAt_zero (s : ByteArray) : byteAt s 0 = ((bAt s 0).toNat : Int) := byteAt_nat s 0
theorem nameB_yes {s : ByteArray} (h : (¬ s.size = 0 ∧ ¬ (s.size : Int) > 20) ∧ isLetter (byteAt s 0) = true) (ht : (bs s).all tailByte = true) : isNameB s = true := by
 obtain ⟨⟨h1, h2⟩, h3⟩ := h
 rw [byteAt_zero] at h3
 simp only [isNameB, h3, ht, Bool.and_true, Bool.and_eq_true, decide_eq_true_eq]; omega
theorem nameB_head {s : ByteArray} (h : (s.size = 0 ∨ (s.size : Int) > 20) ∨ isLetter (byteAt s 0) = false) : isNameB s = false := by
 rcases h with (h | h) | h
 ·simp [isNameB, h]
 ·have : ¬ s.size ≤ 20 := by omega
  simp [isNameB, this]
 ·rw [byteAt_zero] at h; simp [isNameB, h]
theorem nameB_not {s : ByteArray} (ht : (bs s).all tailByte = false) : isNameB s = false := by simp [isNameB, ht]
def decB (n s : Int) : Bool := decide (0 ≤ s) && decide (s ≤ 6) && decide (-1000000000000000 ≤ n) && decide (n ≤ 1000000000000000) && (decide (s = 0) || decide (n.tmod 10 ≠ 0))
def mlen : List Int := [31, 28, 31, 30, 31, 30, 31, 31, 30, 31, 30, 31]
def S (l : List UInt8) : ByteArray := ⟨l.toArray⟩
theorem S_size (l : List UInt8) : (S l).size = l.length := by simp [S, ByteArray.size]
theorem wrap64 {x : Int} (h : inR x) : IntKind.wrap .i64 x = x := by
 unfold inR at h
 simp [IntKind.wrap, IntKind.bits, IntKind.signed]
 omega
theorem decB_bd {n s : Int} (h : decB n s = true) : 0 ≤ s ∧ s ≤ 6 ∧ -1000000000000000 ≤ n ∧ n ≤ 1000000000000000 ∧ (s = 0 ∨ n.tmod 10 ≠ 0) := by
 simp [decB] at h; omega
end Go.Proofs.YtdejnaokkdndeaaGreatDoor
namespace Go.Proofs.YtdejnaokkdndeaaGreatDoor
open Go.RowKit Go.V
open Go.Eng (inR byteAt u8 bytesV)
structure Gv where
 maxLen : Int
 more : List (Nat × List Value) := []
def tensL : List Int := [1, 10, 100, 1000, 10000, 100000, 1000000]
def powL : List Int := [1, 10, 100, 1000, 10000, 100000, 1000000, 10000000, 100000000, 1000000000, 10000000000, 100000000000, 1000000000000, 10000000000000, 100000000000000, 1000000000000000, 10000000000000000, 100000000000000000, 1000000000000000000, 10000000000000000000]
def Gl (g : Gv) : List (Nat × List Value) := (1, [.int .i64 g.maxLen]) :: (10, powL.map (Value.int .u64)) :: (5, mlen.map (Value.int .i64)) :: g.more
def SpG (g : Gv) (f : FuncId) (ins : List SV) (refs : OwnL) (out : SV) (post : OwnL) : Prop := V.Spec Tryz.prog (Gl g) f ins refs out post
theorem hmix : Tryz.prog.follows .mixedOrders = true := by kernel_rfl
section
variable {R : Wp Tryz.prog} {fr : Fr} {n : Nat} {root : Code} {Q : Exit → Act → World → Prop} {G : List (Nat × List Value)} {pids : List Nat} {now : Now} {st : V.St} {cs : List Prop}
theorem zC (hG : FrIs fr G pids) (hs : Hints) (pos : List Nat) (b : Bool) (st' : V.St) (h : goS Tryz.prog G pids n root hs 1000 now st st' = told (.cond pos b) st' cs) (hc : V.conj cs) (ht : b = true → W R fr n root Q (.code (0 :: pos)) st') (hf : b = false → W R fr n root Q (.code (1 :: pos)) st') : W R fr n root Q now st := stepC hG hmix hs pos b st' cs h hc ht hf
theorem zc (hG : FrIs fr G pids) (hs : Hints) (pos : List Nat) (b : Bool) (h : goS Tryz.prog G pids n root hs 1000 now st st = told (.cond pos b) st cs) (hc : V.conj cs) (ht : b = true → W R fr n root Q (.code (0 :: pos)) st) (hf : b = false → W R fr n root Q (.code (1 :: pos)) st) : W R fr n root Q now st := stepC hG hmix hs pos b st cs h hc ht hf
theorem zr {fn : Func} {out : SV} {post : OwnL} (hG : FrIs fr G []) (hs : Hints) (ids : List Nat) (h : goR Tryz.prog G n root hs 1000 now st fn ids = some (out, post, cs)) (hc : V.conj cs) : W R fr n root (bodyPost Tryz.prog fn (RetR fr out post)) now st := stepR' hG hmix hs ids out post h hc rfl rfl
theorem zR {fn : Func} {out : SV} {post : OwnL} (hG : FrIs fr G []) (hs : Hints) (ids : List Nat) (out' : SV) (post' : OwnL) (h : goR Tryz.prog G n root hs 1000 now st fn ids = some (out', post', cs)) (hc : V.conj cs) (ho : out' = out) (hp : post' = post) : W R fr n root (bodyPost Tryz.prog fn (RetR fr out post)) now st := stepR' hG hmix hs ids out' post' h hc ho hp
theorem zL {σ : Type} (hG : FrIs fr G pids) (hs : Hints) (pos : List Nat) (F : σ → Nat × V.St × Prop) (x0 : σ) (h : goS Tryz.prog G pids n root hs 1000 now st (F x0).2.1 = told (.loop pos) (F x0).2.1 cs) (hc : V.conj cs) (hl : isLoop root pos = true) (h0 : (F x0).2.2)
  (round : ∀ x, (F x).2.2 → W R fr n (loopBody root pos) (Exit.then (V.Handed fr n (fun x => (F x).1) (fun x => (F x).2.1) (fun x => (F x).2.2) x) (ctx R root Q pos)) (.code []) (F x).2.1) : W R fr n root Q now st :=
 stepL hG hmix hs pos (F x0).2.1 cs h hc (loopR (fun x => (F x).1) (fun x => (F x).2.1) (fun x => (F x).2.2) x0 hl h0 round)
theorem zA {σ : Type} (hG : FrIs fr G pids) (hs : Hints) (pos : List Nat) (st6 : V.St) (ss : List (Nat × Nat × Nat × Nat)) (cc : List (Nat × Nat × Nat × Nat × Nat)) (F : σ → Nat × V.St × Prop) (x0 : σ) (h : goS Tryz.prog G pids n root hs 1000 now st st6 = told (.loop pos) st6 cs) (hc : V.conj cs) (ha : adK pids ss cc st6 (F x0).2.1 = told (.loop []) (F x0).2.1 []) (hl : isLoop root pos = true) (h0 : (F x0).2.2)
  (round : ∀ x, (F x).2.2 → W R fr n (loopBody root pos) (Exit.then (V.Handed fr n (fun x => (F x).1) (fun x => (F x).2.1) (fun x => (F x).2.2) x) (ctx R root Q pos)) (.code []) (F x).2.1) : W R fr n root Q now st :=
 stepL hG hmix hs pos st6 cs h hc (stepA hG ss cc (F x0).2.1 ha (loopR (fun x => (F x).1) (fun x => (F x).2.1) (fun x => (F x).2.2) x0 hl h0 round))
theorem zD {σ : Type} {m : σ → Nat} {S : σ → V.St} {Inv : σ → Prop} {x : σ} {Q0 : Exit → Act → World → Prop} (hG : FrIs fr G pids) (hs : Hints) (y : σ) (h : goS Tryz.prog G pids n root hs 1000 now st (S y) = told (.done .normal) (S y) cs) (hc : V.conj cs) (hlt : m y < m x) (hI : Inv y) : W R fr n root (Exit.then (V.Handed fr n m S Inv x) Q0) now st := roundE hG hmix hs y cs h hc hlt hI
theorem zE {H : Act → World → Prop} {root' : Code} {pos : List Nat} (hG : FrIs fr G pids) (hs : Hints) (e : Ex) (st' : V.St) (h : goS Tryz.prog G pids n root hs 1000 now st st' = told (.done e) st' cs) (hc : V.conj cs) (he : e.isNormal = false) (hk : W R fr n root' Q (.exit pos e) st') : W R fr n root (Exit.then H (ctx R root' Q pos)) now st := leaveE hG hmix hs e st' cs h hc he hk
end
structure Cl where
 kind : Int
 s : List UInt8
 dn : Int
 ds : Int
 n : Int
 deriving DecidableEq
structure Vl where
 kind : Int
 s : List UInt8
 dn : Int
 ds : Int
 n : Int
 cols : List (List UInt8)
 rows : List (List Cl)
 deriving DecidableEq
def Cl.toV (c : Cl) : Vl := ⟨c.kind, c.s, c.dn, c.ds, c.n, [], []⟩
def strD (s : List UInt8) : List D := [.s (S s)]
def strs (l : List (List UInt8)) : List (List D) := l.map strD
def ClD (c : Cl) : List D := [.i c.kind, .s (S c.s), .i c.dn, .i c.ds, .i c.n, .sl 1 [], .sl 1 []]
def rowD (r : List Cl) : List (List D) := r.map ClD
def rows1 (r : List Cl) : List D := [.sl 7 (rowD r)]
def rowsD (l : List (List Cl)) : List (List D) := l.map rows1
def VlD (v : Vl) : List D := [.i v.kind, .s (S v.s), .i v.dn, .i v.ds, .i v.n, .sl 1 (strs v.cols), .sl 1 (rowsD v.rows)]
def valsD (l : List Vl) : List (List D) := l.map VlD
def vArg (v : Vl) : SV := .agg [.d (.i v.kind), .d (.s (S v.s)), .d (.i v.dn), .d (.i v.ds), .d (.i v.n), .d (.sl 1 (strs v.cols)), .d (.sl 1 (rowsD v.rows))]
def Cl.z : Cl := ⟨0, [], 0, 0, 0⟩
theorem map_at {α β : Type} {f : α → β} {l : List α} {i : Int} (z : α) (h0 : 0 ≤ i) (h : i < (l.length : Int)) : 0 ≤ i ∧ (l.map f)[i.toNat]? = some (f (l.getD i.toNat z)) := by
 have : i.toNat < l.length := by omega
 exact ⟨h0, by simp [this]⟩
theorem map_nat {α β : Type} {f : α → β} {l : List α} {k : Nat} (z : α) (h : k < l.length) : (l.map f)[k]? = some (f (l.getD k z)) := by simp [h]
theorem S_inj {a b : List UInt8} : S a = S b ↔ a = b := by
 constructor
 ·intro h; have := congrArg (fun x => x.data.toList) h; simpa [S] using this
 ·rintro rfl; rfl
theorem S_beq (a b : List UInt8) : ((S a).toList == (S b).toList) = decide (a = b) := by rw [str_beq]; simp [S_inj]
theorem S_eqv {a b : List UInt8} : (((S a).toList == (S b).toList) = true) = (a = b) := by rw [S_beq]; simp
theorem S_eqf {a b : List UInt8} : (((S a).toList == (S b).toList) = false) = ¬ (a = b) := by rw [S_beq]; simp
section
variable {g : Gv}
theorem of_exact {f : FuncId} {ins : List SV} {out : SV} {args : List Value} {v : Value} (hi : exAll ins = some args) (ho : exT out = some v) (hk : okS out = true)
  (h : ∀ w : World, Calls Tryz.prog f args.toArray w fun e w' => e = .returned v ∧ w = w') : SpG g f ins [] out [] :=
 spec_of hi ho hk fun w _ => (h w).mono fun e w' ⟨h1, h2⟩ => ⟨h1, by subst h2; exact Below.refl _ _⟩
end
def intD (x : Int) : List D := [.i x]
def intsD (l : List Int) : List (List D) := l.map intD
end Go.Proofs.YtdejnaokkdndeaaGreatDoor
namespace Go.Proofs.YtdejnaokkdndeaaGreatDoor
open Go.RowKit Go.V
open Go.Eng (inR byteAt u8 bytesV)
variable {g : Gv}
theorem sv_bool {a b : Bool} (h : a = b) : (SV.c (.d (.b a)) : SV) = .c (.d (.b b)) := by rw [h]
theorem empty_S (a : ByteArray) : a = S [] ↔ a.size = 0 := empty_iff a
theorem within_any (n : Int) :
  SpG g 82 [.c (.d (.i n))] [] (.c (.d (.b (decide ((-1000000000000000 : Int) ≤ n) && decide (n ≤ 1000000000000000))))) [] := by
 refine enterB 9 Tryz.func82 (by kernel_rfl) fun fr hG => ?_
 refine zR hG [] [] (.c (.d (.b ((decide ((n : Int) ≥ (-1000000000000000))) && (decide ((n : Int) ≤ 1000000000000000)))))) [] (by kernel_rfl) conj0 ?_ ?_
 ·refine sv_bool ?_
  rw [Bool.eq_iff_iff] <;> (try simp) <;> (try omega)
 ·rfl
theorem letter_any (c : Int) :
  SpG g 162 [.c (.d (.y c))] [] (.c (.d (.b (isLetter c)))) [] := by
 refine enterB 17 Tryz.func162 (by kernel_rfl) fun fr hG => ?_
 exact zr hG [] [] (by kernel_rfl) conj0
theorem decRight_ok (n s : Int) :
  SpG g 55 [.agg [.d (.i n), .d (.i s)]] [] (.c (.d (.b (decB n s)))) [] := by
 refine enterB 26 Tryz.func55 (by kernel_rfl) fun fr hG => ?_
 refine zC hG [(1, 11, .call (.c (.d (.b (decide ((-1000000000000000 : Int) ≤ n) && decide (n ≤ (1000000000000000 : Int)))))) [] [])] [1, 0, 1] (((decide ((s : Int) < 0)) || (decide ((s : Int) > 6))) || (!(decide ((-1000000000000000 : Int) ≤ n) && decide (n ≤ (1000000000000000 : Int))))) (⟨[(1, [], .c (.bx 100 0)), (2, [], .c (.d (.b false)))], [(100, .box 38 [.d (.i n), .d (.i s)])]⟩) (by kernel_rfl) (conj1 (fun (hg1 : ((decide ((s : Int) < 0)) || (decide ((s : Int) > 6))) = false) => ((within_any n : SpG g _ _ _ _ _)))) (fun hc1 => ?_) (fun hc1 => ?_)
 ·(try simp only [blS] at hc1)
  refine zR hG [] [] (.c (.d (.b false))) [] (by kernel_rfl) conj0 ?_ ?_
  ·refine sv_bool ?_
   simp only [decB]; rw [Bool.eq_iff_iff] <;> (try simp) <;> (try omega)
  ·rfl
 ·(try simp only [blS] at hc1)
  refine zR hG [] [] (.c (.d (.b ((decide ((s : Int) = 0)) || (!decide ((Int.tmod n 10 : Int) = 0)))))) [] (by kernel_rfl) (conj1 (show (decide ((s : Int) = 0)) = false → 10 ≠ (0 : Int) from (by intros; first | omega | decide | (simp only [inR, blS] at *; omega)))) ?_ ?_
  ·refine sv_bool ?_
   simp only [decB]; rw [Bool.eq_iff_iff] <;> (try simp) <;> (try omega)
  ·rfl
theorem isText_any (s : ByteArray) (hs : s.size ≤ maxLen) :
  SpG g 54 [.c (.d (.s s))] [] (.c (.d (.b (isTextB s)))) [] := by
 unfold maxLen at hs
 refine enterB 23 Tryz.func54 (by kernel_rfl) fun fr hG => ?_
 refine zL hG [] [0, 1, 0, 1] (fun (zz : Nat) => match zz with | k => (s.size - k, ⟨[(0, [], .c (.d (.s s))), (2, [], .c (.d (.b false))), (5, [], .c (.d (.i ((s).size : Int)))), (6, [], .c (.d (.i (k : Int))))], []⟩, k ≤ s.size ∧ (bs s).all okByte = ((bs s).drop k).all okByte)) 0 (by kernel_rfl) conj0 (by kernel_rfl) ?_ ?_
 ·exact ⟨Nat.zero_le _, rfl⟩
 rintro k ⟨hk, hall⟩
 refine zc hG [] [0, 1] (decide (((k : Int) : Int) < ((s).size : Int))) (by kernel_rfl) conj0 (fun hc2 => ?_) (fun hc2 => ?_)
 ·(try simp only [blS] at hc2)
  refine zc hG [] [1, 1, 0, 0, 1, 1] ((decide ((byteAt (s) (k : Int) : Int) < 32)) || (decide ((byteAt (s) (k : Int) : Int) > 126))) (by kernel_rfl) (conjC (show (0 : Int) ≤ (k : Int) ∧ (k : Int) < ((s).size : Int) from (by intros; first | omega | decide | (simp only [inR, blS] at *; omega))) (conj1 (show (decide ((byteAt (s) (k : Int) : Int) < 32)) = false → (0 : Int) ≤ (k : Int) ∧ (k : Int) < ((s).size : Int) from (by intros; first | omega | decide | (simp only [inR, blS] at *; omega))))) (fun hc3 => ?_) (fun hc3 => ?_)
  ·(try simp only [blS] at hc3)
   refine zE hG [] .ret (⟨[(0, [], .c (.d (.s s))), (2, [], .c (.d (.b false)))], []⟩) (by kernel_rfl) conj0 rfl ?_
   refine zR hG [] [] (.c (.d (.b false))) [] (by kernel_rfl) conj0 ?_ ?_
   ·refine sv_bool ?_
    rw [isTextB, hall, bs_drop s k (by omega)]; simp only [byteAt_nat] at hc3; simp [okByte]; omega
   ·rfl
  ·(try simp only [blS] at hc3)
   refine zD hG [] (k + 1) (by kernel_rfl) (conj1 (show inR ((k : Int) + 1) from (by intros; first | omega | decide | (simp only [inR, blS] at *; omega)))) ?_ ?_
   ·(try dsimp only); omega
   ·exact ⟨by omega, by rw [hall, bs_drop s k (by omega)]; simp only [byteAt_nat] at hc3; simp [okByte]; omega⟩
 ·(try simp only [blS] at hc2)
  refine zE hG [] (.exit 0) (⟨[(0, [], .c (.d (.s s))), (2, [], .c (.d (.b false)))], []⟩) (by kernel_rfl) conj0 rfl ?_
  refine zR hG [] [] (.c (.d (.b (decide ((((s).size : Int) : Int) ≤ 200))))) [] (by kernel_rfl) conj0 ?_ ?_
  ·refine sv_bool ?_
   rw [isTextB, hall, bs_nil s k (by omega)]; simp
  ·rfl
theorem isName_any (s : ByteArray) :
  SpG g 83 [.c (.d (.s s))] [] (.c (.d (.b (isNameB s)))) [] := by
 refine enterB 46 Tryz.func83 (by kernel_rfl) fun fr hG => ?_
 refine zC hG [(1, 10, .call (.c (.d (.b (isLetter (byteAt (s) 0))))) [] [])] [1, 0, 1] ((((s).toList == (S []).toList) || (decide ((((s).size : Int) : Int) > 20))) || (!(isLetter (byteAt (s) 0)))) (⟨[(0, [], .c (.d (.s s))), (2, [], .c (.d (.b false)))], []⟩) (by kernel_rfl) (conjC (show (((s).toList == (S []).toList) || (decide ((((s).size : Int) : Int) > 20))) = false → (0 : Int) ≤ 0 ∧ 0 < ((s).size : Int) from (by intros; first | omega | decide | (simp only [inR, blS, str_beq, empty_S] at *; omega))) (conj1 (fun (hg1 : (((s).toList == (S []).toList) || (decide ((((s).size : Int) : Int) > 20))) = false) => ((letter_any (byteAt (s) 0) : SpG g _ _ _ _ _))))) (fun hc1 => ?_) (fun hc1 => ?_)
 ·(try simp only [blS, str_beq, empty_S] at hc1)
  refine zR hG [] [] (.c (.d (.b false))) [] (by kernel_rfl) conj0 ?_ ?_
  ·exact sv_bool (nameB_head hc1).symm
  ·rfl
 ·(try simp only [blS, str_beq, empty_S] at hc1)
  refine zL hG [] [0, 1, 0, 1, 1] (fun (zz : Nat) => match zz with | k => (s.size - k, ⟨[(0, [], .c (.d (.s s))), (2, [], .c (.d (.b false))), (18, [], .c (.d (.i ((s).size : Int)))), (19, [], .c (.d (.i (k : Int))))], []⟩, k ≤ s.size ∧ (bs s).all tailByte = ((bs s).drop k).all tailByte)) 0 (by kernel_rfl) conj0 (by kernel_rfl) ?_ ?_
  ·exact ⟨Nat.zero_le _, rfl⟩
  rintro k ⟨hk, hall⟩
  refine zc hG [] [0, 1] (decide (((k : Int) : Int) < ((s).size : Int))) (by kernel_rfl) conj0 (fun hc3 => ?_) (fun hc3 => ?_)
  ·(try simp only [blS, str_beq, empty_S] at hc3)
   refine zc hG [(6, 3, .call (.c (.d (.b (isLetter (byteAt (s) (k : Int)))))) [] [])] [1, 1, 0, 0, 1, 1] (((!(isLetter (byteAt (s) (k : Int)))) && (!decide ((byteAt (s) (k : Int) : Int) = 95))) && ((decide ((byteAt (s) (k : Int) : Int) < 48)) || (decide ((byteAt (s) (k : Int) : Int) > 57)))) (by kernel_rfl) (conjC (show (0 : Int) ≤ (k : Int) ∧ (k : Int) < ((s).size : Int) from (by intros; first | omega | decide | (simp only [inR, blS, str_beq, empty_S] at *; omega))) (conjC ((letter_any (byteAt (s) (k : Int)) : SpG g _ _ _ _ _)) (conjC (show (!(isLetter (byteAt (s) (k : Int)))) = true → (0 : Int) ≤ (k : Int) ∧ (k : Int) < ((s).size : Int) from (by intros; first | omega | decide | (simp only [inR, blS, str_beq, empty_S] at *; omega))) (conjC (show ((!(isLetter (byteAt (s) (k : Int)))) && (!decide ((byteAt (s) (k : Int) : Int) = 95))) = true → (0 : Int) ≤ (k : Int) ∧ (k : Int) < ((s).size : Int) from (by intros; first | omega | decide | (simp only [inR, blS, str_beq, empty_S] at *; omega))) (conj1 (show (decide ((byteAt (s) (k : Int) : Int) < 48)) = false → ((!(isLetter (byteAt (s) (k : Int)))) && (!decide ((byteAt (s) (k : Int) : Int) = 95))) = true → (0 : Int) ≤ (k : Int) ∧ (k : Int) < ((s).size : Int) from (by intros; first | omega | decide | (simp only [inR, blS, str_beq, empty_S] at *; omega)))))))) (fun hc4 => ?_) (fun hc4 => ?_)
   ·(try simp only [blS, str_beq, empty_S] at hc4)
    refine zE hG [] .ret (⟨[(2, [], .c (.d (.b false)))], []⟩) (by kernel_rfl) conj0 rfl ?_
    refine zR hG [] [] (.c (.d (.b false))) [] (by kernel_rfl) conj0 ?_ ?_
    ·refine sv_bool (nameB_not ?_).symm
     rw [hall, bs_drop s k (by omega)]
     simp only [byteAt_nat] at hc4
     rw [List.all_cons, tailByte, tail_not hc4, Bool.false_and]
    ·rfl
   ·(try simp only [blS, str_beq, empty_S] at hc4)
    refine zD hG [] (k + 1) (by kernel_rfl) (conj1 (show inR ((k : Int) + 1) from (by intros; first | omega | decide | (simp only [inR, blS, str_beq, empty_S] at *; omega)))) ?_ ?_
    ·(try dsimp only); omega
    ·refine ⟨by omega, ?_⟩
     rw [hall, bs_drop s k (by omega)]
     simp only [byteAt_nat] at hc4
     rw [List.all_cons, tailByte, tail_of hc4, Bool.true_and]
  ·(try simp only [blS, str_beq, empty_S] at hc3)
   refine zE hG [] (.exit 0) (⟨[(2, [], .c (.d (.b false)))], []⟩) (by kernel_rfl) conj0 rfl ?_
   refine zR hG [] [] (.c (.d (.b true))) [] (by kernel_rfl) conj0 ?_ ?_
   ·exact sv_bool (nameB_yes hc1 (by rw [hall, bs_nil s k (by omega)]; rfl)).symm
   ·rfl
end Go.Proofs.YtdejnaokkdndeaaGreatDoor
namespace Go.Proofs.YtdejnaokkdndeaaGreatDoor
open Go.RowKit Go.V
open Go.Eng (inR byteAt u8 bytesV)
variable {g : Gv}
def bareB (v : Vl) : Bool := decide (v.s = []) && (v.dn == 0 && v.ds == 0) && decide (v.n = 0) && decide (v.cols = []) && decide (v.rows = [])
def isNameL (l : List UInt8) : Bool := isNameB (S l)
def isTextL (l : List UInt8) : Bool := isTextB (S l)
theorem isName_ok (l : List UInt8) : SpG g 83 [.c (.d (.s (S l)))] [] (.c (.d (.b (isNameL l)))) [] := isName_any (S l)
theorem isText_ok (l : List UInt8) (h : l.length ≤ maxLen) : SpG g 54 [.c (.d (.s (S l)))] [] (.c (.d (.b (isTextL l)))) [] := isText_any (S l) (by rw [S_size]; exact h)
def idxI (l : List (List UInt8)) (x : List UInt8) : Int := match l.findIdx? (fun y => decide (x = y)) with
 | some k => (k : Int)
 | none => -1
theorem idxI_at {l : List (List UInt8)} {k : Nat} {x : List UInt8} (hk : k < l.length) (hn : ∀ j, j < k → x ≠ l.getD j []) (hx : x = l.getD k []) : idxI l x = (k : Int) := by
 have : l.findIdx? (fun y => decide (x = y)) = some k := by
  rw [List.findIdx?_eq_some_iff_getElem]
  refine ⟨hk, by simpa [hk] using hx, fun j hj => ?_⟩
  have := hn j hj
  simpa [show j < l.length by omega] using this
 rw [idxI, this]
theorem idxI_none {l : List (List UInt8)} {x : List UInt8} (hn : ∀ j, j < l.length → x ≠ l.getD j []) : idxI l x = -1 := by
 have : l.findIdx? (fun y => decide (x = y)) = none := by
  rw [List.findIdx?_eq_none_iff]
  intro y hy
  obtain ⟨j, hj, rfl⟩ := List.mem_iff_getElem.1 hy
  have := hn j hj
  simpa [hj] using this
 rw [idxI, this]
theorem idxI_nonneg {l : List (List UInt8)} {x : List UInt8} : decide (idxI l x ≥ 0) = decide (x ∈ l) := by
 unfold idxI
 cases h : l.findIdx? (fun y => decide (x = y)) with
 | none =>
  rw [List.findIdx?_eq_none_iff] at h
  have : x ∉ l := fun hm => by have := h x hm; simp at this
  simp [this]
 | some k =>
  obtain ⟨hk, h1, _⟩ := List.findIdx?_eq_some_iff_getElem.1 h
  simp only [decide_eq_true_eq] at h1
  have : x ∈ l := by rw [h1]; exact List.getElem_mem hk
  simp [this]
def allR (n : Nat) (p : Nat → Bool) : Bool := (List.range n).all p
theorem allR_true {n : Nat} {p : Nat → Bool} (h : ∀ i, i < n → p i = true) : allR n p = true := by
 simp only [allR, List.all_eq_true, List.mem_range]; exact h
theorem allR_false {n : Nat} {p : Nat → Bool} {i : Nat} (hi : i < n) (h : p i = false) : allR n p = false := by
 cases hh : allR n p with
 | false => rfl
 | true => simp only [allR, List.all_eq_true, List.mem_range] at hh; rw [hh i hi] at h; cases h
theorem allR_get {n : Nat} {p : Nat → Bool} (h : allR n p = true) {i : Nat} (hi : i < n) : p i = true := by
 simp only [allR, List.all_eq_true, List.mem_range] at h; exact h i hi
theorem below_succ {k : Nat} {q : Nat → Prop} (h : ∀ j, j < k → q j) (hk : q k) : ∀ j, j < k + 1 → q j := fun j hj => by
 rcases Nat.lt_succ_iff_lt_or_eq.1 hj with h' | h'
 ·exact h j h'
 ·rw [h']; exact hk
def rightK (T : Bool) (v : Vl) : Bool :=
 if v.kind = 0 then decide (0 ≤ v.n) && decide (v.n ≤ 99) && bareB { v with n := 0 }
 else if v.kind = 1 then isTextL v.s && bareB { v with s := [] }
 else if v.kind = 2 then decB v.dn v.ds && bareB { v with dn := 0, ds := 0 }
 else if v.kind = 3 then decide (0 ≤ v.n) && decide (v.n ≤ 3652058) && bareB { v with n := 0 }
 else if v.kind = 4 then (decide (v.n = 0) || decide (v.n = 1)) && bareB { v with n := 0 }
 else if v.kind = 5 then T && bareB { v with cols := [], rows := [] }
 else false
def nameAt (cols : List (List UInt8)) (i : Nat) : Bool := isNameL (cols.getD i []) && !decide (cols.getD i [] ∈ cols.take i)
def cellAt (r : List Cl) (j : Nat) : Bool := !decide ((r.getD j Cl.z).kind = 5) && rightK false (r.getD j Cl.z).toV
def rowAt (cols : List (List UInt8)) (rows : List (List Cl)) (i : Nat) : Bool := decide ((rows.getD i []).length = cols.length) && allR (rows.getD i []).length (cellAt (rows.getD i []))
def tableB (cols : List (List UInt8)) (rows : List (List Cl)) : Bool := decide (cols.length ≤ 8) && decide (rows.length ≤ 100) && allR cols.length (nameAt cols) && allR rows.length (rowAt cols rows)
def rightB (v : Vl) : Bool := rightK (tableB v.cols v.rows) v
structure Vl.fit (v : Vl) : Prop where
 s : v.s.length ≤ maxLen
 cols : ∀ t, t ∈ v.cols → t.length ≤ maxLen
 cells : ∀ r, r ∈ v.rows → ∀ c, c ∈ r → c.s.length ≤ maxLen
def clArg (c : Cl) : SV := .agg [.d (.i c.kind), .d (.s (S c.s)), .d (.i c.dn), .d (.i c.ds), .d (.i c.n), .d (.sl 1 []), .d (.sl 1 [])]
theorem getD_mem {α : Type} {l : List α} {k : Nat} {z : α} (h : k < l.length) : l.getD k z ∈ l := by simp [h]
theorem tableB_long {cols : List (List UInt8)} {rows : List (List Cl)} (h : (cols.length : Int) > 8 ∨ (rows.length : Int) > 100) : tableB cols rows = false := by
 have : (decide (cols.length ≤ 8) && decide (rows.length ≤ 100)) = false := by
  rcases h with h | h
  ·simp; omega
  ·simp; omega
 simp only [tableB, this, Bool.false_and]
theorem tableB_name {cols : List (List UInt8)} {rows : List (List Cl)} {k : Nat} (hk : k < cols.length) (h : nameAt cols k = false) : tableB cols rows = false := by
 rw [tableB, allR_false hk h]; simp
theorem tableB_row {cols : List (List UInt8)} {rows : List (List Cl)} {k : Nat} (hk : k < rows.length) (h : rowAt cols rows k = false) : tableB cols rows = false := by
 rw [tableB, allR_false (p := rowAt cols rows) hk h]; simp
theorem tableB_ok {cols : List (List UInt8)} {rows : List (List Cl)} (h : ¬ (cols.length : Int) > 8 ∧ ¬ (rows.length : Int) > 100) (hn : ∀ j, j < cols.length → nameAt cols j = true) (hr : ∀ j, j < rows.length → rowAt cols rows j = true) : tableB cols rows = true := by
 rw [tableB, allR_true hn, allR_true hr]; simp; omega
theorem rowAt_len {cols : List (List UInt8)} {rows : List (List Cl)} {i : Nat} (h : ¬ ((rows.getD i []).length : Int) = (cols.length : Int)) : rowAt cols rows i = false := by
 have : ¬ (rows.getD i []).length = cols.length := by omega
 simp only [rowAt, this, decide_false, Bool.false_and]
theorem rowAt_cell {cols : List (List UInt8)} {rows : List (List Cl)} {i m : Nat} (hm : m < (rows.getD i []).length) (h : cellAt (rows.getD i []) m = false) : rowAt cols rows i = false := by
 rw [rowAt, allR_false hm h]; simp
theorem bare_ok (v : Vl) :
  SpG g 53 [.agg [.d (.i v.kind), .d (.s (S v.s)), .d (.i v.dn), .d (.i v.ds), .d (.i v.n), .d (.sl 1 (strs v.cols)), .d (.sl 1 (rowsD v.rows))]] [] (.c (.d (.b (bareB v)))) [] := by
 refine enterB 29 Tryz.func53 (by kernel_rfl) fun fr hG => ?_
 refine zR hG [] [] (.c (.d (.b ((((((S v.s).toList == (S []).toList) && (((v.dn : Int) == 0) && ((v.ds : Int) == 0))) && (decide ((v.n : Int) = 0))) && (decide ((((strs v.cols).length : Int) : Int) = 0))) && (decide ((((rowsD v.rows).length : Int) : Int) = 0)))))) [] (by kernel_rfl) conj0 ?_ ?_
 ·rw [S_beq]; simp [bareB, strs, rowsD]
 ·rfl
def zq0 := And.intro @List.length_map.{0, 0} (And.intro @S_eqf (And.intro @S_eqv (And.intro @blS (And.intro @rowD.eq_1 (And.intro @rowsD.eq_1 (And.intro @strs.eq_1 (@valsD.eq_1)))))))
theorem index_ok (l : List (List UInt8)) (x : List UInt8) :
  SpG g 163 [.c (.d (.sl 1 (strs l))), .c (.d (.s (S x)))] [] (.c (.d (.i (idxI l x)))) [] := by
 refine enterB 19 Tryz.func163 (by kernel_rfl) fun fr hG => ?_
 refine stepLen 0 rfl fun hl => ?_
 refine zL hG [] [0, 1, 0, 1] (fun (zz : Nat) => match zz with | k => (l.length - k, ⟨[(0, [], .c (.d (.sl 1 (strs l)))), (1, [], .c (.d (.s (S x)))), (4, [], .c (.d (.i 0))), (7, [], .c (.d (.i ((strs l).length : Int)))), (8, [], .c (.d (.i (k : Int))))], []⟩, k ≤ l.length ∧ ∀ j, j < k → x ≠ l.getD j [])) 0 (by kernel_rfl) conj0 (by kernel_rfl) ?_ ?_
 ·exact ⟨Nat.zero_le _, fun j hj => by omega⟩
 rintro k ⟨hk, hn⟩
 refine zc hG [] [0, 1] (decide (((k : Int) : Int) < ((strs l).length : Int))) (by kernel_rfl) conj0 (fun hc2 => ?_) (fun hc2 => ?_)
 ·(try simp only [zq0] at hc2)
  refine zC hG [(4, 3, .elem (strD ((l).getD k [])))] [1, 1, 0, 0, 1, 1] ((S x).toList == (S ((l).getD k [])).toList) (⟨[(0, [], .c (.d (.sl 1 (strs l)))), (1, [], .c (.d (.s (S x)))), (4, [], .c (.d (.i 0))), (5, [], .c (.d (.i (k : Int)))), (7, [], .c (.d (.i ((strs l).length : Int)))), (8, [], .c (.d (.i (k : Int))))], []⟩) (by kernel_rfl) (conj1 (show (0 : Int) ≤ (k : Int) ∧ (strs l)[k]? = some (strD ((l).getD k [])) from (by intros; exact map_at [] (by omega) (by (try simp only [strs, List.length_map] at *); omega)))) (fun hc3 => ?_) (fun hc3 => ?_)
  ·(try simp only [zq0] at hc3)
   refine zE hG [] .ret (⟨[(4, [], .c (.d (.i (k : Int))))], []⟩) (by kernel_rfl) conj0 rfl ?_
   refine zR hG [] [] (.c (.d (.i (k : Int)))) [] (by kernel_rfl) conj0 ?_ ?_
   ·rw [idxI_at (by omega) hn (by simpa using hc3)]
   ·rfl
  ·(try simp only [zq0] at hc3)
   refine zD hG [] (k + 1) (by kernel_rfl) (conj1 (show inR ((k : Int) + 1) from (by (try simp only [strs, List.length_map, inR, maxLen] at *); omega))) ?_ ?_
   ·(try simp only [strs, List.length_map] at *); (try dsimp only); omega
   ·exact ⟨by omega, fun j hj => by rcases Nat.lt_succ_iff_lt_or_eq.1 hj with h | h; (· exact hn j h); rw [h]; simpa using hc3⟩
 ·(try simp only [zq0] at hc2)
  refine zE hG [] (.exit 0) (⟨[(4, [], .c (.d (.i 0)))], []⟩) (by kernel_rfl) conj0 rfl ?_
  refine zR hG [] [] (.c (.d (.i (-1)))) [] (by kernel_rfl) conj0 ?_ ?_
  ·rw [idxI_none (fun j hj => hn j (by omega))]
  ·rfl
theorem contains_ok (l : List (List UInt8)) (x : List UInt8) :
  SpG g 84 [.c (.d (.sl 1 (strs l))), .c (.d (.s (S x)))] [] (.c (.d (.b (decide (x ∈ l))))) [] := by
 refine enterB 9 Tryz.func84 (by kernel_rfl) fun fr hG => ?_
 refine zR hG [(1, 2, .call (.c (.d (.i (idxI (l) (x))))) [] [])] [] (.c (.d (.b (decide ((idxI (l) (x) : Int) ≥ 0))))) [] (by kernel_rfl) (conj1 ((index_ok (l) (x) : SpG g _ _ _ _ _))) ?_ ?_
 ·rw [idxI_nonneg]
 ·rfl
theorem contains_at {es : List (List D)} {l : List (List UInt8)} (h : es = strs l) (x : List UInt8) : SpG g 84 [.c (.d (.sl 1 es)), .c (.d (.s (S x)))] [] (.c (.d (.b (decide (x ∈ l))))) [] := by subst h; exact contains_ok l x
theorem right_of (v : Vl) (T : Bool) (hs : v.s.length ≤ maxLen) (hT : SpG g 56 [.c (.d (.sl 1 (strs v.cols))), .c (.d (.sl 1 (rowsD v.rows)))] [] (.c (.d (.b T))) []) :
  SpG g 20 [.agg [.d (.i v.kind), .d (.s (S v.s)), .d (.i v.dn), .d (.i v.ds), .d (.i v.n), .d (.sl 1 (strs v.cols)), .d (.sl 1 (rowsD v.rows))]] [] (.c (.d (.b (rightK T v)))) [] := by
 refine enterB 86 Tryz.func20 (by kernel_rfl) fun fr hG => ?_
 refine zC hG [] [1, 0, 1, 0, 1, 1] (decide ((v.kind : Int) = 0)) (⟨[(1, [], .c (.bx 100 0)), (2, [], .c (.d (.b false))), (3, [], .c (.bx 201 0)), (6, [], .c (.d (.i v.kind)))], [(100, .box 42 [.d (.i v.kind), .d (.s (S v.s)), .d (.i v.dn), .d (.i v.ds), .d (.i v.n), .d (.sl 1 (strs v.cols)), .d (.sl 1 (rowsD v.rows))]), (201, .box 42 [.d (.i v.kind), .d (.s (S v.s)), .d (.i v.dn), .d (.i v.ds), .d (.i v.n), .d (.sl 1 (strs v.cols)), .d (.sl 1 (rowsD v.rows))])]⟩) (by kernel_rfl) conj0 (fun hc1 => ?_) (fun hc1 => ?_)
 ·(try simp only [blS] at hc1)
  refine zR hG [(5, 10, .call (.c (.d (.b (bareB (⟨v.kind, v.s, v.dn, v.ds, 0, v.cols, v.rows⟩ : Vl))))) [] [])] [] (.c (.d (.b (((decide ((v.n : Int) ≥ 0)) && (decide ((v.n : Int) ≤ 99))) && (bareB (⟨v.kind, v.s, v.dn, v.ds, 0, v.cols, v.rows⟩ : Vl)))))) [] (by kernel_rfl) (conj1 (fun (hg1 : ((decide ((v.n : Int) ≥ 0)) && (decide ((v.n : Int) ≤ 99))) = true) => ((bare_ok (⟨v.kind, v.s, v.dn, v.ds, 0, v.cols, v.rows⟩ : Vl) : SpG g _ _ _ _ _)))) ?_ ?_
  ·simp [rightK, *]
  ·rfl
 ·(try simp only [blS] at hc1)
  refine zc hG [] [1, 1, 1, 0, 1, 0, 1, 1] (decide ((v.kind : Int) = 1)) (by kernel_rfl) conj0 (fun hc2 => ?_) (fun hc2 => ?_)
  ·(try simp only [blS] at hc2)
   refine zR hG [(8, 2, .call (.c (.d (.b (isTextL (v.s))))) [] []), (8, 5, .call (.c (.d (.b (bareB (⟨v.kind, [], v.dn, v.ds, v.n, v.cols, v.rows⟩ : Vl))))) [] [])] [] (.c (.d (.b ((isTextL (v.s)) && (bareB (⟨v.kind, [], v.dn, v.ds, v.n, v.cols, v.rows⟩ : Vl)))))) [] (by kernel_rfl) (conjC ((isText_ok (v.s) (by assumption) : SpG g _ _ _ _ _)) (conj1 (fun (hg1 : (isTextL (v.s)) = true) => ((bare_ok (⟨v.kind, [], v.dn, v.ds, v.n, v.cols, v.rows⟩ : Vl) : SpG g _ _ _ _ _))))) ?_ ?_
   ·simp [rightK, *]
   ·rfl
  ·(try simp only [blS] at hc2)
   refine zc hG [] [1, 1, 1, 1, 1, 0, 1, 0, 1, 1] (decide ((v.kind : Int) = 2)) (by kernel_rfl) conj0 (fun hc3 => ?_) (fun hc3 => ?_)
   ·(try simp only [blS] at hc3)
    refine zR hG [(11, 2, .call (.c (.d (.b (decB v.dn v.ds)))) [] []), (11, 5, .call (.c (.d (.b (bareB (⟨v.kind, v.s, 0, 0, v.n, v.cols, v.rows⟩ : Vl))))) [] [])] [] (.c (.d (.b ((decB v.dn v.ds) && (bareB (⟨v.kind, v.s, 0, 0, v.n, v.cols, v.rows⟩ : Vl)))))) [] (by kernel_rfl) (conjC ((decRight_ok v.dn v.ds : SpG g _ _ _ _ _)) (conj1 (fun (hg1 : (decB v.dn v.ds) = true) => ((bare_ok (⟨v.kind, v.s, 0, 0, v.n, v.cols, v.rows⟩ : Vl) : SpG g _ _ _ _ _))))) ?_ ?_
    ·simp [rightK, *]
    ·rfl
   ·(try simp only [blS] at hc3)
    refine zc hG [] [1, 1, 1, 1, 1, 1, 1, 0, 1, 0, 1, 1] (decide ((v.kind : Int) = 3)) (by kernel_rfl) conj0 (fun hc4 => ?_) (fun hc4 => ?_)
    ·(try simp only [blS] at hc4)
     refine zR hG [(14, 10, .call (.c (.d (.b (bareB (⟨v.kind, v.s, v.dn, v.ds, 0, v.cols, v.rows⟩ : Vl))))) [] [])] [] (.c (.d (.b (((decide ((v.n : Int) ≥ 0)) && (decide ((v.n : Int) ≤ 3652058))) && (bareB (⟨v.kind, v.s, v.dn, v.ds, 0, v.cols, v.rows⟩ : Vl)))))) [] (by kernel_rfl) (conj1 (fun (hg1 : ((decide ((v.n : Int) ≥ 0)) && (decide ((v.n : Int) ≤ 3652058))) = true) => ((bare_ok (⟨v.kind, v.s, v.dn, v.ds, 0, v.cols, v.rows⟩ : Vl) : SpG g _ _ _ _ _)))) ?_ ?_
     ·simp [rightK, *]
     ·rfl
    ·(try simp only [blS] at hc4)
     refine zc hG [] [1, 1, 1, 1, 1, 1, 1, 1, 1, 0, 1, 0, 1, 1] (decide ((v.kind : Int) = 4)) (by kernel_rfl) conj0 (fun hc5 => ?_) (fun hc5 => ?_)
     ·(try simp only [blS] at hc5)
      refine zR hG [(17, 10, .call (.c (.d (.b (bareB (⟨v.kind, v.s, v.dn, v.ds, 0, v.cols, v.rows⟩ : Vl))))) [] [])] [] (.c (.d (.b (((decide ((v.n : Int) = 0)) || (decide ((v.n : Int) = 1))) && (bareB (⟨v.kind, v.s, v.dn, v.ds, 0, v.cols, v.rows⟩ : Vl)))))) [] (by kernel_rfl) (conj1 (fun (hg1 : ((decide ((v.n : Int) = 0)) || (decide ((v.n : Int) = 1))) = true) => ((bare_ok (⟨v.kind, v.s, v.dn, v.ds, 0, v.cols, v.rows⟩ : Vl) : SpG g _ _ _ _ _)))) ?_ ?_
      ·simp [rightK, *]
      ·rfl
     ·(try simp only [blS] at hc5)
      refine zC hG [] [1, 1, 1, 1, 1, 1, 1, 1, 1, 1, 1, 0, 1, 0, 1, 1] (decide ((v.kind : Int) = 5)) (⟨[(1, [], .c (.bx 100 0)), (2, [], .c (.d (.b false))), (3, [], .c (.bx 201 0))], [(100, .box 42 [.d (.i v.kind), .d (.s (S v.s)), .d (.i v.dn), .d (.i v.ds), .d (.i v.n), .d (.sl 1 (strs v.cols)), .d (.sl 1 (rowsD v.rows))]), (201, .box 42 [.d (.i v.kind), .d (.s (S v.s)), .d (.i v.dn), .d (.i v.ds), .d (.i v.n), .d (.sl 1 (strs v.cols)), .d (.sl 1 (rowsD v.rows))])]⟩) (by kernel_rfl) conj0 (fun hc6 => ?_) (fun hc6 => ?_)
      ·(try simp only [blS] at hc6)
       refine zR hG [(20, 4, .call (.c (.d (.b T))) [] []), (20, 7, .call (.c (.d (.b (bareB (⟨v.kind, v.s, v.dn, v.ds, v.n, [], []⟩ : Vl))))) [] [])] [] (.c (.d (.b (T && (bareB (⟨v.kind, v.s, v.dn, v.ds, v.n, [], []⟩ : Vl)))))) [] (by kernel_rfl) (conjC ((hT : SpG g _ _ _ _ _)) (conj1 (fun (hg1 : T = true) => ((spec_mask (ins := [.agg [.d (.i v.kind), .d (.s (S v.s)), .d (.i v.dn), .d (.i v.ds), .d (.i v.n), .d (.nil), .d (.nil)]]) [[none, none, none, none, none, some 1, some 1]] (bare_ok (⟨v.kind, v.s, v.dn, v.ds, v.n, [], []⟩ : Vl)) : SpG g _ _ _ _ _))))) ?_ ?_
       ·simp [rightK, *]
       ·rfl
      ·(try simp only [blS] at hc6)
       refine zR hG [] [] (.c (.d (.b false))) [] (by kernel_rfl) conj0 ?_ ?_
       ·simp [rightK, *]
       ·rfl
def zq1 := And.intro @List.length_map.{0, 0} (And.intro @Go.Eng.inR.eq_1 (And.intro @maxLen.eq_1 (And.intro @rowD.eq_1 (And.intro @rowsD.eq_1 (@strs.eq_1)))))
def zq2 := And.intro @List.length_map.{0, 0} (And.intro @rowD.eq_1 (And.intro @rowsD.eq_1 (And.intro @strs.eq_1 (@valsD.eq_1))))
theorem rightTable_of (cols : List (List UInt8)) (rows : List (List Cl)) (hR : ∀ c : Cl, (∃ r ∈ rows, c ∈ r) → ¬ c.kind = 5 → SpG g 20 [clArg c] [] (.c (.d (.b (rightK false c.toV)))) []) :
  SpG g 56 [.c (.d (.sl 1 (strs cols))), .c (.d (.sl 1 (rowsD rows)))] [] (.c (.d (.b (tableB cols rows)))) [] := by
 refine enterB 64 Tryz.func56 (by kernel_rfl) fun fr hG => ?_
 refine stepLen 0 rfl fun hl0 => ?_
 refine stepLen 1 rfl fun hl1 => ?_
 refine zC hG [] [1, 0, 1] ((decide ((((strs cols).length : Int) : Int) > 8)) || (decide ((((rowsD rows).length : Int) : Int) > 100))) (⟨[(0, [], .c (.d (.sl 1 (strs cols)))), (1, [], .c (.d (.sl 1 (rowsD rows)))), (4, [], .c (.d (.b false)))], []⟩) (by kernel_rfl) conj0 (fun hc1 => ?_) (fun hc1 => ?_)
 ·(try simp only [zq0] at hc1)
  refine zR hG [] [] (.c (.d (.b false))) [] (by kernel_rfl) conj0 ?_ ?_
  ·rw [tableB_long hc1]
  ·rfl
 ·(try simp only [zq0] at hc1)
  refine zL hG [] [0, 1, 0, 1, 1] (fun (zz : Nat) => match zz with | k => (cols.length - k, ⟨[(0, [], .c (.d (.sl 1 (strs cols)))), (1, [], .c (.d (.sl 1 (rowsD rows)))), (4, [], .c (.d (.b false))), (19, [], .c (.d (.sl 1 (strs cols)))), (20, [], .c (.d (.i ((strs cols).length : Int)))), (21, [], .c (.d (.i (k : Int))))], []⟩, k ≤ cols.length ∧ ∀ j, j < k → nameAt cols j = true)) 0 (by kernel_rfl) conj0 (by kernel_rfl) ?_ ?_
  ·exact ⟨Nat.zero_le _, fun j hj => by omega⟩
  rintro k ⟨hk, hn⟩
  refine zc hG [] [0, 1] (decide (((k : Int) : Int) < ((strs cols).length : Int))) (by kernel_rfl) conj0 (fun hc3 => ?_) (fun hc3 => ?_)
  ·(try simp only [zq0] at hc3)
   refine zc hG [(5, 1, .elem (strD ((cols).getD k []))), (6, 1, .call (.c (.d (.b (isNameL ((cols).getD k []))))) [] []), (6, 8, .call (.c (.d (.b (decide (((cols).getD k []) ∈ (((cols).take k).drop 0)))))) [] [])] [1, 1, 0, 0, 1, 1] ((!(isNameL ((cols).getD k []))) || (decide (((cols).getD k []) ∈ (((cols).take k).drop 0)))) (by kernel_rfl) (conjC (show (0 : Int) ≤ (k : Int) ∧ (strs cols)[k]? = some (strD ((cols).getD k [])) from (by intros; exact map_at [] (by omega) (by (try simp only [strs, List.length_map] at *); omega))) (conjC ((isName_ok ((cols).getD k []) : SpG g _ _ _ _ _)) (conjC (show (!(isNameL ((cols).getD k []))) = false → (0 : Int) ≤ 0 ∧ (0 : Int) ≤ (k : Int) ∧ (k : Int) ≤ ((strs cols).length : Int) from (by (try simp only [zq1] at *); omega)) (conj1 (fun (hg1 : (!(isNameL ((cols).getD k []))) = false) => ((contains_at (es := ((strs cols).take k).drop 0) (l := ((cols).take k).drop 0) (by simp only [strs, List.map_take, List.map_drop]) ((cols).getD k []) : SpG g _ _ _ _ _))))))) (fun hc4 => ?_) (fun hc4 => ?_)
   ·(try simp only [zq0] at hc4)
    refine zE hG [] .ret (⟨[(0, [], .c (.d (.sl 1 (strs cols)))), (1, [], .c (.d (.sl 1 (rowsD rows)))), (4, [], .c (.d (.b false)))], []⟩) (by kernel_rfl) conj0 rfl ?_
    refine zR hG [] [] (.c (.d (.b false))) [] (by kernel_rfl) conj0 ?_ ?_
    ·rw [tableB_name (k := k) (by omega) ?_]
     simp only [nameAt, Bool.and_eq_false_iff, Bool.not_eq_false', decide_eq_true_eq]
     exact hc4
    ·rfl
   ·(try simp only [zq0] at hc4)
    refine zD hG [] (k + 1) (by kernel_rfl) (conj1 (show inR ((k : Int) + 1) from (by (try simp only [zq1] at *); omega))) ?_ ?_
    ·(try dsimp only); omega
    ·refine ⟨by omega, below_succ hn ?_⟩
     simp only [nameAt, Bool.and_eq_true, Bool.not_eq_true', decide_eq_false_iff_not]
     exact hc4
  ·(try simp only [zq0] at hc3)
   refine zE hG [] (.exit 0) (⟨[(0, [], .c (.d (.sl 1 (strs cols)))), (1, [], .c (.d (.sl 1 (rowsD rows)))), (4, [], .c (.d (.b false)))], []⟩) (by kernel_rfl) conj0 rfl ?_
   refine zL hG [] [0, 1, 0, 1, 1, 1] (fun (zz : Nat) => match zz with | i => (rows.length - i, ⟨[(0, [], .c (.d (.sl 1 (strs cols)))), (4, [], .c (.d (.b false))), (37, [], .c (.d (.sl 1 (rowsD rows)))), (38, [], .c (.d (.i ((rowsD rows).length : Int)))), (39, [], .c (.d (.i (i : Int))))], []⟩, i ≤ rows.length ∧ ∀ j, j < i → rowAt cols rows j = true)) 0 (by kernel_rfl) conj0 (by kernel_rfl) ?_ ?_
   ·exact ⟨Nat.zero_le _, fun j hj => by omega⟩
   rintro i ⟨hi, hr⟩
   refine zc hG [] [0, 1] (decide (((i : Int) : Int) < ((rowsD rows).length : Int))) (by kernel_rfl) conj0 (fun hc6 => ?_) (fun hc6 => ?_)
   ·(try simp only [zq0] at hc6)
    refine zC hG [(11, 0, .elem (rows1 ((rows).getD i [])))] [1, 0, 1, 0, 0, 1, 1] (!decide ((((rowD ((rows).getD i [])).length : Int) : Int) = ((strs cols).length : Int))) (⟨[(0, [], .c (.d (.sl 1 (strs cols)))), (4, [], .c (.d (.b false))), (8, [], .c (.d (.sl 7 (rowD ((rows).getD i []))))), (37, [], .c (.d (.sl 1 (rowsD rows)))), (38, [], .c (.d (.i ((rowsD rows).length : Int)))), (39, [], .c (.d (.i (i : Int))))], []⟩) (by kernel_rfl) (conj1 (show (0 : Int) ≤ (i : Int) ∧ (rowsD rows)[i]? = some (rows1 ((rows).getD i [])) from (by intros; exact map_at _ (by omega) (by (try simp only [zq2] at *); omega)))) (fun hc7 => ?_) (fun hc7 => ?_)
    ·(try simp only [zq0] at hc7)
     refine zE hG [] .ret (⟨[(4, [], .c (.d (.b false)))], []⟩) (by kernel_rfl) conj0 rfl ?_
     refine zR hG [] [] (.c (.d (.b false))) [] (by kernel_rfl) conj0 ?_ ?_
     ·rw [tableB_row (k := i) (by omega) (rowAt_len hc7)]
     ·rfl
    ·(try simp only [zq0] at hc7)
     refine zL hG [] [0, 1, 1, 1, 0, 0, 1, 1] (fun (zz : Nat) => match zz with | m => ((rows.getD i []).length - m, ⟨[(0, [], .c (.d (.sl 1 (strs cols)))), (4, [], .c (.d (.b false))), (37, [], .c (.d (.sl 1 (rowsD rows)))), (38, [], .c (.d (.i ((rowsD rows).length : Int)))), (39, [], .c (.d (.i (i : Int)))), (48, [], .c (.d (.sl 7 (rowD ((rows).getD i []))))), (49, [], .c (.d (.i ((rowD ((rows).getD i [])).length : Int)))), (50, [], .c (.d (.i (m : Int))))], []⟩, m ≤ (rows.getD i []).length ∧ ∀ j, j < m → cellAt (rows.getD i []) j = true)) 0 (by kernel_rfl) conj0 (by kernel_rfl) ?_ ?_
     ·exact ⟨Nat.zero_le _, fun j hj => by omega⟩
     rintro m ⟨hm, hcl⟩
     refine zc hG [] [0, 1] (decide (((m : Int) : Int) < ((rowD ((rows).getD i [])).length : Int))) (by kernel_rfl) conj0 (fun hc9 => ?_) (fun hc9 => ?_)
     ·(try simp only [zq0] at hc9)
      refine zc hG [(16, 0, .elem (ClD (((rows).getD i []).getD m Cl.z))), (17, 5, .call (.c (.d (.b (rightK false (((rows).getD i []).getD m Cl.z).toV)))) [] [])] [1, 1, 0, 0, 1, 1] ((decide (((((rows).getD i []).getD m Cl.z).kind : Int) = 5)) || (!(rightK false (((rows).getD i []).getD m Cl.z).toV))) (by kernel_rfl) (conjC (show (0 : Int) ≤ (m : Int) ∧ (rowD ((rows).getD i []))[m]? = some (ClD (((rows).getD i []).getD m Cl.z)) from (by intros; exact map_at _ (by omega) (by (try simp only [zq2] at *); omega))) (conj1 (fun (hg1 : (decide (((((rows).getD i []).getD m Cl.z).kind : Int) = 5)) = false) => ((hR (((rows).getD i []).getD m Cl.z) ⟨rows.getD i [], getD_mem (by omega), getD_mem (by (try simp only [rowD, List.length_map] at *); omega)⟩ (by simpa using hg1) : SpG g _ _ _ _ _))))) (fun hc10 => ?_) (fun hc10 => ?_)
      ·(try simp only [zq0] at hc10)
       refine zE hG [] .ret (⟨[(0, [], .c (.d (.sl 1 (strs cols)))), (4, [], .c (.d (.b false))), (37, [], .c (.d (.sl 1 (rowsD rows)))), (38, [], .c (.d (.i ((rowsD rows).length : Int)))), (39, [], .c (.d (.i (i : Int))))], []⟩) (by kernel_rfl) conj0 rfl ?_
       refine zE hG [] .ret (⟨[(4, [], .c (.d (.b false)))], []⟩) (by kernel_rfl) conj0 rfl ?_
       refine zR hG [] [] (.c (.d (.b false))) [] (by kernel_rfl) conj0 ?_ ?_
       ·rw [tableB_row (k := i) (by omega) (rowAt_cell (m := m) (by omega) ?_)]
        simp only [cellAt, Bool.and_eq_false_iff, Bool.not_eq_false', decide_eq_true_eq]
        exact hc10
       ·rfl
      ·(try simp only [zq0] at hc10)
       refine zD hG [] (m + 1) (by kernel_rfl) (conj1 (show inR ((m : Int) + 1) from (by (try simp only [zq1] at *); omega))) ?_ ?_
       ·(try dsimp only); omega
       ·refine ⟨by omega, below_succ hcl ?_⟩
        simp only [cellAt, Bool.and_eq_true, Bool.not_eq_true', decide_eq_false_iff_not]
        exact hc10
     ·(try simp only [zq0] at hc9)
      refine zE hG [] (.exit 4) (⟨[(0, [], .c (.d (.sl 1 (strs cols)))), (4, [], .c (.d (.b false))), (37, [], .c (.d (.sl 1 (rowsD rows)))), (38, [], .c (.d (.i ((rowsD rows).length : Int)))), (39, [], .c (.d (.i (i : Int))))], []⟩) (by kernel_rfl) conj0 rfl ?_
      refine zD hG [] (i + 1) (by kernel_rfl) (conj1 (show inR ((i : Int) + 1) from (by (try simp only [zq1] at *); omega))) ?_ ?_
      ·(try dsimp only); omega
      ·refine ⟨by omega, below_succ hr ?_⟩
       have : m = (rows.getD i []).length := by omega
       subst this
       simp only [rowAt, Bool.and_eq_true, decide_eq_true_eq]
       exact ⟨by omega, allR_true hcl⟩
   ·(try simp only [zq0] at hc6)
    refine zE hG [] (.exit 2) (⟨[(4, [], .c (.d (.b false)))], []⟩) (by kernel_rfl) conj0 rfl ?_
    refine zR hG [] [] (.c (.d (.b true))) [] (by kernel_rfl) conj0 ?_ ?_
    ·rw [tableB_ok hc1 (fun j hj => hn j (by omega)) (fun j hj => hr j (by omega))]
    ·rfl
theorem cell_right (c : Cl) (hs : c.s.length ≤ maxLen) (hk : ¬ c.kind = 5) : SpG g 20 [clArg c] [] (.c (.d (.b (rightK false c.toV)))) [] := by
 have h := right_of (g := g) c.toV _ hs (rightTable_of [] [] (fun c ⟨r, hr, _⟩ => by cases hr))
 have e : rightK (tableB [] []) c.toV = rightK false c.toV := by
  have : c.toV.kind = c.kind := rfl
  simp [rightK, this, hk]
 rw [e] at h
 exact h
theorem right_ok (v : Vl) (h : v.fit) : SpG g 20 [vArg v] [] (.c (.d (.b (rightB v)))) [] :=
 right_of v _ h.s (rightTable_of v.cols v.rows fun c ⟨r, hr, hc⟩ hk => cell_right c (h.cells r hr c hc) hk)
end Go.Proofs.YtdejnaokkdndeaaGreatDoor
namespace Go.Proofs.YtdejnaokkdndeaaGreatDoor
open Go.RowKit Go.V
open Go.Eng (inR byteAt u8 bytesV)
variable {g : Gv}
theorem eq_of_all {α : Type} {a b : List α} (z : α) (hl : a.length = b.length) (h : ∀ j, j < a.length → a.getD j z = b.getD j z) : a = b := by
 apply List.ext_getElem hl
 intro j h1 h2
 have := h j h1
 simpa [h1, h2] using this
theorem ne_of_at {α : Type} {a b : List α} (z : α) {j : Nat} (h : ¬ a.getD j z = b.getD j z) : ¬ a = b := fun e => h (by rw [e])
def eqK (T : Bool) (a b : Vl) : Bool := decide (a.kind = b.kind) && decide (a.s = b.s) && (a.dn == b.dn && a.ds == b.ds) && decide (a.n = b.n) && decide (a.cols = b.cols) && T
theorem eqK_eq {a b : Vl} : eqK (decide (a.rows = b.rows)) a b = decide (a = b) := by
 obtain ⟨k, s, dn, ds, n, c, r⟩ := a
 obtain ⟨k', s', dn', ds', n', c', r'⟩ := b
 simp only [eqK, Vl.mk.injEq]
 by_cases h1 : k = k' <;> by_cases h2 : s = s' <;> by_cases h3 : dn = dn' <;> by_cases h4 : ds = ds' <;> by_cases h5 : n = n' <;> by_cases h6 : c = c' <;> by_cases h7 : r = r' <;> simp [h1, h2, h3, h4, h5, h6, h7]
theorem toV_inj {a b : Cl} : a.toV = b.toV ↔ a = b := by
 obtain ⟨k, s, dn, ds, n⟩ := a
 obtain ⟨k', s', dn', ds', n'⟩ := b
 simp [Cl.toV]
def zq3 := And.intro @List.length_map.{0, 0} (And.intro @Go.Eng.inR.eq_1 (And.intro @maxLen.eq_1 (And.intro @rowD.eq_1 (And.intro @rowsD.eq_1 (And.intro @strs.eq_1 (@valsD.eq_1))))))
theorem refStrings_ok (a b : List (List UInt8)) :
  SpG g 52 [.c (.d (.sl 1 (strs a))), .c (.d (.sl 1 (strs b)))] [] (.c (.d (.b (decide (a = b))))) [] := by
 refine enterB 26 Tryz.func52 (by kernel_rfl) fun fr hG => ?_
 refine stepLen 0 rfl fun hl0 => ?_
 refine stepLen 1 rfl fun hl1 => ?_
 refine zC hG [] [1, 0, 1] (!decide ((((strs a).length : Int) : Int) = ((strs b).length : Int))) (⟨[(0, [], .c (.d (.sl 1 (strs a)))), (1, [], .c (.d (.sl 1 (strs b)))), (4, [], .c (.d (.b false)))], []⟩) (by kernel_rfl) conj0 (fun hc1 => ?_) (fun hc1 => ?_)
 ·(try simp only [zq0] at hc1)
  refine zR hG [] [] (.c (.d (.b false))) [] (by kernel_rfl) conj0 ?_ ?_
  ·have : ¬ a = b := fun e => hc1 (by rw [e])
   simp [this]
  ·rfl
 ·(try simp only [zq0] at hc1)
  refine zL hG [] [0, 1, 0, 1, 1] (fun (zz : Nat) => match zz with | k => (a.length - k, ⟨[(0, [], .c (.d (.sl 1 (strs a)))), (1, [], .c (.d (.sl 1 (strs b)))), (4, [], .c (.d (.b false))), (5, [], .c (.d (.i (k : Int))))], []⟩, k ≤ a.length ∧ ∀ j, j < k → a.getD j [] = b.getD j [])) 0 (by kernel_rfl) conj0 (by kernel_rfl) ?_ ?_
  ·exact ⟨Nat.zero_le _, fun j hj => by omega⟩
  rintro k ⟨hk, hn⟩
  refine zc hG [] [1, 0] (decide (((k : Int) : Int) < ((strs a).length : Int))) (by kernel_rfl) conj0 (fun hc3 => ?_) (fun hc3 => ?_)
  ·(try simp only [zq0] at hc3)
   refine zc hG [(6, 2, .elem (strD ((a).getD k []))), (6, 6, .elem (strD ((b).getD k [])))] [1, 0, 0, 1] (!((S ((a).getD k [])).toList == (S ((b).getD k [])).toList)) (by kernel_rfl) (conjC (show (0 : Int) ≤ (k : Int) ∧ (strs a)[k]? = some (strD ((a).getD k [])) from (by intros; exact map_at [] (by omega) (by (try simp only [strs, List.length_map] at *); omega))) (conj1 (show (0 : Int) ≤ (k : Int) ∧ (strs b)[k]? = some (strD ((b).getD k [])) from (by intros; exact map_at [] (by omega) (by (try simp only [strs, List.length_map] at *); omega))))) (fun hc4 => ?_) (fun hc4 => ?_)
   ·(try simp only [zq0] at hc4)
    refine zE hG [] .ret (⟨[(4, [], .c (.d (.b false)))], []⟩) (by kernel_rfl) conj0 rfl ?_
    refine zR hG [] [] (.c (.d (.b false))) [] (by kernel_rfl) conj0 ?_ ?_
    ·have : ¬ a = b := ne_of_at [] (j := k) (by simpa using hc4)
     simp [this]
    ·rfl
   ·(try simp only [zq0] at hc4)
    refine zD hG [] (k + 1) (by kernel_rfl) (conj1 (show inR ((k : Int) + 1) from (by intros; (try simp only [zq3] at *); omega))) ?_ ?_
    ·(try dsimp only); omega
    ·exact ⟨by omega, below_succ hn (by simpa using hc4)⟩
  ·(try simp only [zq0] at hc3)
   refine zE hG [] (.exit 0) (⟨[(4, [], .c (.d (.b false)))], []⟩) (by kernel_rfl) conj0 rfl ?_
   refine zR hG [] [] (.c (.d (.b true))) [] (by kernel_rfl) conj0 ?_ ?_
   ·have : a = b := eq_of_all [] (by omega) (fun j hj => hn j (by omega))
    simp [this]
   ·rfl
theorem refSameRows_nil' (a b : List (List Cl)) (ha : a = []) (hb : b = []) :
  SpG g 30 [.c (.d (.sl 1 (rowsD a))), .c (.d (.sl 1 (rowsD b)))] [] (.c (.d (.b true))) [] := by
 refine enterB 29 Tryz.func30 (by kernel_rfl) fun fr hG => ?_
 refine zC hG [] [1, 0, 1] (!decide ((((rowsD a).length : Int) : Int) = ((rowsD b).length : Int))) (⟨[(0, [], .c (.d (.sl 1 (rowsD a)))), (1, [], .c (.d (.sl 1 (rowsD b)))), (4, [], .c (.d (.b false)))], []⟩) (by kernel_rfl) conj0 (fun hc1 => ?_) (fun hc1 => ?_)
 ·(try simp only [zq0] at hc1)
  exfalso; simp [ha, hb] at hc1; try omega
 ·(try simp only [zq0] at hc1)
  refine zL hG [] [0, 1, 0, 1, 1] (fun (zz : Nat) => match zz with | k => (0, ⟨[(0, [], .c (.d (.sl 1 (rowsD a)))), (1, [], .c (.d (.sl 1 (rowsD b)))), (4, [], .c (.d (.b false))), (5, [], .c (.d (.i (k : Int))))], []⟩, k = 0)) 0 (by kernel_rfl) conj0 (by kernel_rfl) ?_ ?_
  ·rfl
  rintro k hk
  refine zc hG [] [1, 0] (decide (((k : Int) : Int) < ((rowsD a).length : Int))) (by kernel_rfl) conj0 (fun hc3 => ?_) (fun hc3 => ?_)
  ·(try simp only [zq0] at hc3)
   exfalso; simp [ha, hb] at hc3; try omega
  ·(try simp only [zq0] at hc3)
   refine zE hG [] (.exit 0) (⟨[(4, [], .c (.d (.b false)))], []⟩) (by kernel_rfl) conj0 rfl ?_
   exact zr hG [] [] (by kernel_rfl) conj0
theorem refSameC_of (a b : List Cl) (hE : ∀ x y : Cl, SpG g 19 [clArg x, clArg y] [] (.c (.d (.b (decide (x = y))))) []) :
  SpG g 67 [.c (.d (.sl 7 (rowD a))), .c (.d (.sl 7 (rowD b)))] [] (.c (.d (.b (decide (a = b))))) [] := by
 refine enterB 29 Tryz.func67 (by kernel_rfl) fun fr hG => ?_
 refine stepLen 0 rfl fun hl0 => ?_
 refine stepLen 1 rfl fun hl1 => ?_
 refine zC hG [] [1, 0, 1] (!decide ((((rowD a).length : Int) : Int) = ((rowD b).length : Int))) (⟨[(0, [], .c (.d (.sl 7 (rowD a)))), (1, [], .c (.d (.sl 7 (rowD b)))), (4, [], .c (.d (.b false)))], []⟩) (by kernel_rfl) conj0 (fun hc1 => ?_) (fun hc1 => ?_)
 ·(try simp only [zq0] at hc1)
  refine zR hG [] [] (.c (.d (.b false))) [] (by kernel_rfl) conj0 ?_ ?_
  ·have : ¬ a = b := fun e => hc1 (by rw [e])
   simp [this]
  ·rfl
 ·(try simp only [zq0] at hc1)
  refine zL hG [] [0, 1, 0, 1, 1] (fun (zz : Nat) => match zz with | k => (a.length - k, ⟨[(0, [], .c (.d (.sl 7 (rowD a)))), (1, [], .c (.d (.sl 7 (rowD b)))), (4, [], .c (.d (.b false))), (5, [], .c (.d (.i (k : Int))))], []⟩, k ≤ a.length ∧ ∀ j, j < k → a.getD j Cl.z = b.getD j Cl.z)) 0 (by kernel_rfl) conj0 (by kernel_rfl) ?_ ?_
  ·exact ⟨Nat.zero_le _, fun j hj => by omega⟩
  rintro k ⟨hk, hn⟩
  refine zc hG [] [1, 0] (decide (((k : Int) : Int) < ((rowD a).length : Int))) (by kernel_rfl) conj0 (fun hc3 => ?_) (fun hc3 => ?_)
  ·(try simp only [zq0] at hc3)
   refine zc hG [(6, 2, .elem (ClD ((a).getD k Cl.z))), (6, 6, .elem (ClD ((b).getD k Cl.z))), (6, 8, .call (.c (.d (.b (decide (((a).getD k Cl.z) = ((b).getD k Cl.z)))))) [] [])] [1, 1, 0, 0, 1] (!(decide (((a).getD k Cl.z) = ((b).getD k Cl.z)))) (by kernel_rfl) (conjC (show (0 : Int) ≤ (k : Int) ∧ (rowD a)[k]? = some (ClD ((a).getD k Cl.z)) from (by intros; exact map_at _ (by omega) (by (try simp only [zq2] at *); omega))) (conjC (show (0 : Int) ≤ (k : Int) ∧ (rowD b)[k]? = some (ClD ((b).getD k Cl.z)) from (by intros; exact map_at _ (by omega) (by (try simp only [zq2] at *); omega))) (conj1 ((hE ((a).getD k Cl.z) ((b).getD k Cl.z) : SpG g _ _ _ _ _))))) (fun hc4 => ?_) (fun hc4 => ?_)
   ·(try simp only [zq0] at hc4)
    refine zE hG [] .ret (⟨[(4, [], .c (.d (.b false)))], []⟩) (by kernel_rfl) conj0 rfl ?_
    refine zR hG [] [] (.c (.d (.b false))) [] (by kernel_rfl) conj0 ?_ ?_
    ·have : ¬ a = b := ne_of_at Cl.z (j := k) (by simpa using hc4)
     simp [this]
    ·rfl
   ·(try simp only [zq0] at hc4)
    refine zD hG [] (k + 1) (by kernel_rfl) (conj1 (show inR ((k : Int) + 1) from (by intros; (try simp only [zq3] at *); omega))) ?_ ?_
    ·(try dsimp only); omega
    ·exact ⟨by omega, below_succ hn (by simpa using hc4)⟩
  ·(try simp only [zq0] at hc3)
   refine zE hG [] (.exit 0) (⟨[(4, [], .c (.d (.b false)))], []⟩) (by kernel_rfl) conj0 rfl ?_
   refine zR hG [] [] (.c (.d (.b true))) [] (by kernel_rfl) conj0 ?_ ?_
   ·have : a = b := eq_of_all Cl.z (by omega) (fun j hj => hn j (by omega))
    simp [this]
   ·rfl
theorem refSameRows_of (a b : List (List Cl)) (hS : ∀ x y : List Cl, SpG g 67 [.c (.d (.sl 7 (rowD x))), .c (.d (.sl 7 (rowD y)))] [] (.c (.d (.b (decide (x = y))))) []) :
  SpG g 30 [.c (.d (.sl 1 (rowsD a))), .c (.d (.sl 1 (rowsD b)))] [] (.c (.d (.b (decide (a = b))))) [] := by
 refine enterB 29 Tryz.func30 (by kernel_rfl) fun fr hG => ?_
 refine stepLen 0 rfl fun hl0 => ?_
 refine stepLen 1 rfl fun hl1 => ?_
 refine zC hG [] [1, 0, 1] (!decide ((((rowsD a).length : Int) : Int) = ((rowsD b).length : Int))) (⟨[(0, [], .c (.d (.sl 1 (rowsD a)))), (1, [], .c (.d (.sl 1 (rowsD b)))), (4, [], .c (.d (.b false)))], []⟩) (by kernel_rfl) conj0 (fun hc1 => ?_) (fun hc1 => ?_)
 ·(try simp only [zq0] at hc1)
  refine zR hG [] [] (.c (.d (.b false))) [] (by kernel_rfl) conj0 ?_ ?_
  ·have : ¬ a = b := fun e => hc1 (by rw [e])
   simp [this]
  ·rfl
 ·(try simp only [zq0] at hc1)
  refine zL hG [] [0, 1, 0, 1, 1] (fun (zz : Nat) => match zz with | k => (a.length - k, ⟨[(0, [], .c (.d (.sl 1 (rowsD a)))), (1, [], .c (.d (.sl 1 (rowsD b)))), (4, [], .c (.d (.b false))), (5, [], .c (.d (.i (k : Int))))], []⟩, k ≤ a.length ∧ ∀ j, j < k → a.getD j [] = b.getD j [])) 0 (by kernel_rfl) conj0 (by kernel_rfl) ?_ ?_
  ·exact ⟨Nat.zero_le _, fun j hj => by omega⟩
  rintro k ⟨hk, hn⟩
  refine zc hG [] [1, 0] (decide (((k : Int) : Int) < ((rowsD a).length : Int))) (by kernel_rfl) conj0 (fun hc3 => ?_) (fun hc3 => ?_)
  ·(try simp only [zq0] at hc3)
   refine zc hG [(6, 2, .elem (rows1 ((a).getD k []))), (6, 6, .elem (rows1 ((b).getD k []))), (6, 8, .call (.c (.d (.b (decide (((a).getD k []) = ((b).getD k [])))))) [] [])] [1, 1, 0, 0, 1] (!(decide (((a).getD k []) = ((b).getD k [])))) (by kernel_rfl) (conjC (show (0 : Int) ≤ (k : Int) ∧ (rowsD a)[k]? = some (rows1 ((a).getD k [])) from (by intros; exact map_at _ (by omega) (by (try simp only [zq2] at *); omega))) (conjC (show (0 : Int) ≤ (k : Int) ∧ (rowsD b)[k]? = some (rows1 ((b).getD k [])) from (by intros; exact map_at _ (by omega) (by (try simp only [zq2] at *); omega))) (conj1 ((hS ((a).getD k []) ((b).getD k []) : SpG g _ _ _ _ _))))) (fun hc4 => ?_) (fun hc4 => ?_)
   ·(try simp only [zq0] at hc4)
    refine zE hG [] .ret (⟨[(4, [], .c (.d (.b false)))], []⟩) (by kernel_rfl) conj0 rfl ?_
    refine zR hG [] [] (.c (.d (.b false))) [] (by kernel_rfl) conj0 ?_ ?_
    ·have : ¬ a = b := ne_of_at [] (j := k) (by simpa using hc4)
     simp [this]
    ·rfl
   ·(try simp only [zq0] at hc4)
    refine zD hG [] (k + 1) (by kernel_rfl) (conj1 (show inR ((k : Int) + 1) from (by intros; (try simp only [zq3] at *); omega))) ?_ ?_
    ·(try dsimp only); omega
    ·exact ⟨by omega, below_succ hn (by simpa using hc4)⟩
  ·(try simp only [zq0] at hc3)
   refine zE hG [] (.exit 0) (⟨[(4, [], .c (.d (.b false)))], []⟩) (by kernel_rfl) conj0 rfl ?_
   refine zR hG [] [] (.c (.d (.b true))) [] (by kernel_rfl) conj0 ?_ ?_
   ·have : a = b := eq_of_all [] (by omega) (fun j hj => hn j (by omega))
    simp [this]
   ·rfl
theorem refEqual_of (a b : Vl) (T : Bool) (hT : SpG g 30 [.c (.d (.sl 1 (rowsD a.rows))), .c (.d (.sl 1 (rowsD b.rows)))] [] (.c (.d (.b T))) []) :
  SpG g 19 [.agg [.d (.i a.kind), .d (.s (S a.s)), .d (.i a.dn), .d (.i a.ds), .d (.i a.n), .d (.sl 1 (strs a.cols)), .d (.sl 1 (rowsD a.rows))], .agg [.d (.i b.kind), .d (.s (S b.s)), .d (.i b.dn), .d (.i b.ds), .d (.i b.n), .d (.sl 1 (strs b.cols)), .d (.sl 1 (rowsD b.rows))]] [] (.c (.d (.b (eqK T a b)))) [] := by
 refine enterB 45 Tryz.func19 (by kernel_rfl) fun fr hG => ?_
 refine zR hG [(1, 31, .call (.c (.d (.b (decide ((a.cols) = (b.cols)))))) [] []), (1, 38, .call (.c (.d (.b T))) [] [])] [] (.c (.d (.b ((((((decide ((a.kind : Int) = b.kind)) && ((S a.s).toList == (S b.s).toList)) && (((a.dn : Int) == b.dn) && ((a.ds : Int) == b.ds))) && (decide ((a.n : Int) = b.n))) && (decide ((a.cols) = (b.cols)))) && T)))) [] (by kernel_rfl) (conjC (fun (hg1 : ((((decide ((a.kind : Int) = b.kind)) && ((S a.s).toList == (S b.s).toList)) && (((a.dn : Int) == b.dn) && ((a.ds : Int) == b.ds))) && (decide ((a.n : Int) = b.n))) = true) => ((refStrings_ok (a.cols) (b.cols) : SpG g _ _ _ _ _))) (conj1 (fun (hg1 : (((((decide ((a.kind : Int) = b.kind)) && ((S a.s).toList == (S b.s).toList)) && (((a.dn : Int) == b.dn) && ((a.ds : Int) == b.ds))) && (decide ((a.n : Int) = b.n))) && (decide ((a.cols) = (b.cols)))) = true) => ((hT : SpG g _ _ _ _ _))))) ?_ ?_
 ·simp only [S_beq]; rfl
 ·rfl
theorem refSameRows_nil : SpG g 30 [.c (.d (.sl 1 [])), .c (.d (.sl 1 []))] [] (.c (.d (.b true))) [] := by
 have h := refSameRows_nil' (g := g) [] [] rfl rfl
 exact h
theorem refEqualC (x y : Cl) : SpG g 19 [clArg x, clArg y] [] (.c (.d (.b (decide (x = y))))) [] := by
 have h := refEqual_of (g := g) x.toV y.toV _ refSameRows_nil
 have e : eqK true x.toV y.toV = decide (x = y) := by
  have := eqK_eq (a := x.toV) (b := y.toV)
  rw [show decide (x.toV.rows = y.toV.rows) = true from rfl] at this
  rw [this]; simp [toV_inj]
 rw [e] at h
 exact h
theorem refSameC_ok (a b : List Cl) : SpG g 67 [.c (.d (.sl 7 (rowD a))), .c (.d (.sl 7 (rowD b)))] [] (.c (.d (.b (decide (a = b))))) [] := refSameC_of a b refEqualC
theorem refSameRows_ok (a b : List (List Cl)) : SpG g 30 [.c (.d (.sl 1 (rowsD a))), .c (.d (.sl 1 (rowsD b)))] [] (.c (.d (.b (decide (a = b))))) [] := refSameRows_of a b refSameC_ok
theorem refEqual_ok (a b : Vl) : SpG g 19 [vArg a, vArg b] [] (.c (.d (.b (decide (a = b))))) [] := by
 have h := refEqual_of (g := g) a b _ (refSameRows_ok a.rows b.rows)
 rw [eqK_eq] at h
 exact h
end Go.Proofs.YtdejnaokkdndeaaGreatDoor
namespace Go.Proofs.YtdejnaokkdndeaaGreatDoor
open Go.RowKit Go.V
open Go.Eng (inR byteAt u8 bytesV)
end Go.Proofs.YtdejnaokkdndeaaGreatDoor
namespace Go.Proofs.YtdejnaokkdndeaaGreatDoor
open Go.RowKit Go.V
open Go.Eng (inR byteAt u8 bytesV)
variable {g : Gv}
end Go.Proofs.YtdejnaokkdndeaaGreatDoor
namespace Go.Proofs.YtdejnaokkdndeaaGreatDoor
open Go.RowKit Go.V
open Go.Eng (inR byteAt u8 bytesV)
variable {g : Gv}
end Go.Proofs.YtdejnaokkdndeaaGreatDoor
namespace Go.Proofs.YtdejnaokkdndeaaGreatDoor
open Go.RowKit Go.V
open Go.Eng (inR byteAt u8 bytesV)
variable {g : Gv}
end Go.Proofs.YtdejnaokkdndeaaGreatDoor
namespace Go.Proofs.YtdejnaokkdndeaaGreatDoor
open Go.RowKit Go.V
open Go.Eng (inR byteAt u8 bytesV)
variable {g : Gv}
end Go.Proofs.YtdejnaokkdndeaaGreatDoor
namespace Go.Proofs.YtdejnaokkdndeaaGreatDoor
open Go.RowKit Go.V
open Go.Eng (inR byteAt u8 bytesV)
variable {g : Gv}
def nxV (l : List Int) (k n : Int) : Int := if k ≥ l.length ∨ n < 1 then 0 else ((l.getD k.toNat 0).tmod n + n).tmod n
def nxK (l : List Int) (k n : Int) : Int := if k ≥ l.length ∨ n < 1 then k else k + 1
structure NumOk (l : List Int) (k : Int) : Prop where
 k0 : 0 ≤ k
 k1 : k ≤ l.length
 k2 : (l.length : Int) ≤ 9223372036854775807
theorem NumOk.next {l : List Int} {k : Int} (h : NumOk l k) (n : Int) : NumOk l (nxK l k n) := by
 have := h.k0; have := h.k1
 unfold nxK; split
 ·exact h
 ·exact ⟨by omega, by omega, h.k2⟩
theorem tmod_in {x n : Int} (hn : 1 ≤ n) : -n < x.tmod n ∧ x.tmod n < n :=
 ⟨Int.lt_tmod_of_pos x (by omega), Int.tmod_lt_of_pos x (by omega)⟩
theorem nxV_bd (l : List Int) (k : Int) {n : Int} (hn : 1 ≤ n) : 0 ≤ nxV l k n ∧ nxV l k n < n := by
 unfold nxV
 split
 ·omega
 ·have h1 := tmod_in (x := l.getD k.toNat 0) hn
  refine ⟨Int.tmod_nonneg _ (by omega), Int.tmod_lt_of_pos _ (by omega)⟩
theorem take_succ_strs {l : List (List UInt8)} {j : Nat} (h : j < l.length) : strs (l.take (j + 1)) = strs (l.take j) ++ [strD (l.getD j [])] := by
 simp only [strs]
 rw [List.take_add_one, List.map_append]
 simp [h]
def zq4 := And.intro @List.length_map.{0, 0} (And.intro @Go.Eng.inR.eq_1 (And.intro @intsD.eq_1 (@maxLen.eq_1)))
theorem next_ok (l : List Int) (k n : Int) (h : NumOk l k) (hn : n ≤ 1000000000000000001) :
  SpG g 39 [.c (.bx 0 0), .c (.d (.i n))] [(0, .box 53 [.d (.sl 1 (intsD l)), .d (.i k)])] (.c (.d (.i (nxV l k n)))) [(0, .box 53 [.d (.sl 1 (intsD l)), .d (.i (nxK l k n))])] := by
 have h0 := h.k0; have h1 := h.k1; have h2 := h.k2
 have hk1 : k + 1 - 1 = k := by omega
 have hb : 1 ≤ n → -n < (l.getD k.toNat 0).tmod n ∧ (l.getD k.toNat 0).tmod n < n := tmod_in
 refine enterB 43 Tryz.func39 (by kernel_rfl) fun fr hG => ?_
 refine zC hG [] [1, 0, 1] ((decide ((k : Int) ≥ ((intsD l).length : Int))) || (decide ((n : Int) < 1))) (⟨[(0, [], .c (.bx 0 0)), (1, [], .c (.d (.i n))), (4, [], .c (.d (.i 0)))], [(0, .box 53 [.d (.sl 1 (intsD l)), .d (.i k)])]⟩) (by kernel_rfl) conj0 (fun hc1 => ?_) (fun hc1 => ?_)
 ·(try simp only [blS, intsD, List.length_map] at hc1)
  refine zR hG [] [] (.c (.d (.i 0))) [(0, .box 53 [.d (.sl 1 (intsD l)), .d (.i k)])] (by kernel_rfl) conj0 ?_ ?_
  ·rw [nxV, if_pos hc1]
  ·rw [nxK, if_pos hc1]
 ·(try simp only [blS, intsD, List.length_map] at hc1)
  refine zR hG [(4, 9, .elem (intD ((l).getD ((k + 1) - 1 : Int).toNat 0)))] [] (.c (.d (.i (Int.tmod ((Int.tmod ((l).getD ((k + 1) - 1 : Int).toNat 0) n) + n) n)))) [(0, .box 53 [.d (.sl 1 (intsD l)), .d (.i (k + 1))])] (by kernel_rfl) (conjC (show inR (k + 1) from (by intros; (try rw [hk1]); (try simp only [zq4] at *); omega)) (conjC (show inR ((k + 1) - 1) from (by intros; (try rw [hk1]); (try simp only [zq4] at *); omega)) (conjC (show (0 : Int) ≤ ((k + 1) - 1) ∧ (intsD l)[((k + 1) - 1 : Int).toNat]? = some (intD ((l).getD ((k + 1) - 1 : Int).toNat 0)) from (by intros; exact map_at _ (by omega) (by (try simp only [intsD, List.length_map] at *); omega))) (conjC (show n ≠ (0 : Int) from (by intros; (try rw [hk1]); (try simp only [zq4] at *); omega)) (conjC (show inR ((Int.tmod ((l).getD ((k + 1) - 1 : Int).toNat 0) n) + n) from (by intros; (try rw [hk1]); (try simp only [zq4] at *); omega)) (conj1 (show n ≠ (0 : Int) from (by intros; (try rw [hk1]); (try simp only [zq4] at *); omega)))))))) ?_ ?_
  ·rw [nxV, if_neg (by omega), hk1]
  ·rw [nxK, if_neg (by omega)]
end Go.Proofs.YtdejnaokkdndeaaGreatDoor
