/- Part 37 of the proof: texts R7, Zu, D13, D14, R8, L4, R9, L5, R10, R11, R12, D15, G1, E3, E9, E10, Zr. -/
import Derived.Test.YtmpgfchkkemngaaGreatDoorP36
import Derived.Shelf.Strings.IndexAnyAll
import Derived.Stop.LaidErr
import Derived.Stop.ErrReads
import Derived.Deep.Matrix
set_option linter.all false
namespace Go.Proofs.YtmpgfchkkemngaaGreatDoor
open Go.RowKit Go.V
open Go.Eng (inR byteAt u8 bH)
variable {g : Gv}
theorem aCT (l : List UInt8) (hl : l.length < 4294967281) : SpG g 175 [.c (cS (S l)), .c (cS (S [44, 59, 93, 124]))] [] (.c (cI (Lib.indexAny l seps))) [] := by
 refine gP (args := [.string (S l), .string (S [44, 59, 93, 124])]) rfl rfl rfl fun w hG => ?_
 by_cases h : (S l).size ≤ 8
 have := Any.indexAny_short Tryz.lays153 (S l) w h
 rw [jF] at this
 exact this
 have hz := zero_of_info (P := Tryz.prog) (t := Tryz.lays153_ren.t 116) (n := 256) (v := .agg (Array.replicate 256 (.bool false))) (by kernel_rfl)
 have := Any.strings_IndexAny_long Tryz.lays153 hz.1 hz.2 (S l) (S [44, 59, 93, 124]) w (by decide) (by omega) (by rw [aF]; exact hl) (by decide) (by
  intro j b hj
  have hm : b ∈ [44, 59, 93, 124] := List.mem_of_getElem? hj
  simp only [List.mem_cons, List.not_mem_nil, or_false] at hm
  rcases hm with rfl | rfl | rfl | rfl <;> decide)
 rw [jF] at this
 refine this.mono ?_
 rintro e w' ⟨rfl, rfl⟩
 exact ⟨rfl, ((Below.refl _ w).alloc (Nat.le_refl _) _).alloc (by rw [World.size_alloc]; omega) _⟩
theorem aKF {f : FuncId} {ins : List SV} {out : SV} {args : List Value} (hi : rV ins = some args)
  (h : ∀ w : World, (∀ b cs, (b, cs) ∈ Gl g → ∃ ty fz, w.heap[b]? = some (.cells cs.toArray ty fz)) → Calls Tryz.prog f args.toArray w fun e w' => (∃ v, e = .returned v ∧ ∀ (w2 : World) (pl : Pl) (own : Own), bS w2 pl own out v) ∧ Below w.heap.size w w') : SpG g f ins [] out [] := by
 intro fr w pl vs hw hG m ha
 obtain ⟨hGl, _, _⟩ := hG
 rw [uU hi ha]
 refine Calls.mono (h w fun b cs hg => by rw [← hw]; exact (m.frOk.glob b cs (by rw [hGl]; exact hg)).1) ?_
 rintro e w' ⟨⟨v, rfl, hv⟩, hb⟩
 obtain ⟨m', L⟩ := m.ext (w' := w') ⟨hb.os, hb.tape, hb.output, hb.size, fun k hk _ => hb.block k hk⟩
 exact ⟨v, pl, rfl, m', hv _ _ _⟩
def jH (g : Gv) : Prop := (∃ a b, ((8 : Nat), [Value.iface a b]) ∈ Gl g) ∧ ∃ a b, ((9 : Nat), [Value.iface a b]) ∈ Gl g
def kH (l : List UInt8) : Int := match Lib.atoiAll l with
 | .ok v => v
 | Lib.NumEnd.syntax => 0
 | .range => Lib.atoiSat l
def lK (l : List UInt8) : Bool := match Lib.atoiAll l with
 | .ok _ => true
 | _ => false
theorem aDP {w w' : World} (h : w' = w ∨ ∃ t, w' = Lib.bytesWorld w 5 t) : Below w.heap.size w w' := by
 rcases h with rfl | ⟨t, rfl⟩
 exact Below.refl _ _
 exact ⟨rfl, rfl, rfl, by rw [Lib.bytesWorld_size]; omega, fun j hj => Lib.bytesWorld_at_old w 5 t j hj⟩
theorem aN0 (l : List UInt8) (hl : l.length ≤ 1000000000) (h : lK l = true) : SpG g 176 [.c (cS (S l))] [] (.tup [(false, [cI (kH l)]), (false, [.d (.v .nilIface)])]) [] := by
 refine gP (args := [.string (S l)]) rfl rfl rfl fun w hG => ?_
 unfold lK at h
 unfold kH
 split at h
 rename_i v hv
 rw [hv]
 refine (Tryz.strconv_Atoi_ok (S l) (by rw [aF]; omega) v (by rw [jF]; exact hv) w).mono ?_
 rintro e w' ⟨rfl, hb⟩
 exact ⟨rfl, aDP hb⟩
 cases h
theorem atoi_no (hE : jH g) (l : List UInt8) (hl : l.length ≤ 1000000000) (h : lK l = false) : SpG g 176 [.c (cS (S l))] [] (.tup [(false, [cI (kH l)]), (false, [.nn])]) [] := by
 refine aKF (args := [.string (S l)]) rfl fun w hG => ?_
 obtain ⟨⟨a, b, h8⟩, c, d, h9⟩ := hE
 obtain ⟨t8, z8, q8⟩ := hG _ _ h8
 obtain ⟨t9, z9, q9⟩ := hG _ _ h9
 have hok : ∀ (x : Int) (N : Nat) (w2 : World) (pl : Pl) (own : Own), bS w2 pl own (.tup [(false, [cI x]), (false, [.nn])]) (.tuple #[.int .i64 x, .iface 232 (.pointer (some ⟨N, 0, none⟩))]) := by
  intro x N w2 pl own
  exact ⟨[_, _], rfl, All2.cons (Rd.v _ rfl) (All2.cons ⟨_, _, rfl⟩ All2.nil)⟩
 unfold kH
 unfold lK at h
 split at h
 cases h
 rename_i hne
 match hv : Lib.atoiAll l with
 | .ok v => exact absurd hv (hne v)
 | Lib.NumEnd.syntax =>
  refine (Tryz.strconv_Atoi_syntax (S l) (by rw [aF]; omega) (by rw [jF]; exact hv) (.iface a b) w (by rw [Lib.cell_of_heap q8]; rfl) (.inr ⟨_, _, rfl⟩)).mono ?_
  rintro e w' ⟨N, rfl, _, _, hb⟩
  exact ⟨⟨_, rfl, hok _ _⟩, hb⟩
 | .range =>
  refine (Tryz.strconv_Atoi_range (S l) (by rw [aF]; omega) (by rw [jF]; exact hv) (.iface c d) w (by rw [Lib.cell_of_heap q9]; rfl) (.inr ⟨_, _, rfl⟩)).mono ?_
  rintro e w' ⟨N, rfl, _, _, hb⟩
  refine ⟨⟨_, rfl, ?_⟩, hb⟩
  rw [jF]; exact hok _ _
theorem pQ (l : List UInt8) (c : Int) : SpG g 177 [.c (cS (S l)), .c (.d (.y c))] [] (.c (cI (Lib.indexByte l c.toNat.toUInt8))) [] := by
 refine tW (args := [.string (S l), .int .u8 c]) rfl rfl rfl fun w => ?_
 have := Tryz.strings_IndexByte (S l) c w
 rw [jF] at this
 exact this.mono fun _ _ ⟨a, b⟩ => ⟨a, b.symm⟩
theorem aI4 (s p : List UInt8) (hs : s.length < 4294967281) : SpG g 119 [.c (cS (S s)), .c (cS (S p))] [] (.c (cI (Lib.index s p))) [] := by
 refine gP (args := [.string (S s), .string (S p)]) rfl rfl rfl fun w hG => ?_
 obtain ⟨ty, fz, h0⟩ := hG 0 [.int .i64 g.maxLen] (by simp [Gl])
 have := Tryz.strings_Index (S s) (S p) g.maxLen w (by rw [aF]; omega) (by rw [Lib.cell_of_heap h0]; rfl)
 rw [jF, jF] at this
 exact this.mono fun _ _ ⟨x, y⟩ => ⟨x, by rw [y]; exact Below.refl _ _⟩
def bJ (c : UInt8) : List UInt8 → Bool
 | x :: _ => decide (x = c)
 | [] => false
def aH (c : UInt8) : List UInt8 → List UInt8
 | x :: r => if x = c then r else x :: r
 | [] => []
theorem aGG {l : List UInt8} {c : UInt8} (h : l = [] ∨ ¬ byteAt (S l) 0 = (c.toNat : Int)) : bJ c l = false ∧ aH c l = l := by
 cases l with
 | nil => exact ⟨rfl, rfl⟩
 | cons x r =>
  rcases h with h | h
  cases h
  have hx : ¬ x = c := by
   rintro rfl
   exact h (cO (x :: r) 0)
  exact ⟨by simp [bJ, hx], by simp [aH, hx]⟩
theorem aBE {l : List UInt8} {c : UInt8} (h1 : ¬ l = []) (h : byteAt (S l) 0 = (c.toNat : Int)) : bJ c l = true ∧ aH c l = l.drop 1 := by
 cases l with
 | nil => exact absurd rfl h1
 | cons x r =>
  have hx : x = c := by
   have e : byteAt (S (x :: r)) 0 = (x.toNat : Int) := cO (x :: r) 0
   rw [e] at h
   exact UInt8.toNat_inj.1 (by omega)
  exact ⟨by simp [bJ, hx], by simp [aH, hx]⟩
theorem aH4 (c : UInt8) : seps.contains c = !(aN c) := by
 simp only [seps, aN, List.contains_cons, List.contains_nil, Bool.or_false]
 rw [Bool.eq_iff_iff]
 simp [or_assoc]
theorem rS : ∀ (l : List UInt8), (Lib.indexAny l seps < 0 ∧ l.takeWhile aN = l ∧ l.dropWhile aN = []) ∨ (0 ≤ Lib.indexAny l seps ∧ Lib.indexAny l seps ≤ l.length ∧ l.takeWhile aN = l.take (Lib.indexAny l seps).toNat ∧ l.dropWhile aN = l.drop (Lib.indexAny l seps).toNat)
 | [] => .inl ⟨by decide, rfl, rfl⟩
 | c :: l => by
  have ih := rS l
  have hc := aH4 c
  have hge := Lib.indexAny_ge seps l
  cases hn : aN c with
  | false =>
   rw [hn] at hc
   have e : Lib.indexAny (c :: l) seps = 0 := by rw [Lib.indexAny, hc]; rfl
   right
   rw [e]
   refine ⟨Int.le_refl _, by omega, ?_, ?_⟩
   rw [List.takeWhile_cons, hn]; rfl
   rw [List.dropWhile_cons, hn]; rfl
  | true =>
   rw [hn] at hc
   rcases ih with ⟨h1, h2, h3⟩ | ⟨h1, h2, h3, h4⟩
   have h0 : Lib.indexAny l seps = -1 := by omega
   have e : Lib.indexAny (c :: l) seps = -1 := by rw [Lib.indexAny, hc, h0]; rfl
   left
   rw [e]
   exact ⟨by decide, by rw [List.takeWhile_cons, hn, if_pos rfl, h2], by rw [List.dropWhile_cons, hn, if_pos rfl, h3]⟩
   have h0 : (Lib.indexAny l seps == -1) = false := by rw [beq_eq_false_iff_ne]; omega
   have e : Lib.indexAny (c :: l) seps = Lib.indexAny l seps + 1 := by
    rw [Lib.indexAny, hc, h0]; rfl
   right
   rw [e, show (Lib.indexAny l seps + 1).toNat = (Lib.indexAny l seps).toNat + 1 by omega]
   refine ⟨by omega, by rw [List.length_cons]; omega, ?_, ?_⟩
   rw [List.takeWhile_cons, hn, if_pos rfl, h3]; rfl
   rw [List.dropWhile_cons, hn, if_pos rfl, h4]; rfl
theorem s4 (l : List UInt8) : (l.takeWhile aN).length ≤ l.length := (List.takeWhile_sublist _).length_le
abbrev y35 (a0 : ByteArray) : Ob := .box 90 [cS a0]
theorem iA (l : List UInt8) (c : UInt8) :
  SpG g 63 [.c (.bx 0 0), .c (.d (.y c.toNat))] [(0, .box 90 [cS (S l)])] (.c (cB (bJ c l))) [(0, y35 (S (aH c l)))] := by
 refine aG 27 Tryz.func63 (by kernel_rfl) fun fr hG => ?_
 refine zC hG [] [1, 0, 1] (((S l).toList == (S []).toList) || (!decide ((byteAt (S l) 0 : Int) = c.toNat))) (⟨[zX 0 0 0, zB 4 false], [(0, .box 90 [cS (S l)])]⟩) (aB (by first | (intro h; rw [dY] at h; have := List.length_pos_iff.2 h; rw [aF]; omega) | (have := List.length_pos_iff.2 hc1.1; rw [aF]; omega) : ((S l).toList == (S []).toList) = false → (0 : Int) ≤ 0 ∧ 0 < ((S l).size : Int))) (fun hc1 => ?_) (fun hc1 => ?_)
 (try simp only [eR] at hc1)
 refine zR hG [] [] (.c (cB false)) [(0, .box 90 [cS (S l)])] aA ?_ ?_
 rw [(aGG hc1).1]
 rw [(aGG hc1).2]
 (try simp only [eR] at hc1)
 refine zR hG [] [] (.c (cB true)) [(0, y35 ((S l).extract 1 (S l).size))] (aB (by first | (intro h; rw [dY] at h; have := List.length_pos_iff.2 h; rw [aF]; omega) | (have := List.length_pos_iff.2 hc1.1; rw [aF]; omega) : (0 : Int) ≤ 1 ∧ (1 : Int) ≤ ((S l).size : Int) ∧ ((S l).size : Int) ≤ ((S l).size : Int))) ?_ ?_
 rw [(aBE hc1.1 hc1.2).1]
 rw [(aBE hc1.1 hc1.2).2, eI]
theorem mQ (l : List UInt8) (hl : l.length < 4294967281) :
  SpG g 128 [.c (.bx 0 0)] [(0, .box 90 [cS (S l)])] (.c (cS (S (l.takeWhile aN)))) [(0, y35 (S (l.dropWhile aN)))] := by
 have hw := rS l
 refine aG 33 Tryz.func128 (by kernel_rfl) fun fr hG => ?_
 refine zC hG [(1, 4, kI (Lib.indexAny (l) seps))] [1, 0, 1, 1] (decide ((Lib.indexAny (l) seps : Int) < 0)) (⟨[zX 0 0 0, zS 2 (S []), zI 3 (Lib.indexAny (l) seps)], [(0, .box 90 [cS (S l)])]⟩) (aB (aCT (l) hl : SpG g _ _ _ _ _)) (fun hc1 => ?_) (fun hc1 => ?_)
 (try simp only [eS] at hc1)
 refine zR hG [] [] (.c (cS ((S l).extract 0 ((S l).size)))) [(0, y35 ((S l).extract ((S l).size) (S l).size))] (aC (by intros; (try simp only [aF] at *); first | omega | decide : (0 : Int) ≤ 0 ∧ (0 : Int) ≤ ((S l).size : Int) ∧ ((S l).size : Int) ≤ ((S l).size : Int)) (aB (by intros; (try simp only [aF] at *); first | omega | decide : (0 : Int) ≤ ((S l).size : Int) ∧ (((S l).size : Int) : Int) ≤ ((S l).size : Int) ∧ ((S l).size : Int) ≤ ((S l).size : Int)))) ?_ ?_
 obtain ⟨h1, h2, h3⟩ : Lib.indexAny l seps < 0 ∧ l.takeWhile aN = l ∧ l.dropWhile aN = [] := by rcases hw with h | h <;> first | exact h | (exfalso; omega)
 rw [h2, aD1, aF]; simp
 obtain ⟨h1, h2, h3⟩ : Lib.indexAny l seps < 0 ∧ l.takeWhile aN = l ∧ l.dropWhile aN = [] := by rcases hw with h | h <;> first | exact h | (exfalso; omega)
 rw [h3, aD1, aF]; simp
 (try simp only [eS] at hc1)
 refine zR hG [] [] (.c (cS ((S l).extract 0 (Lib.indexAny (l) seps : Int).toNat))) [(0, y35 ((S l).extract (Lib.indexAny (l) seps : Int).toNat (S l).size))] (aC (by intros; (try simp only [aF] at *); first | omega | decide : (0 : Int) ≤ 0 ∧ (0 : Int) ≤ (Lib.indexAny (l) seps) ∧ (Lib.indexAny (l) seps) ≤ ((S l).size : Int)) (aB (by intros; (try simp only [aF] at *); first | omega | decide : (0 : Int) ≤ (Lib.indexAny (l) seps) ∧ (Lib.indexAny (l) seps : Int) ≤ ((S l).size : Int) ∧ ((S l).size : Int) ≤ ((S l).size : Int)))) ?_ ?_
 obtain ⟨h1, h2, h3, h4⟩ : 0 ≤ Lib.indexAny l seps ∧ Lib.indexAny l seps ≤ l.length ∧ l.takeWhile aN = l.take (Lib.indexAny l seps).toNat ∧ l.dropWhile aN = l.drop (Lib.indexAny l seps).toNat := by rcases hw with h | h <;> first | exact h | (exfalso; omega)
 rw [h3, aD1]; simp
 obtain ⟨h1, h2, h3, h4⟩ : 0 ≤ Lib.indexAny l seps ∧ Lib.indexAny l seps ≤ l.length ∧ l.takeWhile aN = l.take (Lib.indexAny l seps).toNat ∧ l.dropWhile aN = l.drop (Lib.indexAny l seps).toNat := by rcases hw with h | h <;> first | exact h | (exfalso; omega)
 rw [h4, eI]
theorem date_ok (l : List UInt8) (hl : l.length < 4294967281) :
  SpG g 133 [.c (.bx 0 0)] [(0, .box 90 [cS (S l)])] (.tup [(true, [cI 3, cS (S []), cI 0, cI 0, cI (eZ (l.takeWhile aN)), cN, cN]), (false, [cB (eG (l.takeWhile aN))])]) [(0, y35 (S (l.dropWhile aN)))] := by
 refine aG 15 Tryz.func133 (by kernel_rfl) fun fr hG => ?_
 exact zr hG [(1, 1, .callG (.c (cS (S (l.takeWhile aN)))) [0] [(0, y35 (S (l.dropWhile aN)))]), (1, 2, kC (y2 (eZ (l.takeWhile aN)) (eG (l.takeWhile aN))))] [] (aC (mQ l hl : SpG g _ _ _ _ _) (aB (aAJ (l.takeWhile aN) (Nat.lt_of_le_of_lt (s4 l) hl) : SpG g _ _ _ _ _)))
theorem aE1 (l : List UInt8) (hl : l.length < 4294967281) :
  SpG g 132 [.c (.bx 0 0)] [(0, .box 90 [cS (S l)])] (.tup [(true, [cI 2, cS (S []), cI (iZ (l.takeWhile aN)), cI (iY (l.takeWhile aN)), cI 0, cN, cN]), (false, [cB (gH (l.takeWhile aN))])]) [(0, y35 (S (l.dropWhile aN)))] := by
 refine aG 15 Tryz.func132 (by kernel_rfl) fun fr hG => ?_
 exact zr hG [(1, 1, .callG (.c (cS (S (l.takeWhile aN)))) [0] [(0, y35 (S (l.dropWhile aN)))]), (1, 2, kC (y6 (iZ (l.takeWhile aN)) (iY (l.takeWhile aN)) (gH (l.takeWhile aN))))] [] (aC (mQ l hl : SpG g _ _ _ _ _) (aB (aDC (l.takeWhile aN) (Nat.lt_of_le_of_lt (s4 l) hl) : SpG g _ _ _ _ _)))
abbrev y36 (a0 : Int) (a1 : Bool) : SV := .tup [(true, [cI 4, cS (S []), cI 0, cI 0, cI a0, cN, cN]), (false, [cB a1])]
theorem aNZ (l : List UInt8) (hl : l.length < 4294967281) :
  SpG g 134 [.c (.bx 0 0)] [(0, .box 90 [cS (S l)])] (y36 (Lib.index [48, 49] (l.takeWhile aN)) (decide ((l.takeWhile aN).length = 1))) [(0, y35 (S (l.dropWhile aN)))] := by
 refine aG 13 Tryz.func134 (by kernel_rfl) fun fr hG => ?_
 refine zR hG [(1, 1, .callG (.c (cS (S (l.takeWhile aN)))) [0] [(0, y35 (S (l.dropWhile aN)))]), (2, 1, kI (Lib.index [48, 49] (l.takeWhile aN)))] [] (y36 (Lib.index [48, 49] (l.takeWhile aN)) (decide ((((S (l.takeWhile aN)).size : Int) : Int) = 1))) [(0, y35 (S (l.dropWhile aN)))] (aC (mQ l hl : SpG g _ _ _ _ _) (aB (aI4 [48, 49] (l.takeWhile aN) (by decide) : SpG g _ _ _ _ _))) ?_ ?_
 have e : decide (((S (l.takeWhile aN)).size : Int) = 1) = decide ((l.takeWhile aN).length = 1) := by
  rw [aF]; apply decide_eq_decide.2; omega
 first | rw [e] | (rw [← e])
 rfl
theorem aC5 (hE : jH g) (l : List UInt8) (hl : l.length < 1000000000) (h : lK (l.takeWhile aN) = true) :
  SpG g 130 [.c (.bx 0 0)] [(0, .box 90 [cS (S l)])] (.tup [(true, [cI 0, cS (S []), cI 0, cI 0, cI (kH (l.takeWhile aN)), cN, cN]), (false, [cB true])]) [(0, y35 (S (l.dropWhile aN)))] := by
 refine aG 16 Tryz.func130 (by kernel_rfl) fun fr hG => ?_
 exact zr hG [(1, 1, .callG (.c (cS (S (l.takeWhile aN)))) [0] [(0, y35 (S (l.dropWhile aN)))]), (1, 2, kC (y19 (kH (l.takeWhile aN))))] [] (aC (mQ l (by omega) : SpG g _ _ _ _ _) (aB (aN0 (l.takeWhile aN) (by have := s4 l; omega) h : SpG g _ _ _ _ _)))
theorem aFJ (hE : jH g) (l : List UInt8) (hl : l.length < 1000000000) (h : lK (l.takeWhile aN) = false) :
  SpG g 130 [.c (.bx 0 0)] [(0, .box 90 [cS (S l)])] (.tup [(true, [cI 0, cS (S []), cI 0, cI 0, cI (kH (l.takeWhile aN)), cN, cN]), (false, [cB false])]) [(0, y35 (S (l.dropWhile aN)))] := by
 refine aG 16 Tryz.func130 (by kernel_rfl) fun fr hG => ?_
 exact zr hG [(1, 1, .callG (.c (cS (S (l.takeWhile aN)))) [0] [(0, y35 (S (l.dropWhile aN)))]), (1, 2, kC (.tup [(false, [cI (kH (l.takeWhile aN))]), (false, [.nn])]))] [] (aC (mQ l (by omega) : SpG g _ _ _ _ _) (aB (atoi_no hE (l.takeWhile aN) (by have := s4 l; omega) h : SpG g _ _ _ _ _)))
end Go.Proofs.YtmpgfchkkemngaaGreatDoor
namespace Go.Proofs.YtmpgfchkkemngaaGreatDoor
open Go.ChangeShapes Go.WideShapes Go.ChangeAt Go.RowKit Go.V
theorem aBC : "*" ++ "errors.errorString" = "*errors.errorString" := by decide
theorem aGK (u : TypeId) (h : Tryz.prog.typeName? 3 u = some "*errors.errorString") : u = 248 :=
 typeName_ptr_named (nm := "errors.errorString") (by rw [aBC]; kernel_rfl) (by kernel_rfl) (by decide) u (by rw [aBC]; exact h)
theorem aFM {W : World} {r : List (String × DataW Unit)} (h : laidMet Tryz.prog (("strconv.ErrSyntax", Rows.laid_strconv_ErrSyntax) :: r) W) : ∃ a b, ∃ ty fz, W.heap[8]? = some (.cells #[Value.iface a b] ty fz) := by
 obtain ⟨a, s, hv, _⟩ := laid_sentinel (g := 8) (ti := 82) (tp := 248) (te := 250) (ts := 9) h (by kernel_rfl) (by kernel_rfl) Tryz.underlying82 aGK (by kernel_rfl) Tryz.underlying250 rfl rfl (by kernel_rfl) (by kernel_rfl) (by kernel_rfl)
 obtain ⟨ty, fz, hb⟩ := mS (b := 8) (by kernel_rfl) hv
 exact ⟨_, _, ty, fz, hb⟩
theorem aJC {W : World} {r : List (String × DataW Unit)} (h : laidMet Tryz.prog (("strconv.ErrRange", Rows.laid_strconv_ErrRange) :: r) W) : ∃ a b, ∃ ty fz, W.heap[9]? = some (.cells #[Value.iface a b] ty fz) := by
 obtain ⟨a, s, hv, _⟩ := laid_sentinel (g := 9) (ti := 82) (tp := 248) (te := 250) (ts := 9) h (by kernel_rfl) (by kernel_rfl) Tryz.underlying82 aGK (by kernel_rfl) Tryz.underlying250 rfl rfl (by kernel_rfl) (by kernel_rfl) (by kernel_rfl)
 obtain ⟨ty, fz, hb⟩ := mS (b := 9) (by kernel_rfl) hv
 exact ⟨_, _, ty, fz, hb⟩
theorem startsE {W : World} (hS : W.ShapedOpen Tryz.prog) (hL : laidMetH Tryz.prog Rows.valueTextsUptoRow.laid W) : ∃ g : Gv, jH g ∧ aOD W g := by
 rw [MakeChecks.laidMetH_plain _ _ _ (by kernel_rfl)] at hL
 obtain ⟨n, h0⟩ := aIY hS
 have h2 := pow_of (laidMet.tail (laidMet.tail hL))
 obtain ⟨a9, b9, h9⟩ := aJC (laidMet.tail (laidMet.tail (laidMet.tail (laidMet.tail hL))))
 obtain ⟨a8, b8, h8⟩ := aFM (laidMet.tail (laidMet.tail (laidMet.tail (laidMet.tail (laidMet.tail hL)))))
 have h5 := lens_of (laidMet.tail (laidMet.tail (laidMet.tail (laidMet.tail (laidMet.tail (laidMet.tail hL))))))
 refine ⟨⟨n, [(8, [Value.iface a8 b8]), (9, [Value.iface a9 b9])]⟩, ⟨⟨a8, b8, by simp [Gl]⟩, a9, b9, by simp [Gl]⟩, fun b cs h => ?_⟩
 simp only [Gl, List.mem_cons, Prod.mk.injEq, List.not_mem_nil, or_false] at h
 rcases h with ⟨rfl, rfl⟩ | ⟨rfl, rfl⟩ | ⟨rfl, rfl⟩ | ⟨rfl, rfl⟩ | ⟨rfl, rfl⟩
 exact h0
 exact h2
 exact h5
 exact h8
 exact h9
section
variable {H : Type} {enc : TypeId × Value → H} {P : Program} {W : World}
theorem aBB {r : Reach} {b : Nat} {t : TypeId} {v : Value} (h : P.underlying t = some .string) (hc : Value.okWide P W r b t v) : ∃ s, v = .string s := by
 unfold Value.okWide at hc
 rw [h] at hc
 unfold Cell.okWide at hc
 rw [h] at hc
 unfold Cell.ok at hc
 rw [h] at hc
 cases v <;> simp at hc
 exact ⟨_, rfl⟩
theorem rd_str {b : Nat} {t : TypeId} {v : Value} {d : DataW H} {ps : List MemPlace} (ht : P.underlying t = some .string)
  (hval : Value.okWide P W .any b t v) (hd : DataW.Trod enc P W 0 (fun _ => true) true t v d ps) : ∃ l : List UInt8, bS W pl0 (lookO []) (.c (.d (.s (S l)))) v ∧ d = .lit (.string l) := by
 obtain ⟨fuel, hf⟩ := hd
 obtain ⟨s, rfl⟩ := aBB ht hval
 obtain ⟨s', h1, h2, _⟩ := DataW.trod_string ht hf
 have hs : s = s' := by
  have : [Value.string s] = [.string s'] := h1
  injection this with this
  injection this
 subst hs
 refine ⟨s.data.toList, ?_, by injection h2⟩
 have e : S s.data.toList = s := mk_data s
 rw [e]
 exact Rd.v _ rfl
theorem aN8 {n : Nat} {r : Reach} {b : Nat} {t e : TypeId} {v : Value} (ht : P.underlying t = some (.array n e)) (hc : P.cellsOf t = n) (hts : P.cellTypes P.depth t = some (List.replicate n e)) (he : P.underlying e = some (.int .i64)) (h : Value.okWide P W r b t v) :
  ∃ cs : List Value, v = .agg cs.toArray ∧ cs.length = n ∧ ∀ c, c ∈ cs → ∃ x, c = .int .i64 x := by
 unfold Value.okWide at h
 rw [ht] at h
 obtain ⟨cs, rfl, hs, ts, hts', _, hall⟩ := h
 obtain rfl := Option.some.inj (hts.symm.trans hts')
 rw [hc] at hs
 obtain ⟨l⟩ := cs
 refine ⟨l, rfl, by simpa using hs, fun c hcm => ?_⟩
 obtain ⟨i, hi, rfl⟩ := List.mem_iff_getElem.1 hcm
 obtain ⟨u, h0, k0⟩ := hall i l[i] (by simp [hi])
 have hu : u = e := by
  have hmem := List.mem_of_getElem? h0
  exact (List.mem_replicate.1 hmem).2
 subst hu
 exact aME he k0
theorem upto_witness {C : Checked} {os : Os} {f : FuncId} {fn : Func} {s : OpenSpec} {k : (H : Type) → List (DataW H) → Bool} (hk : s.cond = some k) {conds : List PathCond} {apart : Bool} {X : World → Array Value → Prop} (w0 : World) (args : Array Value) (fuel : Nat) (hos : w0.os = os)
  (hsh : (w0.forCall (fun _ _ => 0) ⟨#[], args, []⟩).Shaped C.prog)
  (hok : Input.okWideB C.prog (w0.forCall (fun _ _ => 0) ⟨#[], args, []⟩) f ⟨#[], args, []⟩ = true)
  (hpre : (match DataW.whole enc C.prog (w0.forCall (fun _ _ => 0) ⟨#[], args, []⟩).memory fn.params.toList s.vars apart args.toList fuel with
   | some x => conds.all (PathCond.test C.prog ⟨fn.params.toList, x.1, s.bare.plain.varTypes C.prog, x.2.1⟩) && k H (x.1 ++ x.2.1)
   | none => false) = true)
  (hsz : s.bare.sizedB enc C.prog fn apart (w0.forCall (fun _ _ => 0) ⟨#[], args, []⟩).memory args fuel = true)
  (hx : X (w0.forCall (fun _ _ => 0) ⟨#[], args, []⟩).memory args) :
  ∃ (w : World) (tape : Tape) (i : Input), w.os = os ∧ (w.forCall tape i).Shaped C.prog ∧ i.vars = [] ∧ Input.okWide C.prog (w.forCall tape i) .any w.heap.size f i ∧
   ((s.pre enc C.prog fn conds apart (w.forCall tape i).memory i.args ∧ X (w.forCall tape i).memory i.args) ∧ sizedMet enc C.prog fn s apart (w.forCall tape i).memory i.args) ∧ ({} : Assume).holds C.prog (lone (Frame.enter C.prog f i.args .normal) [] (w.forCall tape i)) := by
 refine ⟨w0, fun _ _ => 0, ⟨#[], args, []⟩, hos, hsh, (Input.okWide_of_okWideB (base := 0) hok).1, (Input.okWide_of_okWideB hok).2, ⟨⟨?_, hx⟩, sizedMet_of_sizedB hsz⟩, by
  simp only [Assume.holds]
  exact ⟨by simp, by simp, fun _ => Modest.zero, by simp, by simp⟩⟩
 split at hpre
 rename_i x hw
 rw [Bool.and_eq_true] at hpre
 exact (OpenSpec.pre_some hk conds apart _ _).2 ⟨x.1, x.2.1, x.2.2, DataW.Whole_of_whole hw, hpre.1, hpre.2⟩
 cases hpre
end
set_option maxRecDepth 100000 in
theorem rd_pair {W : World} {b : Nat} {v : Value} (h : Value.okWide Tryz.prog W .any b 44 v) : ∃ x y : Int, bS W pl0 (lookO []) (.agg [.d (.i x), .d (.i y)]) v := by
 obtain ⟨cs, rfl, hl, hall⟩ := aN8 (n := 2) (e := 3) (by kernel_rfl) (by kernel_rfl) (by kernel_rfl) (by kernel_rfl) h
 match cs, hl, hall with
 | [c0, c1], _, hall =>
  obtain ⟨x0, rfl⟩ := hall c0 (by simp)
  obtain ⟨x1, rfl⟩ := hall c1 (by simp)
  exact ⟨x0, x1, [_, _], rfl, All2.cons (Rd.v _ rfl) (All2.one (Rd.v _ rfl))⟩
end Go.Proofs.YtmpgfchkkemngaaGreatDoor
namespace Go.Proofs.YtmpgfchkkemngaaGreatDoor
open Go.RowKit Go.V
open Go.Eng (inR byteAt u8 bH)
variable {g : Gv}
theorem rH (v : Vl) (hf : v.fit) : SpG g 15 [qB v] [] (.c (cS (S (aW v)))) [] := sU lD rZ v hf
theorem decT_10 : bU 1 0 = [49] := by
 unfold bU
 rw [show (1 : Int).natAbs / 10 ^ (0 : Int).toNat = 1 from rfl, iV (by decide)]
 rfl
theorem nQ (l : List Vl) (hf : ∀ v, v ∈ l → v.fit) :
  SpG g 20 [.c (cM 7 (valsD l))] [] (.c (cS (S (aD l)))) [] := by
 refine aG 20 Tryz.func20 (by kernel_rfl) fun fr hG => ?_
 refine bN 0 rfl fun hl0 => ?_
 refine zC hG [] [1, 0, 1] (decide ((((valsD l).length : Int) : Int) > 8)) (⟨[zM 0 7 (valsD l), zS 2 (S [])], []⟩) aA (fun hc1 => ?_) (fun hc1 => ?_)
 (try simp only [zq3] at hc1)
 refine zR hG [] [] (.c (cS (S []))) [] aA ?_ ?_
 rw [nS (by omega)]
 rfl
 (try simp only [zq3] at hc1)
 refine zL hG [] [0, 1, 0, 1, 1] (fun (zz : Nat) => match zz with | k => (l.length - k, ⟨[zM 0 7 (valsD l), zS 2 (S []), zM 8 7 (valsD l), zI 9 ((valsD l).length : Int), zI 10 (k : Int)], []⟩, k ≤ l.length ∧ ∀ j, j < k → aU (l.getD j Vl.z) = true)) 0 aA ?_ ?_
 exact ⟨Nat.zero_le _, fun j hj => by omega⟩
 rintro k ⟨hk, hn⟩
 refine zc hG [] [0, 1] (decide (((k : Int) : Int) < ((valsD l).length : Int))) aA (fun hc3 => ?_) (fun hc3 => ?_)
 (try simp only [zq3] at hc3)
 refine zc hG [(5, 0, .elem (VlD ((l).getD k Vl.z))), (6, 1, kB (aU ((l).getD k Vl.z)))] [1, 1, 0, 0, 1, 1] (!(aU ((l).getD k Vl.z))) (aC (by intros; exact aY _ (by omega) (by (try simp only [zq6] at *); omega) : (0 : Int) ≤ (k : Int) ∧ (valsD l)[k]? = some (VlD ((l).getD k Vl.z))) (aB (o7 ((l).getD k Vl.z) (hf _ (bO (by omega))) : SpG g _ _ _ _ _))) (fun hc4 => ?_) (fun hc4 => ?_)
 (try simp only [zq3] at hc4)
 refine zE hG [] .ret (⟨[zM 0 7 (valsD l), zS 2 (S [])], []⟩) aA rfl ?_
 refine zR hG [] [] (.c (cS (S []))) [] aA ?_ ?_
 rw [o4 (k := k) (by omega) (by simpa using hc4)]
 rfl
 (try simp only [zq3] at hc4)
 refine zD hG [] (k + 1) (aB (by intros; (try simp only [inR, maxLen, valsD, List.length_map] at *); omega : inR ((k : Int) + 1))) ?_ ?_
 (try dsimp only); omega
 exact ⟨by omega, cU hn (by simpa using hc4)⟩
 (try simp only [zq3] at hc3)
 refine zE hG [] (.exit 0) (⟨[zM 0 7 (valsD l), zS 2 (S [])], []⟩) aA rfl ?_
 refine zR hG [(9, 1, kS (S (joinL [124] (l.map aW))))] [] (.c (cS (S (joinL [124] (l.map aW))))) [] (aB (aEA l [124] (by omega) (Nat.le_trans (wH (by omega)) (by decide)) hf lD rZ : SpG g _ _ _ _ _)) ?_ ?_
 rw [lW (by omega) (fun j hj => hn j (by omega))]
 rfl
theorem jK {v : Vl} (h : decide (v.s.length ≤ 1000) = true) (hc : v.cols = []) (hr : v.rows = []) : v.fit := by
 refine ⟨?_, ?_, ?_⟩
 simp only [decide_eq_true_eq] at h; unfold maxLen; omega
 rw [hc]; intro t ht; cases ht
 rw [hr]; intro t ht; cases ht
def exA : Vl := ⟨1, [97, 124, 98], 0, 0, 0, [], []⟩
def exB : Vl := ⟨2, [], 1, 0, 0, [], []⟩
theorem aMY : aW exA = [39, 97, 124, 98, 39] := by rw [aW, if_pos (by decide)]; rfl
theorem aMX : aW exB = [35, 49] := by
 have : aW exB = 35 :: bU 1 0 := by rw [aW, if_pos (by decide)]; rfl
 rw [this, decT_10]
theorem aMZ : ∀ v, v ∈ [exA, exB] → v.fit := by
 intro v hv
 simp only [List.mem_cons, List.not_mem_nil, or_false] at hv
 rcases hv with rfl | rfl
 exact jK (by decide) rfl rfl
 exact jK (by decide) rfl rfl
theorem xJ : aD [exA, exB] = [39, 97, 124, 98, 39, 124, 35, 49] := by
 rw [aD, if_pos (by decide), List.map_cons, List.map_cons, aMY, aMX]; rfl
theorem aBI : SpG g 20 [.c (cM 7 (valsD [exA, exB]))] [] (.c (cS (S [39, 97, 124, 98, 39, 124, 35, 49]))) [] := by
 rw [← xJ]; exact nQ _ aMZ
end Go.Proofs.YtmpgfchkkemngaaGreatDoor
namespace Go.Proofs.YtmpgfchkkemngaaGreatDoor
open Go.RowKit Go.V
open Go.Eng (inR byteAt u8 bH)
variable {g : Gv}
theorem iN (v : Vl) (r : List UInt8) (hf : v.fit) (h : aW v = r) : SpG g 15 [qB v] [] (.c (cS (S r))) [] := by
 rw [← h]; exact rH v hf
def ex1 : Vl := ⟨0, [], 0, 0, 18, [], []⟩
def ex2 : Vl := ⟨0, [], 0, 0, 0, [], []⟩
def ex3 : Vl := ⟨1, [105, 116, 39, 115], 0, 0, 0, [], []⟩
def ex4 : Vl := ⟨2, [], 35, 1, 0, [], []⟩
def ex5 : Vl := ⟨3, [], 0, 0, 0, [], []⟩
def ex6 : Vl := ⟨4, [], 0, 0, 1, [], []⟩
def exX : Cl := ⟨1, [120], 0, 0, 0⟩
def exY : Cl := ⟨2, [], 2, 0, 0⟩
def ex7 : Vl := ⟨5, [], 0, 0, 0, [[97], [98]], [[exX, exY]]⟩
theorem aM6 : aW ex1 = [33, 49, 56] := by rw [aW, if_pos (by decide)]; rfl
theorem aM5 : aW ex2 = [33, 48] := by rw [aW, if_pos (by decide)]; rfl
theorem aM4 : aW ex3 = [39, 105, 116, 39, 39, 115, 39] := by rw [aW, if_pos (by decide)]; rfl
theorem aM3 : aW ex4 = [35, 51, 46, 53] := by
 have e : aW ex4 = 35 :: bU 35 1 := by rw [aW, if_pos (by decide)]; rfl
 have h1 : bD (10 ^ (1 : Int).toNat + (35 : Int).natAbs % 10 ^ (1 : Int).toNat) = [49, 53] := by
  rw [show 10 ^ (1 : Int).toNat + (35 : Int).natAbs % 10 ^ (1 : Int).toNat = 15 from rfl, qS (by decide), show 15 / 10 = 1 from rfl, iV (by decide)]; rfl
 rw [e, bU, h1, show (35 : Int).natAbs / 10 ^ (1 : Int).toNat = 3 from rfl, iV (by decide)]
 rfl
theorem aM2 : aW ex5 = [64, 48, 48, 48, 49, 45, 48, 49, 45, 48, 49] := by
 have e : aW ex5 = 64 :: aR 0 := by rw [aW, if_pos (by decide)]; rfl
 have hc : civ 0 = (1, 1, 1) := vB ⟨by decide, by decide, by decide, by decide, by decide, by decide⟩ (by decide)
 rw [e, aR, hc]
 rfl
theorem aM1 : aW ex6 = [63, 49] := by rw [aW, if_pos (by decide)]; rfl
theorem aMR : bB exY = [35, 50] := by
 have e : bB exY = 35 :: bU 2 0 := rfl
 rw [e, bU, show (2 : Int).natAbs / 10 ^ (0 : Int).toNat = 2 from rfl, iV (by decide)]
 rfl
theorem aM0 : aW ex7 = [91, 97, 44, 98, 59, 39, 120, 39, 44, 35, 50, 93] := by
 have e : aW ex7 = [91] ++ joinL [44] [[97], [98]] ++ ([59 :: joinL [44] [bB exX, bB exY]]).flatten ++ [93] := by rw [aW, if_pos (by decide)]; rfl
 rw [e, aMR]
 rfl
theorem ex7_fit : ex7.fit := by
 refine ⟨by simp [ex7], ?_, ?_⟩
 have : ∀ t, t ∈ ex7.cols → t.length ≤ 1 := by decide
 intro t ht; have := this t ht; unfold maxLen; omega
 have : ∀ r, r ∈ ex7.rows → ∀ c, c ∈ r → c.s.length ≤ 1 := by decide
 intro r hr c hc; have := this r hr c hc; unfold maxLen; omega
end Go.Proofs.YtmpgfchkkemngaaGreatDoor
namespace Go.Proofs.YtmpgfchkkemngaaGreatDoor
open Go.RowKit Go.V
open Go.Eng (inR byteAt u8 bH)
variable {g : Gv}
def tqM : Nat → List UInt8 → List UInt8 → Bool × List UInt8 × List UInt8
 | 0, acc, r => (false, acc, r)
 | n + 1, acc, r =>
  if Lib.indexByte r 39 < 0 then (false, [], r)
  else if bJ 39 (r.drop ((Lib.indexByte r 39).toNat + 1)) then tqM n (acc ++ r.take (Lib.indexByte r 39).toNat ++ [39]) (aH 39 (r.drop ((Lib.indexByte r 39).toNat + 1)))
  else (true, acc ++ r.take (Lib.indexByte r 39).toNat, r.drop ((Lib.indexByte r 39).toNat + 1))
theorem cD (c : UInt8) (l : List UInt8) : (aH c l).length ≤ l.length := by
 cases l with
 | nil => exact Nat.le_refl _
 | cons x r =>
  by_cases h : x = c
  simp [aH, h]
  simp [aH, h]
theorem fJ {c : UInt8} {l : List UInt8} (h : bJ c l = false) : aH c l = l := by
 cases l with
 | nil => rfl
 | cons x r =>
  have hx : ¬ x = c := by simpa [bJ] using h
  simp [aH, hx]
theorem k4 : ∀ (l : List UInt8) (c : UInt8), -1 ≤ Lib.indexByte l c ∧ Lib.indexByte l c < l.length
 | [], c => ⟨Int.le_refl _, by show (-1 : Int) < 0; decide⟩
 | b :: l, c => by
  have ih := k4 l c
  unfold Lib.indexByte
  split
  simp only [List.length_cons]; omega
  split
  simp only [List.length_cons]; omega
  simp only [List.length_cons]; omega
theorem aKH (s : ByteArray) (l : List UInt8) (h : s = S l) (c : UInt8) : SpG g 63 [.c (.bx 0 0), .c (.d (.y c.toNat))] [(0, .box 90 [cS s])] (.c (cB (bJ c l))) [(0, y35 (S (aH c l)))] := by
 subst h; exact iA l c
theorem r6 {r : List UInt8} {i : Int} (h : 0 ≤ i) : (S r).extract (i + 1).toNat (S r).size = S (r.drop (i.toNat + 1)) := by
 rw [eI, show (i + 1).toNat = i.toNat + 1 by omega]
theorem aAG {es : List (List D)} {acc r : List UInt8} {k : Nat} (h : es = bytesD (S acc).data.toList) : es ++ bytesD ((S r).extract 0 k).data.toList = bytesD (S (acc ++ r.take k)).data.toList := by
 rw [h, jG, aZ, aZ, aZ, ← jB]; rfl
theorem aAF {acc r : List UInt8} {k : Nat} (h : acc = []) : bytesD ((S r).extract 0 k).data.toList = bytesD (S (acc ++ r.take k)).data.toList := by
 subst h; rw [jG]; rfl
theorem tq_step {n : Nat} {acc r : List UInt8} (h : r.length < n) : tqM n acc r = (if Lib.indexByte r 39 < 0 then (false, [], r)
  else if bJ 39 (r.drop ((Lib.indexByte r 39).toNat + 1)) then tqM (n - 1) (acc ++ r.take (Lib.indexByte r 39).toNat ++ [39]) (aH 39 (r.drop ((Lib.indexByte r 39).toNat + 1)))
  else (true, acc ++ r.take (Lib.indexByte r 39).toNat, r.drop ((Lib.indexByte r 39).toNat + 1))) := by
 cases n with
 | zero => omega
 | succ n => rfl
theorem es_39 {es : List (List D)} {a : List UInt8} (h : es = bytesD (S a).data.toList) : es ++ [[D.y 39]] = bytesD (S (a ++ [39])).data.toList := by
 rw [h, jC, jC, jB]; rfl
noncomputable def txO (es : List (List D)) (r : List UInt8) : Nat → bL
 | 0 => [(0, .box 90 [cS (S r)]), (100, y11), (200, y18)]
 | _ => [(0, .box 90 [cS (S r)]), (100, y11), (200, .box 80 [.bx 200 0, .ar 606 0]), (606, .arr 0 5 1 (es))]
def aAU := And.intro @List.length_append.{0} (And.intro @List.length_cons.{0} (And.intro @List.length_nil.{0} (@List.length_take.{0})))
abbrev y37 : SV := .tup [(true, [cI 0, cS (S []), cI 0, cI 0, cI 0, cN, cN]), (false, [cB false])]
theorem aJ9 (l : List UInt8) (hl : l.length < 1000000000) :
  SpG g 131 [.c (.bx 0 0)] [(0, .box 90 [cS (S l)])] (.tup [(true, [cI (if (tqM (l.length + 1) [] l).1 then 1 else 0), cS (S (tqM (l.length + 1) [] l).2.1), cI 0, cI 0, cI 0, cN, cN]), (false, [cB ((tqM (l.length + 1) [] l).1)])]) [(0, y35 (S (tqM (l.length + 1) [] l).2.2))] := by
 refine aG 37 Tryz.func131 (by kernel_rfl) fun fr hG => ?_
 refine zL hG [] [0, 1, 1] (fun (zz : Nat × Nat × List UInt8 × List UInt8 × List (List D)) => match zz with | (k, n, acc, r, es) => (r.length, ⟨[zX 0 0 0, zX 2 100 0, zB 3 false, zX 4 200 0], txO es r k⟩, k ≤ 1 ∧ (k = 0 → acc = []) ∧ r.length < n ∧ acc.length + r.length ≤ l.length + 1 ∧ tqM (l.length + 1) [] l = tqM n acc r ∧ (k = 1 → es = bytesD (S acc).data.toList))) (0, l.length + 1, [], l, []) aA ?_ ?_
 exact ⟨by omega, fun _ => rfl, by omega, by simp, rfl, by omega⟩
 rintro ⟨k, n, acc, r, es⟩ ⟨hk, hz, hrn, hal, hm, hes⟩
 have hib := k4 r 39
 have hsl := cD 39 (r.drop ((Lib.indexByte r 39).toNat + 1))
 rw [List.length_drop] at hsl
 have htl : (r.take (Lib.indexByte r 39).toNat).length ≤ (Lib.indexByte r 39).toNat := by rw [List.length_take]; omega
 have hst := tq_step (acc := acc) hrn
 rcases (by omega : k = 0 ∨ k = 1) with rfl | rfl
 skip
 refine zP hG [(2, 4, kI (Lib.indexByte r 39))] [1, 0, 1, 0] ((Lib.indexByte r 39 : Int) < 0) (⟨[zX 0 0 0, zX 2 100 0, zB 3 false, zX 4 200 0, zI 5 (Lib.indexByte r 39)], [(0, .box 90 [cS (S r)]), (100, y11), (200, y18)]⟩) (aB (pQ r 39 : SpG g _ _ _ _ _)) (fun hc2 => ?_) (fun hc2 => ?_)
 skip
 refine zE hG [] .ret (⟨[zX 2 100 0, zB 3 false], [(0, .box 90 [cS (S r)]), (100, y11)]⟩) aA rfl ?_
 refine zR hG [] [] (y37) [(0, .box 90 [cS (S r)])] aA ?_ ?_
 rw [hm, hst, if_pos hc2]; rfl
 rw [hm, hst, if_pos hc2]
 skip
 refine zC hG [(5, 6, .callG (y19 (((S r).extract 0 (Lib.indexByte r 39 : Int).toNat).size : Int)) [200] [(0, .box 80 [.bx 0 0, .ar 100 0]), (100, y20 (bytesD ((S r).extract 0 (Lib.indexByte r 39 : Int).toNat).data.toList))]), (7, 1, .callG (.c (cB (bJ 39 (r.drop ((Lib.indexByte r 39).toNat + 1))))) [0] [(0, y35 (S (aH 39 (r.drop ((Lib.indexByte r 39).toNat + 1)))))])] [1, 0, 1, 1, 1, 1, 0] (!(bJ 39 (r.drop ((Lib.indexByte r 39).toNat + 1)))) (⟨[zX 0 0 0, zX 2 100 0, zB 3 false, zX 4 200 0], [(0, y35 (S (aH 39 (r.drop ((Lib.indexByte r 39).toNat + 1))))), (100, y11), (200, .box 80 [.bx 200 0, .ar 606 0]), (606, y20 (bytesD ((S r).extract 0 (Lib.indexByte r 39 : Int).toNat).data.toList))]⟩) (aC (by intros; (try simp only [aF] at *); first | omega | (refine ⟨?_, ?_⟩ <;> omega) : (0 : Int) ≤ 0 ∧ (0 : Int) ≤ (Lib.indexByte r 39) ∧ (Lib.indexByte r 39) ≤ ((S r).size : Int)) (aC (oU ((S r).extract 0 (Lib.indexByte r 39 : Int).toNat) (by first | (rw [jG, aF]; simp only [aAU, List.drop_zero]; omega) | (rw [hes rfl, aI, aZ, jG, aF]; simp only [aAU, List.drop_zero]; omega)) : SpG g _ _ _ _ _) (aC (by intros; (try simp only [aF] at *); first | omega | (refine ⟨?_, ?_⟩ <;> omega) : inR ((Lib.indexByte r 39) + 1)) (aC (by intros; (try simp only [aF] at *); first | omega | (refine ⟨?_, ?_⟩ <;> omega) : (0 : Int) ≤ ((Lib.indexByte r 39) + 1) ∧ ((Lib.indexByte r 39) + 1 : Int) ≤ ((S r).size : Int) ∧ ((S r).size : Int) ≤ ((S r).size : Int)) (aB (aKH ((S r).extract ((Lib.indexByte r 39) + 1 : Int).toNat (S r).size) (r.drop ((Lib.indexByte r 39).toNat + 1)) (r6 (by omega)) 39 : SpG g _ _ _ _ _)))))) (fun hc3 => ?_) (fun hc3 => ?_)
 (try simp only [blS] at hc3)
 refine zE hG [(8, 0, .callG (.c (cS (S (acc ++ r.take (Lib.indexByte r 39).toNat)))) [200, 606] [(0, .box 80 [.bx 0 0, .any]), (1, y20 ([] : List (List D)))])] .ret (⟨[zX 2 100 0, zB 3 true], [(0, y35 (S (aH 39 (r.drop ((Lib.indexByte r 39).toNat + 1))))), (100, .box 30 [cI 1, cS (S (acc ++ r.take (Lib.indexByte r 39).toNat)), cI 0, cI 0, cI 0, cN, cN])]⟩) (aB (jR (bytesD ((S r).extract 0 (Lib.indexByte r 39 : Int).toNat).data.toList) (S (acc ++ r.take (Lib.indexByte r 39).toNat)) (by first | exact aAF (hz rfl) | exact aAG (hes rfl)) : SpG g _ _ _ _ _)) rfl ?_
 refine zR hG [] [] (.tup [(true, [cI 1, cS (S (acc ++ r.take (Lib.indexByte r 39).toNat)), cI 0, cI 0, cI 0, cN, cN]), (false, [cB true])]) [(0, y35 (S (aH 39 (r.drop ((Lib.indexByte r 39).toNat + 1)))))] aA ?_ ?_
 have e : tqM n acc r = (true, acc ++ r.take (Lib.indexByte r 39).toNat, r.drop ((Lib.indexByte r 39).toNat + 1)) := by rw [hst, if_neg hc2, hc3]; rfl
 rw [hm, e]; rfl
 have e : tqM n acc r = (true, acc ++ r.take (Lib.indexByte r 39).toNat, r.drop ((Lib.indexByte r 39).toNat + 1)) := by rw [hst, if_neg hc2, hc3]; rfl
 rw [hm, e, fJ hc3]
 (try simp only [blS] at hc3)
 refine zD hG [(9, 0, .callG (.c (.d (.v (.nilIface)))) [200, 606] [(0, y17), (1, y20 ((bytesD ((S r).extract 0 (Lib.indexByte r 39 : Int).toNat).data.toList) ++ [[D.y 39]]))])] (1, n - 1, acc ++ (r.take (Lib.indexByte r 39).toNat) ++ [39], aH 39 (r.drop ((Lib.indexByte r 39).toNat + 1)), (bytesD ((S r).extract 0 (Lib.indexByte r 39 : Int).toNat).data.toList) ++ [[D.y 39]]) (aB (sR (bytesD ((S r).extract 0 (Lib.indexByte r 39 : Int).toNat).data.toList) 39 (by first | (rw [aI, jG, aZ]; simp only [aAU, List.drop_zero]; omega) | (rw [List.length_append, hes rfl, aI, aI, jG, aZ, aZ]; simp only [aAU, List.drop_zero]; omega)) : SpG g _ _ _ _ _)) ?_ ?_
 (try dsimp only); omega
 refine ⟨by omega, by omega, by omega, by simp only [dB]; omega, ?_, fun _ => ?_⟩
 rw [hm, hst, if_neg hc2, if_pos hc3]
 exact es_39 (by first | exact aAF (hz rfl) | exact aAG (hes rfl))
 skip
 refine zP hG [(2, 4, kI (Lib.indexByte r 39))] [1, 0, 1, 0] ((Lib.indexByte r 39 : Int) < 0) (⟨[zX 0 0 0, zX 2 100 0, zB 3 false, zX 4 200 0, zI 5 (Lib.indexByte r 39)], [(0, .box 90 [cS (S r)]), (100, y11), (200, .box 80 [.bx 200 0, .ar 606 0]), (606, .arr 0 5 1 (es))]⟩) (aB (pQ r 39 : SpG g _ _ _ _ _)) (fun hc4 => ?_) (fun hc4 => ?_)
 skip
 refine zE hG [] .ret (⟨[zX 2 100 0, zB 3 false], [(0, .box 90 [cS (S r)]), (100, y11)]⟩) aA rfl ?_
 refine zR hG [] [] (y37) [(0, .box 90 [cS (S r)])] aA ?_ ?_
 rw [hm, hst, if_pos hc4]; rfl
 rw [hm, hst, if_pos hc4]
 skip
 refine zC hG [(5, 6, .callG (y19 (((S r).extract 0 (Lib.indexByte r 39 : Int).toNat).size : Int)) [200, 606] [(0, y17), (1, y20 ((es) ++ bytesD ((S r).extract 0 (Lib.indexByte r 39 : Int).toNat).data.toList))]), (7, 1, .callG (.c (cB (bJ 39 (r.drop ((Lib.indexByte r 39).toNat + 1))))) [0] [(0, y35 (S (aH 39 (r.drop ((Lib.indexByte r 39).toNat + 1)))))])] [1, 0, 1, 1, 1, 1, 0] (!(bJ 39 (r.drop ((Lib.indexByte r 39).toNat + 1)))) (⟨[zX 0 0 0, zX 2 100 0, zB 3 false, zX 4 200 0], [(0, y35 (S (aH 39 (r.drop ((Lib.indexByte r 39).toNat + 1))))), (100, y11), (200, .box 80 [.bx 200 0, .ar 606 0]), (606, y20 ((es) ++ bytesD ((S r).extract 0 (Lib.indexByte r 39 : Int).toNat).data.toList))]⟩) (aC (by intros; (try simp only [aF] at *); first | omega | (refine ⟨?_, ?_⟩ <;> omega) : (0 : Int) ≤ 0 ∧ (0 : Int) ≤ (Lib.indexByte r 39) ∧ (Lib.indexByte r 39) ≤ ((S r).size : Int)) (aC (kK (es) ((S r).extract 0 (Lib.indexByte r 39 : Int).toNat) (by first | (rw [jG, aF]; simp only [aAU, List.drop_zero]; omega) | (rw [hes rfl, aI, aZ, jG, aF]; simp only [aAU, List.drop_zero]; omega)) : SpG g _ _ _ _ _) (aC (by intros; (try simp only [aF] at *); first | omega | (refine ⟨?_, ?_⟩ <;> omega) : inR ((Lib.indexByte r 39) + 1)) (aC (by intros; (try simp only [aF] at *); first | omega | (refine ⟨?_, ?_⟩ <;> omega) : (0 : Int) ≤ ((Lib.indexByte r 39) + 1) ∧ ((Lib.indexByte r 39) + 1 : Int) ≤ ((S r).size : Int) ∧ ((S r).size : Int) ≤ ((S r).size : Int)) (aB (aKH ((S r).extract ((Lib.indexByte r 39) + 1 : Int).toNat (S r).size) (r.drop ((Lib.indexByte r 39).toNat + 1)) (r6 (by omega)) 39 : SpG g _ _ _ _ _)))))) (fun hc5 => ?_) (fun hc5 => ?_)
 (try simp only [blS] at hc5)
 refine zE hG [(8, 0, .callG (.c (cS (S (acc ++ r.take (Lib.indexByte r 39).toNat)))) [200, 606] [(0, .box 80 [.bx 0 0, .any]), (1, y20 ([] : List (List D)))])] .ret (⟨[zX 2 100 0, zB 3 true], [(0, y35 (S (aH 39 (r.drop ((Lib.indexByte r 39).toNat + 1))))), (100, .box 30 [cI 1, cS (S (acc ++ r.take (Lib.indexByte r 39).toNat)), cI 0, cI 0, cI 0, cN, cN])]⟩) (aB (jR ((es) ++ bytesD ((S r).extract 0 (Lib.indexByte r 39 : Int).toNat).data.toList) (S (acc ++ r.take (Lib.indexByte r 39).toNat)) (by first | exact aAF (hz rfl) | exact aAG (hes rfl)) : SpG g _ _ _ _ _)) rfl ?_
 refine zR hG [] [] (.tup [(true, [cI 1, cS (S (acc ++ r.take (Lib.indexByte r 39).toNat)), cI 0, cI 0, cI 0, cN, cN]), (false, [cB true])]) [(0, y35 (S (aH 39 (r.drop ((Lib.indexByte r 39).toNat + 1)))))] aA ?_ ?_
 have e : tqM n acc r = (true, acc ++ r.take (Lib.indexByte r 39).toNat, r.drop ((Lib.indexByte r 39).toNat + 1)) := by rw [hst, if_neg hc4, hc5]; rfl
 rw [hm, e]; rfl
 have e : tqM n acc r = (true, acc ++ r.take (Lib.indexByte r 39).toNat, r.drop ((Lib.indexByte r 39).toNat + 1)) := by rw [hst, if_neg hc4, hc5]; rfl
 rw [hm, e, fJ hc5]
 (try simp only [blS] at hc5)
 refine zD hG [(9, 0, .callG (.c (.d (.v (.nilIface)))) [200, 606] [(0, y17), (1, y20 (((es) ++ bytesD ((S r).extract 0 (Lib.indexByte r 39 : Int).toNat).data.toList) ++ [[D.y 39]]))])] (1, n - 1, acc ++ (r.take (Lib.indexByte r 39).toNat) ++ [39], aH 39 (r.drop ((Lib.indexByte r 39).toNat + 1)), ((es) ++ bytesD ((S r).extract 0 (Lib.indexByte r 39 : Int).toNat).data.toList) ++ [[D.y 39]]) (aB (sR ((es) ++ bytesD ((S r).extract 0 (Lib.indexByte r 39 : Int).toNat).data.toList) 39 (by first | (rw [aI, jG, aZ]; simp only [aAU, List.drop_zero]; omega) | (rw [List.length_append, hes rfl, aI, aI, jG, aZ, aZ]; simp only [aAU, List.drop_zero]; omega)) : SpG g _ _ _ _ _)) ?_ ?_
 (try dsimp only); omega
 refine ⟨by omega, by omega, by omega, by simp only [dB]; omega, ?_, fun _ => ?_⟩
 rw [hm, hst, if_neg hc4, if_pos hc5]
 exact es_39 (by first | exact aAF (hz rfl) | exact aAG (hes rfl))
end Go.Proofs.YtmpgfchkkemngaaGreatDoor
namespace Go.Proofs.YtmpgfchkkemngaaGreatDoor
open Go.RowKit Go.V
open Go.Eng (inR byteAt u8 bH)
noncomputable def aK (l : List UInt8) : Bool × Cl × List UInt8 := match l with
 | [] => (false, Cl.z, [])
 | x :: t =>
  if x = 33 then (lK (t.takeWhile aN), ⟨0, [], 0, 0, kH (t.takeWhile aN)⟩, t.dropWhile aN)
  else if x = 39 then ((tqM (t.length + 1) [] t).1, ⟨if (tqM (t.length + 1) [] t).1 then 1 else 0, (tqM (t.length + 1) [] t).2.1, 0, 0, 0⟩, (tqM (t.length + 1) [] t).2.2)
  else if x = 35 then (gH (t.takeWhile aN), ⟨2, [], iZ (t.takeWhile aN), iY (t.takeWhile aN), 0⟩, t.dropWhile aN)
  else if x = 64 then (eG (t.takeWhile aN), ⟨3, [], 0, 0, eZ (t.takeWhile aN)⟩, t.dropWhile aN)
  else if x = 63 then (decide ((t.takeWhile aN).length = 1), ⟨4, [], 0, 0, Lib.index [48, 49] (t.takeWhile aN)⟩, t.dropWhile aN)
  else (false, Cl.z, x :: t)
noncomputable def bM : Nat → Bool → List Cl → List UInt8 → Bool × List Cl × List UInt8
 | 0, _, acc, r => (true, acc, r)
 | n + 1, f, acc, r =>
  if f = true ∨ bJ 44 r = true then
   (if (aK (if f = true then r else aH 44 r)).1 = true then bM n false (acc ++ [(aK (if f = true then r else aH 44 r)).2.1]) (aK (if f = true then r else aH 44 r)).2.2 else (false, [], (aK (if f = true then r else aH 44 r)).2.2))
  else (false, [], r)
def aC6 (l : List UInt8) : Bool := match l with
 | [] => true
 | x :: _ => decide (x = 59) || decide (x = 93)
def eB : Nat → List (List UInt8) → List UInt8 → List (List UInt8) × List UInt8
 | 0, acc, r => (acc, r)
 | n + 1, acc, r =>
  if aC6 r = true then (acc, r)
  else if bJ 44 (r.dropWhile aN) = true then eB n (acc ++ [r.takeWhile aN]) (aH 44 (r.dropWhile aN))
  else (acc ++ [r.takeWhile aN], r.dropWhile aN)
noncomputable def gV : Nat → Nat → List (List Cl) → List UInt8 → Bool × List (List Cl) × List UInt8
 | 0, _, acc, r => (true, acc, r)
 | n + 1, k, acc, r =>
  if bJ 59 r = true then
   (if (bM k true [] (aH 59 r)).1 = true then gV n k (acc ++ [(bM k true [] (aH 59 r)).2.1]) (bM k true [] (aH 59 r)).2.2 else (false, [], (bM k true [] (aH 59 r)).2.2))
  else (true, acc, r)
noncomputable def d5 (l : List UInt8) : Bool × Vl × List UInt8 :=
 let c := eB (l.length + 1) [] l
 let q := gV (c.2.length + 1) c.1.length [] c.2
 if q.1 = true then (bJ 93 q.2.2, ⟨5, [], 0, 0, 0, c.1, q.2.1⟩, aH 93 q.2.2) else (false, Vl.z, q.2.2)
noncomputable def aJ (l : List UInt8) : Bool × Vl × List UInt8 :=
 if bJ 91 l = true then d5 (aH 91 l) else ((aK l).1, (aK l).2.1.toV, (aK l).2.2)
theorem aAH (l : List UInt8) : (l.dropWhile aN).length ≤ l.length := (List.dropWhile_sublist _).length_le
theorem aF7 : ∀ (n : Nat) (acc r : List UInt8), (tqM n acc r).2.2.length ≤ r.length ∧ (tqM n acc r).2.1.length ≤ acc.length + r.length
 | 0, acc, r => ⟨Nat.le_refl _, Nat.le_add_right _ _⟩
 | n + 1, acc, r => by
  have hib := k4 r 39
  have hsl := cD 39 (r.drop ((Lib.indexByte r 39).toNat + 1))
  have ih := aF7 n (acc ++ r.take (Lib.indexByte r 39).toNat ++ [39]) (aH 39 (r.drop ((Lib.indexByte r 39).toNat + 1)))
  have htl : (r.take (Lib.indexByte r 39).toNat).length ≤ (Lib.indexByte r 39).toNat := by rw [List.length_take]; omega
  rw [List.length_drop] at hsl
  simp only [dB] at ih
  unfold tqM
  split
  exact ⟨Nat.le_refl _, Nat.zero_le _⟩
  split
  exact ⟨by omega, by omega⟩
  exact ⟨by simp only [List.length_drop]; omega, by simp only [List.length_append]; omega⟩
theorem nL (l : List UInt8) : (aK l).2.2.length ≤ l.length ∧ (aK l).2.1.s.length ≤ l.length := by
 cases l with
 | nil => exact ⟨Nat.le_refl _, Nat.le_refl _⟩
 | cons x t =>
  have h1 := aAH t
  have h2 := aF7 (t.length + 1) [] t
  simp only [List.length_nil] at h2
  unfold aK
  simp only [List.length_cons]
  split
  exact ⟨by simp only; omega, Nat.zero_le _⟩
  split
  exact ⟨by simp only; omega, by simp only; omega⟩
  split
  exact ⟨by simp only; omega, Nat.zero_le _⟩
  split
  exact ⟨by simp only; omega, Nat.zero_le _⟩
  split
  exact ⟨by simp only; omega, Nat.zero_le _⟩
  exact ⟨by simp only [List.length_cons]; omega, Nat.zero_le _⟩
theorem tE (m : Nat) : ∀ (n : Nat) (f : Bool) (acc : List Cl) (r : List UInt8), r.length ≤ m → (∀ c, c ∈ acc → c.s.length ≤ m) → (bM n f acc r).2.2.length ≤ r.length ∧ (∀ c, c ∈ (bM n f acc r).2.1 → c.s.length ≤ m) ∧ (bM n f acc r).2.1.length ≤ acc.length + n
 | 0, f, acc, r, _, ha => ⟨Nat.le_refl _, ha, Nat.le_refl _⟩
 | n + 1, f, acc, r, hr, ha => by
  have h0 : (if f = true then r else aH 44 r).length ≤ r.length := by
   split
   exact Nat.le_refl _
   exact cD 44 r
  have h1 := nL (if f = true then r else aH 44 r)
  have ih := tE m n false (acc ++ [(aK (if f = true then r else aH 44 r)).2.1]) (aK (if f = true then r else aH 44 r)).2.2 (by omega) (fun c hc => by
   rcases List.mem_append.1 hc with h | h
   exact ha c h
   rw [List.mem_singleton] at h; subst h; omega)
  unfold bM
  by_cases q1 : f = true ∨ bJ 44 r = true
  rw [if_pos q1]
  generalize (if f = true then r else aH 44 r) = u at *
  by_cases q2 : (aK u).1 = true
  rw [if_pos q2]
  exact ⟨by omega, ih.2.1, by have := ih.2.2; simp only [dB] at this; omega⟩
  rw [if_neg q2]
  exact ⟨by simp only; omega, fun c hc => (by cases hc), Nat.zero_le _⟩
  rw [if_neg q1]
  exact ⟨Nat.le_refl _, fun c hc => (by cases hc), Nat.zero_le _⟩
theorem nJ (m : Nat) : ∀ (n : Nat) (acc : List (List UInt8)) (r : List UInt8), r.length ≤ m → (∀ t, t ∈ acc → t.length ≤ m) → (eB n acc r).2.length ≤ r.length ∧ (∀ t, t ∈ (eB n acc r).1 → t.length ≤ m) ∧ (eB n acc r).1.length ≤ acc.length + n
 | 0, acc, r, _, ha => ⟨Nat.le_refl _, ha, Nat.le_refl _⟩
 | n + 1, acc, r, hr, ha => by
  have h0 := aAH r
  have h1 := s4 r
  have h2 := cD 44 (r.dropWhile aN)
  have hm : ∀ t, t ∈ acc ++ [r.takeWhile aN] → t.length ≤ m := fun c hc => by
   rcases List.mem_append.1 hc with h | h
   exact ha c h
   rw [List.mem_singleton] at h; subst h; omega
  have ih := nJ m n (acc ++ [r.takeWhile aN]) (aH 44 (r.dropWhile aN)) (by omega) hm
  unfold eB
  split
  exact ⟨Nat.le_refl _, ha, by simp only; omega⟩
  split
  exact ⟨by omega, ih.2.1, by have := ih.2.2; simp only [dB] at this; omega⟩
  exact ⟨by simp only; omega, hm, by simp only [dB]; omega⟩
theorem wN (m : Nat) : ∀ (n k : Nat) (acc : List (List Cl)) (r : List UInt8), r.length ≤ m → (∀ x, x ∈ acc → ∀ c, c ∈ x → c.s.length ≤ m) → (gV n k acc r).2.2.length ≤ r.length ∧ (∀ x, x ∈ (gV n k acc r).2.1 → ∀ c, c ∈ x → c.s.length ≤ m)
 | 0, k, acc, r, _, ha => ⟨Nat.le_refl _, ha⟩
 | n + 1, k, acc, r, hr, ha => by
  have h0 := cD 59 r
  have h1 := tE m k true [] (aH 59 r) (by omega) (fun c hc => by cases hc)
  have ih := wN m n k (acc ++ [(bM k true [] (aH 59 r)).2.1]) (bM k true [] (aH 59 r)).2.2 (by omega) (fun x hx => by
   rcases List.mem_append.1 hx with h | h
   exact ha x h
   rw [List.mem_singleton] at h; subst h; exact h1.2.1)
  unfold gV
  split
  split
  exact ⟨by omega, ih.2⟩
  exact ⟨by simp only; omega, fun x hx => (by cases hx)⟩
  exact ⟨Nat.le_refl _, ha⟩
theorem nZ (l : List UInt8) (hl : l.length ≤ maxLen) : (aJ l).2.2.length ≤ l.length ∧ (aJ l).2.1.fit := by
 have h1 := cD 91 l
 unfold aJ
 split
 have h2 := nJ maxLen ((aH 91 l).length + 1) [] (aH 91 l) (by omega) (fun c hc => by cases hc)
 have h3 := wN maxLen ((eB ((aH 91 l).length + 1) [] (aH 91 l)).2.length + 1) (eB ((aH 91 l).length + 1) [] (aH 91 l)).1.length [] (eB ((aH 91 l).length + 1) [] (aH 91 l)).2 (by omega) (fun c hc => by cases hc)
 unfold d5
 dsimp only
 split
 have h4 := cD 93 (gV ((eB ((aH 91 l).length + 1) [] (aH 91 l)).2.length + 1) (eB ((aH 91 l).length + 1) [] (aH 91 l)).1.length [] (eB ((aH 91 l).length + 1) [] (aH 91 l)).2).2.2
 exact ⟨by simp only; omega, ⟨Nat.zero_le _, h2.2.1, h3.2⟩⟩
 exact ⟨by simp only; omega, ⟨Nat.zero_le _, fun t ht => (by cases ht), fun t ht => (by cases ht)⟩⟩
 have h2 := nL l
 exact ⟨by simp only; omega, ⟨by show (aK l).2.1.s.length ≤ maxLen; omega, fun t ht => (by cases ht), fun t ht => (by cases ht)⟩⟩
theorem no39 : ∀ {a : List UInt8}, (39 : UInt8) ∉ a → bT a = a
 | [], _ => rfl
 | c :: a, h => by
  have hc : ¬ c = 39 := fun e => h (by rw [e]; exact List.mem_cons_self)
  have ih := no39 (a := a) fun e => h (List.mem_cons_of_mem _ e)
  rw [show bT (c :: a) = mH c ++ bT a by simp [bT], ih, mH, if_neg hc]; rfl
theorem aM7 (a b : List UInt8) : bT (a ++ b) = bT a ++ bT b := by simp [bT]
theorem zT : ∀ {a : List UInt8} (t : List UInt8), (39 : UInt8) ∉ a → Lib.indexByte (a ++ 39 :: t) 39 = a.length
 | [], t, _ => by show Lib.indexByte (39 :: t) 39 = 0; rw [Lib.indexByte]; rfl
 | c :: a, t, h => by
  have hc : ¬ c = 39 := fun e => h (by rw [e]; exact List.mem_cons_self)
  have ih := zT (a := a) t fun e => h (List.mem_cons_of_mem _ e)
  rw [List.cons_append, Lib.indexByte, ih]
  simp [hc]
theorem tq_of : ∀ (n : Nat) (s acc r : List UInt8), (bT s ++ 39 :: r).length < n → kJ r → tqM n acc (bT s ++ 39 :: r) = (true, acc ++ s, r)
 | 0, s, acc, r, h, _ => absurd h (Nat.not_lt_zero _)
 | n + 1, s, acc, r, h, hr => by
  by_cases hm : (39 : UInt8) ∈ s
  obtain ⟨a, s', rfl, ha⟩ := List.eq_append_cons_of_mem hm
  have e : bT (a ++ 39 :: s') ++ 39 :: r = a ++ 39 :: (39 :: (bT s' ++ 39 :: r)) := by
   rw [aM7, no39 ha, show bT (39 :: s') = [39, 39] ++ bT s' by simp [bT, mH]]; simp
  have hi := zT (39 :: (bT s' ++ 39 :: r)) ha
  rw [e] at h ⊢
  rw [tqM, hi, if_neg (by omega), Int.toNat_natCast]
  have hd : (a ++ 39 :: (39 :: (bT s' ++ 39 :: r))).drop (a.length + 1) = 39 :: (bT s' ++ 39 :: r) := by
   rw [← List.drop_drop, List.drop_left]; rfl
  have ht : (a ++ 39 :: (39 :: (bT s' ++ 39 :: r))).take a.length = a := List.take_left
  rw [hd, ht, if_pos (by simp [bJ]), show aH 39 (39 :: (bT s' ++ 39 :: r)) = bT s' ++ 39 :: r by simp [aH]]
  rw [tq_of n s' _ r (by simp only [aJ3] at h ⊢; omega) hr]
  simp
  have hi := zT r hm
  rw [no39 hm] at h ⊢
  rw [tqM, hi, if_neg (by omega), Int.toNat_natCast]
  have hd : (s ++ 39 :: r).drop (s.length + 1) = r := by
   rw [← List.drop_drop, List.drop_left]; rfl
  have ht : (s ++ 39 :: r).take s.length = s := List.take_left
  have hk : bJ 39 r = false := by
   rcases hr with rfl | ⟨x, t, rfl, hx⟩
   rfl
   have : ¬ x = 39 := by rintro rfl; simp [aN] at hx
   simp [bJ, this]
  rw [hd, ht, if_neg (by rw [hk]; decide)]
theorem aJS {n : Int} (h0 : 0 ≤ n) (h1 : n ≤ 99) : lK (dec2 n) = true ∧ kH (dec2 n) = n := by
 have : ∀ k : Nat, k < 100 → (lK (dec2 (k : Int)) = true ∧ kH (dec2 (k : Int)) = (k : Int)) := by decide +kernel
 have h := this n.toNat (by omega)
 have e : ((n.toNat : Nat) : Int) = n := by omega
 rw [e] at h; exact h
theorem xT {n : Int} (h0 : 0 ≤ n) (h1 : n ≤ 99) : (dec2 n).all aN = true := by
 rw [pV h0 h1]; exact dU (fun c => g0) (dQ n.toNat).2
theorem vC {c : Cl} (hk : ¬ c.kind = 5) (h : aV false c.toV = true) {r : List UInt8} (hr : kJ r) : aK (bB c ++ r) = (true, c, r) := by
 obtain ⟨a1, a2, a3, _, a5, a6, a7, a8, a9, a10, _⟩ := dP h
 obtain ⟨k, s, dn, ds, n⟩ := c
 simp only [Cl.toV] at *
 unfold bB gD
 simp only
 have hk : k = 0 ∨ k = 1 ∨ k = 2 ∨ k = 3 ∨ k = 4 := by omega
 rcases hk with rfl | rfl | rfl | rfl | rfl
 have hn := a7 rfl
 have hw := e7 (xT hn.1 hn.2) hr
 have ha := aJS hn.1 hn.2
 simp only [if_true, List.cons_append, aK, hw.1, hw.2, ha.1, ha.2]
 have := a1 (by decide); have := a2 (by decide)
 simp_all
 have e : oA s ++ r = 39 :: (bT s ++ 39 :: r) := by simp [oA]
 have ht := tq_of ((bT s ++ 39 :: r).length + 1) s [] r (by omega) hr
 rw [List.nil_append] at ht
 simp only [show ¬ (1 : Int) = 0 by decide, if_false, if_true, e, aK, show ¬ (39 : UInt8) = 33 by decide, ht]
 have := a2 (by decide); have := a3 (by decide)
 simp_all
 have hb := a8 rfl
 have hd := fG hb
 have hw := e7 (xR (n := dn) hd.1) hr
 obtain ⟨h1, h2, h3⟩ := mJ hb rfl
 simp only [show ¬ (2 : Int) = 0 by decide, show ¬ (2 : Int) = 1 by decide, if_false, if_true, List.cons_append, aK, show ¬ (35 : UInt8) = 39 by decide, show ¬ (35 : UInt8) = 33 by decide, hw.1, hw.2, h1, h2, h3]
 have := a1 (by decide); have := a3 (by decide)
 simp_all
 have hn := a9 rfl
 have hw := e7 (nX hn.1 hn.2) hr
 obtain ⟨h1, h2⟩ := nG hn.1 hn.2 rfl
 simp only [show ¬ (3 : Int) = 0 by decide, show ¬ (3 : Int) = 1 by decide, show ¬ (3 : Int) = 2 by decide, if_false, if_true, List.cons_append, aK, show ¬ (64 : UInt8) = 39 by decide, show ¬ (64 : UInt8) = 33 by decide, show ¬ (64 : UInt8) = 35 by decide, hw.1, hw.2, h1, h2]
 have := a1 (by decide); have := a2 (by decide)
 simp_all
 have hn := a10 rfl
 have hw := e7 (xT (n := n) (by omega) (by omega)) hr
 have hx : (dec2 n).length = 1 ∧ Lib.index [48, 49] (dec2 n) = n := by
  rcases hn with rfl | rfl <;> decide +kernel
 simp only [show ¬ (4 : Int) = 0 by decide, show ¬ (4 : Int) = 1 by decide, show ¬ (4 : Int) = 2 by decide, show ¬ (4 : Int) = 3 by decide, if_false, List.cons_append, aK, show ¬ (63 : UInt8) = 39 by decide, show ¬ (63 : UInt8) = 33 by decide, show ¬ (63 : UInt8) = 35 by decide, show ¬ (63 : UInt8) = 64 by decide, hw.1, hw.2, hx.1, hx.2]
 have := a1 (by decide); have := a2 (by decide)
 simp_all
theorem eE (s : UInt8) : ∀ (x : List UInt8) (l : List (List UInt8)), joinL [s] (x :: l) = x ++ l.flatMap (fun y => s :: y)
 | x, [] => by simp [joinL]
 | x, y :: l => by rw [joinL, eE s y l]; simp
theorem dN (c : UInt8) (t : List UInt8) : bJ c (c :: t) = true ∧ aH c (c :: t) = t := by simp [bJ, aH]
theorem lA {s : UInt8} (hs : aN s = false) {r : List UInt8} (hr : kJ r) : ∀ (l : List (List UInt8)), kJ (l.flatMap (fun y => s :: y) ++ r)
 | [] => by simpa using hr
 | x :: l => lB (x := s) (t := x ++ l.flatMap (fun y => s :: y) ++ r) hs |> fun h => by simpa using h
theorem wR : ∀ (x acc : List Cl) (r : List UInt8), (∀ c, c ∈ x → v7 c) → kJ r → bM x.length false acc ((x.map bB).flatMap (fun y => 44 :: y) ++ r) = (true, acc ++ x, r)
 | [], acc, r, _, _ => by simp [bM]
 | c :: x, acc, r, hx, hr => by
  have hc := hx c (by simp)
  have e : ((c :: x).map bB).flatMap (fun y => 44 :: y) ++ r = 44 :: (bB c ++ ((x.map bB).flatMap (fun y => 44 :: y) ++ r)) := by simp
  have h1 := vC hc.1 hc.2 (lA (s := 44) rfl hr (x.map bB))
  have ih := wR x (acc ++ [c]) r (fun c hc => hx c (List.mem_cons_of_mem _ hc)) hr
  rw [e, List.length_cons, bM, (dN 44 _).1, if_pos (.inr rfl), if_neg (by decide : ¬ false = true), (dN 44 _).2, h1, if_pos rfl]
  simp only
  rw [ih]; simp
theorem rowA_of {x : List Cl} {r : List UInt8} (hx : ∀ c, c ∈ x → v7 c) (hr : kJ r) : bM x.length true [] (joinL [44] (x.map bB) ++ r) = (true, x, r) := by
 cases x with
 | nil => simp [bM, joinL]
 | cons c x =>
  have hc := hx c (by simp)
  have h1 := vC hc.1 hc.2 (lA (s := 44) rfl hr (x.map bB))
  have h2 := wR x [c] r (fun c hc => hx c (List.mem_cons_of_mem _ hc)) hr
  rw [List.map_cons, eE, List.append_assoc, List.length_cons, bM, if_pos (.inl rfl), if_pos rfl, h1, if_pos rfl]
  simp only [List.nil_append]
  rw [h2]; rfl
theorem aBH : ∀ (n k : Nat) (a acc : List (List Cl)) (r : List UInt8), a.length < n → (∀ x, x ∈ a → x.length = k ∧ ∀ c, c ∈ x → v7 c) → gV n k acc (a.flatMap fP ++ 93 :: r) = (true, acc ++ a, 93 :: r)
 | 0, _, _, _, _, h, _ => absurd h (Nat.not_lt_zero _)
 | n + 1, k, [], acc, r, _, _ => by
  rw [List.flatMap_nil, List.nil_append, gV, if_neg (by simp [bJ])]; simp
 | n + 1, k, x :: a, acc, r, h, ha => by
  have hends : kJ (a.flatMap fP ++ 93 :: r) := by
   cases a with
   | nil => exact lB rfl
   | cons z q => exact lB (x := 59) rfl
  have e : (x :: a).flatMap fP ++ 93 :: r = 59 :: (joinL [44] (x.map bB) ++ (a.flatMap fP ++ 93 :: r)) := by simp [fP]
  have h1 := rowA_of (ha x (by simp)).2 hends
  rw [(ha x (by simp)).1] at h1
  have ih := aBH n k a (acc ++ [x]) r (by simp only [List.length_cons] at h; omega) (fun y hy => ha y (List.mem_cons_of_mem _ hy))
  rw [e, gV, (dN 59 _).1, if_pos rfl, (dN 59 _).2, h1, if_pos rfl]
  simp only
  rw [ih]; simp
theorem aLM {c : UInt8} (h : aN c = true) (t : List UInt8) : aC6 (c :: t) = false := by
 simp only [aN, Bool.not_eq_true', Bool.or_eq_false_iff, beq_eq_false_iff_ne, ne_eq] at h
 simp [aC6, h.1.1.2, h.1.2]
theorem vA : ∀ (n : Nat) (x : List UInt8) (a acc : List (List UInt8)) (r : List UInt8), a.length < n → (∀ t, t ∈ x :: a → bW t = true) → EndsT r → eB n acc (x ++ (a.flatMap (fun y => 44 :: y) ++ r)) = (acc ++ x :: a, r)
 | 0, _, _, _, _, h, _, _ => absurd h (Nat.not_lt_zero _)
 | n + 1, x, a, acc, r, h, ha, hr => by
  obtain ⟨hx, c, t, hc, hn⟩ := oG (ha x (by simp))
  have hw := e7 hx (lA (s := 44) rfl hr.w a)
  have he : aC6 (x ++ (a.flatMap (fun y => 44 :: y) ++ r)) = false := by rw [hc]; exact aLM hn _
  rw [eB, he, if_neg (by decide : ¬ false = true), hw.1, hw.2]
  cases a with
  | nil =>
   obtain ⟨z, s, rfl, hz⟩ := hr
   have : ¬ z = 44 := by rcases hz with rfl | rfl <;> decide
   rw [List.flatMap_nil, List.nil_append, if_neg (by simp [bJ, this])]
  | cons y a =>
   have ih := vA n y a (acc ++ [x]) r (by simp only [List.length_cons] at h; omega) (fun t ht => ha t (List.mem_cons_of_mem _ ht)) hr
   have e : (y :: a).flatMap (fun y => 44 :: y) ++ r = 44 :: (y ++ (a.flatMap (fun y => 44 :: y) ++ r)) := by simp
   rw [e, (dN 44 _).1, if_pos rfl, (dN 44 _).2, ih]; simp
theorem aNO {n : Nat} {a : List (List UInt8)} {r : List UInt8} (h : a.length < n) (ha : ∀ t, t ∈ a → bW t = true) (hr : EndsT r) : eB n [] (joinL [44] a ++ r) = (a, r) := by
 cases a with
 | nil =>
  obtain ⟨z, s, rfl, hz⟩ := hr
  cases n with
  | zero => exact absurd h (Nat.not_lt_zero _)
  | succ n =>
   rw [joinL, List.nil_append, eB, if_pos (by rcases hz with rfl | rfl <;> rfl)]
 | cons x a => rw [eE, List.append_assoc, vA n x a [] r (by simp only [List.length_cons] at h; omega) ha hr]; rfl
theorem aAB {α : Type} {f : α → List UInt8} (hf : ∀ x, 1 ≤ (f x).length) : ∀ (l : List α), l.length ≤ (l.flatMap f).length
 | [] => Nat.le_refl _
 | x :: l => by have := aAB hf l; have := hf x; simp only [aJ3, List.flatMap_cons]; omega
theorem aMA {a : List (List UInt8)} (s : UInt8) (h : ∀ t, t ∈ a → 1 ≤ t.length) : a.length ≤ (joinL [s] a).length := by
 cases a with
 | nil => exact Nat.zero_le _
 | cons x a =>
  have h1 := h x (by simp)
  have h2 := aAB (f := fun y : List UInt8 => s :: y) (fun x => by simp) a
  rw [eE]; simp only [aJ3]; omega
theorem wF {v : Vl} (hv : aU v = true) {r : List UInt8} (hr : kJ r) : aJ (cG v ++ r) = (true, v, r) := by
 by_cases hk : v.kind = 5
 obtain ⟨a1, a2, a3, _, _, _, _, _, _, _, a11⟩ := dP hv
 obtain ⟨na, ra⟩ := lS (a11 hk)
 have hT : EndsT (v.rows.flatMap fP ++ 93 :: r) := by
  cases v.rows with
  | nil => exact ⟨93, _, rfl, .inr rfl⟩
  | cons z q => exact ⟨59, _, rfl, .inl rfl⟩
 rw [iO hk hv, aJ, (dN 91 _).1, if_pos rfl, (dN 91 _).2, d5]
 have hn : v.cols.length < (joinL [44] v.cols ++ (v.rows.flatMap fP ++ 93 :: r)).length + 1 := by
  have := aMA (a := v.cols) 44 (fun t ht => by
   obtain ⟨_, c, u, h, _⟩ := oG (na t ht); rw [h]; simp)
  simp only [List.length_append]; omega
 rw [aNO hn na hT]
 have hm : v.rows.length < (v.rows.flatMap fP ++ 93 :: r).length + 1 := by
  have := aAB (f := fP) (fun x => by simp [fP]) v.rows
  simp only [List.length_append]; omega
 dsimp only
 rw [aBH _ _ v.rows [] r hm ra]
 simp only [List.nil_append, if_true, (dN 93 _).1, (dN 93 _).2]
 obtain ⟨k, s, dn, ds, n, cols, rows⟩ := v
 simp only at a1 a2 a3 hk
 subst hk
 have := a1 (by decide); have := a2 (by decide); have := a3 (by decide)
 simp_all
 obtain ⟨h1, h2, h3⟩ := l6 hk hv
 obtain ⟨x, t, h4, h5⟩ := aJM (c := v.cl) hk
 have hs : bJ 91 (cG v ++ r) = false := by rw [h3, h4]; simp [bJ, h5]
 rw [aJ, hs, if_neg (by decide : ¬ false = true), h3, vC h2.1 h2.2 hr, h1]
noncomputable def bP (s : List UInt8) : Bool := (aJ s).1 && decide ((aJ s).2.2 = []) && aU (aJ s).2.1 && decide (aW (aJ s).2.1 = s)
noncomputable def bK (s : List UInt8) : Vl := if bP s = true then (aJ s).2.1 else Vl.z
theorem tQ {s : List UInt8} {v : Vl} (hv : aU v = true) (e : aW v = s) : bP s = true ∧ bK s = v := by
 have e2 : cG v = s := by rw [← e, aW, if_pos hv]
 have h := wF hv (r := []) (.inl rfl)
 rw [List.append_nil, e2] at h
 have hk : bP s = true := by rw [bP, h]; simp [hv, e]
 exact ⟨hk, by rw [bK, if_pos hk, h]⟩
theorem yT {s : List UInt8} (h : bP s = true) : aU (bK s) = true ∧ aW (bK s) = s := by
 have hv : bK s = (aJ s).2.1 := by rw [bK, if_pos h]
 simp only [bP, Bool.and_eq_true, decide_eq_true_eq] at h
 rw [hv]; exact ⟨h.1.2, h.2⟩
end Go.Proofs.YtmpgfchkkemngaaGreatDoor
namespace Go.Proofs.YtmpgfchkkemngaaGreatDoor
open Go.RowKit Go.V
open Go.Eng (inR byteAt u8 bH)
variable {g : Gv}
def aL0 : List (List (Option Nat)) → List (Bool × List C) → List (Bool × List C)
 | m :: ms, p :: ps => (p.1, l9 m p.2) :: aL0 ms ps
 | _, ps => ps
theorem aIZ {m : List (Option Nat)} {c : C} : l9 m [c] = [c] ∨ ∃ q, l9 m [c] = [aCK q c] := by
 cases m with
 | nil => exact .inl rfl
 | cons q m =>
  right
  refine ⟨q, ?_⟩
  cases m <;> rfl
theorem aCI {own : Own} {w : World} {pl : Pl} : ∀ {ms : List (List (Option Nat))} {ps : List (Bool × List C)} {vs : List Value}, All2 (dW w pl own) ps vs → All2 (dW w pl own) (aL0 ms ps) vs
 | [], ps, vs, h => by cases ps <;> exact h
 | m :: ms, [], vs, h => h
 | m :: ms, p :: ps, vs, h => by
  obtain ⟨y, r, rfl, h1, h2⟩ := h.uncons
  refine All2.cons ?_ (aCI h2)
  obtain ⟨b, cs⟩ := p
  cases b with
  | true =>
   obtain ⟨us, rfl, h3⟩ := h1
   exact ⟨us, rfl, j4 h3⟩
  | false =>
   cases cs with
   | nil => exact h1.elim
   | cons c cs =>
    cases cs with
    | cons _ _ => exact h1.elim
    | nil =>
     rcases aIZ (m := m) (c := c) with e | ⟨q, e⟩
     show dW w pl own (false, l9 m [c]) y
     rw [e]; exact h1
     show dW w pl own (false, l9 m [c]) y
     rw [e]; exact uB h1
theorem fV {f : FuncId} {ins : List SV} {refs : bL} {ps : List (Bool × List C)} {post : bL} (ms : List (List (Option Nat))) (h : SpG g f ins refs (.tup ps) post) : SpG g f ins refs (.tup (aL0 ms ps)) post := by
 intro fr w pl args hw hG m ha
 refine (h fr w pl args hw hG m ha).mono ?_
 rintro e w' ⟨v, pl', rfl, m', hv⟩
 obtain ⟨vs, rfl, h2⟩ := hv
 exact ⟨_, pl', rfl, m', vs, rfl, aCI h2⟩
theorem s8 {f : FuncId} {ins : List SV} {out : SV} {post : bL} {s s' : ByteArray} (e : s = s') (h : SpG g f ins [(0, .box 90 [cS s'])] out post) : SpG g f ins [(0, .box 90 [cS s])] out post := by subst e; exact h
theorem oS (x : UInt8) (t : List UInt8) : (S (x :: t)).extract 1 (S (x :: t)).size = S t := by rw [eI]; rfl
theorem aFI (hE : jH g) (l : List UInt8) (hl : l.length < 1000000000) : SpG g 130 [.c (.bx 0 0)] [(0, .box 90 [cS (S l)])] (.tup [(true, [cI 0, cS (S []), cI 0, cI 0, cI (kH (l.takeWhile aN)), cN, cN]), (false, [cB (lK (l.takeWhile aN))])]) [(0, y35 (S (l.dropWhile aN)))] := by
 cases h : lK (l.takeWhile aN) with
 | true => exact aC5 hE l hl h
 | false => exact aFJ hE l hl h
theorem no_key {n : Int} {a b c d e : C} (h : n ≠ 33 ∧ n ≠ 39 ∧ n ≠ 35 ∧ n ≠ 64 ∧ n ≠ 63) : ∀ x ∈ ([(33, a), (39, b), (35, c), (64, d), (63, e)] : List (Int × C)), n ≠ x.1 := by
 obtain ⟨h1, h2, h3, h4, h5⟩ := h
 intro x hx
 simp only [List.mem_cons, List.not_mem_nil, or_false] at hx
 rcases hx with rfl | rfl | rfl | rfl | rfl <;> assumption
theorem vD {x : UInt8} {t : List UInt8} (h : ¬ x = 33 ∧ ¬ x = 39 ∧ ¬ x = 35 ∧ ¬ x = 64 ∧ ¬ x = 63) : aK (x :: t) = (false, Cl.z, x :: t) := by
 obtain ⟨h1, h2, h3, h4, h5⟩ := h
 simp only [aK, if_neg h1, if_neg h2, if_neg h3, if_neg h4, if_neg h5]
theorem gI (x : UInt8) (t : List UInt8) : byteAt (S (x :: t)) 0 = (x.toNat : Int) := cO (x :: t) 0
theorem aIR {x : UInt8} {t : List UInt8} (h : ¬ x = 33 ∧ ¬ x = 39 ∧ ¬ x = 35 ∧ ¬ x = 64 ∧ ¬ x = 63) : byteAt (S (x :: t)) 0 ≠ 33 ∧ byteAt (S (x :: t)) 0 ≠ 39 ∧ byteAt (S (x :: t)) 0 ≠ 35 ∧ byteAt (S (x :: t)) 0 ≠ 64 ∧ byteAt (S (x :: t)) 0 ≠ 63 := by
 obtain ⟨h1, h2, h3, h4, h5⟩ := h
 have q : ∀ y : UInt8, ¬ x = y → byteAt (S (x :: t)) 0 ≠ (y.toNat : Int) := fun y hy e => hy (by rw [gI] at e; exact UInt8.toNat_inj.1 (by omega))
 exact ⟨q 33 h1, q 39 h2, q 35 h3, q 64 h4, q 63 h5⟩
theorem n7 {n : Nat} {acc : List Cl} {r : List UInt8} (h : 0 < n) : bM n true acc r = (if (aK r).1 = true then bM (n - 1) false (acc ++ [(aK r).2.1]) (aK r).2.2 else (false, [], (aK r).2.2)) := by
 obtain ⟨m, rfl⟩ : ∃ m, n = m + 1 := ⟨n - 1, by omega⟩
 rw [bM, if_pos (.inl rfl), if_pos rfl]; rfl
theorem jW {n k : Nat} {acc : List Cl} {r : List UInt8} (h : k < n) : bM (n - k) false acc r = (if bJ 44 r = true then (if (aK (aH 44 r)).1 = true then bM (n - (k + 1)) false (acc ++ [(aK (aH 44 r)).2.1]) (aK (aH 44 r)).2.2 else (false, [], (aK (aH 44 r)).2.2)) else (false, [], r)) := by
 obtain ⟨m, hm⟩ : ∃ m, n - k = m + 1 := ⟨n - k - 1, by omega⟩
 rw [hm, bM, show n - (k + 1) = m by omega]
 simp
theorem o6 {n k : Nat} {f : Bool} {acc : List Cl} {r : List UInt8} (h : ¬ k < n) : bM (n - k) f acc r = (true, acc, r) := by
 rw [show n - k = 0 by omega, bM]
theorem rowA_no {n : Nat} {f : Bool} {acc : List Cl} {r : List UInt8} : (bM n f acc r).1 = false → (bM n f acc r).2.1 = [] := by
 induction n generalizing f acc r with
 | zero => intro h; cases h
 | succ n ih =>
  unfold bM
  by_cases q1 : f = true ∨ bJ 44 r = true
  rw [if_pos q1]
  generalize (if f = true then r else aH 44 r) = u
  by_cases q2 : (aK u).1 = true
  rw [if_pos q2]; exact ih
  rw [if_neg q2]; intro _; rfl
  rw [if_neg q1]; intro _; rfl
theorem mX {es : List (List D)} {acc : List Cl} (c : Cl) (h : es = rowD acc) : es ++ [[D.i c.kind, .s (S c.s), .i c.dn, .i c.ds, .i c.n, .sl 1 [], .sl 1 []]] = rowD (acc ++ [c]) := by
 rw [h]; simp [rowD, ClD]
abbrev y38 (a0 : Int) (a1 : ByteArray) (a2 : Int) (a3 : Int) (a4 : Int) (a5 : Bool) : SV := .tup [(true, [cI a0, cS a1, cI a2, cI a3, cI a4, cN, cN]), (false, [cB a5])]
theorem cell_33 (hE : jH g) (t : List UInt8) (hl : t.length < 999999999) :
  SpG g 86 [.c (.bx 0 0)] [(0, y35 (S (33 :: t)))] (y38 ((aK (33 :: t)).2.1.kind) (S (aK (33 :: t)).2.1.s) ((aK (33 :: t)).2.1.dn) ((aK (33 :: t)).2.1.ds) ((aK (33 :: t)).2.1.n) ((aK (33 :: t)).1)) [(0, y35 (S (aK (33 :: t)).2.2))] := by
 refine aG 50 Tryz.func86 (by kernel_rfl) fun fr hG => ?_
 refine zC hG [] [1, 0, 1] ((S (33 :: t)).toList == (S []).toList) (⟨[zX 0 0 0, zX 2 100 0, zB 3 false], [(0, y35 (S (33 :: t))), (100, y11)]⟩) aA (fun hc1 => ?_) (fun hc1 => ?_)
 (try simp only [dZ] at hc1)
 exact absurd hc1 (by simp)
 (try simp only [dZ] at hc1)
 refine zC hG [(4, 6, .elem [.i 0])] [1, 0, 1, 1, 1, 1] (false) (⟨[zX 0 0 0, zX 2 100 0, zB 3 false, (5, [], .c (.fn 130 [(0, 0)] []))], [(0, y35 (S (33 :: t))), (100, y11)]⟩) (aC (by first | (intro h; rw [dY] at h; have := List.length_pos_iff.2 h; rw [aF]; omega) | (intros; rw [aF]; simp only [List.length_cons]; omega) | omega : (0 : Int) ≤ 0 ∧ 0 < ((S (33 :: t)).size : Int)) (aB (show (byteAt (S (33 :: t)) 0 : Int) = 33 from (gI 33 t)))) (fun hc2 => absurd hc2 (by decide)) (fun _ => ?_)
 exact zr hG [(8, 1, .callG (.tup [(true, [cI 0, cS (S []), cI 0, cI 0, cI (kH (t.takeWhile aN)), cN, cN]), (false, [cB (lK (t.takeWhile aN))])]) [0] [(0, y35 (S (t.dropWhile aN)))])] [] (aC (by first | (intro h; rw [dY] at h; have := List.length_pos_iff.2 h; rw [aF]; omega) | (intros; rw [aF]; simp only [List.length_cons]; omega) | omega : (0 : Int) ≤ 1 ∧ (1 : Int) ≤ ((S (33 :: t)).size : Int) ∧ ((S (33 :: t)).size : Int) ≤ ((S (33 :: t)).size : Int)) (aB (s8 (oS 33 t) (aFI hE t (by omega)) : SpG g _ _ _ _ _)))
theorem cell_39 (hE : jH g) (t : List UInt8) (hl : t.length < 999999999) :
  SpG g 86 [.c (.bx 0 0)] [(0, y35 (S (39 :: t)))] (y38 ((aK (39 :: t)).2.1.kind) (S (aK (39 :: t)).2.1.s) ((aK (39 :: t)).2.1.dn) ((aK (39 :: t)).2.1.ds) ((aK (39 :: t)).2.1.n) ((aK (39 :: t)).1)) [(0, y35 (S (aK (39 :: t)).2.2))] := by
 refine aG 50 Tryz.func86 (by kernel_rfl) fun fr hG => ?_
 refine zC hG [] [1, 0, 1] ((S (39 :: t)).toList == (S []).toList) (⟨[zX 0 0 0, zX 2 100 0, zB 3 false], [(0, y35 (S (39 :: t))), (100, y11)]⟩) aA (fun hc1 => ?_) (fun hc1 => ?_)
 (try simp only [dZ] at hc1)
 exact absurd hc1 (by simp)
 (try simp only [dZ] at hc1)
 refine zC hG [(4, 6, .elem [.i 1])] [1, 0, 1, 1, 1, 1] (false) (⟨[zX 0 0 0, zX 2 100 0, zB 3 false, (5, [], .c (.fn 131 [(0, 0)] []))], [(0, y35 (S (39 :: t))), (100, y11)]⟩) (aC (by first | (intro h; rw [dY] at h; have := List.length_pos_iff.2 h; rw [aF]; omega) | (intros; rw [aF]; simp only [List.length_cons]; omega) | omega : (0 : Int) ≤ 0 ∧ 0 < ((S (39 :: t)).size : Int)) (aB (show (byteAt (S (39 :: t)) 0 : Int) = 39 from (gI 39 t)))) (fun hc2 => absurd hc2 (by decide)) (fun _ => ?_)
 exact zr hG [(8, 1, .callG (.tup [(true, [cI (if (tqM (t.length + 1) [] t).1 then 1 else 0), cS (S (tqM (t.length + 1) [] t).2.1), cI 0, cI 0, cI 0, cN, cN]), (false, [cB ((tqM (t.length + 1) [] t).1)])]) [0] [(0, y35 (S (tqM (t.length + 1) [] t).2.2))])] [] (aC (by first | (intro h; rw [dY] at h; have := List.length_pos_iff.2 h; rw [aF]; omega) | (intros; rw [aF]; simp only [List.length_cons]; omega) | omega : (0 : Int) ≤ 1 ∧ (1 : Int) ≤ ((S (39 :: t)).size : Int) ∧ ((S (39 :: t)).size : Int) ≤ ((S (39 :: t)).size : Int)) (aB (s8 (oS 39 t) (aJ9 t (by omega)) : SpG g _ _ _ _ _)))
theorem cell_35 (hE : jH g) (t : List UInt8) (hl : t.length < 999999999) :
  SpG g 86 [.c (.bx 0 0)] [(0, y35 (S (35 :: t)))] (y38 ((aK (35 :: t)).2.1.kind) (S (aK (35 :: t)).2.1.s) ((aK (35 :: t)).2.1.dn) ((aK (35 :: t)).2.1.ds) ((aK (35 :: t)).2.1.n) ((aK (35 :: t)).1)) [(0, y35 (S (aK (35 :: t)).2.2))] := by
 refine aG 50 Tryz.func86 (by kernel_rfl) fun fr hG => ?_
 refine zC hG [] [1, 0, 1] ((S (35 :: t)).toList == (S []).toList) (⟨[zX 0 0 0, zX 2 100 0, zB 3 false], [(0, y35 (S (35 :: t))), (100, y11)]⟩) aA (fun hc1 => ?_) (fun hc1 => ?_)
 (try simp only [dZ] at hc1)
 exact absurd hc1 (by simp)
 (try simp only [dZ] at hc1)
 refine zC hG [(4, 6, .elem [.i 2])] [1, 0, 1, 1, 1, 1] (false) (⟨[zX 0 0 0, zX 2 100 0, zB 3 false, (5, [], .c (.fn 132 [(0, 0)] []))], [(0, y35 (S (35 :: t))), (100, y11)]⟩) (aC (by first | (intro h; rw [dY] at h; have := List.length_pos_iff.2 h; rw [aF]; omega) | (intros; rw [aF]; simp only [List.length_cons]; omega) | omega : (0 : Int) ≤ 0 ∧ 0 < ((S (35 :: t)).size : Int)) (aB (show (byteAt (S (35 :: t)) 0 : Int) = 35 from (gI 35 t)))) (fun hc2 => absurd hc2 (by decide)) (fun _ => ?_)
 exact zr hG [(8, 1, .callG (.tup [(true, [cI 2, cS (S []), cI (iZ (t.takeWhile aN)), cI (iY (t.takeWhile aN)), cI 0, cN, cN]), (false, [cB (gH (t.takeWhile aN))])]) [0] [(0, y35 (S (t.dropWhile aN)))])] [] (aC (by first | (intro h; rw [dY] at h; have := List.length_pos_iff.2 h; rw [aF]; omega) | (intros; rw [aF]; simp only [List.length_cons]; omega) | omega : (0 : Int) ≤ 1 ∧ (1 : Int) ≤ ((S (35 :: t)).size : Int) ∧ ((S (35 :: t)).size : Int) ≤ ((S (35 :: t)).size : Int)) (aB (s8 (oS 35 t) (aE1 t (by omega)) : SpG g _ _ _ _ _)))
theorem cell_64 (hE : jH g) (t : List UInt8) (hl : t.length < 999999999) :
  SpG g 86 [.c (.bx 0 0)] [(0, y35 (S (64 :: t)))] (y38 ((aK (64 :: t)).2.1.kind) (S (aK (64 :: t)).2.1.s) ((aK (64 :: t)).2.1.dn) ((aK (64 :: t)).2.1.ds) ((aK (64 :: t)).2.1.n) ((aK (64 :: t)).1)) [(0, y35 (S (aK (64 :: t)).2.2))] := by
 refine aG 50 Tryz.func86 (by kernel_rfl) fun fr hG => ?_
 refine zC hG [] [1, 0, 1] ((S (64 :: t)).toList == (S []).toList) (⟨[zX 0 0 0, zX 2 100 0, zB 3 false], [(0, y35 (S (64 :: t))), (100, y11)]⟩) aA (fun hc1 => ?_) (fun hc1 => ?_)
 (try simp only [dZ] at hc1)
 exact absurd hc1 (by simp)
 (try simp only [dZ] at hc1)
 refine zC hG [(4, 6, .elem [.i 3])] [1, 0, 1, 1, 1, 1] (false) (⟨[zX 0 0 0, zX 2 100 0, zB 3 false, (5, [], .c (.fn 133 [(0, 0)] []))], [(0, y35 (S (64 :: t))), (100, y11)]⟩) (aC (by first | (intro h; rw [dY] at h; have := List.length_pos_iff.2 h; rw [aF]; omega) | (intros; rw [aF]; simp only [List.length_cons]; omega) | omega : (0 : Int) ≤ 0 ∧ 0 < ((S (64 :: t)).size : Int)) (aB (show (byteAt (S (64 :: t)) 0 : Int) = 64 from (gI 64 t)))) (fun hc2 => absurd hc2 (by decide)) (fun _ => ?_)
 exact zr hG [(8, 1, .callG (.tup [(true, [cI 3, cS (S []), cI 0, cI 0, cI (eZ (t.takeWhile aN)), cN, cN]), (false, [cB (eG (t.takeWhile aN))])]) [0] [(0, y35 (S (t.dropWhile aN)))])] [] (aC (by first | (intro h; rw [dY] at h; have := List.length_pos_iff.2 h; rw [aF]; omega) | (intros; rw [aF]; simp only [List.length_cons]; omega) | omega : (0 : Int) ≤ 1 ∧ (1 : Int) ≤ ((S (64 :: t)).size : Int) ∧ ((S (64 :: t)).size : Int) ≤ ((S (64 :: t)).size : Int)) (aB (s8 (oS 64 t) (date_ok t (by omega)) : SpG g _ _ _ _ _)))
theorem cell_63 (hE : jH g) (t : List UInt8) (hl : t.length < 999999999) :
  SpG g 86 [.c (.bx 0 0)] [(0, y35 (S (63 :: t)))] (y38 ((aK (63 :: t)).2.1.kind) (S (aK (63 :: t)).2.1.s) ((aK (63 :: t)).2.1.dn) ((aK (63 :: t)).2.1.ds) ((aK (63 :: t)).2.1.n) ((aK (63 :: t)).1)) [(0, y35 (S (aK (63 :: t)).2.2))] := by
 refine aG 50 Tryz.func86 (by kernel_rfl) fun fr hG => ?_
 refine zC hG [] [1, 0, 1] ((S (63 :: t)).toList == (S []).toList) (⟨[zX 0 0 0, zX 2 100 0, zB 3 false], [(0, y35 (S (63 :: t))), (100, y11)]⟩) aA (fun hc1 => ?_) (fun hc1 => ?_)
 (try simp only [dZ] at hc1)
 exact absurd hc1 (by simp)
 (try simp only [dZ] at hc1)
 refine zC hG [(4, 6, .elem [.i 4])] [1, 0, 1, 1, 1, 1] (false) (⟨[zX 0 0 0, zX 2 100 0, zB 3 false, (5, [], .c (.fn 134 [(0, 0)] []))], [(0, y35 (S (63 :: t))), (100, y11)]⟩) (aC (by first | (intro h; rw [dY] at h; have := List.length_pos_iff.2 h; rw [aF]; omega) | (intros; rw [aF]; simp only [List.length_cons]; omega) | omega : (0 : Int) ≤ 0 ∧ 0 < ((S (63 :: t)).size : Int)) (aB (show (byteAt (S (63 :: t)) 0 : Int) = 63 from (gI 63 t)))) (fun hc2 => absurd hc2 (by decide)) (fun _ => ?_)
 exact zr hG [(8, 1, .callG (y36 (Lib.index [48, 49] (t.takeWhile aN)) (decide ((t.takeWhile aN).length = 1))) [0] [(0, y35 (S (t.dropWhile aN)))])] [] (aC (by first | (intro h; rw [dY] at h; have := List.length_pos_iff.2 h; rw [aF]; omega) | (intros; rw [aF]; simp only [List.length_cons]; omega) | omega : (0 : Int) ≤ 1 ∧ (1 : Int) ≤ ((S (63 :: t)).size : Int) ∧ ((S (63 :: t)).size : Int) ≤ ((S (63 :: t)).size : Int)) (aB (s8 (oS 63 t) (aNZ t (by omega)) : SpG g _ _ _ _ _)))
theorem aJL (x : UInt8) (t : List UInt8) (h : ¬ x = 33 ∧ ¬ x = 39 ∧ ¬ x = 35 ∧ ¬ x = 64 ∧ ¬ x = 63) :
  SpG g 86 [.c (.bx 0 0)] [(0, y35 (S (x :: t)))] (y38 ((aK (x :: t)).2.1.kind) (S (aK (x :: t)).2.1.s) ((aK (x :: t)).2.1.dn) ((aK (x :: t)).2.1.ds) ((aK (x :: t)).2.1.n) ((aK (x :: t)).1)) [(0, y35 (S (aK (x :: t)).2.2))] := by
 refine aG 50 Tryz.func86 (by kernel_rfl) fun fr hG => ?_
 refine zC hG [] [1, 0, 1] ((S (x :: t)).toList == (S []).toList) (⟨[zX 0 0 0, zX 2 100 0, zB 3 false], [(0, y35 (S (x :: t))), (100, y11)]⟩) aA (fun hc1 => ?_) (fun hc1 => ?_)
 (try simp only [dZ] at hc1)
 exact absurd hc1 (by simp)
 (try simp only [dZ] at hc1)
 refine zC hG [(4, 6, .elem [])] [1, 0, 1, 1, 1, 1] (true) (⟨[zX 0 0 0, zX 2 100 0, zB 3 false, (5, [], .c (.d (.v (.nilFunc))))], [(0, y35 (S (x :: t))), (100, y11)]⟩) (aC (by first | (intro h; rw [dY] at h; have := List.length_pos_iff.2 h; rw [aF]; omega) | (intros; rw [aF]; simp only [List.length_cons]; omega) | omega : (0 : Int) ≤ 0 ∧ 0 < ((S (x :: t)).size : Int)) (aB (no_key (n := byteAt (S (x :: t)) 0) (a := .fn 130 [(0, 0)] []) (b := .fn 131 [(0, 0)] []) (c := .fn 132 [(0, 0)] []) (d := .fn 133 [(0, 0)] []) (e := .fn 134 [(0, 0)] []) (aIR h)))) (fun _ => ?_) (fun hc2 => absurd hc2 (by decide))
 refine zR hG [] [] (y37) [(0, y35 (S (x :: t)))] aA ?_ ?_
 rw [vD h]; rfl
 rw [vD h]
theorem aNT  :
  SpG g 86 [.c (.bx 0 0)] [(0, .box 90 [cS (S [])])] (y38 ((aK []).2.1.kind) (S (aK []).2.1.s) ((aK []).2.1.dn) ((aK []).2.1.ds) ((aK []).2.1.n) ((aK []).1)) [(0, y35 (S (aK []).2.2))] := by
 refine aG 50 Tryz.func86 (by kernel_rfl) fun fr hG => ?_
 refine zC hG [] [1, 0, 1] (true) (⟨[zX 0 0 0, zX 2 100 0, zB 3 false], [(0, .box 90 [cS (S [])]), (100, y11)]⟩) aA (fun _ => ?_) (fun hc1 => absurd hc1 (by decide))
 exact zr hG [] [] aA
abbrev y39 (a0 : Cl) (a1 : Bool) : SV := .tup [(true, (zW a0)), (false, [cB a1])]
theorem aAN (hE : jH g) (l : List UInt8) (hl : l.length < 1000000000) : SpG g 86 [.c (.bx 0 0)] [(0, .box 90 [cS (S l)])] (y39 ((aK l).2.1) ((aK l).1)) [(0, y35 (S (aK l).2.2))] := by
 have h : SpG g 86 [.c (.bx 0 0)] [(0, .box 90 [cS (S l)])] (y38 ((aK l).2.1.kind) (S (aK l).2.1.s) ((aK l).2.1.dn) ((aK l).2.1.ds) ((aK l).2.1.n) ((aK l).1)) [(0, y35 (S (aK l).2.2))] := by
  cases l with
  | nil => exact aNT
  | cons x t =>
   have ht : t.length < 999999999 := by rw [List.length_cons] at hl; omega
   by_cases h1 : x = 33
   subst h1; exact cell_33 hE t ht
   by_cases h2 : x = 39
   subst h2; exact cell_39 hE t ht
   by_cases h3 : x = 35
   subst h3; exact cell_35 hE t ht
   by_cases h4 : x = 64
   subst h4; exact cell_64 hE t ht
   by_cases h5 : x = 63
   subst h5; exact cell_63 hE t ht
   exact aJL x t ⟨h1, h2, h3, h4, h5⟩
 exact fV [[none, none, none, none, none, some 1, some 1], []] h
def zq36 := And.intro @List.length_append.{0} (And.intro @List.length_cons.{0} (And.intro @List.length_map.{0, 0} (And.intro @List.length_nil.{0} (And.intro @Go.Eng.inR.eq_1 (@rowD.eq_1)))))
abbrev y40 : SV := .tup [(false, [cN]), (false, [cB false])]
abbrev y41 (a0 : List (List D)) : SV := .tup [(false, [cM 7 a0]), (false, [cB true])]
theorem row_ (hE : jH g) (n : Nat) (l : List UInt8) (hl : l.length < 1000000000) (hn : n ≤ 1000000000) :
  SpG g 129 [.c (.bx 0 0), .c (cI (n : Int))] [(0, .box 90 [cS (S l)])] (if (bM n true [] l).1 = true then .tup [(false, [cM 7 (rowD (bM n true [] l).2.1)]), (false, [cB true])] else y40) [(0, y35 (S (bM n true [] l).2.2))] := by
 refine aG 36 Tryz.func129 (by kernel_rfl) fun fr hG => ?_
 refine s7 hG cW [] [0, 1, 0, 1, 1] ((fun (zz : Nat × List Cl × List UInt8 × List (List D)) => match zz with | (0, acc, r, es) => ⟨[zX 0 0 0, zN 4, zB 5 false, zY 6 201 0, zI 12 (n : Int), zI 13 0], [(0, .box 90 [cS (S r)]), (201, .arr 0 30 7 (es))]⟩ | (k + 1, acc, r, es) => ⟨[zX 0 0 0, zN 4, zB 5 false, zY 6 201 0, zI 12 (n : Int), zI 13 ((k + 1 : Nat) : Int)], [(0, .box 90 [cS (S r)]), (201, .arr 0 30 7 (es))]⟩) (0, [], l, [])) _ (by kernel_rfl) (aB (by intros; (try simp only [zq36] at *); omega : (0 : Int) ≤ (n : Int) ∧ ((96 : Nat) : Int) * (n : Int) ≤ 281474976710656 ∧ (n : Int) ≤ 9223372036854775807)) ?_
 refine aG4 (σ := Nat × List Cl × List UInt8 × List (List D)) (fun (zz : Nat × List Cl × List UInt8 × List (List D)) => match zz with | (k, acc, r, es) => n - k) (fun (zz : Nat × List Cl × List UInt8 × List (List D)) => match zz with | (0, acc, r, es) => ⟨[zX 0 0 0, zN 4, zB 5 false, zY 6 201 0, zI 12 (n : Int), zI 13 0], [(0, .box 90 [cS (S r)]), (201, .arr 0 30 7 (es))]⟩ | (k + 1, acc, r, es) => ⟨[zX 0 0 0, zN 4, zB 5 false, zY 6 201 0, zI 12 (n : Int), zI 13 ((k + 1 : Nat) : Int)], [(0, .box 90 [cS (S r)]), (201, .arr 0 30 7 (es))]⟩) (fun (zz : Nat × List Cl × List UInt8 × List (List D)) => match zz with | (k, acc, r, es) => k ≤ n ∧ bM n true [] l = bM (n - k) (k == 0) acc r ∧ r.length ≤ l.length ∧ es = rowD acc ∧ acc.length = k) (0, [], l, []) (by kernel_rfl) ?_ ?_
 exact ⟨Nat.zero_le _, rfl, Nat.le_refl _, rfl, rfl⟩
 rintro ⟨k, acc, r, es⟩ ⟨hk, hm, hr, hes, ha⟩
 have hel : es.length = acc.length := by rw [hes, rowD, List.length_map]
 rcases k with _ | k <;> (try dsimp only at hk hm hr ha)
 skip
 refine zp hG [] [0, 1] ((0 : Int) < (n : Int)) aA (fun hc2 => ?_) (fun hc2 => ?_)
 skip
 refine zc hG [(5, 4, .dead (.c (cB false)))] [1, 0, 1, 0, 0, 1, 1] (false) (aB (show ¬ (false = true ∧ True) from (fun h => absurd h.1 (by decide)))) (fun hc3 => absurd hc3 (by decide)) (fun _ => ?_)
 refine zC hG [(7, 1, .callG (y39 ((aK r).2.1) ((aK r).1)) [0] [(0, y35 (S (aK r).2.2))])] [1, 0, 1, 1, 1, 0, 0, 1, 1] (!((aK r).1)) (⟨[zX 0 0 0, zN 4, zB 5 false, zY 6 201 0, zX 8 805 0, zI 12 (n : Int), zI 13 0], [(0, y35 (S (aK r).2.2)), (201, .arr 0 30 7 (es)), (805, .box 30 (zW ((aK r).2.1)))]⟩) (aB (aAN hE r (by have := cD 44 r; omega) : SpG g _ _ _ _ _)) (fun hc4 => ?_) (fun hc4 => ?_)
 (try simp only [blS] at hc4)
 refine zE hG [] .ret (⟨[zN 4, zB 5 false, zY 6 201 0], [(0, y35 (S (aK r).2.2)), (201, .arr 0 30 7 (es))]⟩) aA rfl ?_
 refine zR hG [] [] (y40) [(0, y35 (S (aK r).2.2))] aA ?_ ?_
 have e : (bM n true [] l) = (false, [], (aK r).2.2) := by rw [hm, Nat.sub_zero]; exact (n7 (by omega)).trans (if_neg (by simpa using hc4))
 rw [e]; rfl
 have e : (bM n true [] l) = (false, [], (aK r).2.2) := by rw [hm, Nat.sub_zero]; exact (n7 (by omega)).trans (if_neg (by simpa using hc4))
 rw [e]
 (try simp only [blS] at hc4)
 refine zD hG [] (1, acc ++ [(aK r).2.1], (aK r).2.2, es ++ [[.i (aK r).2.1.kind, .s (S (aK r).2.1.s), .i (aK r).2.1.dn, .i (aK r).2.1.ds, .i (aK r).2.1.n, .sl 1 [], .sl 1 []]]) (aC (by intros; (try simp only [zq36] at *); omega : ((es).length + (([[.i (((aK r).2.1).kind), .s (S ((aK r).2.1).s), .i (((aK r).2.1).dn), .i (((aK r).2.1).ds), .i (((aK r).2.1).n), .sl 1 ([]), .sl 1 ([])]] : List (List D))).length) * (96 + 1) ≤ 140737488355328) (aB (by unfold inR; decide : inR (0 + 1)))) ?_ ?_
 (try dsimp only); omega
 refine ⟨by omega, ?_, by have := nL r; omega, mX _ hes, by simp only [dB]; omega⟩
 rw [hm, Nat.sub_zero]
 exact (n7 (by omega)).trans (if_pos (by simpa using hc4))
 skip
 refine zE hG [] (.exit 0) (⟨[zN 4, zB 5 false, zY 6 201 0], [(0, .box 90 [cS (S r)]), (201, .arr 0 30 7 (es))]⟩) aA rfl ?_
 refine zR hG [] [] (y41 (es)) [(0, .box 90 [cS (S r)])] aA ?_ ?_
 have e : (bM n true [] l) = (true, acc, r) := by rw [hm, o6 (by omega)]
 rw [e]; rw [hes]; rfl
 have e : (bM n true [] l) = (true, acc, r) := by rw [hm, o6 (by omega)]
 rw [e]
 skip
 refine zp hG [] [0, 1] ((((k + 1 : Nat) : Int) : Int) < (n : Int)) aA (fun hc5 => ?_) (fun hc5 => ?_)
 skip
 refine zC hG [(5, 4, .callG (.c (cB (bJ 44 r))) [0] [(0, y35 (S (aH 44 r)))])] [1, 0, 1, 0, 0, 1, 1] ((decide ((((k + 1 : Nat) : Int) : Int) > 0)) && (!(bJ 44 r))) (⟨[zX 0 0 0, zN 4, zB 5 false, zY 6 201 0, zI 12 (n : Int), zI 13 ((k + 1 : Nat) : Int)], [(0, y35 (S (aH 44 r))), (201, .arr 0 30 7 (es))]⟩) (aC (show (decide ((((k + 1 : Nat) : Int) : Int) > 0)) = true ∧ True from ⟨by simp only [decide_eq_true_eq]; omega, trivial⟩) (aB (fun (hg1 : (decide ((((k + 1 : Nat) : Int) : Int) > 0)) = true) => (iA r 44 : SpG g _ _ _ _ _)))) (fun hc6 => ?_) (fun hc6 => ?_)
 (try simp only [blS] at hc6)
 refine zE hG [] .ret (⟨[zN 4, zB 5 false, zY 6 201 0], [(0, y35 (S (aH 44 r))), (201, .arr 0 30 7 (es))]⟩) aA rfl ?_
 refine zR hG [] [] (y40) [(0, y35 (S (aH 44 r)))] aA ?_ ?_
 have e : (bM n true [] l) = (false, [], r) := by rw [hm]; exact (jW (by omega)).trans (if_neg (by simpa using hc6))
 rw [e]; rfl
 have e : (bM n true [] l) = (false, [], r) := by rw [hm]; exact (jW (by omega)).trans (if_neg (by simpa using hc6))
 have e2 := fJ (c := 44) (l := r) (by simpa using hc6)
 (try rw [e2])
 rw [e]
 (try simp only [blS] at hc6)
 refine zC hG [(7, 1, .callG (y39 ((aK (aH 44 r)).2.1) ((aK (aH 44 r)).1)) [0] [(0, y35 (S (aK (aH 44 r)).2.2))])] [1, 0, 1, 1, 1, 0, 0, 1, 1] (!((aK (aH 44 r)).1)) (⟨[zX 0 0 0, zN 4, zB 5 false, zY 6 201 0, zX 8 805 0, zI 12 (n : Int), zI 13 ((k + 1 : Nat) : Int)], [(0, y35 (S (aK (aH 44 r)).2.2)), (201, .arr 0 30 7 (es)), (805, .box 30 (zW ((aK (aH 44 r)).2.1)))]⟩) (aB (aAN hE (aH 44 r) (by have := cD 44 r; omega) : SpG g _ _ _ _ _)) (fun hc7 => ?_) (fun hc7 => ?_)
 (try simp only [blS] at hc7)
 refine zE hG [] .ret (⟨[zN 4, zB 5 false, zY 6 201 0], [(0, y35 (S (aK (aH 44 r)).2.2)), (201, .arr 0 30 7 (es))]⟩) aA rfl ?_
 refine zR hG [] [] (y40) [(0, y35 (S (aK (aH 44 r)).2.2))] aA ?_ ?_
 have e : (bM n true [] l) = (false, [], (aK (aH 44 r)).2.2) := by rw [hm]; exact (jW (by omega)).trans ((if_pos (by simpa using hc6)).trans (if_neg (by simpa using hc7)))
 rw [e]; rfl
 have e : (bM n true [] l) = (false, [], (aK (aH 44 r)).2.2) := by rw [hm]; exact (jW (by omega)).trans ((if_pos (by simpa using hc6)).trans (if_neg (by simpa using hc7)))
 rw [e]
 (try simp only [blS] at hc7)
 refine zD hG [] (k + 1 + 1, acc ++ [(aK (aH 44 r)).2.1], (aK (aH 44 r)).2.2, es ++ [[.i (aK (aH 44 r)).2.1.kind, .s (S (aK (aH 44 r)).2.1.s), .i (aK (aH 44 r)).2.1.dn, .i (aK (aH 44 r)).2.1.ds, .i (aK (aH 44 r)).2.1.n, .sl 1 [], .sl 1 []]]) (aC (by intros; (try simp only [zq36] at *); omega : ((es).length + (([[.i (((aK (aH 44 r)).2.1).kind), .s (S ((aK (aH 44 r)).2.1).s), .i (((aK (aH 44 r)).2.1).dn), .i (((aK (aH 44 r)).2.1).ds), .i (((aK (aH 44 r)).2.1).n), .sl 1 ([]), .sl 1 ([])]] : List (List D))).length) * (96 + 1) ≤ 140737488355328) (aB (by intros; (try simp only [zq36] at *); omega : inR (((k + 1 : Nat) : Int) + 1)))) ?_ ?_
 (try dsimp only); omega
 refine ⟨by omega, ?_, by have := nL (aH 44 r); have := cD 44 r; omega, mX _ hes, by simp only [dB]; omega⟩
 rw [hm]
 exact (jW (by omega)).trans ((if_pos (by simpa using hc6)).trans (if_pos (by simpa using hc7)))
 skip
 refine zE hG [] (.exit 0) (⟨[zN 4, zB 5 false, zY 6 201 0], [(0, .box 90 [cS (S r)]), (201, .arr 0 30 7 (es))]⟩) aA rfl ?_
 refine zR hG [] [] (y41 (es)) [(0, .box 90 [cS (S r)])] aA ?_ ?_
 have e : (bM n true [] l) = (true, acc, r) := by rw [hm, o6 (by omega)]
 rw [e]; rw [hes]; rfl
 have e : (bM n true [] l) = (true, acc, r) := by rw [hm, o6 (by omega)]
 rw [e]
abbrev y42 (a0 : List (List D)) (a1 : Bool) : SV := .tup [(false, [cM 7 a0]), (false, [cB a1])]
theorem aKP (hE : jH g) (n : Nat) (l : List UInt8) (hl : l.length < 1000000000) (hn : n ≤ 1000000000) : SpG g 129 [.c (.bx 0 0), .c (cI (n : Int))] [(0, .box 90 [cS (S l)])] (y42 (rowD ((bM n true [] l).2.1)) ((bM n true [] l).1)) [(0, y35 (S (bM n true [] l).2.2))] := by
 have h := row_ hE n l hl hn
 cases hb : (bM n true [] l).1 with
 | true =>
  rw [if_pos hb] at h; exact h
 | false =>
  rw [if_neg (by rw [hb]; decide)] at h
  rw [rowA_no hb]
  exact fV [[some 7], []] h
end Go.Proofs.YtmpgfchkkemngaaGreatDoor
namespace Go.Proofs.YtmpgfchkkemngaaGreatDoor
open Go.RowKit Go.V
open Go.Eng (inR byteAt u8 bH)
def rB (s : List UInt8) : Nat → Int
 | 0 => -1
 | k + 1 => if dec2 (k : Int) = s then (k : Int) else rB s k
def kN : List UInt8 → List UInt8
 | [] => []
 | [_] => []
 | x :: y :: r => if x = 39 then x :: kN r else x :: kN (y :: r)
def Cl.bad : Cl := ⟨-1, [], 0, 0, 0⟩
noncomputable def aT (x : UInt8) (s : List UInt8) : Cl :=
 if x = 33 then ⟨0, [], 0, 0, rB s 100⟩
 else if x = 63 then ⟨4, [], 0, 0, rB s 100⟩
 else if x = 35 then (if gH s = true then ⟨2, [], iZ s, iY s, 0⟩ else Cl.bad)
 else if x = 64 then (if eG s = true then ⟨3, [], 0, 0, eZ s⟩ else Cl.bad)
 else if x = 39 then ⟨1, kN s, 0, 0, 0⟩
 else Cl.bad
def cX (p : List UInt8) : List (List UInt8) := if p = [] then [] else aE p 44
noncomputable def o5 (p : List UInt8) : List Cl := (cX p).map fun w => aT (w.headD 0) (w.drop 1)
def nT (p : List UInt8) : Bool := (cX p).all fun w => !(w.isEmpty)
noncomputable def fO (s : List UInt8) : Vl :=
 if gC s 59 = true ∧ ((aE s 59).drop 1).all nT = true then ⟨5, [], 0, 0, 0, cX ((aE s 59).headD []), ((aE s 59).drop 1).map o5⟩ else Cl.bad.toV
noncomputable def iT : List UInt8 → Vl
 | [] => Vl.z
 | x :: t => if x = 91 then fO (t.take (t.length - 1)) else (aT x t).toV
def fH (sep : UInt8) : List UInt8 → Bool → Int → List UInt8 → List (List UInt8) × Bool
 | [], q, d, cur => ([cur], !q && decide (d = 0))
 | x :: xs, q, d, cur =>
  if x = 39 then fH sep xs (!q) d (cur ++ [x])
  else if q = true then fH sep xs q d (cur ++ [x])
  else if x = 91 then fH sep xs q (d + 1) (cur ++ [x])
  else if x = 93 then fH sep xs q (d - 1) (cur ++ [x])
  else if x = sep ∧ d = 0 then (cur :: (fH sep xs q d []).1, (fH sep xs q d []).2)
  else fH sep xs q d (cur ++ [x])
theorem u8_int {x y : UInt8} : ((x.toNat : Nat) : Int) = ((y.toNat : Nat) : Int) ↔ x = y :=
 ⟨fun h => UInt8.toNat_inj.1 (by omega), fun h => by rw [h]⟩
theorem g9 {x y : UInt8} {n : Int} (h : ((y.toNat : Nat) : Int) = n) : ((x.toNat : Nat) : Int) = n ↔ x = y := by rw [← h]; exact u8_int
theorem aKC {s : List UInt8} {f k : Nat} (hf : f ≤ k) (hk : k < s.length) : sub s f (k + 1) = sub s f k ++ [s[k]] := by
 unfold sub
 rw [List.take_add_one, List.getElem?_eq_getElem hk, Option.toList_some, List.drop_append_of_le_length (by rw [List.length_take]; omega)]
theorem sub_self (s : List UInt8) (k : Nat) : sub s k k = [] := by
 unfold sub; exact List.drop_eq_nil_of_le (by rw [List.length_take]; omega)
theorem aDG (s : List UInt8) (sep : UInt8) : ∀ k, k ≤ s.length → (gM s (sep.toNat : Int) k).from_ ≤ k ∧ fH sep s false 0 [] = ((gM s (sep.toNat : Int) k).out ++ (fH sep (s.drop k) (gM s (sep.toNat : Int) k).quote (gM s (sep.toNat : Int) k).deep (sub s (gM s (sep.toNat : Int) k).from_ k)).1, (fH sep (s.drop k) (gM s (sep.toNat : Int) k).quote (gM s (sep.toNat : Int) k).deep (sub s (gM s (sep.toNat : Int) k).from_ k)).2)
 | 0, _ => ⟨Nat.le_refl _, by simp [gM, sub]⟩
 | k + 1, hk => by
  obtain ⟨h1, h2⟩ := aDG s sep k (by omega)
  have hd : s.drop k = s[k] :: s.drop (k + 1) := List.drop_eq_getElem_cons (by omega)
  have hg : s.getD k 0 = s[k] := by simp [show k < s.length by omega]
  have hsn := aKC (s := s) (f := (gM s (sep.toNat : Int) k).from_) h1 (by omega)
  rw [hd, fH] at h2
  rw [gM]
  generalize gM s (sep.toNat : Int) k = c at *
  obtain ⟨out, f, q, d⟩ := c
  simp only at *
  unfold iG
  rw [hg]
  by_cases e1 : s[k] = 39
  rw [if_pos e1] at h2
  rw [if_pos ((g9 (y := 39) (n := 39) rfl).2 e1)]
  exact ⟨by simp only; omega, by simp only; rw [hsn]; exact h2⟩
  rw [if_neg e1] at h2
  rw [if_neg (fun h => e1 ((g9 (y := 39) (n := 39) rfl).1 h))]
  by_cases e2 : q = true
  rw [if_pos e2] at h2
  simp only [if_pos e2]
  exact ⟨by omega, by rw [hsn]; exact h2⟩
  rw [if_neg e2] at h2
  simp only [if_neg e2]
  by_cases e3 : s[k] = 91
  rw [if_pos e3] at h2
  rw [if_pos ((g9 (y := 91) (n := 91) rfl).2 e3)]
  exact ⟨by simp only; omega, by simp only; rw [hsn]; exact h2⟩
  rw [if_neg e3] at h2
  rw [if_neg (fun h => e3 ((g9 (y := 91) (n := 91) rfl).1 h))]
  by_cases e4 : s[k] = 93
  rw [if_pos e4] at h2
  rw [if_pos ((g9 (y := 93) (n := 93) rfl).2 e4)]
  exact ⟨by simp only; omega, by simp only; rw [hsn]; exact h2⟩
  rw [if_neg e4] at h2
  rw [if_neg (fun h => e4 ((g9 (y := 93) (n := 93) rfl).1 h))]
  by_cases e5 : s[k] = sep ∧ d = 0
  rw [if_pos e5] at h2
  rw [if_pos ⟨u8_int.2 e5.1, e5.2⟩]
  exact ⟨Nat.le_refl _, by simp only; rw [sub_self, h2]; simp⟩
  rw [if_neg e5] at h2
  rw [if_neg (fun h => e5 ⟨u8_int.1 h.1, h.2⟩)]
  exact ⟨by simp only; omega, by simp only; rw [hsn]; exact h2⟩
theorem cut_is (s : List UInt8) (sep : UInt8) : aE s (sep.toNat : Int) = (fH sep s false 0 []).1 ∧ gC s (sep.toNat : Int) = (fH sep s false 0 []).2 := by
 have h := (aDG s sep s.length (Nat.le_refl _)).2
 rw [List.drop_length, fH] at h
 rw [h]
 exact ⟨rfl, rfl⟩
def Pass (sep : UInt8) (d : Int) (w : List UInt8) : Prop := ∀ xs cur, fH sep (w ++ xs) false d cur = fH sep xs false d (cur ++ w)
theorem Pass.nil {sep : UInt8} {d : Int} : Pass sep d [] := fun xs cur => by rw [List.nil_append, List.append_nil]
theorem Pass.app {sep : UInt8} {d : Int} {v w : List UInt8} (hv : Pass sep d v) (hw : Pass sep d w) : Pass sep d (v ++ w) := fun xs cur => by
 rw [List.append_assoc, hv, hw, List.append_assoc]
theorem Pass.one {sep : UInt8} {d : Int} {x : UInt8} (h : ¬ x = 39 ∧ ¬ x = 91 ∧ ¬ x = 93) (hs : ¬ (x = sep ∧ d = 0)) : Pass sep d [x] := fun xs cur => by
 rw [List.singleton_append, fH, if_neg h.1, if_neg (by decide), if_neg h.2.1, if_neg h.2.2, if_neg hs]
theorem Pass.all {sep : UInt8} {d : Int} : ∀ {w : List UInt8}, (∀ x, x ∈ w → (¬ x = 39 ∧ ¬ x = 91 ∧ ¬ x = 93) ∧ ¬ (x = sep ∧ d = 0)) → Pass sep d w
 | [], _ => Pass.nil
 | x :: w, h => Pass.app (v := [x]) (Pass.one (h x (by simp)).1 (h x (by simp)).2) (Pass.all fun y hy => h y (List.mem_cons_of_mem _ hy))
theorem aK6 (sep : UInt8) (d : Int) : ∀ (s xs cur : List UInt8), fH sep (bT s ++ xs) true d cur = fH sep xs true d (cur ++ bT s)
 | [], xs, cur => by simp [bT]
 | c :: s, xs, cur => by
  have ih := aK6 sep d s xs
  rw [show bT (c :: s) = mH c ++ bT s by simp [bT], mH]
  by_cases h : c = 39
  subst h
  rw [if_pos rfl, List.append_assoc]
  show fH sep (39 :: 39 :: (bT s ++ xs)) true d cur = _
  rw [fH, if_pos rfl, fH, if_pos rfl]
  show fH sep (bT s ++ xs) true d _ = _
  rw [ih]; simp
  rw [if_neg h, List.append_assoc, List.singleton_append, fH, if_neg h, if_pos rfl, ih]; simp
theorem Pass.quo (sep : UInt8) (d : Int) (s : List UInt8) : Pass sep d (oA s) := fun xs cur => by
 rw [show oA s ++ xs = 39 :: (bT s ++ (39 :: xs)) by simp [oA], fH, if_pos rfl]
 show fH sep (bT s ++ (39 :: xs)) true d _ = _
 rw [aK6, fH, if_pos rfl]
 show fH sep xs false d _ = _
 simp [oA]
theorem Pass.box {sep : UInt8} {d : Int} {w : List UInt8} (h : Pass sep (d + 1) w) : Pass sep d (91 :: (w ++ [93])) := fun xs cur => by
 rw [List.cons_append, fH, if_neg (by decide), if_neg (by decide), if_pos rfl, List.append_assoc, h, List.singleton_append, fH, if_neg (by decide), if_neg (by decide), if_neg (by decide), if_pos rfl]
 rw [show d + 1 - 1 = d by omega]; simp
theorem Pass.flat {sep : UInt8} {d : Int} {s : UInt8} (hs : Pass sep d [s]) : ∀ {l : List (List UInt8)}, (∀ w, w ∈ l → Pass sep d w) → Pass sep d (l.flatMap fun y => s :: y)
 | [], _ => Pass.nil
 | x :: l, h => by
  rw [List.flatMap_cons]
  exact Pass.app (Pass.app (v := [s]) hs (h x (by simp))) (Pass.flat hs fun w hw => h w (List.mem_cons_of_mem _ hw))
theorem Pass.join {sep : UInt8} {d : Int} {s : UInt8} (hs : Pass sep d [s]) {l : List (List UInt8)} (h : ∀ w, w ∈ l → Pass sep d w) : Pass sep d (joinL [s] l) := by
 cases l with
 | nil => exact Pass.nil
 | cons x l => rw [eE]; exact Pass.app (h x (by simp)) (Pass.flat hs fun w hw => h w (List.mem_cons_of_mem _ hw))
theorem xV {sep : UInt8} (hs : ¬ sep = 39 ∧ ¬ sep = 91 ∧ ¬ sep = 93) : ∀ (l : List (List UInt8)) (x cur : List UInt8), (∀ w, w ∈ x :: l → Pass sep 0 w) → fH sep (x ++ l.flatMap fun y => sep :: y) false 0 cur = ((cur ++ x) :: l, true)
 | [], x, cur, h => by rw [List.flatMap_nil, h x (by simp), fH]; rfl
 | y :: l, x, cur, h => by
  have ih := xV hs l y [] fun w hw => h w (List.mem_cons_of_mem _ hw)
  rw [h x (by simp), List.flatMap_cons, List.cons_append, fH, if_neg hs.1, if_neg (by decide), if_neg hs.2.1, if_neg hs.2.2, if_pos ⟨rfl, rfl⟩, ih]; rfl
theorem u3 {sep : UInt8} (hs : ¬ sep = 39 ∧ ¬ sep = 91 ∧ ¬ sep = 93) {l : List (List UInt8)} (hl : l ≠ []) (h : ∀ w, w ∈ l → Pass sep 0 w) : aE (joinL [sep] l) (sep.toNat : Int) = l ∧ gC (joinL [sep] l) (sep.toNat : Int) = true := by
 obtain ⟨h1, h2⟩ := cut_is (joinL [sep] l) sep
 cases l with
 | nil => exact absurd rfl hl
 | cons x l =>
  rw [eE] at *
  rw [h1, h2, xV hs l x [] h]; exact ⟨rfl, rfl⟩
def plc (c : UInt8) : Bool := !(c == 39 || c == 91 || c == 93 || c == 44 || c == 59 || c == 124)
theorem nE {c : UInt8} (h : bA c = true) : plc c = true := by
 simp only [bA, Bool.and_eq_true, decide_eq_true_eq] at h
 simp only [plc, Bool.not_eq_true', Bool.or_eq_false_iff, beq_eq_false_iff_ne, ne_eq]
 refine ⟨⟨⟨⟨⟨?_, ?_⟩, ?_⟩, ?_⟩, ?_⟩, ?_⟩ <;> rintro rfl <;> simp at h
theorem aNI {n s : Int} (h : 0 ≤ s) : (bU n s).all plc = true := by
 rw [kD h, mP]
 have h1 := dU (fun c => nE) (dQ (n.natAbs / 10 ^ s.toNat)).2
 have h2 := dU (fun c => nE) (aCO n.natAbs s.toNat)
 have h45 : plc 45 = true := by decide
 have h46 : plc 46 = true := by decide
 split <;> split <;> simp [List.all_append, h1, h2, h45, h46]
theorem aAI {n : Int} (h0 : 0 ≤ n) (h1 : n ≤ 3652058) : (aR n).all plc = true := by
 obtain ⟨a, b, c, d, e, f⟩ := oQ h0 h1
 have vy := dU (fun c => nE) (dF (x := (civ n).1) (k := 4) (by omega) (by omega) (by decide)).2
 have vm := dU (fun c => nE) (dF (x := (civ n).2.1) (k := 2) (by omega) (by omega) (by decide)).2
 have vd := dU (fun c => nE) (dF (x := (civ n).2.2) (k := 2) (by omega) (by omega) (by decide)).2
 have h45 : plc 45 = true := by decide
 unfold aR
 simp [List.all_append, vy, vm, vd, h45]
theorem aDE {n : Int} (h0 : 0 ≤ n) (h1 : n ≤ 99) : (dec2 n).all plc = true := by
 rw [pV h0 h1]; exact dU (fun c => nE) (dQ n.toNat).2
theorem aCG {l : List UInt8} (h : bW l = true) : l.all plc = true := by
 have e : bs (S l) = l := by simp [bs, S]
 simp only [sP, bW, dG, Bool.and_eq_true, e] at h
 rw [List.all_eq_true] at h ⊢
 intro c hc
 have hh := h.2 c hc
 simp only [plc, Bool.not_eq_true', Bool.or_eq_false_iff, beq_eq_false_iff_ne, ne_eq]
 refine ⟨⟨⟨⟨⟨?_, ?_⟩, ?_⟩, ?_⟩, ?_⟩, ?_⟩ <;> rintro rfl <;> revert hh <;> decide
def aOF (sep : UInt8) : Prop := sep = 44 ∨ sep = 59 ∨ sep = 124
theorem Pass.plc {sep : UInt8} {d : Int} (hs : aOF sep) {w : List UInt8} (h : w.all plc = true) : Pass sep d w := by
 refine Pass.all fun x hx => ?_
 have hp := List.all_eq_true.1 h x hx
 simp only [Go.Proofs.YtmpgfchkkemngaaGreatDoor.plc, Bool.not_eq_true', Bool.or_eq_false_iff, beq_eq_false_iff_ne, ne_eq] at hp
 obtain ⟨⟨⟨⟨⟨h1, h2⟩, h3⟩, h4⟩, h5⟩, h6⟩ := hp
 refine ⟨⟨h1, h2, h3⟩, ?_⟩
 rintro ⟨e, _⟩
 rcases hs with rfl | rfl | rfl
 exact h4 e
 exact h5 e
 exact h6 e
theorem Pass.cell {sep : UInt8} {d : Int} (hs : aOF sep) {c : Cl} (hc : v7 c) : Pass sep d (bB c) := by
 obtain ⟨a1, a2, a3, _, a5, a6, a7, a8, a9, a10, _⟩ := dP hc.2
 have hk := hc.1
 obtain ⟨k, s, dn, ds, n⟩ := c
 simp only [Cl.toV] at *
 have ho : ∀ x : UInt8, Go.Proofs.YtmpgfchkkemngaaGreatDoor.plc x = true → Pass sep d [x] := fun x hx => Pass.plc hs (by simp [hx])
 have hk : k = 0 ∨ k = 1 ∨ k = 2 ∨ k = 3 ∨ k = 4 := by omega
 unfold bB gD
 simp only
 rcases hk with rfl | rfl | rfl | rfl | rfl
 have hn := a7 rfl
 rw [if_pos rfl]
 exact Pass.app (v := [33]) (ho 33 (by decide)) (Pass.plc hs (aDE hn.1 hn.2))
 rw [if_neg (by decide), if_pos rfl]; exact Pass.quo _ _ _
 have hd := fG (a8 rfl)
 rw [if_neg (by decide), if_neg (by decide), if_pos rfl]
 exact Pass.app (v := [35]) (ho 35 (by decide)) (Pass.plc hs (aNI hd.1))
 have hn := a9 rfl
 rw [if_neg (by decide), if_neg (by decide), if_neg (by decide), if_pos rfl]
 exact Pass.app (v := [64]) (ho 64 (by decide)) (Pass.plc hs (aAI hn.1 hn.2))
 have hn := a10 rfl
 rw [if_neg (by decide), if_neg (by decide), if_neg (by decide), if_neg (by decide)]
 exact Pass.app (v := [63]) (ho 63 (by decide)) (Pass.plc hs (aDE (by omega) (by omega)))
theorem xS {n : Int} (h0 : 0 ≤ n) (h1 : n ≤ 99) : rB (dec2 n) 100 = n := by
 have : ∀ k : Nat, k < 100 → rB (dec2 (k : Int)) 100 = (k : Int) := by decide +kernel
 have h := this n.toNat (by omega)
 have e : ((n.toNat : Nat) : Int) = n := by omega
 rw [e] at h; exact h
theorem aF5 : ∀ s : List UInt8, kN (bT s ++ [39]) = s
 | [] => rfl
 | c :: s => by
  have ih := aF5 s
  rw [show bT (c :: s) = mH c ++ bT s by simp [bT], mH, List.append_assoc]
  by_cases h : c = 39
  subst h
  rw [if_pos rfl]
  show kN (39 :: 39 :: (bT s ++ [39])) = _
  rw [kN, if_pos rfl, ih]
  rw [if_neg h, List.singleton_append]
  cases he : bT s ++ [39] with
  | nil => simp at he
  | cons y r => rw [kN, if_neg h, ← he, ih]
theorem jY {c : Cl} (hc : v7 c) : ∃ x t, bB c = x :: t ∧ ¬ x = 91 ∧ aT x t = c := by
 obtain ⟨a1, a2, a3, _, a5, a6, a7, a8, a9, a10, _⟩ := dP hc.2
 have hk := hc.1
 obtain ⟨k, s, dn, ds, n⟩ := c
 simp only [Cl.toV] at *
 have hk : k = 0 ∨ k = 1 ∨ k = 2 ∨ k = 3 ∨ k = 4 := by omega
 unfold bB gD
 simp only
 rcases hk with rfl | rfl | rfl | rfl | rfl
 have hn := a7 rfl
 refine ⟨33, dec2 n, by rw [if_pos rfl], by decide, ?_⟩
 have := a1 (by decide); have := a2 (by decide)
 simp only [aT, if_true, xS hn.1 hn.2]; simp_all
 refine ⟨39, bT s ++ [39], by rw [if_neg (by decide), if_pos rfl]; rfl, by decide, ?_⟩
 have := a2 (by decide); have := a3 (by decide)
 simp only [aT, show ¬ (39 : UInt8) = 33 by decide, show ¬ (39 : UInt8) = 63 by decide, show ¬ (39 : UInt8) = 35 by decide, show ¬ (39 : UInt8) = 64 by decide, if_true, if_false, aF5]; simp_all
 have hb := a8 rfl
 obtain ⟨h1, h2, h3⟩ := mJ hb rfl
 refine ⟨35, bU dn ds, by rw [if_neg (by decide), if_neg (by decide), if_pos rfl], by decide, ?_⟩
 have := a1 (by decide); have := a3 (by decide)
 simp only [aT, show ¬ (35 : UInt8) = 33 by decide, show ¬ (35 : UInt8) = 63 by decide, if_true, if_false, h1, h2, h3]; simp_all
 have hn := a9 rfl
 obtain ⟨h1, h2⟩ := nG hn.1 hn.2 rfl
 refine ⟨64, aR n, by rw [if_neg (by decide), if_neg (by decide), if_neg (by decide), if_pos rfl], by decide, ?_⟩
 have := a1 (by decide); have := a2 (by decide)
 simp only [aT, show ¬ (64 : UInt8) = 33 by decide, show ¬ (64 : UInt8) = 63 by decide, show ¬ (64 : UInt8) = 35 by decide, if_true, if_false, h1, h2]; simp_all
 have hn := a10 rfl
 refine ⟨63, dec2 n, by rw [if_neg (by decide), if_neg (by decide), if_neg (by decide), if_neg (by decide)], by decide, ?_⟩
 have := a1 (by decide); have := a2 (by decide)
 simp only [aT, show ¬ (63 : UInt8) = 33 by decide, if_true, if_false, xS (n := n) (by omega) (by omega)]; simp_all
theorem aCQ {x : List UInt8} {l : List (List UInt8)} (s : UInt8) (h : x ≠ []) : joinL [s] (x :: l) ≠ [] := by
 rw [eE]; intro e; exact h (List.append_eq_nil_iff.1 e).1
theorem wB {l : List (List UInt8)} (hn : ∀ w, w ∈ l → w ≠ []) (h : ∀ w, w ∈ l → Pass 44 0 w) : cX (joinL [44] l) = l := by
 cases l with
 | nil => rfl
 | cons x l =>
  rw [cX, if_neg (aCQ 44 (hn x (by simp)))]
  exact (u3 (sep := 44) (by decide) (by simp) h).1
theorem aGL {x : List Cl} (h : ∀ c, c ∈ x → v7 c) : o5 (joinL [44] (x.map bB)) = x ∧ nT (joinL [44] (x.map bB)) = true := by
 have hw : cX (joinL [44] (x.map bB)) = x.map bB := by
  refine wB (fun w hw => ?_) fun w hw => ?_
  obtain ⟨c, hc, rfl⟩ := List.mem_map.1 hw
  obtain ⟨y, t, e, _⟩ := jY (h c hc)
  rw [e]; simp
  obtain ⟨c, hc, rfl⟩ := List.mem_map.1 hw
  exact Pass.cell (.inl rfl) (h c hc)
 rw [o5, nT, hw]
 constructor
 rw [List.map_map]
 conv => rhs; rw [← List.map_id x]
 refine List.map_congr_left fun c hc => ?_
 obtain ⟨y, t, e, _, hp⟩ := jY (h c hc)
 simp only [Function.comp_apply, e, List.headD_cons, List.drop_succ_cons, List.drop_zero, hp, id]
 rw [List.all_eq_true]
 intro w hw
 obtain ⟨c, hc, rfl⟩ := List.mem_map.1 hw
 obtain ⟨y, t, e, _⟩ := jY (h c hc)
 rw [e]; rfl
theorem rI (cols : List (List UInt8)) (rows : List (List Cl)) : joinL [44] cols ++ rows.flatMap fP = joinL [59] (joinL [44] cols :: rows.map fun r => joinL [44] (r.map bB)) := by
 rw [eE, List.flatMap_map]; rfl
theorem s6 {cols : List (List UInt8)} {rows : List (List Cl)} {sep : UInt8} {d : Int} (hs : aOF sep) (h44 : ¬ ((44 : UInt8) = sep ∧ d = 0)) (hn : ∀ x, x ∈ cols → bW x = true) (hr : ∀ r, r ∈ rows → r.length = cols.length ∧ ∀ c, c ∈ r → v7 c) : ∀ w, w ∈ joinL [44] cols :: rows.map (fun r => joinL [44] (r.map bB)) → Pass sep d w := by
 have h1 : Pass sep d [44] := Pass.one (by decide) h44
 intro w hw
 rcases List.mem_cons.1 hw with rfl | hw
 exact Pass.join h1 fun w hw => Pass.plc hs (aCG (hn w hw))
 obtain ⟨r, hr2, rfl⟩ := List.mem_map.1 hw
 refine Pass.join h1 fun w hw => ?_
 obtain ⟨c, hc, rfl⟩ := List.mem_map.1 hw
 exact Pass.cell hs ((hr r hr2).2 c hc)
theorem aHY {v : Vl} (hk : v.kind = 5) (hv : aU v = true) : fO (joinL [44] v.cols ++ v.rows.flatMap fP) = v := by
 obtain ⟨a1, a2, a3, _, _, _, _, _, _, _, a11⟩ := dP hv
 obtain ⟨na, ra⟩ := lS (a11 hk)
 obtain ⟨h1, h2⟩ := u3 (sep := 59) (by decide) (List.cons_ne_nil _ _) (s6 (.inr (.inl rfl)) (by decide) na ra)
 rw [rI]
 unfold fO
 rw [show ((59 : UInt8).toNat : Int) = 59 from rfl] at h1 h2
 rw [h1, h2]
 have hall : (((joinL [44] v.cols :: v.rows.map fun r => joinL [44] (r.map bB))).drop 1).all nT = true := by
  rw [List.drop_succ_cons, List.drop_zero, List.all_eq_true]
  intro w hw
  obtain ⟨r, hr, rfl⟩ := List.mem_map.1 hw
  exact (aGL (ra r hr).2).2
 rw [if_pos ⟨rfl, hall⟩, List.drop_succ_cons, List.drop_zero, List.headD_cons, List.map_map]
 have hc : cX (joinL [44] v.cols) = v.cols := by
  refine wB (fun w hw => ?_) fun w hw => Pass.plc (.inl rfl) (aCG (na w hw))
  obtain ⟨_, c, u, h, _⟩ := oG (na w hw); rw [h]; simp
 have hr : v.rows.map (o5 ∘ fun r => joinL [44] (r.map bB)) = v.rows := by
  conv => rhs; rw [← List.map_id v.rows]
  exact List.map_congr_left fun r hr => (aGL (ra r hr).2).1
 rw [hc, hr]
 obtain ⟨k, s, dn, ds, n, cols, rows⟩ := v
 simp only at a1 a2 a3 hk
 subst hk
 have := a1 (by decide); have := a2 (by decide); have := a3 (by decide)
 simp_all
theorem aA7 {v : Vl} (hv : aU v = true) : cG v ≠ [] := by
 by_cases hk : v.kind = 5
 have := iO hk hv []
 rw [List.append_nil] at this
 rw [this]; simp
 obtain ⟨_, h2, h3⟩ := l6 hk hv
 obtain ⟨x, t, e, _⟩ := jY h2
 rw [h3, e]; simp
theorem refM_of {v : Vl} (hv : aU v = true) : iT (cG v) = v := by
 by_cases hk : v.kind = 5
 have e := iO hk hv []
 rw [List.append_nil] at e
 have e2 : joinL [44] v.cols ++ (v.rows.flatMap fP ++ 93 :: []) = (joinL [44] v.cols ++ v.rows.flatMap fP) ++ [93] := by simp
 rw [e, e2, iT, if_pos rfl]
 rw [List.length_append, List.length_singleton, Nat.add_sub_cancel, List.take_left]
 exact aHY hk hv
 obtain ⟨h1, h2, h3⟩ := l6 hk hv
 obtain ⟨x, t, e, hx, hp⟩ := jY h2
 rw [h3, e, iT, if_neg hx, hp, h1]
theorem jX {s : List UInt8} (hs : s ≠ []) : decide (aW (iT s) = s) = bP s ∧ (if aW (iT s) = s then iT s else Vl.z) = bK s := by
 by_cases h : aW (iT s) = s
 have hr : aU (iT s) = true := by
  cases hb : aU (iT s) with
  | true => rfl
  | false => rw [aW, hb] at h; exact absurd h.symm hs
 obtain ⟨h1, h2⟩ := tQ hr h
 rw [h1, h2, if_pos h]; exact ⟨by simp [h], rfl⟩
 have hk : bP s = false := by
  cases hb : bP s with
  | false => rfl
  | true =>
   obtain ⟨h1, h2⟩ := yT hb
   exfalso
   apply h
   have e : cG (bK s) = s := by
    have e0 := h2
    rw [aW, if_pos h1] at e0
    exact e0
   have e2 := refM_of h1
   rw [e] at e2
   rw [e2, h2]
 rw [hk, if_neg h, bK, hk]; exact ⟨by simp [h], rfl⟩
theorem read_nil : bP [] = false ∧ bK [] = Vl.z := by
 have hk : bP [] = false := by
  cases hb : bP [] with
  | false => rfl
  | true =>
   obtain ⟨h1, h2⟩ := yT hb
   rw [aW, if_pos h1] at h2
   exact absurd h2 (aA7 h1)
 exact ⟨hk, by rw [bK, hk]; rfl⟩
noncomputable def fZ : Nat → List Vl → List UInt8 → Bool × List Vl × List UInt8
 | 0, acc, r => (true, acc, r)
 | n + 1, acc, r =>
  if (aJ r).1 = true then
   (if bJ 124 (aJ r).2.2 = true then fZ n (acc ++ [(aJ r).2.1]) (aH 124 (aJ r).2.2) else (true, acc ++ [(aJ r).2.1], (aJ r).2.2))
  else (false, [], (aJ r).2.2)
theorem oX {v : Vl} (h : aU v = true) : aW v = cG v := by rw [aW, if_pos h]
theorem aAY : ∀ (n : Nat) (v : Vl) (l acc : List Vl), l.length < n → (∀ x, x ∈ v :: l → aU x = true) → fZ n acc (aW v ++ (l.map aW).flatMap (fun y => 124 :: y)) = (true, acc ++ v :: l, [])
 | 0, _, _, _, h, _ => absurd h (Nat.not_lt_zero _)
 | n + 1, v, l, acc, h, hx => by
  have hv := hx v (by simp)
  have hm := wF hv (lA (s := 124) rfl (.inl rfl) (l.map aW))
  rw [List.append_nil] at hm
  rw [oX hv, fZ, hm, if_pos rfl]
  cases l with
  | nil =>
   rw [List.map_nil, List.flatMap_nil]
   rfl
  | cons w l =>
   have ih := aAY n w l (acc ++ [v]) (by simp only [List.length_cons] at h; omega) fun x hx2 => hx x (List.mem_cons_of_mem _ hx2)
   have e : ((w :: l).map aW).flatMap (fun y => 124 :: y) = 124 :: (aW w ++ (l.map aW).flatMap (fun y => 124 :: y)) := by simp
   rw [e, (dN 124 _).1, if_pos rfl, (dN 124 _).2, ih]; simp
noncomputable def dH (s : List UInt8) : Bool := decide (s = []) || ((fZ 8 [] s).1 && decide (aD (fZ 8 [] s).2.1 = s))
noncomputable def dJ (s : List UInt8) : List Vl := if dH s = true ∧ s ≠ [] then (fZ 8 [] s).2.1 else []
theorem tD {l : List Vl} {s : List UInt8} (h : aD l = s) (hs : s ≠ []) : l.length ≤ 8 ∧ (∀ v, v ∈ l → aU v = true) ∧ s = joinL [124] (l.map aW) ∧ l ≠ [] := by
 unfold aD at h
 split at h
 rename_i hc
 refine ⟨hc.1, fun v hv => ?_, h.symm, ?_⟩
 obtain ⟨i, hi, rfl⟩ := List.mem_iff_getElem.1 hv
 have := gE hc.2 hi
 simpa [hi] using this
 rintro rfl; exact hs (by rw [← h]; rfl)
 exact absurd h.symm hs
theorem yM {l : List Vl} (hl : l.length ≤ 8) (hr : ∀ v, v ∈ l → aU v = true) (hn : l ≠ []) : dH (aD l) = true ∧ dJ (aD l) = l ∧ aD l ≠ [] := by
 have e : aD l = joinL [124] (l.map aW) := lW hl fun j hj => hr _ (bO hj)
 cases l with
 | nil => exact absurd rfl hn
 | cons v l =>
  have hv := hr v (by simp)
  have hne : aD (v :: l) ≠ [] := by
   rw [e, List.map_cons, oX hv]; exact aCQ 124 (aA7 hv)
  have hm := aAY 8 v l [] (by simp only [List.length_cons] at hl; omega) hr
  rw [List.nil_append] at hm
  have e3 : aD (v :: l) = aW v ++ (l.map aW).flatMap (fun y => 124 :: y) := by rw [e, List.map_cons, eE]
  rw [← e3] at hm
  have hk : dH (aD (v :: l)) = true := by rw [dH, hm]; simp
  exact ⟨hk, by rw [dJ, if_pos ⟨hk, hne⟩, hm], hne⟩
theorem row_nil : dH [] = true ∧ dJ [] = [] := ⟨rfl, by rw [dJ, if_neg (by rintro ⟨_, h⟩; exact h rfl)]⟩
theorem Pass.text {v : Vl} (hv : aU v = true) : Pass 124 0 (cG v) := by
 by_cases hk : v.kind = 5
 have e := iO hk hv []
 rw [List.append_nil] at e
 obtain ⟨_, _, _, _, _, _, _, _, _, _, a11⟩ := dP hv
 obtain ⟨na, ra⟩ := lS (a11 hk)
 have e2 : joinL [44] v.cols ++ (v.rows.flatMap fP ++ 93 :: []) = (joinL [44] v.cols ++ v.rows.flatMap fP) ++ [93] := by simp
 rw [e, e2, rI]
 exact Pass.box (Pass.join (Pass.one (by decide) (by decide)) (s6 (.inr (.inr rfl)) (by decide) na ra))
 obtain ⟨_, h2, h3⟩ := l6 hk hv
 rw [h3]; exact Pass.cell (.inr (.inr rfl)) h2
theorem aGQ {s : List UInt8} (hs : s ≠ []) : (gC s 124 && (aE s 124).all bP && decide (aD ((aE s 124).map bK) = s)) = dH s ∧ (if (gC s 124 && (aE s 124).all bP && decide (aD ((aE s 124).map bK) = s)) = true then (aE s 124).map bK else []) = dJ s := by
 cases hb : (gC s 124 && (aE s 124).all bP && decide (aD ((aE s 124).map bK) = s)) with
 | true =>
  simp only [Bool.and_eq_true, decide_eq_true_eq] at hb
  obtain ⟨h1, h2, h3, h4⟩ := tD hb.2 hs
  obtain ⟨k1, k2, _⟩ := yM h1 h2 h4
  rw [hb.2] at k1 k2
  rw [k1, k2]; exact ⟨rfl, rfl⟩
 | false =>
  have hk : dH s = false := by
   cases hr : dH s with
   | false => rfl
   | true =>
    exfalso
    simp only [dH, Bool.or_eq_true, Bool.and_eq_true, decide_eq_true_eq] at hr
    rcases hr with hr | ⟨_, hr⟩
    exact hs hr
    obtain ⟨h1, h2, h3, h4⟩ := tD hr hs
    generalize (fZ 8 [] s).2.1 = l at *
    have hc := u3 (sep := 124) (by decide) (l := l.map aW) (by simpa using h4) fun w hw => by
     obtain ⟨v, hv, rfl⟩ := List.mem_map.1 hw
     rw [oX (h2 v hv)]; exact Pass.text (h2 v hv)
    rw [← h3, show ((124 : UInt8).toNat : Int) = 124 from rfl] at hc
    have hm : (l.map aW).map bK = l := by
     rw [List.map_map]
     conv => rhs; rw [← List.map_id l]
     exact List.map_congr_left fun v hv => (tQ (h2 v hv) rfl).2
    rw [hc.1, hc.2, hm, hr] at hb
    have ha : (l.map aW).all bP = true := by
     rw [List.all_eq_true]
     intro w hw
     obtain ⟨v, hv, rfl⟩ := List.mem_map.1 hw
     exact (tQ (h2 v hv) rfl).1
    rw [ha] at hb
    simp at hb
  rw [hk, dJ, hk]
  exact ⟨rfl, by rw [if_neg (by decide), if_neg (by rintro ⟨h, _⟩; cases h)]⟩
end Go.Proofs.YtmpgfchkkemngaaGreatDoor
namespace Go.Proofs.YtmpgfchkkemngaaGreatDoor
open Go.RowKit Go.V
open Go.Eng (inR byteAt u8 bH)
variable {g : Gv}
theorem jV {c : UInt8} {l : List UInt8} (h : bJ c l = true) : (aH c l).length + 1 = l.length := by
 cases l with
 | nil => cases h
 | cons x r =>
  have hx : x = c := by simpa [bJ] using h
  simp [aH, hx]
theorem pM {α : Type} (l : List α) (x : α) : (l ++ [x]).length = l.length + 1 := by simp
theorem aM9 {r : List UInt8} (h : (¬ r = [] ∧ ¬ byteAt (S r) 0 = 59) ∧ ¬ byteAt (S r) 0 = 93) : aC6 r = false := by
 cases r with
 | nil => exact absurd rfl h.1.1
 | cons x t =>
  rw [gI] at h
  have h1 : ¬ x = 59 := fun e => h.1.2 (by rw [e]; rfl)
  have h2 : ¬ x = 93 := fun e => h.2 (by rw [e]; rfl)
  simp [aC6, h1, h2]
theorem endC_t {r : List UInt8} (h : (r = [] ∨ byteAt (S r) 0 = 59) ∨ byteAt (S r) 0 = 93) : aC6 r = true := by
 cases r with
 | nil => rfl
 | cons x t =>
  rw [gI] at h
  have q : ∀ y : UInt8, (x.toNat : Int) = (y.toNat : Int) → x = y := fun y e => UInt8.toNat_inj.1 (by omega)
  rcases h with (h | h) | h
  cases h
  rw [q 59 h]; rfl
  rw [q 93 h]; rfl
theorem oP {m : Nat} {acc : List (List UInt8)} {r : List UInt8} (h : r.length < m) : eB m acc r = (if aC6 r = true then (acc, r)
  else if bJ 44 (r.dropWhile aN) = true then eB (m - 1) (acc ++ [r.takeWhile aN]) (aH 44 (r.dropWhile aN))
  else (acc ++ [r.takeWhile aN], r.dropWhile aN)) := by
 cases m with
 | zero => omega
 | succ m => rfl
theorem dV {m k : Nat} {acc : List (List Cl)} {r : List UInt8} (h : r.length < m) : gV m k acc r = (if bJ 59 r = true then
   (if (bM k true [] (aH 59 r)).1 = true then gV (m - 1) k (acc ++ [(bM k true [] (aH 59 r)).2.1]) (bM k true [] (aH 59 r)).2.2 else (false, [], (bM k true [] (aH 59 r)).2.2))
  else (true, acc, r)) := by
 cases m with
 | zero => omega
 | succ m => rfl
theorem aGM (n : Nat) (r : List UInt8) : (bM n true [] r).2.2.length ≤ r.length := (tE r.length n true [] r (Nat.le_refl _) (fun c hc => by cases hc)).1
noncomputable def qD (l : List UInt8) : Bool := (gV ((eB (l.length + 1) [] l).2.length + 1) (eB (l.length + 1) [] l).1.length [] (eB (l.length + 1) [] l).2).1
theorem fT {l r0 : List UInt8} {C : List (List UInt8)} {q : Bool × List (List Cl) × List UInt8} {k : Nat} (hC : eB (l.length + 1) [] l = (C, r0)) (hk : k = C.length) (hq : gV (r0.length + 1) k [] r0 = q) : qD l = q.1 ∧ d5 l = (if q.1 = true then (bJ 93 q.2.2, ⟨5, [], 0, 0, 0, C, q.2.1⟩, aH 93 q.2.2) else (false, Vl.z, q.2.2)) := by
 subst hk; subst hq
 unfold qD d5
 rw [hC]; exact ⟨rfl, rfl⟩
theorem aH0 {l : List UInt8} (h : qD l = false) : (d5 l).1 = false ∧ (d5 l).2.1 = Vl.z := by
 unfold qD at h
 unfold d5
 dsimp only
 rw [h]; exact ⟨rfl, rfl⟩
theorem kP {es : List (List D)} {acc : List (List Cl)} (x : List Cl) (h : es = rowsD acc) : es ++ [[D.sl 7 (rowD x)]] = rowsD (acc ++ [x]) := by
 rw [h]; simp [rowsD, fK]
theorem aGE {es : List (List D)} {acc : List (List UInt8)} (x : List UInt8) (h : es = strs acc) : es ++ [[D.s (S x)]] = strs (acc ++ [x]) := by rw [h, qG]
theorem oW {es : List (List D)} {acc : List Vl} (v : Vl) (h : es = valsD acc) : es ++ [[D.i v.kind, .s (S v.s), .i v.dn, .i v.ds, .i v.n, .sl 1 (strs v.cols), .sl 1 (rowsD v.rows)]] = valsD (acc ++ [v]) := by rw [h]; simp [valsD, VlD]
theorem n5 {es : List (List D)} {acc : List Vl} (h : es = valsD acc) (hf : ∀ v, v ∈ acc → v.fit) : SpG g 20 [.c (cM 7 es)] [] (.c (cS (S (aD acc)))) [] := by subst h; exact nQ acc hf
theorem kM {m : Nat} {acc : List Vl} {r : List UInt8} (h : acc.length < 8) : fZ (8 - acc.length) acc r = (if (aJ r).1 = true then
   (if bJ 124 (aJ r).2.2 = true then fZ (8 - (acc.length + 1)) (acc ++ [(aJ r).2.1]) (aH 124 (aJ r).2.2) else (true, acc ++ [(aJ r).2.1], (aJ r).2.2))
  else (false, [], (aJ r).2.2)) := by
 obtain ⟨m, hm⟩ : ∃ m, 8 - acc.length = m + 1 := ⟨8 - acc.length - 1, by omega⟩
 rw [hm, fZ, show 8 - (acc.length + 1) = m by omega]
theorem aC2 {acc : List Vl} {v : Vl} (h : ∀ v, v ∈ acc → v.fit) (hv : v.fit) : ∀ x, x ∈ acc ++ [v] → x.fit := by
 intro x hx
 rcases List.mem_append.1 hx with hx | hx
 exact h x hx
 rw [List.mem_singleton] at hx; rw [hx]; exact hv
theorem yO {s : List UInt8} (hs : s ≠ []) (h : (fZ 8 [] s).1 = false ∨ ¬ aD (fZ 8 [] s).2.1 = s) : dH s = false := by
 unfold dH
 rcases h with h | h <;> simp [hs, h]
theorem aBJ {s : List UInt8} {l : List Vl} {r : List UInt8} (hs : s ≠ []) (h : fZ 8 [] s = (true, l, r)) (ht : aD l = s) : dH s = true ∧ dJ s = l := by
 have hk : dH s = true := by unfold dH; rw [h]; simp [ht]
 exact ⟨hk, by rw [dJ, if_pos ⟨hk, hs⟩, h]⟩
theorem aB2 {s : List UInt8} (h : bP s = false) : bK s = Vl.z := by rw [bK, h]; rfl
def aJ0 := And.intro @List.length_append.{0} (And.intro @List.length_cons.{0} (And.intro @List.length_map.{0, 0} (And.intro @List.length_nil.{0} (And.intro @Go.Eng.inR.eq_1 (And.intro @rowsD.eq_1 (@strs.eq_1))))))
abbrev y43 : Ob := .box 30 [cI 5, cS (S []), cI 0, cI 0, cI 0, .ar 9001 0, cN]
abbrev y44 : Ob := .box 30 [cI 5, cS (S []), cI 0, cI 0, cI 0, .ar 9001 0, .ar 9002 0]
theorem table_ (hE : jH g) (l : List UInt8) (hl : l.length < 900000000) :
  SpG g 85 [.c (.bx 0 0)] [(0, .box 90 [cS (S l)])] (if qD l = true then .tup [(true, (zV ((d5 l).2.1))), (false, [cB ((d5 l).1)])] else y37) [(0, y35 (S (d5 l).2.2))] := by
 refine aG 61 Tryz.func85 (by kernel_rfl) fun fr hG => ?_
 refine zA hG [] [0, 0, 1, 1] (⟨[zX 0 0 0, zX 2 100 0, zB 3 false, zX 4 201 0], [(0, .box 90 [cS (S l)]), (100, y11), (201, y13)]⟩) [] [(201, 5, 9001, 9, 1)] (fun (zz : Nat × List (List UInt8) × List UInt8 × List (List D)) => match zz with | (m, acc, r, es) => (r.length, ⟨[zX 0 0 0, zX 2 100 0, zB 3 false, zX 4 201 0], [(0, .box 90 [cS (S r)]), (100, y11), (201, y43), (9001, .arr 0 9 1 (es))]⟩, eB (l.length + 1) [] l = eB m acc r ∧ r.length < m ∧ acc.length + r.length ≤ l.length ∧ es = strs acc)) (l.length + 1, [], l, []) aA ?_ ?_
 exact ⟨rfl, by omega, by simp, rfl⟩
 rintro ⟨m, acc, r, es⟩ ⟨hm, hrm, har, hes⟩
 have hel : es.length = acc.length := by rw [hes, strs, List.length_map]
 have hdw := aAH r
 have hsk := cD 44 (r.dropWhile aN)
 refine zc hG [] [1, 0] (((!((S r).toList == (S []).toList)) && (!decide ((byteAt (S r) 0 : Int) = 59))) && (!decide ((byteAt (S r) 0 : Int) = 93))) (aC (by first | (intro h; simp only [Bool.and_eq_true, Bool.not_eq_true', dY] at h; have := List.length_pos_iff.2 h.1; rw [aF]; omega) | (intro h; simp only [Bool.not_eq_true', dY] at h; have := List.length_pos_iff.2 h; rw [aF]; omega) | (intros; (try simp only [aJ0] at *); omega) : (!((S r).toList == (S []).toList)) = true → (0 : Int) ≤ 0 ∧ 0 < ((S r).size : Int)) (aB (by first | (intro h; simp only [Bool.and_eq_true, Bool.not_eq_true', dY] at h; have := List.length_pos_iff.2 h.1; rw [aF]; omega) | (intro h; simp only [Bool.not_eq_true', dY] at h; have := List.length_pos_iff.2 h; rw [aF]; omega) | (intros; (try simp only [aJ0] at *); omega) : ((!((S r).toList == (S []).toList)) && (!decide ((byteAt (S r) 0 : Int) = 59))) = true → (0 : Int) ≤ 0 ∧ 0 < ((S r).size : Int)))) (fun hc2 => ?_) (fun hc2 => ?_)
 (try simp only [dZ] at hc2)
 refine zC hG [(3, 3, .callG (.c (cS (S (r.takeWhile aN)))) [0] [(0, y35 (S (r.dropWhile aN)))]), (4, 1, .callG (.c (cB (bJ 44 (r.dropWhile aN)))) [0] [(0, y35 (S (aH 44 (r.dropWhile aN))))])] [1, 1, 0, 1] (!(bJ 44 (r.dropWhile aN))) (⟨[zX 0 0 0, zX 2 100 0, zB 3 false, zX 4 201 0], [(0, y35 (S (aH 44 (r.dropWhile aN)))), (100, y11), (201, y43), (9001, .arr 0 9 1 (es ++ ([[.s (S (r.takeWhile aN))]] : List (List D))))]⟩) (aC (mQ r (by omega) : SpG g _ _ _ _ _) (aC (by first | (intro h; simp only [Bool.and_eq_true, Bool.not_eq_true', dY] at h; have := List.length_pos_iff.2 h.1; rw [aF]; omega) | (intro h; simp only [Bool.not_eq_true', dY] at h; have := List.length_pos_iff.2 h; rw [aF]; omega) | (intros; (try simp only [aJ0] at *); omega) : ((es).length + ([[.s (S (r.takeWhile aN))]] : List (List D)).length) * (16 + 1) ≤ 140737488355328) (aB (iA (r.dropWhile aN) 44 : SpG g _ _ _ _ _)))) (fun hc3 => ?_) (fun hc3 => ?_)
 (try simp only [dZ] at hc3)
 refine zE hG [] (.exit 0) (⟨[zX 0 0 0, zX 2 100 0, zB 3 false, zX 4 201 0], [(0, y35 (S (aH 44 (r.dropWhile aN)))), (100, y11), (201, y43), (9001, .arr 0 9 1 (es ++ ([[.s (S (r.takeWhile aN))]] : List (List D))))]⟩) aA rfl ?_
 refine zA hG [] [0, 0, 1, 1, 1] (⟨[zX 0 0 0, zX 2 100 0, zB 3 false, zX 4 201 0], [(0, y35 (S (aH 44 (r.dropWhile aN)))), (100, y11), (201, y43), (9001, .arr 0 9 1 (es ++ ([[.s (S (r.takeWhile aN))]] : List (List D))))]⟩) [] [(201, 6, 9002, 33, 1)] (fun (zz : Nat × List (List Cl) × List UInt8 × List (List D)) => match zz with | (m2, acc2, r2, es2) => (r2.length, ⟨[zX 0 0 0, zX 2 100 0, zB 3 false, zX 4 201 0], [(0, .box 90 [cS (S r2)]), (100, y11), (201, y44), (9001, .arr 0 9 1 (es ++ ([[.s (S (r.takeWhile aN))]] : List (List D)))), (9002, .arr 0 33 1 (es2))]⟩, gV ((aH 44 (r.dropWhile aN)).length + 1) (es ++ ([[.s (S (r.takeWhile aN))]] : List (List D))).length [] (aH 44 (r.dropWhile aN)) = gV m2 (es ++ ([[.s (S (r.takeWhile aN))]] : List (List D))).length acc2 r2 ∧ r2.length < m2 ∧ acc2.length + r2.length ≤ l.length ∧ es2 = rowsD acc2)) ((aH 44 (r.dropWhile aN)).length + 1, [], (aH 44 (r.dropWhile aN)), []) aA ?_ ?_
 have hC0 : (aH 44 (r.dropWhile aN)).length ≤ l.length := by have h1 := aAH r; have h2 := cD 44 (r.dropWhile aN); omega
 exact ⟨rfl, by omega, by simp only [List.length_nil]; omega, rfl⟩
 rintro ⟨m2, acc2, r2, es2⟩ ⟨hm2, hrm2, har2, hes2⟩
 have hC : eB (l.length + 1) [] l = ((acc ++ [r.takeWhile aN]), (aH 44 (r.dropWhile aN))) := by
  rw [hm, oP hrm, if_neg (by rw [aM9 hc2]; decide), if_neg (by simpa using hc3), fJ (by simpa using hc3)]
 have hES : es ++ ([[.s (S (r.takeWhile aN))]] : List (List D)) = strs (acc ++ [r.takeWhile aN]) := aGE _ hes
 have hKN : (es ++ ([[.s (S (r.takeWhile aN))]] : List (List D))).length = (acc ++ [r.takeWhile aN]).length := by rw [hES, strs, List.length_map]
 have hel2 : es2.length = acc2.length := by rw [hes2, rowsD, List.length_map]
 have hs59 := cD 59 r2
 have hra := aGM (es ++ ([[.s (S (r.takeWhile aN))]] : List (List D))).length (aH 59 r2)
 have hKl : (es ++ ([[.s (S (r.takeWhile aN))]] : List (List D))).length ≤ l.length + 1 := by rw [hKN]; have := (nJ l.length (l.length + 1) [] l (Nat.le_refl _) (fun c hc => by cases hc)).2.2; rw [hC] at this; simpa using this
 refine zC hG [(5, 1, .callG (.c (cB (bJ 59 r2))) [0] [(0, y35 (S (aH 59 r2)))])] [1, 0] (bJ 59 r2) (⟨[zX 0 0 0, zX 2 100 0, zB 3 false, zX 4 201 0], [(0, y35 (S (aH 59 r2))), (100, y11), (201, y44), (9001, .arr 0 9 1 (es ++ ([[.s (S (r.takeWhile aN))]] : List (List D)))), (9002, .arr 0 33 1 (es2))]⟩) (aB (iA r2 59 : SpG g _ _ _ _ _)) (fun hc5 => ?_) (fun hc5 => ?_)
 (try simp only [dZ] at hc5)
 refine zC hG [(6, 4, .callG (y42 (rowD ((bM ((es ++ ([[.s (S (r.takeWhile aN))]] : List (List D))).length) true [] (aH 59 r2)).2.1)) ((bM ((es ++ ([[.s (S (r.takeWhile aN))]] : List (List D))).length) true [] (aH 59 r2)).1)) [0] [(0, y35 (S (bM ((es ++ ([[.s (S (r.takeWhile aN))]] : List (List D))).length) true [] (aH 59 r2)).2.2))])] [1, 0, 1, 0, 1] (!((bM ((es ++ ([[.s (S (r.takeWhile aN))]] : List (List D))).length) true [] (aH 59 r2)).1)) (⟨[zX 0 0 0, zX 2 100 0, zB 3 false, zX 4 201 0, zM 5 7 (rowD ((bM ((es ++ ([[.s (S (r.takeWhile aN))]] : List (List D))).length) true [] (aH 59 r2)).2.1))], [(0, y35 (S (bM ((es ++ ([[.s (S (r.takeWhile aN))]] : List (List D))).length) true [] (aH 59 r2)).2.2)), (100, y11), (201, y44), (9001, .arr 0 9 1 (es ++ ([[.s (S (r.takeWhile aN))]] : List (List D)))), (9002, .arr 0 33 1 (es2))]⟩) (aB (aKP hE ((es ++ ([[.s (S (r.takeWhile aN))]] : List (List D))).length) (aH 59 r2) (by omega) (by omega) : SpG g _ _ _ _ _)) (fun hc6 => ?_) (fun hc6 => ?_)
 (try simp only [dZ] at hc6)
 refine zE hG [] .ret (⟨[zX 0 0 0, zX 2 100 0, zB 3 false, zX 4 201 0], [(0, y35 (S (bM ((es ++ ([[.s (S (r.takeWhile aN))]] : List (List D))).length) true [] (aH 59 r2)).2.2)), (100, y11), (201, y44), (9001, .arr 0 9 1 (es ++ ([[.s (S (r.takeWhile aN))]] : List (List D)))), (9002, .arr 0 33 1 (es2))]⟩) aA rfl ?_
 refine zR hG [] [] (y37) [(0, y35 (S (bM ((es ++ ([[.s (S (r.takeWhile aN))]] : List (List D))).length) true [] (aH 59 r2)).2.2))] aA ?_ ?_
 have hT := fT hC hKN (by rw [hm2, dV hrm2, if_pos hc5, if_neg (by simpa using hc6)])
 rw [hT.1, if_neg (by simp)]
 have hT := fT hC hKN (by rw [hm2, dV hrm2, if_pos hc5, if_neg (by simpa using hc6)])
 rw [hT.2, if_neg (by simp)]
 (try simp only [dZ] at hc6)
 refine zD hG [] (m2 - 1, acc2 ++ [(bM (es ++ ([[.s (S (r.takeWhile aN))]] : List (List D))).length true [] (aH 59 r2)).2.1], (bM (es ++ ([[.s (S (r.takeWhile aN))]] : List (List D))).length true [] (aH 59 r2)).2.2, es2 ++ ([[.sl 7 (rowD ((bM ((es ++ ([[.s (S (r.takeWhile aN))]] : List (List D))).length) true [] (aH 59 r2)).2.1))]] : List (List D))) (aB (by first | (intro h; simp only [Bool.and_eq_true, Bool.not_eq_true', dY] at h; have := List.length_pos_iff.2 h.1; rw [aF]; omega) | (intro h; simp only [Bool.not_eq_true', dY] at h; have := List.length_pos_iff.2 h; rw [aF]; omega) | (intros; (try simp only [aJ0] at *); omega) : ((es2).length + (([[.sl 7 (rowD ((bM ((es ++ ([[.s (S (r.takeWhile aN))]] : List (List D))).length) true [] (aH 59 r2)).2.1))]] : List (List D))).length) * (24 + 1) ≤ 140737488355328)) ?_ ?_
 (try dsimp only); have := jV (c := 59) (l := r2) hc5; omega
 have hlt := jV (c := 59) (l := r2) hc5
 refine ⟨?_, by omega, by rw [pM acc2]; omega, kP _ hes2⟩
 rw [hm2, dV hrm2, if_pos hc5, if_pos (by simpa using hc6)]
 (try simp only [dZ] at hc5)
 refine zE hG [] (.exit 2) (⟨[zX 0 0 0, zX 2 100 0, zB 3 false, zX 4 201 0], [(0, y35 (S (aH 59 r2))), (100, y11), (201, y44), (9001, .arr 0 9 1 (es ++ ([[.s (S (r.takeWhile aN))]] : List (List D)))), (9002, .arr 0 33 1 (es2))]⟩) aA rfl ?_
 refine zR hG [(10, 2, .callG (.c (cB (bJ 93 (aH 59 r2)))) [0] [(0, y35 (S (aH 93 (aH 59 r2))))])] [] (.tup [(true, [cI 5, cS (S []), cI 0, cI 0, cI 0, cM 1 (es ++ ([[.s (S (r.takeWhile aN))]] : List (List D))), cM 1 (es2)]), (false, [cB (bJ 93 (aH 59 r2))])]) [(0, y35 (S (aH 93 (aH 59 r2))))] (aB (iA (aH 59 r2) 93 : SpG g _ _ _ _ _)) ?_ ?_
 have hT := fT hC hKN (by rw [hm2, dV hrm2, if_neg (by simpa using hc5)])
 rw [hT.1, if_pos rfl, hT.2, if_pos rfl, hES, hes2, fJ (c := 59) (l := r2) (by simpa using hc5)]
 have hT := fT hC hKN (by rw [hm2, dV hrm2, if_neg (by simpa using hc5)])
 rw [hT.2, if_pos rfl, fJ (c := 59) (l := r2) (by simpa using hc5)]
 (try simp only [dZ] at hc3)
 refine zD hG [] (m - 1, acc ++ [r.takeWhile aN], aH 44 (r.dropWhile aN), es ++ ([[.s (S (r.takeWhile aN))]] : List (List D))) aA ?_ ?_
 (try dsimp only); have := jV (c := 44) (l := r.dropWhile aN) (by simpa using hc3); omega
 have hlt := jV (c := 44) (l := r.dropWhile aN) (by simpa using hc3)
 refine ⟨?_, by omega, by simp only [dB]; omega, aGE _ hes⟩
 rw [hm, oP hrm, if_neg (by rw [aM9 hc2]; decide), if_pos (by simpa using hc3)]
 (try simp only [dZ] at hc2)
 refine zE hG [] (.exit 0) (⟨[zX 0 0 0, zX 2 100 0, zB 3 false, zX 4 201 0], [(0, .box 90 [cS (S r)]), (100, y11), (201, y43), (9001, .arr 0 9 1 (es))]⟩) aA rfl ?_
 refine zA hG [] [0, 0, 1, 1, 1] (⟨[zX 0 0 0, zX 2 100 0, zB 3 false, zX 4 201 0], [(0, .box 90 [cS (S r)]), (100, y11), (201, y43), (9001, .arr 0 9 1 (es))]⟩) [] [(201, 6, 9002, 33, 1)] (fun (zz : Nat × List (List Cl) × List UInt8 × List (List D)) => match zz with | (m2, acc2, r2, es2) => (r2.length, ⟨[zX 0 0 0, zX 2 100 0, zB 3 false, zX 4 201 0], [(0, .box 90 [cS (S r2)]), (100, y11), (201, y44), (9001, .arr 0 9 1 (es)), (9002, .arr 0 33 1 (es2))]⟩, gV (r.length + 1) (es).length [] r = gV m2 (es).length acc2 r2 ∧ r2.length < m2 ∧ acc2.length + r2.length ≤ l.length ∧ es2 = rowsD acc2)) (r.length + 1, [], r, []) aA ?_ ?_
 have hC0 : r.length ≤ l.length := by omega
 exact ⟨rfl, by omega, by simp only [List.length_nil]; omega, rfl⟩
 rintro ⟨m2, acc2, r2, es2⟩ ⟨hm2, hrm2, har2, hes2⟩
 have hC : eB (l.length + 1) [] l = (acc, r) := by
  rw [hm, oP hrm, if_pos (endC_t hc2)]
 have hES : es = strs acc := hes
 have hKN : (es).length = acc.length := by rw [hES, strs, List.length_map]
 have hel2 : es2.length = acc2.length := by rw [hes2, rowsD, List.length_map]
 have hs59 := cD 59 r2
 have hra := aGM (es).length (aH 59 r2)
 have hKl : (es).length ≤ l.length + 1 := by rw [hKN]; have := (nJ l.length (l.length + 1) [] l (Nat.le_refl _) (fun c hc => by cases hc)).2.2; rw [hC] at this; simpa using this
 refine zC hG [(5, 1, .callG (.c (cB (bJ 59 r2))) [0] [(0, y35 (S (aH 59 r2)))])] [1, 0] (bJ 59 r2) (⟨[zX 0 0 0, zX 2 100 0, zB 3 false, zX 4 201 0], [(0, y35 (S (aH 59 r2))), (100, y11), (201, y44), (9001, .arr 0 9 1 (es)), (9002, .arr 0 33 1 (es2))]⟩) (aB (iA r2 59 : SpG g _ _ _ _ _)) (fun hc8 => ?_) (fun hc8 => ?_)
 (try simp only [dZ] at hc8)
 refine zC hG [(6, 4, .callG (y42 (rowD ((bM ((es).length) true [] (aH 59 r2)).2.1)) ((bM ((es).length) true [] (aH 59 r2)).1)) [0] [(0, y35 (S (bM ((es).length) true [] (aH 59 r2)).2.2))])] [1, 0, 1, 0, 1] (!((bM ((es).length) true [] (aH 59 r2)).1)) (⟨[zX 0 0 0, zX 2 100 0, zB 3 false, zX 4 201 0, zM 5 7 (rowD ((bM ((es).length) true [] (aH 59 r2)).2.1))], [(0, y35 (S (bM ((es).length) true [] (aH 59 r2)).2.2)), (100, y11), (201, y44), (9001, .arr 0 9 1 (es)), (9002, .arr 0 33 1 (es2))]⟩) (aB (aKP hE ((es).length) (aH 59 r2) (by omega) (by omega) : SpG g _ _ _ _ _)) (fun hc9 => ?_) (fun hc9 => ?_)
 (try simp only [dZ] at hc9)
 refine zE hG [] .ret (⟨[zX 0 0 0, zX 2 100 0, zB 3 false, zX 4 201 0], [(0, y35 (S (bM ((es).length) true [] (aH 59 r2)).2.2)), (100, y11), (201, y44), (9001, .arr 0 9 1 (es)), (9002, .arr 0 33 1 (es2))]⟩) aA rfl ?_
 refine zR hG [] [] (y37) [(0, y35 (S (bM ((es).length) true [] (aH 59 r2)).2.2))] aA ?_ ?_
 have hT := fT hC hKN (by rw [hm2, dV hrm2, if_pos hc8, if_neg (by simpa using hc9)])
 rw [hT.1, if_neg (by simp)]
 have hT := fT hC hKN (by rw [hm2, dV hrm2, if_pos hc8, if_neg (by simpa using hc9)])
 rw [hT.2, if_neg (by simp)]
 (try simp only [dZ] at hc9)
 refine zD hG [] (m2 - 1, acc2 ++ [(bM (es).length true [] (aH 59 r2)).2.1], (bM (es).length true [] (aH 59 r2)).2.2, es2 ++ ([[.sl 7 (rowD ((bM ((es).length) true [] (aH 59 r2)).2.1))]] : List (List D))) (aB (by first | (intro h; simp only [Bool.and_eq_true, Bool.not_eq_true', dY] at h; have := List.length_pos_iff.2 h.1; rw [aF]; omega) | (intro h; simp only [Bool.not_eq_true', dY] at h; have := List.length_pos_iff.2 h; rw [aF]; omega) | (intros; (try simp only [aJ0] at *); omega) : ((es2).length + (([[.sl 7 (rowD ((bM ((es).length) true [] (aH 59 r2)).2.1))]] : List (List D))).length) * (24 + 1) ≤ 140737488355328)) ?_ ?_
 (try dsimp only); have := jV (c := 59) (l := r2) hc8; omega
 have hlt := jV (c := 59) (l := r2) hc8
 refine ⟨?_, by omega, by rw [pM acc2]; omega, kP _ hes2⟩
 rw [hm2, dV hrm2, if_pos hc8, if_pos (by simpa using hc9)]
 (try simp only [dZ] at hc8)
 refine zE hG [] (.exit 2) (⟨[zX 0 0 0, zX 2 100 0, zB 3 false, zX 4 201 0], [(0, y35 (S (aH 59 r2))), (100, y11), (201, y44), (9001, .arr 0 9 1 (es)), (9002, .arr 0 33 1 (es2))]⟩) aA rfl ?_
 refine zR hG [(10, 2, .callG (.c (cB (bJ 93 (aH 59 r2)))) [0] [(0, y35 (S (aH 93 (aH 59 r2))))])] [] (.tup [(true, [cI 5, cS (S []), cI 0, cI 0, cI 0, cM 1 (es), cM 1 (es2)]), (false, [cB (bJ 93 (aH 59 r2))])]) [(0, y35 (S (aH 93 (aH 59 r2))))] (aB (iA (aH 59 r2) 93 : SpG g _ _ _ _ _)) ?_ ?_
 have hT := fT hC hKN (by rw [hm2, dV hrm2, if_neg (by simpa using hc8)])
 rw [hT.1, if_pos rfl, hT.2, if_pos rfl, hES, hes2, fJ (c := 59) (l := r2) (by simpa using hc8)]
 have hT := fT hC hKN (by rw [hm2, dV hrm2, if_neg (by simpa using hc8)])
 rw [hT.2, if_pos rfl, fJ (c := 59) (l := r2) (by simpa using hc8)]
abbrev y45 (a0 : Vl) (a1 : Bool) : SV := .tup [(true, (zV a0)), (false, [cB a1])]
theorem aKA (hE : jH g) (l : List UInt8) (hl : l.length < 900000000) : SpG g 85 [.c (.bx 0 0)] [(0, .box 90 [cS (S l)])] (y45 ((d5 l).2.1) ((d5 l).1)) [(0, y35 (S (d5 l).2.2))] := by
 have h := table_ hE l hl
 cases hb : qD l with
 | true => rw [if_pos hb] at h; exact h
 | false =>
  rw [if_neg (by rw [hb]; decide)] at h
  obtain ⟨h1, h2⟩ := aH0 hb
  rw [h1, h2]
  exact fV [[none, none, none, none, none, some 1, some 1], []] h
theorem wE (hE : jH g) (l : List UInt8) (hl : l.length < 900000000) :
  SpG g 52 [.c (.bx 0 0)] [(0, .box 90 [cS (S l)])] (y45 ((aJ l).2.1) ((aJ l).1)) [(0, y35 (S (aJ l).2.2))] := by
 have hs91 := cD 91 l
 refine aG 14 Tryz.func52 (by kernel_rfl) fun fr hG => ?_
 refine zC hG [(1, 1, .callG (.c (cB (bJ 91 l))) [0] [(0, y35 (S (aH 91 l)))])] [1, 0, 1] (bJ 91 l) (⟨[zX 0 0 0, zX 2 100 0, zB 3 false], [(0, y35 (S (aH 91 l))), (100, y11)]⟩) (aB (iA l 91 : SpG g _ _ _ _ _)) (fun hc1 => ?_) (fun hc1 => ?_)
 (try simp only [blS] at hc1)
 refine zR hG [(2, 1, .callG (y45 ((d5 (aH 91 l)).2.1) ((d5 (aH 91 l)).1)) [0] [(0, y35 (S (d5 (aH 91 l)).2.2))])] [] (y45 ((d5 (aH 91 l)).2.1) ((d5 (aH 91 l)).1)) [(0, y35 (S (d5 (aH 91 l)).2.2))] (aB (aKA hE (aH 91 l) (by omega) : SpG g _ _ _ _ _)) ?_ ?_
 rw [aJ, if_pos hc1]
 rw [aJ, if_pos hc1]
 (try simp only [blS] at hc1)
 refine zR hG [(3, 1, .callG (y39 ((aK (aH 91 l)).2.1) ((aK (aH 91 l)).1)) [0] [(0, y35 (S (aK (aH 91 l)).2.2))])] [] (y39 ((aK (aH 91 l)).2.1) ((aK (aH 91 l)).1)) [(0, y35 (S (aK (aH 91 l)).2.2))] (aB (aAN hE (aH 91 l) (by omega) : SpG g _ _ _ _ _)) ?_ ?_
 rw [aJ, if_neg (by simpa using hc1), fJ (by simpa using hc1)]; rfl
 rw [aJ, if_neg (by simpa using hc1), fJ (by simpa using hc1)]
theorem read_ (hE : jH g) (s : List UInt8) (hl : s.length < 900000000) :
  SpG g 16 [.c (cS (S s))] [] (if bP s = true then .tup [(true, (zV ((aJ s).2.1))), (false, [cB true])] else y37) [] := by
 have hf := (nZ s (by unfold maxLen; omega)).2
 refine aG 37 Tryz.func16 (by kernel_rfl) fun fr hG => ?_
 refine zC hG [(2, 1, .callG (y45 ((aJ s).2.1) ((aJ s).1)) [202] [(0, y35 (S (aJ s).2.2))]), (3, 11, kB (aU (aJ s).2.1)), (3, 16, kS (S (aW (aJ s).2.1)))] [1, 0, 1, 1, 1] ((((!((aJ s).1)) || (!((S (aJ s).2.2).toList == (S []).toList))) || (!(aU (aJ s).2.1))) || (!((S (aW (aJ s).2.1)).toList == (S s).toList))) (⟨[zX 2 100 0, zB 3 false, zX 5 305 0], [(100, y11), (305, .box 30 (zV ((aJ s).2.1)))]⟩) (aC (wE hE s (by omega) : SpG g _ _ _ _ _) (aC (fun (hg1 : ((!((aJ s).1)) || (!((S (aJ s).2.2).toList == (S []).toList))) = false) => (o7 (aJ s).2.1 hf : SpG g _ _ _ _ _)) (aB (fun (hg1 : (((!((aJ s).1)) || (!((S (aJ s).2.2).toList == (S []).toList))) || (!(aU (aJ s).2.1))) = false) => (rH (aJ s).2.1 hf : SpG g _ _ _ _ _))))) (fun hc1 => ?_) (fun hc1 => ?_)
 (try simp only [dZ] at hc1)
 refine zR hG [] [] (y37) [] aA ?_ ?_
 rw [if_neg]
 unfold bP
 rcases hc1 with ((h | h) | h) | h <;> simp [h]
 rfl
 (try simp only [dZ] at hc1)
 refine zR hG [] [] (.tup [(true, (zV ((aJ s).2.1))), (false, [cB true])]) [] aA ?_ ?_
 rw [if_pos]
 unfold bP
 simp [hc1]
 rfl
theorem sV (hE : jH g) (s : List UInt8) (hl : s.length < 900000000) : SpG g 16 [.c (cS (S s))] [] (y45 (bK s) (bP s)) [] := by
 have h := read_ hE s hl
 cases hb : bP s with
 | true =>
  rw [if_pos hb] at h
  rw [bK, if_pos hb]; exact h
 | false =>
  rw [if_neg (by rw [hb]; decide)] at h
  rw [aB2 hb]
  exact fV [[none, none, none, none, none, some 1, some 1], []] h
theorem aK2 (hE : jH g) (s : List UInt8) (hl : s.length < 900000000) :
  SpG g 22 [.c (cS (S s))] [] (if dH s = true ∧ s ≠ [] then .tup [(false, [cM 7 (valsD (dJ s))]), (false, [cB true])] else .tup [(false, [cN]), (false, [cB (dH s)])]) [] := by
 refine aG 35 Tryz.func22 (by kernel_rfl) fun fr hG => ?_
 refine zC hG [] [1, 0, 1] ((S s).toList == (S []).toList) (⟨[zS 0 (S s), zN 2, zB 3 false], []⟩) aA (fun hc1 => ?_) (fun hc1 => ?_)
 (try simp only [dZ] at hc1)
 refine zR hG [] [] (.tup [(false, [cN]), (false, [cB true])]) [] aA ?_ ?_
 obtain rfl : s = [] := hc1
 rw [if_neg (by rintro ⟨_, h⟩; exact h rfl), row_nil.1]
 rfl
 (try simp only [dZ] at hc1)
 refine zA hG [] [0, 0, 1, 1, 1, 1] (⟨[zS 0 (S s), zN 2, zB 3 false, zX 4 402 0, zN 5], [(402, .box 90 [cS (S s)])]⟩) [(5, 9003, 30, 7)] [] (fun (zz : List Vl × List UInt8 × List (List D)) => match zz with | (acc, r, es) => (8 - acc.length, ⟨[zS 0 (S s), zN 2, zB 3 false, zX 4 402 0, zY 5 9003 0], [(402, .box 90 [cS (S r)]), (9003, .arr 0 30 7 (es))]⟩, fZ 8 [] s = fZ (8 - acc.length) acc r ∧ r.length ≤ s.length ∧ es = valsD acc ∧ acc.length ≤ 8 ∧ ∀ v, v ∈ acc → v.fit)) ([], s, []) aA ?_ ?_
 exact ⟨rfl, Nat.le_refl _, rfl, Nat.zero_le _, fun v hv => by cases hv⟩
 rintro ⟨acc, r, es⟩ ⟨hm, hr, hes, ha, hfa⟩
 have hel : es.length = acc.length := by rw [hes, valsD, List.length_map]
 have hvm := nZ r (by unfold maxLen; omega)
 have hsk := cD 124 (aJ r).2.2
 refine zc hG [] [1, 0] (decide ((((es).length : Int) : Int) < 8)) aA (fun hc3 => ?_) (fun hc3 => ?_)
 (try simp only [dZ] at hc3)
 refine zC hG [(6, 1, .callG (y45 ((aJ r).2.1) ((aJ r).1)) [402] [(0, y35 (S (aJ r).2.2))])] [1, 0, 1, 0, 1] (!((aJ r).1)) (⟨[zS 0 (S s), zN 2, zB 3 false, zX 4 402 0, zY 5 9003 0, zX 6 705 0], [(402, y35 (S (aJ r).2.2)), (705, .box 30 (zV ((aJ r).2.1))), (9003, .arr 0 30 7 (es))]⟩) (aB (wE hE r (by omega) : SpG g _ _ _ _ _)) (fun hc4 => ?_) (fun hc4 => ?_)
 (try simp only [dZ] at hc4)
 refine zE hG [] .ret (⟨[zS 0 (S s), zN 2, zB 3 false, zY 5 9003 0], [(9003, .arr 0 30 7 (es))]⟩) aA rfl ?_
 refine zR hG [] [] (y40) [] aA ?_ ?_
 have hk := yO hc1 (.inl (by rw [hm, kM (m := 0) (by omega), if_neg (by simpa using hc4)]))
 rw [if_neg (by rintro ⟨h, _⟩; rw [hk] at h; cases h), hk]
 rfl
 (try simp only [dZ] at hc4)
 refine zC hG [(10, 1, .callG (.c (cB (bJ 124 ((aJ r).2.2)))) [402] [(0, y35 (S (aH 124 ((aJ r).2.2))))])] [1, 1, 1, 1, 0, 1] (!(bJ 124 ((aJ r).2.2))) (⟨[zS 0 (S s), zN 2, zB 3 false, zX 4 402 0, zY 5 9003 0], [(402, y35 (S (aH 124 ((aJ r).2.2)))), (9003, .arr 0 30 7 (es ++ ([[.i (((aJ r).2.1).kind), .s (S ((aJ r).2.1).s), .i (((aJ r).2.1).dn), .i (((aJ r).2.1).ds), .i (((aJ r).2.1).n), .sl 1 (strs (((aJ r).2.1).cols)), .sl 1 (rowsD (((aJ r).2.1).rows))]] : List (List D))))]⟩) (aC (by intros; (try simp only [inR, valsD, List.length_map, List.length_append, List.length_cons, List.length_nil] at *); omega : ((es).length + ([[.i (((aJ r).2.1).kind), .s (S ((aJ r).2.1).s), .i (((aJ r).2.1).dn), .i (((aJ r).2.1).ds), .i (((aJ r).2.1).n), .sl 1 (strs (((aJ r).2.1).cols)), .sl 1 (rowsD (((aJ r).2.1).rows))]] : List (List D)).length) * (96 + 1) ≤ 140737488355328) (aB (iA ((aJ r).2.2) 124 : SpG g _ _ _ _ _))) (fun hc5 => ?_) (fun hc5 => ?_)
 (try simp only [dZ] at hc5)
 refine zE hG [] (.exit 0) (⟨[zS 0 (S s), zN 2, zB 3 false, zY 5 9003 0], [(9003, .arr 0 30 7 (es ++ ([[.i (((aJ r).2.1).kind), .s (S ((aJ r).2.1).s), .i (((aJ r).2.1).dn), .i (((aJ r).2.1).ds), .i (((aJ r).2.1).n), .sl 1 (strs (((aJ r).2.1).cols)), .sl 1 (rowsD (((aJ r).2.1).rows))]] : List (List D))))]⟩) aA rfl ?_
 refine zC hG [(11, 1, kS (S (aD (acc ++ [(aJ r).2.1]))))] [1, 0, 1, 1, 1, 1, 1] (!((S (aD (acc ++ [(aJ r).2.1]))).toList == (S s).toList)) (⟨[zN 2, zB 3 false, zY 5 9003 0], [(9003, .arr 0 30 7 (es ++ ([[.i (((aJ r).2.1).kind), .s (S ((aJ r).2.1).s), .i (((aJ r).2.1).dn), .i (((aJ r).2.1).ds), .i (((aJ r).2.1).n), .sl 1 (strs (((aJ r).2.1).cols)), .sl 1 (rowsD (((aJ r).2.1).rows))]] : List (List D))))]⟩) (aB (n5 (oW (aJ r).2.1 hes) (aC2 hfa hvm.2) : SpG g _ _ _ _ _)) (fun hc6 => ?_) (fun hc6 => ?_)
 (try simp only [dZ] at hc6)
 refine zR hG [] [] (y40) [] aA ?_ ?_
 have e : fZ 8 [] s = (true, acc ++ [(aJ r).2.1], (aJ r).2.2) := by rw [hm, kM (m := 0) (by omega), if_pos (by simpa using hc4), if_neg (by simpa using hc5)]
 have hk := yO hc1 (.inr (by rw [e]; exact hc6))
 rw [if_neg (by rintro ⟨h, _⟩; rw [hk] at h; cases h), hk]
 rfl
 (try simp only [dZ] at hc6)
 refine zR hG [] [] (y41 (es ++ ([[.i (((aJ r).2.1).kind), .s (S ((aJ r).2.1).s), .i (((aJ r).2.1).dn), .i (((aJ r).2.1).ds), .i (((aJ r).2.1).n), .sl 1 (strs (((aJ r).2.1).cols)), .sl 1 (rowsD (((aJ r).2.1).rows))]] : List (List D)))) [] aA ?_ ?_
 have e : fZ 8 [] s = (true, acc ++ [(aJ r).2.1], (aJ r).2.2) := by rw [hm, kM (m := 0) (by omega), if_pos (by simpa using hc4), if_neg (by simpa using hc5)]
 obtain ⟨hk, hv⟩ := aBJ hc1 e hc6
 rw [if_pos ⟨hk, hc1⟩, hv, ← oW _ hes]
 rfl
 (try simp only [dZ] at hc5)
 refine zD hG [] (acc ++ [(aJ r).2.1], aH 124 (aJ r).2.2, es ++ ([[.i (((aJ r).2.1).kind), .s (S ((aJ r).2.1).s), .i (((aJ r).2.1).dn), .i (((aJ r).2.1).ds), .i (((aJ r).2.1).n), .sl 1 (strs (((aJ r).2.1).cols)), .sl 1 (rowsD (((aJ r).2.1).rows))]] : List (List D))) aA ?_ ?_
 (try dsimp only); simp only [dB]; omega
 refine ⟨?_, by omega, oW _ hes, by simp only [dB]; omega, aC2 hfa hvm.2⟩
 rw [hm, kM (m := 0) (by omega), if_pos (by simpa using hc4), if_pos (by simpa using hc5), List.length_append]; rfl
 (try simp only [dZ] at hc3)
 refine zE hG [] (.exit 0) (⟨[zS 0 (S s), zN 2, zB 3 false, zY 5 9003 0], [(9003, .arr 0 30 7 (es))]⟩) aA rfl ?_
 refine zC hG [(11, 1, kS (S (aD acc)))] [1, 0, 1, 1, 1, 1, 1] (!((S (aD acc)).toList == (S s).toList)) (⟨[zN 2, zB 3 false, zY 5 9003 0], [(9003, .arr 0 30 7 (es))]⟩) (aB (n5 hes hfa : SpG g _ _ _ _ _)) (fun hc7 => ?_) (fun hc7 => ?_)
 (try simp only [dZ] at hc7)
 refine zR hG [] [] (y40) [] aA ?_ ?_
 have e : fZ 8 [] s = (true, acc, r) := by rw [hm, show 8 - acc.length = 0 by omega]; rfl
 have hk := yO hc1 (.inr (by rw [e]; exact hc7))
 rw [if_neg (by rintro ⟨h, _⟩; rw [hk] at h; cases h), hk]
 rfl
 (try simp only [dZ] at hc7)
 refine zR hG [] [] (y41 (es)) [] aA ?_ ?_
 have e : fZ 8 [] s = (true, acc, r) := by rw [hm, show 8 - acc.length = 0 by omega]; rfl
 obtain ⟨hk, hv⟩ := aBJ hc1 e hc7
 rw [if_pos ⟨hk, hc1⟩, hv, ← hes]
 rfl
theorem nR (hE : jH g) (s : List UInt8) (hl : s.length < 900000000) : SpG g 22 [.c (cS (S s))] [] (y42 (valsD (dJ s)) (dH s)) [] := by
 have h := aK2 hE s hl
 by_cases hb : dH s = true ∧ s ≠ []
 rw [if_pos hb] at h
 rw [hb.1]; exact h
 rw [if_neg hb] at h
 have e : dJ s = [] := by rw [dJ, if_neg hb]
 rw [e]
 exact fV [[some 7], []] h
end Go.Proofs.YtmpgfchkkemngaaGreatDoor
namespace Go.Proofs.YtmpgfchkkemngaaGreatDoor
open Go.RowKit Go.V
open Go.Eng (inR byteAt u8 bH)
variable {g : Gv}
theorem x33 (x : UInt8) : (((x.toNat : Nat) : Int) = 33) = (x = 33) := propext (g9 rfl)
theorem x63 (x : UInt8) : (((x.toNat : Nat) : Int) = 63) = (x = 63) := propext (g9 rfl)
theorem x35 (x : UInt8) : (((x.toNat : Nat) : Int) = 35) = (x = 35) := propext (g9 rfl)
theorem x64 (x : UInt8) : (((x.toNat : Nat) : Int) = 64) = (x = 64) := propext (g9 rfl)
theorem x39 (x : UInt8) : (((x.toNat : Nat) : Int) = 39) = (x = 39) := propext (g9 rfl)
theorem x91 (x : UInt8) : (((x.toNat : Nat) : Int) = 91) = (x = 91) := propext (g9 rfl)
theorem unq_d {s : List UInt8} {k : Nat} (h : k + 1 < s.length) : s.drop k = s.getD k 0 :: s.getD (k + 1) 0 :: s.drop (k + 2) := by
 rw [List.drop_eq_getElem_cons (by omega), List.drop_eq_getElem_cons (i := k + 1) (by omega)]
 simp [show k < s.length by omega, h]
theorem unq_1 {s : List UInt8} {k : Nat} (h : k + 1 < s.length) (h39 : s.getD k 0 = 39) : kN (s.drop k) = s.getD k 0 :: kN (s.drop (k + 2)) := by
 rw [unq_d h, kN, if_pos h39]
theorem unq_2 {s : List UInt8} {k : Nat} (h : k + 1 < s.length) (h39 : ¬ s.getD k 0 = 39) : kN (s.drop k) = s.getD k 0 :: kN (s.drop (k + 1)) := by
 have e : s.drop (k + 1) = s.getD (k + 1) 0 :: s.drop (k + 2) := by
  rw [List.drop_eq_getElem_cons h]; simp [h]
 rw [unq_d h, kN, if_neg h39, e]
theorem unq_3 {s : List UInt8} {k : Nat} (hk : k ≤ s.length) (h : ¬ k + 1 < s.length) : kN (s.drop k) = [] := by
 by_cases e : k = s.length
 subst e; rw [List.drop_length]; rfl
 rw [List.drop_eq_getElem_cons (by omega), List.drop_eq_nil_of_le (by omega)]; rfl
def fI := And.intro @dY (And.intro @aD3 (And.intro @aF (And.intro @blS (@cO))))
def r7 := And.intro @List.length_cons.{0} (And.intro @List.length_nil.{0} (And.intro @aF (And.intro @Go.Eng.inR.eq_1 (@maxLen.eq_1))))
abbrev y46 : SV := .agg [cI (-1), cS (S []), cI 0, cI 0, cI 0, cN, cN]
theorem plain_ (x : UInt8) (s : List UInt8) (hl : s.length ≤ 100000000) :
  SpG g 62 [.c (.d (.y x.toNat)), .c (cS (S s))] [] (.agg [cI ((aT x s).kind), cS (S (aT x s).s), cI ((aT x s).dn), cI ((aT x s).ds), cI ((aT x s).n), cN, cN]) [] := by
 refine aG 77 Tryz.func62 (by kernel_rfl) fun fr hG => ?_
 refine zC hG [] [1, 0, 0, 1, 0, 1] (decide ((x.toNat : Int) = 33)) (⟨[(0, [], .c (.d (.y x.toNat))), zS 1 (S s), zX 4 100 0, (13, [], .c (.d (.y x.toNat))), zB 14 (decide ((x.toNat : Int) = 33))], [(100, y11)]⟩) aA (fun hc1 => ?_) (fun hc1 => ?_)
 (try simp only [fI, x33, x63, x35, x64, x39, Int.toNat_natCast] at hc1)
 refine zC hG [] [1, 0, 1, 0, 1] (decide ((x.toNat : Int) = 33)) (⟨[(0, [], .c (.d (.y x.toNat))), zS 1 (S s), zX 4 100 0, (13, [], .c (.d (.y x.toNat)))], [(100, y11)]⟩) aA (fun hc2 => ?_) (fun hc2 => ?_)
 (try simp only [fI, x33, x63, x35, x64, x39, Int.toNat_natCast] at hc2)
 refine zL hG [] [0, 1, 0, 1, 0, 1, 0, 1, 0, 1] (fun (zz : Nat × Int) => match zz with | (k, d) => (100 - k, ⟨[(0, [], .c (.d (.y x.toNat))), zS 1 (S s), zX 4 100 0, zI 5 d, zI 6 (k : Int)], [(100, y11)]⟩, k ≤ 100 ∧ d = rB s k)) (0, -1) aA ?_ ?_
 exact ⟨Nat.zero_le _, rfl⟩
 rintro ⟨k, d⟩ ⟨hk, hd⟩
 refine zc hG [] [1, 0] (decide (((k : Int) : Int) < 100)) aA (fun hc4 => ?_) (fun hc4 => ?_)
 (try simp only [fI, x33, x63, x35, x64, x39, Int.toNat_natCast] at hc4)
 refine zc hG [(8, 1, kS (S (dec2 (k : Int))))] [1, 0, 0, 1] ((S (dec2 (k : Int))).toList == (S s).toList) (aB (lC (k : Int) (by omega) (by omega) : SpG g _ _ _ _ _)) (fun hc5 => ?_) (fun hc5 => ?_)
 (try simp only [fI, x33, x63, x35, x64, x39, Int.toNat_natCast] at hc5)
 refine zD hG [] (k + 1, (k : Int)) (aB (by intros; first | omega | ((try rw [dX (by (try simp only [aF] at *); omega)]); (try rw [ho]); (try simp only [r7] at *); omega) : inR ((k : Int) + 1))) ?_ ?_
 (try dsimp only); omega
 exact ⟨by omega, by rw [rB, if_pos hc5]⟩
 (try simp only [fI, x33, x63, x35, x64, x39, Int.toNat_natCast] at hc5)
 refine zD hG [] (k + 1, d) (aB (by intros; first | omega | ((try rw [dX (by (try simp only [aF] at *); omega)]); (try rw [ho]); (try simp only [r7] at *); omega) : inR ((k : Int) + 1))) ?_ ?_
 (try dsimp only); omega
 exact ⟨by omega, by rw [rB, if_neg hc5]; exact hd⟩
 (try simp only [fI, x33, x63, x35, x64, x39, Int.toNat_natCast] at hc4)
 refine zE hG [] (.exit 1) (⟨[(0, [], .c (.d (.y x.toNat))), zX 4 100 0, zI 5 d], [(100, y11)]⟩) aA rfl ?_
 refine zC hG [] [1, 0, 1, 1, 0, 1, 0, 1, 0, 1] (decide ((x.toNat : Int) = 63)) (⟨[zX 4 100 0, zI 5 d], [(100, y11)]⟩) aA (fun hc6 => ?_) (fun hc6 => ?_)
 (try simp only [fI, x33, x63, x35, x64, x39, Int.toNat_natCast] at hc6)
 exact absurd (hc1.symm.trans hc6) (by decide)
 (try simp only [fI, x33, x63, x35, x64, x39, Int.toNat_natCast] at hc6)
 refine zR hG [] [] (.agg [cI 0, cS (S []), cI 0, cI 0, cI d, cN, cN]) [] aA ?_ ?_
 obtain rfl : k = 100 := by omega
 have e : aT x s = ⟨0, [], 0, 0, rB s 100⟩ := by unfold aT; simp [hc1]
 rw [e, hd]
 rfl
 (try simp only [fI, x33, x63, x35, x64, x39, Int.toNat_natCast] at hc2)
 exact absurd hc1 hc2
 (try simp only [fI, x33, x63, x35, x64, x39, Int.toNat_natCast] at hc1)
 refine zC hG [] [1, 0, 1, 0, 1] (decide ((x.toNat : Int) = 63)) (⟨[(0, [], .c (.d (.y x.toNat))), zS 1 (S s), zX 4 100 0, (13, [], .c (.d (.y x.toNat)))], [(100, y11)]⟩) aA (fun hc7 => ?_) (fun hc7 => ?_)
 (try simp only [fI, x33, x63, x35, x64, x39, Int.toNat_natCast] at hc7)
 refine zL hG [] [0, 1, 0, 1, 0, 1, 0, 1, 0, 1] (fun (zz : Nat × Int) => match zz with | (k, d) => (100 - k, ⟨[(0, [], .c (.d (.y x.toNat))), zS 1 (S s), zX 4 100 0, zI 5 d, zI 6 (k : Int)], [(100, y11)]⟩, k ≤ 100 ∧ d = rB s k)) (0, -1) aA ?_ ?_
 exact ⟨Nat.zero_le _, rfl⟩
 rintro ⟨k, d⟩ ⟨hk, hd⟩
 refine zc hG [] [1, 0] (decide (((k : Int) : Int) < 100)) aA (fun hc9 => ?_) (fun hc9 => ?_)
 (try simp only [fI, x33, x63, x35, x64, x39, Int.toNat_natCast] at hc9)
 refine zc hG [(8, 1, kS (S (dec2 (k : Int))))] [1, 0, 0, 1] ((S (dec2 (k : Int))).toList == (S s).toList) (aB (lC (k : Int) (by omega) (by omega) : SpG g _ _ _ _ _)) (fun hc10 => ?_) (fun hc10 => ?_)
 (try simp only [fI, x33, x63, x35, x64, x39, Int.toNat_natCast] at hc10)
 refine zD hG [] (k + 1, (k : Int)) (aB (by intros; first | omega | ((try rw [dX (by (try simp only [aF] at *); omega)]); (try rw [ho]); (try simp only [r7] at *); omega) : inR ((k : Int) + 1))) ?_ ?_
 (try dsimp only); omega
 exact ⟨by omega, by rw [rB, if_pos hc10]⟩
 (try simp only [fI, x33, x63, x35, x64, x39, Int.toNat_natCast] at hc10)
 refine zD hG [] (k + 1, d) (aB (by intros; first | omega | ((try rw [dX (by (try simp only [aF] at *); omega)]); (try rw [ho]); (try simp only [r7] at *); omega) : inR ((k : Int) + 1))) ?_ ?_
 (try dsimp only); omega
 exact ⟨by omega, by rw [rB, if_neg hc10]; exact hd⟩
 (try simp only [fI, x33, x63, x35, x64, x39, Int.toNat_natCast] at hc9)
 refine zE hG [] (.exit 1) (⟨[(0, [], .c (.d (.y x.toNat))), zX 4 100 0, zI 5 d], [(100, y11)]⟩) aA rfl ?_
 refine zC hG [] [1, 0, 1, 1, 0, 1, 0, 1, 0, 1] (decide ((x.toNat : Int) = 63)) (⟨[zX 4 100 0, zI 5 d], [(100, y11)]⟩) aA (fun hc11 => ?_) (fun hc11 => ?_)
 (try simp only [fI, x33, x63, x35, x64, x39, Int.toNat_natCast] at hc11)
 refine zR hG [] [] (.agg [cI 4, cS (S []), cI 0, cI 0, cI d, cN, cN]) [] aA ?_ ?_
 obtain rfl : k = 100 := by omega
 have e : aT x s = ⟨4, [], 0, 0, rB s 100⟩ := by unfold aT; simp [hc1, hc7]
 rw [e, hd]
 rfl
 (try simp only [fI, x33, x63, x35, x64, x39, Int.toNat_natCast] at hc11)
 exact absurd hc7 hc11
 (try simp only [fI, x33, x63, x35, x64, x39, Int.toNat_natCast] at hc7)
 refine zC hG [] [1, 1, 1, 0, 1, 0, 1] (decide ((x.toNat : Int) = 35)) (⟨[zS 1 (S s), zX 4 100 0, (13, [], .c (.d (.y x.toNat)))], [(100, y11)]⟩) aA (fun hc12 => ?_) (fun hc12 => ?_)
 (try simp only [fI, x33, x63, x35, x64, x39, Int.toNat_natCast] at hc12)
 refine zC hG [(14, 1, kC (y6 (iZ s) (iY s) (gH s)))] [1, 1, 0, 1, 1, 1, 0, 1, 0, 1] (gH s) (⟨[zX 4 100 0, zX 7 1505 0], [(100, y11), (1505, .box 26 [cI (iZ s), cI (iY s)])]⟩) (aB (tO s hl : SpG g _ _ _ _ _)) (fun hc13 => ?_) (fun hc13 => ?_)
 (try simp only [fI, x33, x63, x35, x64, x39, Int.toNat_natCast] at hc13)
 refine zR hG [] [] (.agg [cI 2, cS (S []), cI (iZ s), cI (iY s), cI 0, cN, cN]) [] aA ?_ ?_
 have e : aT x s = ⟨2, [], iZ s, iY s, 0⟩ := by unfold aT; simp [hc1, hc7, hc12, hc13]
 rw [e]
 rfl
 (try simp only [fI, x33, x63, x35, x64, x39, Int.toNat_natCast] at hc13)
 refine zR hG [] [] (y46) [] aA ?_ ?_
 have e : aT x s = Cl.bad := by unfold aT; simp [hc1, hc7, hc12, hc13]
 rw [e]; rfl
 rfl
 (try simp only [fI, x33, x63, x35, x64, x39, Int.toNat_natCast] at hc12)
 refine zc hG [] [1, 1, 1, 1, 1, 0, 1, 0, 1] (decide ((x.toNat : Int) = 64)) aA (fun hc14 => ?_) (fun hc14 => ?_)
 (try simp only [fI, x33, x63, x35, x64, x39, Int.toNat_natCast] at hc14)
 refine zC hG [(18, 1, kC (y2 (eZ s) (eG s)))] [1, 1, 0, 1, 1, 1, 1, 1, 0, 1, 0, 1] (eG s) (⟨[zX 4 100 0, zI 9 (eZ s)], [(100, y11)]⟩) (aB (sA s (by omega) : SpG g _ _ _ _ _)) (fun hc15 => ?_) (fun hc15 => ?_)
 (try simp only [fI, x33, x63, x35, x64, x39, Int.toNat_natCast] at hc15)
 refine zR hG [] [] (.agg [cI 3, cS (S []), cI 0, cI 0, cI (eZ s), cN, cN]) [] aA ?_ ?_
 have e : aT x s = ⟨3, [], 0, 0, eZ s⟩ := by unfold aT; simp [hc1, hc7, hc12, hc14, hc15]
 rw [e]
 rfl
 (try simp only [fI, x33, x63, x35, x64, x39, Int.toNat_natCast] at hc15)
 refine zR hG [] [] (y46) [] aA ?_ ?_
 have e : aT x s = Cl.bad := by unfold aT; simp [hc1, hc7, hc12, hc14, hc15]
 rw [e]; rfl
 rfl
 (try simp only [fI, x33, x63, x35, x64, x39, Int.toNat_natCast] at hc14)
 refine zC hG [] [1, 1, 1, 1, 1, 1, 1, 0, 1, 0, 1] (decide ((x.toNat : Int) = 39)) (⟨[zS 1 (S s), zX 4 100 0], [(100, y11)]⟩) aA (fun hc16 => ?_) (fun hc16 => ?_)
 (try simp only [fI, x33, x63, x35, x64, x39, Int.toNat_natCast] at hc16)
 refine zL hG [] [0, 1, 0, 1, 0, 1, 1, 1, 1, 1, 1, 1, 0, 1, 0, 1] (fun (zz : Nat × List UInt8 × ByteArray) => match zz with | (k, acc, o) => (s.length - k, ⟨[zS 1 (S s), zX 4 100 0, zS 11 o, zI 12 (k : Int)], [(100, y11)]⟩, k ≤ s.length ∧ kN s = acc ++ kN (s.drop k) ∧ acc.length ≤ k ∧ o = S acc)) (0, [], S []) aA ?_ ?_
 exact ⟨Nat.zero_le _, rfl, Nat.le_refl _, rfl⟩
 rintro ⟨k, acc, o⟩ ⟨hk, hq, hal, ho⟩
 refine zc hG [] [1, 0] (decide (((k : Int) + 1 : Int) < ((S s).size : Int))) (aB (by intros; first | omega | ((try rw [dX (by (try simp only [aF] at *); omega)]); (try rw [ho]); (try simp only [r7] at *); omega) : inR ((k : Int) + 1))) (fun hc18 => ?_) (fun hc18 => ?_)
 (try simp only [fI, x33, x63, x35, x64, x39, Int.toNat_natCast] at hc18)
 refine zC hG [] [1, 1, 0, 0, 1] (decide ((byteAt (S s) (k : Int) : Int) = 39)) (⟨[zS 1 (S s), zX 4 100 0, zS 11 (o ++ ((S s).extract k ((k : Int) + 1 : Int).toNat)), zI 12 (k : Int)], [(100, y11)]⟩) (aC (by intros; first | omega | ((try rw [dX (by (try simp only [aF] at *); omega)]); (try rw [ho]); (try simp only [r7] at *); omega) : inR ((k : Int) + 1)) (aC (by intros; first | omega | ((try rw [dX (by (try simp only [aF] at *); omega)]); (try rw [ho]); (try simp only [r7] at *); omega) : (0 : Int) ≤ (k : Int) ∧ ((k : Int) : Int) ≤ ((k : Int) + 1) ∧ ((k : Int) + 1) ≤ ((S s).size : Int)) (aC (by intros; first | omega | ((try rw [dX (by (try simp only [aF] at *); omega)]); (try rw [ho]); (try simp only [r7] at *); omega) : (o).size + ((S s).extract k ((k : Int) + 1 : Int).toNat).size ≤ maxLen) (aB (by intros; first | omega | ((try rw [dX (by (try simp only [aF] at *); omega)]); (try rw [ho]); (try simp only [r7] at *); omega) : (0 : Int) ≤ (k : Int) ∧ (k : Int) < ((S s).size : Int)))))) (fun hc19 => ?_) (fun hc19 => ?_)
 (try simp only [fI, x33, x63, x35, x64, x39, Int.toNat_natCast] at hc19)
 refine zD hG [] (k + 1 + 1, acc ++ [s.getD k 0], o ++ ((S s).extract k ((k : Int) + 1 : Int).toNat)) (aC (by intros; first | omega | ((try rw [dX (by (try simp only [aF] at *); omega)]); (try rw [ho]); (try simp only [r7] at *); omega) : inR ((k : Int) + 1)) (aB (by intros; first | omega | ((try rw [dX (by (try simp only [aF] at *); omega)]); (try rw [ho]); (try simp only [r7] at *); omega) : inR (((k : Int) + 1) + 1)))) ?_ ?_
 (try dsimp only); omega
 refine ⟨by omega, ?_, by rw [pM acc]; omega, by rw [dX (by omega), ho, bI]⟩
 rw [hq, unq_1 (by omega) hc19]; simp
 (try simp only [fI, x33, x63, x35, x64, x39, Int.toNat_natCast] at hc19)
 refine zD hG [] (k + 1, acc ++ [s.getD k 0], o ++ ((S s).extract k ((k : Int) + 1 : Int).toNat)) (aB (by intros; first | omega | ((try rw [dX (by (try simp only [aF] at *); omega)]); (try rw [ho]); (try simp only [r7] at *); omega) : inR ((k : Int) + 1))) ?_ ?_
 (try dsimp only); omega
 refine ⟨by omega, ?_, by rw [pM acc]; omega, by rw [dX (by omega), ho, bI]⟩
 rw [hq, unq_2 (by omega) hc19]; simp
 (try simp only [fI, x33, x63, x35, x64, x39, Int.toNat_natCast] at hc18)
 refine zE hG [] (.exit 3) (⟨[zX 4 100 0, zS 11 o], [(100, y11)]⟩) aA rfl ?_
 refine zR hG [] [] (.agg [cI 1, cS o, cI 0, cI 0, cI 0, cN, cN]) [] aA ?_ ?_
 have hu : kN s = acc := by rw [hq, unq_3 hk (by omega), List.append_nil]
 have e : aT x s = ⟨1, acc, 0, 0, 0⟩ := by
  unfold aT
  simp [hc1, hc7, hc12, hc14, hc16, hu]
 rw [e, ho]
 rfl
 (try simp only [fI, x33, x63, x35, x64, x39, Int.toNat_natCast] at hc16)
 refine zR hG [] [] (y46) [] aA ?_ ?_
 have e : aT x s = Cl.bad := by unfold aT; simp [hc1, hc7, hc12, hc14, hc16]
 rw [e]; rfl
 rfl
theorem aB6 (x : UInt8) (s : List UInt8) (hl : s.length ≤ 100000000) : SpG g 62 [.c (.d (.y x.toNat)), .c (cS (S s))] [] (.agg (zW (aT x s))) [] :=
 oZ [none, none, none, none, none, some 1, some 1] (plain_ x s hl)
end Go.Proofs.YtmpgfchkkemngaaGreatDoor
namespace Go.Proofs.YtmpgfchkkemngaaGreatDoor
open Go.RowKit Go.V
open Go.Eng (inR byteAt u8 bH)
variable {g : Gv}
theorem aGD (s : List UInt8) (a b : Nat) : (sub s a b).length ≤ s.length := by unfold sub; rw [List.length_drop, List.length_take]; omega
theorem aDH (s : List UInt8) (sep : Int) : ∀ k, (∀ w, w ∈ (gM s sep k).out → w.length ≤ s.length) ∧ (gM s sep k).out.length ≤ k
  | 0 => ⟨fun w hw => (by cases hw), Nat.le_refl _⟩
  | k + 1 => by
    obtain ⟨h1, h2⟩ := aDH s sep k
    rw [gM]
    unfold iG
    repeat' split
    all_goals first
      | exact ⟨h1, by omega⟩
      | exact ⟨h1, by simp only; omega⟩
      | (refine ⟨fun w hw => ?_, by simp only [dB]; omega⟩
         rcases List.mem_append.1 hw with h | h
         · exact h1 w h
         · rw [List.mem_singleton] at h; rw [h]; exact aGD _ _ _)
theorem kF (s : List UInt8) (sep : Int) : (∀ w, w ∈ aE s sep → w.length ≤ s.length) ∧ 1 ≤ (aE s sep).length ∧ (aE s sep).length ≤ s.length + 1 := by
 obtain ⟨h1, h2⟩ := aDH s sep s.length
 unfold aE
 refine ⟨fun w hw => ?_, by simp, by simp; omega⟩
 rcases List.mem_append.1 hw with h | h
 exact h1 w h
 rw [List.mem_singleton] at h; rw [h]; exact aGD _ _ _
theorem j8 {l : List (List UInt8)} {m k : Nat} (h : ∀ w, w ∈ l → w.length ≤ m) : (l.getD k []).length ≤ m := by
 by_cases hk : k < l.length
 exact h _ (bO hk)
 have e : l.getD k [] = [] := by simp [hk]
 rw [e]; exact Nat.zero_le _
theorem sY : ∀ (n : Nat) (s : List UInt8), s.length ≤ n → (kN s).length ≤ s.length
 | _, [], _ => Nat.le_refl _
 | _, [x], _ => Nat.zero_le _
 | 0, x :: y :: r, h => by simp at h
 | n + 1, x :: y :: r, h => by
  have h1 := sY n r (by simp only [List.length_cons] at h; omega)
  have h2 := sY n (y :: r) (by simp only [List.length_cons] at h ⊢; omega)
  rw [kN]
  split
  simp only [List.length_cons]; omega
  simp only [List.length_cons] at h2 ⊢; omega
theorem tR (x : UInt8) (s : List UInt8) : (aT x s).s.length ≤ s.length := by
 have h := sY s.length s (Nat.le_refl _)
 unfold aT
 repeat' split
 all_goals first | exact h | exact Nat.zero_le _
theorem sS (p : List UInt8) : ∀ w, w ∈ cX p → w.length ≤ p.length := by
 intro w hw
 unfold cX at hw
 split at hw
 cases hw
 exact (kF p 44).1 w hw
theorem aKQ (p : List UInt8) : ∀ c, c ∈ o5 p → c.s.length ≤ p.length := by
 intro c hc
 obtain ⟨w, hw, rfl⟩ := List.mem_map.1 hc
 have h1 := sS p w hw
 have h2 := tR (w.headD 0) (w.drop 1)
 rw [List.length_drop] at h2; omega
theorem aEG (s : List UInt8) (h : s.length ≤ maxLen) : (fO s).fit := by
 have hc := (kF s 59).1
 unfold fO
 split
 refine ⟨Nat.zero_le _, fun t ht => ?_, fun r hr c hcr => ?_⟩
 have h1 := sS _ t ht
 have h2 : ((aE s 59).headD []).length ≤ s.length := by
  cases hh : aE s 59 with
  | nil => exact Nat.zero_le _
  | cons a b => exact hc a (by rw [hh]; simp)
 omega
 obtain ⟨p, hp, rfl⟩ := List.mem_map.1 hr
 have h1 := aKQ p c hcr
 have h2 := hc p (List.mem_of_mem_drop hp)
 omega
 exact ⟨Nat.zero_le _, fun t ht => (by cases ht), fun t ht => (by cases ht)⟩
theorem aBZ (s : List UInt8) (h : s.length ≤ maxLen) : (iT s).fit := by
 cases s with
 | nil => exact ⟨Nat.zero_le _, fun t ht => (by cases ht), fun t ht => (by cases ht)⟩
 | cons x t =>
  rw [List.length_cons] at h
  rw [iT]
  split
  exact aEG _ (by rw [List.length_take]; omega)
  have h1 := tR x t
  exact ⟨by show (aT x t).s.length ≤ maxLen; omega, fun t ht => (by cases ht), fun t ht => (by cases ht)⟩
theorem aGU (w : List UInt8) (hw : w ≠ []) (hl : w.length ≤ 100000000) : SpG g 62 [.c (.d (.y (byteAt (S w) 0))), .c (cS ((S w).extract 1 (S w).size))] [] (.agg [.d (.i (aT (w.headD 0) (w.drop 1)).kind), cS (S (aT (w.headD 0) (w.drop 1)).s), .d (.i (aT (w.headD 0) (w.drop 1)).dn), .d (.i (aT (w.headD 0) (w.drop 1)).ds), .d (.i (aT (w.headD 0) (w.drop 1)).n), cM 1 [], cM 1 []]) [] := by
 cases w with
 | nil => exact absurd rfl hw
 | cons x t =>
  rw [gI, oS]
  exact aB6 x t (by rw [List.length_cons] at hl; omega)
theorem sF {l : List (List UInt8)} {i : Nat} (h1 : 1 ≤ i) (h : i < l.length) : (l.take (i + 1)).drop 1 = (l.take i).drop 1 ++ [l.getD i []] := by
 rw [iI [] h, List.drop_append_of_le_length (by rw [List.length_take]; omega)]
theorem aFB (l : List (List UInt8)) : l.headD [] = l.getD 0 [] := by cases l <;> rfl
def d4 (s : List UInt8) : Bool := gC s 59 && ((aE s 59).drop 1).all nT
theorem aHZ {s : List UInt8} (h : d4 s = false) : fO s = Cl.bad.toV := by
 unfold d4 at h
 unfold fO
 rw [if_neg]
 rintro ⟨h1, h2⟩
 rw [h1, h2] at h; cases h
theorem aEF {s : List UInt8} (h : d4 s = true) : fO s = ⟨5, [], 0, 0, 0, cX ((aE s 59).getD 0 []), ((aE s 59).drop 1).map o5⟩ := by
 unfold d4 at h
 rw [Bool.and_eq_true] at h
 unfold fO
 rw [if_pos h, aFB]
theorem wC {p : List UInt8} (h : p = []) : cX p = [] := by rw [cX, if_pos h]
theorem kL {p : List UInt8} (h : ¬ p = []) : cX p = aE p 44 := by rw [cX, if_neg h]
theorem wO {p : List UInt8} {j : Nat} (hp : ¬ p = []) (hj : j < (aE p 44).length) (h : (aE p 44).getD j [] = []) : nT p = false := by
 rw [nT, kL hp, Bool.eq_false_iff]
 intro ha
 have := List.all_eq_true.1 ha _ (bO (z := []) hj)
 rw [h] at this; cases this
theorem aHR {s : List UInt8} {i : Nat} (h1 : 1 ≤ i) (hi : i < (aE s 59).length) (h : nT ((aE s 59).getD i []) = false) : d4 s = false := by
 rw [d4, Bool.and_eq_false_iff]
 right
 rw [Bool.eq_false_iff]
 intro ha
 have hm : (aE s 59).getD i [] ∈ (aE s 59).drop 1 := by
  obtain ⟨m, rfl⟩ : ∃ m, i = m + 1 := ⟨i - 1, by omega⟩
  rw [List.mem_iff_getElem]
  exact ⟨m, by rw [List.length_drop]; omega, by simp [hi]⟩
 rw [List.all_eq_true.1 ha _ hm] at h; cases h
theorem wA {p : List UInt8} {j : Nat} (hj : j ≤ (aE p 44).length) (h : ¬ j < (aE p 44).length ∨ p = []) : (cX p).take j = cX p := by
 by_cases hp : p = []
 ·rw [wC hp]; simp
 ·rw [kL hp]
  exact List.take_of_length_le (by rcases h with h | h; (· omega); exact absurd h hp)
theorem wP {p : List UInt8} {j : Nat} (hp : ¬ p = []) (hj : j < (aE p 44).length) (h : ¬ (aE p 44).getD j [] = []) (ha : ((cX p).take j).all (fun w => !(w.isEmpty)) = true) :
  ((cX p).take (j + 1)).map (fun w => aT (w.headD 0) (w.drop 1)) = ((cX p).take j).map (fun w => aT (w.headD 0) (w.drop 1)) ++ [aT (((aE p 44).getD j []).headD 0) (((aE p 44).getD j []).drop 1)] ∧ ((cX p).take (j + 1)).all (fun w => !(w.isEmpty)) = true := by
 rw [kL hp] at ha ⊢
 rw [iI [] hj]
 refine ⟨by rw [List.map_append]; rfl, ?_⟩
 rw [List.all_append, ha, List.all_cons, List.all_nil]
 cases hc : (aE p 44).getD j [] with
 | nil => exact absurd hc h
 | cons x t => rfl
theorem table_B (_s : ByteArray) (x : UInt8) (t : List UInt8) : (S (x :: t)).extract 1 (if (1 : Int) > ((S (x :: t)).size : Int) - 1 then 1 else ((S (x :: t)).size : Int) - 1).toNat = S (t.take (t.length - 1)) := by
 rw [jG, aF, List.length_cons]
 congr 1
 cases t with
 | nil => rfl
 | cons y t =>
  have e : (if (1 : Int) > ((((y :: t).length + 1 : Nat) : Int)) - 1 then 1 else ((((y :: t).length + 1 : Nat) : Int)) - 1).toNat = t.length + 1 := by
   rw [List.length_cons]; split <;> omega
  rw [e, List.take_succ_cons, List.drop_succ_cons, List.drop_zero, List.length_cons]; rfl
theorem wM {s : List UInt8} {k : Nat} (h : ¬ k < (aE s 124).length) : (aE s 124).take k = aE s 124 := List.take_of_length_le (by omega)
theorem aEP {s : List UInt8} (hs : s ≠ []) (h : gC s 124 = false ∨ (aE s 124).all bP = false ∨ ¬ aD ((aE s 124).map bK) = s) : dH s = false := by
 rw [← (aGQ hs).1]
 rcases h with h | h | h <;> simp [h]
theorem rowK_t {s : List UInt8} (hs : s ≠ []) (h1 : gC s 124 = true) (h2 : (aE s 124).all bP = true) (h3 : aD ((aE s 124).map bK) = s) : dH s = true ∧ dJ s = (aE s 124).map bK := by
 obtain ⟨q1, q2⟩ := aGQ hs
 have e : (gC s 124 && (aE s 124).all bP && decide (aD ((aE s 124).map bK) = s)) = true := by simp [h1, h2, h3]
 rw [e] at q1 q2
 exact ⟨q1.symm, q2.symm⟩
theorem nV {es : List (List D)} {acc : List Vl} (h : es = valsD acc) (hf : ∀ v, v ∈ acc → v.fit) : SpG g 21 [.c (cM 7 es)] [] (.c (cS (S (aD acc)))) [] := by subst h; exact vU acc hf
theorem aIE (s : List UInt8) (h : s.length ≤ maxLen) : (bK s).fit := by
 rw [bK]
 split
 exact (nZ s h).2
 exact ⟨Nat.zero_le _, fun t ht => (by cases ht), fun t ht => (by cases ht)⟩
theorem aAR {l : List (List UInt8)} {k : Nat} (hk : k < l.length) (h : bP (l.getD k []) = false) : l.all bP = false := by
 rw [Bool.eq_false_iff]
 intro ha
 rw [List.all_eq_true.1 ha _ (bO hk)] at h; cases h
def gR := And.intro @List.length_map.{0, 0} (And.intro @dY (And.intro @aD3 (And.intro @aF (And.intro @blS (@strs.eq_1)))))
def oT := And.intro @List.length_append.{0} (And.intro @List.length_cons.{0} (And.intro @List.length_map.{0, 0} (And.intro @List.length_nil.{0} (And.intro @aF (And.intro @Go.Eng.inR.eq_1 (And.intro @rowD.eq_1 (And.intro @rowsD.eq_1 (And.intro @strs.eq_1 (@valsD.eq_1)))))))))
abbrev y47 (a0 : List (List D)) : Ob := .box 30 [cI 5, cS (S []), cI 0, cI 0, cI 0, cM 1 a0, .ar 9002 0]
abbrev y48 : Ob := .box 30 [cI (-1), cS (S []), cI 0, cI 0, cI 0, cN, cN]
abbrev y49 : Ob := .box 30 [cI 5, cS (S []), cI 0, cI 0, cI 0, cN, .ar 9002 0]
theorem aIC (s : List UInt8) (hl : s.length ≤ 100000000) :
  SpG g 61 [.c (cS (S s))] [] (if d4 s = true then (if ((aE s 59).getD 0 []) = [] then .agg [cI 5, cS (S []), cI 0, cI 0, cI 0, cN, cM 1 (rowsD (((aE s 59).drop 1).map o5))] else y12 (strs (aE ((aE s 59).getD 0 []) 44)) (rowsD (((aE s 59).drop 1).map o5))) else y46) [] := by
 have hcl := kF s 59
 have hp0 : ((aE s 59).getD 0 []).length ≤ s.length := j8 hcl.1
 refine aG 87 Tryz.func61 (by kernel_rfl) fun fr hG => ?_
 refine zC hG [(2, 1, kC (y16 (strs (aE s 59)) (gC s 59)))] [1, 0, 1, 1, 1] (!(gC s 59)) (⟨[zX 2 100 0, zX 3 201 0, zM 4 1 (strs (aE s 59))], [(100, y11), (201, y13)]⟩) (aB (u0 s 59 (by omega) : SpG g _ _ _ _ _)) (fun hc1 => ?_) (fun hc1 => ?_)
 ·(try simp only [gR] at hc1)
  refine zR hG [] [] (y46) [] aA ?_ ?_
  ·have e : d4 s = false := by rw [d4, hc1]; rfl
   rw [e]; rfl
  ·rfl
 ·(try simp only [gR] at hc1)
  refine zc hG [(5, 1, .elem (cH ((aE s 59).getD 0 [])))] [1, 0, 1, 1, 1, 1] (!((S ((aE s 59).getD 0 [])).toList == (S []).toList)) (aB (by intros; exact aY [] (by omega) (by (try simp only [zq4] at *); omega) : (0 : Int) ≤ 0 ∧ (strs (aE s 59))[0]? = some (cH ((aE s 59).getD 0 [])))) (fun hc2 => ?_) (fun hc2 => ?_)
  ·(try simp only [gR] at hc2)
   refine zA hG [(6, 1, .elem (cH ((aE s 59).getD 0 []))), (6, 3, kC (y16 (strs (aE ((aE s 59).getD 0 []) 44)) (gC ((aE s 59).getD 0 []) 44)))] [0, 1, 0, 1, 1, 1, 1, 1] (⟨[zX 2 100 0, zX 3 201 0, zM 4 1 (strs (aE s 59)), zI 6 1], [(100, y11), (201, .box 30 [cI 5, cS (S []), cI 0, cI 0, cI 0, cM 1 (strs (aE ((aE s 59).getD 0 []) 44)), cN])]⟩) [] [(201, 6, 9002, 33, 1)] (fun (zz : Nat × List (List Cl) × List (List D)) => match zz with | (i, acc2, es2) => ((aE s 59).length - i, ⟨[zX 2 100 0, zX 3 201 0, zM 4 1 (strs (aE s 59)), zI 6 (i : Int)], [(100, y11), (201, y47 (strs (aE ((aE s 59).getD 0 []) 44))), (9002, .arr 0 33 1 (es2))]⟩, 1 ≤ i ∧ i ≤ (aE s 59).length ∧ es2 = rowsD acc2 ∧ acc2 = (((aE s 59).take i).drop 1).map o5 ∧ (((aE s 59).take i).drop 1).all nT = true)) (1, [], []) (aC (by intros; exact aY [] (by omega) (by (try simp only [zq4] at *); omega) : (0 : Int) ≤ 0 ∧ (strs (aE s 59))[0]? = some (cH ((aE s 59).getD 0 []))) (aB (u0 ((aE s 59).getD 0 []) 44 (by omega) : SpG g _ _ _ _ _))) ?_ ?_
   ·have hd1 : ((aE s 59).take 1).drop 1 = [] := List.drop_eq_nil_of_le (by rw [List.length_take]; omega)
    exact ⟨Nat.le_refl _, hcl.2.1, rfl, by rw [hd1]; rfl, by rw [hd1]; rfl⟩
   rintro ⟨i, acc2, es2⟩ ⟨hi1, hi, hes2, hacc, hall⟩
   have hal : acc2.length + 1 = i := by rw [hacc, List.length_map, List.length_drop, List.length_take]; omega
   have hel2 : es2.length = acc2.length := by rw [hes2, rowsD, List.length_map]
   have hpl : ((aE s 59).getD i []).length ≤ s.length := j8 hcl.1
   have hcp := kF ((aE s 59).getD i []) 44
   refine zc hG [] [1, 0] (decide (((i : Int) : Int) < ((strs (aE s 59)).length : Int))) aA (fun hc4 => ?_) (fun hc4 => ?_)
   ·(try simp only [gR] at hc4)
    refine zA hG [(11, 2, .elem (cH ((aE s 59).getD i []))), (11, 4, kC (y16 (strs (aE ((aE s 59).getD i []) 44)) (gC ((aE s 59).getD i []) 44)))] [0, 1, 0, 1, 1, 0, 0, 1] (⟨[zX 2 100 0, zX 3 201 0, zM 4 1 (strs (aE s 59)), zI 6 (i : Int), zN 7, zM 8 1 (strs (aE ((aE s 59).getD i []) 44)), zI 10 0], [(100, y11), (201, y47 (strs (aE ((aE s 59).getD 0 []) 44))), (9002, .arr 0 33 1 (es2))]⟩) [(7, 9004, 30, 7)] [] (fun (zz : Nat × List Cl × List (List D)) => match zz with | (j, accr, esr) => ((aE ((aE s 59).getD i []) 44).length - j, ⟨[zX 2 100 0, zX 3 201 0, zM 4 1 (strs (aE s 59)), zI 6 (i : Int), zY 7 9004 0, zM 8 1 (strs (aE ((aE s 59).getD i []) 44)), zI 10 (j : Int)], [(100, y11), (201, y47 (strs (aE ((aE s 59).getD 0 []) 44))), (9002, .arr 0 33 1 (es2)), (9004, .arr 0 30 7 (esr))]⟩, j ≤ (aE ((aE s 59).getD i []) 44).length ∧ esr = rowD accr ∧ accr = ((cX ((aE s 59).getD i [])).take j).map (fun w => aT (w.headD 0) (w.drop 1)) ∧ ((cX ((aE s 59).getD i [])).take j).all (fun w => !(w.isEmpty)) = true)) (0, [], []) (aC (by intros; exact aY [] (by omega) (by (try simp only [zq4] at *); omega) : (0 : Int) ≤ (i : Int) ∧ (strs (aE s 59))[i]? = some (cH ((aE s 59).getD i []))) (aB (u0 ((aE s 59).getD i []) 44 (by omega) : SpG g _ _ _ _ _))) ?_ ?_
    ·exact ⟨Nat.zero_le _, rfl, rfl, rfl⟩
    rintro ⟨j, accr, esr⟩ ⟨hj, hesr, haccr, hallr⟩
    have helr : esr.length = accr.length := by rw [hesr, rowD, List.length_map]
    have halr : accr.length ≤ j := by rw [haccr, List.length_map, List.length_take]; omega
    have hwl : ((aE ((aE s 59).getD i []) 44).getD j []).length ≤ s.length := Nat.le_trans (j8 hcp.1) hpl
    refine zc hG [(13, 7, .elem (cH ((aE s 59).getD i [])))] [1, 0] ((decide (((j : Int) : Int) < ((strs (aE ((aE s 59).getD i []) 44)).length : Int))) && (!((S ((aE s 59).getD i [])).toList == (S []).toList))) (aB (by intros; exact aY [] (by omega) (by (try simp only [zq4] at *); omega) : (decide (((j : Int) : Int) < ((strs (aE ((aE s 59).getD i []) 44)).length : Int))) = true → (0 : Int) ≤ (i : Int) ∧ (strs (aE s 59))[i]? = some (cH ((aE s 59).getD i [])))) (fun hc6 => ?_) (fun hc6 => ?_)
    ·(try simp only [gR] at hc6)
     refine zc hG [(15, 2, .elem (cH ((aE ((aE s 59).getD i []) 44).getD j [])))] [1, 0, 0, 0, 1] (decide ((((S ((aE ((aE s 59).getD i []) 44).getD j [])).size : Int) : Int) = 0)) (aB (by intros; exact aY [] (by omega) (by (try simp only [zq4] at *); omega) : (0 : Int) ≤ (j : Int) ∧ (strs (aE ((aE s 59).getD i []) 44))[j]? = some (cH ((aE ((aE s 59).getD i []) 44).getD j [])))) (fun hc7 => ?_) (fun hc7 => ?_)
     ·(try simp only [gR] at hc7)
      refine zE hG [] .ret (⟨[zX 2 100 0, zX 3 201 0, zM 4 1 (strs (aE s 59)), zI 6 (i : Int), zY 7 9004 0], [(100, y48), (201, y47 (strs (aE ((aE s 59).getD 0 []) 44))), (9002, .arr 0 33 1 (es2)), (9004, .arr 0 30 7 (esr))]⟩) aA rfl ?_
      refine zE hG [] .ret (⟨[zX 2 100 0, zX 3 201 0], [(100, y48), (201, y47 (strs (aE ((aE s 59).getD 0 []) 44))), (9002, .arr 0 33 1 (es2))]⟩) aA rfl ?_
      refine zR hG [] [] (y46) [] aA ?_ ?_
      ·have e : d4 s = false := aHR hi1 (by omega) (wO (p := (aE s 59).getD i []) (j := j) hc6.2 (by omega) (List.length_eq_zero_iff.1 (by omega)))
       rw [e]; rfl
      ·rfl
     ·(try simp only [gR] at hc7)
      refine zD hG [(17, 3, .elem (cH ((aE ((aE s 59).getD i []) 44).getD j []))), (17, 8, .elem (cH ((aE ((aE s 59).getD i []) 44).getD j []))), (17, 11, kC (.agg (zW (aT (((aE ((aE s 59).getD i []) 44).getD j []).headD 0) (((aE ((aE s 59).getD i []) 44).getD j []).drop 1)))))] (j + 1, accr ++ [aT (((aE ((aE s 59).getD i []) 44).getD j []).headD 0) (((aE ((aE s 59).getD i []) 44).getD j []).drop 1)], esr ++ ([[.i ((aT (((aE ((aE s 59).getD i []) 44).getD j []).headD 0) (((aE ((aE s 59).getD i []) 44).getD j []).drop 1)).kind), .s (S (aT (((aE ((aE s 59).getD i []) 44).getD j []).headD 0) (((aE ((aE s 59).getD i []) 44).getD j []).drop 1)).s), .i ((aT (((aE ((aE s 59).getD i []) 44).getD j []).headD 0) (((aE ((aE s 59).getD i []) 44).getD j []).drop 1)).dn), .i ((aT (((aE ((aE s 59).getD i []) 44).getD j []).headD 0) (((aE ((aE s 59).getD i []) 44).getD j []).drop 1)).ds), .i ((aT (((aE ((aE s 59).getD i []) 44).getD j []).headD 0) (((aE ((aE s 59).getD i []) 44).getD j []).drop 1)).n), .sl 1 ([]), .sl 1 ([])]] : List (List D))) (aC (by intros; exact aY [] (by omega) (by (try simp only [zq4] at *); omega) : (0 : Int) ≤ (j : Int) ∧ (strs (aE ((aE s 59).getD i []) 44))[j]? = some (cH ((aE ((aE s 59).getD i []) 44).getD j []))) (aC (by intros; (try simp only [oT] at *); omega : (0 : Int) ≤ 0 ∧ 0 < ((S ((aE ((aE s 59).getD i []) 44).getD j [])).size : Int)) (aC (by intros; exact aY [] (by omega) (by (try simp only [zq4] at *); omega) : (0 : Int) ≤ (j : Int) ∧ (strs (aE ((aE s 59).getD i []) 44))[j]? = some (cH ((aE ((aE s 59).getD i []) 44).getD j []))) (aC (by intros; (try simp only [oT] at *); omega : (0 : Int) ≤ 1 ∧ (1 : Int) ≤ ((S ((aE ((aE s 59).getD i []) 44).getD j [])).size : Int) ∧ ((S ((aE ((aE s 59).getD i []) 44).getD j [])).size : Int) ≤ ((S ((aE ((aE s 59).getD i []) 44).getD j [])).size : Int)) (aC (aGU ((aE ((aE s 59).getD i []) 44).getD j []) (fun e => hc7 (by rw [e]; rfl)) (by omega) : SpG g _ _ _ _ _) (aC (by intros; (try simp only [oT] at *); omega : ((esr).length + ([[.i ((aT (((aE ((aE s 59).getD i []) 44).getD j []).headD 0) (((aE ((aE s 59).getD i []) 44).getD j []).drop 1)).kind), .s (S (aT (((aE ((aE s 59).getD i []) 44).getD j []).headD 0) (((aE ((aE s 59).getD i []) 44).getD j []).drop 1)).s), .i ((aT (((aE ((aE s 59).getD i []) 44).getD j []).headD 0) (((aE ((aE s 59).getD i []) 44).getD j []).drop 1)).dn), .i ((aT (((aE ((aE s 59).getD i []) 44).getD j []).headD 0) (((aE ((aE s 59).getD i []) 44).getD j []).drop 1)).ds), .i ((aT (((aE ((aE s 59).getD i []) 44).getD j []).headD 0) (((aE ((aE s 59).getD i []) 44).getD j []).drop 1)).n), .sl 1 ([]), .sl 1 ([])]] : List (List D)).length) * (96 + 1) ≤ 140737488355328) (aB (by intros; (try simp only [oT] at *); omega : inR ((j : Int) + 1))))))))) ?_ ?_
      ·(try dsimp only); omega
      ·have hw0 : ¬ ((aE ((aE s 59).getD i []) 44).getD j []) = [] := fun e => hc7 (by rw [e]; rfl)
       obtain ⟨q1, q2⟩ := wP hc6.2 (by omega) hw0 hallr
       exact ⟨by omega, mX _ hesr, by rw [q1, ← haccr], q2⟩
    ·(try simp only [gR] at hc6)
     refine zE hG [] (.exit 2) (⟨[zX 2 100 0, zX 3 201 0, zM 4 1 (strs (aE s 59)), zI 6 (i : Int), zY 7 9004 0], [(100, y11), (201, y47 (strs (aE ((aE s 59).getD 0 []) 44))), (9002, .arr 0 33 1 (es2)), (9004, .arr 0 30 7 (esr))]⟩) aA rfl ?_
     refine fU hG (⟨[zX 2 100 0, zX 3 201 0, zM 4 1 (strs (aE s 59)), zI 6 (i : Int), zM 7 7 (esr)], [(100, y11), (201, y47 (strs (aE ((aE s 59).getD 0 []) 44))), (9002, .arr 0 33 1 (es2))]⟩) (by kernel_rfl) ?_
     refine zD hG [] (i + 1, acc2 ++ [o5 ((aE s 59).getD i [])], es2 ++ ([[.sl 7 (esr)]] : List (List D))) (aC (by intros; (try simp only [oT] at *); omega : ((es2).length + (([[.sl 7 (esr)]] : List (List D))).length) * (24 + 1) ≤ 140737488355328) (aB (by intros; (try simp only [oT] at *); omega : inR ((i : Int) + 1)))) ?_ ?_
     ·(try dsimp only); omega
     ·have hw := wA hj (by rcases hc6 with h | h; (· exact .inl (by omega)); exact .inr h)
      rw [hw] at haccr hallr
      refine ⟨by omega, by omega, ?_, ?_, ?_⟩
      ·rw [hesr, haccr]; exact kP (o5 _) hes2
      ·rw [sF hi1 (by omega), List.map_append, ← hacc]; rfl
      ·rw [sF hi1 (by omega), List.all_append, hall, List.all_cons, List.all_nil]
       simp only [Bool.true_and, Bool.and_true]; exact hallr
   ·(try simp only [gR] at hc4)
    refine zE hG [] (.exit 0) (⟨[zX 2 100 0, zX 3 201 0], [(100, y11), (201, y47 (strs (aE ((aE s 59).getD 0 []) 44))), (9002, .arr 0 33 1 (es2))]⟩) aA rfl ?_
    refine zR hG [] [] (y12 (strs (aE ((aE s 59).getD 0 []) 44)) (es2)) [] aA ?_ ?_
    ·have hti : (aE s 59).take i = aE s 59 := List.take_of_length_le (by omega)
     rw [hti] at hacc hall
     have e : d4 s = true := by rw [d4, hall, hc1]; rfl
     rw [if_pos e, if_neg hc2, hes2, hacc]
    ·rfl
  ·(try simp only [gR] at hc2)
   refine zA hG [] [0, 1, 0, 1, 1, 1, 1, 1] (⟨[zX 2 100 0, zX 3 201 0, zM 4 1 (strs (aE s 59)), zI 6 1], [(100, y11), (201, y13)]⟩) [] [(201, 6, 9002, 33, 1)] (fun (zz : Nat × List (List Cl) × List (List D)) => match zz with | (i, acc2, es2) => ((aE s 59).length - i, ⟨[zX 2 100 0, zX 3 201 0, zM 4 1 (strs (aE s 59)), zI 6 (i : Int)], [(100, y11), (201, y49), (9002, .arr 0 33 1 (es2))]⟩, 1 ≤ i ∧ i ≤ (aE s 59).length ∧ es2 = rowsD acc2 ∧ acc2 = (((aE s 59).take i).drop 1).map o5 ∧ (((aE s 59).take i).drop 1).all nT = true)) (1, [], []) aA ?_ ?_
   ·have hd1 : ((aE s 59).take 1).drop 1 = [] := List.drop_eq_nil_of_le (by rw [List.length_take]; omega)
    exact ⟨Nat.le_refl _, hcl.2.1, rfl, by rw [hd1]; rfl, by rw [hd1]; rfl⟩
   rintro ⟨i, acc2, es2⟩ ⟨hi1, hi, hes2, hacc, hall⟩
   have hal : acc2.length + 1 = i := by rw [hacc, List.length_map, List.length_drop, List.length_take]; omega
   have hel2 : es2.length = acc2.length := by rw [hes2, rowsD, List.length_map]
   have hpl : ((aE s 59).getD i []).length ≤ s.length := j8 hcl.1
   have hcp := kF ((aE s 59).getD i []) 44
   refine zc hG [] [1, 0] (decide (((i : Int) : Int) < ((strs (aE s 59)).length : Int))) aA (fun hc9 => ?_) (fun hc9 => ?_)
   ·(try simp only [gR] at hc9)
    refine zA hG [(11, 2, .elem (cH ((aE s 59).getD i []))), (11, 4, kC (y16 (strs (aE ((aE s 59).getD i []) 44)) (gC ((aE s 59).getD i []) 44)))] [0, 1, 0, 1, 1, 0, 0, 1] (⟨[zX 2 100 0, zX 3 201 0, zM 4 1 (strs (aE s 59)), zI 6 (i : Int), zN 7, zM 8 1 (strs (aE ((aE s 59).getD i []) 44)), zI 10 0], [(100, y11), (201, y49), (9002, .arr 0 33 1 (es2))]⟩) [(7, 9004, 30, 7)] [] (fun (zz : Nat × List Cl × List (List D)) => match zz with | (j, accr, esr) => ((aE ((aE s 59).getD i []) 44).length - j, ⟨[zX 2 100 0, zX 3 201 0, zM 4 1 (strs (aE s 59)), zI 6 (i : Int), zY 7 9004 0, zM 8 1 (strs (aE ((aE s 59).getD i []) 44)), zI 10 (j : Int)], [(100, y11), (201, y49), (9002, .arr 0 33 1 (es2)), (9004, .arr 0 30 7 (esr))]⟩, j ≤ (aE ((aE s 59).getD i []) 44).length ∧ esr = rowD accr ∧ accr = ((cX ((aE s 59).getD i [])).take j).map (fun w => aT (w.headD 0) (w.drop 1)) ∧ ((cX ((aE s 59).getD i [])).take j).all (fun w => !(w.isEmpty)) = true)) (0, [], []) (aC (by intros; exact aY [] (by omega) (by (try simp only [zq4] at *); omega) : (0 : Int) ≤ (i : Int) ∧ (strs (aE s 59))[i]? = some (cH ((aE s 59).getD i []))) (aB (u0 ((aE s 59).getD i []) 44 (by omega) : SpG g _ _ _ _ _))) ?_ ?_
    ·exact ⟨Nat.zero_le _, rfl, rfl, rfl⟩
    rintro ⟨j, accr, esr⟩ ⟨hj, hesr, haccr, hallr⟩
    have helr : esr.length = accr.length := by rw [hesr, rowD, List.length_map]
    have halr : accr.length ≤ j := by rw [haccr, List.length_map, List.length_take]; omega
    have hwl : ((aE ((aE s 59).getD i []) 44).getD j []).length ≤ s.length := Nat.le_trans (j8 hcp.1) hpl
    refine zc hG [(13, 7, .elem (cH ((aE s 59).getD i [])))] [1, 0] ((decide (((j : Int) : Int) < ((strs (aE ((aE s 59).getD i []) 44)).length : Int))) && (!((S ((aE s 59).getD i [])).toList == (S []).toList))) (aB (by intros; exact aY [] (by omega) (by (try simp only [zq4] at *); omega) : (decide (((j : Int) : Int) < ((strs (aE ((aE s 59).getD i []) 44)).length : Int))) = true → (0 : Int) ≤ (i : Int) ∧ (strs (aE s 59))[i]? = some (cH ((aE s 59).getD i [])))) (fun hc11 => ?_) (fun hc11 => ?_)
    ·(try simp only [gR] at hc11)
     refine zc hG [(15, 2, .elem (cH ((aE ((aE s 59).getD i []) 44).getD j [])))] [1, 0, 0, 0, 1] (decide ((((S ((aE ((aE s 59).getD i []) 44).getD j [])).size : Int) : Int) = 0)) (aB (by intros; exact aY [] (by omega) (by (try simp only [zq4] at *); omega) : (0 : Int) ≤ (j : Int) ∧ (strs (aE ((aE s 59).getD i []) 44))[j]? = some (cH ((aE ((aE s 59).getD i []) 44).getD j [])))) (fun hc12 => ?_) (fun hc12 => ?_)
     ·(try simp only [gR] at hc12)
      refine zE hG [] .ret (⟨[zX 2 100 0, zX 3 201 0, zM 4 1 (strs (aE s 59)), zI 6 (i : Int), zY 7 9004 0], [(100, y48), (201, y49), (9002, .arr 0 33 1 (es2)), (9004, .arr 0 30 7 (esr))]⟩) aA rfl ?_
      refine zE hG [] .ret (⟨[zX 2 100 0, zX 3 201 0], [(100, y48), (201, y49), (9002, .arr 0 33 1 (es2))]⟩) aA rfl ?_
      refine zR hG [] [] (y46) [] aA ?_ ?_
      ·have e : d4 s = false := aHR hi1 (by omega) (wO (p := (aE s 59).getD i []) (j := j) hc11.2 (by omega) (List.length_eq_zero_iff.1 (by omega)))
       rw [e]; rfl
      ·rfl
     ·(try simp only [gR] at hc12)
      refine zD hG [(17, 3, .elem (cH ((aE ((aE s 59).getD i []) 44).getD j []))), (17, 8, .elem (cH ((aE ((aE s 59).getD i []) 44).getD j []))), (17, 11, kC (.agg (zW (aT (((aE ((aE s 59).getD i []) 44).getD j []).headD 0) (((aE ((aE s 59).getD i []) 44).getD j []).drop 1)))))] (j + 1, accr ++ [aT (((aE ((aE s 59).getD i []) 44).getD j []).headD 0) (((aE ((aE s 59).getD i []) 44).getD j []).drop 1)], esr ++ ([[.i ((aT (((aE ((aE s 59).getD i []) 44).getD j []).headD 0) (((aE ((aE s 59).getD i []) 44).getD j []).drop 1)).kind), .s (S (aT (((aE ((aE s 59).getD i []) 44).getD j []).headD 0) (((aE ((aE s 59).getD i []) 44).getD j []).drop 1)).s), .i ((aT (((aE ((aE s 59).getD i []) 44).getD j []).headD 0) (((aE ((aE s 59).getD i []) 44).getD j []).drop 1)).dn), .i ((aT (((aE ((aE s 59).getD i []) 44).getD j []).headD 0) (((aE ((aE s 59).getD i []) 44).getD j []).drop 1)).ds), .i ((aT (((aE ((aE s 59).getD i []) 44).getD j []).headD 0) (((aE ((aE s 59).getD i []) 44).getD j []).drop 1)).n), .sl 1 ([]), .sl 1 ([])]] : List (List D))) (aC (by intros; exact aY [] (by omega) (by (try simp only [zq4] at *); omega) : (0 : Int) ≤ (j : Int) ∧ (strs (aE ((aE s 59).getD i []) 44))[j]? = some (cH ((aE ((aE s 59).getD i []) 44).getD j []))) (aC (by intros; (try simp only [oT] at *); omega : (0 : Int) ≤ 0 ∧ 0 < ((S ((aE ((aE s 59).getD i []) 44).getD j [])).size : Int)) (aC (by intros; exact aY [] (by omega) (by (try simp only [zq4] at *); omega) : (0 : Int) ≤ (j : Int) ∧ (strs (aE ((aE s 59).getD i []) 44))[j]? = some (cH ((aE ((aE s 59).getD i []) 44).getD j []))) (aC (by intros; (try simp only [oT] at *); omega : (0 : Int) ≤ 1 ∧ (1 : Int) ≤ ((S ((aE ((aE s 59).getD i []) 44).getD j [])).size : Int) ∧ ((S ((aE ((aE s 59).getD i []) 44).getD j [])).size : Int) ≤ ((S ((aE ((aE s 59).getD i []) 44).getD j [])).size : Int)) (aC (aGU ((aE ((aE s 59).getD i []) 44).getD j []) (fun e => hc12 (by rw [e]; rfl)) (by omega) : SpG g _ _ _ _ _) (aC (by intros; (try simp only [oT] at *); omega : ((esr).length + ([[.i ((aT (((aE ((aE s 59).getD i []) 44).getD j []).headD 0) (((aE ((aE s 59).getD i []) 44).getD j []).drop 1)).kind), .s (S (aT (((aE ((aE s 59).getD i []) 44).getD j []).headD 0) (((aE ((aE s 59).getD i []) 44).getD j []).drop 1)).s), .i ((aT (((aE ((aE s 59).getD i []) 44).getD j []).headD 0) (((aE ((aE s 59).getD i []) 44).getD j []).drop 1)).dn), .i ((aT (((aE ((aE s 59).getD i []) 44).getD j []).headD 0) (((aE ((aE s 59).getD i []) 44).getD j []).drop 1)).ds), .i ((aT (((aE ((aE s 59).getD i []) 44).getD j []).headD 0) (((aE ((aE s 59).getD i []) 44).getD j []).drop 1)).n), .sl 1 ([]), .sl 1 ([])]] : List (List D)).length) * (96 + 1) ≤ 140737488355328) (aB (by intros; (try simp only [oT] at *); omega : inR ((j : Int) + 1))))))))) ?_ ?_
      ·(try dsimp only); omega
      ·have hw0 : ¬ ((aE ((aE s 59).getD i []) 44).getD j []) = [] := fun e => hc12 (by rw [e]; rfl)
       obtain ⟨q1, q2⟩ := wP hc11.2 (by omega) hw0 hallr
       exact ⟨by omega, mX _ hesr, by rw [q1, ← haccr], q2⟩
    ·(try simp only [gR] at hc11)
     refine zE hG [] (.exit 2) (⟨[zX 2 100 0, zX 3 201 0, zM 4 1 (strs (aE s 59)), zI 6 (i : Int), zY 7 9004 0], [(100, y11), (201, y49), (9002, .arr 0 33 1 (es2)), (9004, .arr 0 30 7 (esr))]⟩) aA rfl ?_
     refine fU hG (⟨[zX 2 100 0, zX 3 201 0, zM 4 1 (strs (aE s 59)), zI 6 (i : Int), zM 7 7 (esr)], [(100, y11), (201, y49), (9002, .arr 0 33 1 (es2))]⟩) (by kernel_rfl) ?_
     refine zD hG [] (i + 1, acc2 ++ [o5 ((aE s 59).getD i [])], es2 ++ ([[.sl 7 (esr)]] : List (List D))) (aC (by intros; (try simp only [oT] at *); omega : ((es2).length + (([[.sl 7 (esr)]] : List (List D))).length) * (24 + 1) ≤ 140737488355328) (aB (by intros; (try simp only [oT] at *); omega : inR ((i : Int) + 1)))) ?_ ?_
     ·(try dsimp only); omega
     ·have hw := wA hj (by rcases hc11 with h | h; (· exact .inl (by omega)); exact .inr h)
      rw [hw] at haccr hallr
      refine ⟨by omega, by omega, ?_, ?_, ?_⟩
      ·rw [hesr, haccr]; exact kP (o5 _) hes2
      ·rw [sF hi1 (by omega), List.map_append, ← hacc]; rfl
      ·rw [sF hi1 (by omega), List.all_append, hall, List.all_cons, List.all_nil]
       simp only [Bool.true_and, Bool.and_true]; exact hallr
   ·(try simp only [gR] at hc9)
    refine zE hG [] (.exit 0) (⟨[zX 2 100 0, zX 3 201 0], [(100, y11), (201, y49), (9002, .arr 0 33 1 (es2))]⟩) aA rfl ?_
    refine zR hG [] [] (.agg [cI 5, cS (S []), cI 0, cI 0, cI 0, cN, cM 1 (es2)]) [] aA ?_ ?_
    ·have hti : (aE s 59).take i = aE s 59 := List.take_of_length_le (by omega)
     rw [hti] at hacc hall
     have e : d4 s = true := by rw [d4, hall, hc1]; rfl
     rw [if_pos e, if_pos hc2, hes2, hacc]
    ·rfl
theorem aBQ (s : List UInt8) (hl : s.length ≤ 100000000) : SpG g 61 [.c (cS (S s))] [] (.agg (zV (fO s))) [] := by
 have h := aIC (g := g) s hl
 cases hb : d4 s with
 | false =>
  rw [hb, if_neg (by decide)] at h
  rw [aHZ hb]
  exact oZ [none, none, none, none, none, some 1, some 1] h
 | true =>
  rw [if_pos hb] at h
  rw [aEF hb]
  by_cases hp : ((aE s 59).getD 0 []) = []
  rw [if_pos hp] at h
  simp only [wC hp]
  exact oZ [none, none, none, none, none, some 1, some 1] h
  rw [if_neg hp] at h
  simp only [kL hp]
  exact h
theorem table_X (x : UInt8) (t : List UInt8) (hl : t.length ≤ 100000000) : SpG g 61 [.c (cS ((S (x :: t)).extract 1 (if (1 : Int) > ((S (x :: t)).size : Int) - 1 then 1 else ((S (x :: t)).size : Int) - 1).toNat))] [] (.agg (zV (fO (t.take (t.length - 1))))) [] := by
 rw [table_B (S (x :: t)) x t]
 exact aBQ _ (by rw [List.length_take]; omega)
theorem plain_X (x : UInt8) (t : List UInt8) (hl : t.length ≤ 100000000) : SpG g 62 [.c (.d (.y (byteAt (S (x :: t)) 0))), .c (cS ((S (x :: t)).extract 1 (S (x :: t)).size))] [] (.agg (zW (aT x t))) [] := by
 rw [gI, oS]
 exact aB6 x t hl
theorem refM_t {x : UInt8} {t : List UInt8} {out : SV} (hx : x = 91) (h : SpG g 17 [qB (iT (x :: t))] [] out []) : SpG g 17 [qB (fO (t.take (t.length - 1)))] [] out [] := by
 rw [iT, if_pos hx] at h; exact h
theorem refM_p {x : UInt8} {t : List UInt8} {out : SV} (hx : ¬ x = 91) (h : SpG g 17 [qB (iT (x :: t))] [] out []) : SpG g 17 [.agg (zW (aT x t))] [] out [] := by
 rw [iT, if_neg hx] at h; exact h
theorem aBT  :
  SpG g 19 [.c (cS (S []))] [] (y37) [] := by
 refine aG 30 Tryz.func19 (by kernel_rfl) fun fr hG => ?_
 refine zC hG [] [1, 0, 1] (true) (⟨[zS 0 (S []), zX 2 100 0, zB 3 false], [(100, y11)]⟩) aA (fun _ => ?_) (fun hc1 => absurd hc1 (by decide))
 exact zr hG [] [] aA
def aJZ := And.intro @List.length_cons.{0} (And.intro @aF (@Go.Eng.inR.eq_1))
theorem aKW (x : UInt8) (t : List UInt8) (hl : t.length ≤ 99999999) :
  SpG g 19 [.c (cS (S (x :: t)))] [] (if bP (x :: t) = true then .tup [(true, (zV (bK (x :: t)))), (false, [cB true])] else y37) [] := by
 refine aG 30 Tryz.func19 (by kernel_rfl) fun fr hG => ?_
 refine zC hG [] [1, 0, 1] (decide ((((S (x :: t)).size : Int) : Int) = 0)) (⟨[zS 0 (S (x :: t)), zX 2 100 0, zB 3 false], [(100, y11)]⟩) aA (fun hc1 => ?_) (fun hc1 => ?_)
 (try simp only [eR, gI, x91] at hc1)
 exfalso; simp only [List.length_cons] at hc1; omega
 (try simp only [eR, gI, x91] at hc1)
 refine zC hG [] [1, 0, 1, 1, 1] (decide ((byteAt (S (x :: t)) 0 : Int) = 91)) (⟨[zS 0 (S (x :: t)), zX 2 100 0, zB 3 false, zX 4 400 0], [(100, y11), (400, y11)]⟩) (aB (by intros; (try simp only [aJZ] at *); first | omega | (split <;> omega) : (0 : Int) ≤ 0 ∧ 0 < ((S (x :: t)).size : Int))) (fun hc2 => ?_) (fun hc2 => ?_)
 (try simp only [eR, gI, x91] at hc2)
 refine zC hG [(5, 6, kC (.agg (zV (fO (t.take (t.length - 1)))))), (7, 1, kS (S (aW (iT (x :: t)))))] [1, 0, 1, 1, 1, 1] (!((S (aW (iT (x :: t)))).toList == (S (x :: t)).toList)) (⟨[zX 2 100 0, zB 3 false, zX 4 400 0], [(100, y11), (400, .box 30 (zV (fO (t.take (t.length - 1)))))]⟩) (aC (by intros; (try simp only [aJZ] at *); first | omega | (split <;> omega) : inR (((S (x :: t)).size : Int) - 1)) (aC (by intros; (try simp only [aJZ] at *); first | omega | (split <;> omega) : (0 : Int) ≤ 1 ∧ (1 : Int) ≤ (if (1 : Int) > (((S (x :: t)).size : Int) - 1) then 1 else (((S (x :: t)).size : Int) - 1)) ∧ (if (1 : Int) > (((S (x :: t)).size : Int) - 1) then 1 else (((S (x :: t)).size : Int) - 1)) ≤ ((S (x :: t)).size : Int)) (aC (table_X x t (by omega) : SpG g _ _ _ _ _) (aB (refM_t hc2 (n9 (iT (x :: t)) (aBZ (x :: t) (by rw [List.length_cons]; unfold maxLen; omega))) : SpG g _ _ _ _ _))))) (fun hc3 => ?_) (fun hc3 => ?_)
 (try simp only [eR, gI, x91] at hc3)
 refine zR hG [] [] (y37) [] aA ?_ ?_
 have e : bP (x :: t) = false := by rw [← (jX (List.cons_ne_nil x t)).1]; simp [hc3]
 rw [if_neg (by rw [e]; decide)]
 rfl
 (try simp only [eR, gI, x91] at hc3)
 refine zR hG [] [] (.tup [(true, (zV (fO (t.take (t.length - 1))))), (false, [cB true])]) [] aA ?_ ?_
 have e : bP (x :: t) = true := by rw [← (jX (List.cons_ne_nil x t)).1]; simp [hc3]
 have e2 := (jX (List.cons_ne_nil x t)).2
 rw [if_pos hc3] at e2
 rw [if_pos e, ← e2, iT, if_pos hc2]
 rfl
 (try simp only [eR, gI, x91] at hc2)
 refine zC hG [(6, 4, kC (.agg (zW (aT x t)))), (7, 1, kS (S (aW (iT (x :: t)))))] [1, 0, 1, 1, 1, 1] (!((S (aW (iT (x :: t)))).toList == (S (x :: t)).toList)) (⟨[zX 2 100 0, zB 3 false, zX 4 400 0], [(100, y11), (400, .box 30 (zW (aT x t)))]⟩) (aC (by intros; (try simp only [aJZ] at *); first | omega | (split <;> omega) : (0 : Int) ≤ 0 ∧ 0 < ((S (x :: t)).size : Int)) (aC (by intros; (try simp only [aJZ] at *); first | omega | (split <;> omega) : (0 : Int) ≤ 1 ∧ (1 : Int) ≤ ((S (x :: t)).size : Int) ∧ ((S (x :: t)).size : Int) ≤ ((S (x :: t)).size : Int)) (aC (plain_X x t (by omega) : SpG g _ _ _ _ _) (aB (refM_p hc2 (n9 (iT (x :: t)) (aBZ (x :: t) (by rw [List.length_cons]; unfold maxLen; omega))) : SpG g _ _ _ _ _))))) (fun hc4 => ?_) (fun hc4 => ?_)
 (try simp only [eR, gI, x91] at hc4)
 refine zR hG [] [] (y37) [] aA ?_ ?_
 have e : bP (x :: t) = false := by rw [← (jX (List.cons_ne_nil x t)).1]; simp [hc4]
 rw [if_neg (by rw [e]; decide)]
 rfl
 (try simp only [eR, gI, x91] at hc4)
 refine zR hG [] [] (.tup [(true, (zW (aT x t))), (false, [cB true])]) [] aA ?_ ?_
 have e : bP (x :: t) = true := by rw [← (jX (List.cons_ne_nil x t)).1]; simp [hc4]
 have e2 := (jX (List.cons_ne_nil x t)).2
 rw [if_pos hc4] at e2
 rw [if_pos e, ← e2, iT, if_neg hc2]; rfl
 rfl
theorem aES (s : List UInt8) (hl : s.length ≤ 100000000) : SpG g 19 [.c (cS (S s))] [] (y45 (bK s) (bP s)) [] := by
 cases s with
 | nil =>
  rw [read_nil.1, read_nil.2]
  exact fV [[none, none, none, none, none, some 1, some 1], []] aBT
 | cons x t =>
  have h := aKW (g := g) x t (by rw [List.length_cons] at hl; omega)
  cases hb : bP (x :: t) with
  | true => rw [if_pos hb] at h; exact h
  | false =>
   rw [if_neg (by rw [hb]; decide)] at h
   rw [aB2 hb]
   exact fV [[none, none, none, none, none, some 1, some 1], []] h
theorem aBU (s : List UInt8) (hl : s.length ≤ 100000000) :
  SpG g 24 [.c (cS (S s))] [] (if dH s = true ∧ s ≠ [] then .tup [(false, [cM 7 (valsD (dJ s))]), (false, [cB true])] else .tup [(false, [cN]), (false, [cB (dH s)])]) [] := by
 have hcl := kF s 124
 refine aG 44 Tryz.func24 (by kernel_rfl) fun fr hG => ?_
 refine zC hG [] [1, 0, 1] ((S s).toList == (S []).toList) (⟨[zS 0 (S s), zN 2, zB 3 false], []⟩) aA (fun hc1 => ?_) (fun hc1 => ?_)
 (try simp only [gR] at hc1)
 refine zR hG [] [] (.tup [(false, [cN]), (false, [cB true])]) [] aA ?_ ?_
 obtain rfl : s = [] := hc1
 rw [if_neg (by rintro ⟨_, h⟩; exact h rfl), row_nil.1]
 rfl
 (try simp only [gR] at hc1)
 refine zC hG [(3, 1, kC (y16 (strs (aE s 124)) (gC s 124)))] [1, 0, 1, 1, 1] (!(gC s 124)) (⟨[zS 0 (S s), zN 2, zB 3 false, zM 4 1 (strs (aE s 124))], []⟩) (aB (u0 s 124 hl : SpG g _ _ _ _ _)) (fun hc2 => ?_) (fun hc2 => ?_)
 (try simp only [gR] at hc2)
 refine zR hG [] [] (y40) [] aA ?_ ?_
 have hk2 := aEP hc1 (.inl hc2)
 rw [if_neg (by rintro ⟨h, _⟩; rw [hk2] at h; cases h), hk2]
 rfl
 (try simp only [gR] at hc2)
 refine zA hG [] [0, 1, 0, 1, 1, 1, 1, 1] (⟨[zS 0 (S s), zN 2, zB 3 false, zM 4 1 (strs (aE s 124)), zN 6, zI 7 0], []⟩) [(6, 9005, 30, 7)] [] (fun (zz : Nat × List (List D)) => match zz with | (k, es) => ((aE s 124).length - k, ⟨[zS 0 (S s), zN 2, zB 3 false, zM 4 1 (strs (aE s 124)), zY 6 9005 0, zI 7 (k : Int)], [(9005, .arr 0 30 7 (es))]⟩, k ≤ (aE s 124).length ∧ es = valsD (((aE s 124).take k).map bK) ∧ ((aE s 124).take k).all bP = true)) (0, []) aA ?_ ?_
 exact ⟨Nat.zero_le _, rfl, rfl⟩
 rintro ⟨k, es⟩ ⟨hk, hes, hall⟩
 have hel : es.length ≤ k := by rw [hes, valsD, List.length_map, List.length_map, List.length_take]; omega
 have hwl : ((aE s 124).getD k []).length ≤ s.length := j8 hcl.1
 refine zc hG [] [1, 0] (decide (((k : Int) : Int) < ((strs (aE s 124)).length : Int))) aA (fun hc4 => ?_) (fun hc4 => ?_)
 (try simp only [gR] at hc4)
 refine zC hG [(10, 2, .elem (cH ((aE s 124).getD k []))), (10, 4, kC (y45 (bK ((aE s 124).getD k [])) (bP ((aE s 124).getD k []))))] [1, 0, 1, 0, 0, 1] (!(bP ((aE s 124).getD k []))) (⟨[zS 0 (S s), zN 2, zB 3 false, zM 4 1 (strs (aE s 124)), zY 6 9005 0, zI 7 (k : Int), zX 8 1108 0], [(1108, .box 30 (zV (bK ((aE s 124).getD k [])))), (9005, .arr 0 30 7 (es))]⟩) (aC (by intros; exact aY [] (by omega) (by (try simp only [zq4] at *); omega) : (0 : Int) ≤ (k : Int) ∧ (strs (aE s 124))[k]? = some (cH ((aE s 124).getD k []))) (aB (aES ((aE s 124).getD k []) (by omega) : SpG g _ _ _ _ _))) (fun hc5 => ?_) (fun hc5 => ?_)
 (try simp only [gR] at hc5)
 refine zE hG [] .ret (⟨[zS 0 (S s), zN 2, zB 3 false, zY 6 9005 0], [(9005, .arr 0 30 7 (es))]⟩) aA rfl ?_
 refine zR hG [] [] (y40) [] aA ?_ ?_
 have hk2 := aEP hc1 (.inr (.inl (aAR (k := k) (by omega) hc5)))
 rw [if_neg (by rintro ⟨h, _⟩; rw [hk2] at h; cases h), hk2]
 rfl
 (try simp only [gR] at hc5)
 refine zD hG [] (k + 1, es ++ ([[.i (((bK ((aE s 124).getD k []))).kind), .s (S ((bK ((aE s 124).getD k []))).s), .i (((bK ((aE s 124).getD k []))).dn), .i (((bK ((aE s 124).getD k []))).ds), .i (((bK ((aE s 124).getD k []))).n), .sl 1 (strs (((bK ((aE s 124).getD k []))).cols)), .sl 1 (rowsD (((bK ((aE s 124).getD k []))).rows))]] : List (List D))) (aC (by intros; (try simp only [oT] at *); omega : ((es).length + (([[.i (((bK ((aE s 124).getD k []))).kind), .s (S ((bK ((aE s 124).getD k []))).s), .i (((bK ((aE s 124).getD k []))).dn), .i (((bK ((aE s 124).getD k []))).ds), .i (((bK ((aE s 124).getD k []))).n), .sl 1 (strs (((bK ((aE s 124).getD k []))).cols)), .sl 1 (rowsD (((bK ((aE s 124).getD k []))).rows))]] : List (List D))).length) * (96 + 1) ≤ 140737488355328) (aB (by intros; (try simp only [oT] at *); omega : inR ((k : Int) + 1)))) ?_ ?_
 (try dsimp only); omega
 have hkl : k < (aE s 124).length := by omega
 refine ⟨by omega, ?_, ?_⟩
 rw [iI [] hkl, List.map_append]; exact oW (bK ((aE s 124).getD k [])) hes
 rw [iI [] hkl, List.all_append, hall, List.all_cons, List.all_nil, hc5]; rfl
 (try simp only [gR] at hc4)
 refine zE hG [] (.exit 0) (⟨[zS 0 (S s), zN 2, zB 3 false, zY 6 9005 0], [(9005, .arr 0 30 7 (es))]⟩) aA rfl ?_
 refine zC hG [(14, 1, kS (S (aD (((aE s 124).take k).map bK))))] [1, 0, 1, 1, 1, 1, 1, 1] (!((S (aD (((aE s 124).take k).map bK))).toList == (S s).toList)) (⟨[zN 2, zB 3 false, zY 6 9005 0], [(9005, .arr 0 30 7 (es))]⟩) (aB (nV hes (fun v hv => by obtain ⟨w, hw, rfl⟩ := List.mem_map.1 hv; exact aIE w (by have := hcl.1 w (List.mem_of_mem_take hw); unfold maxLen; omega)) : SpG g _ _ _ _ _)) (fun hc6 => ?_) (fun hc6 => ?_)
 (try simp only [gR] at hc6)
 refine zR hG [] [] (y40) [] aA ?_ ?_
 have ht := wM (s := s) (k := k) (by omega)
 rw [ht] at hc6
 have hk2 := aEP hc1 (.inr (.inr hc6))
 rw [if_neg (by rintro ⟨h, _⟩; rw [hk2] at h; cases h), hk2]
 rfl
 (try simp only [gR] at hc6)
 refine zR hG [] [] (y41 (es)) [] aA ?_ ?_
 have ht := wM (s := s) (k := k) (by omega)
 rw [ht] at hc6 hes hall
 obtain ⟨hk2, hv⟩ := rowK_t hc1 hc2 hall hc6
 rw [if_pos ⟨hk2, hc1⟩, hv, hes]
 rfl
theorem vV (s : List UInt8) (hl : s.length ≤ 100000000) : SpG g 24 [.c (cS (S s))] [] (y42 (valsD (dJ s)) (dH s)) [] := by
 have h := aBU (g := g) s hl
 by_cases hb : dH s = true ∧ s ≠ []
 rw [if_pos hb] at h
 rw [hb.1]; exact h
 rw [if_neg hb] at h
 have e : dJ s = [] := by rw [dJ, if_neg hb]
 rw [e]
 exact fV [[some 7], []] h
end Go.Proofs.YtmpgfchkkemngaaGreatDoor
namespace Go.Proofs.YtmpgfchkkemngaaGreatDoor
open Go.RowKit Go.V
open Go.Eng (inR byteAt u8 bH)
variable {g : Gv}
theorem aGS {s : List UInt8} {x : UInt8} {t : List UInt8} (e : s = x :: t) (hx : ¬ x = 91) (h : bP s = true) : v7 (clP s).1 := by
 obtain ⟨h1, h2⟩ := yT h
 by_cases hk : (bK s).kind = 5
 have q := iO hk h1 []
 rw [oX h1] at h2
 rw [List.append_nil, h2, e] at q
 injection q with q _
 exact absurd q hx
 obtain ⟨_, q2, q3⟩ := l6 hk h1
 have q := clP_of q2.1 q2.2 (r := []) (.inl rfl)
 rw [List.append_nil, ← q3, ← oX h1, h2] at q
 rw [q]; exact q2
theorem aK0 : bP [35, 49, 46, 48] = false := by
 cases h : bP [35, 49, 46, 48] with
 | false => rfl
 | true =>
  have hf := aGS rfl (by decide) h
  have e : (clP [35, 49, 46, 48]).1 = ⟨2, [], 10, 1, 0⟩ := by decide +kernel
  rw [e] at hf
  exact absurd hf.2 (by decide)
theorem aKZ : bP [63, 50] = false := by
 cases h : bP [63, 50] with
 | false => rfl
 | true =>
  have hf := aGS rfl (by decide) h
  have e : (clP [63, 50]).1 = ⟨4, [], 0, 0, 2⟩ := by decide +kernel
  rw [e] at hf
  exact absurd hf.2 (by decide)
theorem row_ex : dH [39, 97, 124, 98, 39, 124, 35, 49] = true ∧ dJ [39, 97, 124, 98, 39, 124, 35, 49] = [exA, exB] := by
 have h := yM (l := [exA, exB]) (by decide) (by
  intro v hv
  simp only [List.mem_cons, List.not_mem_nil, or_false] at hv
  rcases hv with rfl | rfl <;> decide) (by simp)
 rw [xJ] at h
 exact ⟨h.1, h.2.1⟩
theorem aEM (hE : jH g) :
  SpG g 10 [] [] (.c (cB true)) [] := by
 refine aG 91 Tryz.func10 (by kernel_rfl) fun fr hG => ?_
 refine zR hG [(1, 4, .elem [.nil, .nil, .nil, .nil, .nil, .sl 1 [], .sl 1 [], .nil, .nil, .nil, .nil, .nil, .sl 1 [], .sl 1 []]), (2, 0, kC (.agg [cI 0, cS (S []), cI 0, cI 0, cI 18, cN, cN])), (2, 1, kS (S [33, 49, 56])), (2, 5, kS (S [33, 48])), (2, 10, kS (S [39, 105, 116, 39, 39, 115, 39])), (2, 16, kS (S [35, 51, 46, 53])), (3, 1, kS (S [64, 48, 48, 48, 49, 45, 48, 49, 45, 48, 49])), (3, 5, kS (S [63, 49])), (3, 10, kS (S [91, 97, 44, 98, 59, 39, 120, 39, 44, 35, 50, 93])), (4, 3, .mask [none, none, none, none, none, some 1, some 1, none, none, none, none, none, some 1, some 1]), (5, 0, kC (y42 (valsD (dJ [39, 97, 124, 98, 39, 124, 35, 49])) (dH [39, 97, 124, 98, 39, 124, 35, 49]))), (6, 0, kC (y45 (bK [35, 49, 46, 48]) (bP [35, 49, 46, 48]))), (7, 0, kC (y45 (bK [63, 50]) (bP [63, 50]))), (8, 6, kS (S [39, 97, 124, 98, 39, 124, 35, 49])), (8, 15, kB (decide (dJ [39, 97, 124, 98, 39, 124, 35, 49] = [exA, exB])))] [] (.c (cB ((((dH [39, 97, 124, 98, 39, 124, 35, 49]) && (decide (dJ [39, 97, 124, 98, 39, 124, 35, 49] = [exA, exB]))) && (!(bP [35, 49, 46, 48]))) && (!(bP [63, 50]))))) [] (aC (fail_ok 18 : SpG g _ _ _ _ _) (aC (dM (ins := [.agg [cI 0, cS (S []), cI 0, cI 0, cI 18, cN, cN]]) [[none, none, none, none, none, some 1, some 1]] (iN ex1 [33, 49, 56] (jK (by decide) rfl rfl) aM6) : SpG g _ _ _ _ _) (aC (fun (hg1 : true = true) => (dM (ins := [.agg [cI 0, cS (S []), cI 0, cI 0, cI 0, cN, cN]]) [[none, none, none, none, none, some 1, some 1]] (iN ex2 [33, 48] (jK (by decide) rfl rfl) aM5) : SpG g _ _ _ _ _)) (aC (fun (hg1 : true = true) => (dM (ins := [.agg [cI 1, cS (S [105, 116, 39, 115]), cI 0, cI 0, cI 0, cN, cN]]) [[none, none, none, none, none, some 1, some 1]] (iN ex3 [39, 105, 116, 39, 39, 115, 39] (jK (by decide) rfl rfl) aM4) : SpG g _ _ _ _ _)) (aC (fun (hg1 : true = true) => (dM (ins := [.agg [cI 2, cS (S []), cI 35, cI 1, cI 0, cN, cN]]) [[none, none, none, none, none, some 1, some 1]] (iN ex4 [35, 51, 46, 53] (jK (by decide) rfl rfl) aM3) : SpG g _ _ _ _ _)) (aC (dM (ins := [.agg [cI 3, cS (S []), cI 0, cI 0, cI 0, cN, cN]]) [[none, none, none, none, none, some 1, some 1]] (iN ex5 [64, 48, 48, 48, 49, 45, 48, 49, 45, 48, 49] (jK (by decide) rfl rfl) aM2) : SpG g _ _ _ _ _) (aC (fun (hg1 : true = true) => (dM (ins := [.agg [cI 4, cS (S []), cI 0, cI 0, cI 1, cN, cN]]) [[none, none, none, none, none, some 1, some 1]] (iN ex6 [63, 49] (jK (by decide) rfl rfl) aM1) : SpG g _ _ _ _ _)) (aC (fun (hg1 : true = true) => (iN ex7 [91, 97, 44, 98, 59, 39, 120, 39, 44, 35, 50, 93] ex7_fit aM0 : SpG g _ _ _ _ _)) (aC (nR hE [39, 97, 124, 98, 39, 124, 35, 49] (by decide) : SpG g _ _ _ _ _) (aC (sV hE [35, 49, 46, 48] (by decide) : SpG g _ _ _ _ _) (aC (sV hE [63, 50] (by decide) : SpG g _ _ _ _ _) (aC (fun (hg1 : true = true) => (aBI : SpG g _ _ _ _ _)) (aB (fun (hg1 : (dH [39, 97, 124, 98, 39, 124, 35, 49]) = true) => (tJ (dJ [39, 97, 124, 98, 39, 124, 35, 49]) [exA, exB] : SpG g _ _ _ _ _))))))))))))))) ?_ ?_
 simp [aK0, aKZ, row_ex.1, row_ex.2]
 rfl
end Go.Proofs.YtmpgfchkkemngaaGreatDoor
namespace Go.Proofs.YtmpgfchkkemngaaGreatDoor
open Go.RowKit Go.V
open Go.Eng (inR byteAt u8 bH)
variable {g : Gv}
end Go.Proofs.YtmpgfchkkemngaaGreatDoor
namespace Go.Proofs.YtmpgfchkkemngaaGreatDoor
open Go.RowKit Go.V
open Go.Eng (inR byteAt u8 bH)
variable {g : Gv}
theorem aBK {v : Vl} (h : aU v = true) : v.s.length ≤ 200 ∧ v.cols.length ≤ 8 ∧ v.rows.length ≤ 100 ∧ (∀ r, r ∈ v.rows → r.length ≤ 8) := by
 by_cases hk : v.kind = 5
 ·have hs : v.s = [] := by
   simp only [aU, aV, hk] at h
   simp [bZ] at h
   simp [h]
  obtain ⟨h1, h2, h3, h4⟩ := eC (bV h hk)
  exact ⟨by simp [hs], h1, h2, fun r hr => by rw [(h4 r hr).1]; exact h1⟩
 ·have hc : v.cols = [] := by
   simp only [aU, aV, if_neg hk] at h
   repeat (split at h; (· simp [bZ] at h; simp [h]))
   cases h
  have hr := lY h hk
  have hs : v.s.length ≤ 200 := by
   by_cases k1 : v.kind = 1
   ·exact (tF h).2.1 k1
   ·have : v.s = [] := by
     simp only [aU, aV, if_neg hk, if_neg k1] at h
     repeat (split at h; (· simp [bZ] at h; simp [h]))
     cases h
    simp [this]
  exact ⟨hs, by simp [hc], by simp [hr], fun r h' => by rw [hr] at h'; cases h'⟩
structure Vl.tiny (n : Nat) (v : Vl) : Prop where
 s : v.s.length ≤ 1000 + n
 cols : v.cols.length ≤ 1000 + n
 rows : v.rows.length ≤ 1000 + 200 * n
 each : ∀ r, r ∈ v.rows → r.length ≤ 1000 + n
 ct : ∀ t, t ∈ v.cols → t.length ≤ maxLen
 cells : ∀ r, r ∈ v.rows → ∀ c, c ∈ r → c.s.length ≤ maxLen
theorem Vl.tiny.fit {n : Nat} {v : Vl} (h : v.tiny n) (hn : n ≤ 100) : v.fit := ⟨by have := h.s; unfold maxLen; omega, h.ct, h.cells⟩
theorem aI0 (l : List Int) : (aL l).tiny 0 := by
 obtain ⟨h1, h2, h3, h4⟩ := aBK (uC l)
 exact ⟨by omega, by omega, by omega, fun r hr => by have := h4 r hr; omega, (aCN l).cols, (aCN l).cells⟩
end Go.Proofs.YtmpgfchkkemngaaGreatDoor
namespace Go.Proofs.YtmpgfchkkemngaaGreatDoor
open Go.RowKit Go.V
open Go.Eng (inR byteAt u8 bH)
variable {g : Gv}
def sB (t : List UInt8) (a b : Int) : List UInt8 := t.set ((a.tmod (t.length : Int) + (t.length : Int)).tmod (t.length : Int)).toNat (u8 b)
theorem aDK (t : List UInt8) (a b : Int) : (sB t a b).length = t.length := by simp [sB]
theorem aFX (l : List UInt8) (k : Nat) (x : Int) : (bytesD l).set k [D.y (IntKind.wrap .u8 x)] = bytesD (l.set k (u8 x)) := by
 have : [D.y (IntKind.wrap .u8 x)] = (fun c : UInt8 => [D.v (.int .u8 (c.toNat : Int))]) (u8 x) := by simp [D.y, Eng.wrap_u8]
 rw [this]
 simp only [bytesD]
 rw [List.map_set]
theorem chg_es (t : List UInt8) (a b : Int) : (bytesD (S t).data.toList).set ((a.tmod (((bytesD (S t).data.toList).length : Nat) : Int) + (((bytesD (S t).data.toList).length : Nat) : Int)).tmod (((bytesD (S t).data.toList).length : Nat) : Int)).toNat [D.y (IntKind.wrap .u8 b)] = bytesD (S (sB t a b)).data.toList := by
 rw [aFX, aZ, aZ, aI]; rfl
theorem qm_idx (a : Int) {n : Int} (h : 0 < n) : 0 ≤ (a.tmod n + n).tmod n ∧ (a.tmod n + n).tmod n < n := by
 have h1 := Int.tmod_lt_of_pos a h
 have h2 : -n < a.tmod n := by
  have h3 := Int.tmod_lt_of_pos (-a) h
  rw [Int.neg_tmod] at h3; omega
 exact ⟨Int.tmod_nonneg _ (by omega), Int.tmod_lt_of_pos _ h⟩
end Go.Proofs.YtmpgfchkkemngaaGreatDoor
namespace Go.Proofs.YtmpgfchkkemngaaGreatDoor
open Go.RowKit Go.V
open Go.Eng (inR byteAt u8 bH)
variable {g : Gv}
def aCS (l : List Int) : List D := [.sl 1 (intsD l)]
def bC (l : List (List Int)) : List (List D) := l.map aCS
theorem o3 (l : List Vl) : (aD l).length ≤ 3300000 := by
 unfold aD
 split
 rename_i h
 have a := oY (n := ([124] : List UInt8).length) (m := 400000) (l := l.map aW) (fun t ht => by obtain ⟨v, _, rfl⟩ := List.mem_map.1 ht; exact wI v)
 rw [List.length_map] at a
 have b := gK [124] (l.map aW)
 have : l.length * (400000 + ([124] : List UInt8).length) ≤ 8 * 400001 := Nat.mul_le_mul h.1 (by simp)
 omega
 simp
theorem aH8 {l : List Vl} (hl : l.length ≤ 8) (hr : ∀ v, v ∈ l → aU v = true) : dH (aD l) = true ∧ dJ (aD l) = l := by
 cases l with
 | nil =>
  have e : aD [] = [] := by rw [aD, if_pos ⟨by simp, rfl⟩]; rfl
  rw [e]; exact row_nil
 | cons v l =>
  obtain ⟨h1, h2, _⟩ := yM hl hr (by simp)
  exact ⟨h1, h2⟩
theorem yL {es fs : List (List D)} {a b : List Vl} (h : es = valsD a) (h2 : fs = valsD b) : SpG g 23 [.c (cM 7 es), .c (cM 7 fs)] [] (.c (cB (decide (a = b)))) [] := by subst h; subst h2; exact tJ a b
theorem qK {s : ByteArray} {x : List UInt8} (e : s = S x) (hE : jH g) (h : x.length < 900000000) : SpG g 22 [.c (cS s)] [] (y42 (valsD (dJ x)) (dH x)) [] := by subst e; exact nR hE x h
theorem o9 {s : ByteArray} {x : List UInt8} (e : s = S x) (h : x.length ≤ 100000000) : SpG g 24 [.c (cS s)] [] (y42 (valsD (dJ x)) (dH x)) [] := by subst e; exact vV x h
theorem w4 (l : List (List Int)) : ∀ v, v ∈ l.map aL → v.fit := by
 intro v hv
 obtain ⟨x, _, rfl⟩ := List.mem_map.1 hv
 exact (aI0 x).fit (by decide)
theorem aCM (l : List (List Int)) : ∀ v, v ∈ l.map aL → aU v = true := by
 intro v hv
 obtain ⟨x, _, rfl⟩ := List.mem_map.1 hv
 exact uC x
theorem aEE {l : List (List Int)} {k : Nat} (h : k < l.length) : l.take (k + 1) = l.take k ++ [l.getD k []] := by
 rw [List.take_add_one, List.getD_eq_getElem?_getD, List.getElem?_eq_getElem h]; rfl
noncomputable def ty5 (b : Bool) (ls : List (List Int)) (raw : List UInt8) (q0 q1 : Int) (k : Nat) : Nat → ByteArray
 | 0 => S (if b = true then sB (aD ((ls.take k).map aL)) q0 q1 else (aD ((ls.take k).map aL)))
 | 1 => S raw
 | 2 => ((S (aD ((ls.take k).map aL))) ++ (S [124])) ++ (S raw)
 | 3 => ((S (aD ((ls.take k).map aL))) ++ (S [124])) ++ (S (aD ((ls.take k).map aL)))
 | _ => (S [124]) ++ (S (aD ((ls.take k).map aL)))
noncomputable def tyL (b : Bool) (ls : List (List Int)) (raw : List UInt8) (q0 q1 : Int) (k : Nat) : Nat → List UInt8
 | 0 => (if b = true then sB (aD ((ls.take k).map aL)) q0 q1 else (aD ((ls.take k).map aL)))
 | 1 => raw
 | 2 => ((aD ((ls.take k).map aL)) ++ [124] ++ raw)
 | 3 => ((aD ((ls.take k).map aL)) ++ [124] ++ (aD ((ls.take k).map aL)))
 | _ => ([124] ++ (aD ((ls.take k).map aL)))
theorem ty_S (b : Bool) (ls : List (List Int)) (raw : List UInt8) (q0 q1 : Int) (k : Nat) : ∀ j, ty5 b ls raw q0 q1 k j = S (tyL b ls raw q0 q1 k j)
 | 0 => rfl
 | 1 => rfl
 | 2 => by simp only [ty5, tyL]; rw [bI, bI]
 | 3 => by simp only [ty5, tyL]; rw [bI, bI]
 | j + 4 => bI _ _
theorem aHV (ls : List (List Int)) (raw : List UInt8) (q0 q1 : Int) (k : Nat) : ∀ j, j < 5 → ([[.s (S (sB (aD ((ls.take k).map aL)) q0 q1))], [.s (S raw)], [.s (((S (aD ((ls.take k).map aL))) ++ (S [124])) ++ (S raw))], [.s (((S (aD ((ls.take k).map aL))) ++ (S [124])) ++ (S (aD ((ls.take k).map aL))))], [.s ((S [124]) ++ (S (aD ((ls.take k).map aL))))]] : List (List D))[j]? = some [.s (ty5 true ls raw q0 q1 k j)]
 | 0, _ => rfl
 | 1, _ => rfl
 | 2, _ => rfl
 | 3, _ => rfl
 | 4, _ => rfl
 | j + 5, h => absurd h (by omega)
theorem aEC (ls : List (List Int)) (raw : List UInt8) (q0 q1 : Int) (k : Nat) : ∀ j, j < 5 → ([[.s (S (aD ((ls.take k).map aL)))], [.s (S raw)], [.s (((S (aD ((ls.take k).map aL))) ++ (S [124])) ++ (S raw))], [.s (((S (aD ((ls.take k).map aL))) ++ (S [124])) ++ (S (aD ((ls.take k).map aL))))], [.s ((S [124]) ++ (S (aD ((ls.take k).map aL))))]] : List (List D))[j]? = some [.s (ty5 false ls raw q0 q1 k j)]
 | 0, _ => rfl
 | 1, _ => rfl
 | 2, _ => rfl
 | 3, _ => rfl
 | 4, _ => rfl
 | j + 5, h => absurd h (by omega)
theorem sD (b : Bool) (ls : List (List Int)) (raw : List UInt8) (q0 q1 : Int) (k : Nat) (hraw : raw.length ≤ 2000000) (j : Nat) : (tyL b ls raw q0 q1 k j).length ≤ 8000000 := by
 have htl := o3 ((ls.take k).map aL)
 unfold tyL
 split <;> (try split) <;> (try simp only [dB, aDK]) <;> omega
def nO := And.intro @List.length_map.{0, 0} (@blS)
def jI := And.intro @List.length_append.{0} (And.intro @List.length_cons.{0} (And.intro @List.length_map.{0, 0} (And.intro @List.length_nil.{0} (And.intro @List.length_set.{0} (And.intro @bI (And.intro @aF (And.intro @Go.Eng.inR.eq_1 (@maxLen.eq_1))))))))
theorem valueRows_ok (hE : jH g) (ls : List (List Int)) (raw : List UInt8) (hraw : raw.length ≤ 2000000) (q0 q1 : Int) :
  SpG g 5 [.c (cM 1 (bC ls)), .c (cS (S raw)), .agg [cI q0, cI q1]] [] (.c (cB true)) [] := by
 refine aG 124 Tryz.func5 (by kernel_rfl) fun fr hG => ?_
 refine bN 0 rfl fun hl0 => ?_
 refine zA hG [(1, 0, kB true)] [0, 1, 0, 1, 1, 1] (⟨[zM 0 1 (bC ls), zS 1 (S raw), zX 5 100 0, zB 6 false, zB 7 true, zN 8, zI 9 0], [(100, .box 44 [cI q0, cI q1])]⟩) [(8, 9001, 30, 7)] [] (fun (zz : Nat × List (List D)) => match zz with | (k, es) => (ls.length - k, ⟨[zM 0 1 (bC ls), zS 1 (S raw), zX 5 100 0, zB 6 false, zB 7 true, zY 8 9001 0, zI 9 (k : Int)], [(100, .box 44 [cI q0, cI q1]), (9001, .arr 0 30 7 (es))]⟩, k ≤ ls.length ∧ k ≤ 10 ∧ es = valsD ((ls.take k).map aL))) (0, []) (aB (aEM hE : SpG g _ _ _ _ _)) ?_ ?_
 exact ⟨Nat.zero_le _, Nat.zero_le _, rfl⟩
 rintro ⟨k, es⟩ ⟨hk, hk10, hes⟩
 have hel : es.length = k := by rw [hes, valsD, List.length_map, List.length_map, List.length_take]; omega
 have htl := o3 ((ls.take k).map aL)
 have hal : ((ls.take k).map aL).length = k := by rw [List.length_map, List.length_take]; omega
 refine zc hG [] [1, 0] ((decide (((k : Int) : Int) < ((bC ls).length : Int))) && (decide (((k : Int) : Int) < 10))) aA (fun hc2 => ?_) (fun hc2 => ?_)
 (try simp only [nO, bC, aI, aZ] at hc2)
 refine zD hG [(6, 3, .elem (aCS ((ls).getD k []))), (6, 5, kC (.agg (zV (aL (ls.getD k [])))))] (k + 1, es ++ ([[.i ((aL (ls.getD k [])).kind), .s (S (aL (ls.getD k [])).s), .i ((aL (ls.getD k [])).dn), .i ((aL (ls.getD k [])).ds), .i ((aL (ls.getD k [])).n), .sl 1 (strs ((aL (ls.getD k [])).cols)), .sl 1 (rowsD ((aL (ls.getD k [])).rows))]] : List (List D))) (aC (by intros; exact aY _ (by omega) (by (try simp only [bC, List.length_map] at *); omega) : (0 : Int) ≤ (k : Int) ∧ (bC ls)[k]? = some (aCS ((ls).getD k []))) (aC (made_ok (ls.getD k []) : SpG g _ _ _ _ _) (aC (by intros; first | decide | (unfold inR; decide) | exact ⟨by decide, by decide⟩ | (simp only [jI, bC, aZ, aI] at *; omega) | simp : ((es).length + ([[.i ((aL (ls.getD k [])).kind), .s (S (aL (ls.getD k [])).s), .i ((aL (ls.getD k [])).dn), .i ((aL (ls.getD k [])).ds), .i ((aL (ls.getD k [])).n), .sl 1 (strs ((aL (ls.getD k [])).cols)), .sl 1 (rowsD ((aL (ls.getD k [])).rows))]] : List (List D)).length) * (96 + 1) ≤ 140737488355328) (aB (by intros; first | decide | (unfold inR; decide) | exact ⟨by decide, by decide⟩ | (simp only [jI, bC, aZ, aI] at *; omega) | simp : inR ((k : Int) + 1)))))) ?_ ?_
 (try dsimp only); omega
 have hkl : k < ls.length := by omega
 refine ⟨by omega, by omega, ?_⟩
 rw [aEE hkl, List.map_append]; exact oW (aL (ls.getD k [])) hes
 (try simp only [nO, bC, aI, aZ] at hc2)
 refine zE hG [] (.exit 0) (⟨[zS 1 (S raw), zX 5 100 0, zB 6 false, zB 7 true, zY 8 9001 0], [(100, .box 44 [cI q0, cI q1]), (9001, .arr 0 30 7 (es))]⟩) aA rfl ?_
 refine zC hG [(7, 1, kS (S (aD ((ls.take k).map aL)))), (8, 2, kS (S (aD ((ls.take k).map aL))))] [1, 0, 1, 1, 1, 1, 1] (!((S (aD ((ls.take k).map aL))).toList == (S (aD ((ls.take k).map aL))).toList)) (⟨[zS 1 (S raw), zX 5 100 0, zB 6 false, zB 7 true, zY 8 9001 0, zS 10 (S (aD ((ls.take k).map aL)))], [(100, .box 44 [cI q0, cI q1]), (9001, .arr 0 30 7 (es))]⟩) (aC (n5 hes (w4 _) : SpG g _ _ _ _ _) (aB (nV hes (w4 _) : SpG g _ _ _ _ _))) (fun hc3 => ?_) (fun hc3 => ?_)
 (try simp only [nO, bC, aI, aZ] at hc3)
 exfalso; simp at hc3
 (try simp only [nO, bC, aI, aZ] at hc3)
 refine zC hG [(10, 1, kC (y42 (valsD (dJ (aD ((ls.take k).map aL)))) (dH (aD ((ls.take k).map aL))))), (11, 9, kB (decide ((dJ (aD ((ls.take k).map aL))) = ((ls.take k).map aL))))] [1, 0, 1, 1, 1, 1, 1, 1, 1] ((decide ((((es).length : Int) : Int) ≤ 8)) && ((!(dH (aD ((ls.take k).map aL)))) || (!(decide ((dJ (aD ((ls.take k).map aL))) = ((ls.take k).map aL)))))) (⟨[zS 1 (S raw), zX 5 100 0, zB 6 false, zB 7 true, zS 10 (S (aD ((ls.take k).map aL)))], [(100, .box 44 [cI q0, cI q1])]⟩) (aC (qK (x := (aD ((ls.take k).map aL))) rfl hE (by omega) : SpG g _ _ _ _ _) (aB (fun (hg1 : (!(dH (aD ((ls.take k).map aL)))) = false) => (fun (hg2 : (decide ((((es).length : Int) : Int) ≤ 8)) = true) => (yL (a := dJ (aD ((ls.take k).map aL))) (b := ((ls.take k).map aL)) rfl hes : SpG g _ _ _ _ _))))) (fun hc4 => ?_) (fun hc4 => ?_)
 (try simp only [nO, bC, aI, aZ] at hc4)
 obtain ⟨hR1, hR2⟩ := aH8 (l := ((ls.take k).map aL)) (by rw [hal]; omega) (aCM _); rcases hc4.2 with h9 | h9; (rw [hR1] at h9; cases h9); exact absurd hR2 h9
 (try simp only [nO, bC, aI, aZ] at hc4)
 refine zC hG [] [1, 0, 1, 1, 1, 1, 1, 1, 1, 1, 1] (decide ((((bytesD (S (aD ((ls.take k).map aL))).data.toList).length : Int) : Int) > 0)) (⟨[zS 1 (S raw), zX 5 100 0, zB 6 false, zB 7 true, zS 10 (S (aD ((ls.take k).map aL))), zY 13 1401 0], [(100, .box 44 [cI q0, cI q1]), (1401, .arr 0 ⟨5, [(4611686018427387904, .any)]⟩ 1 (bytesD (S (aD ((ls.take k).map aL))).data.toList))]⟩) (aB (by intros; first | decide | (unfold inR; decide) | exact ⟨by decide, by decide⟩ | (simp only [jI, bC, aZ, aI] at *; omega) | simp : (S (aD ((ls.take k).map aL))).size ≤ 1000000000000)) (fun hc5 => ?_) (fun hc5 => ?_)
 (try simp only [nO, bC, aI, aZ] at hc5)
 have hTp : 0 < ((aD ((ls.take k).map aL)).length : Int) := by omega
 have hix := qm_idx q0 hTp
 have hbt := Int.tmod_lt_of_pos q0 hTp
 have hbt2 : -((aD ((ls.take k).map aL)).length : Int) < q0.tmod ((aD ((ls.take k).map aL)).length : Int) := by have h3 := Int.tmod_lt_of_pos (-q0) hTp; rw [Int.neg_tmod] at h3; omega
 refine zL hG [(16, 1, kS (S (sB (aD ((ls.take k).map aL)) q0 q1)))] [0, 1, 0, 1, 1, 1, 1, 1, 1, 1, 1, 1, 1] (fun (zz : Nat) => match zz with | j => (5 - j, ⟨[zB 6 false, zB 7 true, zY 97 1713 0, zI 98 5, zI 99 (j : Int)], [(1713, .arr 0 9 1 ([[.s (S (sB (aD ((ls.take k).map aL)) q0 q1))], [.s (S raw)], [.s (((S (aD ((ls.take k).map aL))) ++ (S [124])) ++ (S raw))], [.s (((S (aD ((ls.take k).map aL))) ++ (S [124])) ++ (S (aD ((ls.take k).map aL))))], [.s ((S [124]) ++ (S (aD ((ls.take k).map aL))))]] : List (List D)))]⟩, j ≤ 5)) 0 (aC (by intros; first | decide | (unfold inR; decide) | exact ⟨by decide, by decide⟩ | (simp only [jI, bC, aZ, aI] at *; omega) | simp : ((bytesD (S (aD ((ls.take k).map aL))).data.toList).length : Int) ≠ (0 : Int)) (aC (by intros; first | decide | (unfold inR; decide) | exact ⟨by decide, by decide⟩ | (simp only [jI, bC, aZ, aI] at *; omega) | simp : inR ((Int.tmod q0 ((bytesD (S (aD ((ls.take k).map aL))).data.toList).length : Int)) + ((bytesD (S (aD ((ls.take k).map aL))).data.toList).length : Int))) (aC (by intros; first | decide | (unfold inR; decide) | exact ⟨by decide, by decide⟩ | (simp only [jI, bC, aZ, aI] at *; omega) | simp : ((bytesD (S (aD ((ls.take k).map aL))).data.toList).length : Int) ≠ (0 : Int)) (aC (by intros; first | decide | (unfold inR; decide) | exact ⟨by decide, by decide⟩ | (simp only [jI, bC, aZ, aI] at *; omega) | simp : (0 : Int) ≤ (Int.tmod ((Int.tmod q0 ((bytesD (S (aD ((ls.take k).map aL))).data.toList).length : Int)) + ((bytesD (S (aD ((ls.take k).map aL))).data.toList).length : Int)) ((bytesD (S (aD ((ls.take k).map aL))).data.toList).length : Int)) ∧ (Int.tmod ((Int.tmod q0 ((bytesD (S (aD ((ls.take k).map aL))).data.toList).length : Int)) + ((bytesD (S (aD ((ls.take k).map aL))).data.toList).length : Int)) ((bytesD (S (aD ((ls.take k).map aL))).data.toList).length : Int)) < ((bytesD (S (aD ((ls.take k).map aL))).data.toList).length : Int)) (aC (by intros; first | decide | (unfold inR; decide) | exact ⟨by decide, by decide⟩ | (simp only [jI, bC, aZ, aI] at *; omega) | simp : (bytesD (S (aD ((ls.take k).map aL))).data.toList).length ≤ 1000000000000) (aC (show (bytesD (S (aD ((ls.take k).map aL))).data.toList).set (Int.tmod ((Int.tmod q0 ((bytesD (S (aD ((ls.take k).map aL))).data.toList).length : Int)) + ((bytesD (S (aD ((ls.take k).map aL))).data.toList).length : Int)) ((bytesD (S (aD ((ls.take k).map aL))).data.toList).length : Int) : Int).toNat [.y (IntKind.wrap .u8 q1)] = bytesD (S (sB (aD ((ls.take k).map aL)) q0 q1)).data.toList ∧ (S (sB (aD ((ls.take k).map aL)) q0 q1)).size ≤ 1000000000000 from ⟨chg_es (aD ((ls.take k).map aL)) q0 q1, by rw [aF, aDK]; omega⟩) (aC (by intros; first | decide | (unfold inR; decide) | exact ⟨by decide, by decide⟩ | (simp only [jI, bC, aZ, aI] at *; omega) | simp : (S (aD ((ls.take k).map aL))).size + (S [124]).size ≤ maxLen) (aC (by intros; first | decide | (unfold inR; decide) | exact ⟨by decide, by decide⟩ | (simp only [jI, bC, aZ, aI] at *; omega) | simp : ((S (aD ((ls.take k).map aL))) ++ (S [124])).size + (S raw).size ≤ maxLen) (aC (by intros; first | decide | (unfold inR; decide) | exact ⟨by decide, by decide⟩ | (simp only [jI, bC, aZ, aI] at *; omega) | simp : (S (aD ((ls.take k).map aL))).size + (S [124]).size ≤ maxLen) (aC (by intros; first | decide | (unfold inR; decide) | exact ⟨by decide, by decide⟩ | (simp only [jI, bC, aZ, aI] at *; omega) | simp : ((S (aD ((ls.take k).map aL))) ++ (S [124])).size + (S (aD ((ls.take k).map aL))).size ≤ maxLen) (aB (by intros; first | decide | (unfold inR; decide) | exact ⟨by decide, by decide⟩ | (simp only [jI, bC, aZ, aI] at *; omega) | simp : (S [124]).size + (S (aD ((ls.take k).map aL))).size ≤ maxLen)))))))))))) ?_ ?_
 exact Nat.zero_le _
 rintro j hj5
 refine zc hG [] [0, 1] (decide (((j : Int) : Int) < 5)) aA (fun hc7 => ?_) (fun hc7 => ?_)
 (try simp only [nO, bC, aI, aZ] at hc7)
 refine zc hG [(18, 1, .elem ([.s (ty5 true ls raw q0 q1 k j)])), (19, 1, kC (y42 (valsD (dJ (tyL true ls raw q0 q1 k j))) (dH (tyL true ls raw q0 q1 k j)))), (20, 1, kC (y42 (valsD (dJ (tyL true ls raw q0 q1 k j))) (dH (tyL true ls raw q0 q1 k j)))), (21, 6, kB (decide ((dJ (tyL true ls raw q0 q1 k j)) = (dJ (tyL true ls raw q0 q1 k j)))))] [1, 1, 1, 1, 0, 0, 1, 1] ((!((dH (tyL true ls raw q0 q1 k j)) == (dH (tyL true ls raw q0 q1 k j)))) || (!(decide ((dJ (tyL true ls raw q0 q1 k j)) = (dJ (tyL true ls raw q0 q1 k j)))))) (aC (by intros; first | decide | (unfold inR; decide) | exact ⟨by decide, by decide⟩ | (simp only [jI, bC, aZ, aI] at *; omega) | simp : (0 : Int) ≤ (j : Int) ∧ (j : Int) < (([[.s (S (sB (aD ((ls.take k).map aL)) q0 q1))], [.s (S raw)], [.s (((S (aD ((ls.take k).map aL))) ++ (S [124])) ++ (S raw))], [.s (((S (aD ((ls.take k).map aL))) ++ (S [124])) ++ (S (aD ((ls.take k).map aL))))], [.s ((S [124]) ++ (S (aD ((ls.take k).map aL))))]] : List (List D)).length : Int)) (aC (by intros; exact aHV ls raw q0 q1 k _ (by omega) : ([[.s (S (sB (aD ((ls.take k).map aL)) q0 q1))], [.s (S raw)], [.s (((S (aD ((ls.take k).map aL))) ++ (S [124])) ++ (S raw))], [.s (((S (aD ((ls.take k).map aL))) ++ (S [124])) ++ (S (aD ((ls.take k).map aL))))], [.s ((S [124]) ++ (S (aD ((ls.take k).map aL))))]] : List (List D))[j]? = some ([.s (ty5 true ls raw q0 q1 k j)])) (aC (qK (ty_S true ls raw q0 q1 k j) hE (Nat.lt_of_le_of_lt (sD true ls raw q0 q1 k hraw j) (by decide)) : SpG g _ _ _ _ _) (aC (o9 (ty_S true ls raw q0 q1 k j) (Nat.le_trans (sD true ls raw q0 q1 k hraw j) (by decide)) : SpG g _ _ _ _ _) (aB (fun (hg1 : (!((dH (tyL true ls raw q0 q1 k j)) == (dH (tyL true ls raw q0 q1 k j)))) = false) => (yL (a := dJ (tyL true ls raw q0 q1 k j)) (b := dJ (tyL true ls raw q0 q1 k j)) rfl rfl : SpG g _ _ _ _ _))))))) (fun hc8 => ?_) (fun hc8 => ?_)
 (try simp only [nO, bC, aI, aZ] at hc8)
 exfalso; simp at hc8
 (try simp only [nO, bC, aI, aZ] at hc8)
 refine zD hG [] (j + 1) (aB (by intros; first | decide | (unfold inR; decide) | exact ⟨by decide, by decide⟩ | (simp only [jI, bC, aZ, aI] at *; omega) | simp : inR ((j : Int) + 1))) ?_ ?_
 (try dsimp only); omega
 (try dsimp only); omega
 (try simp only [nO, bC, aI, aZ] at hc7)
 refine zE hG [] (.exit 2) (⟨[zB 6 false, zB 7 true], []⟩) aA rfl ?_
 exact zr hG [] [] aA
 (try simp only [nO, bC, aI, aZ] at hc5)
 refine zL hG [(16, 1, kS (S (aD ((ls.take k).map aL))))] [0, 1, 0, 1, 1, 1, 1, 1, 1, 1, 1, 1, 1] (fun (zz : Nat) => match zz with | j => (5 - j, ⟨[zB 6 false, zB 7 true, zY 97 1713 0, zI 98 5, zI 99 (j : Int)], [(1713, .arr 0 9 1 ([[.s (S (aD ((ls.take k).map aL)))], [.s (S raw)], [.s (((S (aD ((ls.take k).map aL))) ++ (S [124])) ++ (S raw))], [.s (((S (aD ((ls.take k).map aL))) ++ (S [124])) ++ (S (aD ((ls.take k).map aL))))], [.s ((S [124]) ++ (S (aD ((ls.take k).map aL))))]] : List (List D)))]⟩, j ≤ 5)) 0 (aC (show bytesD (S (aD ((ls.take k).map aL))).data.toList = bytesD (S (aD ((ls.take k).map aL))).data.toList ∧ (S (aD ((ls.take k).map aL))).size ≤ 1000000000000 from ⟨rfl, by rw [aF]; omega⟩) (aC (by intros; first | decide | (unfold inR; decide) | exact ⟨by decide, by decide⟩ | (simp only [jI, bC, aZ, aI] at *; omega) | simp : (S (aD ((ls.take k).map aL))).size + (S [124]).size ≤ maxLen) (aC (by intros; first | decide | (unfold inR; decide) | exact ⟨by decide, by decide⟩ | (simp only [jI, bC, aZ, aI] at *; omega) | simp : ((S (aD ((ls.take k).map aL))) ++ (S [124])).size + (S raw).size ≤ maxLen) (aC (by intros; first | decide | (unfold inR; decide) | exact ⟨by decide, by decide⟩ | (simp only [jI, bC, aZ, aI] at *; omega) | simp : (S (aD ((ls.take k).map aL))).size + (S [124]).size ≤ maxLen) (aC (by intros; first | decide | (unfold inR; decide) | exact ⟨by decide, by decide⟩ | (simp only [jI, bC, aZ, aI] at *; omega) | simp : ((S (aD ((ls.take k).map aL))) ++ (S [124])).size + (S (aD ((ls.take k).map aL))).size ≤ maxLen) (aB (by intros; first | decide | (unfold inR; decide) | exact ⟨by decide, by decide⟩ | (simp only [jI, bC, aZ, aI] at *; omega) | simp : (S [124]).size + (S (aD ((ls.take k).map aL))).size ≤ maxLen))))))) ?_ ?_
 exact Nat.zero_le _
 rintro j hj5
 refine zc hG [] [0, 1] (decide (((j : Int) : Int) < 5)) aA (fun hc10 => ?_) (fun hc10 => ?_)
 (try simp only [nO, bC, aI, aZ] at hc10)
 refine zc hG [(18, 1, .elem ([.s (ty5 false ls raw q0 q1 k j)])), (19, 1, kC (y42 (valsD (dJ (tyL false ls raw q0 q1 k j))) (dH (tyL false ls raw q0 q1 k j)))), (20, 1, kC (y42 (valsD (dJ (tyL false ls raw q0 q1 k j))) (dH (tyL false ls raw q0 q1 k j)))), (21, 6, kB (decide ((dJ (tyL false ls raw q0 q1 k j)) = (dJ (tyL false ls raw q0 q1 k j)))))] [1, 1, 1, 1, 0, 0, 1, 1] ((!((dH (tyL false ls raw q0 q1 k j)) == (dH (tyL false ls raw q0 q1 k j)))) || (!(decide ((dJ (tyL false ls raw q0 q1 k j)) = (dJ (tyL false ls raw q0 q1 k j)))))) (aC (by intros; first | decide | (unfold inR; decide) | exact ⟨by decide, by decide⟩ | (simp only [jI, bC, aZ, aI] at *; omega) | simp : (0 : Int) ≤ (j : Int) ∧ (j : Int) < (([[.s (S (aD ((ls.take k).map aL)))], [.s (S raw)], [.s (((S (aD ((ls.take k).map aL))) ++ (S [124])) ++ (S raw))], [.s (((S (aD ((ls.take k).map aL))) ++ (S [124])) ++ (S (aD ((ls.take k).map aL))))], [.s ((S [124]) ++ (S (aD ((ls.take k).map aL))))]] : List (List D)).length : Int)) (aC (by intros; exact aEC ls raw q0 q1 k _ (by omega) : ([[.s (S (aD ((ls.take k).map aL)))], [.s (S raw)], [.s (((S (aD ((ls.take k).map aL))) ++ (S [124])) ++ (S raw))], [.s (((S (aD ((ls.take k).map aL))) ++ (S [124])) ++ (S (aD ((ls.take k).map aL))))], [.s ((S [124]) ++ (S (aD ((ls.take k).map aL))))]] : List (List D))[j]? = some ([.s (ty5 false ls raw q0 q1 k j)])) (aC (qK (ty_S false ls raw q0 q1 k j) hE (Nat.lt_of_le_of_lt (sD false ls raw q0 q1 k hraw j) (by decide)) : SpG g _ _ _ _ _) (aC (o9 (ty_S false ls raw q0 q1 k j) (Nat.le_trans (sD false ls raw q0 q1 k hraw j) (by decide)) : SpG g _ _ _ _ _) (aB (fun (hg1 : (!((dH (tyL false ls raw q0 q1 k j)) == (dH (tyL false ls raw q0 q1 k j)))) = false) => (yL (a := dJ (tyL false ls raw q0 q1 k j)) (b := dJ (tyL false ls raw q0 q1 k j)) rfl rfl : SpG g _ _ _ _ _))))))) (fun hc11 => ?_) (fun hc11 => ?_)
 (try simp only [nO, bC, aI, aZ] at hc11)
 exfalso; simp at hc11
 (try simp only [nO, bC, aI, aZ] at hc11)
 refine zD hG [] (j + 1) (aB (by intros; first | decide | (unfold inR; decide) | exact ⟨by decide, by decide⟩ | (simp only [jI, bC, aZ, aI] at *; omega) | simp : inR ((j : Int) + 1))) ?_ ?_
 (try dsimp only); omega
 (try dsimp only); omega
 (try simp only [nO, bC, aI, aZ] at hc10)
 refine zE hG [] (.exit 2) (⟨[zB 6 false, zB 7 true], []⟩) aA rfl ?_
 exact zr hG [] [] aA
end Go.Proofs.YtmpgfchkkemngaaGreatDoor
namespace Go.Proofs.YtmpgfchkkemngaaGreatDoor
open Go.ChangeShapes Go.WideShapes Go.ChangeAt Go.RowKit Go.V
section
variable {H : Type} {enc : TypeId × Value → H} {P : Program} {W : World}
theorem aK3 {A : Option Addr} {L C : Nat} {Z : List Int} (hl : L ≤ C) (hm : C ≤ maxLen) (hZ : Z.length = C) (h0 : A = none → C = 0)
  (hc : ∀ a', A = some a' → ∀ c, c < C → W.cell? (a'.add c) = some (.int .i64 (Z.getD c 0))) : Rd W (Sh pl0 (lookO [])) (.sl 1 (intsD (Z.take L))) (.slice A L C) := by
 rcases Nat.eq_zero_or_pos C with rfl | hC
 obtain rfl : L = 0 := by omega
 cases A with
 | none => exact Rd.nil 1
 | some a => exact Rd.far 1 a
 cases A with
 | none => have := h0 rfl; omega
 | some a =>
  have hcell := hc a rfl
  have c0 := hcell 0 hC
  obtain ⟨bl, off, sp⟩ := a
  simp only [Addr.add, if_true] at c0
  unfold World.cell? at c0
  split at c0
  rename_i c ty fz hb
  obtain rfl : sp = none := by
   cases sp with
   | none => rfl
   | some _ => simp at c0
  have el : (intsD (Z.take L)).length = L := by simp [intsD]; omega
  have key : Rd W (Sh pl0 (lookO [])) (.sl 1 (intsD (Z.take L))) (.slice (some ⟨bl, off, none⟩) (intsD (Z.take L)).length C) := by
   refine Rd.sl (us := fun i _ => .int .i64 (Z.getD i 0)) (sh0 _) hb (by rw [el]; exact hl) hm ?_ ?_ ?_
   intro ds hds
   simp only [intsD, List.mem_map] at hds
   obtain ⟨n, _, rfl⟩ := hds
   rfl
   intro i j ds d hi hj
   have hil : i < (Z.take L).length := by
    have := (List.getElem?_eq_some_iff.1 hi).1
    simpa [intsD] using this
   simp only [List.length_take] at hil
   have := hcell i (by omega)
   simp only [intsD, List.getElem?_map, Option.map_eq_some_iff] at hi
   obtain ⟨n, hn, rfl⟩ := hi
   match j, hj with
   | 0, hj =>
    have ea : Addr.add ⟨bl, off, none⟩ i = ⟨bl, off + i, none⟩ := by
     unfold Addr.add
     split <;> simp_all
    rw [ea] at this
    simp only [World.cell?, hb] at this
    simpa using this
   intro i j ds d hi hj
   simp only [intsD, List.getElem?_map, Option.map_eq_some_iff] at hi
   obtain ⟨n, hn, rfl⟩ := hi
   match j, hj with
   | 0, hj =>
    simp only [intD, List.getElem?_cons_zero, Option.some.injEq] at hj
    subst hj
    have hz : Z.getD i 0 = n := by
     rw [List.getElem?_take] at hn
     split at hn
     simp [hn]
     cases hn
    rw [hz]
    exact Rd.v _ rfl
  rw [el] at key
  exact key
  cases c0
theorem rd_intss {b : Nat} {t e q : TypeId} {v : Value} {d : DataW H} {ps : List MemPlace} (ht : P.underlying t = some (.slice e)) (he : P.underlying e = some (.slice q)) (hq : P.underlying q = some (.int .i64)) (ce : P.cellsOf e = 1) (cq : P.cellsOf q = 1)
  (hval : Value.okWide P W .any b t v) (hd : DataW.Trod enc P W 0 (fun _ => true) true t v d ps) : ∃ l : List (List Int), Rd W (Sh pl0 (lookO [])) (.sl 1 (bC l)) v := by
 obtain ⟨fuel, hf⟩ := hd
 have hv := aEK ht hval
 rw [one_cell ht hv] at hf
 rcases Deep.open_int_rows ht he hq ce cq hf with ⟨h1, _⟩ | ⟨a, len, cap, A, L, C, Z, h1, _, hl, hm, _, hcell⟩
 simp only [List.cons.injEq, and_true] at h1
 subst h1
 exact ⟨[], Rd.nil 1⟩
 simp only [List.cons.injEq, and_true] at h1
 subst h1
 rcases aBD ht hv with h | ⟨bl, off, len', cap', c, ty, fz, h, hb⟩
 simp at h
 simp only [Value.slice.injEq, Option.some.injEq] at h
 obtain ⟨rfl, rfl, rfl⟩ := h
 have el : (bC ((List.range len).map fun r => (Z r).take (L r))).length = len := by simp [bC]
 have get : ∀ {i : Nat} {ds : List D}, (bC ((List.range len).map fun r => (Z r).take (L r)))[i]? = some ds → i < len ∧ ds = aCS ((Z i).take (L i)) := by
  intro i ds h
  have hi := (List.getElem?_eq_some_iff.1 h).1
  rw [el] at hi
  simp only [bC, List.map_map, List.getElem?_map, List.getElem?_range hi, Option.map_some, Option.some.injEq, Function.comp] at h
  exact ⟨hi, h.symm⟩
 refine ⟨(List.range len).map fun r => (Z r).take (L r), ?_⟩
 have key : Rd W (Sh pl0 (lookO [])) (.sl 1 (bC ((List.range len).map fun r => (Z r).take (L r)))) (.slice (some ⟨bl, off, none⟩) (bC ((List.range len).map fun r => (Z r).take (L r))).length cap) := by
  refine Rd.sl (us := fun i _ => .slice (A i) (L i) (C i)) (sh0 _) hb (by rw [el]; exact hl) hm ?_ ?_ ?_
  intro ds hds
  simp only [bC, List.mem_map] at hds
  obtain ⟨n, _, rfl⟩ := hds
  rfl
  intro i j ds d hi hj
  obtain ⟨hi, rfl⟩ := get hi
  have := (hcell i (by omega)).1
  match j, hj with
  | 0, hj =>
   have ea : Addr.add ⟨bl, off, none⟩ i = ⟨bl, off + i, none⟩ := by
    unfold Addr.add
    split <;> simp_all
   rw [ea] at this
   simp only [World.cell?, hb] at this
   simpa using this
  intro i j ds d hi hj
  obtain ⟨hi, rfl⟩ := get hi
  obtain ⟨_, k1, k2, k3, _, k5, k6⟩ := hcell i (by omega)
  match j, hj with
  | 0, hj =>
   simp only [aCS, List.getElem?_cons_zero, Option.some.injEq] at hj
   subst hj
   exact aK3 k1 k2 k3 k5 (fun a' h c hc => (k6 a' h).2 c hc)
 rw [el] at key
 exact key
end
end Go.Proofs.YtmpgfchkkemngaaGreatDoor
