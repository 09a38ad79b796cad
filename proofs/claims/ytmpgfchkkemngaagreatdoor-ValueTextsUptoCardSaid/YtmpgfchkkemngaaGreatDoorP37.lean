/- Part 37 of the proof: texts R7, Zu, D13, D14, R8, L4, R9, L5, R10, R11, R12, D15. -/
import Derived.Test.YtmpgfchkkemngaaGreatDoorP36
import Derived.Shelf.Strings.IndexAnyAll
import Derived.Stop.LaidErr
import Derived.Stop.ErrReads
set_option linter.all false
namespace Go.Proofs.YtmpgfchkkemngaaGreatDoor
open Go.RowKit Go.V
open Go.Eng (inR byteAt u8 bH)
variable {g : Gv}
theorem aCG (l : List UInt8) (hl : l.length < 4294967281) : SpG g 175 [.c (cS (S l)), .c (cS (S [44, 59, 93, 124]))] [] (.c (cI (Lib.indexAny l seps))) [] := by
 refine gO (args := [.string (S l), .string (S [44, 59, 93, 124])]) rfl rfl rfl fun w hG => ?_
 by_cases h : (S l).size ≤ 8
 have := Any.indexAny_short Tryz.lays153 (S l) w h
 rw [jE] at this
 exact this
 have hz := zero_of_info (P := Tryz.prog) (t := Tryz.lays153_ren.t 116) (n := 256) (v := .agg (Array.replicate 256 (.bool false))) (by kernel_rfl)
 have := Any.strings_IndexAny_long Tryz.lays153 hz.1 hz.2 (S l) (S [44, 59, 93, 124]) w (by decide) (by omega) (by rw [aD]; exact hl) (by decide) (by
  intro j b hj
  have hm : b ∈ [44, 59, 93, 124] := List.mem_of_getElem? hj
  simp only [List.mem_cons, List.not_mem_nil, or_false] at hm
  rcases hm with rfl | rfl | rfl | rfl <;> decide)
 rw [jE] at this
 refine this.mono ?_
 rintro e w' ⟨rfl, rfl⟩
 exact ⟨rfl, ((Below.refl _ w).alloc (Nat.le_refl _) _).alloc (by rw [World.size_alloc]; omega) _⟩
theorem aJ1 {f : FuncId} {ins : List SV} {out : SV} {args : List Value} (hi : rN ins = some args)
  (h : ∀ w : World, (∀ b cs, (b, cs) ∈ Gl g → ∃ ty fz, w.heap[b]? = some (.cells cs.toArray ty fz)) → Calls Tryz.prog f args.toArray w fun e w' => (∃ v, e = .returned v ∧ ∀ (w2 : World) (pl : Pl) (own : Own), bT w2 pl own out v) ∧ Below w.heap.size w w') : SpG g f ins [] out [] := by
 intro fr w pl vs hw hG m ha
 obtain ⟨hGl, _, _⟩ := hG
 rw [uL hi ha]
 refine Calls.mono (h w fun b cs hg => by rw [← hw]; exact (m.frOk.glob b cs (by rw [hGl]; exact hg)).1) ?_
 rintro e w' ⟨⟨v, rfl, hv⟩, hb⟩
 obtain ⟨m', L⟩ := m.ext (w' := w') ⟨hb.os, hb.tape, hb.output, hb.size, fun k hk _ => hb.block k hk⟩
 exact ⟨v, pl, rfl, m', hv _ _ _⟩
def jF (g : Gv) : Prop := (∃ a b, ((8 : Nat), [Value.iface a b]) ∈ Gl g) ∧ ∃ a b, ((9 : Nat), [Value.iface a b]) ∈ Gl g
def kD (l : List UInt8) : Int := match Lib.atoiAll l with
 | .ok v => v
 | Lib.NumEnd.syntax => 0
 | .range => Lib.atoiSat l
def lI (l : List UInt8) : Bool := match Lib.atoiAll l with
 | .ok _ => true
 | _ => false
theorem aDE {w w' : World} (h : w' = w ∨ ∃ t, w' = Lib.bytesWorld w 5 t) : Below w.heap.size w w' := by
 rcases h with rfl | ⟨t, rfl⟩
 exact Below.refl _ _
 exact ⟨rfl, rfl, rfl, by rw [Lib.bytesWorld_size]; omega, fun j hj => Lib.bytesWorld_at_old w 5 t j hj⟩
theorem aNS (l : List UInt8) (hl : l.length ≤ 1000000000) (h : lI l = true) : SpG g 176 [.c (cS (S l))] [] (.tup [(false, [cI (kD l)]), (false, [.d (.v .nilIface)])]) [] := by
 refine gO (args := [.string (S l)]) rfl rfl rfl fun w hG => ?_
 unfold lI at h
 unfold kD
 split at h
 rename_i v hv
 rw [hv]
 refine (Tryz.strconv_Atoi_ok (S l) (by rw [aD]; omega) v (by rw [jE]; exact hv) w).mono ?_
 rintro e w' ⟨rfl, hb⟩
 exact ⟨rfl, aDE hb⟩
 cases h
theorem atoi_no (hE : jF g) (l : List UInt8) (hl : l.length ≤ 1000000000) (h : lI l = false) : SpG g 176 [.c (cS (S l))] [] (.tup [(false, [cI (kD l)]), (false, [.nn])]) [] := by
 refine aJ1 (args := [.string (S l)]) rfl fun w hG => ?_
 obtain ⟨⟨a, b, h8⟩, c, d, h9⟩ := hE
 obtain ⟨t8, z8, q8⟩ := hG _ _ h8
 obtain ⟨t9, z9, q9⟩ := hG _ _ h9
 have hok : ∀ (x : Int) (N : Nat) (w2 : World) (pl : Pl) (own : Own), bT w2 pl own (.tup [(false, [cI x]), (false, [.nn])]) (.tuple #[.int .i64 x, .iface 232 (.pointer (some ⟨N, 0, none⟩))]) := by
  intro x N w2 pl own
  exact ⟨[_, _], rfl, All2.cons (Rd.v _ rfl) (All2.cons ⟨_, _, rfl⟩ All2.nil)⟩
 unfold kD
 unfold lI at h
 split at h
 cases h
 rename_i hne
 match hv : Lib.atoiAll l with
 | .ok v => exact absurd hv (hne v)
 | Lib.NumEnd.syntax =>
  refine (Tryz.strconv_Atoi_syntax (S l) (by rw [aD]; omega) (by rw [jE]; exact hv) (.iface a b) w (by rw [Lib.cell_of_heap q8]; rfl) (.inr ⟨_, _, rfl⟩)).mono ?_
  rintro e w' ⟨N, rfl, _, _, hb⟩
  exact ⟨⟨_, rfl, hok _ _⟩, hb⟩
 | .range =>
  refine (Tryz.strconv_Atoi_range (S l) (by rw [aD]; omega) (by rw [jE]; exact hv) (.iface c d) w (by rw [Lib.cell_of_heap q9]; rfl) (.inr ⟨_, _, rfl⟩)).mono ?_
  rintro e w' ⟨N, rfl, _, _, hb⟩
  refine ⟨⟨_, rfl, ?_⟩, hb⟩
  rw [jE]; exact hok _ _
theorem pH (l : List UInt8) (c : Int) : SpG g 177 [.c (cS (S l)), .c (.d (.y c))] [] (.c (cI (Lib.indexByte l c.toNat.toUInt8))) [] := by
 refine tO (args := [.string (S l), .int .u8 c]) rfl rfl rfl fun w => ?_
 have := Tryz.strings_IndexByte (S l) c w
 rw [jE] at this
 exact this.mono fun _ _ ⟨a, b⟩ => ⟨a, b.symm⟩
theorem aIQ (s p : List UInt8) (hs : s.length < 4294967281) : SpG g 119 [.c (cS (S s)), .c (cS (S p))] [] (.c (cI (Lib.index s p))) [] := by
 refine gO (args := [.string (S s), .string (S p)]) rfl rfl rfl fun w hG => ?_
 obtain ⟨ty, fz, h0⟩ := hG 0 [.int .i64 g.maxLen] (by simp [Gl])
 have := Tryz.strings_Index (S s) (S p) g.maxLen w (by rw [aD]; omega) (by rw [Lib.cell_of_heap h0]; rfl)
 rw [jE, jE] at this
 exact this.mono fun _ _ ⟨x, y⟩ => ⟨x, by rw [y]; exact Below.refl _ _⟩
def bJ (c : UInt8) : List UInt8 → Bool
 | x :: _ => decide (x = c)
 | [] => false
def aG (c : UInt8) : List UInt8 → List UInt8
 | x :: r => if x = c then r else x :: r
 | [] => []
theorem aF3 {l : List UInt8} {c : UInt8} (h : l = [] ∨ ¬ byteAt (S l) 0 = (c.toNat : Int)) : bJ c l = false ∧ aG c l = l := by
 cases l with
 | nil => exact ⟨rfl, rfl⟩
 | cons x r =>
  rcases h with h | h
  cases h
  have hx : ¬ x = c := by
   rintro rfl
   exact h (cT (x :: r) 0)
  exact ⟨by simp [bJ, hx], by simp [aG, hx]⟩
theorem aA3 {l : List UInt8} {c : UInt8} (h1 : ¬ l = []) (h : byteAt (S l) 0 = (c.toNat : Int)) : bJ c l = true ∧ aG c l = l.drop 1 := by
 cases l with
 | nil => exact absurd rfl h1
 | cons x r =>
  have hx : x = c := by
   have e : byteAt (S (x :: r)) 0 = (x.toNat : Int) := cT (x :: r) 0
   rw [e] at h
   exact UInt8.toNat_inj.1 (by omega)
  exact ⟨by simp [bJ, hx], by simp [aG, hx]⟩
theorem aHQ (c : UInt8) : seps.contains c = !(aL c) := by
 simp only [seps, aL, List.contains_cons, List.contains_nil, Bool.or_false]
 rw [Bool.eq_iff_iff]
 simp [or_assoc]
theorem rJ : ∀ (l : List UInt8), (Lib.indexAny l seps < 0 ∧ l.takeWhile aL = l ∧ l.dropWhile aL = []) ∨ (0 ≤ Lib.indexAny l seps ∧ Lib.indexAny l seps ≤ l.length ∧ l.takeWhile aL = l.take (Lib.indexAny l seps).toNat ∧ l.dropWhile aL = l.drop (Lib.indexAny l seps).toNat)
 | [] => .inl ⟨by decide, rfl, rfl⟩
 | c :: l => by
  have ih := rJ l
  have hc := aHQ c
  have hge := Lib.indexAny_ge seps l
  cases hn : aL c with
  | false =>
   rw [hn] at hc
   have e : Lib.indexAny (c :: l) seps = 0 := by rw [Lib.indexAny, hc]; rfl
   right
   rw [e]
   refine ⟨Int.le_refl _, by omega, ?_, ?_⟩
   rw [List.takeWhile_cons, hn]; rfl
   rw [List.dropWhile_cons, hn]; rfl
  | true =>
   rw [hn] at hc
   rcases ih with ⟨h1, h2, h3⟩ | ⟨h1, h2, h3, h4⟩
   have h0 : Lib.indexAny l seps = -1 := by omega
   have e : Lib.indexAny (c :: l) seps = -1 := by rw [Lib.indexAny, hc, h0]; rfl
   left
   rw [e]
   exact ⟨by decide, by rw [List.takeWhile_cons, hn, if_pos rfl, h2], by rw [List.dropWhile_cons, hn, if_pos rfl, h3]⟩
   have h0 : (Lib.indexAny l seps == -1) = false := by rw [beq_eq_false_iff_ne]; omega
   have e : Lib.indexAny (c :: l) seps = Lib.indexAny l seps + 1 := by
    rw [Lib.indexAny, hc, h0]; rfl
   right
   rw [e, show (Lib.indexAny l seps + 1).toNat = (Lib.indexAny l seps).toNat + 1 by omega]
   refine ⟨by omega, by rw [List.length_cons]; omega, ?_, ?_⟩
   rw [List.takeWhile_cons, hn, if_pos rfl, h3]; rfl
   rw [List.dropWhile_cons, hn, if_pos rfl, h4]; rfl
theorem sU (l : List UInt8) : (l.takeWhile aL).length ≤ l.length := (List.takeWhile_sublist _).length_le
abbrev y36 (a0 : ByteArray) : Ob := .box 90 [cS a0]
theorem hZ (l : List UInt8) (c : UInt8) :
  SpG g 63 [.c (.bx 0 0), .c (.d (.y c.toNat))] [(0, .box 90 [cS (S l)])] (.c (cB (bJ c l))) [(0, y36 (S (aG c l)))] := by
 refine aF 27 Tryz.func63 (by kernel_rfl) fun fr hG => ?_
 refine zC hG [] [1, 0, 1] (((S l).toList == (S []).toList) || (!decide ((byteAt (S l) 0 : Int) = c.toNat))) (⟨[zX 0 0 0, zB 4 false], [(0, .box 90 [cS (S l)])]⟩) (aC (by first | (intro h; rw [dX] at h; have := List.length_pos_iff.2 h; rw [aD]; omega) | (have := List.length_pos_iff.2 hc1.1; rw [aD]; omega) : ((S l).toList == (S []).toList) = false → (0 : Int) ≤ 0 ∧ 0 < ((S l).size : Int))) (fun hc1 => ?_) (fun hc1 => ?_)
 (try simp only [eV] at hc1)
 refine zR hG [] [] (.c (cB false)) [(0, .box 90 [cS (S l)])] aA ?_ ?_
 rw [(aF3 hc1).1]
 rw [(aF3 hc1).2]
 (try simp only [eV] at hc1)
 refine zR hG [] [] (.c (cB true)) [(0, y36 ((S l).extract 1 (S l).size))] (aC (by first | (intro h; rw [dX] at h; have := List.length_pos_iff.2 h; rw [aD]; omega) | (have := List.length_pos_iff.2 hc1.1; rw [aD]; omega) : (0 : Int) ≤ 1 ∧ (1 : Int) ≤ ((S l).size : Int) ∧ ((S l).size : Int) ≤ ((S l).size : Int))) ?_ ?_
 rw [(aA3 hc1.1 hc1.2).1]
 rw [(aA3 hc1.1 hc1.2).2, eC]
theorem mP (l : List UInt8) (hl : l.length < 4294967281) :
  SpG g 128 [.c (.bx 0 0)] [(0, .box 90 [cS (S l)])] (.c (cS (S (l.takeWhile aL)))) [(0, y36 (S (l.dropWhile aL)))] := by
 have hw := rJ l
 refine aF 33 Tryz.func128 (by kernel_rfl) fun fr hG => ?_
 refine zC hG [(1, 4, kI (Lib.indexAny (l) seps))] [1, 0, 1, 1] (decide ((Lib.indexAny (l) seps : Int) < 0)) (⟨[zX 0 0 0, zS 2 (S []), zI 3 (Lib.indexAny (l) seps)], [(0, .box 90 [cS (S l)])]⟩) (aC (aCG (l) hl : SpG g _ _ _ _ _)) (fun hc1 => ?_) (fun hc1 => ?_)
 (try simp only [eW] at hc1)
 refine zR hG [] [] (.c (cS ((S l).extract 0 ((S l).size)))) [(0, y36 ((S l).extract ((S l).size) (S l).size))] (aB (by intros; (try simp only [aD] at *); first | omega | decide : (0 : Int) ≤ 0 ∧ (0 : Int) ≤ ((S l).size : Int) ∧ ((S l).size : Int) ≤ ((S l).size : Int)) (aC (by intros; (try simp only [aD] at *); first | omega | decide : (0 : Int) ≤ ((S l).size : Int) ∧ (((S l).size : Int) : Int) ≤ ((S l).size : Int) ∧ ((S l).size : Int) ≤ ((S l).size : Int)))) ?_ ?_
 obtain ⟨h1, h2, h3⟩ : Lib.indexAny l seps < 0 ∧ l.takeWhile aL = l ∧ l.dropWhile aL = [] := by rcases hw with h | h <;> first | exact h | (exfalso; omega)
 rw [h2, aDQ, aD]; simp
 obtain ⟨h1, h2, h3⟩ : Lib.indexAny l seps < 0 ∧ l.takeWhile aL = l ∧ l.dropWhile aL = [] := by rcases hw with h | h <;> first | exact h | (exfalso; omega)
 rw [h3, aDQ, aD]; simp
 (try simp only [eW] at hc1)
 refine zR hG [] [] (.c (cS ((S l).extract 0 (Lib.indexAny (l) seps : Int).toNat))) [(0, y36 ((S l).extract (Lib.indexAny (l) seps : Int).toNat (S l).size))] (aB (by intros; (try simp only [aD] at *); first | omega | decide : (0 : Int) ≤ 0 ∧ (0 : Int) ≤ (Lib.indexAny (l) seps) ∧ (Lib.indexAny (l) seps) ≤ ((S l).size : Int)) (aC (by intros; (try simp only [aD] at *); first | omega | decide : (0 : Int) ≤ (Lib.indexAny (l) seps) ∧ (Lib.indexAny (l) seps : Int) ≤ ((S l).size : Int) ∧ ((S l).size : Int) ≤ ((S l).size : Int)))) ?_ ?_
 obtain ⟨h1, h2, h3, h4⟩ : 0 ≤ Lib.indexAny l seps ∧ Lib.indexAny l seps ≤ l.length ∧ l.takeWhile aL = l.take (Lib.indexAny l seps).toNat ∧ l.dropWhile aL = l.drop (Lib.indexAny l seps).toNat := by rcases hw with h | h <;> first | exact h | (exfalso; omega)
 rw [h3, aDQ]; simp
 obtain ⟨h1, h2, h3, h4⟩ : 0 ≤ Lib.indexAny l seps ∧ Lib.indexAny l seps ≤ l.length ∧ l.takeWhile aL = l.take (Lib.indexAny l seps).toNat ∧ l.dropWhile aL = l.drop (Lib.indexAny l seps).toNat := by rcases hw with h | h <;> first | exact h | (exfalso; omega)
 rw [h4, eC]
theorem date_ok (l : List UInt8) (hl : l.length < 4294967281) :
  SpG g 133 [.c (.bx 0 0)] [(0, .box 90 [cS (S l)])] (.tup [(true, [cI 3, cS (S []), cI 0, cI 0, cI (fB (l.takeWhile aL)), cN, cN]), (false, [cB (eK (l.takeWhile aL))])]) [(0, y36 (S (l.dropWhile aL)))] := by
 refine aF 15 Tryz.func133 (by kernel_rfl) fun fr hG => ?_
 exact zr hG [(1, 1, .callG (.c (cS (S (l.takeWhile aL)))) [0] [(0, y36 (S (l.dropWhile aL)))]), (1, 2, kC (y2 (fB (l.takeWhile aL)) (eK (l.takeWhile aL))))] [] (aB (mP l hl : SpG g _ _ _ _ _) (aC (z6 (l.takeWhile aL) (Nat.lt_of_le_of_lt (sU l) hl) : SpG g _ _ _ _ _)))
theorem aEN (l : List UInt8) (hl : l.length < 4294967281) :
  SpG g 132 [.c (.bx 0 0)] [(0, .box 90 [cS (S l)])] (.tup [(true, [cI 2, cS (S []), cI (iY (l.takeWhile aL)), cI (iX (l.takeWhile aL)), cI 0, cN, cN]), (false, [cB (gG (l.takeWhile aL))])]) [(0, y36 (S (l.dropWhile aL)))] := by
 refine aF 15 Tryz.func132 (by kernel_rfl) fun fr hG => ?_
 exact zr hG [(1, 1, .callG (.c (cS (S (l.takeWhile aL)))) [0] [(0, y36 (S (l.dropWhile aL)))]), (1, 2, kC (y6 (iY (l.takeWhile aL)) (iX (l.takeWhile aL)) (gG (l.takeWhile aL))))] [] (aB (mP l hl : SpG g _ _ _ _ _) (aC (aCZ (l.takeWhile aL) (Nat.lt_of_le_of_lt (sU l) hl) : SpG g _ _ _ _ _)))
abbrev y37 (a0 : Int) (a1 : Bool) : SV := .tup [(true, [cI 4, cS (S []), cI 0, cI 0, cI a0, cN, cN]), (false, [cB a1])]
theorem aNR (l : List UInt8) (hl : l.length < 4294967281) :
  SpG g 134 [.c (.bx 0 0)] [(0, .box 90 [cS (S l)])] (y37 (Lib.index [48, 49] (l.takeWhile aL)) (decide ((l.takeWhile aL).length = 1))) [(0, y36 (S (l.dropWhile aL)))] := by
 refine aF 13 Tryz.func134 (by kernel_rfl) fun fr hG => ?_
 refine zR hG [(1, 1, .callG (.c (cS (S (l.takeWhile aL)))) [0] [(0, y36 (S (l.dropWhile aL)))]), (2, 1, kI (Lib.index [48, 49] (l.takeWhile aL)))] [] (y37 (Lib.index [48, 49] (l.takeWhile aL)) (decide ((((S (l.takeWhile aL)).size : Int) : Int) = 1))) [(0, y36 (S (l.dropWhile aL)))] (aB (mP l hl : SpG g _ _ _ _ _) (aC (aIQ [48, 49] (l.takeWhile aL) (by decide) : SpG g _ _ _ _ _))) ?_ ?_
 have e : decide (((S (l.takeWhile aL)).size : Int) = 1) = decide ((l.takeWhile aL).length = 1) := by
  rw [aD]; apply decide_eq_decide.2; omega
 first | rw [e] | (rw [← e])
 rfl
theorem aCS (hE : jF g) (l : List UInt8) (hl : l.length < 1000000000) (h : lI (l.takeWhile aL) = true) :
  SpG g 130 [.c (.bx 0 0)] [(0, .box 90 [cS (S l)])] (.tup [(true, [cI 0, cS (S []), cI 0, cI 0, cI (kD (l.takeWhile aL)), cN, cN]), (false, [cB true])]) [(0, y36 (S (l.dropWhile aL)))] := by
 refine aF 16 Tryz.func130 (by kernel_rfl) fun fr hG => ?_
 exact zr hG [(1, 1, .callG (.c (cS (S (l.takeWhile aL)))) [0] [(0, y36 (S (l.dropWhile aL)))]), (1, 2, kC (y20 (kD (l.takeWhile aL))))] [] (aB (mP l (by omega) : SpG g _ _ _ _ _) (aC (aNS (l.takeWhile aL) (by have := sU l; omega) h : SpG g _ _ _ _ _)))
theorem aE5 (hE : jF g) (l : List UInt8) (hl : l.length < 1000000000) (h : lI (l.takeWhile aL) = false) :
  SpG g 130 [.c (.bx 0 0)] [(0, .box 90 [cS (S l)])] (.tup [(true, [cI 0, cS (S []), cI 0, cI 0, cI (kD (l.takeWhile aL)), cN, cN]), (false, [cB false])]) [(0, y36 (S (l.dropWhile aL)))] := by
 refine aF 16 Tryz.func130 (by kernel_rfl) fun fr hG => ?_
 exact zr hG [(1, 1, .callG (.c (cS (S (l.takeWhile aL)))) [0] [(0, y36 (S (l.dropWhile aL)))]), (1, 2, kC (.tup [(false, [cI (kD (l.takeWhile aL))]), (false, [.nn])]))] [] (aB (mP l (by omega) : SpG g _ _ _ _ _) (aC (atoi_no hE (l.takeWhile aL) (by have := sU l; omega) h : SpG g _ _ _ _ _)))
end Go.Proofs.YtmpgfchkkemngaaGreatDoor
namespace Go.Proofs.YtmpgfchkkemngaaGreatDoor
open Go.ChangeShapes Go.WideShapes Go.ChangeAt Go.RowKit Go.V
theorem aA1 : "*" ++ "errors.errorString" = "*errors.errorString" := by decide
theorem aF7 (u : TypeId) (h : Tryz.prog.typeName? 3 u = some "*errors.errorString") : u = 248 :=
 typeName_ptr_named (nm := "errors.errorString") (by rw [aA1]; kernel_rfl) (by kernel_rfl) (by decide) u (by rw [aA1]; exact h)
theorem aE8 {W : World} {r : List (String × DataW Unit)} (h : laidMet Tryz.prog (("strconv.ErrSyntax", Rows.laid_strconv_ErrSyntax) :: r) W) : ∃ a b, ∃ ty fz, W.heap[8]? = some (.cells #[Value.iface a b] ty fz) := by
 obtain ⟨a, s, hv, _⟩ := laid_sentinel (g := 8) (ti := 82) (tp := 248) (te := 250) (ts := 9) h (by kernel_rfl) (by kernel_rfl) Tryz.underlying82 aF7 (by kernel_rfl) Tryz.underlying250 rfl rfl (by kernel_rfl) (by kernel_rfl) (by kernel_rfl)
 obtain ⟨ty, fz, hb⟩ := mR (b := 8) (by kernel_rfl) hv
 exact ⟨_, _, ty, fz, hb⟩
theorem aIY {W : World} {r : List (String × DataW Unit)} (h : laidMet Tryz.prog (("strconv.ErrRange", Rows.laid_strconv_ErrRange) :: r) W) : ∃ a b, ∃ ty fz, W.heap[9]? = some (.cells #[Value.iface a b] ty fz) := by
 obtain ⟨a, s, hv, _⟩ := laid_sentinel (g := 9) (ti := 82) (tp := 248) (te := 250) (ts := 9) h (by kernel_rfl) (by kernel_rfl) Tryz.underlying82 aF7 (by kernel_rfl) Tryz.underlying250 rfl rfl (by kernel_rfl) (by kernel_rfl) (by kernel_rfl)
 obtain ⟨ty, fz, hb⟩ := mR (b := 9) (by kernel_rfl) hv
 exact ⟨_, _, ty, fz, hb⟩
theorem startsE {W : World} (hS : W.ShapedOpen Tryz.prog) (hL : laidMetH Tryz.prog Rows.valueTextsUptoRow.laid W) : ∃ g : Gv, jF g ∧ aN5 W g := by
 rw [MakeChecks.laidMetH_plain _ _ _ (by kernel_rfl)] at hL
 obtain ⟨n, h0⟩ := aIK hS
 have h2 := pow_of (laidMet.tail (laidMet.tail hL))
 obtain ⟨a9, b9, h9⟩ := aIY (laidMet.tail (laidMet.tail (laidMet.tail (laidMet.tail hL))))
 obtain ⟨a8, b8, h8⟩ := aE8 (laidMet.tail (laidMet.tail (laidMet.tail (laidMet.tail (laidMet.tail hL)))))
 have h5 := lens_of (laidMet.tail (laidMet.tail (laidMet.tail (laidMet.tail (laidMet.tail (laidMet.tail hL))))))
 refine ⟨⟨n, [(8, [Value.iface a8 b8]), (9, [Value.iface a9 b9])]⟩, ⟨⟨a8, b8, by simp [Gl]⟩, a9, b9, by simp [Gl]⟩, fun b cs h => ?_⟩
 simp only [Gl, List.mem_cons, Prod.mk.injEq, List.not_mem_nil, or_false] at h
 rcases h with ⟨rfl, rfl⟩ | ⟨rfl, rfl⟩ | ⟨rfl, rfl⟩ | ⟨rfl, rfl⟩ | ⟨rfl, rfl⟩
 exact h0
 exact h2
 exact h5
 exact h8
 exact h9
section
variable {H : Type} {enc : TypeId × Value → H} {P : Program} {W : World}
theorem aA0 {r : Reach} {b : Nat} {t : TypeId} {v : Value} (h : P.underlying t = some .string) (hc : Value.okWide P W r b t v) : ∃ s, v = .string s := by
 unfold Value.okWide at hc
 rw [h] at hc
 unfold Cell.okWide at hc
 rw [h] at hc
 unfold Cell.ok at hc
 rw [h] at hc
 cases v <;> simp at hc
 exact ⟨_, rfl⟩
theorem rd_str {b : Nat} {t : TypeId} {v : Value} {d : DataW H} {ps : List MemPlace} (ht : P.underlying t = some .string)
  (hval : Value.okWide P W .any b t v) (hd : DataW.Trod enc P W 0 (fun _ => true) true t v d ps) : ∃ l : List UInt8, bT W pl0 (lookO []) (.c (.d (.s (S l)))) v ∧ d = .lit (.string l) := by
 obtain ⟨fuel, hf⟩ := hd
 obtain ⟨s, rfl⟩ := aA0 ht hval
 obtain ⟨s', h1, h2, _⟩ := DataW.trod_string ht hf
 have hs : s = s' := by
  have : [Value.string s] = [.string s'] := h1
  injection this with this
  injection this
 subst hs
 refine ⟨s.data.toList, ?_, by injection h2⟩
 have e : S s.data.toList = s := mk_data s
 rw [e]
 exact Rd.v _ rfl
theorem aN0 {n : Nat} {r : Reach} {b : Nat} {t e : TypeId} {v : Value} (ht : P.underlying t = some (.array n e)) (hc : P.cellsOf t = n) (hts : P.cellTypes P.depth t = some (List.replicate n e)) (he : P.underlying e = some (.int .i64)) (h : Value.okWide P W r b t v) :
  ∃ cs : List Value, v = .agg cs.toArray ∧ cs.length = n ∧ ∀ c, c ∈ cs → ∃ x, c = .int .i64 x := by
 unfold Value.okWide at h
 rw [ht] at h
 obtain ⟨cs, rfl, hs, ts, hts', _, hall⟩ := h
 obtain rfl := Option.some.inj (hts.symm.trans hts')
 rw [hc] at hs
 obtain ⟨l⟩ := cs
 refine ⟨l, rfl, by simpa using hs, fun c hcm => ?_⟩
 obtain ⟨i, hi, rfl⟩ := List.mem_iff_getElem.1 hcm
 obtain ⟨u, h0, k0⟩ := hall i l[i] (by simp [hi])
 have hu : u = e := by
  have hmem := List.mem_of_getElem? h0
  exact (List.mem_replicate.1 hmem).2
 subst hu
 exact aL5 he k0
theorem upto_witness {C : Checked} {os : Os} {f : FuncId} {fn : Func} {s : OpenSpec} {k : (H : Type) → List (DataW H) → Bool} (hk : s.cond = some k) {conds : List PathCond} {apart : Bool} {X : World → Array Value → Prop} (w0 : World) (args : Array Value) (fuel : Nat) (hos : w0.os = os)
  (hsh : (w0.forCall (fun _ _ => 0) ⟨#[], args, []⟩).Shaped C.prog)
  (hok : Input.okWideB C.prog (w0.forCall (fun _ _ => 0) ⟨#[], args, []⟩) f ⟨#[], args, []⟩ = true)
  (hpre : (match DataW.whole enc C.prog (w0.forCall (fun _ _ => 0) ⟨#[], args, []⟩).memory fn.params.toList s.vars apart args.toList fuel with
   | some x => conds.all (PathCond.test C.prog ⟨fn.params.toList, x.1, s.bare.plain.varTypes C.prog, x.2.1⟩) && k H (x.1 ++ x.2.1)
   | none => false) = true)
  (hsz : s.bare.sizedB enc C.prog fn apart (w0.forCall (fun _ _ => 0) ⟨#[], args, []⟩).memory args fuel = true)
  (hx : X (w0.forCall (fun _ _ => 0) ⟨#[], args, []⟩).memory args) :
  ∃ (w : World) (tape : Tape) (i : Input), w.os = os ∧ (w.forCall tape i).Shaped C.prog ∧ i.vars = [] ∧ Input.okWide C.prog (w.forCall tape i) .any w.heap.size f i ∧
   ((s.pre enc C.prog fn conds apart (w.forCall tape i).memory i.args ∧ X (w.forCall tape i).memory i.args) ∧ sizedMet enc C.prog fn s apart (w.forCall tape i).memory i.args) ∧ ({} : Assume).holds C.prog (lone (Frame.enter C.prog f i.args .normal) [] (w.forCall tape i)) := by
 refine ⟨w0, fun _ _ => 0, ⟨#[], args, []⟩, hos, hsh, (Input.okWide_of_okWideB (base := 0) hok).1, (Input.okWide_of_okWideB hok).2, ⟨⟨?_, hx⟩, sizedMet_of_sizedB hsz⟩, by
  simp only [Assume.holds]
  exact ⟨by simp, by simp, fun _ => Modest.zero, by simp, by simp⟩⟩
 split at hpre
 rename_i x hw
 rw [Bool.and_eq_true] at hpre
 exact (OpenSpec.pre_some hk conds apart _ _).2 ⟨x.1, x.2.1, x.2.2, DataW.Whole_of_whole hw, hpre.1, hpre.2⟩
 cases hpre
end
set_option maxRecDepth 100000 in
theorem rd_five {W : World} {b : Nat} {v : Value} (h : Value.okWide Tryz.prog W .any b 37 v) : ∃ x y z u t : Int, bT W pl0 (lookO []) (.agg [.d (.i x), .d (.i y), .d (.i z), .d (.i u), .d (.i t)]) v := by
 obtain ⟨cs, rfl, hl, hall⟩ := aN0 (n := 5) (e := 3) (by kernel_rfl) (by kernel_rfl) (by kernel_rfl) (by kernel_rfl) h
 match cs, hl, hall with
 | [c0, c1, c2, c3, c4], _, hall =>
  obtain ⟨x0, rfl⟩ := hall c0 (by simp)
  obtain ⟨x1, rfl⟩ := hall c1 (by simp)
  obtain ⟨x2, rfl⟩ := hall c2 (by simp)
  obtain ⟨x3, rfl⟩ := hall c3 (by simp)
  obtain ⟨x4, rfl⟩ := hall c4 (by simp)
  exact ⟨x0, x1, x2, x3, x4, [_, _, _, _, _], rfl, All2.cons (Rd.v _ rfl) (All2.cons (Rd.v _ rfl) (All2.cons (Rd.v _ rfl) (All2.cons (Rd.v _ rfl) (All2.one (Rd.v _ rfl)))))⟩
end Go.Proofs.YtmpgfchkkemngaaGreatDoor
namespace Go.Proofs.YtmpgfchkkemngaaGreatDoor
open Go.RowKit Go.V
open Go.Eng (inR byteAt u8 bH)
variable {g : Gv}
theorem gQ (v : Vl) (hf : v.fit) : SpG g 15 [nX v] [] (.c (cS (S (aH v)))) [] := sP lB rQ v hf
theorem decT_10 : bV 1 0 = [49] := by
 unfold bV
 rw [show (1 : Int).natAbs / 10 ^ (0 : Int).toNat = 1 from rfl, iU (by decide)]
 rfl
theorem nQ (l : List Vl) (hf : ∀ v, v ∈ l → v.fit) :
  SpG g 20 [.c (cM 7 (valsD l))] [] (.c (cS (S (bO l)))) [] := by
 refine aF 20 Tryz.func20 (by kernel_rfl) fun fr hG => ?_
 refine bX 0 rfl fun hl0 => ?_
 refine zC hG [] [1, 0, 1] (decide ((((valsD l).length : Int) : Int) > 8)) (⟨[zM 0 7 (valsD l), zS 2 (S [])], []⟩) aA (fun hc1 => ?_) (fun hc1 => ?_)
 (try simp only [zq3] at hc1)
 refine zR hG [] [] (.c (cS (S []))) [] aA ?_ ?_
 rw [vI (by omega)]
 rfl
 (try simp only [zq3] at hc1)
 refine zL hG [] [0, 1, 0, 1, 1] (fun (zz : Nat) => match zz with | k => (l.length - k, ⟨[zM 0 7 (valsD l), zS 2 (S []), zM 8 7 (valsD l), zI 9 ((valsD l).length : Int), zI 10 (k : Int)], []⟩, k ≤ l.length ∧ ∀ j, j < k → aX (l.getD j Vl.z) = true)) 0 aA ?_ ?_
 exact ⟨Nat.zero_le _, fun j hj => by omega⟩
 rintro k ⟨hk, hn⟩
 refine zc hG [] [0, 1] (decide (((k : Int) : Int) < ((valsD l).length : Int))) aA (fun hc3 => ?_) (fun hc3 => ?_)
 (try simp only [zq3] at hc3)
 refine zc hG [(5, 0, .elem (VlD ((l).getD k Vl.z))), (6, 1, kB (aX ((l).getD k Vl.z)))] [1, 1, 0, 0, 1, 1] (!(aX ((l).getD k Vl.z))) (aB (by intros; exact aY _ (by omega) (by (try simp only [zq6] at *); omega) : (0 : Int) ≤ (k : Int) ∧ (valsD l)[k]? = some (VlD ((l).getD k Vl.z))) (aC (oX ((l).getD k Vl.z) (hf _ (bW (by omega))) : SpG g _ _ _ _ _))) (fun hc4 => ?_) (fun hc4 => ?_)
 (try simp only [zq3] at hc4)
 refine zE hG [] .ret (⟨[zM 0 7 (valsD l), zS 2 (S [])], []⟩) aA rfl ?_
 refine zR hG [] [] (.c (cS (S []))) [] aA ?_ ?_
 rw [yB (k := k) (by omega) (by simpa using hc4)]
 rfl
 (try simp only [zq3] at hc4)
 refine zD hG [] (k + 1) (aC (by intros; (try simp only [inR, maxLen, valsD, List.length_map] at *); omega : inR ((k : Int) + 1))) ?_ ?_
 (try dsimp only); omega
 exact ⟨by omega, dJ hn (by simpa using hc4)⟩
 (try simp only [zq3] at hc3)
 refine zE hG [] (.exit 0) (⟨[zM 0 7 (valsD l), zS 2 (S [])], []⟩) aA rfl ?_
 refine zR hG [(9, 1, kS (S (joinL [124] (l.map aH))))] [] (.c (cS (S (joinL [124] (l.map aH))))) [] (aC (aDX l [124] (by omega) (Nat.le_trans (aHI (by omega)) (by decide)) hf lB rQ : SpG g _ _ _ _ _)) ?_ ?_
 rw [rB (by omega) (fun j hj => hn j (by omega))]
 rfl
theorem jH {v : Vl} (h : decide (v.s.length ≤ 1000) = true) (hc : v.cols = []) (hr : v.rows = []) : v.fit := by
 refine ⟨?_, ?_, ?_⟩
 simp only [decide_eq_true_eq] at h; unfold maxLen; omega
 rw [hc]; intro t ht; cases ht
 rw [hr]; intro t ht; cases ht
def exA : Vl := ⟨1, [97, 124, 98], 0, 0, 0, [], []⟩
def exB : Vl := ⟨2, [], 1, 0, 0, [], []⟩
theorem aMP : aH exA = [39, 97, 124, 98, 39] := by rw [aH, if_pos (by decide)]; rfl
theorem aMO : aH exB = [35, 49] := by
 have : aH exB = 35 :: bV 1 0 := by rw [aH, if_pos (by decide)]; rfl
 rw [this, decT_10]
theorem aMQ : ∀ v, v ∈ [exA, exB] → v.fit := by
 intro v hv
 simp only [List.mem_cons, List.not_mem_nil, or_false] at hv
 rcases hv with rfl | rfl
 exact jH (by decide) rfl rfl
 exact jH (by decide) rfl rfl
theorem w6 : bO [exA, exB] = [39, 97, 124, 98, 39, 124, 35, 49] := by
 rw [bO, if_pos (by decide), List.map_cons, List.map_cons, aMP, aMO]; rfl
theorem aA7 : SpG g 20 [.c (cM 7 (valsD [exA, exB]))] [] (.c (cS (S [39, 97, 124, 98, 39, 124, 35, 49]))) [] := by
 rw [← w6]; exact nQ _ aMQ
end Go.Proofs.YtmpgfchkkemngaaGreatDoor
namespace Go.Proofs.YtmpgfchkkemngaaGreatDoor
open Go.RowKit Go.V
open Go.Eng (inR byteAt u8 bH)
variable {g : Gv}
theorem iN (v : Vl) (r : List UInt8) (hf : v.fit) (h : aH v = r) : SpG g 15 [nX v] [] (.c (cS (S r))) [] := by
 rw [← h]; exact gQ v hf
def ex1 : Vl := ⟨0, [], 0, 0, 18, [], []⟩
def ex2 : Vl := ⟨0, [], 0, 0, 0, [], []⟩
def ex3 : Vl := ⟨1, [105, 116, 39, 115], 0, 0, 0, [], []⟩
def ex4 : Vl := ⟨2, [], 35, 1, 0, [], []⟩
def ex5 : Vl := ⟨3, [], 0, 0, 0, [], []⟩
def ex6 : Vl := ⟨4, [], 0, 0, 1, [], []⟩
def exX : Cl := ⟨1, [120], 0, 0, 0⟩
def exY : Cl := ⟨2, [], 2, 0, 0⟩
def ex7 : Vl := ⟨5, [], 0, 0, 0, [[97], [98]], [[exX, exY]]⟩
theorem aMX : aH ex1 = [33, 49, 56] := by rw [aH, if_pos (by decide)]; rfl
theorem aMW : aH ex2 = [33, 48] := by rw [aH, if_pos (by decide)]; rfl
theorem aMV : aH ex3 = [39, 105, 116, 39, 39, 115, 39] := by rw [aH, if_pos (by decide)]; rfl
theorem aMU : aH ex4 = [35, 51, 46, 53] := by
 have e : aH ex4 = 35 :: bV 35 1 := by rw [aH, if_pos (by decide)]; rfl
 have h1 : bD (10 ^ (1 : Int).toNat + (35 : Int).natAbs % 10 ^ (1 : Int).toNat) = [49, 53] := by
  rw [show 10 ^ (1 : Int).toNat + (35 : Int).natAbs % 10 ^ (1 : Int).toNat = 15 from rfl, qI (by decide), show 15 / 10 = 1 from rfl, iU (by decide)]; rfl
 rw [e, bV, h1, show (35 : Int).natAbs / 10 ^ (1 : Int).toNat = 3 from rfl, iU (by decide)]
 rfl
theorem aMT : aH ex5 = [64, 48, 48, 48, 49, 45, 48, 49, 45, 48, 49] := by
 have e : aH ex5 = 64 :: aS 0 := by rw [aH, if_pos (by decide)]; rfl
 have hc : civ 0 = (1, 1, 1) := uX ⟨by decide, by decide, by decide, by decide, by decide, by decide⟩ (by decide)
 rw [e, aS, hc]
 rfl
theorem aMS : aH ex6 = [63, 49] := by rw [aH, if_pos (by decide)]; rfl
theorem aMI : bC exY = [35, 50] := by
 have e : bC exY = 35 :: bV 2 0 := rfl
 rw [e, bV, show (2 : Int).natAbs / 10 ^ (0 : Int).toNat = 2 from rfl, iU (by decide)]
 rfl
theorem aMR : aH ex7 = [91, 97, 44, 98, 59, 39, 120, 39, 44, 35, 50, 93] := by
 have e : aH ex7 = [91] ++ joinL [44] [[97], [98]] ++ ([59 :: joinL [44] [bC exX, bC exY]]).flatten ++ [93] := by rw [aH, if_pos (by decide)]; rfl
 rw [e, aMI]
 rfl
theorem ex7_fit : ex7.fit := by
 refine ⟨by simp [ex7], ?_, ?_⟩
 have : ∀ t, t ∈ ex7.cols → t.length ≤ 1 := by decide
 intro t ht; have := this t ht; unfold maxLen; omega
 have : ∀ r, r ∈ ex7.rows → ∀ c, c ∈ r → c.s.length ≤ 1 := by decide
 intro r hr c hc; have := this r hr c hc; unfold maxLen; omega
end Go.Proofs.YtmpgfchkkemngaaGreatDoor
namespace Go.Proofs.YtmpgfchkkemngaaGreatDoor
open Go.RowKit Go.V
open Go.Eng (inR byteAt u8 bH)
variable {g : Gv}
def tqM : Nat → List UInt8 → List UInt8 → Bool × List UInt8 × List UInt8
 | 0, acc, r => (false, acc, r)
 | n + 1, acc, r =>
  if Lib.indexByte r 39 < 0 then (false, [], r)
  else if bJ 39 (r.drop ((Lib.indexByte r 39).toNat + 1)) then tqM n (acc ++ r.take (Lib.indexByte r 39).toNat ++ [39]) (aG 39 (r.drop ((Lib.indexByte r 39).toNat + 1)))
  else (true, acc ++ r.take (Lib.indexByte r 39).toNat, r.drop ((Lib.indexByte r 39).toNat + 1))
theorem cJ (c : UInt8) (l : List UInt8) : (aG c l).length ≤ l.length := by
 cases l with
 | nil => exact Nat.le_refl _
 | cons x r =>
  by_cases h : x = c
  simp [aG, h]
  simp [aG, h]
theorem fL {c : UInt8} {l : List UInt8} (h : bJ c l = false) : aG c l = l := by
 cases l with
 | nil => rfl
 | cons x r =>
  have hx : ¬ x = c := by simpa [bJ] using h
  simp [aG, hx]
theorem k4 : ∀ (l : List UInt8) (c : UInt8), -1 ≤ Lib.indexByte l c ∧ Lib.indexByte l c < l.length
 | [], c => ⟨Int.le_refl _, by show (-1 : Int) < 0; decide⟩
 | b :: l, c => by
  have ih := k4 l c
  unfold Lib.indexByte
  split
  simp only [List.length_cons]; omega
  split
  simp only [List.length_cons]; omega
  simp only [List.length_cons]; omega
theorem aJ3 (s : ByteArray) (l : List UInt8) (h : s = S l) (c : UInt8) : SpG g 63 [.c (.bx 0 0), .c (.d (.y c.toNat))] [(0, .box 90 [cS s])] (.c (cB (bJ c l))) [(0, y36 (S (aG c l)))] := by
 subst h; exact hZ l c
theorem rU {r : List UInt8} {i : Int} (h : 0 ≤ i) : (S r).extract (i + 1).toNat (S r).size = S (r.drop (i.toNat + 1)) := by
 rw [eC, show (i + 1).toNat = i.toNat + 1 by omega]
theorem zU {es : List (List D)} {acc r : List UInt8} {k : Nat} (h : es = bytesD (S acc).data.toList) : es ++ bytesD ((S r).extract 0 k).data.toList = bytesD (S (acc ++ r.take k)).data.toList := by
 rw [h, hO, bI, bI, bI, ← jA]; rfl
theorem zT {acc r : List UInt8} {k : Nat} (h : acc = []) : bytesD ((S r).extract 0 k).data.toList = bytesD (S (acc ++ r.take k)).data.toList := by
 subst h; rw [hO]; rfl
theorem tq_step {n : Nat} {acc r : List UInt8} (h : r.length < n) : tqM n acc r = (if Lib.indexByte r 39 < 0 then (false, [], r)
  else if bJ 39 (r.drop ((Lib.indexByte r 39).toNat + 1)) then tqM (n - 1) (acc ++ r.take (Lib.indexByte r 39).toNat ++ [39]) (aG 39 (r.drop ((Lib.indexByte r 39).toNat + 1)))
  else (true, acc ++ r.take (Lib.indexByte r 39).toNat, r.drop ((Lib.indexByte r 39).toNat + 1))) := by
 cases n with
 | zero => omega
 | succ n => rfl
theorem es_39 {es : List (List D)} {a : List UInt8} (h : es = bytesD (S a).data.toList) : es ++ [[D.y 39]] = bytesD (S (a ++ [39])).data.toList := by
 rw [h, jB, jB, jA]; rfl
noncomputable def txO (es : List (List D)) (r : List UInt8) : Nat → bL
 | 0 => [(0, .box 90 [cS (S r)]), (100, y12), (200, y19)]
 | _ => [(0, .box 90 [cS (S r)]), (100, y12), (200, .box 80 [.bx 200 0, .ar 606 0]), (606, .arr 0 5 1 (es))]
def aAJ := And.intro @List.length_append.{0} (And.intro @List.length_cons.{0} (And.intro @List.length_nil.{0} (@List.length_take.{0})))
abbrev y38 : SV := .tup [(true, [cI 0, cS (S []), cI 0, cI 0, cI 0, cN, cN]), (false, [cB false])]
theorem aJV (l : List UInt8) (hl : l.length < 1000000000) :
  SpG g 131 [.c (.bx 0 0)] [(0, .box 90 [cS (S l)])] (.tup [(true, [cI (if (tqM (l.length + 1) [] l).1 then 1 else 0), cS (S (tqM (l.length + 1) [] l).2.1), cI 0, cI 0, cI 0, cN, cN]), (false, [cB ((tqM (l.length + 1) [] l).1)])]) [(0, y36 (S (tqM (l.length + 1) [] l).2.2))] := by
 refine aF 37 Tryz.func131 (by kernel_rfl) fun fr hG => ?_
 refine zL hG [] [0, 1, 1] (fun (zz : Nat × Nat × List UInt8 × List UInt8 × List (List D)) => match zz with | (k, n, acc, r, es) => (r.length, ⟨[zX 0 0 0, zX 2 100 0, zB 3 false, zX 4 200 0], txO es r k⟩, k ≤ 1 ∧ (k = 0 → acc = []) ∧ r.length < n ∧ acc.length + r.length ≤ l.length + 1 ∧ tqM (l.length + 1) [] l = tqM n acc r ∧ (k = 1 → es = bytesD (S acc).data.toList))) (0, l.length + 1, [], l, []) aA ?_ ?_
 exact ⟨by omega, fun _ => rfl, by omega, by simp, rfl, by omega⟩
 rintro ⟨k, n, acc, r, es⟩ ⟨hk, hz, hrn, hal, hm, hes⟩
 have hib := k4 r 39
 have hsl := cJ 39 (r.drop ((Lib.indexByte r 39).toNat + 1))
 rw [List.length_drop] at hsl
 have htl : (r.take (Lib.indexByte r 39).toNat).length ≤ (Lib.indexByte r 39).toNat := by rw [List.length_take]; omega
 have hst := tq_step (acc := acc) hrn
 rcases (by omega : k = 0 ∨ k = 1) with rfl | rfl
 skip
 refine zP hG [(2, 4, kI (Lib.indexByte r 39))] [1, 0, 1, 0] ((Lib.indexByte r 39 : Int) < 0) (⟨[zX 0 0 0, zX 2 100 0, zB 3 false, zX 4 200 0, zI 5 (Lib.indexByte r 39)], [(0, .box 90 [cS (S r)]), (100, y12), (200, y19)]⟩) (aC (pH r 39 : SpG g _ _ _ _ _)) (fun hc2 => ?_) (fun hc2 => ?_)
 skip
 refine zE hG [] .ret (⟨[zX 2 100 0, zB 3 false], [(0, .box 90 [cS (S r)]), (100, y12)]⟩) aA rfl ?_
 refine zR hG [] [] (y38) [(0, .box 90 [cS (S r)])] aA ?_ ?_
 rw [hm, hst, if_pos hc2]; rfl
 rw [hm, hst, if_pos hc2]
 skip
 refine zC hG [(5, 6, .callG (y20 (((S r).extract 0 (Lib.indexByte r 39 : Int).toNat).size : Int)) [200] [(0, .box 80 [.bx 0 0, .ar 100 0]), (100, y21 (bytesD ((S r).extract 0 (Lib.indexByte r 39 : Int).toNat).data.toList))]), (7, 1, .callG (.c (cB (bJ 39 (r.drop ((Lib.indexByte r 39).toNat + 1))))) [0] [(0, y36 (S (aG 39 (r.drop ((Lib.indexByte r 39).toNat + 1)))))])] [1, 0, 1, 1, 1, 1, 0] (!(bJ 39 (r.drop ((Lib.indexByte r 39).toNat + 1)))) (⟨[zX 0 0 0, zX 2 100 0, zB 3 false, zX 4 200 0], [(0, y36 (S (aG 39 (r.drop ((Lib.indexByte r 39).toNat + 1))))), (100, y12), (200, .box 80 [.bx 200 0, .ar 606 0]), (606, y21 (bytesD ((S r).extract 0 (Lib.indexByte r 39 : Int).toNat).data.toList))]⟩) (aB (by intros; (try simp only [aD] at *); first | omega | (refine ⟨?_, ?_⟩ <;> omega) : (0 : Int) ≤ 0 ∧ (0 : Int) ≤ (Lib.indexByte r 39) ∧ (Lib.indexByte r 39) ≤ ((S r).size : Int)) (aB (oP ((S r).extract 0 (Lib.indexByte r 39 : Int).toNat) (by first | (rw [hO, aD]; simp only [aAJ, List.drop_zero]; omega) | (rw [hes rfl, aN, bI, hO, aD]; simp only [aAJ, List.drop_zero]; omega)) : SpG g _ _ _ _ _) (aB (by intros; (try simp only [aD] at *); first | omega | (refine ⟨?_, ?_⟩ <;> omega) : inR ((Lib.indexByte r 39) + 1)) (aB (by intros; (try simp only [aD] at *); first | omega | (refine ⟨?_, ?_⟩ <;> omega) : (0 : Int) ≤ ((Lib.indexByte r 39) + 1) ∧ ((Lib.indexByte r 39) + 1 : Int) ≤ ((S r).size : Int) ∧ ((S r).size : Int) ≤ ((S r).size : Int)) (aC (aJ3 ((S r).extract ((Lib.indexByte r 39) + 1 : Int).toNat (S r).size) (r.drop ((Lib.indexByte r 39).toNat + 1)) (rU (by omega)) 39 : SpG g _ _ _ _ _)))))) (fun hc3 => ?_) (fun hc3 => ?_)
 (try simp only [blS] at hc3)
 refine zE hG [(8, 0, .callG (.c (cS (S (acc ++ r.take (Lib.indexByte r 39).toNat)))) [200, 606] [(0, .box 80 [.bx 0 0, .any]), (1, y21 ([] : List (List D)))])] .ret (⟨[zX 2 100 0, zB 3 true], [(0, y36 (S (aG 39 (r.drop ((Lib.indexByte r 39).toNat + 1))))), (100, .box 30 [cI 1, cS (S (acc ++ r.take (Lib.indexByte r 39).toNat)), cI 0, cI 0, cI 0, cN, cN])]⟩) (aC (jO (bytesD ((S r).extract 0 (Lib.indexByte r 39 : Int).toNat).data.toList) (S (acc ++ r.take (Lib.indexByte r 39).toNat)) (by first | exact zT (hz rfl) | exact zU (hes rfl)) : SpG g _ _ _ _ _)) rfl ?_
 refine zR hG [] [] (.tup [(true, [cI 1, cS (S (acc ++ r.take (Lib.indexByte r 39).toNat)), cI 0, cI 0, cI 0, cN, cN]), (false, [cB true])]) [(0, y36 (S (aG 39 (r.drop ((Lib.indexByte r 39).toNat + 1)))))] aA ?_ ?_
 have e : tqM n acc r = (true, acc ++ r.take (Lib.indexByte r 39).toNat, r.drop ((Lib.indexByte r 39).toNat + 1)) := by rw [hst, if_neg hc2, hc3]; rfl
 rw [hm, e]; rfl
 have e : tqM n acc r = (true, acc ++ r.take (Lib.indexByte r 39).toNat, r.drop ((Lib.indexByte r 39).toNat + 1)) := by rw [hst, if_neg hc2, hc3]; rfl
 rw [hm, e, fL hc3]
 (try simp only [blS] at hc3)
 refine zD hG [(9, 0, .callG (.c (.d (.v (.nilIface)))) [200, 606] [(0, y18), (1, y21 ((bytesD ((S r).extract 0 (Lib.indexByte r 39 : Int).toNat).data.toList) ++ [[D.y 39]]))])] (1, n - 1, acc ++ (r.take (Lib.indexByte r 39).toNat) ++ [39], aG 39 (r.drop ((Lib.indexByte r 39).toNat + 1)), (bytesD ((S r).extract 0 (Lib.indexByte r 39 : Int).toNat).data.toList) ++ [[D.y 39]]) (aC (sL (bytesD ((S r).extract 0 (Lib.indexByte r 39 : Int).toNat).data.toList) 39 (by first | (rw [aN, hO, bI]; simp only [aAJ, List.drop_zero]; omega) | (rw [List.length_append, hes rfl, aN, aN, hO, bI, bI]; simp only [aAJ, List.drop_zero]; omega)) : SpG g _ _ _ _ _)) ?_ ?_
 (try dsimp only); omega
 refine ⟨by omega, by omega, by omega, by simp only [dG]; omega, ?_, fun _ => ?_⟩
 rw [hm, hst, if_neg hc2, if_pos hc3]
 exact es_39 (by first | exact zT (hz rfl) | exact zU (hes rfl))
 skip
 refine zP hG [(2, 4, kI (Lib.indexByte r 39))] [1, 0, 1, 0] ((Lib.indexByte r 39 : Int) < 0) (⟨[zX 0 0 0, zX 2 100 0, zB 3 false, zX 4 200 0, zI 5 (Lib.indexByte r 39)], [(0, .box 90 [cS (S r)]), (100, y12), (200, .box 80 [.bx 200 0, .ar 606 0]), (606, .arr 0 5 1 (es))]⟩) (aC (pH r 39 : SpG g _ _ _ _ _)) (fun hc4 => ?_) (fun hc4 => ?_)
 skip
 refine zE hG [] .ret (⟨[zX 2 100 0, zB 3 false], [(0, .box 90 [cS (S r)]), (100, y12)]⟩) aA rfl ?_
 refine zR hG [] [] (y38) [(0, .box 90 [cS (S r)])] aA ?_ ?_
 rw [hm, hst, if_pos hc4]; rfl
 rw [hm, hst, if_pos hc4]
 skip
 refine zC hG [(5, 6, .callG (y20 (((S r).extract 0 (Lib.indexByte r 39 : Int).toNat).size : Int)) [200, 606] [(0, y18), (1, y21 ((es) ++ bytesD ((S r).extract 0 (Lib.indexByte r 39 : Int).toNat).data.toList))]), (7, 1, .callG (.c (cB (bJ 39 (r.drop ((Lib.indexByte r 39).toNat + 1))))) [0] [(0, y36 (S (aG 39 (r.drop ((Lib.indexByte r 39).toNat + 1)))))])] [1, 0, 1, 1, 1, 1, 0] (!(bJ 39 (r.drop ((Lib.indexByte r 39).toNat + 1)))) (⟨[zX 0 0 0, zX 2 100 0, zB 3 false, zX 4 200 0], [(0, y36 (S (aG 39 (r.drop ((Lib.indexByte r 39).toNat + 1))))), (100, y12), (200, .box 80 [.bx 200 0, .ar 606 0]), (606, y21 ((es) ++ bytesD ((S r).extract 0 (Lib.indexByte r 39 : Int).toNat).data.toList))]⟩) (aB (by intros; (try simp only [aD] at *); first | omega | (refine ⟨?_, ?_⟩ <;> omega) : (0 : Int) ≤ 0 ∧ (0 : Int) ≤ (Lib.indexByte r 39) ∧ (Lib.indexByte r 39) ≤ ((S r).size : Int)) (aB (kF (es) ((S r).extract 0 (Lib.indexByte r 39 : Int).toNat) (by first | (rw [hO, aD]; simp only [aAJ, List.drop_zero]; omega) | (rw [hes rfl, aN, bI, hO, aD]; simp only [aAJ, List.drop_zero]; omega)) : SpG g _ _ _ _ _) (aB (by intros; (try simp only [aD] at *); first | omega | (refine ⟨?_, ?_⟩ <;> omega) : inR ((Lib.indexByte r 39) + 1)) (aB (by intros; (try simp only [aD] at *); first | omega | (refine ⟨?_, ?_⟩ <;> omega) : (0 : Int) ≤ ((Lib.indexByte r 39) + 1) ∧ ((Lib.indexByte r 39) + 1 : Int) ≤ ((S r).size : Int) ∧ ((S r).size : Int) ≤ ((S r).size : Int)) (aC (aJ3 ((S r).extract ((Lib.indexByte r 39) + 1 : Int).toNat (S r).size) (r.drop ((Lib.indexByte r 39).toNat + 1)) (rU (by omega)) 39 : SpG g _ _ _ _ _)))))) (fun hc5 => ?_) (fun hc5 => ?_)
 (try simp only [blS] at hc5)
 refine zE hG [(8, 0, .callG (.c (cS (S (acc ++ r.take (Lib.indexByte r 39).toNat)))) [200, 606] [(0, .box 80 [.bx 0 0, .any]), (1, y21 ([] : List (List D)))])] .ret (⟨[zX 2 100 0, zB 3 true], [(0, y36 (S (aG 39 (r.drop ((Lib.indexByte r 39).toNat + 1))))), (100, .box 30 [cI 1, cS (S (acc ++ r.take (Lib.indexByte r 39).toNat)), cI 0, cI 0, cI 0, cN, cN])]⟩) (aC (jO ((es) ++ bytesD ((S r).extract 0 (Lib.indexByte r 39 : Int).toNat).data.toList) (S (acc ++ r.take (Lib.indexByte r 39).toNat)) (by first | exact zT (hz rfl) | exact zU (hes rfl)) : SpG g _ _ _ _ _)) rfl ?_
 refine zR hG [] [] (.tup [(true, [cI 1, cS (S (acc ++ r.take (Lib.indexByte r 39).toNat)), cI 0, cI 0, cI 0, cN, cN]), (false, [cB true])]) [(0, y36 (S (aG 39 (r.drop ((Lib.indexByte r 39).toNat + 1)))))] aA ?_ ?_
 have e : tqM n acc r = (true, acc ++ r.take (Lib.indexByte r 39).toNat, r.drop ((Lib.indexByte r 39).toNat + 1)) := by rw [hst, if_neg hc4, hc5]; rfl
 rw [hm, e]; rfl
 have e : tqM n acc r = (true, acc ++ r.take (Lib.indexByte r 39).toNat, r.drop ((Lib.indexByte r 39).toNat + 1)) := by rw [hst, if_neg hc4, hc5]; rfl
 rw [hm, e, fL hc5]
 (try simp only [blS] at hc5)
 refine zD hG [(9, 0, .callG (.c (.d (.v (.nilIface)))) [200, 606] [(0, y18), (1, y21 (((es) ++ bytesD ((S r).extract 0 (Lib.indexByte r 39 : Int).toNat).data.toList) ++ [[D.y 39]]))])] (1, n - 1, acc ++ (r.take (Lib.indexByte r 39).toNat) ++ [39], aG 39 (r.drop ((Lib.indexByte r 39).toNat + 1)), ((es) ++ bytesD ((S r).extract 0 (Lib.indexByte r 39 : Int).toNat).data.toList) ++ [[D.y 39]]) (aC (sL ((es) ++ bytesD ((S r).extract 0 (Lib.indexByte r 39 : Int).toNat).data.toList) 39 (by first | (rw [aN, hO, bI]; simp only [aAJ, List.drop_zero]; omega) | (rw [List.length_append, hes rfl, aN, aN, hO, bI, bI]; simp only [aAJ, List.drop_zero]; omega)) : SpG g _ _ _ _ _)) ?_ ?_
 (try dsimp only); omega
 refine ⟨by omega, by omega, by omega, by simp only [dG]; omega, ?_, fun _ => ?_⟩
 rw [hm, hst, if_neg hc4, if_pos hc5]
 exact es_39 (by first | exact zT (hz rfl) | exact zU (hes rfl))
end Go.Proofs.YtmpgfchkkemngaaGreatDoor
namespace Go.Proofs.YtmpgfchkkemngaaGreatDoor
open Go.RowKit Go.V
open Go.Eng (inR byteAt u8 bH)
noncomputable def aJ (l : List UInt8) : Bool × Cl × List UInt8 := match l with
 | [] => (false, Cl.z, [])
 | x :: t =>
  if x = 33 then (lI (t.takeWhile aL), ⟨0, [], 0, 0, kD (t.takeWhile aL)⟩, t.dropWhile aL)
  else if x = 39 then ((tqM (t.length + 1) [] t).1, ⟨if (tqM (t.length + 1) [] t).1 then 1 else 0, (tqM (t.length + 1) [] t).2.1, 0, 0, 0⟩, (tqM (t.length + 1) [] t).2.2)
  else if x = 35 then (gG (t.takeWhile aL), ⟨2, [], iY (t.takeWhile aL), iX (t.takeWhile aL), 0⟩, t.dropWhile aL)
  else if x = 64 then (eK (t.takeWhile aL), ⟨3, [], 0, 0, fB (t.takeWhile aL)⟩, t.dropWhile aL)
  else if x = 63 then (decide ((t.takeWhile aL).length = 1), ⟨4, [], 0, 0, Lib.index [48, 49] (t.takeWhile aL)⟩, t.dropWhile aL)
  else (false, Cl.z, x :: t)
noncomputable def bM : Nat → Bool → List Cl → List UInt8 → Bool × List Cl × List UInt8
 | 0, _, acc, r => (true, acc, r)
 | n + 1, f, acc, r =>
  if f = true ∨ bJ 44 r = true then
   (if (aJ (if f = true then r else aG 44 r)).1 = true then bM n false (acc ++ [(aJ (if f = true then r else aG 44 r)).2.1]) (aJ (if f = true then r else aG 44 r)).2.2 else (false, [], (aJ (if f = true then r else aG 44 r)).2.2))
  else (false, [], r)
def aCT (l : List UInt8) : Bool := match l with
 | [] => true
 | x :: _ => decide (x = 59) || decide (x = 93)
def eE : Nat → List (List UInt8) → List UInt8 → List (List UInt8) × List UInt8
 | 0, acc, r => (acc, r)
 | n + 1, acc, r =>
  if aCT r = true then (acc, r)
  else if bJ 44 (r.dropWhile aL) = true then eE n (acc ++ [r.takeWhile aL]) (aG 44 (r.dropWhile aL))
  else (acc ++ [r.takeWhile aL], r.dropWhile aL)
noncomputable def gT : Nat → Nat → List (List Cl) → List UInt8 → Bool × List (List Cl) × List UInt8
 | 0, _, acc, r => (true, acc, r)
 | n + 1, k, acc, r =>
  if bJ 59 r = true then
   (if (bM k true [] (aG 59 r)).1 = true then gT n k (acc ++ [(bM k true [] (aG 59 r)).2.1]) (bM k true [] (aG 59 r)).2.2 else (false, [], (bM k true [] (aG 59 r)).2.2))
  else (true, acc, r)
noncomputable def d7 (l : List UInt8) : Bool × Vl × List UInt8 :=
 let c := eE (l.length + 1) [] l
 let q := gT (c.2.length + 1) c.1.length [] c.2
 if q.1 = true then (bJ 93 q.2.2, ⟨5, [], 0, 0, 0, c.1, q.2.1⟩, aG 93 q.2.2) else (false, Vl.z, q.2.2)
noncomputable def aI (l : List UInt8) : Bool × Vl × List UInt8 :=
 if bJ 91 l = true then d7 (aG 91 l) else ((aJ l).1, (aJ l).2.1.toV, (aJ l).2.2)
theorem zZ (l : List UInt8) : (l.dropWhile aL).length ≤ l.length := (List.dropWhile_sublist _).length_le
theorem aFV : ∀ (n : Nat) (acc r : List UInt8), (tqM n acc r).2.2.length ≤ r.length ∧ (tqM n acc r).2.1.length ≤ acc.length + r.length
 | 0, acc, r => ⟨Nat.le_refl _, Nat.le_add_right _ _⟩
 | n + 1, acc, r => by
  have hib := k4 r 39
  have hsl := cJ 39 (r.drop ((Lib.indexByte r 39).toNat + 1))
  have ih := aFV n (acc ++ r.take (Lib.indexByte r 39).toNat ++ [39]) (aG 39 (r.drop ((Lib.indexByte r 39).toNat + 1)))
  have htl : (r.take (Lib.indexByte r 39).toNat).length ≤ (Lib.indexByte r 39).toNat := by rw [List.length_take]; omega
  rw [List.length_drop] at hsl
  simp only [dG] at ih
  unfold tqM
  split
  exact ⟨Nat.le_refl _, Nat.zero_le _⟩
  split
  exact ⟨by omega, by omega⟩
  exact ⟨by simp only [List.length_drop]; omega, by simp only [List.length_append]; omega⟩
theorem nK (l : List UInt8) : (aJ l).2.2.length ≤ l.length ∧ (aJ l).2.1.s.length ≤ l.length := by
 cases l with
 | nil => exact ⟨Nat.le_refl _, Nat.le_refl _⟩
 | cons x t =>
  have h1 := zZ t
  have h2 := aFV (t.length + 1) [] t
  simp only [List.length_nil] at h2
  unfold aJ
  simp only [List.length_cons]
  split
  exact ⟨by simp only; omega, Nat.zero_le _⟩
  split
  exact ⟨by simp only; omega, by simp only; omega⟩
  split
  exact ⟨by simp only; omega, Nat.zero_le _⟩
  split
  exact ⟨by simp only; omega, Nat.zero_le _⟩
  split
  exact ⟨by simp only; omega, Nat.zero_le _⟩
  exact ⟨by simp only [List.length_cons]; omega, Nat.zero_le _⟩
theorem s6 (m : Nat) : ∀ (n : Nat) (f : Bool) (acc : List Cl) (r : List UInt8), r.length ≤ m → (∀ c, c ∈ acc → c.s.length ≤ m) → (bM n f acc r).2.2.length ≤ r.length ∧ (∀ c, c ∈ (bM n f acc r).2.1 → c.s.length ≤ m) ∧ (bM n f acc r).2.1.length ≤ acc.length + n
 | 0, f, acc, r, _, ha => ⟨Nat.le_refl _, ha, Nat.le_refl _⟩
 | n + 1, f, acc, r, hr, ha => by
  have h0 : (if f = true then r else aG 44 r).length ≤ r.length := by
   split
   exact Nat.le_refl _
   exact cJ 44 r
  have h1 := nK (if f = true then r else aG 44 r)
  have ih := s6 m n false (acc ++ [(aJ (if f = true then r else aG 44 r)).2.1]) (aJ (if f = true then r else aG 44 r)).2.2 (by omega) (fun c hc => by
   rcases List.mem_append.1 hc with h | h
   exact ha c h
   rw [List.mem_singleton] at h; subst h; omega)
  unfold bM
  by_cases q1 : f = true ∨ bJ 44 r = true
  rw [if_pos q1]
  generalize (if f = true then r else aG 44 r) = u at *
  by_cases q2 : (aJ u).1 = true
  rw [if_pos q2]
  exact ⟨by omega, ih.2.1, by have := ih.2.2; simp only [dG] at this; omega⟩
  rw [if_neg q2]
  exact ⟨by simp only; omega, fun c hc => (by cases hc), Nat.zero_le _⟩
  rw [if_neg q1]
  exact ⟨Nat.le_refl _, fun c hc => (by cases hc), Nat.zero_le _⟩
theorem nI (m : Nat) : ∀ (n : Nat) (acc : List (List UInt8)) (r : List UInt8), r.length ≤ m → (∀ t, t ∈ acc → t.length ≤ m) → (eE n acc r).2.length ≤ r.length ∧ (∀ t, t ∈ (eE n acc r).1 → t.length ≤ m) ∧ (eE n acc r).1.length ≤ acc.length + n
 | 0, acc, r, _, ha => ⟨Nat.le_refl _, ha, Nat.le_refl _⟩
 | n + 1, acc, r, hr, ha => by
  have h0 := zZ r
  have h1 := sU r
  have h2 := cJ 44 (r.dropWhile aL)
  have hm : ∀ t, t ∈ acc ++ [r.takeWhile aL] → t.length ≤ m := fun c hc => by
   rcases List.mem_append.1 hc with h | h
   exact ha c h
   rw [List.mem_singleton] at h; subst h; omega
  have ih := nI m n (acc ++ [r.takeWhile aL]) (aG 44 (r.dropWhile aL)) (by omega) hm
  unfold eE
  split
  exact ⟨Nat.le_refl _, ha, by simp only; omega⟩
  split
  exact ⟨by omega, ih.2.1, by have := ih.2.2; simp only [dG] at this; omega⟩
  exact ⟨by simp only; omega, hm, by simp only [dG]; omega⟩
theorem wA (m : Nat) : ∀ (n k : Nat) (acc : List (List Cl)) (r : List UInt8), r.length ≤ m → (∀ x, x ∈ acc → ∀ c, c ∈ x → c.s.length ≤ m) → (gT n k acc r).2.2.length ≤ r.length ∧ (∀ x, x ∈ (gT n k acc r).2.1 → ∀ c, c ∈ x → c.s.length ≤ m)
 | 0, k, acc, r, _, ha => ⟨Nat.le_refl _, ha⟩
 | n + 1, k, acc, r, hr, ha => by
  have h0 := cJ 59 r
  have h1 := s6 m k true [] (aG 59 r) (by omega) (fun c hc => by cases hc)
  have ih := wA m n k (acc ++ [(bM k true [] (aG 59 r)).2.1]) (bM k true [] (aG 59 r)).2.2 (by omega) (fun x hx => by
   rcases List.mem_append.1 hx with h | h
   exact ha x h
   rw [List.mem_singleton] at h; subst h; exact h1.2.1)
  unfold gT
  split
  split
  exact ⟨by omega, ih.2⟩
  exact ⟨by simp only; omega, fun x hx => (by cases hx)⟩
  exact ⟨Nat.le_refl _, ha⟩
theorem sO (l : List UInt8) (hl : l.length ≤ maxLen) : (aI l).2.2.length ≤ l.length ∧ (aI l).2.1.fit := by
 have h1 := cJ 91 l
 unfold aI
 split
 have h2 := nI maxLen ((aG 91 l).length + 1) [] (aG 91 l) (by omega) (fun c hc => by cases hc)
 have h3 := wA maxLen ((eE ((aG 91 l).length + 1) [] (aG 91 l)).2.length + 1) (eE ((aG 91 l).length + 1) [] (aG 91 l)).1.length [] (eE ((aG 91 l).length + 1) [] (aG 91 l)).2 (by omega) (fun c hc => by cases hc)
 unfold d7
 dsimp only
 split
 have h4 := cJ 93 (gT ((eE ((aG 91 l).length + 1) [] (aG 91 l)).2.length + 1) (eE ((aG 91 l).length + 1) [] (aG 91 l)).1.length [] (eE ((aG 91 l).length + 1) [] (aG 91 l)).2).2.2
 exact ⟨by simp only; omega, ⟨Nat.zero_le _, h2.2.1, h3.2⟩⟩
 exact ⟨by simp only; omega, ⟨Nat.zero_le _, fun t ht => (by cases ht), fun t ht => (by cases ht)⟩⟩
 have h2 := nK l
 exact ⟨by simp only; omega, ⟨by show (aJ l).2.1.s.length ≤ maxLen; omega, fun t ht => (by cases ht), fun t ht => (by cases ht)⟩⟩
theorem no39 : ∀ {a : List UInt8}, (39 : UInt8) ∉ a → bU a = a
 | [], _ => rfl
 | c :: a, h => by
  have hc : ¬ c = 39 := fun e => h (by rw [e]; exact List.mem_cons_self)
  have ih := no39 (a := a) fun e => h (List.mem_cons_of_mem _ e)
  rw [show bU (c :: a) = mE c ++ bU a by simp [bU], ih, mE, if_neg hc]; rfl
theorem aMY (a b : List UInt8) : bU (a ++ b) = bU a ++ bU b := by simp [bU]
theorem yV : ∀ {a : List UInt8} (t : List UInt8), (39 : UInt8) ∉ a → Lib.indexByte (a ++ 39 :: t) 39 = a.length
 | [], t, _ => by show Lib.indexByte (39 :: t) 39 = 0; rw [Lib.indexByte]; rfl
 | c :: a, t, h => by
  have hc : ¬ c = 39 := fun e => h (by rw [e]; exact List.mem_cons_self)
  have ih := yV (a := a) t fun e => h (List.mem_cons_of_mem _ e)
  rw [List.cons_append, Lib.indexByte, ih]
  simp [hc]
theorem tq_of : ∀ (n : Nat) (s acc r : List UInt8), (bU s ++ 39 :: r).length < n → kE r → tqM n acc (bU s ++ 39 :: r) = (true, acc ++ s, r)
 | 0, s, acc, r, h, _ => absurd h (Nat.not_lt_zero _)
 | n + 1, s, acc, r, h, hr => by
  by_cases hm : (39 : UInt8) ∈ s
  obtain ⟨a, s', rfl, ha⟩ := List.eq_append_cons_of_mem hm
  have e : bU (a ++ 39 :: s') ++ 39 :: r = a ++ 39 :: (39 :: (bU s' ++ 39 :: r)) := by
   rw [aMY, no39 ha, show bU (39 :: s') = [39, 39] ++ bU s' by simp [bU, mE]]; simp
  have hi := yV (39 :: (bU s' ++ 39 :: r)) ha
  rw [e] at h ⊢
  rw [tqM, hi, if_neg (by omega), Int.toNat_natCast]
  have hd : (a ++ 39 :: (39 :: (bU s' ++ 39 :: r))).drop (a.length + 1) = 39 :: (bU s' ++ 39 :: r) := by
   rw [← List.drop_drop, List.drop_left]; rfl
  have ht : (a ++ 39 :: (39 :: (bU s' ++ 39 :: r))).take a.length = a := List.take_left
  rw [hd, ht, if_pos (by simp [bJ]), show aG 39 (39 :: (bU s' ++ 39 :: r)) = bU s' ++ 39 :: r by simp [aG]]
  rw [tq_of n s' _ r (by simp only [aJP] at h ⊢; omega) hr]
  simp
  have hi := yV r hm
  rw [no39 hm] at h ⊢
  rw [tqM, hi, if_neg (by omega), Int.toNat_natCast]
  have hd : (s ++ 39 :: r).drop (s.length + 1) = r := by
   rw [← List.drop_drop, List.drop_left]; rfl
  have ht : (s ++ 39 :: r).take s.length = s := List.take_left
  have hk : bJ 39 r = false := by
   rcases hr with rfl | ⟨x, t, rfl, hx⟩
   rfl
   have : ¬ x = 39 := by rintro rfl; simp [aL] at hx
   simp [bJ, this]
  rw [hd, ht, if_neg (by rw [hk]; decide)]
theorem aJE {n : Int} (h0 : 0 ≤ n) (h1 : n ≤ 99) : lI (dec2 n) = true ∧ kD (dec2 n) = n := by
 have : ∀ k : Nat, k < 100 → (lI (dec2 (k : Int)) = true ∧ kD (dec2 (k : Int)) = (k : Int)) := by decide +kernel
 have h := this n.toNat (by omega)
 have e : ((n.toNat : Nat) : Int) = n := by omega
 rw [e] at h; exact h
theorem xG {n : Int} (h0 : 0 ≤ n) (h1 : n ≤ 99) : (dec2 n).all aL = true := by
 rw [pM h0 h1]; exact dW (fun c => gY) (dS n.toNat).2
theorem uY {c : Cl} (hk : ¬ c.kind = 5) (h : aV false c.toV = true) {r : List UInt8} (hr : kE r) : aJ (bC c ++ r) = (true, c, r) := by
 obtain ⟨a1, a2, a3, _, a5, a6, a7, a8, a9, a10, _⟩ := eG h
 obtain ⟨k, s, dn, ds, n⟩ := c
 simp only [Cl.toV] at *
 unfold bC gC
 simp only
 have hk : k = 0 ∨ k = 1 ∨ k = 2 ∨ k = 3 ∨ k = 4 := by omega
 rcases hk with rfl | rfl | rfl | rfl | rfl
 have hn := a7 rfl
 have hw := fC (xG hn.1 hn.2) hr
 have ha := aJE hn.1 hn.2
 simp only [if_true, List.cons_append, aJ, hw.1, hw.2, ha.1, ha.2]
 have := a1 (by decide); have := a2 (by decide)
 simp_all
 have e : n6 s ++ r = 39 :: (bU s ++ 39 :: r) := by simp [n6]
 have ht := tq_of ((bU s ++ 39 :: r).length + 1) s [] r (by omega) hr
 rw [List.nil_append] at ht
 simp only [show ¬ (1 : Int) = 0 by decide, if_false, if_true, e, aJ, show ¬ (39 : UInt8) = 33 by decide, ht]
 have := a2 (by decide); have := a3 (by decide)
 simp_all
 have hb := a8 rfl
 have hd := fJ hb
 have hw := fC (xE (n := dn) hd.1) hr
 obtain ⟨h1, h2, h3⟩ := mG hb rfl
 simp only [show ¬ (2 : Int) = 0 by decide, show ¬ (2 : Int) = 1 by decide, if_false, if_true, List.cons_append, aJ, show ¬ (35 : UInt8) = 39 by decide, show ¬ (35 : UInt8) = 33 by decide, hw.1, hw.2, h1, h2, h3]
 have := a1 (by decide); have := a3 (by decide)
 simp_all
 have hn := a9 rfl
 have hw := fC (nU hn.1 hn.2) hr
 obtain ⟨h1, h2⟩ := nF hn.1 hn.2 rfl
 simp only [show ¬ (3 : Int) = 0 by decide, show ¬ (3 : Int) = 1 by decide, show ¬ (3 : Int) = 2 by decide, if_false, if_true, List.cons_append, aJ, show ¬ (64 : UInt8) = 39 by decide, show ¬ (64 : UInt8) = 33 by decide, show ¬ (64 : UInt8) = 35 by decide, hw.1, hw.2, h1, h2]
 have := a1 (by decide); have := a2 (by decide)
 simp_all
 have hn := a10 rfl
 have hw := fC (xG (n := n) (by omega) (by omega)) hr
 have hx : (dec2 n).length = 1 ∧ Lib.index [48, 49] (dec2 n) = n := by
  rcases hn with rfl | rfl <;> decide +kernel
 simp only [show ¬ (4 : Int) = 0 by decide, show ¬ (4 : Int) = 1 by decide, show ¬ (4 : Int) = 2 by decide, show ¬ (4 : Int) = 3 by decide, if_false, List.cons_append, aJ, show ¬ (63 : UInt8) = 39 by decide, show ¬ (63 : UInt8) = 33 by decide, show ¬ (63 : UInt8) = 35 by decide, show ¬ (63 : UInt8) = 64 by decide, hw.1, hw.2, hx.1, hx.2]
 have := a1 (by decide); have := a2 (by decide)
 simp_all
theorem eI (s : UInt8) : ∀ (x : List UInt8) (l : List (List UInt8)), joinL [s] (x :: l) = x ++ l.flatMap (fun y => s :: y)
 | x, [] => by simp [joinL]
 | x, y :: l => by rw [joinL, eI s y l]; simp
theorem dP (c : UInt8) (t : List UInt8) : bJ c (c :: t) = true ∧ aG c (c :: t) = t := by simp [bJ, aG]
theorem k6 {s : UInt8} (hs : aL s = false) {r : List UInt8} (hr : kE r) : ∀ (l : List (List UInt8)), kE (l.flatMap (fun y => s :: y) ++ r)
 | [] => by simpa using hr
 | x :: l => k7 (x := s) (t := x ++ l.flatMap (fun y => s :: y) ++ r) hs |> fun h => by simpa using h
theorem wE : ∀ (x acc : List Cl) (r : List UInt8), (∀ c, c ∈ x → vR c) → kE r → bM x.length false acc ((x.map bC).flatMap (fun y => 44 :: y) ++ r) = (true, acc ++ x, r)
 | [], acc, r, _, _ => by simp [bM]
 | c :: x, acc, r, hx, hr => by
  have hc := hx c (by simp)
  have e : ((c :: x).map bC).flatMap (fun y => 44 :: y) ++ r = 44 :: (bC c ++ ((x.map bC).flatMap (fun y => 44 :: y) ++ r)) := by simp
  have h1 := uY hc.1 hc.2 (k6 (s := 44) rfl hr (x.map bC))
  have ih := wE x (acc ++ [c]) r (fun c hc => hx c (List.mem_cons_of_mem _ hc)) hr
  rw [e, List.length_cons, bM, (dP 44 _).1, if_pos (.inr rfl), if_neg (by decide : ¬ false = true), (dP 44 _).2, h1, if_pos rfl]
  simp only
  rw [ih]; simp
theorem rowA_of {x : List Cl} {r : List UInt8} (hx : ∀ c, c ∈ x → vR c) (hr : kE r) : bM x.length true [] (joinL [44] (x.map bC) ++ r) = (true, x, r) := by
 cases x with
 | nil => simp [bM, joinL]
 | cons c x =>
  have hc := hx c (by simp)
  have h1 := uY hc.1 hc.2 (k6 (s := 44) rfl hr (x.map bC))
  have h2 := wE x [c] r (fun c hc => hx c (List.mem_cons_of_mem _ hc)) hr
  rw [List.map_cons, eI, List.append_assoc, List.length_cons, bM, if_pos (.inl rfl), if_pos rfl, h1, if_pos rfl]
  simp only [List.nil_append]
  rw [h2]; rfl
theorem aA6 : ∀ (n k : Nat) (a acc : List (List Cl)) (r : List UInt8), a.length < n → (∀ x, x ∈ a → x.length = k ∧ ∀ c, c ∈ x → vR c) → gT n k acc (a.flatMap f4 ++ 93 :: r) = (true, acc ++ a, 93 :: r)
 | 0, _, _, _, _, h, _ => absurd h (Nat.not_lt_zero _)
 | n + 1, k, [], acc, r, _, _ => by
  rw [List.flatMap_nil, List.nil_append, gT, if_neg (by simp [bJ])]; simp
 | n + 1, k, x :: a, acc, r, h, ha => by
  have hends : kE (a.flatMap f4 ++ 93 :: r) := by
   cases a with
   | nil => exact k7 rfl
   | cons z q => exact k7 (x := 59) rfl
  have e : (x :: a).flatMap f4 ++ 93 :: r = 59 :: (joinL [44] (x.map bC) ++ (a.flatMap f4 ++ 93 :: r)) := by simp [f4]
  have h1 := rowA_of (ha x (by simp)).2 hends
  rw [(ha x (by simp)).1] at h1
  have ih := aA6 n k a (acc ++ [x]) r (by simp only [List.length_cons] at h; omega) (fun y hy => ha y (List.mem_cons_of_mem _ hy))
  rw [e, gT, (dP 59 _).1, if_pos rfl, (dP 59 _).2, h1, if_pos rfl]
  simp only
  rw [ih]; simp
theorem aLD {c : UInt8} (h : aL c = true) (t : List UInt8) : aCT (c :: t) = false := by
 simp only [aL, Bool.not_eq_true', Bool.or_eq_false_iff, beq_eq_false_iff_ne, ne_eq] at h
 simp [aCT, h.1.1.2, h.1.2]
theorem uW : ∀ (n : Nat) (x : List UInt8) (a acc : List (List UInt8)) (r : List UInt8), a.length < n → (∀ t, t ∈ x :: a → bZ t = true) → EndsT r → eE n acc (x ++ (a.flatMap (fun y => 44 :: y) ++ r)) = (acc ++ x :: a, r)
 | 0, _, _, _, _, h, _, _ => absurd h (Nat.not_lt_zero _)
 | n + 1, x, a, acc, r, h, ha, hr => by
  obtain ⟨hx, c, t, hc, hn⟩ := oC (ha x (by simp))
  have hw := fC hx (k6 (s := 44) rfl hr.w a)
  have he : aCT (x ++ (a.flatMap (fun y => 44 :: y) ++ r)) = false := by rw [hc]; exact aLD hn _
  rw [eE, he, if_neg (by decide : ¬ false = true), hw.1, hw.2]
  cases a with
  | nil =>
   obtain ⟨z, s, rfl, hz⟩ := hr
   have : ¬ z = 44 := by rcases hz with rfl | rfl <;> decide
   rw [List.flatMap_nil, List.nil_append, if_neg (by simp [bJ, this])]
  | cons y a =>
   have ih := uW n y a (acc ++ [x]) r (by simp only [List.length_cons] at h; omega) (fun t ht => ha t (List.mem_cons_of_mem _ ht)) hr
   have e : (y :: a).flatMap (fun y => 44 :: y) ++ r = 44 :: (y ++ (a.flatMap (fun y => 44 :: y) ++ r)) := by simp
   rw [e, (dP 44 _).1, if_pos rfl, (dP 44 _).2, ih]; simp
theorem aNF {n : Nat} {a : List (List UInt8)} {r : List UInt8} (h : a.length < n) (ha : ∀ t, t ∈ a → bZ t = true) (hr : EndsT r) : eE n [] (joinL [44] a ++ r) = (a, r) := by
 cases a with
 | nil =>
  obtain ⟨z, s, rfl, hz⟩ := hr
  cases n with
  | zero => exact absurd h (Nat.not_lt_zero _)
  | succ n =>
   rw [joinL, List.nil_append, eE, if_pos (by rcases hz with rfl | rfl <;> rfl)]
 | cons x a => rw [eI, List.append_assoc, uW n x a [] r (by simp only [List.length_cons] at h; omega) ha hr]; rfl
theorem zH {α : Type} {f : α → List UInt8} (hf : ∀ x, 1 ≤ (f x).length) : ∀ (l : List α), l.length ≤ (l.flatMap f).length
 | [] => Nat.le_refl _
 | x :: l => by have := zH hf l; have := hf x; simp only [aJP, List.flatMap_cons]; omega
theorem aL1 {a : List (List UInt8)} (s : UInt8) (h : ∀ t, t ∈ a → 1 ≤ t.length) : a.length ≤ (joinL [s] a).length := by
 cases a with
 | nil => exact Nat.zero_le _
 | cons x a =>
  have h1 := h x (by simp)
  have h2 := zH (f := fun y : List UInt8 => s :: y) (fun x => by simp) a
  rw [eI]; simp only [aJP]; omega
theorem vY {v : Vl} (hv : aX v = true) {r : List UInt8} (hr : kE r) : aI (cO v ++ r) = (true, v, r) := by
 by_cases hk : v.kind = 5
 obtain ⟨a1, a2, a3, _, _, _, _, _, _, _, a11⟩ := eG hv
 obtain ⟨na, ra⟩ := qZ (a11 hk)
 have hT : EndsT (v.rows.flatMap f4 ++ 93 :: r) := by
  cases v.rows with
  | nil => exact ⟨93, _, rfl, .inr rfl⟩
  | cons z q => exact ⟨59, _, rfl, .inl rfl⟩
 rw [kM hk hv, aI, (dP 91 _).1, if_pos rfl, (dP 91 _).2, d7]
 have hn : v.cols.length < (joinL [44] v.cols ++ (v.rows.flatMap f4 ++ 93 :: r)).length + 1 := by
  have := aL1 (a := v.cols) 44 (fun t ht => by
   obtain ⟨_, c, u, h, _⟩ := oC (na t ht); rw [h]; simp)
  simp only [List.length_append]; omega
 rw [aNF hn na hT]
 have hm : v.rows.length < (v.rows.flatMap f4 ++ 93 :: r).length + 1 := by
  have := zH (f := f4) (fun x => by simp [f4]) v.rows
  simp only [List.length_append]; omega
 dsimp only
 rw [aA6 _ _ v.rows [] r hm ra]
 simp only [List.nil_append, if_true, (dP 93 _).1, (dP 93 _).2]
 obtain ⟨k, s, dn, ds, n, cols, rows⟩ := v
 simp only at a1 a2 a3 hk
 subst hk
 have := a1 (by decide); have := a2 (by decide); have := a3 (by decide)
 simp_all
 obtain ⟨h1, h2, h3⟩ := o3 hk hv
 obtain ⟨x, t, h4, h5⟩ := aI8 (c := v.cl) hk
 have hs : bJ 91 (cO v ++ r) = false := by rw [h3, h4]; simp [bJ, h5]
 rw [aI, hs, if_neg (by decide : ¬ false = true), h3, uY h2.1 h2.2 hr, h1]
noncomputable def bS (s : List UInt8) : Bool := (aI s).1 && decide ((aI s).2.2 = []) && aX (aI s).2.1 && decide (aH (aI s).2.1 = s)
noncomputable def bP (s : List UInt8) : Vl := if bS s = true then (aI s).2.1 else Vl.z
theorem aBP {s : List UInt8} {v : Vl} (hv : aX v = true) (e : aH v = s) : bS s = true ∧ bP s = v := by
 have e2 : cO v = s := by rw [← e, aH, if_pos hv]
 have h := vY hv (r := []) (.inl rfl)
 rw [List.append_nil, e2] at h
 have hk : bS s = true := by rw [bS, h]; simp [hv, e]
 exact ⟨hk, by rw [bP, if_pos hk, h]⟩
theorem yH {s : List UInt8} (h : bS s = true) : aX (bP s) = true ∧ aH (bP s) = s := by
 have hv : bP s = (aI s).2.1 := by rw [bP, if_pos h]
 simp only [bS, Bool.and_eq_true, decide_eq_true_eq] at h
 rw [hv]; exact ⟨h.1.2, h.2⟩
end Go.Proofs.YtmpgfchkkemngaaGreatDoor
namespace Go.Proofs.YtmpgfchkkemngaaGreatDoor
open Go.RowKit Go.V
open Go.Eng (inR byteAt u8 bH)
variable {g : Gv}
def aLR : List (List (Option Nat)) → List (Bool × List C) → List (Bool × List C)
 | m :: ms, p :: ps => (p.1, l5 m p.2) :: aLR ms ps
 | _, ps => ps
theorem aIL {m : List (Option Nat)} {c : C} : l5 m [c] = [c] ∨ ∃ q, l5 m [c] = [aB8 q c] := by
 cases m with
 | nil => exact .inl rfl
 | cons q m =>
  right
  refine ⟨q, ?_⟩
  cases m <;> rfl
theorem aB6 {own : Own} {w : World} {pl : Pl} : ∀ {ms : List (List (Option Nat))} {ps : List (Bool × List C)} {vs : List Value}, All2 (dZ w pl own) ps vs → All2 (dZ w pl own) (aLR ms ps) vs
 | [], ps, vs, h => by cases ps <;> exact h
 | m :: ms, [], vs, h => h
 | m :: ms, p :: ps, vs, h => by
  obtain ⟨y, r, rfl, h1, h2⟩ := h.uncons
  refine All2.cons ?_ (aB6 h2)
  obtain ⟨b, cs⟩ := p
  cases b with
  | true =>
   obtain ⟨us, rfl, h3⟩ := h1
   exact ⟨us, rfl, j0 h3⟩
  | false =>
   cases cs with
   | nil => exact h1.elim
   | cons c cs =>
    cases cs with
    | cons _ _ => exact h1.elim
    | nil =>
     rcases aIL (m := m) (c := c) with e | ⟨q, e⟩
     show dZ w pl own (false, l5 m [c]) y
     rw [e]; exact h1
     show dZ w pl own (false, l5 m [c]) y
     rw [e]; exact tV h1
theorem gI {f : FuncId} {ins : List SV} {refs : bL} {ps : List (Bool × List C)} {post : bL} (ms : List (List (Option Nat))) (h : SpG g f ins refs (.tup ps) post) : SpG g f ins refs (.tup (aLR ms ps)) post := by
 intro fr w pl args hw hG m ha
 refine (h fr w pl args hw hG m ha).mono ?_
 rintro e w' ⟨v, pl', rfl, m', hv⟩
 obtain ⟨vs, rfl, h2⟩ := hv
 exact ⟨_, pl', rfl, m', vs, rfl, aB6 h2⟩
theorem sX {f : FuncId} {ins : List SV} {out : SV} {post : bL} {s s' : ByteArray} (e : s = s') (h : SpG g f ins [(0, .box 90 [cS s'])] out post) : SpG g f ins [(0, .box 90 [cS s])] out post := by subst e; exact h
theorem oO (x : UInt8) (t : List UInt8) : (S (x :: t)).extract 1 (S (x :: t)).size = S t := by rw [eC]; rfl
theorem aE4 (hE : jF g) (l : List UInt8) (hl : l.length < 1000000000) : SpG g 130 [.c (.bx 0 0)] [(0, .box 90 [cS (S l)])] (.tup [(true, [cI 0, cS (S []), cI 0, cI 0, cI (kD (l.takeWhile aL)), cN, cN]), (false, [cB (lI (l.takeWhile aL))])]) [(0, y36 (S (l.dropWhile aL)))] := by
 cases h : lI (l.takeWhile aL) with
 | true => exact aCS hE l hl h
 | false => exact aE5 hE l hl h
theorem no_key {n : Int} {a b c d e : C} (h : n ≠ 33 ∧ n ≠ 39 ∧ n ≠ 35 ∧ n ≠ 64 ∧ n ≠ 63) : ∀ x ∈ ([(33, a), (39, b), (35, c), (64, d), (63, e)] : List (Int × C)), n ≠ x.1 := by
 obtain ⟨h1, h2, h3, h4, h5⟩ := h
 intro x hx
 simp only [List.mem_cons, List.not_mem_nil, or_false] at hx
 rcases hx with rfl | rfl | rfl | rfl | rfl <;> assumption
theorem uZ {x : UInt8} {t : List UInt8} (h : ¬ x = 33 ∧ ¬ x = 39 ∧ ¬ x = 35 ∧ ¬ x = 64 ∧ ¬ x = 63) : aJ (x :: t) = (false, Cl.z, x :: t) := by
 obtain ⟨h1, h2, h3, h4, h5⟩ := h
 simp only [aJ, if_neg h1, if_neg h2, if_neg h3, if_neg h4, if_neg h5]
theorem gH (x : UInt8) (t : List UInt8) : byteAt (S (x :: t)) 0 = (x.toNat : Int) := cT (x :: t) 0
theorem aID {x : UInt8} {t : List UInt8} (h : ¬ x = 33 ∧ ¬ x = 39 ∧ ¬ x = 35 ∧ ¬ x = 64 ∧ ¬ x = 63) : byteAt (S (x :: t)) 0 ≠ 33 ∧ byteAt (S (x :: t)) 0 ≠ 39 ∧ byteAt (S (x :: t)) 0 ≠ 35 ∧ byteAt (S (x :: t)) 0 ≠ 64 ∧ byteAt (S (x :: t)) 0 ≠ 63 := by
 obtain ⟨h1, h2, h3, h4, h5⟩ := h
 have q : ∀ y : UInt8, ¬ x = y → byteAt (S (x :: t)) 0 ≠ (y.toNat : Int) := fun y hy e => hy (by rw [gH] at e; exact UInt8.toNat_inj.1 (by omega))
 exact ⟨q 33 h1, q 39 h2, q 35 h3, q 64 h4, q 63 h5⟩
theorem n2 {n : Nat} {acc : List Cl} {r : List UInt8} (h : 0 < n) : bM n true acc r = (if (aJ r).1 = true then bM (n - 1) false (acc ++ [(aJ r).2.1]) (aJ r).2.2 else (false, [], (aJ r).2.2)) := by
 obtain ⟨m, rfl⟩ : ∃ m, n = m + 1 := ⟨n - 1, by omega⟩
 rw [bM, if_pos (.inl rfl), if_pos rfl]; rfl
theorem jU {n k : Nat} {acc : List Cl} {r : List UInt8} (h : k < n) : bM (n - k) false acc r = (if bJ 44 r = true then (if (aJ (aG 44 r)).1 = true then bM (n - (k + 1)) false (acc ++ [(aJ (aG 44 r)).2.1]) (aJ (aG 44 r)).2.2 else (false, [], (aJ (aG 44 r)).2.2)) else (false, [], r)) := by
 obtain ⟨m, hm⟩ : ∃ m, n - k = m + 1 := ⟨n - k - 1, by omega⟩
 rw [hm, bM, show n - (k + 1) = m by omega]
 simp
theorem oW {n k : Nat} {f : Bool} {acc : List Cl} {r : List UInt8} (h : ¬ k < n) : bM (n - k) f acc r = (true, acc, r) := by
 rw [show n - k = 0 by omega, bM]
theorem rowA_no {n : Nat} {f : Bool} {acc : List Cl} {r : List UInt8} : (bM n f acc r).1 = false → (bM n f acc r).2.1 = [] := by
 induction n generalizing f acc r with
 | zero => intro h; cases h
 | succ n ih =>
  unfold bM
  by_cases q1 : f = true ∨ bJ 44 r = true
  rw [if_pos q1]
  generalize (if f = true then r else aG 44 r) = u
  by_cases q2 : (aJ u).1 = true
  rw [if_pos q2]; exact ih
  rw [if_neg q2]; intro _; rfl
  rw [if_neg q1]; intro _; rfl
theorem mW {es : List (List D)} {acc : List Cl} (c : Cl) (h : es = rowD acc) : es ++ [[D.i c.kind, .s (S c.s), .i c.dn, .i c.ds, .i c.n, .sl 1 [], .sl 1 []]] = rowD (acc ++ [c]) := by
 rw [h]; simp [rowD, ClD]
abbrev y39 (a0 : Int) (a1 : ByteArray) (a2 : Int) (a3 : Int) (a4 : Int) (a5 : Bool) : SV := .tup [(true, [cI a0, cS a1, cI a2, cI a3, cI a4, cN, cN]), (false, [cB a5])]
theorem cell_33 (hE : jF g) (t : List UInt8) (hl : t.length < 999999999) :
  SpG g 86 [.c (.bx 0 0)] [(0, y36 (S (33 :: t)))] (y39 ((aJ (33 :: t)).2.1.kind) (S (aJ (33 :: t)).2.1.s) ((aJ (33 :: t)).2.1.dn) ((aJ (33 :: t)).2.1.ds) ((aJ (33 :: t)).2.1.n) ((aJ (33 :: t)).1)) [(0, y36 (S (aJ (33 :: t)).2.2))] := by
 refine aF 50 Tryz.func86 (by kernel_rfl) fun fr hG => ?_
 refine zC hG [] [1, 0, 1] ((S (33 :: t)).toList == (S []).toList) (⟨[zX 0 0 0, zX 2 100 0, zB 3 false], [(0, y36 (S (33 :: t))), (100, y12)]⟩) aA (fun hc1 => ?_) (fun hc1 => ?_)
 (try simp only [d5] at hc1)
 exact absurd hc1 (by simp)
 (try simp only [d5] at hc1)
 refine zC hG [(4, 6, .elem [.i 0])] [1, 0, 1, 1, 1, 1] (false) (⟨[zX 0 0 0, zX 2 100 0, zB 3 false, (5, [], .c (.fn 130 [(0, 0)] []))], [(0, y36 (S (33 :: t))), (100, y12)]⟩) (aB (by first | (intro h; rw [dX] at h; have := List.length_pos_iff.2 h; rw [aD]; omega) | (intros; rw [aD]; simp only [List.length_cons]; omega) | omega : (0 : Int) ≤ 0 ∧ 0 < ((S (33 :: t)).size : Int)) (aC (show (byteAt (S (33 :: t)) 0 : Int) = 33 from (gH 33 t)))) (fun hc2 => absurd hc2 (by decide)) (fun _ => ?_)
 exact zr hG [(8, 1, .callG (.tup [(true, [cI 0, cS (S []), cI 0, cI 0, cI (kD (t.takeWhile aL)), cN, cN]), (false, [cB (lI (t.takeWhile aL))])]) [0] [(0, y36 (S (t.dropWhile aL)))])] [] (aB (by first | (intro h; rw [dX] at h; have := List.length_pos_iff.2 h; rw [aD]; omega) | (intros; rw [aD]; simp only [List.length_cons]; omega) | omega : (0 : Int) ≤ 1 ∧ (1 : Int) ≤ ((S (33 :: t)).size : Int) ∧ ((S (33 :: t)).size : Int) ≤ ((S (33 :: t)).size : Int)) (aC (sX (oO 33 t) (aE4 hE t (by omega)) : SpG g _ _ _ _ _)))
theorem cell_39 (hE : jF g) (t : List UInt8) (hl : t.length < 999999999) :
  SpG g 86 [.c (.bx 0 0)] [(0, y36 (S (39 :: t)))] (y39 ((aJ (39 :: t)).2.1.kind) (S (aJ (39 :: t)).2.1.s) ((aJ (39 :: t)).2.1.dn) ((aJ (39 :: t)).2.1.ds) ((aJ (39 :: t)).2.1.n) ((aJ (39 :: t)).1)) [(0, y36 (S (aJ (39 :: t)).2.2))] := by
 refine aF 50 Tryz.func86 (by kernel_rfl) fun fr hG => ?_
 refine zC hG [] [1, 0, 1] ((S (39 :: t)).toList == (S []).toList) (⟨[zX 0 0 0, zX 2 100 0, zB 3 false], [(0, y36 (S (39 :: t))), (100, y12)]⟩) aA (fun hc1 => ?_) (fun hc1 => ?_)
 (try simp only [d5] at hc1)
 exact absurd hc1 (by simp)
 (try simp only [d5] at hc1)
 refine zC hG [(4, 6, .elem [.i 1])] [1, 0, 1, 1, 1, 1] (false) (⟨[zX 0 0 0, zX 2 100 0, zB 3 false, (5, [], .c (.fn 131 [(0, 0)] []))], [(0, y36 (S (39 :: t))), (100, y12)]⟩) (aB (by first | (intro h; rw [dX] at h; have := List.length_pos_iff.2 h; rw [aD]; omega) | (intros; rw [aD]; simp only [List.length_cons]; omega) | omega : (0 : Int) ≤ 0 ∧ 0 < ((S (39 :: t)).size : Int)) (aC (show (byteAt (S (39 :: t)) 0 : Int) = 39 from (gH 39 t)))) (fun hc2 => absurd hc2 (by decide)) (fun _ => ?_)
 exact zr hG [(8, 1, .callG (.tup [(true, [cI (if (tqM (t.length + 1) [] t).1 then 1 else 0), cS (S (tqM (t.length + 1) [] t).2.1), cI 0, cI 0, cI 0, cN, cN]), (false, [cB ((tqM (t.length + 1) [] t).1)])]) [0] [(0, y36 (S (tqM (t.length + 1) [] t).2.2))])] [] (aB (by first | (intro h; rw [dX] at h; have := List.length_pos_iff.2 h; rw [aD]; omega) | (intros; rw [aD]; simp only [List.length_cons]; omega) | omega : (0 : Int) ≤ 1 ∧ (1 : Int) ≤ ((S (39 :: t)).size : Int) ∧ ((S (39 :: t)).size : Int) ≤ ((S (39 :: t)).size : Int)) (aC (sX (oO 39 t) (aJV t (by omega)) : SpG g _ _ _ _ _)))
theorem cell_35 (hE : jF g) (t : List UInt8) (hl : t.length < 999999999) :
  SpG g 86 [.c (.bx 0 0)] [(0, y36 (S (35 :: t)))] (y39 ((aJ (35 :: t)).2.1.kind) (S (aJ (35 :: t)).2.1.s) ((aJ (35 :: t)).2.1.dn) ((aJ (35 :: t)).2.1.ds) ((aJ (35 :: t)).2.1.n) ((aJ (35 :: t)).1)) [(0, y36 (S (aJ (35 :: t)).2.2))] := by
 refine aF 50 Tryz.func86 (by kernel_rfl) fun fr hG => ?_
 refine zC hG [] [1, 0, 1] ((S (35 :: t)).toList == (S []).toList) (⟨[zX 0 0 0, zX 2 100 0, zB 3 false], [(0, y36 (S (35 :: t))), (100, y12)]⟩) aA (fun hc1 => ?_) (fun hc1 => ?_)
 (try simp only [d5] at hc1)
 exact absurd hc1 (by simp)
 (try simp only [d5] at hc1)
 refine zC hG [(4, 6, .elem [.i 2])] [1, 0, 1, 1, 1, 1] (false) (⟨[zX 0 0 0, zX 2 100 0, zB 3 false, (5, [], .c (.fn 132 [(0, 0)] []))], [(0, y36 (S (35 :: t))), (100, y12)]⟩) (aB (by first | (intro h; rw [dX] at h; have := List.length_pos_iff.2 h; rw [aD]; omega) | (intros; rw [aD]; simp only [List.length_cons]; omega) | omega : (0 : Int) ≤ 0 ∧ 0 < ((S (35 :: t)).size : Int)) (aC (show (byteAt (S (35 :: t)) 0 : Int) = 35 from (gH 35 t)))) (fun hc2 => absurd hc2 (by decide)) (fun _ => ?_)
 exact zr hG [(8, 1, .callG (.tup [(true, [cI 2, cS (S []), cI (iY (t.takeWhile aL)), cI (iX (t.takeWhile aL)), cI 0, cN, cN]), (false, [cB (gG (t.takeWhile aL))])]) [0] [(0, y36 (S (t.dropWhile aL)))])] [] (aB (by first | (intro h; rw [dX] at h; have := List.length_pos_iff.2 h; rw [aD]; omega) | (intros; rw [aD]; simp only [List.length_cons]; omega) | omega : (0 : Int) ≤ 1 ∧ (1 : Int) ≤ ((S (35 :: t)).size : Int) ∧ ((S (35 :: t)).size : Int) ≤ ((S (35 :: t)).size : Int)) (aC (sX (oO 35 t) (aEN t (by omega)) : SpG g _ _ _ _ _)))
theorem cell_64 (hE : jF g) (t : List UInt8) (hl : t.length < 999999999) :
  SpG g 86 [.c (.bx 0 0)] [(0, y36 (S (64 :: t)))] (y39 ((aJ (64 :: t)).2.1.kind) (S (aJ (64 :: t)).2.1.s) ((aJ (64 :: t)).2.1.dn) ((aJ (64 :: t)).2.1.ds) ((aJ (64 :: t)).2.1.n) ((aJ (64 :: t)).1)) [(0, y36 (S (aJ (64 :: t)).2.2))] := by
 refine aF 50 Tryz.func86 (by kernel_rfl) fun fr hG => ?_
 refine zC hG [] [1, 0, 1] ((S (64 :: t)).toList == (S []).toList) (⟨[zX 0 0 0, zX 2 100 0, zB 3 false], [(0, y36 (S (64 :: t))), (100, y12)]⟩) aA (fun hc1 => ?_) (fun hc1 => ?_)
 (try simp only [d5] at hc1)
 exact absurd hc1 (by simp)
 (try simp only [d5] at hc1)
 refine zC hG [(4, 6, .elem [.i 3])] [1, 0, 1, 1, 1, 1] (false) (⟨[zX 0 0 0, zX 2 100 0, zB 3 false, (5, [], .c (.fn 133 [(0, 0)] []))], [(0, y36 (S (64 :: t))), (100, y12)]⟩) (aB (by first | (intro h; rw [dX] at h; have := List.length_pos_iff.2 h; rw [aD]; omega) | (intros; rw [aD]; simp only [List.length_cons]; omega) | omega : (0 : Int) ≤ 0 ∧ 0 < ((S (64 :: t)).size : Int)) (aC (show (byteAt (S (64 :: t)) 0 : Int) = 64 from (gH 64 t)))) (fun hc2 => absurd hc2 (by decide)) (fun _ => ?_)
 exact zr hG [(8, 1, .callG (.tup [(true, [cI 3, cS (S []), cI 0, cI 0, cI (fB (t.takeWhile aL)), cN, cN]), (false, [cB (eK (t.takeWhile aL))])]) [0] [(0, y36 (S (t.dropWhile aL)))])] [] (aB (by first | (intro h; rw [dX] at h; have := List.length_pos_iff.2 h; rw [aD]; omega) | (intros; rw [aD]; simp only [List.length_cons]; omega) | omega : (0 : Int) ≤ 1 ∧ (1 : Int) ≤ ((S (64 :: t)).size : Int) ∧ ((S (64 :: t)).size : Int) ≤ ((S (64 :: t)).size : Int)) (aC (sX (oO 64 t) (date_ok t (by omega)) : SpG g _ _ _ _ _)))
theorem cell_63 (hE : jF g) (t : List UInt8) (hl : t.length < 999999999) :
  SpG g 86 [.c (.bx 0 0)] [(0, y36 (S (63 :: t)))] (y39 ((aJ (63 :: t)).2.1.kind) (S (aJ (63 :: t)).2.1.s) ((aJ (63 :: t)).2.1.dn) ((aJ (63 :: t)).2.1.ds) ((aJ (63 :: t)).2.1.n) ((aJ (63 :: t)).1)) [(0, y36 (S (aJ (63 :: t)).2.2))] := by
 refine aF 50 Tryz.func86 (by kernel_rfl) fun fr hG => ?_
 refine zC hG [] [1, 0, 1] ((S (63 :: t)).toList == (S []).toList) (⟨[zX 0 0 0, zX 2 100 0, zB 3 false], [(0, y36 (S (63 :: t))), (100, y12)]⟩) aA (fun hc1 => ?_) (fun hc1 => ?_)
 (try simp only [d5] at hc1)
 exact absurd hc1 (by simp)
 (try simp only [d5] at hc1)
 refine zC hG [(4, 6, .elem [.i 4])] [1, 0, 1, 1, 1, 1] (false) (⟨[zX 0 0 0, zX 2 100 0, zB 3 false, (5, [], .c (.fn 134 [(0, 0)] []))], [(0, y36 (S (63 :: t))), (100, y12)]⟩) (aB (by first | (intro h; rw [dX] at h; have := List.length_pos_iff.2 h; rw [aD]; omega) | (intros; rw [aD]; simp only [List.length_cons]; omega) | omega : (0 : Int) ≤ 0 ∧ 0 < ((S (63 :: t)).size : Int)) (aC (show (byteAt (S (63 :: t)) 0 : Int) = 63 from (gH 63 t)))) (fun hc2 => absurd hc2 (by decide)) (fun _ => ?_)
 exact zr hG [(8, 1, .callG (y37 (Lib.index [48, 49] (t.takeWhile aL)) (decide ((t.takeWhile aL).length = 1))) [0] [(0, y36 (S (t.dropWhile aL)))])] [] (aB (by first | (intro h; rw [dX] at h; have := List.length_pos_iff.2 h; rw [aD]; omega) | (intros; rw [aD]; simp only [List.length_cons]; omega) | omega : (0 : Int) ≤ 1 ∧ (1 : Int) ≤ ((S (63 :: t)).size : Int) ∧ ((S (63 :: t)).size : Int) ≤ ((S (63 :: t)).size : Int)) (aC (sX (oO 63 t) (aNR t (by omega)) : SpG g _ _ _ _ _)))
theorem aI7 (x : UInt8) (t : List UInt8) (h : ¬ x = 33 ∧ ¬ x = 39 ∧ ¬ x = 35 ∧ ¬ x = 64 ∧ ¬ x = 63) :
  SpG g 86 [.c (.bx 0 0)] [(0, y36 (S (x :: t)))] (y39 ((aJ (x :: t)).2.1.kind) (S (aJ (x :: t)).2.1.s) ((aJ (x :: t)).2.1.dn) ((aJ (x :: t)).2.1.ds) ((aJ (x :: t)).2.1.n) ((aJ (x :: t)).1)) [(0, y36 (S (aJ (x :: t)).2.2))] := by
 refine aF 50 Tryz.func86 (by kernel_rfl) fun fr hG => ?_
 refine zC hG [] [1, 0, 1] ((S (x :: t)).toList == (S []).toList) (⟨[zX 0 0 0, zX 2 100 0, zB 3 false], [(0, y36 (S (x :: t))), (100, y12)]⟩) aA (fun hc1 => ?_) (fun hc1 => ?_)
 (try simp only [d5] at hc1)
 exact absurd hc1 (by simp)
 (try simp only [d5] at hc1)
 refine zC hG [(4, 6, .elem [])] [1, 0, 1, 1, 1, 1] (true) (⟨[zX 0 0 0, zX 2 100 0, zB 3 false, (5, [], .c (.d (.v (.nilFunc))))], [(0, y36 (S (x :: t))), (100, y12)]⟩) (aB (by first | (intro h; rw [dX] at h; have := List.length_pos_iff.2 h; rw [aD]; omega) | (intros; rw [aD]; simp only [List.length_cons]; omega) | omega : (0 : Int) ≤ 0 ∧ 0 < ((S (x :: t)).size : Int)) (aC (no_key (n := byteAt (S (x :: t)) 0) (a := .fn 130 [(0, 0)] []) (b := .fn 131 [(0, 0)] []) (c := .fn 132 [(0, 0)] []) (d := .fn 133 [(0, 0)] []) (e := .fn 134 [(0, 0)] []) (aID h)))) (fun _ => ?_) (fun hc2 => absurd hc2 (by decide))
 refine zR hG [] [] (y38) [(0, y36 (S (x :: t)))] aA ?_ ?_
 rw [uZ h]; rfl
 rw [uZ h]
theorem aNK  :
  SpG g 86 [.c (.bx 0 0)] [(0, .box 90 [cS (S [])])] (y39 ((aJ []).2.1.kind) (S (aJ []).2.1.s) ((aJ []).2.1.dn) ((aJ []).2.1.ds) ((aJ []).2.1.n) ((aJ []).1)) [(0, y36 (S (aJ []).2.2))] := by
 refine aF 50 Tryz.func86 (by kernel_rfl) fun fr hG => ?_
 refine zC hG [] [1, 0, 1] (true) (⟨[zX 0 0 0, zX 2 100 0, zB 3 false], [(0, .box 90 [cS (S [])]), (100, y12)]⟩) aA (fun _ => ?_) (fun hc1 => absurd hc1 (by decide))
 exact zr hG [] [] aA
abbrev y40 (a0 : Cl) (a1 : Bool) : SV := .tup [(true, (zW a0)), (false, [cB a1])]
theorem aAD (hE : jF g) (l : List UInt8) (hl : l.length < 1000000000) : SpG g 86 [.c (.bx 0 0)] [(0, .box 90 [cS (S l)])] (y40 ((aJ l).2.1) ((aJ l).1)) [(0, y36 (S (aJ l).2.2))] := by
 have h : SpG g 86 [.c (.bx 0 0)] [(0, .box 90 [cS (S l)])] (y39 ((aJ l).2.1.kind) (S (aJ l).2.1.s) ((aJ l).2.1.dn) ((aJ l).2.1.ds) ((aJ l).2.1.n) ((aJ l).1)) [(0, y36 (S (aJ l).2.2))] := by
  cases l with
  | nil => exact aNK
  | cons x t =>
   have ht : t.length < 999999999 := by rw [List.length_cons] at hl; omega
   by_cases h1 : x = 33
   subst h1; exact cell_33 hE t ht
   by_cases h2 : x = 39
   subst h2; exact cell_39 hE t ht
   by_cases h3 : x = 35
   subst h3; exact cell_35 hE t ht
   by_cases h4 : x = 64
   subst h4; exact cell_64 hE t ht
   by_cases h5 : x = 63
   subst h5; exact cell_63 hE t ht
   exact aI7 x t ⟨h1, h2, h3, h4, h5⟩
 exact gI [[none, none, none, none, none, some 1, some 1], []] h
def zq36 := And.intro @List.length_append.{0} (And.intro @List.length_cons.{0} (And.intro @List.length_map.{0, 0} (And.intro @List.length_nil.{0} (And.intro @Go.Eng.inR.eq_1 (@rowD.eq_1)))))
abbrev y41 : SV := .tup [(false, [cN]), (false, [cB false])]
abbrev y42 (a0 : List (List D)) : SV := .tup [(false, [cM 7 a0]), (false, [cB true])]
theorem row_ (hE : jF g) (n : Nat) (l : List UInt8) (hl : l.length < 1000000000) (hn : n ≤ 1000000000) :
  SpG g 129 [.c (.bx 0 0), .c (cI (n : Int))] [(0, .box 90 [cS (S l)])] (if (bM n true [] l).1 = true then .tup [(false, [cM 7 (rowD (bM n true [] l).2.1)]), (false, [cB true])] else y41) [(0, y36 (S (bM n true [] l).2.2))] := by
 refine aF 36 Tryz.func129 (by kernel_rfl) fun fr hG => ?_
 refine q6 hG cY [] [0, 1, 0, 1, 1] ((fun (zz : Nat × List Cl × List UInt8 × List (List D)) => match zz with | (0, acc, r, es) => ⟨[zX 0 0 0, zN 4, zB 5 false, zY 6 201 0, zI 12 (n : Int), zI 13 0], [(0, .box 90 [cS (S r)]), (201, .arr 0 30 7 (es))]⟩ | (k + 1, acc, r, es) => ⟨[zX 0 0 0, zN 4, zB 5 false, zY 6 201 0, zI 12 (n : Int), zI 13 ((k + 1 : Nat) : Int)], [(0, .box 90 [cS (S r)]), (201, .arr 0 30 7 (es))]⟩) (0, [], l, [])) _ (by kernel_rfl) (aC (by intros; (try simp only [zq36] at *); omega : (0 : Int) ≤ (n : Int) ∧ ((96 : Nat) : Int) * (n : Int) ≤ 281474976710656 ∧ (n : Int) ≤ 9223372036854775807)) ?_
 refine aCC (σ := Nat × List Cl × List UInt8 × List (List D)) (fun (zz : Nat × List Cl × List UInt8 × List (List D)) => match zz with | (k, acc, r, es) => n - k) (fun (zz : Nat × List Cl × List UInt8 × List (List D)) => match zz with | (0, acc, r, es) => ⟨[zX 0 0 0, zN 4, zB 5 false, zY 6 201 0, zI 12 (n : Int), zI 13 0], [(0, .box 90 [cS (S r)]), (201, .arr 0 30 7 (es))]⟩ | (k + 1, acc, r, es) => ⟨[zX 0 0 0, zN 4, zB 5 false, zY 6 201 0, zI 12 (n : Int), zI 13 ((k + 1 : Nat) : Int)], [(0, .box 90 [cS (S r)]), (201, .arr 0 30 7 (es))]⟩) (fun (zz : Nat × List Cl × List UInt8 × List (List D)) => match zz with | (k, acc, r, es) => k ≤ n ∧ bM n true [] l = bM (n - k) (k == 0) acc r ∧ r.length ≤ l.length ∧ es = rowD acc ∧ acc.length = k) (0, [], l, []) (by kernel_rfl) ?_ ?_
 exact ⟨Nat.zero_le _, rfl, Nat.le_refl _, rfl, rfl⟩
 rintro ⟨k, acc, r, es⟩ ⟨hk, hm, hr, hes, ha⟩
 have hel : es.length = acc.length := by rw [hes, rowD, List.length_map]
 rcases k with _ | k <;> (try dsimp only at hk hm hr ha)
 skip
 refine zp hG [] [0, 1] ((0 : Int) < (n : Int)) aA (fun hc2 => ?_) (fun hc2 => ?_)
 skip
 refine zc hG [(5, 4, .dead (.c (cB false)))] [1, 0, 1, 0, 0, 1, 1] (false) (aC (show ¬ (false = true ∧ True) from (fun h => absurd h.1 (by decide)))) (fun hc3 => absurd hc3 (by decide)) (fun _ => ?_)
 refine zC hG [(7, 1, .callG (y40 ((aJ r).2.1) ((aJ r).1)) [0] [(0, y36 (S (aJ r).2.2))])] [1, 0, 1, 1, 1, 0, 0, 1, 1] (!((aJ r).1)) (⟨[zX 0 0 0, zN 4, zB 5 false, zY 6 201 0, zX 8 805 0, zI 12 (n : Int), zI 13 0], [(0, y36 (S (aJ r).2.2)), (201, .arr 0 30 7 (es)), (805, .box 30 (zW ((aJ r).2.1)))]⟩) (aC (aAD hE r (by have := cJ 44 r; omega) : SpG g _ _ _ _ _)) (fun hc4 => ?_) (fun hc4 => ?_)
 (try simp only [blS] at hc4)
 refine zE hG [] .ret (⟨[zN 4, zB 5 false, zY 6 201 0], [(0, y36 (S (aJ r).2.2)), (201, .arr 0 30 7 (es))]⟩) aA rfl ?_
 refine zR hG [] [] (y41) [(0, y36 (S (aJ r).2.2))] aA ?_ ?_
 have e : (bM n true [] l) = (false, [], (aJ r).2.2) := by rw [hm, Nat.sub_zero]; exact (n2 (by omega)).trans (if_neg (by simpa using hc4))
 rw [e]; rfl
 have e : (bM n true [] l) = (false, [], (aJ r).2.2) := by rw [hm, Nat.sub_zero]; exact (n2 (by omega)).trans (if_neg (by simpa using hc4))
 rw [e]
 (try simp only [blS] at hc4)
 refine zD hG [] (1, acc ++ [(aJ r).2.1], (aJ r).2.2, es ++ [[.i (aJ r).2.1.kind, .s (S (aJ r).2.1.s), .i (aJ r).2.1.dn, .i (aJ r).2.1.ds, .i (aJ r).2.1.n, .sl 1 [], .sl 1 []]]) (aB (by intros; (try simp only [zq36] at *); omega : ((es).length + (([[.i (((aJ r).2.1).kind), .s (S ((aJ r).2.1).s), .i (((aJ r).2.1).dn), .i (((aJ r).2.1).ds), .i (((aJ r).2.1).n), .sl 1 ([]), .sl 1 ([])]] : List (List D))).length) * (96 + 1) ≤ 140737488355328) (aC (by unfold inR; decide : inR (0 + 1)))) ?_ ?_
 (try dsimp only); omega
 refine ⟨by omega, ?_, by have := nK r; omega, mW _ hes, by simp only [dG]; omega⟩
 rw [hm, Nat.sub_zero]
 exact (n2 (by omega)).trans (if_pos (by simpa using hc4))
 skip
 refine zE hG [] (.exit 0) (⟨[zN 4, zB 5 false, zY 6 201 0], [(0, .box 90 [cS (S r)]), (201, .arr 0 30 7 (es))]⟩) aA rfl ?_
 refine zR hG [] [] (y42 (es)) [(0, .box 90 [cS (S r)])] aA ?_ ?_
 have e : (bM n true [] l) = (true, acc, r) := by rw [hm, oW (by omega)]
 rw [e]; rw [hes]; rfl
 have e : (bM n true [] l) = (true, acc, r) := by rw [hm, oW (by omega)]
 rw [e]
 skip
 refine zp hG [] [0, 1] ((((k + 1 : Nat) : Int) : Int) < (n : Int)) aA (fun hc5 => ?_) (fun hc5 => ?_)
 skip
 refine zC hG [(5, 4, .callG (.c (cB (bJ 44 r))) [0] [(0, y36 (S (aG 44 r)))])] [1, 0, 1, 0, 0, 1, 1] ((decide ((((k + 1 : Nat) : Int) : Int) > 0)) && (!(bJ 44 r))) (⟨[zX 0 0 0, zN 4, zB 5 false, zY 6 201 0, zI 12 (n : Int), zI 13 ((k + 1 : Nat) : Int)], [(0, y36 (S (aG 44 r))), (201, .arr 0 30 7 (es))]⟩) (aB (show (decide ((((k + 1 : Nat) : Int) : Int) > 0)) = true ∧ True from ⟨by simp only [decide_eq_true_eq]; omega, trivial⟩) (aC (fun (hg1 : (decide ((((k + 1 : Nat) : Int) : Int) > 0)) = true) => (hZ r 44 : SpG g _ _ _ _ _)))) (fun hc6 => ?_) (fun hc6 => ?_)
 (try simp only [blS] at hc6)
 refine zE hG [] .ret (⟨[zN 4, zB 5 false, zY 6 201 0], [(0, y36 (S (aG 44 r))), (201, .arr 0 30 7 (es))]⟩) aA rfl ?_
 refine zR hG [] [] (y41) [(0, y36 (S (aG 44 r)))] aA ?_ ?_
 have e : (bM n true [] l) = (false, [], r) := by rw [hm]; exact (jU (by omega)).trans (if_neg (by simpa using hc6))
 rw [e]; rfl
 have e : (bM n true [] l) = (false, [], r) := by rw [hm]; exact (jU (by omega)).trans (if_neg (by simpa using hc6))
 have e2 := fL (c := 44) (l := r) (by simpa using hc6)
 (try rw [e2])
 rw [e]
 (try simp only [blS] at hc6)
 refine zC hG [(7, 1, .callG (y40 ((aJ (aG 44 r)).2.1) ((aJ (aG 44 r)).1)) [0] [(0, y36 (S (aJ (aG 44 r)).2.2))])] [1, 0, 1, 1, 1, 0, 0, 1, 1] (!((aJ (aG 44 r)).1)) (⟨[zX 0 0 0, zN 4, zB 5 false, zY 6 201 0, zX 8 805 0, zI 12 (n : Int), zI 13 ((k + 1 : Nat) : Int)], [(0, y36 (S (aJ (aG 44 r)).2.2)), (201, .arr 0 30 7 (es)), (805, .box 30 (zW ((aJ (aG 44 r)).2.1)))]⟩) (aC (aAD hE (aG 44 r) (by have := cJ 44 r; omega) : SpG g _ _ _ _ _)) (fun hc7 => ?_) (fun hc7 => ?_)
 (try simp only [blS] at hc7)
 refine zE hG [] .ret (⟨[zN 4, zB 5 false, zY 6 201 0], [(0, y36 (S (aJ (aG 44 r)).2.2)), (201, .arr 0 30 7 (es))]⟩) aA rfl ?_
 refine zR hG [] [] (y41) [(0, y36 (S (aJ (aG 44 r)).2.2))] aA ?_ ?_
 have e : (bM n true [] l) = (false, [], (aJ (aG 44 r)).2.2) := by rw [hm]; exact (jU (by omega)).trans ((if_pos (by simpa using hc6)).trans (if_neg (by simpa using hc7)))
 rw [e]; rfl
 have e : (bM n true [] l) = (false, [], (aJ (aG 44 r)).2.2) := by rw [hm]; exact (jU (by omega)).trans ((if_pos (by simpa using hc6)).trans (if_neg (by simpa using hc7)))
 rw [e]
 (try simp only [blS] at hc7)
 refine zD hG [] (k + 1 + 1, acc ++ [(aJ (aG 44 r)).2.1], (aJ (aG 44 r)).2.2, es ++ [[.i (aJ (aG 44 r)).2.1.kind, .s (S (aJ (aG 44 r)).2.1.s), .i (aJ (aG 44 r)).2.1.dn, .i (aJ (aG 44 r)).2.1.ds, .i (aJ (aG 44 r)).2.1.n, .sl 1 [], .sl 1 []]]) (aB (by intros; (try simp only [zq36] at *); omega : ((es).length + (([[.i (((aJ (aG 44 r)).2.1).kind), .s (S ((aJ (aG 44 r)).2.1).s), .i (((aJ (aG 44 r)).2.1).dn), .i (((aJ (aG 44 r)).2.1).ds), .i (((aJ (aG 44 r)).2.1).n), .sl 1 ([]), .sl 1 ([])]] : List (List D))).length) * (96 + 1) ≤ 140737488355328) (aC (by intros; (try simp only [zq36] at *); omega : inR (((k + 1 : Nat) : Int) + 1)))) ?_ ?_
 (try dsimp only); omega
 refine ⟨by omega, ?_, by have := nK (aG 44 r); have := cJ 44 r; omega, mW _ hes, by simp only [dG]; omega⟩
 rw [hm]
 exact (jU (by omega)).trans ((if_pos (by simpa using hc6)).trans (if_pos (by simpa using hc7)))
 skip
 refine zE hG [] (.exit 0) (⟨[zN 4, zB 5 false, zY 6 201 0], [(0, .box 90 [cS (S r)]), (201, .arr 0 30 7 (es))]⟩) aA rfl ?_
 refine zR hG [] [] (y42 (es)) [(0, .box 90 [cS (S r)])] aA ?_ ?_
 have e : (bM n true [] l) = (true, acc, r) := by rw [hm, oW (by omega)]
 rw [e]; rw [hes]; rfl
 have e : (bM n true [] l) = (true, acc, r) := by rw [hm, oW (by omega)]
 rw [e]
abbrev y43 (a0 : List (List D)) (a1 : Bool) : SV := .tup [(false, [cM 7 a0]), (false, [cB a1])]
theorem aKC (hE : jF g) (n : Nat) (l : List UInt8) (hl : l.length < 1000000000) (hn : n ≤ 1000000000) : SpG g 129 [.c (.bx 0 0), .c (cI (n : Int))] [(0, .box 90 [cS (S l)])] (y43 (rowD ((bM n true [] l).2.1)) ((bM n true [] l).1)) [(0, y36 (S (bM n true [] l).2.2))] := by
 have h := row_ hE n l hl hn
 cases hb : (bM n true [] l).1 with
 | true =>
  rw [if_pos hb] at h; exact h
 | false =>
  rw [if_neg (by rw [hb]; decide)] at h
  rw [rowA_no hb]
  exact gI [[some 7], []] h
end Go.Proofs.YtmpgfchkkemngaaGreatDoor
namespace Go.Proofs.YtmpgfchkkemngaaGreatDoor
open Go.RowKit Go.V
open Go.Eng (inR byteAt u8 bH)
def qU (s : List UInt8) : Nat → Int
 | 0 => -1
 | k + 1 => if dec2 (k : Int) = s then (k : Int) else qU s k
def kK : List UInt8 → List UInt8
 | [] => []
 | [_] => []
 | x :: y :: r => if x = 39 then x :: kK r else x :: kK (y :: r)
def Cl.bad : Cl := ⟨-1, [], 0, 0, 0⟩
noncomputable def aU (x : UInt8) (s : List UInt8) : Cl :=
 if x = 33 then ⟨0, [], 0, 0, qU s 100⟩
 else if x = 63 then ⟨4, [], 0, 0, qU s 100⟩
 else if x = 35 then (if gG s = true then ⟨2, [], iY s, iX s, 0⟩ else Cl.bad)
 else if x = 64 then (if eK s = true then ⟨3, [], 0, 0, fB s⟩ else Cl.bad)
 else if x = 39 then ⟨1, kK s, 0, 0, 0⟩
 else Cl.bad
def dA (p : List UInt8) : List (List UInt8) := if p = [] then [] else aE p 44
noncomputable def oV (p : List UInt8) : List Cl := (dA p).map fun w => aU (w.headD 0) (w.drop 1)
def nR (p : List UInt8) : Bool := (dA p).all fun w => !(w.isEmpty)
noncomputable def fP (s : List UInt8) : Vl :=
 if mJ s 59 = true ∧ ((aE s 59).drop 1).all nR = true then ⟨5, [], 0, 0, 0, dA ((aE s 59).headD []), ((aE s 59).drop 1).map oV⟩ else Cl.bad.toV
noncomputable def iS : List UInt8 → Vl
 | [] => Vl.z
 | x :: t => if x = 91 then fP (t.take (t.length - 1)) else (aU x t).toV
def fT (sep : UInt8) : List UInt8 → Bool → Int → List UInt8 → List (List UInt8) × Bool
 | [], q, d, cur => ([cur], !q && decide (d = 0))
 | x :: xs, q, d, cur =>
  if x = 39 then fT sep xs (!q) d (cur ++ [x])
  else if q = true then fT sep xs q d (cur ++ [x])
  else if x = 91 then fT sep xs q (d + 1) (cur ++ [x])
  else if x = 93 then fT sep xs q (d - 1) (cur ++ [x])
  else if x = sep ∧ d = 0 then (cur :: (fT sep xs q d []).1, (fT sep xs q d []).2)
  else fT sep xs q d (cur ++ [x])
theorem u8_int {x y : UInt8} : ((x.toNat : Nat) : Int) = ((y.toNat : Nat) : Int) ↔ x = y :=
 ⟨fun h => UInt8.toNat_inj.1 (by omega), fun h => by rw [h]⟩
theorem g8 {x y : UInt8} {n : Int} (h : ((y.toNat : Nat) : Int) = n) : ((x.toNat : Nat) : Int) = n ↔ x = y := by rw [← h]; exact u8_int
theorem aJY {s : List UInt8} {f k : Nat} (hf : f ≤ k) (hk : k < s.length) : sub s f (k + 1) = sub s f k ++ [s[k]] := by
 unfold sub
 rw [List.take_add_one, List.getElem?_eq_getElem hk, Option.toList_some, List.drop_append_of_le_length (by rw [List.length_take]; omega)]
theorem sub_self (s : List UInt8) (k : Nat) : sub s k k = [] := by
 unfold sub; exact List.drop_eq_nil_of_le (by rw [List.length_take]; omega)
theorem aC4 (s : List UInt8) (sep : UInt8) : ∀ k, k ≤ s.length → (gL s (sep.toNat : Int) k).from_ ≤ k ∧ fT sep s false 0 [] = ((gL s (sep.toNat : Int) k).out ++ (fT sep (s.drop k) (gL s (sep.toNat : Int) k).quote (gL s (sep.toNat : Int) k).deep (sub s (gL s (sep.toNat : Int) k).from_ k)).1, (fT sep (s.drop k) (gL s (sep.toNat : Int) k).quote (gL s (sep.toNat : Int) k).deep (sub s (gL s (sep.toNat : Int) k).from_ k)).2)
 | 0, _ => ⟨Nat.le_refl _, by simp [gL, sub]⟩
 | k + 1, hk => by
  obtain ⟨h1, h2⟩ := aC4 s sep k (by omega)
  have hd : s.drop k = s[k] :: s.drop (k + 1) := List.drop_eq_getElem_cons (by omega)
  have hg : s.getD k 0 = s[k] := by simp [show k < s.length by omega]
  have hsn := aJY (s := s) (f := (gL s (sep.toNat : Int) k).from_) h1 (by omega)
  rw [hd, fT] at h2
  rw [gL]
  generalize gL s (sep.toNat : Int) k = c at *
  obtain ⟨out, f, q, d⟩ := c
  simp only at *
  unfold iF
  rw [hg]
  by_cases e1 : s[k] = 39
  rw [if_pos e1] at h2
  rw [if_pos ((g8 (y := 39) (n := 39) rfl).2 e1)]
  exact ⟨by simp only; omega, by simp only; rw [hsn]; exact h2⟩
  rw [if_neg e1] at h2
  rw [if_neg (fun h => e1 ((g8 (y := 39) (n := 39) rfl).1 h))]
  by_cases e2 : q = true
  rw [if_pos e2] at h2
  simp only [if_pos e2]
  exact ⟨by omega, by rw [hsn]; exact h2⟩
  rw [if_neg e2] at h2
  simp only [if_neg e2]
  by_cases e3 : s[k] = 91
  rw [if_pos e3] at h2
  rw [if_pos ((g8 (y := 91) (n := 91) rfl).2 e3)]
  exact ⟨by simp only; omega, by simp only; rw [hsn]; exact h2⟩
  rw [if_neg e3] at h2
  rw [if_neg (fun h => e3 ((g8 (y := 91) (n := 91) rfl).1 h))]
  by_cases e4 : s[k] = 93
  rw [if_pos e4] at h2
  rw [if_pos ((g8 (y := 93) (n := 93) rfl).2 e4)]
  exact ⟨by simp only; omega, by simp only; rw [hsn]; exact h2⟩
  rw [if_neg e4] at h2
  rw [if_neg (fun h => e4 ((g8 (y := 93) (n := 93) rfl).1 h))]
  by_cases e5 : s[k] = sep ∧ d = 0
  rw [if_pos e5] at h2
  rw [if_pos ⟨u8_int.2 e5.1, e5.2⟩]
  exact ⟨Nat.le_refl _, by simp only; rw [sub_self, h2]; simp⟩
  rw [if_neg e5] at h2
  rw [if_neg (fun h => e5 ⟨u8_int.1 h.1, h.2⟩)]
  exact ⟨by simp only; omega, by simp only; rw [hsn]; exact h2⟩
theorem cut_is (s : List UInt8) (sep : UInt8) : aE s (sep.toNat : Int) = (fT sep s false 0 []).1 ∧ mJ s (sep.toNat : Int) = (fT sep s false 0 []).2 := by
 have h := (aC4 s sep s.length (Nat.le_refl _)).2
 rw [List.drop_length, fT] at h
 rw [h]
 exact ⟨rfl, rfl⟩
def Pass (sep : UInt8) (d : Int) (w : List UInt8) : Prop := ∀ xs cur, fT sep (w ++ xs) false d cur = fT sep xs false d (cur ++ w)
theorem Pass.nil {sep : UInt8} {d : Int} : Pass sep d [] := fun xs cur => by rw [List.nil_append, List.append_nil]
theorem Pass.app {sep : UInt8} {d : Int} {v w : List UInt8} (hv : Pass sep d v) (hw : Pass sep d w) : Pass sep d (v ++ w) := fun xs cur => by
 rw [List.append_assoc, hv, hw, List.append_assoc]
theorem Pass.one {sep : UInt8} {d : Int} {x : UInt8} (h : ¬ x = 39 ∧ ¬ x = 91 ∧ ¬ x = 93) (hs : ¬ (x = sep ∧ d = 0)) : Pass sep d [x] := fun xs cur => by
 rw [List.singleton_append, fT, if_neg h.1, if_neg (by decide), if_neg h.2.1, if_neg h.2.2, if_neg hs]
theorem Pass.all {sep : UInt8} {d : Int} : ∀ {w : List UInt8}, (∀ x, x ∈ w → (¬ x = 39 ∧ ¬ x = 91 ∧ ¬ x = 93) ∧ ¬ (x = sep ∧ d = 0)) → Pass sep d w
 | [], _ => Pass.nil
 | x :: w, h => Pass.app (v := [x]) (Pass.one (h x (by simp)).1 (h x (by simp)).2) (Pass.all fun y hy => h y (List.mem_cons_of_mem _ hy))
theorem aKU (sep : UInt8) (d : Int) : ∀ (s xs cur : List UInt8), fT sep (bU s ++ xs) true d cur = fT sep xs true d (cur ++ bU s)
 | [], xs, cur => by simp [bU]
 | c :: s, xs, cur => by
  have ih := aKU sep d s xs
  rw [show bU (c :: s) = mE c ++ bU s by simp [bU], mE]
  by_cases h : c = 39
  subst h
  rw [if_pos rfl, List.append_assoc]
  show fT sep (39 :: 39 :: (bU s ++ xs)) true d cur = _
  rw [fT, if_pos rfl, fT, if_pos rfl]
  show fT sep (bU s ++ xs) true d _ = _
  rw [ih]; simp
  rw [if_neg h, List.append_assoc, List.singleton_append, fT, if_neg h, if_pos rfl, ih]; simp
theorem Pass.quo (sep : UInt8) (d : Int) (s : List UInt8) : Pass sep d (n6 s) := fun xs cur => by
 rw [show n6 s ++ xs = 39 :: (bU s ++ (39 :: xs)) by simp [n6], fT, if_pos rfl]
 show fT sep (bU s ++ (39 :: xs)) true d _ = _
 rw [aKU, fT, if_pos rfl]
 show fT sep xs false d _ = _
 simp [n6]
theorem Pass.flat {sep : UInt8} {d : Int} {s : UInt8} (hs : Pass sep d [s]) : ∀ {l : List (List UInt8)}, (∀ w, w ∈ l → Pass sep d w) → Pass sep d (l.flatMap fun y => s :: y)
 | [], _ => Pass.nil
 | x :: l, h => by
  rw [List.flatMap_cons]
  exact Pass.app (Pass.app (v := [s]) hs (h x (by simp))) (Pass.flat hs fun w hw => h w (List.mem_cons_of_mem _ hw))
theorem Pass.join {sep : UInt8} {d : Int} {s : UInt8} (hs : Pass sep d [s]) {l : List (List UInt8)} (h : ∀ w, w ∈ l → Pass sep d w) : Pass sep d (joinL [s] l) := by
 cases l with
 | nil => exact Pass.nil
 | cons x l => rw [eI]; exact Pass.app (h x (by simp)) (Pass.flat hs fun w hw => h w (List.mem_cons_of_mem _ hw))
theorem xI {sep : UInt8} (hs : ¬ sep = 39 ∧ ¬ sep = 91 ∧ ¬ sep = 93) : ∀ (l : List (List UInt8)) (x cur : List UInt8), (∀ w, w ∈ x :: l → Pass sep 0 w) → fT sep (x ++ l.flatMap fun y => sep :: y) false 0 cur = ((cur ++ x) :: l, true)
 | [], x, cur, h => by rw [List.flatMap_nil, h x (by simp), fT]; rfl
 | y :: l, x, cur, h => by
  have ih := xI hs l y [] fun w hw => h w (List.mem_cons_of_mem _ hw)
  rw [h x (by simp), List.flatMap_cons, List.cons_append, fT, if_neg hs.1, if_neg (by decide), if_neg hs.2.1, if_neg hs.2.2, if_pos ⟨rfl, rfl⟩, ih]; rfl
theorem aC3 {sep : UInt8} (hs : ¬ sep = 39 ∧ ¬ sep = 91 ∧ ¬ sep = 93) {l : List (List UInt8)} (hl : l ≠ []) (h : ∀ w, w ∈ l → Pass sep 0 w) : aE (joinL [sep] l) (sep.toNat : Int) = l ∧ mJ (joinL [sep] l) (sep.toNat : Int) = true := by
 obtain ⟨h1, h2⟩ := cut_is (joinL [sep] l) sep
 cases l with
 | nil => exact absurd rfl hl
 | cons x l =>
  rw [eI] at *
  rw [h1, h2, xI hs l x [] h]; exact ⟨rfl, rfl⟩
def plc (c : UInt8) : Bool := !(c == 39 || c == 91 || c == 93 || c == 44 || c == 59 || c == 124)
theorem nD {c : UInt8} (h : bA c = true) : plc c = true := by
 simp only [bA, Bool.and_eq_true, decide_eq_true_eq] at h
 simp only [plc, Bool.not_eq_true', Bool.or_eq_false_iff, beq_eq_false_iff_ne, ne_eq]
 refine ⟨⟨⟨⟨⟨?_, ?_⟩, ?_⟩, ?_⟩, ?_⟩, ?_⟩ <;> rintro rfl <;> simp at h
theorem aM9 {n s : Int} (h : 0 ≤ s) : (bV n s).all plc = true := by
 rw [j8 h, mO]
 have h1 := dW (fun c => nD) (dS (n.natAbs / 10 ^ s.toNat)).2
 have h2 := dW (fun c => nD) (aCB n.natAbs s.toNat)
 have h45 : plc 45 = true := by decide
 have h46 : plc 46 = true := by decide
 split <;> split <;> simp [List.all_append, h1, h2, h45, h46]
theorem z1 {n : Int} (h0 : 0 ≤ n) (h1 : n ≤ 3652058) : (aS n).all plc = true := by
 obtain ⟨a, b, c, d, e, f⟩ := oM h0 h1
 have vy := dW (fun c => nD) (dI (x := (civ n).1) (k := 4) (by omega) (by omega) (by decide)).2
 have vm := dW (fun c => nD) (dI (x := (civ n).2.1) (k := 2) (by omega) (by omega) (by decide)).2
 have vd := dW (fun c => nD) (dI (x := (civ n).2.2) (k := 2) (by omega) (by omega) (by decide)).2
 have h45 : plc 45 = true := by decide
 unfold aS
 simp [List.all_append, vy, vm, vd, h45]
theorem aC1 {n : Int} (h0 : 0 ≤ n) (h1 : n ≤ 99) : (dec2 n).all plc = true := by
 rw [pM h0 h1]; exact dW (fun c => nD) (dS n.toNat).2
theorem aB4 {l : List UInt8} (h : bZ l = true) : l.all plc = true := by
 have e : bs (S l) = l := by simp [bs, S]
 simp only [sJ, bZ, dK, Bool.and_eq_true, e] at h
 rw [List.all_eq_true] at h ⊢
 intro c hc
 have hh := h.2 c hc
 simp only [plc, Bool.not_eq_true', Bool.or_eq_false_iff, beq_eq_false_iff_ne, ne_eq]
 refine ⟨⟨⟨⟨⟨?_, ?_⟩, ?_⟩, ?_⟩, ?_⟩, ?_⟩ <;> rintro rfl <;> revert hh <;> decide
def aN7 (sep : UInt8) : Prop := sep = 44 ∨ sep = 59 ∨ sep = 124
theorem Pass.plc {sep : UInt8} {d : Int} (hs : aN7 sep) {w : List UInt8} (h : w.all plc = true) : Pass sep d w := by
 refine Pass.all fun x hx => ?_
 have hp := List.all_eq_true.1 h x hx
 simp only [Go.Proofs.YtmpgfchkkemngaaGreatDoor.plc, Bool.not_eq_true', Bool.or_eq_false_iff, beq_eq_false_iff_ne, ne_eq] at hp
 obtain ⟨⟨⟨⟨⟨h1, h2⟩, h3⟩, h4⟩, h5⟩, h6⟩ := hp
 refine ⟨⟨h1, h2, h3⟩, ?_⟩
 rintro ⟨e, _⟩
 rcases hs with rfl | rfl | rfl
 exact h4 e
 exact h5 e
 exact h6 e
theorem Pass.cell {sep : UInt8} {d : Int} (hs : aN7 sep) {c : Cl} (hc : vR c) : Pass sep d (bC c) := by
 obtain ⟨a1, a2, a3, _, a5, a6, a7, a8, a9, a10, _⟩ := eG hc.2
 have hk := hc.1
 obtain ⟨k, s, dn, ds, n⟩ := c
 simp only [Cl.toV] at *
 have ho : ∀ x : UInt8, Go.Proofs.YtmpgfchkkemngaaGreatDoor.plc x = true → Pass sep d [x] := fun x hx => Pass.plc hs (by simp [hx])
 have hk : k = 0 ∨ k = 1 ∨ k = 2 ∨ k = 3 ∨ k = 4 := by omega
 unfold bC gC
 simp only
 rcases hk with rfl | rfl | rfl | rfl | rfl
 have hn := a7 rfl
 rw [if_pos rfl]
 exact Pass.app (v := [33]) (ho 33 (by decide)) (Pass.plc hs (aC1 hn.1 hn.2))
 rw [if_neg (by decide), if_pos rfl]; exact Pass.quo _ _ _
 have hd := fJ (a8 rfl)
 rw [if_neg (by decide), if_neg (by decide), if_pos rfl]
 exact Pass.app (v := [35]) (ho 35 (by decide)) (Pass.plc hs (aM9 hd.1))
 have hn := a9 rfl
 rw [if_neg (by decide), if_neg (by decide), if_neg (by decide), if_pos rfl]
 exact Pass.app (v := [64]) (ho 64 (by decide)) (Pass.plc hs (z1 hn.1 hn.2))
 have hn := a10 rfl
 rw [if_neg (by decide), if_neg (by decide), if_neg (by decide), if_neg (by decide)]
 exact Pass.app (v := [63]) (ho 63 (by decide)) (Pass.plc hs (aC1 (by omega) (by omega)))
theorem xF {n : Int} (h0 : 0 ≤ n) (h1 : n ≤ 99) : qU (dec2 n) 100 = n := by
 have : ∀ k : Nat, k < 100 → qU (dec2 (k : Int)) 100 = (k : Int) := by decide +kernel
 have h := this n.toNat (by omega)
 have e : ((n.toNat : Nat) : Int) = n := by omega
 rw [e] at h; exact h
theorem aFS : ∀ s : List UInt8, kK (bU s ++ [39]) = s
 | [] => rfl
 | c :: s => by
  have ih := aFS s
  rw [show bU (c :: s) = mE c ++ bU s by simp [bU], mE, List.append_assoc]
  by_cases h : c = 39
  subst h
  rw [if_pos rfl]
  show kK (39 :: 39 :: (bU s ++ [39])) = _
  rw [kK, if_pos rfl, ih]
  rw [if_neg h, List.singleton_append]
  cases he : bU s ++ [39] with
  | nil => simp at he
  | cons y r => rw [kK, if_neg h, ← he, ih]
theorem jW {c : Cl} (hc : vR c) : ∃ x t, bC c = x :: t ∧ ¬ x = 91 ∧ aU x t = c := by
 obtain ⟨a1, a2, a3, _, a5, a6, a7, a8, a9, a10, _⟩ := eG hc.2
 have hk := hc.1
 obtain ⟨k, s, dn, ds, n⟩ := c
 simp only [Cl.toV] at *
 have hk : k = 0 ∨ k = 1 ∨ k = 2 ∨ k = 3 ∨ k = 4 := by omega
 unfold bC gC
 simp only
 rcases hk with rfl | rfl | rfl | rfl | rfl
 have hn := a7 rfl
 refine ⟨33, dec2 n, by rw [if_pos rfl], by decide, ?_⟩
 have := a1 (by decide); have := a2 (by decide)
 simp only [aU, if_true, xF hn.1 hn.2]; simp_all
 refine ⟨39, bU s ++ [39], by rw [if_neg (by decide), if_pos rfl]; rfl, by decide, ?_⟩
 have := a2 (by decide); have := a3 (by decide)
 simp only [aU, show ¬ (39 : UInt8) = 33 by decide, show ¬ (39 : UInt8) = 63 by decide, show ¬ (39 : UInt8) = 35 by decide, show ¬ (39 : UInt8) = 64 by decide, if_true, if_false, aFS]; simp_all
 have hb := a8 rfl
 obtain ⟨h1, h2, h3⟩ := mG hb rfl
 refine ⟨35, bV dn ds, by rw [if_neg (by decide), if_neg (by decide), if_pos rfl], by decide, ?_⟩
 have := a1 (by decide); have := a3 (by decide)
 simp only [aU, show ¬ (35 : UInt8) = 33 by decide, show ¬ (35 : UInt8) = 63 by decide, if_true, if_false, h1, h2, h3]; simp_all
 have hn := a9 rfl
 obtain ⟨h1, h2⟩ := nF hn.1 hn.2 rfl
 refine ⟨64, aS n, by rw [if_neg (by decide), if_neg (by decide), if_neg (by decide), if_pos rfl], by decide, ?_⟩
 have := a1 (by decide); have := a2 (by decide)
 simp only [aU, show ¬ (64 : UInt8) = 33 by decide, show ¬ (64 : UInt8) = 63 by decide, show ¬ (64 : UInt8) = 35 by decide, if_true, if_false, h1, h2]; simp_all
 have hn := a10 rfl
 refine ⟨63, dec2 n, by rw [if_neg (by decide), if_neg (by decide), if_neg (by decide), if_neg (by decide)], by decide, ?_⟩
 have := a1 (by decide); have := a2 (by decide)
 simp only [aU, show ¬ (63 : UInt8) = 33 by decide, if_true, if_false, xF (n := n) (by omega) (by omega)]; simp_all
theorem aCE {x : List UInt8} {l : List (List UInt8)} (s : UInt8) (h : x ≠ []) : joinL [s] (x :: l) ≠ [] := by
 rw [eI]; intro e; exact h (List.append_eq_nil_iff.1 e).1
theorem vU {l : List (List UInt8)} (hn : ∀ w, w ∈ l → w ≠ []) (h : ∀ w, w ∈ l → Pass 44 0 w) : dA (joinL [44] l) = l := by
 cases l with
 | nil => rfl
 | cons x l =>
  rw [dA, if_neg (aCE 44 (hn x (by simp)))]
  exact (aC3 (sep := 44) (by decide) (by simp) h).1
theorem aF9 {x : List Cl} (h : ∀ c, c ∈ x → vR c) : oV (joinL [44] (x.map bC)) = x ∧ nR (joinL [44] (x.map bC)) = true := by
 have hw : dA (joinL [44] (x.map bC)) = x.map bC := by
  refine vU (fun w hw => ?_) fun w hw => ?_
  obtain ⟨c, hc, rfl⟩ := List.mem_map.1 hw
  obtain ⟨y, t, e, _⟩ := jW (h c hc)
  rw [e]; simp
  obtain ⟨c, hc, rfl⟩ := List.mem_map.1 hw
  exact Pass.cell (.inl rfl) (h c hc)
 rw [oV, nR, hw]
 constructor
 rw [List.map_map]
 conv => rhs; rw [← List.map_id x]
 refine List.map_congr_left fun c hc => ?_
 obtain ⟨y, t, e, _, hp⟩ := jW (h c hc)
 simp only [Function.comp_apply, e, List.headD_cons, List.drop_succ_cons, List.drop_zero, hp, id]
 rw [List.all_eq_true]
 intro w hw
 obtain ⟨c, hc, rfl⟩ := List.mem_map.1 hw
 obtain ⟨y, t, e, _⟩ := jW (h c hc)
 rw [e]; rfl
theorem aAX (cols : List (List UInt8)) (rows : List (List Cl)) : joinL [44] cols ++ rows.flatMap f4 = joinL [59] (joinL [44] cols :: rows.map fun r => joinL [44] (r.map bC)) := by
 rw [eI, List.flatMap_map]; rfl
theorem aD0 {cols : List (List UInt8)} {rows : List (List Cl)} {sep : UInt8} {d : Int} (hs : aN7 sep) (h44 : ¬ ((44 : UInt8) = sep ∧ d = 0)) (hn : ∀ x, x ∈ cols → bZ x = true) (hr : ∀ r, r ∈ rows → r.length = cols.length ∧ ∀ c, c ∈ r → vR c) : ∀ w, w ∈ joinL [44] cols :: rows.map (fun r => joinL [44] (r.map bC)) → Pass sep d w := by
 have h1 : Pass sep d [44] := Pass.one (by decide) h44
 intro w hw
 rcases List.mem_cons.1 hw with rfl | hw
 exact Pass.join h1 fun w hw => Pass.plc hs (aB4 (hn w hw))
 obtain ⟨r, hr2, rfl⟩ := List.mem_map.1 hw
 refine Pass.join h1 fun w hw => ?_
 obtain ⟨c, hc, rfl⟩ := List.mem_map.1 hw
 exact Pass.cell hs ((hr r hr2).2 c hc)
theorem aHK {v : Vl} (hk : v.kind = 5) (hv : aX v = true) : fP (joinL [44] v.cols ++ v.rows.flatMap f4) = v := by
 obtain ⟨a1, a2, a3, _, _, _, _, _, _, _, a11⟩ := eG hv
 obtain ⟨na, ra⟩ := qZ (a11 hk)
 obtain ⟨h1, h2⟩ := aC3 (sep := 59) (by decide) (List.cons_ne_nil _ _) (aD0 (.inr (.inl rfl)) (by decide) na ra)
 rw [aAX]
 unfold fP
 rw [show ((59 : UInt8).toNat : Int) = 59 from rfl] at h1 h2
 rw [h1, h2]
 have hall : (((joinL [44] v.cols :: v.rows.map fun r => joinL [44] (r.map bC))).drop 1).all nR = true := by
  rw [List.drop_succ_cons, List.drop_zero, List.all_eq_true]
  intro w hw
  obtain ⟨r, hr, rfl⟩ := List.mem_map.1 hw
  exact (aF9 (ra r hr).2).2
 rw [if_pos ⟨rfl, hall⟩, List.drop_succ_cons, List.drop_zero, List.headD_cons, List.map_map]
 have hc : dA (joinL [44] v.cols) = v.cols := by
  refine vU (fun w hw => ?_) fun w hw => Pass.plc (.inl rfl) (aB4 (na w hw))
  obtain ⟨_, c, u, h, _⟩ := oC (na w hw); rw [h]; simp
 have hr : v.rows.map (oV ∘ fun r => joinL [44] (r.map bC)) = v.rows := by
  conv => rhs; rw [← List.map_id v.rows]
  exact List.map_congr_left fun r hr => (aF9 (ra r hr).2).1
 rw [hc, hr]
 obtain ⟨k, s, dn, ds, n, cols, rows⟩ := v
 simp only at a1 a2 a3 hk
 subst hk
 have := a1 (by decide); have := a2 (by decide); have := a3 (by decide)
 simp_all
theorem sV {v : Vl} (hv : aX v = true) : cO v ≠ [] := by
 by_cases hk : v.kind = 5
 have := kM hk hv []
 rw [List.append_nil] at this
 rw [this]; simp
 obtain ⟨_, h2, h3⟩ := o3 hk hv
 obtain ⟨x, t, e, _⟩ := jW h2
 rw [h3, e]; simp
theorem refM_of {v : Vl} (hv : aX v = true) : iS (cO v) = v := by
 by_cases hk : v.kind = 5
 have e := kM hk hv []
 rw [List.append_nil] at e
 have e2 : joinL [44] v.cols ++ (v.rows.flatMap f4 ++ 93 :: []) = (joinL [44] v.cols ++ v.rows.flatMap f4) ++ [93] := by simp
 rw [e, e2, iS, if_pos rfl]
 rw [List.length_append, List.length_singleton, Nat.add_sub_cancel, List.take_left]
 exact aHK hk hv
 obtain ⟨h1, h2, h3⟩ := o3 hk hv
 obtain ⟨x, t, e, hx, hp⟩ := jW h2
 rw [h3, e, iS, if_neg hx, hp, h1]
theorem jV {s : List UInt8} (hs : s ≠ []) : decide (aH (iS s) = s) = bS s ∧ (if aH (iS s) = s then iS s else Vl.z) = bP s := by
 by_cases h : aH (iS s) = s
 have hr : aX (iS s) = true := by
  cases hb : aX (iS s) with
  | true => rfl
  | false => rw [aH, hb] at h; exact absurd h.symm hs
 obtain ⟨h1, h2⟩ := aBP hr h
 rw [h1, h2, if_pos h]; exact ⟨by simp [h], rfl⟩
 have hk : bS s = false := by
  cases hb : bS s with
  | false => rfl
  | true =>
   obtain ⟨h1, h2⟩ := yH hb
   exfalso
   apply h
   have e : cO (bP s) = s := by
    have e0 := h2
    rw [aH, if_pos h1] at e0
    exact e0
   have e2 := refM_of h1
   rw [e] at e2
   rw [e2, h2]
 rw [hk, if_neg h, bP, hk]; exact ⟨by simp [h], rfl⟩
theorem read_nil : bS [] = false ∧ bP [] = Vl.z := by
 have hk : bS [] = false := by
  cases hb : bS [] with
  | false => rfl
  | true =>
   obtain ⟨h1, h2⟩ := yH hb
   rw [aH, if_pos h1] at h2
   exact absurd h2 (sV h1)
 exact ⟨hk, by rw [bP, hk]; rfl⟩
noncomputable def gE : Nat → List Vl → List UInt8 → Bool × List Vl × List UInt8
 | 0, acc, r => (true, acc, r)
 | n + 1, acc, r =>
  if (aI r).1 = true then
   (if bJ 124 (aI r).2.2 = true then gE n (acc ++ [(aI r).2.1]) (aG 124 (aI r).2.2) else (true, acc ++ [(aI r).2.1], (aI r).2.2))
  else (false, [], (aI r).2.2)
theorem oR {v : Vl} (h : aX v = true) : aH v = cO v := by rw [aH, if_pos h]
theorem aAN : ∀ (n : Nat) (v : Vl) (l acc : List Vl), l.length < n → (∀ x, x ∈ v :: l → aX x = true) → gE n acc (aH v ++ (l.map aH).flatMap (fun y => 124 :: y)) = (true, acc ++ v :: l, [])
 | 0, _, _, _, h, _ => absurd h (Nat.not_lt_zero _)
 | n + 1, v, l, acc, h, hx => by
  have hv := hx v (by simp)
  have hm := vY hv (k6 (s := 124) rfl (.inl rfl) (l.map aH))
  rw [List.append_nil] at hm
  rw [oR hv, gE, hm, if_pos rfl]
  cases l with
  | nil =>
   rw [List.map_nil, List.flatMap_nil]
   rfl
  | cons w l =>
   have ih := aAN n w l (acc ++ [v]) (by simp only [List.length_cons] at h; omega) fun x hx2 => hx x (List.mem_cons_of_mem _ hx2)
   have e : ((w :: l).map aH).flatMap (fun y => 124 :: y) = 124 :: (aH w ++ (l.map aH).flatMap (fun y => 124 :: y)) := by simp
   rw [e, (dP 124 _).1, if_pos rfl, (dP 124 _).2, ih]; simp
noncomputable def lK (s : List UInt8) : Bool := decide (s = []) || ((gE 8 [] s).1 && decide (bO (gE 8 [] s).2.1 = s))
noncomputable def n0 (s : List UInt8) : List Vl := if lK s = true ∧ s ≠ [] then (gE 8 [] s).2.1 else []
theorem row_yes {l : List Vl} (hl : l.length ≤ 8) (hr : ∀ v, v ∈ l → aX v = true) (hn : l ≠ []) : lK (bO l) = true ∧ n0 (bO l) = l ∧ bO l ≠ [] := by
 have e : bO l = joinL [124] (l.map aH) := rB hl fun j hj => hr _ (bW hj)
 cases l with
 | nil => exact absurd rfl hn
 | cons v l =>
  have hv := hr v (by simp)
  have hne : bO (v :: l) ≠ [] := by
   rw [e, List.map_cons, oR hv]; exact aCE 124 (sV hv)
  have hm := aAN 8 v l [] (by simp only [List.length_cons] at hl; omega) hr
  rw [List.nil_append] at hm
  have e3 : bO (v :: l) = aH v ++ (l.map aH).flatMap (fun y => 124 :: y) := by rw [e, List.map_cons, eI]
  rw [← e3] at hm
  have hk : lK (bO (v :: l)) = true := by rw [lK, hm]; simp
  exact ⟨hk, by rw [n0, if_pos ⟨hk, hne⟩, hm], hne⟩
theorem row_nil : lK [] = true ∧ n0 [] = [] := ⟨rfl, by rw [n0, if_neg (by rintro ⟨_, h⟩; exact h rfl)]⟩
end Go.Proofs.YtmpgfchkkemngaaGreatDoor
namespace Go.Proofs.YtmpgfchkkemngaaGreatDoor
open Go.RowKit Go.V
open Go.Eng (inR byteAt u8 bH)
variable {g : Gv}
theorem jT {c : UInt8} {l : List UInt8} (h : bJ c l = true) : (aG c l).length + 1 = l.length := by
 cases l with
 | nil => cases h
 | cons x r =>
  have hx : x = c := by simpa [bJ] using h
  simp [aG, hx]
theorem pD {α : Type} (l : List α) (x : α) : (l ++ [x]).length = l.length + 1 := by simp
theorem aM0 {r : List UInt8} (h : (¬ r = [] ∧ ¬ byteAt (S r) 0 = 59) ∧ ¬ byteAt (S r) 0 = 93) : aCT r = false := by
 cases r with
 | nil => exact absurd rfl h.1.1
 | cons x t =>
  rw [gH] at h
  have h1 : ¬ x = 59 := fun e => h.1.2 (by rw [e]; rfl)
  have h2 : ¬ x = 93 := fun e => h.2 (by rw [e]; rfl)
  simp [aCT, h1, h2]
theorem endC_t {r : List UInt8} (h : (r = [] ∨ byteAt (S r) 0 = 59) ∨ byteAt (S r) 0 = 93) : aCT r = true := by
 cases r with
 | nil => rfl
 | cons x t =>
  rw [gH] at h
  have q : ∀ y : UInt8, (x.toNat : Int) = (y.toNat : Int) → x = y := fun y e => UInt8.toNat_inj.1 (by omega)
  rcases h with (h | h) | h
  cases h
  rw [q 59 h]; rfl
  rw [q 93 h]; rfl
theorem oL {m : Nat} {acc : List (List UInt8)} {r : List UInt8} (h : r.length < m) : eE m acc r = (if aCT r = true then (acc, r)
  else if bJ 44 (r.dropWhile aL) = true then eE (m - 1) (acc ++ [r.takeWhile aL]) (aG 44 (r.dropWhile aL))
  else (acc ++ [r.takeWhile aL], r.dropWhile aL)) := by
 cases m with
 | zero => omega
 | succ m => rfl
theorem dY {m k : Nat} {acc : List (List Cl)} {r : List UInt8} (h : r.length < m) : gT m k acc r = (if bJ 59 r = true then
   (if (bM k true [] (aG 59 r)).1 = true then gT (m - 1) k (acc ++ [(bM k true [] (aG 59 r)).2.1]) (bM k true [] (aG 59 r)).2.2 else (false, [], (bM k true [] (aG 59 r)).2.2))
  else (true, acc, r)) := by
 cases m with
 | zero => omega
 | succ m => rfl
theorem aGA (n : Nat) (r : List UInt8) : (bM n true [] r).2.2.length ≤ r.length := (s6 r.length n true [] r (Nat.le_refl _) (fun c hc => by cases hc)).1
noncomputable def pW (l : List UInt8) : Bool := (gT ((eE (l.length + 1) [] l).2.length + 1) (eE (l.length + 1) [] l).1.length [] (eE (l.length + 1) [] l).2).1
theorem fU {l r0 : List UInt8} {C : List (List UInt8)} {q : Bool × List (List Cl) × List UInt8} {k : Nat} (hC : eE (l.length + 1) [] l = (C, r0)) (hk : k = C.length) (hq : gT (r0.length + 1) k [] r0 = q) : pW l = q.1 ∧ d7 l = (if q.1 = true then (bJ 93 q.2.2, ⟨5, [], 0, 0, 0, C, q.2.1⟩, aG 93 q.2.2) else (false, Vl.z, q.2.2)) := by
 subst hk; subst hq
 unfold pW d7
 rw [hC]; exact ⟨rfl, rfl⟩
theorem aHM {l : List UInt8} (h : pW l = false) : (d7 l).1 = false ∧ (d7 l).2.1 = Vl.z := by
 unfold pW at h
 unfold d7
 dsimp only
 rw [h]; exact ⟨rfl, rfl⟩
theorem kN {es : List (List D)} {acc : List (List Cl)} (x : List Cl) (h : es = rowsD acc) : es ++ [[D.sl 7 (rowD x)]] = rowsD (acc ++ [x]) := by
 rw [h]; simp [rowsD, aP]
theorem aF1 {es : List (List D)} {acc : List (List UInt8)} (x : List UInt8) (h : es = strs acc) : es ++ [[D.s (S x)]] = strs (acc ++ [x]) := by rw [h, pZ]
theorem xZ {es : List (List D)} {acc : List Vl} (v : Vl) (h : es = valsD acc) : es ++ [[D.i v.kind, .s (S v.s), .i v.dn, .i v.ds, .i v.n, .sl 1 (strs v.cols), .sl 1 (rowsD v.rows)]] = valsD (acc ++ [v]) := by rw [h]; simp [valsD, VlD]
theorem s5 {es : List (List D)} {acc : List Vl} (h : es = valsD acc) (hf : ∀ v, v ∈ acc → v.fit) : SpG g 20 [.c (cM 7 es)] [] (.c (cS (S (bO acc)))) [] := by subst h; exact nQ acc hf
theorem kH {m : Nat} {acc : List Vl} {r : List UInt8} (h : acc.length < 8) : gE (8 - acc.length) acc r = (if (aI r).1 = true then
   (if bJ 124 (aI r).2.2 = true then gE (8 - (acc.length + 1)) (acc ++ [(aI r).2.1]) (aG 124 (aI r).2.2) else (true, acc ++ [(aI r).2.1], (aI r).2.2))
  else (false, [], (aI r).2.2)) := by
 obtain ⟨m, hm⟩ : ∃ m, 8 - acc.length = m + 1 := ⟨8 - acc.length - 1, by omega⟩
 rw [hm, gE, show 8 - (acc.length + 1) = m by omega]
theorem aCP {acc : List Vl} {v : Vl} (h : ∀ v, v ∈ acc → v.fit) (hv : v.fit) : ∀ x, x ∈ acc ++ [v] → x.fit := by
 intro x hx
 rcases List.mem_append.1 hx with hx | hx
 exact h x hx
 rw [List.mem_singleton] at hx; rw [hx]; exact hv
theorem yC {s : List UInt8} (hs : s ≠ []) (h : (gE 8 [] s).1 = false ∨ ¬ bO (gE 8 [] s).2.1 = s) : lK s = false := by
 unfold lK
 rcases h with h | h <;> simp [hs, h]
theorem aA8 {s : List UInt8} {l : List Vl} {r : List UInt8} (hs : s ≠ []) (h : gE 8 [] s = (true, l, r)) (ht : bO l = s) : lK s = true ∧ n0 s = l := by
 have hk : lK s = true := by unfold lK; rw [h]; simp [ht]
 exact ⟨hk, by rw [n0, if_pos ⟨hk, hs⟩, h]⟩
theorem aBQ {s : List UInt8} (h : bS s = false) : bP s = Vl.z := by rw [bP, h]; rfl
def aJM := And.intro @List.length_append.{0} (And.intro @List.length_cons.{0} (And.intro @List.length_map.{0, 0} (And.intro @List.length_nil.{0} (And.intro @Go.Eng.inR.eq_1 (And.intro @rowsD.eq_1 (@strs.eq_1))))))
abbrev y44 : Ob := .box 30 [cI 5, cS (S []), cI 0, cI 0, cI 0, .ar 9001 0, cN]
abbrev y45 : Ob := .box 30 [cI 5, cS (S []), cI 0, cI 0, cI 0, .ar 9001 0, .ar 9002 0]
theorem table_ (hE : jF g) (l : List UInt8) (hl : l.length < 900000000) :
  SpG g 85 [.c (.bx 0 0)] [(0, .box 90 [cS (S l)])] (if pW l = true then .tup [(true, (zV ((d7 l).2.1))), (false, [cB ((d7 l).1)])] else y38) [(0, y36 (S (d7 l).2.2))] := by
 refine aF 61 Tryz.func85 (by kernel_rfl) fun fr hG => ?_
 refine zA hG [] [0, 0, 1, 1] (⟨[zX 0 0 0, zX 2 100 0, zB 3 false, zX 4 201 0], [(0, .box 90 [cS (S l)]), (100, y12), (201, y14)]⟩) [] [(201, 5, 9001, 9, 1)] (fun (zz : Nat × List (List UInt8) × List UInt8 × List (List D)) => match zz with | (m, acc, r, es) => (r.length, ⟨[zX 0 0 0, zX 2 100 0, zB 3 false, zX 4 201 0], [(0, .box 90 [cS (S r)]), (100, y12), (201, y44), (9001, .arr 0 9 1 (es))]⟩, eE (l.length + 1) [] l = eE m acc r ∧ r.length < m ∧ acc.length + r.length ≤ l.length ∧ es = strs acc)) (l.length + 1, [], l, []) aA ?_ ?_
 exact ⟨rfl, by omega, by simp, rfl⟩
 rintro ⟨m, acc, r, es⟩ ⟨hm, hrm, har, hes⟩
 have hel : es.length = acc.length := by rw [hes, strs, List.length_map]
 have hdw := zZ r
 have hsk := cJ 44 (r.dropWhile aL)
 refine zc hG [] [1, 0] (((!((S r).toList == (S []).toList)) && (!decide ((byteAt (S r) 0 : Int) = 59))) && (!decide ((byteAt (S r) 0 : Int) = 93))) (aB (by first | (intro h; simp only [Bool.and_eq_true, Bool.not_eq_true', dX] at h; have := List.length_pos_iff.2 h.1; rw [aD]; omega) | (intro h; simp only [Bool.not_eq_true', dX] at h; have := List.length_pos_iff.2 h; rw [aD]; omega) | (intros; (try simp only [aJM] at *); omega) : (!((S r).toList == (S []).toList)) = true → (0 : Int) ≤ 0 ∧ 0 < ((S r).size : Int)) (aC (by first | (intro h; simp only [Bool.and_eq_true, Bool.not_eq_true', dX] at h; have := List.length_pos_iff.2 h.1; rw [aD]; omega) | (intro h; simp only [Bool.not_eq_true', dX] at h; have := List.length_pos_iff.2 h; rw [aD]; omega) | (intros; (try simp only [aJM] at *); omega) : ((!((S r).toList == (S []).toList)) && (!decide ((byteAt (S r) 0 : Int) = 59))) = true → (0 : Int) ≤ 0 ∧ 0 < ((S r).size : Int)))) (fun hc2 => ?_) (fun hc2 => ?_)
 (try simp only [d5] at hc2)
 refine zC hG [(3, 3, .callG (.c (cS (S (r.takeWhile aL)))) [0] [(0, y36 (S (r.dropWhile aL)))]), (4, 1, .callG (.c (cB (bJ 44 (r.dropWhile aL)))) [0] [(0, y36 (S (aG 44 (r.dropWhile aL))))])] [1, 1, 0, 1] (!(bJ 44 (r.dropWhile aL))) (⟨[zX 0 0 0, zX 2 100 0, zB 3 false, zX 4 201 0], [(0, y36 (S (aG 44 (r.dropWhile aL)))), (100, y12), (201, y44), (9001, y11 (es ++ ([[.s (S (r.takeWhile aL))]] : List (List D))))]⟩) (aB (mP r (by omega) : SpG g _ _ _ _ _) (aB (by first | (intro h; simp only [Bool.and_eq_true, Bool.not_eq_true', dX] at h; have := List.length_pos_iff.2 h.1; rw [aD]; omega) | (intro h; simp only [Bool.not_eq_true', dX] at h; have := List.length_pos_iff.2 h; rw [aD]; omega) | (intros; (try simp only [aJM] at *); omega) : ((es).length + ([[.s (S (r.takeWhile aL))]] : List (List D)).length) * (16 + 1) ≤ 140737488355328) (aC (hZ (r.dropWhile aL) 44 : SpG g _ _ _ _ _)))) (fun hc3 => ?_) (fun hc3 => ?_)
 (try simp only [d5] at hc3)
 refine zE hG [] (.exit 0) (⟨[zX 0 0 0, zX 2 100 0, zB 3 false, zX 4 201 0], [(0, y36 (S (aG 44 (r.dropWhile aL)))), (100, y12), (201, y44), (9001, y11 (es ++ ([[.s (S (r.takeWhile aL))]] : List (List D))))]⟩) aA rfl ?_
 refine zA hG [] [0, 0, 1, 1, 1] (⟨[zX 0 0 0, zX 2 100 0, zB 3 false, zX 4 201 0], [(0, y36 (S (aG 44 (r.dropWhile aL)))), (100, y12), (201, y44), (9001, y11 (es ++ ([[.s (S (r.takeWhile aL))]] : List (List D))))]⟩) [] [(201, 6, 9002, 33, 1)] (fun (zz : Nat × List (List Cl) × List UInt8 × List (List D)) => match zz with | (m2, acc2, r2, es2) => (r2.length, ⟨[zX 0 0 0, zX 2 100 0, zB 3 false, zX 4 201 0], [(0, .box 90 [cS (S r2)]), (100, y12), (201, y45), (9001, y11 (es ++ ([[.s (S (r.takeWhile aL))]] : List (List D)))), (9002, .arr 0 33 1 (es2))]⟩, gT ((aG 44 (r.dropWhile aL)).length + 1) (es ++ ([[.s (S (r.takeWhile aL))]] : List (List D))).length [] (aG 44 (r.dropWhile aL)) = gT m2 (es ++ ([[.s (S (r.takeWhile aL))]] : List (List D))).length acc2 r2 ∧ r2.length < m2 ∧ acc2.length + r2.length ≤ l.length ∧ es2 = rowsD acc2)) ((aG 44 (r.dropWhile aL)).length + 1, [], (aG 44 (r.dropWhile aL)), []) aA ?_ ?_
 have hC0 : (aG 44 (r.dropWhile aL)).length ≤ l.length := by have h1 := zZ r; have h2 := cJ 44 (r.dropWhile aL); omega
 exact ⟨rfl, by omega, by simp only [List.length_nil]; omega, rfl⟩
 rintro ⟨m2, acc2, r2, es2⟩ ⟨hm2, hrm2, har2, hes2⟩
 have hC : eE (l.length + 1) [] l = ((acc ++ [r.takeWhile aL]), (aG 44 (r.dropWhile aL))) := by
  rw [hm, oL hrm, if_neg (by rw [aM0 hc2]; decide), if_neg (by simpa using hc3), fL (by simpa using hc3)]
 have hES : es ++ ([[.s (S (r.takeWhile aL))]] : List (List D)) = strs (acc ++ [r.takeWhile aL]) := aF1 _ hes
 have hKN : (es ++ ([[.s (S (r.takeWhile aL))]] : List (List D))).length = (acc ++ [r.takeWhile aL]).length := by rw [hES, strs, List.length_map]
 have hel2 : es2.length = acc2.length := by rw [hes2, rowsD, List.length_map]
 have hs59 := cJ 59 r2
 have hra := aGA (es ++ ([[.s (S (r.takeWhile aL))]] : List (List D))).length (aG 59 r2)
 have hKl : (es ++ ([[.s (S (r.takeWhile aL))]] : List (List D))).length ≤ l.length + 1 := by rw [hKN]; have := (nI l.length (l.length + 1) [] l (Nat.le_refl _) (fun c hc => by cases hc)).2.2; rw [hC] at this; simpa using this
 refine zC hG [(5, 1, .callG (.c (cB (bJ 59 r2))) [0] [(0, y36 (S (aG 59 r2)))])] [1, 0] (bJ 59 r2) (⟨[zX 0 0 0, zX 2 100 0, zB 3 false, zX 4 201 0], [(0, y36 (S (aG 59 r2))), (100, y12), (201, y45), (9001, y11 (es ++ ([[.s (S (r.takeWhile aL))]] : List (List D)))), (9002, .arr 0 33 1 (es2))]⟩) (aC (hZ r2 59 : SpG g _ _ _ _ _)) (fun hc5 => ?_) (fun hc5 => ?_)
 (try simp only [d5] at hc5)
 refine zC hG [(6, 4, .callG (y43 (rowD ((bM ((es ++ ([[.s (S (r.takeWhile aL))]] : List (List D))).length) true [] (aG 59 r2)).2.1)) ((bM ((es ++ ([[.s (S (r.takeWhile aL))]] : List (List D))).length) true [] (aG 59 r2)).1)) [0] [(0, y36 (S (bM ((es ++ ([[.s (S (r.takeWhile aL))]] : List (List D))).length) true [] (aG 59 r2)).2.2))])] [1, 0, 1, 0, 1] (!((bM ((es ++ ([[.s (S (r.takeWhile aL))]] : List (List D))).length) true [] (aG 59 r2)).1)) (⟨[zX 0 0 0, zX 2 100 0, zB 3 false, zX 4 201 0, zM 5 7 (rowD ((bM ((es ++ ([[.s (S (r.takeWhile aL))]] : List (List D))).length) true [] (aG 59 r2)).2.1))], [(0, y36 (S (bM ((es ++ ([[.s (S (r.takeWhile aL))]] : List (List D))).length) true [] (aG 59 r2)).2.2)), (100, y12), (201, y45), (9001, y11 (es ++ ([[.s (S (r.takeWhile aL))]] : List (List D)))), (9002, .arr 0 33 1 (es2))]⟩) (aC (aKC hE ((es ++ ([[.s (S (r.takeWhile aL))]] : List (List D))).length) (aG 59 r2) (by omega) (by omega) : SpG g _ _ _ _ _)) (fun hc6 => ?_) (fun hc6 => ?_)
 (try simp only [d5] at hc6)
 refine zE hG [] .ret (⟨[zX 0 0 0, zX 2 100 0, zB 3 false, zX 4 201 0], [(0, y36 (S (bM ((es ++ ([[.s (S (r.takeWhile aL))]] : List (List D))).length) true [] (aG 59 r2)).2.2)), (100, y12), (201, y45), (9001, y11 (es ++ ([[.s (S (r.takeWhile aL))]] : List (List D)))), (9002, .arr 0 33 1 (es2))]⟩) aA rfl ?_
 refine zR hG [] [] (y38) [(0, y36 (S (bM ((es ++ ([[.s (S (r.takeWhile aL))]] : List (List D))).length) true [] (aG 59 r2)).2.2))] aA ?_ ?_
 have hT := fU hC hKN (by rw [hm2, dY hrm2, if_pos hc5, if_neg (by simpa using hc6)])
 rw [hT.1, if_neg (by simp)]
 have hT := fU hC hKN (by rw [hm2, dY hrm2, if_pos hc5, if_neg (by simpa using hc6)])
 rw [hT.2, if_neg (by simp)]
 (try simp only [d5] at hc6)
 refine zD hG [] (m2 - 1, acc2 ++ [(bM (es ++ ([[.s (S (r.takeWhile aL))]] : List (List D))).length true [] (aG 59 r2)).2.1], (bM (es ++ ([[.s (S (r.takeWhile aL))]] : List (List D))).length true [] (aG 59 r2)).2.2, es2 ++ ([[.sl 7 (rowD ((bM ((es ++ ([[.s (S (r.takeWhile aL))]] : List (List D))).length) true [] (aG 59 r2)).2.1))]] : List (List D))) (aC (by first | (intro h; simp only [Bool.and_eq_true, Bool.not_eq_true', dX] at h; have := List.length_pos_iff.2 h.1; rw [aD]; omega) | (intro h; simp only [Bool.not_eq_true', dX] at h; have := List.length_pos_iff.2 h; rw [aD]; omega) | (intros; (try simp only [aJM] at *); omega) : ((es2).length + (([[.sl 7 (rowD ((bM ((es ++ ([[.s (S (r.takeWhile aL))]] : List (List D))).length) true [] (aG 59 r2)).2.1))]] : List (List D))).length) * (24 + 1) ≤ 140737488355328)) ?_ ?_
 (try dsimp only); have := jT (c := 59) (l := r2) hc5; omega
 have hlt := jT (c := 59) (l := r2) hc5
 refine ⟨?_, by omega, by rw [pD acc2]; omega, kN _ hes2⟩
 rw [hm2, dY hrm2, if_pos hc5, if_pos (by simpa using hc6)]
 (try simp only [d5] at hc5)
 refine zE hG [] (.exit 2) (⟨[zX 0 0 0, zX 2 100 0, zB 3 false, zX 4 201 0], [(0, y36 (S (aG 59 r2))), (100, y12), (201, y45), (9001, y11 (es ++ ([[.s (S (r.takeWhile aL))]] : List (List D)))), (9002, .arr 0 33 1 (es2))]⟩) aA rfl ?_
 refine zR hG [(10, 2, .callG (.c (cB (bJ 93 (aG 59 r2)))) [0] [(0, y36 (S (aG 93 (aG 59 r2))))])] [] (.tup [(true, [cI 5, cS (S []), cI 0, cI 0, cI 0, cM 1 (es ++ ([[.s (S (r.takeWhile aL))]] : List (List D))), cM 1 (es2)]), (false, [cB (bJ 93 (aG 59 r2))])]) [(0, y36 (S (aG 93 (aG 59 r2))))] (aC (hZ (aG 59 r2) 93 : SpG g _ _ _ _ _)) ?_ ?_
 have hT := fU hC hKN (by rw [hm2, dY hrm2, if_neg (by simpa using hc5)])
 rw [hT.1, if_pos rfl, hT.2, if_pos rfl, hES, hes2, fL (c := 59) (l := r2) (by simpa using hc5)]
 have hT := fU hC hKN (by rw [hm2, dY hrm2, if_neg (by simpa using hc5)])
 rw [hT.2, if_pos rfl, fL (c := 59) (l := r2) (by simpa using hc5)]
 (try simp only [d5] at hc3)
 refine zD hG [] (m - 1, acc ++ [r.takeWhile aL], aG 44 (r.dropWhile aL), es ++ ([[.s (S (r.takeWhile aL))]] : List (List D))) aA ?_ ?_
 (try dsimp only); have := jT (c := 44) (l := r.dropWhile aL) (by simpa using hc3); omega
 have hlt := jT (c := 44) (l := r.dropWhile aL) (by simpa using hc3)
 refine ⟨?_, by omega, by simp only [dG]; omega, aF1 _ hes⟩
 rw [hm, oL hrm, if_neg (by rw [aM0 hc2]; decide), if_pos (by simpa using hc3)]
 (try simp only [d5] at hc2)
 refine zE hG [] (.exit 0) (⟨[zX 0 0 0, zX 2 100 0, zB 3 false, zX 4 201 0], [(0, .box 90 [cS (S r)]), (100, y12), (201, y44), (9001, .arr 0 9 1 (es))]⟩) aA rfl ?_
 refine zA hG [] [0, 0, 1, 1, 1] (⟨[zX 0 0 0, zX 2 100 0, zB 3 false, zX 4 201 0], [(0, .box 90 [cS (S r)]), (100, y12), (201, y44), (9001, .arr 0 9 1 (es))]⟩) [] [(201, 6, 9002, 33, 1)] (fun (zz : Nat × List (List Cl) × List UInt8 × List (List D)) => match zz with | (m2, acc2, r2, es2) => (r2.length, ⟨[zX 0 0 0, zX 2 100 0, zB 3 false, zX 4 201 0], [(0, .box 90 [cS (S r2)]), (100, y12), (201, y45), (9001, .arr 0 9 1 (es)), (9002, .arr 0 33 1 (es2))]⟩, gT (r.length + 1) (es).length [] r = gT m2 (es).length acc2 r2 ∧ r2.length < m2 ∧ acc2.length + r2.length ≤ l.length ∧ es2 = rowsD acc2)) (r.length + 1, [], r, []) aA ?_ ?_
 have hC0 : r.length ≤ l.length := by omega
 exact ⟨rfl, by omega, by simp only [List.length_nil]; omega, rfl⟩
 rintro ⟨m2, acc2, r2, es2⟩ ⟨hm2, hrm2, har2, hes2⟩
 have hC : eE (l.length + 1) [] l = (acc, r) := by
  rw [hm, oL hrm, if_pos (endC_t hc2)]
 have hES : es = strs acc := hes
 have hKN : (es).length = acc.length := by rw [hES, strs, List.length_map]
 have hel2 : es2.length = acc2.length := by rw [hes2, rowsD, List.length_map]
 have hs59 := cJ 59 r2
 have hra := aGA (es).length (aG 59 r2)
 have hKl : (es).length ≤ l.length + 1 := by rw [hKN]; have := (nI l.length (l.length + 1) [] l (Nat.le_refl _) (fun c hc => by cases hc)).2.2; rw [hC] at this; simpa using this
 refine zC hG [(5, 1, .callG (.c (cB (bJ 59 r2))) [0] [(0, y36 (S (aG 59 r2)))])] [1, 0] (bJ 59 r2) (⟨[zX 0 0 0, zX 2 100 0, zB 3 false, zX 4 201 0], [(0, y36 (S (aG 59 r2))), (100, y12), (201, y45), (9001, .arr 0 9 1 (es)), (9002, .arr 0 33 1 (es2))]⟩) (aC (hZ r2 59 : SpG g _ _ _ _ _)) (fun hc8 => ?_) (fun hc8 => ?_)
 (try simp only [d5] at hc8)
 refine zC hG [(6, 4, .callG (y43 (rowD ((bM ((es).length) true [] (aG 59 r2)).2.1)) ((bM ((es).length) true [] (aG 59 r2)).1)) [0] [(0, y36 (S (bM ((es).length) true [] (aG 59 r2)).2.2))])] [1, 0, 1, 0, 1] (!((bM ((es).length) true [] (aG 59 r2)).1)) (⟨[zX 0 0 0, zX 2 100 0, zB 3 false, zX 4 201 0, zM 5 7 (rowD ((bM ((es).length) true [] (aG 59 r2)).2.1))], [(0, y36 (S (bM ((es).length) true [] (aG 59 r2)).2.2)), (100, y12), (201, y45), (9001, .arr 0 9 1 (es)), (9002, .arr 0 33 1 (es2))]⟩) (aC (aKC hE ((es).length) (aG 59 r2) (by omega) (by omega) : SpG g _ _ _ _ _)) (fun hc9 => ?_) (fun hc9 => ?_)
 (try simp only [d5] at hc9)
 refine zE hG [] .ret (⟨[zX 0 0 0, zX 2 100 0, zB 3 false, zX 4 201 0], [(0, y36 (S (bM ((es).length) true [] (aG 59 r2)).2.2)), (100, y12), (201, y45), (9001, .arr 0 9 1 (es)), (9002, .arr 0 33 1 (es2))]⟩) aA rfl ?_
 refine zR hG [] [] (y38) [(0, y36 (S (bM ((es).length) true [] (aG 59 r2)).2.2))] aA ?_ ?_
 have hT := fU hC hKN (by rw [hm2, dY hrm2, if_pos hc8, if_neg (by simpa using hc9)])
 rw [hT.1, if_neg (by simp)]
 have hT := fU hC hKN (by rw [hm2, dY hrm2, if_pos hc8, if_neg (by simpa using hc9)])
 rw [hT.2, if_neg (by simp)]
 (try simp only [d5] at hc9)
 refine zD hG [] (m2 - 1, acc2 ++ [(bM (es).length true [] (aG 59 r2)).2.1], (bM (es).length true [] (aG 59 r2)).2.2, es2 ++ ([[.sl 7 (rowD ((bM ((es).length) true [] (aG 59 r2)).2.1))]] : List (List D))) (aC (by first | (intro h; simp only [Bool.and_eq_true, Bool.not_eq_true', dX] at h; have := List.length_pos_iff.2 h.1; rw [aD]; omega) | (intro h; simp only [Bool.not_eq_true', dX] at h; have := List.length_pos_iff.2 h; rw [aD]; omega) | (intros; (try simp only [aJM] at *); omega) : ((es2).length + (([[.sl 7 (rowD ((bM ((es).length) true [] (aG 59 r2)).2.1))]] : List (List D))).length) * (24 + 1) ≤ 140737488355328)) ?_ ?_
 (try dsimp only); have := jT (c := 59) (l := r2) hc8; omega
 have hlt := jT (c := 59) (l := r2) hc8
 refine ⟨?_, by omega, by rw [pD acc2]; omega, kN _ hes2⟩
 rw [hm2, dY hrm2, if_pos hc8, if_pos (by simpa using hc9)]
 (try simp only [d5] at hc8)
 refine zE hG [] (.exit 2) (⟨[zX 0 0 0, zX 2 100 0, zB 3 false, zX 4 201 0], [(0, y36 (S (aG 59 r2))), (100, y12), (201, y45), (9001, .arr 0 9 1 (es)), (9002, .arr 0 33 1 (es2))]⟩) aA rfl ?_
 refine zR hG [(10, 2, .callG (.c (cB (bJ 93 (aG 59 r2)))) [0] [(0, y36 (S (aG 93 (aG 59 r2))))])] [] (.tup [(true, [cI 5, cS (S []), cI 0, cI 0, cI 0, cM 1 (es), cM 1 (es2)]), (false, [cB (bJ 93 (aG 59 r2))])]) [(0, y36 (S (aG 93 (aG 59 r2))))] (aC (hZ (aG 59 r2) 93 : SpG g _ _ _ _ _)) ?_ ?_
 have hT := fU hC hKN (by rw [hm2, dY hrm2, if_neg (by simpa using hc8)])
 rw [hT.1, if_pos rfl, hT.2, if_pos rfl, hES, hes2, fL (c := 59) (l := r2) (by simpa using hc8)]
 have hT := fU hC hKN (by rw [hm2, dY hrm2, if_neg (by simpa using hc8)])
 rw [hT.2, if_pos rfl, fL (c := 59) (l := r2) (by simpa using hc8)]
abbrev y46 (a0 : Vl) (a1 : Bool) : SV := .tup [(true, (zV a0)), (false, [cB a1])]
theorem aJW (hE : jF g) (l : List UInt8) (hl : l.length < 900000000) : SpG g 85 [.c (.bx 0 0)] [(0, .box 90 [cS (S l)])] (y46 ((d7 l).2.1) ((d7 l).1)) [(0, y36 (S (d7 l).2.2))] := by
 have h := table_ hE l hl
 cases hb : pW l with
 | true => rw [if_pos hb] at h; exact h
 | false =>
  rw [if_neg (by rw [hb]; decide)] at h
  obtain ⟨h1, h2⟩ := aHM hb
  rw [h1, h2]
  exact gI [[none, none, none, none, none, some 1, some 1], []] h
theorem vX (hE : jF g) (l : List UInt8) (hl : l.length < 900000000) :
  SpG g 52 [.c (.bx 0 0)] [(0, .box 90 [cS (S l)])] (y46 ((aI l).2.1) ((aI l).1)) [(0, y36 (S (aI l).2.2))] := by
 have hs91 := cJ 91 l
 refine aF 14 Tryz.func52 (by kernel_rfl) fun fr hG => ?_
 refine zC hG [(1, 1, .callG (.c (cB (bJ 91 l))) [0] [(0, y36 (S (aG 91 l)))])] [1, 0, 1] (bJ 91 l) (⟨[zX 0 0 0, zX 2 100 0, zB 3 false], [(0, y36 (S (aG 91 l))), (100, y12)]⟩) (aC (hZ l 91 : SpG g _ _ _ _ _)) (fun hc1 => ?_) (fun hc1 => ?_)
 (try simp only [blS] at hc1)
 refine zR hG [(2, 1, .callG (y46 ((d7 (aG 91 l)).2.1) ((d7 (aG 91 l)).1)) [0] [(0, y36 (S (d7 (aG 91 l)).2.2))])] [] (y46 ((d7 (aG 91 l)).2.1) ((d7 (aG 91 l)).1)) [(0, y36 (S (d7 (aG 91 l)).2.2))] (aC (aJW hE (aG 91 l) (by omega) : SpG g _ _ _ _ _)) ?_ ?_
 rw [aI, if_pos hc1]
 rw [aI, if_pos hc1]
 (try simp only [blS] at hc1)
 refine zR hG [(3, 1, .callG (y40 ((aJ (aG 91 l)).2.1) ((aJ (aG 91 l)).1)) [0] [(0, y36 (S (aJ (aG 91 l)).2.2))])] [] (y40 ((aJ (aG 91 l)).2.1) ((aJ (aG 91 l)).1)) [(0, y36 (S (aJ (aG 91 l)).2.2))] (aC (aAD hE (aG 91 l) (by omega) : SpG g _ _ _ _ _)) ?_ ?_
 rw [aI, if_neg (by simpa using hc1), fL (by simpa using hc1)]; rfl
 rw [aI, if_neg (by simpa using hc1), fL (by simpa using hc1)]
theorem read_ (hE : jF g) (s : List UInt8) (hl : s.length < 900000000) :
  SpG g 16 [.c (cS (S s))] [] (if bS s = true then .tup [(true, (zV ((aI s).2.1))), (false, [cB true])] else y38) [] := by
 have hf := (sO s (by unfold maxLen; omega)).2
 refine aF 37 Tryz.func16 (by kernel_rfl) fun fr hG => ?_
 refine zC hG [(2, 1, .callG (y46 ((aI s).2.1) ((aI s).1)) [202] [(0, y36 (S (aI s).2.2))]), (3, 11, kB (aX (aI s).2.1)), (3, 16, kS (S (aH (aI s).2.1)))] [1, 0, 1, 1, 1] ((((!((aI s).1)) || (!((S (aI s).2.2).toList == (S []).toList))) || (!(aX (aI s).2.1))) || (!((S (aH (aI s).2.1)).toList == (S s).toList))) (⟨[zX 2 100 0, zB 3 false, zX 5 305 0], [(100, y12), (305, .box 30 (zV ((aI s).2.1)))]⟩) (aB (vX hE s (by omega) : SpG g _ _ _ _ _) (aB (fun (hg1 : ((!((aI s).1)) || (!((S (aI s).2.2).toList == (S []).toList))) = false) => (oX (aI s).2.1 hf : SpG g _ _ _ _ _)) (aC (fun (hg1 : (((!((aI s).1)) || (!((S (aI s).2.2).toList == (S []).toList))) || (!(aX (aI s).2.1))) = false) => (gQ (aI s).2.1 hf : SpG g _ _ _ _ _))))) (fun hc1 => ?_) (fun hc1 => ?_)
 (try simp only [d5] at hc1)
 refine zR hG [] [] (y38) [] aA ?_ ?_
 rw [if_neg]
 unfold bS
 rcases hc1 with ((h | h) | h) | h <;> simp [h]
 rfl
 (try simp only [d5] at hc1)
 refine zR hG [] [] (.tup [(true, (zV ((aI s).2.1))), (false, [cB true])]) [] aA ?_ ?_
 rw [if_pos]
 unfold bS
 simp [hc1]
 rfl
theorem kJ (hE : jF g) (s : List UInt8) (hl : s.length < 900000000) : SpG g 16 [.c (cS (S s))] [] (y46 (bP s) (bS s)) [] := by
 have h := read_ hE s hl
 cases hb : bS s with
 | true =>
  rw [if_pos hb] at h
  rw [bP, if_pos hb]; exact h
 | false =>
  rw [if_neg (by rw [hb]; decide)] at h
  rw [aBQ hb]
  exact gI [[none, none, none, none, none, some 1, some 1], []] h
theorem aKQ (hE : jF g) (s : List UInt8) (hl : s.length < 900000000) :
  SpG g 22 [.c (cS (S s))] [] (if lK s = true ∧ s ≠ [] then .tup [(false, [cM 7 (valsD (n0 s))]), (false, [cB true])] else .tup [(false, [cN]), (false, [cB (lK s)])]) [] := by
 refine aF 35 Tryz.func22 (by kernel_rfl) fun fr hG => ?_
 refine zC hG [] [1, 0, 1] ((S s).toList == (S []).toList) (⟨[zS 0 (S s), zN 2, zB 3 false], []⟩) aA (fun hc1 => ?_) (fun hc1 => ?_)
 (try simp only [d5] at hc1)
 refine zR hG [] [] (.tup [(false, [cN]), (false, [cB true])]) [] aA ?_ ?_
 obtain rfl : s = [] := hc1
 rw [if_neg (by rintro ⟨_, h⟩; exact h rfl), row_nil.1]
 rfl
 (try simp only [d5] at hc1)
 refine zA hG [] [0, 0, 1, 1, 1, 1] (⟨[zS 0 (S s), zN 2, zB 3 false, zX 4 402 0, zN 5], [(402, .box 90 [cS (S s)])]⟩) [(5, 9003, 30, 7)] [] (fun (zz : List Vl × List UInt8 × List (List D)) => match zz with | (acc, r, es) => (8 - acc.length, ⟨[zS 0 (S s), zN 2, zB 3 false, zX 4 402 0, zY 5 9003 0], [(402, .box 90 [cS (S r)]), (9003, .arr 0 30 7 (es))]⟩, gE 8 [] s = gE (8 - acc.length) acc r ∧ r.length ≤ s.length ∧ es = valsD acc ∧ acc.length ≤ 8 ∧ ∀ v, v ∈ acc → v.fit)) ([], s, []) aA ?_ ?_
 exact ⟨rfl, Nat.le_refl _, rfl, Nat.zero_le _, fun v hv => by cases hv⟩
 rintro ⟨acc, r, es⟩ ⟨hm, hr, hes, ha, hfa⟩
 have hel : es.length = acc.length := by rw [hes, valsD, List.length_map]
 have hvm := sO r (by unfold maxLen; omega)
 have hsk := cJ 124 (aI r).2.2
 refine zc hG [] [1, 0] (decide ((((es).length : Int) : Int) < 8)) aA (fun hc3 => ?_) (fun hc3 => ?_)
 (try simp only [d5] at hc3)
 refine zC hG [(6, 1, .callG (y46 ((aI r).2.1) ((aI r).1)) [402] [(0, y36 (S (aI r).2.2))])] [1, 0, 1, 0, 1] (!((aI r).1)) (⟨[zS 0 (S s), zN 2, zB 3 false, zX 4 402 0, zY 5 9003 0, zX 6 705 0], [(402, y36 (S (aI r).2.2)), (705, .box 30 (zV ((aI r).2.1))), (9003, .arr 0 30 7 (es))]⟩) (aC (vX hE r (by omega) : SpG g _ _ _ _ _)) (fun hc4 => ?_) (fun hc4 => ?_)
 (try simp only [d5] at hc4)
 refine zE hG [] .ret (⟨[zS 0 (S s), zN 2, zB 3 false, zY 5 9003 0], [(9003, .arr 0 30 7 (es))]⟩) aA rfl ?_
 refine zR hG [] [] (y41) [] aA ?_ ?_
 have hk := yC hc1 (.inl (by rw [hm, kH (m := 0) (by omega), if_neg (by simpa using hc4)]))
 rw [if_neg (by rintro ⟨h, _⟩; rw [hk] at h; cases h), hk]
 rfl
 (try simp only [d5] at hc4)
 refine zC hG [(10, 1, .callG (.c (cB (bJ 124 ((aI r).2.2)))) [402] [(0, y36 (S (aG 124 ((aI r).2.2))))])] [1, 1, 1, 1, 0, 1] (!(bJ 124 ((aI r).2.2))) (⟨[zS 0 (S s), zN 2, zB 3 false, zX 4 402 0, zY 5 9003 0], [(402, y36 (S (aG 124 ((aI r).2.2)))), (9003, .arr 0 30 7 (es ++ ([[.i (((aI r).2.1).kind), .s (S ((aI r).2.1).s), .i (((aI r).2.1).dn), .i (((aI r).2.1).ds), .i (((aI r).2.1).n), .sl 1 (strs (((aI r).2.1).cols)), .sl 1 (rowsD (((aI r).2.1).rows))]] : List (List D))))]⟩) (aB (by intros; (try simp only [inR, valsD, List.length_map, List.length_append, List.length_cons, List.length_nil] at *); omega : ((es).length + ([[.i (((aI r).2.1).kind), .s (S ((aI r).2.1).s), .i (((aI r).2.1).dn), .i (((aI r).2.1).ds), .i (((aI r).2.1).n), .sl 1 (strs (((aI r).2.1).cols)), .sl 1 (rowsD (((aI r).2.1).rows))]] : List (List D)).length) * (96 + 1) ≤ 140737488355328) (aC (hZ ((aI r).2.2) 124 : SpG g _ _ _ _ _))) (fun hc5 => ?_) (fun hc5 => ?_)
 (try simp only [d5] at hc5)
 refine zE hG [] (.exit 0) (⟨[zS 0 (S s), zN 2, zB 3 false, zY 5 9003 0], [(9003, .arr 0 30 7 (es ++ ([[.i (((aI r).2.1).kind), .s (S ((aI r).2.1).s), .i (((aI r).2.1).dn), .i (((aI r).2.1).ds), .i (((aI r).2.1).n), .sl 1 (strs (((aI r).2.1).cols)), .sl 1 (rowsD (((aI r).2.1).rows))]] : List (List D))))]⟩) aA rfl ?_
 refine zC hG [(11, 1, kS (S (bO (acc ++ [(aI r).2.1]))))] [1, 0, 1, 1, 1, 1, 1] (!((S (bO (acc ++ [(aI r).2.1]))).toList == (S s).toList)) (⟨[zN 2, zB 3 false, zY 5 9003 0], [(9003, .arr 0 30 7 (es ++ ([[.i (((aI r).2.1).kind), .s (S ((aI r).2.1).s), .i (((aI r).2.1).dn), .i (((aI r).2.1).ds), .i (((aI r).2.1).n), .sl 1 (strs (((aI r).2.1).cols)), .sl 1 (rowsD (((aI r).2.1).rows))]] : List (List D))))]⟩) (aC (s5 (xZ (aI r).2.1 hes) (aCP hfa hvm.2) : SpG g _ _ _ _ _)) (fun hc6 => ?_) (fun hc6 => ?_)
 (try simp only [d5] at hc6)
 refine zR hG [] [] (y41) [] aA ?_ ?_
 have e : gE 8 [] s = (true, acc ++ [(aI r).2.1], (aI r).2.2) := by rw [hm, kH (m := 0) (by omega), if_pos (by simpa using hc4), if_neg (by simpa using hc5)]
 have hk := yC hc1 (.inr (by rw [e]; exact hc6))
 rw [if_neg (by rintro ⟨h, _⟩; rw [hk] at h; cases h), hk]
 rfl
 (try simp only [d5] at hc6)
 refine zR hG [] [] (y42 (es ++ ([[.i (((aI r).2.1).kind), .s (S ((aI r).2.1).s), .i (((aI r).2.1).dn), .i (((aI r).2.1).ds), .i (((aI r).2.1).n), .sl 1 (strs (((aI r).2.1).cols)), .sl 1 (rowsD (((aI r).2.1).rows))]] : List (List D)))) [] aA ?_ ?_
 have e : gE 8 [] s = (true, acc ++ [(aI r).2.1], (aI r).2.2) := by rw [hm, kH (m := 0) (by omega), if_pos (by simpa using hc4), if_neg (by simpa using hc5)]
 obtain ⟨hk, hv⟩ := aA8 hc1 e hc6
 rw [if_pos ⟨hk, hc1⟩, hv, ← xZ _ hes]
 rfl
 (try simp only [d5] at hc5)
 refine zD hG [] (acc ++ [(aI r).2.1], aG 124 (aI r).2.2, es ++ ([[.i (((aI r).2.1).kind), .s (S ((aI r).2.1).s), .i (((aI r).2.1).dn), .i (((aI r).2.1).ds), .i (((aI r).2.1).n), .sl 1 (strs (((aI r).2.1).cols)), .sl 1 (rowsD (((aI r).2.1).rows))]] : List (List D))) aA ?_ ?_
 (try dsimp only); simp only [dG]; omega
 refine ⟨?_, by omega, xZ _ hes, by simp only [dG]; omega, aCP hfa hvm.2⟩
 rw [hm, kH (m := 0) (by omega), if_pos (by simpa using hc4), if_pos (by simpa using hc5), List.length_append]; rfl
 (try simp only [d5] at hc3)
 refine zE hG [] (.exit 0) (⟨[zS 0 (S s), zN 2, zB 3 false, zY 5 9003 0], [(9003, .arr 0 30 7 (es))]⟩) aA rfl ?_
 refine zC hG [(11, 1, kS (S (bO acc)))] [1, 0, 1, 1, 1, 1, 1] (!((S (bO acc)).toList == (S s).toList)) (⟨[zN 2, zB 3 false, zY 5 9003 0], [(9003, .arr 0 30 7 (es))]⟩) (aC (s5 hes hfa : SpG g _ _ _ _ _)) (fun hc7 => ?_) (fun hc7 => ?_)
 (try simp only [d5] at hc7)
 refine zR hG [] [] (y41) [] aA ?_ ?_
 have e : gE 8 [] s = (true, acc, r) := by rw [hm, show 8 - acc.length = 0 by omega]; rfl
 have hk := yC hc1 (.inr (by rw [e]; exact hc7))
 rw [if_neg (by rintro ⟨h, _⟩; rw [hk] at h; cases h), hk]
 rfl
 (try simp only [d5] at hc7)
 refine zR hG [] [] (y42 (es)) [] aA ?_ ?_
 have e : gE 8 [] s = (true, acc, r) := by rw [hm, show 8 - acc.length = 0 by omega]; rfl
 obtain ⟨hk, hv⟩ := aA8 hc1 e hc7
 rw [if_pos ⟨hk, hc1⟩, hv, ← hes]
 rfl
theorem vG (hE : jF g) (s : List UInt8) (hl : s.length < 900000000) : SpG g 22 [.c (cS (S s))] [] (y43 (valsD (n0 s)) (lK s)) [] := by
 have h := aKQ hE s hl
 by_cases hb : lK s = true ∧ s ≠ []
 rw [if_pos hb] at h
 rw [hb.1]; exact h
 rw [if_neg hb] at h
 have e : n0 s = [] := by rw [n0, if_neg hb]
 rw [e]
 exact gI [[some 7], []] h
end Go.Proofs.YtmpgfchkkemngaaGreatDoor
namespace Go.Proofs.YtmpgfchkkemngaaGreatDoor
open Go.RowKit Go.V
open Go.Eng (inR byteAt u8 bH)
variable {g : Gv}
theorem x33 (x : UInt8) : (((x.toNat : Nat) : Int) = 33) = (x = 33) := propext (g8 rfl)
theorem x63 (x : UInt8) : (((x.toNat : Nat) : Int) = 63) = (x = 63) := propext (g8 rfl)
theorem x35 (x : UInt8) : (((x.toNat : Nat) : Int) = 35) = (x = 35) := propext (g8 rfl)
theorem x64 (x : UInt8) : (((x.toNat : Nat) : Int) = 64) = (x = 64) := propext (g8 rfl)
theorem x39 (x : UInt8) : (((x.toNat : Nat) : Int) = 39) = (x = 39) := propext (g8 rfl)
theorem x91 (x : UInt8) : (((x.toNat : Nat) : Int) = 91) = (x = 91) := propext (g8 rfl)
theorem unq_d {s : List UInt8} {k : Nat} (h : k + 1 < s.length) : s.drop k = s.getD k 0 :: s.getD (k + 1) 0 :: s.drop (k + 2) := by
 rw [List.drop_eq_getElem_cons (by omega), List.drop_eq_getElem_cons (i := k + 1) (by omega)]
 simp [show k < s.length by omega, h]
theorem unq_1 {s : List UInt8} {k : Nat} (h : k + 1 < s.length) (h39 : s.getD k 0 = 39) : kK (s.drop k) = s.getD k 0 :: kK (s.drop (k + 2)) := by
 rw [unq_d h, kK, if_pos h39]
theorem unq_2 {s : List UInt8} {k : Nat} (h : k + 1 < s.length) (h39 : ¬ s.getD k 0 = 39) : kK (s.drop k) = s.getD k 0 :: kK (s.drop (k + 1)) := by
 have e : s.drop (k + 1) = s.getD (k + 1) 0 :: s.drop (k + 2) := by
  rw [List.drop_eq_getElem_cons h]; simp [h]
 rw [unq_d h, kK, if_neg h39, e]
theorem unq_3 {s : List UInt8} {k : Nat} (hk : k ≤ s.length) (h : ¬ k + 1 < s.length) : kK (s.drop k) = [] := by
 by_cases e : k = s.length
 subst e; rw [List.drop_length]; rfl
 rw [List.drop_eq_getElem_cons (by omega), List.drop_eq_nil_of_le (by omega)]; rfl
def fK := And.intro @dX (And.intro @xT (And.intro @aD (And.intro @blS (@cT))))
def rW := And.intro @List.length_cons.{0} (And.intro @List.length_nil.{0} (And.intro @aD (And.intro @Go.Eng.inR.eq_1 (@maxLen.eq_1))))
abbrev y47 : SV := .agg [cI (-1), cS (S []), cI 0, cI 0, cI 0, cN, cN]
theorem plain_ (x : UInt8) (s : List UInt8) (hl : s.length ≤ 100000000) :
  SpG g 62 [.c (.d (.y x.toNat)), .c (cS (S s))] [] (.agg [cI ((aU x s).kind), cS (S (aU x s).s), cI ((aU x s).dn), cI ((aU x s).ds), cI ((aU x s).n), cN, cN]) [] := by
 refine aF 77 Tryz.func62 (by kernel_rfl) fun fr hG => ?_
 refine zC hG [] [1, 0, 0, 1, 0, 1] (decide ((x.toNat : Int) = 33)) (⟨[(0, [], .c (.d (.y x.toNat))), zS 1 (S s), zX 4 100 0, (13, [], .c (.d (.y x.toNat))), zB 14 (decide ((x.toNat : Int) = 33))], [(100, y12)]⟩) aA (fun hc1 => ?_) (fun hc1 => ?_)
 (try simp only [fK, x33, x63, x35, x64, x39, Int.toNat_natCast] at hc1)
 refine zC hG [] [1, 0, 1, 0, 1] (decide ((x.toNat : Int) = 33)) (⟨[(0, [], .c (.d (.y x.toNat))), zS 1 (S s), zX 4 100 0, (13, [], .c (.d (.y x.toNat)))], [(100, y12)]⟩) aA (fun hc2 => ?_) (fun hc2 => ?_)
 (try simp only [fK, x33, x63, x35, x64, x39, Int.toNat_natCast] at hc2)
 refine zL hG [] [0, 1, 0, 1, 0, 1, 0, 1, 0, 1] (fun (zz : Nat × Int) => match zz with | (k, d) => (100 - k, ⟨[(0, [], .c (.d (.y x.toNat))), zS 1 (S s), zX 4 100 0, zI 5 d, zI 6 (k : Int)], [(100, y12)]⟩, k ≤ 100 ∧ d = qU s k)) (0, -1) aA ?_ ?_
 exact ⟨Nat.zero_le _, rfl⟩
 rintro ⟨k, d⟩ ⟨hk, hd⟩
 refine zc hG [] [1, 0] (decide (((k : Int) : Int) < 100)) aA (fun hc4 => ?_) (fun hc4 => ?_)
 (try simp only [fK, x33, x63, x35, x64, x39, Int.toNat_natCast] at hc4)
 refine zc hG [(8, 1, kS (S (dec2 (k : Int))))] [1, 0, 0, 1] ((S (dec2 (k : Int))).toList == (S s).toList) (aC (lA (k : Int) (by omega) (by omega) : SpG g _ _ _ _ _)) (fun hc5 => ?_) (fun hc5 => ?_)
 (try simp only [fK, x33, x63, x35, x64, x39, Int.toNat_natCast] at hc5)
 refine zD hG [] (k + 1, (k : Int)) (aC (by intros; first | omega | ((try rw [d4 (by (try simp only [aD] at *); omega)]); (try rw [ho]); (try simp only [rW] at *); omega) : inR ((k : Int) + 1))) ?_ ?_
 (try dsimp only); omega
 exact ⟨by omega, by rw [qU, if_pos hc5]⟩
 (try simp only [fK, x33, x63, x35, x64, x39, Int.toNat_natCast] at hc5)
 refine zD hG [] (k + 1, d) (aC (by intros; first | omega | ((try rw [d4 (by (try simp only [aD] at *); omega)]); (try rw [ho]); (try simp only [rW] at *); omega) : inR ((k : Int) + 1))) ?_ ?_
 (try dsimp only); omega
 exact ⟨by omega, by rw [qU, if_neg hc5]; exact hd⟩
 (try simp only [fK, x33, x63, x35, x64, x39, Int.toNat_natCast] at hc4)
 refine zE hG [] (.exit 1) (⟨[(0, [], .c (.d (.y x.toNat))), zX 4 100 0, zI 5 d], [(100, y12)]⟩) aA rfl ?_
 refine zC hG [] [1, 0, 1, 1, 0, 1, 0, 1, 0, 1] (decide ((x.toNat : Int) = 63)) (⟨[zX 4 100 0, zI 5 d], [(100, y12)]⟩) aA (fun hc6 => ?_) (fun hc6 => ?_)
 (try simp only [fK, x33, x63, x35, x64, x39, Int.toNat_natCast] at hc6)
 exact absurd (hc1.symm.trans hc6) (by decide)
 (try simp only [fK, x33, x63, x35, x64, x39, Int.toNat_natCast] at hc6)
 refine zR hG [] [] (.agg [cI 0, cS (S []), cI 0, cI 0, cI d, cN, cN]) [] aA ?_ ?_
 obtain rfl : k = 100 := by omega
 have e : aU x s = ⟨0, [], 0, 0, qU s 100⟩ := by unfold aU; simp [hc1]
 rw [e, hd]
 rfl
 (try simp only [fK, x33, x63, x35, x64, x39, Int.toNat_natCast] at hc2)
 exact absurd hc1 hc2
 (try simp only [fK, x33, x63, x35, x64, x39, Int.toNat_natCast] at hc1)
 refine zC hG [] [1, 0, 1, 0, 1] (decide ((x.toNat : Int) = 63)) (⟨[(0, [], .c (.d (.y x.toNat))), zS 1 (S s), zX 4 100 0, (13, [], .c (.d (.y x.toNat)))], [(100, y12)]⟩) aA (fun hc7 => ?_) (fun hc7 => ?_)
 (try simp only [fK, x33, x63, x35, x64, x39, Int.toNat_natCast] at hc7)
 refine zL hG [] [0, 1, 0, 1, 0, 1, 0, 1, 0, 1] (fun (zz : Nat × Int) => match zz with | (k, d) => (100 - k, ⟨[(0, [], .c (.d (.y x.toNat))), zS 1 (S s), zX 4 100 0, zI 5 d, zI 6 (k : Int)], [(100, y12)]⟩, k ≤ 100 ∧ d = qU s k)) (0, -1) aA ?_ ?_
 exact ⟨Nat.zero_le _, rfl⟩
 rintro ⟨k, d⟩ ⟨hk, hd⟩
 refine zc hG [] [1, 0] (decide (((k : Int) : Int) < 100)) aA (fun hc9 => ?_) (fun hc9 => ?_)
 (try simp only [fK, x33, x63, x35, x64, x39, Int.toNat_natCast] at hc9)
 refine zc hG [(8, 1, kS (S (dec2 (k : Int))))] [1, 0, 0, 1] ((S (dec2 (k : Int))).toList == (S s).toList) (aC (lA (k : Int) (by omega) (by omega) : SpG g _ _ _ _ _)) (fun hc10 => ?_) (fun hc10 => ?_)
 (try simp only [fK, x33, x63, x35, x64, x39, Int.toNat_natCast] at hc10)
 refine zD hG [] (k + 1, (k : Int)) (aC (by intros; first | omega | ((try rw [d4 (by (try simp only [aD] at *); omega)]); (try rw [ho]); (try simp only [rW] at *); omega) : inR ((k : Int) + 1))) ?_ ?_
 (try dsimp only); omega
 exact ⟨by omega, by rw [qU, if_pos hc10]⟩
 (try simp only [fK, x33, x63, x35, x64, x39, Int.toNat_natCast] at hc10)
 refine zD hG [] (k + 1, d) (aC (by intros; first | omega | ((try rw [d4 (by (try simp only [aD] at *); omega)]); (try rw [ho]); (try simp only [rW] at *); omega) : inR ((k : Int) + 1))) ?_ ?_
 (try dsimp only); omega
 exact ⟨by omega, by rw [qU, if_neg hc10]; exact hd⟩
 (try simp only [fK, x33, x63, x35, x64, x39, Int.toNat_natCast] at hc9)
 refine zE hG [] (.exit 1) (⟨[(0, [], .c (.d (.y x.toNat))), zX 4 100 0, zI 5 d], [(100, y12)]⟩) aA rfl ?_
 refine zC hG [] [1, 0, 1, 1, 0, 1, 0, 1, 0, 1] (decide ((x.toNat : Int) = 63)) (⟨[zX 4 100 0, zI 5 d], [(100, y12)]⟩) aA (fun hc11 => ?_) (fun hc11 => ?_)
 (try simp only [fK, x33, x63, x35, x64, x39, Int.toNat_natCast] at hc11)
 refine zR hG [] [] (.agg [cI 4, cS (S []), cI 0, cI 0, cI d, cN, cN]) [] aA ?_ ?_
 obtain rfl : k = 100 := by omega
 have e : aU x s = ⟨4, [], 0, 0, qU s 100⟩ := by unfold aU; simp [hc1, hc7]
 rw [e, hd]
 rfl
 (try simp only [fK, x33, x63, x35, x64, x39, Int.toNat_natCast] at hc11)
 exact absurd hc7 hc11
 (try simp only [fK, x33, x63, x35, x64, x39, Int.toNat_natCast] at hc7)
 refine zC hG [] [1, 1, 1, 0, 1, 0, 1] (decide ((x.toNat : Int) = 35)) (⟨[zS 1 (S s), zX 4 100 0, (13, [], .c (.d (.y x.toNat)))], [(100, y12)]⟩) aA (fun hc12 => ?_) (fun hc12 => ?_)
 (try simp only [fK, x33, x63, x35, x64, x39, Int.toNat_natCast] at hc12)
 refine zC hG [(14, 1, kC (y6 (iY s) (iX s) (gG s)))] [1, 1, 0, 1, 1, 1, 0, 1, 0, 1] (gG s) (⟨[zX 4 100 0, zX 7 1505 0], [(100, y12), (1505, .box 26 [cI (iY s), cI (iX s)])]⟩) (aC (tG s hl : SpG g _ _ _ _ _)) (fun hc13 => ?_) (fun hc13 => ?_)
 (try simp only [fK, x33, x63, x35, x64, x39, Int.toNat_natCast] at hc13)
 refine zR hG [] [] (.agg [cI 2, cS (S []), cI (iY s), cI (iX s), cI 0, cN, cN]) [] aA ?_ ?_
 have e : aU x s = ⟨2, [], iY s, iX s, 0⟩ := by unfold aU; simp [hc1, hc7, hc12, hc13]
 rw [e]
 rfl
 (try simp only [fK, x33, x63, x35, x64, x39, Int.toNat_natCast] at hc13)
 refine zR hG [] [] (y47) [] aA ?_ ?_
 have e : aU x s = Cl.bad := by unfold aU; simp [hc1, hc7, hc12, hc13]
 rw [e]; rfl
 rfl
 (try simp only [fK, x33, x63, x35, x64, x39, Int.toNat_natCast] at hc12)
 refine zc hG [] [1, 1, 1, 1, 1, 0, 1, 0, 1] (decide ((x.toNat : Int) = 64)) aA (fun hc14 => ?_) (fun hc14 => ?_)
 (try simp only [fK, x33, x63, x35, x64, x39, Int.toNat_natCast] at hc14)
 refine zC hG [(18, 1, kC (y2 (fB s) (eK s)))] [1, 1, 0, 1, 1, 1, 1, 1, 0, 1, 0, 1] (eK s) (⟨[zX 4 100 0, zI 9 (fB s)], [(100, y12)]⟩) (aC (r4 s (by omega) : SpG g _ _ _ _ _)) (fun hc15 => ?_) (fun hc15 => ?_)
 (try simp only [fK, x33, x63, x35, x64, x39, Int.toNat_natCast] at hc15)
 refine zR hG [] [] (.agg [cI 3, cS (S []), cI 0, cI 0, cI (fB s), cN, cN]) [] aA ?_ ?_
 have e : aU x s = ⟨3, [], 0, 0, fB s⟩ := by unfold aU; simp [hc1, hc7, hc12, hc14, hc15]
 rw [e]
 rfl
 (try simp only [fK, x33, x63, x35, x64, x39, Int.toNat_natCast] at hc15)
 refine zR hG [] [] (y47) [] aA ?_ ?_
 have e : aU x s = Cl.bad := by unfold aU; simp [hc1, hc7, hc12, hc14, hc15]
 rw [e]; rfl
 rfl
 (try simp only [fK, x33, x63, x35, x64, x39, Int.toNat_natCast] at hc14)
 refine zC hG [] [1, 1, 1, 1, 1, 1, 1, 0, 1, 0, 1] (decide ((x.toNat : Int) = 39)) (⟨[zS 1 (S s), zX 4 100 0], [(100, y12)]⟩) aA (fun hc16 => ?_) (fun hc16 => ?_)
 (try simp only [fK, x33, x63, x35, x64, x39, Int.toNat_natCast] at hc16)
 refine zL hG [] [0, 1, 0, 1, 0, 1, 1, 1, 1, 1, 1, 1, 0, 1, 0, 1] (fun (zz : Nat × List UInt8 × ByteArray) => match zz with | (k, acc, o) => (s.length - k, ⟨[zS 1 (S s), zX 4 100 0, zS 11 o, zI 12 (k : Int)], [(100, y12)]⟩, k ≤ s.length ∧ kK s = acc ++ kK (s.drop k) ∧ acc.length ≤ k ∧ o = S acc)) (0, [], S []) aA ?_ ?_
 exact ⟨Nat.zero_le _, rfl, Nat.le_refl _, rfl⟩
 rintro ⟨k, acc, o⟩ ⟨hk, hq, hal, ho⟩
 refine zc hG [] [1, 0] (decide (((k : Int) + 1 : Int) < ((S s).size : Int))) (aC (by intros; first | omega | ((try rw [d4 (by (try simp only [aD] at *); omega)]); (try rw [ho]); (try simp only [rW] at *); omega) : inR ((k : Int) + 1))) (fun hc18 => ?_) (fun hc18 => ?_)
 (try simp only [fK, x33, x63, x35, x64, x39, Int.toNat_natCast] at hc18)
 refine zC hG [] [1, 1, 0, 0, 1] (decide ((byteAt (S s) (k : Int) : Int) = 39)) (⟨[zS 1 (S s), zX 4 100 0, zS 11 (o ++ ((S s).extract k ((k : Int) + 1 : Int).toNat)), zI 12 (k : Int)], [(100, y12)]⟩) (aB (by intros; first | omega | ((try rw [d4 (by (try simp only [aD] at *); omega)]); (try rw [ho]); (try simp only [rW] at *); omega) : inR ((k : Int) + 1)) (aB (by intros; first | omega | ((try rw [d4 (by (try simp only [aD] at *); omega)]); (try rw [ho]); (try simp only [rW] at *); omega) : (0 : Int) ≤ (k : Int) ∧ ((k : Int) : Int) ≤ ((k : Int) + 1) ∧ ((k : Int) + 1) ≤ ((S s).size : Int)) (aB (by intros; first | omega | ((try rw [d4 (by (try simp only [aD] at *); omega)]); (try rw [ho]); (try simp only [rW] at *); omega) : (o).size + ((S s).extract k ((k : Int) + 1 : Int).toNat).size ≤ maxLen) (aC (by intros; first | omega | ((try rw [d4 (by (try simp only [aD] at *); omega)]); (try rw [ho]); (try simp only [rW] at *); omega) : (0 : Int) ≤ (k : Int) ∧ (k : Int) < ((S s).size : Int)))))) (fun hc19 => ?_) (fun hc19 => ?_)
 (try simp only [fK, x33, x63, x35, x64, x39, Int.toNat_natCast] at hc19)
 refine zD hG [] (k + 1 + 1, acc ++ [s.getD k 0], o ++ ((S s).extract k ((k : Int) + 1 : Int).toNat)) (aB (by intros; first | omega | ((try rw [d4 (by (try simp only [aD] at *); omega)]); (try rw [ho]); (try simp only [rW] at *); omega) : inR ((k : Int) + 1)) (aC (by intros; first | omega | ((try rw [d4 (by (try simp only [aD] at *); omega)]); (try rw [ho]); (try simp only [rW] at *); omega) : inR (((k : Int) + 1) + 1)))) ?_ ?_
 (try dsimp only); omega
 refine ⟨by omega, ?_, by rw [pD acc]; omega, by rw [d4 (by omega), ho, aZ]⟩
 rw [hq, unq_1 (by omega) hc19]; simp
 (try simp only [fK, x33, x63, x35, x64, x39, Int.toNat_natCast] at hc19)
 refine zD hG [] (k + 1, acc ++ [s.getD k 0], o ++ ((S s).extract k ((k : Int) + 1 : Int).toNat)) (aC (by intros; first | omega | ((try rw [d4 (by (try simp only [aD] at *); omega)]); (try rw [ho]); (try simp only [rW] at *); omega) : inR ((k : Int) + 1))) ?_ ?_
 (try dsimp only); omega
 refine ⟨by omega, ?_, by rw [pD acc]; omega, by rw [d4 (by omega), ho, aZ]⟩
 rw [hq, unq_2 (by omega) hc19]; simp
 (try simp only [fK, x33, x63, x35, x64, x39, Int.toNat_natCast] at hc18)
 refine zE hG [] (.exit 3) (⟨[zX 4 100 0, zS 11 o], [(100, y12)]⟩) aA rfl ?_
 refine zR hG [] [] (.agg [cI 1, cS o, cI 0, cI 0, cI 0, cN, cN]) [] aA ?_ ?_
 have hu : kK s = acc := by rw [hq, unq_3 hk (by omega), List.append_nil]
 have e : aU x s = ⟨1, acc, 0, 0, 0⟩ := by
  unfold aU
  simp [hc1, hc7, hc12, hc14, hc16, hu]
 rw [e, ho]
 rfl
 (try simp only [fK, x33, x63, x35, x64, x39, Int.toNat_natCast] at hc16)
 refine zR hG [] [] (y47) [] aA ?_ ?_
 have e : aU x s = Cl.bad := by unfold aU; simp [hc1, hc7, hc12, hc14, hc16]
 rw [e]; rfl
 rfl
theorem aBU (x : UInt8) (s : List UInt8) (hl : s.length ≤ 100000000) : SpG g 62 [.c (.d (.y x.toNat)), .c (cS (S s))] [] (.agg (zW (aU x s))) [] :=
 oS [none, none, none, none, none, some 1, some 1] (plain_ x s hl)
end Go.Proofs.YtmpgfchkkemngaaGreatDoor
namespace Go.Proofs.YtmpgfchkkemngaaGreatDoor
open Go.RowKit Go.V
open Go.Eng (inR byteAt u8 bH)
variable {g : Gv}
theorem aF0 (s : List UInt8) (a b : Nat) : (sub s a b).length ≤ s.length := by unfold sub; rw [List.length_drop, List.length_take]; omega
theorem aC5 (s : List UInt8) (sep : Int) : ∀ k, (∀ w, w ∈ (gL s sep k).out → w.length ≤ s.length) ∧ (gL s sep k).out.length ≤ k
  | 0 => ⟨fun w hw => (by cases hw), Nat.le_refl _⟩
  | k + 1 => by
    obtain ⟨h1, h2⟩ := aC5 s sep k
    rw [gL]
    unfold iF
    repeat' split
    all_goals first
      | exact ⟨h1, by omega⟩
      | exact ⟨h1, by simp only; omega⟩
      | (refine ⟨fun w hw => ?_, by simp only [dG]; omega⟩
         rcases List.mem_append.1 hw with h | h
         · exact h1 w h
         · rw [List.mem_singleton] at h; rw [h]; exact aF0 _ _ _)
theorem mK (s : List UInt8) (sep : Int) : (∀ w, w ∈ aE s sep → w.length ≤ s.length) ∧ 1 ≤ (aE s sep).length ∧ (aE s sep).length ≤ s.length + 1 := by
 obtain ⟨h1, h2⟩ := aC5 s sep s.length
 unfold aE
 refine ⟨fun w hw => ?_, by simp, by simp; omega⟩
 rcases List.mem_append.1 hw with h | h
 exact h1 w h
 rw [List.mem_singleton] at h; rw [h]; exact aF0 _ _ _
theorem mB {l : List (List UInt8)} {m k : Nat} (h : ∀ w, w ∈ l → w.length ≤ m) : (l.getD k []).length ≤ m := by
 by_cases hk : k < l.length
 exact h _ (bW hk)
 have e : l.getD k [] = [] := by simp [hk]
 rw [e]; exact Nat.zero_le _
theorem sS : ∀ (n : Nat) (s : List UInt8), s.length ≤ n → (kK s).length ≤ s.length
 | _, [], _ => Nat.le_refl _
 | _, [x], _ => Nat.zero_le _
 | 0, x :: y :: r, h => by simp at h
 | n + 1, x :: y :: r, h => by
  have h1 := sS n r (by simp only [List.length_cons] at h; omega)
  have h2 := sS n (y :: r) (by simp only [List.length_cons] at h ⊢; omega)
  rw [kK]
  split
  simp only [List.length_cons]; omega
  simp only [List.length_cons] at h2 ⊢; omega
theorem tJ (x : UInt8) (s : List UInt8) : (aU x s).s.length ≤ s.length := by
 have h := sS s.length s (Nat.le_refl _)
 unfold aU
 repeat' split
 all_goals first | exact h | exact Nat.zero_le _
theorem sM (p : List UInt8) : ∀ w, w ∈ dA p → w.length ≤ p.length := by
 intro w hw
 unfold dA at hw
 split at hw
 cases hw
 exact (mK p 44).1 w hw
theorem aKD (p : List UInt8) : ∀ c, c ∈ oV p → c.s.length ≤ p.length := by
 intro c hc
 obtain ⟨w, hw, rfl⟩ := List.mem_map.1 hc
 have h1 := sM p w hw
 have h2 := tJ (w.headD 0) (w.drop 1)
 rw [List.length_drop] at h2; omega
theorem aD2 (s : List UInt8) (h : s.length ≤ maxLen) : (fP s).fit := by
 have hc := (mK s 59).1
 unfold fP
 split
 refine ⟨Nat.zero_le _, fun t ht => ?_, fun r hr c hcr => ?_⟩
 have h1 := sM _ t ht
 have h2 : ((aE s 59).headD []).length ≤ s.length := by
  cases hh : aE s 59 with
  | nil => exact Nat.zero_le _
  | cons a b => exact hc a (by rw [hh]; simp)
 omega
 obtain ⟨p, hp, rfl⟩ := List.mem_map.1 hr
 have h1 := aKD p c hcr
 have h2 := hc p (List.mem_of_mem_drop hp)
 omega
 exact ⟨Nat.zero_le _, fun t ht => (by cases ht), fun t ht => (by cases ht)⟩
theorem aBM (s : List UInt8) (h : s.length ≤ maxLen) : (iS s).fit := by
 cases s with
 | nil => exact ⟨Nat.zero_le _, fun t ht => (by cases ht), fun t ht => (by cases ht)⟩
 | cons x t =>
  rw [List.length_cons] at h
  rw [iS]
  split
  exact aD2 _ (by rw [List.length_take]; omega)
  have h1 := tJ x t
  exact ⟨by show (aU x t).s.length ≤ maxLen; omega, fun t ht => (by cases ht), fun t ht => (by cases ht)⟩
theorem aGH (w : List UInt8) (hw : w ≠ []) (hl : w.length ≤ 100000000) : SpG g 62 [.c (.d (.y (byteAt (S w) 0))), .c (cS ((S w).extract 1 (S w).size))] [] (.agg [.d (.i (aU (w.headD 0) (w.drop 1)).kind), cS (S (aU (w.headD 0) (w.drop 1)).s), .d (.i (aU (w.headD 0) (w.drop 1)).dn), .d (.i (aU (w.headD 0) (w.drop 1)).ds), .d (.i (aU (w.headD 0) (w.drop 1)).n), cM 1 [], cM 1 []]) [] := by
 cases w with
 | nil => exact absurd rfl hw
 | cons x t =>
  rw [gH, oO]
  exact aBU x t (by rw [List.length_cons] at hl; omega)
theorem r8 {l : List (List UInt8)} {i : Nat} (h1 : 1 ≤ i) (h : i < l.length) : (l.take (i + 1)).drop 1 = (l.take i).drop 1 ++ [l.getD i []] := by
 rw [mV [] h, List.drop_append_of_le_length (by rw [List.length_take]; omega)]
theorem aEX (l : List (List UInt8)) : l.headD [] = l.getD 0 [] := by cases l <;> rfl
def d6 (s : List UInt8) : Bool := mJ s 59 && ((aE s 59).drop 1).all nR
theorem aHL {s : List UInt8} (h : d6 s = false) : fP s = Cl.bad.toV := by
 unfold d6 at h
 unfold fP
 rw [if_neg]
 rintro ⟨h1, h2⟩
 rw [h1, h2] at h; cases h
theorem aD1 {s : List UInt8} (h : d6 s = true) : fP s = ⟨5, [], 0, 0, 0, dA ((aE s 59).getD 0 []), ((aE s 59).drop 1).map oV⟩ := by
 unfold d6 at h
 rw [Bool.and_eq_true] at h
 unfold fP
 rw [if_pos h, aEX]
theorem vV {p : List UInt8} (h : p = []) : dA p = [] := by rw [dA, if_pos h]
theorem kG {p : List UInt8} (h : ¬ p = []) : dA p = aE p 44 := by rw [dA, if_neg h]
theorem wB {p : List UInt8} {j : Nat} (hp : ¬ p = []) (hj : j < (aE p 44).length) (h : (aE p 44).getD j [] = []) : nR p = false := by
 rw [nR, kG hp, Bool.eq_false_iff]
 intro ha
 have := List.all_eq_true.1 ha _ (bW (z := []) hj)
 rw [h] at this; cases this
theorem aHD {s : List UInt8} {i : Nat} (h1 : 1 ≤ i) (hi : i < (aE s 59).length) (h : nR ((aE s 59).getD i []) = false) : d6 s = false := by
 rw [d6, Bool.and_eq_false_iff]
 right
 rw [Bool.eq_false_iff]
 intro ha
 have hm : (aE s 59).getD i [] ∈ (aE s 59).drop 1 := by
  obtain ⟨m, rfl⟩ : ∃ m, i = m + 1 := ⟨i - 1, by omega⟩
  rw [List.mem_iff_getElem]
  exact ⟨m, by rw [List.length_drop]; omega, by simp [hi]⟩
 rw [List.all_eq_true.1 ha _ hm] at h; cases h
theorem vT {p : List UInt8} {j : Nat} (hj : j ≤ (aE p 44).length) (h : ¬ j < (aE p 44).length ∨ p = []) : (dA p).take j = dA p := by
 by_cases hp : p = []
 ·rw [vV hp]; simp
 ·rw [kG hp]
  exact List.take_of_length_le (by rcases h with h | h; (· omega); exact absurd h hp)
theorem wC {p : List UInt8} {j : Nat} (hp : ¬ p = []) (hj : j < (aE p 44).length) (h : ¬ (aE p 44).getD j [] = []) (ha : ((dA p).take j).all (fun w => !(w.isEmpty)) = true) :
  ((dA p).take (j + 1)).map (fun w => aU (w.headD 0) (w.drop 1)) = ((dA p).take j).map (fun w => aU (w.headD 0) (w.drop 1)) ++ [aU (((aE p 44).getD j []).headD 0) (((aE p 44).getD j []).drop 1)] ∧ ((dA p).take (j + 1)).all (fun w => !(w.isEmpty)) = true := by
 rw [kG hp] at ha ⊢
 rw [mV [] hj]
 refine ⟨by rw [List.map_append]; rfl, ?_⟩
 rw [List.all_append, ha, List.all_cons, List.all_nil]
 cases hc : (aE p 44).getD j [] with
 | nil => exact absurd hc h
 | cons x t => rfl
theorem table_B (_s : ByteArray) (x : UInt8) (t : List UInt8) : (S (x :: t)).extract 1 (if (1 : Int) > ((S (x :: t)).size : Int) - 1 then 1 else ((S (x :: t)).size : Int) - 1).toNat = S (t.take (t.length - 1)) := by
 rw [hO, aD, List.length_cons]
 congr 1
 cases t with
 | nil => rfl
 | cons y t =>
  have e : (if (1 : Int) > ((((y :: t).length + 1 : Nat) : Int)) - 1 then 1 else ((((y :: t).length + 1 : Nat) : Int)) - 1).toNat = t.length + 1 := by
   rw [List.length_cons]; split <;> omega
  rw [e, List.take_succ_cons, List.drop_succ_cons, List.drop_zero, List.length_cons]; rfl
def nO := And.intro @List.length_map.{0, 0} (And.intro @dX (And.intro @xT (And.intro @aD (And.intro @blS (@strs.eq_1)))))
def rV := And.intro @List.length_append.{0} (And.intro @List.length_cons.{0} (And.intro @List.length_map.{0, 0} (And.intro @List.length_nil.{0} (And.intro @aD (And.intro @Go.Eng.inR.eq_1 (And.intro @rowD.eq_1 (And.intro @rowsD.eq_1 (And.intro @strs.eq_1 (@valsD.eq_1)))))))))
abbrev y48 (a0 : List (List D)) : Ob := .box 30 [cI 5, cS (S []), cI 0, cI 0, cI 0, cM 1 a0, .ar 9002 0]
abbrev y49 : Ob := .box 30 [cI (-1), cS (S []), cI 0, cI 0, cI 0, cN, cN]
abbrev y50 : Ob := .box 30 [cI 5, cS (S []), cI 0, cI 0, cI 0, cN, .ar 9002 0]
theorem aHY (s : List UInt8) (hl : s.length ≤ 100000000) :
  SpG g 61 [.c (cS (S s))] [] (if d6 s = true then (if ((aE s 59).getD 0 []) = [] then .agg [cI 5, cS (S []), cI 0, cI 0, cI 0, cN, cM 1 (rowsD (((aE s 59).drop 1).map oV))] else y13 (strs (aE ((aE s 59).getD 0 []) 44)) (rowsD (((aE s 59).drop 1).map oV))) else y47) [] := by
 have hcl := mK s 59
 have hp0 : ((aE s 59).getD 0 []).length ≤ s.length := mB hcl.1
 refine aF 87 Tryz.func61 (by kernel_rfl) fun fr hG => ?_
 refine zC hG [(2, 1, kC (y17 (strs (aE s 59)) (mJ s 59)))] [1, 0, 1, 1, 1] (!(mJ s 59)) (⟨[zX 2 100 0, zX 3 201 0, zM 4 1 (strs (aE s 59))], [(100, y12), (201, y14)]⟩) (aC (z7 s 59 (by omega) : SpG g _ _ _ _ _)) (fun hc1 => ?_) (fun hc1 => ?_)
 ·(try simp only [nO] at hc1)
  refine zR hG [] [] (y47) [] aA ?_ ?_
  ·have e : d6 s = false := by rw [d6, hc1]; rfl
   rw [e]; rfl
  ·rfl
 ·(try simp only [nO] at hc1)
  refine zc hG [(5, 1, .elem (bK ((aE s 59).getD 0 [])))] [1, 0, 1, 1, 1, 1] (!((S ((aE s 59).getD 0 [])).toList == (S []).toList)) (aC (by intros; exact aY [] (by omega) (by (try simp only [zq4] at *); omega) : (0 : Int) ≤ 0 ∧ (strs (aE s 59))[0]? = some (bK ((aE s 59).getD 0 [])))) (fun hc2 => ?_) (fun hc2 => ?_)
  ·(try simp only [nO] at hc2)
   refine zA hG [(6, 1, .elem (bK ((aE s 59).getD 0 []))), (6, 3, kC (y17 (strs (aE ((aE s 59).getD 0 []) 44)) (mJ ((aE s 59).getD 0 []) 44)))] [0, 1, 0, 1, 1, 1, 1, 1] (⟨[zX 2 100 0, zX 3 201 0, zM 4 1 (strs (aE s 59)), zI 6 1], [(100, y12), (201, .box 30 [cI 5, cS (S []), cI 0, cI 0, cI 0, cM 1 (strs (aE ((aE s 59).getD 0 []) 44)), cN])]⟩) [] [(201, 6, 9002, 33, 1)] (fun (zz : Nat × List (List Cl) × List (List D)) => match zz with | (i, acc2, es2) => ((aE s 59).length - i, ⟨[zX 2 100 0, zX 3 201 0, zM 4 1 (strs (aE s 59)), zI 6 (i : Int)], [(100, y12), (201, y48 (strs (aE ((aE s 59).getD 0 []) 44))), (9002, .arr 0 33 1 (es2))]⟩, 1 ≤ i ∧ i ≤ (aE s 59).length ∧ es2 = rowsD acc2 ∧ acc2 = (((aE s 59).take i).drop 1).map oV ∧ (((aE s 59).take i).drop 1).all nR = true)) (1, [], []) (aB (by intros; exact aY [] (by omega) (by (try simp only [zq4] at *); omega) : (0 : Int) ≤ 0 ∧ (strs (aE s 59))[0]? = some (bK ((aE s 59).getD 0 []))) (aC (z7 ((aE s 59).getD 0 []) 44 (by omega) : SpG g _ _ _ _ _))) ?_ ?_
   ·have hd1 : ((aE s 59).take 1).drop 1 = [] := List.drop_eq_nil_of_le (by rw [List.length_take]; omega)
    exact ⟨Nat.le_refl _, hcl.2.1, rfl, by rw [hd1]; rfl, by rw [hd1]; rfl⟩
   rintro ⟨i, acc2, es2⟩ ⟨hi1, hi, hes2, hacc, hall⟩
   have hal : acc2.length + 1 = i := by rw [hacc, List.length_map, List.length_drop, List.length_take]; omega
   have hel2 : es2.length = acc2.length := by rw [hes2, rowsD, List.length_map]
   have hpl : ((aE s 59).getD i []).length ≤ s.length := mB hcl.1
   have hcp := mK ((aE s 59).getD i []) 44
   refine zc hG [] [1, 0] (decide (((i : Int) : Int) < ((strs (aE s 59)).length : Int))) aA (fun hc4 => ?_) (fun hc4 => ?_)
   ·(try simp only [nO] at hc4)
    refine zA hG [(11, 2, .elem (bK ((aE s 59).getD i []))), (11, 4, kC (y17 (strs (aE ((aE s 59).getD i []) 44)) (mJ ((aE s 59).getD i []) 44)))] [0, 1, 0, 1, 1, 0, 0, 1] (⟨[zX 2 100 0, zX 3 201 0, zM 4 1 (strs (aE s 59)), zI 6 (i : Int), zN 7, zM 8 1 (strs (aE ((aE s 59).getD i []) 44)), zI 10 0], [(100, y12), (201, y48 (strs (aE ((aE s 59).getD 0 []) 44))), (9002, .arr 0 33 1 (es2))]⟩) [(7, 9004, 30, 7)] [] (fun (zz : Nat × List Cl × List (List D)) => match zz with | (j, accr, esr) => ((aE ((aE s 59).getD i []) 44).length - j, ⟨[zX 2 100 0, zX 3 201 0, zM 4 1 (strs (aE s 59)), zI 6 (i : Int), zY 7 9004 0, zM 8 1 (strs (aE ((aE s 59).getD i []) 44)), zI 10 (j : Int)], [(100, y12), (201, y48 (strs (aE ((aE s 59).getD 0 []) 44))), (9002, .arr 0 33 1 (es2)), (9004, .arr 0 30 7 (esr))]⟩, j ≤ (aE ((aE s 59).getD i []) 44).length ∧ esr = rowD accr ∧ accr = ((dA ((aE s 59).getD i [])).take j).map (fun w => aU (w.headD 0) (w.drop 1)) ∧ ((dA ((aE s 59).getD i [])).take j).all (fun w => !(w.isEmpty)) = true)) (0, [], []) (aB (by intros; exact aY [] (by omega) (by (try simp only [zq4] at *); omega) : (0 : Int) ≤ (i : Int) ∧ (strs (aE s 59))[i]? = some (bK ((aE s 59).getD i []))) (aC (z7 ((aE s 59).getD i []) 44 (by omega) : SpG g _ _ _ _ _))) ?_ ?_
    ·exact ⟨Nat.zero_le _, rfl, rfl, rfl⟩
    rintro ⟨j, accr, esr⟩ ⟨hj, hesr, haccr, hallr⟩
    have helr : esr.length = accr.length := by rw [hesr, rowD, List.length_map]
    have halr : accr.length ≤ j := by rw [haccr, List.length_map, List.length_take]; omega
    have hwl : ((aE ((aE s 59).getD i []) 44).getD j []).length ≤ s.length := Nat.le_trans (mB hcp.1) hpl
    refine zc hG [(13, 7, .elem (bK ((aE s 59).getD i [])))] [1, 0] ((decide (((j : Int) : Int) < ((strs (aE ((aE s 59).getD i []) 44)).length : Int))) && (!((S ((aE s 59).getD i [])).toList == (S []).toList))) (aC (by intros; exact aY [] (by omega) (by (try simp only [zq4] at *); omega) : (decide (((j : Int) : Int) < ((strs (aE ((aE s 59).getD i []) 44)).length : Int))) = true → (0 : Int) ≤ (i : Int) ∧ (strs (aE s 59))[i]? = some (bK ((aE s 59).getD i [])))) (fun hc6 => ?_) (fun hc6 => ?_)
    ·(try simp only [nO] at hc6)
     refine zc hG [(15, 2, .elem (bK ((aE ((aE s 59).getD i []) 44).getD j [])))] [1, 0, 0, 0, 1] (decide ((((S ((aE ((aE s 59).getD i []) 44).getD j [])).size : Int) : Int) = 0)) (aC (by intros; exact aY [] (by omega) (by (try simp only [zq4] at *); omega) : (0 : Int) ≤ (j : Int) ∧ (strs (aE ((aE s 59).getD i []) 44))[j]? = some (bK ((aE ((aE s 59).getD i []) 44).getD j [])))) (fun hc7 => ?_) (fun hc7 => ?_)
     ·(try simp only [nO] at hc7)
      refine zE hG [] .ret (⟨[zX 2 100 0, zX 3 201 0, zM 4 1 (strs (aE s 59)), zI 6 (i : Int), zY 7 9004 0], [(100, y49), (201, y48 (strs (aE ((aE s 59).getD 0 []) 44))), (9002, .arr 0 33 1 (es2)), (9004, .arr 0 30 7 (esr))]⟩) aA rfl ?_
      refine zE hG [] .ret (⟨[zX 2 100 0, zX 3 201 0], [(100, y49), (201, y48 (strs (aE ((aE s 59).getD 0 []) 44))), (9002, .arr 0 33 1 (es2))]⟩) aA rfl ?_
      refine zR hG [] [] (y47) [] aA ?_ ?_
      ·have e : d6 s = false := aHD hi1 (by omega) (wB (p := (aE s 59).getD i []) (j := j) hc6.2 (by omega) (List.length_eq_zero_iff.1 (by omega)))
       rw [e]; rfl
      ·rfl
     ·(try simp only [nO] at hc7)
      refine zD hG [(17, 3, .elem (bK ((aE ((aE s 59).getD i []) 44).getD j []))), (17, 8, .elem (bK ((aE ((aE s 59).getD i []) 44).getD j []))), (17, 11, kC (.agg (zW (aU (((aE ((aE s 59).getD i []) 44).getD j []).headD 0) (((aE ((aE s 59).getD i []) 44).getD j []).drop 1)))))] (j + 1, accr ++ [aU (((aE ((aE s 59).getD i []) 44).getD j []).headD 0) (((aE ((aE s 59).getD i []) 44).getD j []).drop 1)], esr ++ ([[.i ((aU (((aE ((aE s 59).getD i []) 44).getD j []).headD 0) (((aE ((aE s 59).getD i []) 44).getD j []).drop 1)).kind), .s (S (aU (((aE ((aE s 59).getD i []) 44).getD j []).headD 0) (((aE ((aE s 59).getD i []) 44).getD j []).drop 1)).s), .i ((aU (((aE ((aE s 59).getD i []) 44).getD j []).headD 0) (((aE ((aE s 59).getD i []) 44).getD j []).drop 1)).dn), .i ((aU (((aE ((aE s 59).getD i []) 44).getD j []).headD 0) (((aE ((aE s 59).getD i []) 44).getD j []).drop 1)).ds), .i ((aU (((aE ((aE s 59).getD i []) 44).getD j []).headD 0) (((aE ((aE s 59).getD i []) 44).getD j []).drop 1)).n), .sl 1 ([]), .sl 1 ([])]] : List (List D))) (aB (by intros; exact aY [] (by omega) (by (try simp only [zq4] at *); omega) : (0 : Int) ≤ (j : Int) ∧ (strs (aE ((aE s 59).getD i []) 44))[j]? = some (bK ((aE ((aE s 59).getD i []) 44).getD j []))) (aB (by intros; (try simp only [rV] at *); omega : (0 : Int) ≤ 0 ∧ 0 < ((S ((aE ((aE s 59).getD i []) 44).getD j [])).size : Int)) (aB (by intros; exact aY [] (by omega) (by (try simp only [zq4] at *); omega) : (0 : Int) ≤ (j : Int) ∧ (strs (aE ((aE s 59).getD i []) 44))[j]? = some (bK ((aE ((aE s 59).getD i []) 44).getD j []))) (aB (by intros; (try simp only [rV] at *); omega : (0 : Int) ≤ 1 ∧ (1 : Int) ≤ ((S ((aE ((aE s 59).getD i []) 44).getD j [])).size : Int) ∧ ((S ((aE ((aE s 59).getD i []) 44).getD j [])).size : Int) ≤ ((S ((aE ((aE s 59).getD i []) 44).getD j [])).size : Int)) (aB (aGH ((aE ((aE s 59).getD i []) 44).getD j []) (fun e => hc7 (by rw [e]; rfl)) (by omega) : SpG g _ _ _ _ _) (aB (by intros; (try simp only [rV] at *); omega : ((esr).length + ([[.i ((aU (((aE ((aE s 59).getD i []) 44).getD j []).headD 0) (((aE ((aE s 59).getD i []) 44).getD j []).drop 1)).kind), .s (S (aU (((aE ((aE s 59).getD i []) 44).getD j []).headD 0) (((aE ((aE s 59).getD i []) 44).getD j []).drop 1)).s), .i ((aU (((aE ((aE s 59).getD i []) 44).getD j []).headD 0) (((aE ((aE s 59).getD i []) 44).getD j []).drop 1)).dn), .i ((aU (((aE ((aE s 59).getD i []) 44).getD j []).headD 0) (((aE ((aE s 59).getD i []) 44).getD j []).drop 1)).ds), .i ((aU (((aE ((aE s 59).getD i []) 44).getD j []).headD 0) (((aE ((aE s 59).getD i []) 44).getD j []).drop 1)).n), .sl 1 ([]), .sl 1 ([])]] : List (List D)).length) * (96 + 1) ≤ 140737488355328) (aC (by intros; (try simp only [rV] at *); omega : inR ((j : Int) + 1))))))))) ?_ ?_
      ·(try dsimp only); omega
      ·have hw0 : ¬ ((aE ((aE s 59).getD i []) 44).getD j []) = [] := fun e => hc7 (by rw [e]; rfl)
       obtain ⟨q1, q2⟩ := wC hc6.2 (by omega) hw0 hallr
       exact ⟨by omega, mW _ hesr, by rw [q1, ← haccr], q2⟩
    ·(try simp only [nO] at hc6)
     refine zE hG [] (.exit 2) (⟨[zX 2 100 0, zX 3 201 0, zM 4 1 (strs (aE s 59)), zI 6 (i : Int), zY 7 9004 0], [(100, y12), (201, y48 (strs (aE ((aE s 59).getD 0 []) 44))), (9002, .arr 0 33 1 (es2)), (9004, .arr 0 30 7 (esr))]⟩) aA rfl ?_
     refine fV hG (⟨[zX 2 100 0, zX 3 201 0, zM 4 1 (strs (aE s 59)), zI 6 (i : Int), zM 7 7 (esr)], [(100, y12), (201, y48 (strs (aE ((aE s 59).getD 0 []) 44))), (9002, .arr 0 33 1 (es2))]⟩) (by kernel_rfl) ?_
     refine zD hG [] (i + 1, acc2 ++ [oV ((aE s 59).getD i [])], es2 ++ ([[.sl 7 (esr)]] : List (List D))) (aB (by intros; (try simp only [rV] at *); omega : ((es2).length + (([[.sl 7 (esr)]] : List (List D))).length) * (24 + 1) ≤ 140737488355328) (aC (by intros; (try simp only [rV] at *); omega : inR ((i : Int) + 1)))) ?_ ?_
     ·(try dsimp only); omega
     ·have hw := vT hj (by rcases hc6 with h | h; (· exact .inl (by omega)); exact .inr h)
      rw [hw] at haccr hallr
      refine ⟨by omega, by omega, ?_, ?_, ?_⟩
      ·rw [hesr, haccr]; exact kN (oV _) hes2
      ·rw [r8 hi1 (by omega), List.map_append, ← hacc]; rfl
      ·rw [r8 hi1 (by omega), List.all_append, hall, List.all_cons, List.all_nil]
       simp only [Bool.true_and, Bool.and_true]; exact hallr
   ·(try simp only [nO] at hc4)
    refine zE hG [] (.exit 0) (⟨[zX 2 100 0, zX 3 201 0], [(100, y12), (201, y48 (strs (aE ((aE s 59).getD 0 []) 44))), (9002, .arr 0 33 1 (es2))]⟩) aA rfl ?_
    refine zR hG [] [] (y13 (strs (aE ((aE s 59).getD 0 []) 44)) (es2)) [] aA ?_ ?_
    ·have hti : (aE s 59).take i = aE s 59 := List.take_of_length_le (by omega)
     rw [hti] at hacc hall
     have e : d6 s = true := by rw [d6, hall, hc1]; rfl
     rw [if_pos e, if_neg hc2, hes2, hacc]
    ·rfl
  ·(try simp only [nO] at hc2)
   refine zA hG [] [0, 1, 0, 1, 1, 1, 1, 1] (⟨[zX 2 100 0, zX 3 201 0, zM 4 1 (strs (aE s 59)), zI 6 1], [(100, y12), (201, y14)]⟩) [] [(201, 6, 9002, 33, 1)] (fun (zz : Nat × List (List Cl) × List (List D)) => match zz with | (i, acc2, es2) => ((aE s 59).length - i, ⟨[zX 2 100 0, zX 3 201 0, zM 4 1 (strs (aE s 59)), zI 6 (i : Int)], [(100, y12), (201, y50), (9002, .arr 0 33 1 (es2))]⟩, 1 ≤ i ∧ i ≤ (aE s 59).length ∧ es2 = rowsD acc2 ∧ acc2 = (((aE s 59).take i).drop 1).map oV ∧ (((aE s 59).take i).drop 1).all nR = true)) (1, [], []) aA ?_ ?_
   ·have hd1 : ((aE s 59).take 1).drop 1 = [] := List.drop_eq_nil_of_le (by rw [List.length_take]; omega)
    exact ⟨Nat.le_refl _, hcl.2.1, rfl, by rw [hd1]; rfl, by rw [hd1]; rfl⟩
   rintro ⟨i, acc2, es2⟩ ⟨hi1, hi, hes2, hacc, hall⟩
   have hal : acc2.length + 1 = i := by rw [hacc, List.length_map, List.length_drop, List.length_take]; omega
   have hel2 : es2.length = acc2.length := by rw [hes2, rowsD, List.length_map]
   have hpl : ((aE s 59).getD i []).length ≤ s.length := mB hcl.1
   have hcp := mK ((aE s 59).getD i []) 44
   refine zc hG [] [1, 0] (decide (((i : Int) : Int) < ((strs (aE s 59)).length : Int))) aA (fun hc9 => ?_) (fun hc9 => ?_)
   ·(try simp only [nO] at hc9)
    refine zA hG [(11, 2, .elem (bK ((aE s 59).getD i []))), (11, 4, kC (y17 (strs (aE ((aE s 59).getD i []) 44)) (mJ ((aE s 59).getD i []) 44)))] [0, 1, 0, 1, 1, 0, 0, 1] (⟨[zX 2 100 0, zX 3 201 0, zM 4 1 (strs (aE s 59)), zI 6 (i : Int), zN 7, zM 8 1 (strs (aE ((aE s 59).getD i []) 44)), zI 10 0], [(100, y12), (201, y50), (9002, .arr 0 33 1 (es2))]⟩) [(7, 9004, 30, 7)] [] (fun (zz : Nat × List Cl × List (List D)) => match zz with | (j, accr, esr) => ((aE ((aE s 59).getD i []) 44).length - j, ⟨[zX 2 100 0, zX 3 201 0, zM 4 1 (strs (aE s 59)), zI 6 (i : Int), zY 7 9004 0, zM 8 1 (strs (aE ((aE s 59).getD i []) 44)), zI 10 (j : Int)], [(100, y12), (201, y50), (9002, .arr 0 33 1 (es2)), (9004, .arr 0 30 7 (esr))]⟩, j ≤ (aE ((aE s 59).getD i []) 44).length ∧ esr = rowD accr ∧ accr = ((dA ((aE s 59).getD i [])).take j).map (fun w => aU (w.headD 0) (w.drop 1)) ∧ ((dA ((aE s 59).getD i [])).take j).all (fun w => !(w.isEmpty)) = true)) (0, [], []) (aB (by intros; exact aY [] (by omega) (by (try simp only [zq4] at *); omega) : (0 : Int) ≤ (i : Int) ∧ (strs (aE s 59))[i]? = some (bK ((aE s 59).getD i []))) (aC (z7 ((aE s 59).getD i []) 44 (by omega) : SpG g _ _ _ _ _))) ?_ ?_
    ·exact ⟨Nat.zero_le _, rfl, rfl, rfl⟩
    rintro ⟨j, accr, esr⟩ ⟨hj, hesr, haccr, hallr⟩
    have helr : esr.length = accr.length := by rw [hesr, rowD, List.length_map]
    have halr : accr.length ≤ j := by rw [haccr, List.length_map, List.length_take]; omega
    have hwl : ((aE ((aE s 59).getD i []) 44).getD j []).length ≤ s.length := Nat.le_trans (mB hcp.1) hpl
    refine zc hG [(13, 7, .elem (bK ((aE s 59).getD i [])))] [1, 0] ((decide (((j : Int) : Int) < ((strs (aE ((aE s 59).getD i []) 44)).length : Int))) && (!((S ((aE s 59).getD i [])).toList == (S []).toList))) (aC (by intros; exact aY [] (by omega) (by (try simp only [zq4] at *); omega) : (decide (((j : Int) : Int) < ((strs (aE ((aE s 59).getD i []) 44)).length : Int))) = true → (0 : Int) ≤ (i : Int) ∧ (strs (aE s 59))[i]? = some (bK ((aE s 59).getD i [])))) (fun hc11 => ?_) (fun hc11 => ?_)
    ·(try simp only [nO] at hc11)
     refine zc hG [(15, 2, .elem (bK ((aE ((aE s 59).getD i []) 44).getD j [])))] [1, 0, 0, 0, 1] (decide ((((S ((aE ((aE s 59).getD i []) 44).getD j [])).size : Int) : Int) = 0)) (aC (by intros; exact aY [] (by omega) (by (try simp only [zq4] at *); omega) : (0 : Int) ≤ (j : Int) ∧ (strs (aE ((aE s 59).getD i []) 44))[j]? = some (bK ((aE ((aE s 59).getD i []) 44).getD j [])))) (fun hc12 => ?_) (fun hc12 => ?_)
     ·(try simp only [nO] at hc12)
      refine zE hG [] .ret (⟨[zX 2 100 0, zX 3 201 0, zM 4 1 (strs (aE s 59)), zI 6 (i : Int), zY 7 9004 0], [(100, y49), (201, y50), (9002, .arr 0 33 1 (es2)), (9004, .arr 0 30 7 (esr))]⟩) aA rfl ?_
      refine zE hG [] .ret (⟨[zX 2 100 0, zX 3 201 0], [(100, y49), (201, y50), (9002, .arr 0 33 1 (es2))]⟩) aA rfl ?_
      refine zR hG [] [] (y47) [] aA ?_ ?_
      ·have e : d6 s = false := aHD hi1 (by omega) (wB (p := (aE s 59).getD i []) (j := j) hc11.2 (by omega) (List.length_eq_zero_iff.1 (by omega)))
       rw [e]; rfl
      ·rfl
     ·(try simp only [nO] at hc12)
      refine zD hG [(17, 3, .elem (bK ((aE ((aE s 59).getD i []) 44).getD j []))), (17, 8, .elem (bK ((aE ((aE s 59).getD i []) 44).getD j []))), (17, 11, kC (.agg (zW (aU (((aE ((aE s 59).getD i []) 44).getD j []).headD 0) (((aE ((aE s 59).getD i []) 44).getD j []).drop 1)))))] (j + 1, accr ++ [aU (((aE ((aE s 59).getD i []) 44).getD j []).headD 0) (((aE ((aE s 59).getD i []) 44).getD j []).drop 1)], esr ++ ([[.i ((aU (((aE ((aE s 59).getD i []) 44).getD j []).headD 0) (((aE ((aE s 59).getD i []) 44).getD j []).drop 1)).kind), .s (S (aU (((aE ((aE s 59).getD i []) 44).getD j []).headD 0) (((aE ((aE s 59).getD i []) 44).getD j []).drop 1)).s), .i ((aU (((aE ((aE s 59).getD i []) 44).getD j []).headD 0) (((aE ((aE s 59).getD i []) 44).getD j []).drop 1)).dn), .i ((aU (((aE ((aE s 59).getD i []) 44).getD j []).headD 0) (((aE ((aE s 59).getD i []) 44).getD j []).drop 1)).ds), .i ((aU (((aE ((aE s 59).getD i []) 44).getD j []).headD 0) (((aE ((aE s 59).getD i []) 44).getD j []).drop 1)).n), .sl 1 ([]), .sl 1 ([])]] : List (List D))) (aB (by intros; exact aY [] (by omega) (by (try simp only [zq4] at *); omega) : (0 : Int) ≤ (j : Int) ∧ (strs (aE ((aE s 59).getD i []) 44))[j]? = some (bK ((aE ((aE s 59).getD i []) 44).getD j []))) (aB (by intros; (try simp only [rV] at *); omega : (0 : Int) ≤ 0 ∧ 0 < ((S ((aE ((aE s 59).getD i []) 44).getD j [])).size : Int)) (aB (by intros; exact aY [] (by omega) (by (try simp only [zq4] at *); omega) : (0 : Int) ≤ (j : Int) ∧ (strs (aE ((aE s 59).getD i []) 44))[j]? = some (bK ((aE ((aE s 59).getD i []) 44).getD j []))) (aB (by intros; (try simp only [rV] at *); omega : (0 : Int) ≤ 1 ∧ (1 : Int) ≤ ((S ((aE ((aE s 59).getD i []) 44).getD j [])).size : Int) ∧ ((S ((aE ((aE s 59).getD i []) 44).getD j [])).size : Int) ≤ ((S ((aE ((aE s 59).getD i []) 44).getD j [])).size : Int)) (aB (aGH ((aE ((aE s 59).getD i []) 44).getD j []) (fun e => hc12 (by rw [e]; rfl)) (by omega) : SpG g _ _ _ _ _) (aB (by intros; (try simp only [rV] at *); omega : ((esr).length + ([[.i ((aU (((aE ((aE s 59).getD i []) 44).getD j []).headD 0) (((aE ((aE s 59).getD i []) 44).getD j []).drop 1)).kind), .s (S (aU (((aE ((aE s 59).getD i []) 44).getD j []).headD 0) (((aE ((aE s 59).getD i []) 44).getD j []).drop 1)).s), .i ((aU (((aE ((aE s 59).getD i []) 44).getD j []).headD 0) (((aE ((aE s 59).getD i []) 44).getD j []).drop 1)).dn), .i ((aU (((aE ((aE s 59).getD i []) 44).getD j []).headD 0) (((aE ((aE s 59).getD i []) 44).getD j []).drop 1)).ds), .i ((aU (((aE ((aE s 59).getD i []) 44).getD j []).headD 0) (((aE ((aE s 59).getD i []) 44).getD j []).drop 1)).n), .sl 1 ([]), .sl 1 ([])]] : List (List D)).length) * (96 + 1) ≤ 140737488355328) (aC (by intros; (try simp only [rV] at *); omega : inR ((j : Int) + 1))))))))) ?_ ?_
      ·(try dsimp only); omega
      ·have hw0 : ¬ ((aE ((aE s 59).getD i []) 44).getD j []) = [] := fun e => hc12 (by rw [e]; rfl)
       obtain ⟨q1, q2⟩ := wC hc11.2 (by omega) hw0 hallr
       exact ⟨by omega, mW _ hesr, by rw [q1, ← haccr], q2⟩
    ·(try simp only [nO] at hc11)
     refine zE hG [] (.exit 2) (⟨[zX 2 100 0, zX 3 201 0, zM 4 1 (strs (aE s 59)), zI 6 (i : Int), zY 7 9004 0], [(100, y12), (201, y50), (9002, .arr 0 33 1 (es2)), (9004, .arr 0 30 7 (esr))]⟩) aA rfl ?_
     refine fV hG (⟨[zX 2 100 0, zX 3 201 0, zM 4 1 (strs (aE s 59)), zI 6 (i : Int), zM 7 7 (esr)], [(100, y12), (201, y50), (9002, .arr 0 33 1 (es2))]⟩) (by kernel_rfl) ?_
     refine zD hG [] (i + 1, acc2 ++ [oV ((aE s 59).getD i [])], es2 ++ ([[.sl 7 (esr)]] : List (List D))) (aB (by intros; (try simp only [rV] at *); omega : ((es2).length + (([[.sl 7 (esr)]] : List (List D))).length) * (24 + 1) ≤ 140737488355328) (aC (by intros; (try simp only [rV] at *); omega : inR ((i : Int) + 1)))) ?_ ?_
     ·(try dsimp only); omega
     ·have hw := vT hj (by rcases hc11 with h | h; (· exact .inl (by omega)); exact .inr h)
      rw [hw] at haccr hallr
      refine ⟨by omega, by omega, ?_, ?_, ?_⟩
      ·rw [hesr, haccr]; exact kN (oV _) hes2
      ·rw [r8 hi1 (by omega), List.map_append, ← hacc]; rfl
      ·rw [r8 hi1 (by omega), List.all_append, hall, List.all_cons, List.all_nil]
       simp only [Bool.true_and, Bool.and_true]; exact hallr
   ·(try simp only [nO] at hc9)
    refine zE hG [] (.exit 0) (⟨[zX 2 100 0, zX 3 201 0], [(100, y12), (201, y50), (9002, .arr 0 33 1 (es2))]⟩) aA rfl ?_
    refine zR hG [] [] (.agg [cI 5, cS (S []), cI 0, cI 0, cI 0, cN, cM 1 (es2)]) [] aA ?_ ?_
    ·have hti : (aE s 59).take i = aE s 59 := List.take_of_length_le (by omega)
     rw [hti] at hacc hall
     have e : d6 s = true := by rw [d6, hall, hc1]; rfl
     rw [if_pos e, if_pos hc2, hes2, hacc]
    ·rfl
theorem aBE (s : List UInt8) (hl : s.length ≤ 100000000) : SpG g 61 [.c (cS (S s))] [] (.agg (zV (fP s))) [] := by
 have h := aHY (g := g) s hl
 cases hb : d6 s with
 | false =>
  rw [hb, if_neg (by decide)] at h
  rw [aHL hb]
  exact oS [none, none, none, none, none, some 1, some 1] h
 | true =>
  rw [if_pos hb] at h
  rw [aD1 hb]
  by_cases hp : ((aE s 59).getD 0 []) = []
  rw [if_pos hp] at h
  simp only [vV hp]
  exact oS [none, none, none, none, none, some 1, some 1] h
  rw [if_neg hp] at h
  simp only [kG hp]
  exact h
theorem table_X (x : UInt8) (t : List UInt8) (hl : t.length ≤ 100000000) : SpG g 61 [.c (cS ((S (x :: t)).extract 1 (if (1 : Int) > ((S (x :: t)).size : Int) - 1 then 1 else ((S (x :: t)).size : Int) - 1).toNat))] [] (.agg (zV (fP (t.take (t.length - 1))))) [] := by
 rw [table_B (S (x :: t)) x t]
 exact aBE _ (by rw [List.length_take]; omega)
theorem plain_X (x : UInt8) (t : List UInt8) (hl : t.length ≤ 100000000) : SpG g 62 [.c (.d (.y (byteAt (S (x :: t)) 0))), .c (cS ((S (x :: t)).extract 1 (S (x :: t)).size))] [] (.agg (zW (aU x t))) [] := by
 rw [gH, oO]
 exact aBU x t hl
theorem refM_t {x : UInt8} {t : List UInt8} {out : SV} (hx : x = 91) (h : SpG g 17 [nX (iS (x :: t))] [] out []) : SpG g 17 [nX (fP (t.take (t.length - 1)))] [] out [] := by
 rw [iS, if_pos hx] at h; exact h
theorem refM_p {x : UInt8} {t : List UInt8} {out : SV} (hx : ¬ x = 91) (h : SpG g 17 [nX (iS (x :: t))] [] out []) : SpG g 17 [.agg (zW (aU x t))] [] out [] := by
 rw [iS, if_neg hx] at h; exact h
theorem aBH  :
  SpG g 19 [.c (cS (S []))] [] (y38) [] := by
 refine aF 30 Tryz.func19 (by kernel_rfl) fun fr hG => ?_
 refine zC hG [] [1, 0, 1] (true) (⟨[zS 0 (S []), zX 2 100 0, zB 3 false], [(100, y12)]⟩) aA (fun _ => ?_) (fun hc1 => absurd hc1 (by decide))
 exact zr hG [] [] aA
def aJL := And.intro @List.length_cons.{0} (And.intro @aD (@Go.Eng.inR.eq_1))
theorem aKK (x : UInt8) (t : List UInt8) (hl : t.length ≤ 99999999) :
  SpG g 19 [.c (cS (S (x :: t)))] [] (if bS (x :: t) = true then .tup [(true, (zV (bP (x :: t)))), (false, [cB true])] else y38) [] := by
 refine aF 30 Tryz.func19 (by kernel_rfl) fun fr hG => ?_
 refine zC hG [] [1, 0, 1] (decide ((((S (x :: t)).size : Int) : Int) = 0)) (⟨[zS 0 (S (x :: t)), zX 2 100 0, zB 3 false], [(100, y12)]⟩) aA (fun hc1 => ?_) (fun hc1 => ?_)
 (try simp only [eV, gH, x91] at hc1)
 exfalso; simp only [List.length_cons] at hc1; omega
 (try simp only [eV, gH, x91] at hc1)
 refine zC hG [] [1, 0, 1, 1, 1] (decide ((byteAt (S (x :: t)) 0 : Int) = 91)) (⟨[zS 0 (S (x :: t)), zX 2 100 0, zB 3 false, zX 4 400 0], [(100, y12), (400, y12)]⟩) (aC (by intros; (try simp only [aJL] at *); first | omega | (split <;> omega) : (0 : Int) ≤ 0 ∧ 0 < ((S (x :: t)).size : Int))) (fun hc2 => ?_) (fun hc2 => ?_)
 (try simp only [eV, gH, x91] at hc2)
 refine zC hG [(5, 6, kC (.agg (zV (fP (t.take (t.length - 1)))))), (7, 1, kS (S (aH (iS (x :: t)))))] [1, 0, 1, 1, 1, 1] (!((S (aH (iS (x :: t)))).toList == (S (x :: t)).toList)) (⟨[zX 2 100 0, zB 3 false, zX 4 400 0], [(100, y12), (400, .box 30 (zV (fP (t.take (t.length - 1)))))]⟩) (aB (by intros; (try simp only [aJL] at *); first | omega | (split <;> omega) : inR (((S (x :: t)).size : Int) - 1)) (aB (by intros; (try simp only [aJL] at *); first | omega | (split <;> omega) : (0 : Int) ≤ 1 ∧ (1 : Int) ≤ (if (1 : Int) > (((S (x :: t)).size : Int) - 1) then 1 else (((S (x :: t)).size : Int) - 1)) ∧ (if (1 : Int) > (((S (x :: t)).size : Int) - 1) then 1 else (((S (x :: t)).size : Int) - 1)) ≤ ((S (x :: t)).size : Int)) (aB (table_X x t (by omega) : SpG g _ _ _ _ _) (aC (refM_t hc2 (kO (iS (x :: t)) (aBM (x :: t) (by rw [List.length_cons]; unfold maxLen; omega))) : SpG g _ _ _ _ _))))) (fun hc3 => ?_) (fun hc3 => ?_)
 (try simp only [eV, gH, x91] at hc3)
 refine zR hG [] [] (y38) [] aA ?_ ?_
 have e : bS (x :: t) = false := by rw [← (jV (List.cons_ne_nil x t)).1]; simp [hc3]
 rw [if_neg (by rw [e]; decide)]
 rfl
 (try simp only [eV, gH, x91] at hc3)
 refine zR hG [] [] (.tup [(true, (zV (fP (t.take (t.length - 1))))), (false, [cB true])]) [] aA ?_ ?_
 have e : bS (x :: t) = true := by rw [← (jV (List.cons_ne_nil x t)).1]; simp [hc3]
 have e2 := (jV (List.cons_ne_nil x t)).2
 rw [if_pos hc3] at e2
 rw [if_pos e, ← e2, iS, if_pos hc2]
 rfl
 (try simp only [eV, gH, x91] at hc2)
 refine zC hG [(6, 4, kC (.agg (zW (aU x t)))), (7, 1, kS (S (aH (iS (x :: t)))))] [1, 0, 1, 1, 1, 1] (!((S (aH (iS (x :: t)))).toList == (S (x :: t)).toList)) (⟨[zX 2 100 0, zB 3 false, zX 4 400 0], [(100, y12), (400, .box 30 (zW (aU x t)))]⟩) (aB (by intros; (try simp only [aJL] at *); first | omega | (split <;> omega) : (0 : Int) ≤ 0 ∧ 0 < ((S (x :: t)).size : Int)) (aB (by intros; (try simp only [aJL] at *); first | omega | (split <;> omega) : (0 : Int) ≤ 1 ∧ (1 : Int) ≤ ((S (x :: t)).size : Int) ∧ ((S (x :: t)).size : Int) ≤ ((S (x :: t)).size : Int)) (aB (plain_X x t (by omega) : SpG g _ _ _ _ _) (aC (refM_p hc2 (kO (iS (x :: t)) (aBM (x :: t) (by rw [List.length_cons]; unfold maxLen; omega))) : SpG g _ _ _ _ _))))) (fun hc4 => ?_) (fun hc4 => ?_)
 (try simp only [eV, gH, x91] at hc4)
 refine zR hG [] [] (y38) [] aA ?_ ?_
 have e : bS (x :: t) = false := by rw [← (jV (List.cons_ne_nil x t)).1]; simp [hc4]
 rw [if_neg (by rw [e]; decide)]
 rfl
 (try simp only [eV, gH, x91] at hc4)
 refine zR hG [] [] (.tup [(true, (zW (aU x t))), (false, [cB true])]) [] aA ?_ ?_
 have e : bS (x :: t) = true := by rw [← (jV (List.cons_ne_nil x t)).1]; simp [hc4]
 have e2 := (jV (List.cons_ne_nil x t)).2
 rw [if_pos hc4] at e2
 rw [if_pos e, ← e2, iS, if_neg hc2]; rfl
 rfl
theorem aEE (s : List UInt8) (hl : s.length ≤ 100000000) : SpG g 19 [.c (cS (S s))] [] (y46 (bP s) (bS s)) [] := by
 cases s with
 | nil =>
  rw [read_nil.1, read_nil.2]
  exact gI [[none, none, none, none, none, some 1, some 1], []] aBH
 | cons x t =>
  have h := aKK (g := g) x t (by rw [List.length_cons] at hl; omega)
  cases hb : bS (x :: t) with
  | true => rw [if_pos hb] at h; exact h
  | false =>
   rw [if_neg (by rw [hb]; decide)] at h
   rw [aBQ hb]
   exact gI [[none, none, none, none, none, some 1, some 1], []] h
end Go.Proofs.YtmpgfchkkemngaaGreatDoor
namespace Go.Proofs.YtmpgfchkkemngaaGreatDoor
open Go.RowKit Go.V
open Go.Eng (inR byteAt u8 bH)
variable {g : Gv}
theorem aGF {s : List UInt8} {x : UInt8} {t : List UInt8} (e : s = x :: t) (hx : ¬ x = 91) (h : bS s = true) : vR (clP s).1 := by
 obtain ⟨h1, h2⟩ := yH h
 by_cases hk : (bP s).kind = 5
 have q := kM hk h1 []
 rw [oR h1] at h2
 rw [List.append_nil, h2, e] at q
 injection q with q _
 exact absurd q hx
 obtain ⟨_, q2, q3⟩ := o3 hk h1
 have q := clP_of q2.1 q2.2 (r := []) (.inl rfl)
 rw [List.append_nil, ← q3, ← oR h1, h2] at q
 rw [q]; exact q2
theorem aKO : bS [35, 49, 46, 48] = false := by
 cases h : bS [35, 49, 46, 48] with
 | false => rfl
 | true =>
  have hf := aGF rfl (by decide) h
  have e : (clP [35, 49, 46, 48]).1 = ⟨2, [], 10, 1, 0⟩ := by decide +kernel
  rw [e] at hf
  exact absurd hf.2 (by decide)
theorem aKN : bS [63, 50] = false := by
 cases h : bS [63, 50] with
 | false => rfl
 | true =>
  have hf := aGF rfl (by decide) h
  have e : (clP [63, 50]).1 = ⟨4, [], 0, 0, 2⟩ := by decide +kernel
  rw [e] at hf
  exact absurd hf.2 (by decide)
theorem row_ex : lK [39, 97, 124, 98, 39, 124, 35, 49] = true ∧ n0 [39, 97, 124, 98, 39, 124, 35, 49] = [exA, exB] := by
 have h := row_yes (l := [exA, exB]) (by decide) (by
  intro v hv
  simp only [List.mem_cons, List.not_mem_nil, or_false] at hv
  rcases hv with rfl | rfl <;> decide) (by simp)
 rw [w6] at h
 exact ⟨h.1, h.2.1⟩
theorem aD8 (hE : jF g) :
  SpG g 10 [] [] (.c (cB true)) [] := by
 refine aF 91 Tryz.func10 (by kernel_rfl) fun fr hG => ?_
 refine zR hG [(1, 4, .elem [.nil, .nil, .nil, .nil, .nil, .sl 1 [], .sl 1 [], .nil, .nil, .nil, .nil, .nil, .sl 1 [], .sl 1 []]), (2, 0, kC (.agg [cI 0, cS (S []), cI 0, cI 0, cI 18, cN, cN])), (2, 1, kS (S [33, 49, 56])), (2, 5, kS (S [33, 48])), (2, 10, kS (S [39, 105, 116, 39, 39, 115, 39])), (2, 16, kS (S [35, 51, 46, 53])), (3, 1, kS (S [64, 48, 48, 48, 49, 45, 48, 49, 45, 48, 49])), (3, 5, kS (S [63, 49])), (3, 10, kS (S [91, 97, 44, 98, 59, 39, 120, 39, 44, 35, 50, 93])), (4, 3, .mask [none, none, none, none, none, some 1, some 1, none, none, none, none, none, some 1, some 1]), (5, 0, kC (y43 (valsD (n0 [39, 97, 124, 98, 39, 124, 35, 49])) (lK [39, 97, 124, 98, 39, 124, 35, 49]))), (6, 0, kC (y46 (bP [35, 49, 46, 48]) (bS [35, 49, 46, 48]))), (7, 0, kC (y46 (bP [63, 50]) (bS [63, 50]))), (8, 6, kS (S [39, 97, 124, 98, 39, 124, 35, 49])), (8, 15, kB (decide (n0 [39, 97, 124, 98, 39, 124, 35, 49] = [exA, exB])))] [] (.c (cB ((((lK [39, 97, 124, 98, 39, 124, 35, 49]) && (decide (n0 [39, 97, 124, 98, 39, 124, 35, 49] = [exA, exB]))) && (!(bS [35, 49, 46, 48]))) && (!(bS [63, 50]))))) [] (aB (fail_ok 18 : SpG g _ _ _ _ _) (aB (dO (ins := [.agg [cI 0, cS (S []), cI 0, cI 0, cI 18, cN, cN]]) [[none, none, none, none, none, some 1, some 1]] (iN ex1 [33, 49, 56] (jH (by decide) rfl rfl) aMX) : SpG g _ _ _ _ _) (aB (fun (hg1 : true = true) => (dO (ins := [.agg [cI 0, cS (S []), cI 0, cI 0, cI 0, cN, cN]]) [[none, none, none, none, none, some 1, some 1]] (iN ex2 [33, 48] (jH (by decide) rfl rfl) aMW) : SpG g _ _ _ _ _)) (aB (fun (hg1 : true = true) => (dO (ins := [.agg [cI 1, cS (S [105, 116, 39, 115]), cI 0, cI 0, cI 0, cN, cN]]) [[none, none, none, none, none, some 1, some 1]] (iN ex3 [39, 105, 116, 39, 39, 115, 39] (jH (by decide) rfl rfl) aMV) : SpG g _ _ _ _ _)) (aB (fun (hg1 : true = true) => (dO (ins := [.agg [cI 2, cS (S []), cI 35, cI 1, cI 0, cN, cN]]) [[none, none, none, none, none, some 1, some 1]] (iN ex4 [35, 51, 46, 53] (jH (by decide) rfl rfl) aMU) : SpG g _ _ _ _ _)) (aB (dO (ins := [.agg [cI 3, cS (S []), cI 0, cI 0, cI 0, cN, cN]]) [[none, none, none, none, none, some 1, some 1]] (iN ex5 [64, 48, 48, 48, 49, 45, 48, 49, 45, 48, 49] (jH (by decide) rfl rfl) aMT) : SpG g _ _ _ _ _) (aB (fun (hg1 : true = true) => (dO (ins := [.agg [cI 4, cS (S []), cI 0, cI 0, cI 1, cN, cN]]) [[none, none, none, none, none, some 1, some 1]] (iN ex6 [63, 49] (jH (by decide) rfl rfl) aMS) : SpG g _ _ _ _ _)) (aB (fun (hg1 : true = true) => (iN ex7 [91, 97, 44, 98, 59, 39, 120, 39, 44, 35, 50, 93] ex7_fit aMR : SpG g _ _ _ _ _)) (aB (vG hE [39, 97, 124, 98, 39, 124, 35, 49] (by decide) : SpG g _ _ _ _ _) (aB (kJ hE [35, 49, 46, 48] (by decide) : SpG g _ _ _ _ _) (aB (kJ hE [63, 50] (by decide) : SpG g _ _ _ _ _) (aB (fun (hg1 : true = true) => (aA7 : SpG g _ _ _ _ _)) (aC (fun (hg1 : (lK [39, 97, 124, 98, 39, 124, 35, 49]) = true) => (aED (n0 [39, 97, 124, 98, 39, 124, 35, 49]) [exA, exB] : SpG g _ _ _ _ _))))))))))))))) ?_ ?_
 simp [aKO, aKN, row_ex.1, row_ex.2]
 rfl
end Go.Proofs.YtmpgfchkkemngaaGreatDoor
