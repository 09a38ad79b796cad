/- Part 29 of the proof: texts M0, D0, Yz. -/
import Derived.Test.YtclaplngjmgnoaaGreatDoorP28
import Derived.Test.YtclaplngjmgnoaaGreatDoorProg
import Derived.Test.YtclaplngjmgnoaaGreatDoorCards
import Derived.Test.YtclaplngjmgnoaaGreatDoorTie
import Derived.WalkKit
import Derived.ProofKit
import Derived.OpenShut
import Derived.Deep.DeepHandedRow
import Derived.Lib.LaidTab
import Derived.Lay
import Derived.Stop.LaidErr
import Derived.MakeChecks
import Derived.Carry
set_option linter.all false
namespace Go.Proofs.YtclaplngjmgnoaaGreatDoor
open Go.RowKit
open Go.Eng (inR byteAt u8 bytesV)
abbrev bs (s : ByteArray) : List UInt8 := s.data.toList
theorem bs_length (s : ByteArray) : (bs s).length = s.size := by cases s; simp [ByteArray.size]
def bAt (s : ByteArray) (k : Nat) : UInt8 := (bs s).getD k 0
theorem bs_drop (s : ByteArray) (k : Nat) (h : k < s.size) : (bs s).drop k = bAt s k :: (bs s).drop (k + 1) := by
 have h' : k < (bs s).length := by rw [bs_length]; exact h
 rw [List.drop_eq_getElem_cons h', bAt, List.getD_eq_getElem?_getD, List.getElem?_eq_getElem h']; rfl
theorem str_beq (a b : ByteArray) : (a.toList == b.toList) = decide (a = b) := by
 rw [Bool.eq_iff_iff]; simp only [beq_iff_eq, decide_eq_true_eq, ByteArray.toList_eq]
 constructor
 ·intro h
  cases a; cases b
  exact congrArg ByteArray.mk (Array.toList_inj.1 h)
 ·rintro rfl; rfl
theorem bs_nil (s : ByteArray) (k : Nat) (h : s.size ≤ k) : (bs s).drop k = [] := List.drop_eq_nil_of_le (by rw [bs_length]; exact h)
theorem byteAt_nat (s : ByteArray) (k : Nat) : byteAt s (k : Int) = ((bAt s k).toNat : Int) := by simp [byteAt, bAt]
def okByte (c : UInt8) : Bool := decide (32 ≤ (c.toNat : Int)) && decide ((c.toNat : Int) ≤ 126)
def isTextB (s : ByteArray) : Bool := (bs s).all okByte && decide ((s.size : Int) ≤ 200)
def mlen : List Int := [31, 28, 31, 30, 31, 30, 31, 31, 30, 31, 30, 31]
def S (l : List UInt8) : ByteArray := ⟨l.toArray⟩
theorem S_app (a b : List UInt8) : S a ++ S b = S (a ++ b) := by
 have : (S a ++ S b).data = (S (a ++ b)).data := by simp [S]
 cases h1 : S a ++ S b; cases h2 : S (a ++ b); rw [h1, h2] at this; simpa using this
theorem S_size (l : List UInt8) : (S l).size = l.length := by simp [S, ByteArray.size]
theorem byteAt_S (l : List UInt8) (i : Int) : byteAt (S l) i = ((l.getD i.toNat 0).toNat : Int) := by simp [byteAt, S]
theorem S_drop (l : List UInt8) (k : Nat) : (S l).extract k (S l).size = S (l.drop k) := by
 have h : ((S l).extract k (S l).size).data = (S (l.drop k)).data := by
  rw [ByteArray.data_extract, S_size]
  simp [S, List.take_of_length_le]
 cases h1 : (S l).extract k (S l).size; cases h2 : S (l.drop k); rw [h1, h2] at h; simpa using h
theorem wrap64 {x : Int} (h : inR x) : IntKind.wrap .i64 x = x := by
 unfold inR at h
 simp [IntKind.wrap, IntKind.bits, IntKind.signed]
 omega
end Go.Proofs.YtclaplngjmgnoaaGreatDoor
namespace Go.Proofs.YtclaplngjmgnoaaGreatDoor
open Go.RowKit Go.V
open Go.Eng (inR byteAt u8 bytesV)
structure Gv where
 maxLen : Int
 more : List (Nat × List Value) := []
def powL : List Int := [1, 10, 100, 1000, 10000, 100000, 1000000, 10000000, 100000000, 1000000000, 10000000000, 100000000000, 1000000000000, 10000000000000, 100000000000000, 1000000000000000, 10000000000000000, 100000000000000000, 1000000000000000000, 10000000000000000000]
def Gl (g : Gv) : List (Nat × List Value) := (0, [.int .i64 g.maxLen]) :: (3, powL.map (Value.int .u64)) :: (6, mlen.map (Value.int .i64)) :: g.more
def SpG (g : Gv) (f : FuncId) (ins : List SV) (refs : OwnL) (out : SV) (post : OwnL) : Prop := V.Spec Tryz.prog (Gl g) f ins refs out post
theorem hmix : Tryz.prog.follows .mixedOrders = true := by kernel_rfl
section
variable {R : Wp Tryz.prog} {fr : Fr} {n : Nat} {root : Code} {Q : Exit → Act → World → Prop} {G : List (Nat × List Value)} {pids : List Nat} {now : Now} {st : V.St} {cs : List Prop}
theorem zC (hG : FrIs fr G pids) (hs : Hints) (pos : List Nat) (b : Bool) (st' : V.St) (h : goS Tryz.prog G pids n root hs 1000 now st st' = told (.cond pos b) st' cs) (hc : V.conj cs) (ht : b = true → W R fr n root Q (.code (0 :: pos)) st') (hf : b = false → W R fr n root Q (.code (1 :: pos)) st') : W R fr n root Q now st := stepC hG hmix hs pos b st' cs h hc ht hf
theorem zc (hG : FrIs fr G pids) (hs : Hints) (pos : List Nat) (b : Bool) (h : goS Tryz.prog G pids n root hs 1000 now st st = told (.cond pos b) st cs) (hc : V.conj cs) (ht : b = true → W R fr n root Q (.code (0 :: pos)) st) (hf : b = false → W R fr n root Q (.code (1 :: pos)) st) : W R fr n root Q now st := stepC hG hmix hs pos b st cs h hc ht hf
theorem zr {fn : Func} {out : SV} {post : OwnL} (hG : FrIs fr G []) (hs : Hints) (ids : List Nat) (h : goR Tryz.prog G n root hs 1000 now st fn ids = some (out, post, cs)) (hc : V.conj cs) : W R fr n root (bodyPost Tryz.prog fn (RetR fr out post)) now st := stepR' hG hmix hs ids out post h hc rfl rfl
theorem zR {fn : Func} {out : SV} {post : OwnL} (hG : FrIs fr G []) (hs : Hints) (ids : List Nat) (out' : SV) (post' : OwnL) (h : goR Tryz.prog G n root hs 1000 now st fn ids = some (out', post', cs)) (hc : V.conj cs) (ho : out' = out) (hp : post' = post) : W R fr n root (bodyPost Tryz.prog fn (RetR fr out post)) now st := stepR' hG hmix hs ids out' post' h hc ho hp
theorem zL {σ : Type} (hG : FrIs fr G pids) (hs : Hints) (pos : List Nat) (F : σ → Nat × V.St × Prop) (x0 : σ) (h : goS Tryz.prog G pids n root hs 1000 now st (F x0).2.1 = told (.loop pos) (F x0).2.1 cs) (hc : V.conj cs) (hl : isLoop root pos = true) (h0 : (F x0).2.2)
  (round : ∀ x, (F x).2.2 → W R fr n (loopBody root pos) (Exit.then (V.Handed fr n (fun x => (F x).1) (fun x => (F x).2.1) (fun x => (F x).2.2) x) (ctx R root Q pos)) (.code []) (F x).2.1) : W R fr n root Q now st :=
 stepL hG hmix hs pos (F x0).2.1 cs h hc (loopR (fun x => (F x).1) (fun x => (F x).2.1) (fun x => (F x).2.2) x0 hl h0 round)
theorem zA {σ : Type} (hG : FrIs fr G pids) (hs : Hints) (pos : List Nat) (st6 : V.St) (ss : List (Nat × Nat × Nat × Nat)) (cc : List (Nat × Nat × Nat × Nat × Nat)) (F : σ → Nat × V.St × Prop) (x0 : σ) (h : goS Tryz.prog G pids n root hs 1000 now st st6 = told (.loop pos) st6 cs) (hc : V.conj cs) (ha : adK pids ss cc st6 (F x0).2.1 = told (.loop []) (F x0).2.1 []) (hl : isLoop root pos = true) (h0 : (F x0).2.2)
  (round : ∀ x, (F x).2.2 → W R fr n (loopBody root pos) (Exit.then (V.Handed fr n (fun x => (F x).1) (fun x => (F x).2.1) (fun x => (F x).2.2) x) (ctx R root Q pos)) (.code []) (F x).2.1) : W R fr n root Q now st :=
 stepL hG hmix hs pos st6 cs h hc (stepA hG ss cc (F x0).2.1 ha (loopR (fun x => (F x).1) (fun x => (F x).2.1) (fun x => (F x).2.2) x0 hl h0 round))
theorem zD {σ : Type} {m : σ → Nat} {S : σ → V.St} {Inv : σ → Prop} {x : σ} {Q0 : Exit → Act → World → Prop} (hG : FrIs fr G pids) (hs : Hints) (y : σ) (h : goS Tryz.prog G pids n root hs 1000 now st (S y) = told (.done .normal) (S y) cs) (hc : V.conj cs) (hlt : m y < m x) (hI : Inv y) : W R fr n root (Exit.then (V.Handed fr n m S Inv x) Q0) now st := roundE hG hmix hs y cs h hc hlt hI
theorem zE {H : Act → World → Prop} {root' : Code} {pos : List Nat} (hG : FrIs fr G pids) (hs : Hints) (e : Ex) (st' : V.St) (h : goS Tryz.prog G pids n root hs 1000 now st st' = told (.done e) st' cs) (hc : V.conj cs) (he : e.isNormal = false) (hk : W R fr n root' Q (.exit pos e) st') : W R fr n root (Exit.then H (ctx R root' Q pos)) now st := leaveE hG hmix hs e st' cs h hc he hk
end
def strD (s : List UInt8) : List D := [.s (S s)]
def strs (l : List (List UInt8)) : List (List D) := l.map strD
theorem map_at {α β : Type} {f : α → β} {l : List α} {i : Int} (z : α) (h0 : 0 ≤ i) (h : i < (l.length : Int)) : 0 ≤ i ∧ (l.map f)[i.toNat]? = some (f (l.getD i.toNat z)) := by
 have : i.toNat < l.length := by omega
 exact ⟨h0, by simp [this]⟩
theorem map_nat {α β : Type} {f : α → β} {l : List α} {k : Nat} (z : α) (h : k < l.length) : (l.map f)[k]? = some (f (l.getD k z)) := by simp [h]
theorem S_inj {a b : List UInt8} : S a = S b ↔ a = b := by
 constructor
 ·intro h; have := congrArg (fun x => x.data.toList) h; simpa [S] using this
 ·rintro rfl; rfl
theorem S_beq (a b : List UInt8) : ((S a).toList == (S b).toList) = decide (a = b) := by rw [str_beq]; simp [S_inj]
theorem S_eqv {a b : List UInt8} : (((S a).toList == (S b).toList) = true) = (a = b) := by rw [S_beq]; simp
theorem S_eqf {a b : List UInt8} : (((S a).toList == (S b).toList) = false) = ¬ (a = b) := by rw [S_beq]; simp
section
variable {g : Gv}
theorem of_exact {f : FuncId} {ins : List SV} {out : SV} {args : List Value} {v : Value} (hi : exAll ins = some args) (ho : exT out = some v) (hk : okS out = true)
  (h : ∀ w : World, Calls Tryz.prog f args.toArray w fun e w' => e = .returned v ∧ w = w') : SpG g f ins [] out [] :=
 spec_of hi ho hk fun w _ => (h w).mono fun e w' ⟨h1, h2⟩ => ⟨h1, by subst h2; exact Below.refl _ _⟩
end
def intD (x : Int) : List D := [.i x]
def intsD (l : List Int) : List (List D) := l.map intD
theorem bytesD_S (acc : List UInt8) : bytesD (S acc).data.toList = bytesD acc := by simp [S]
end Go.Proofs.YtclaplngjmgnoaaGreatDoor
namespace Go.Proofs.YtclaplngjmgnoaaGreatDoor
open Go.ChangeShapes Go.WideShapes Go.ChangeAt Go.RowKit Go.V
theorem own : ownKnob Tryz.prog.godebug = none := by kernel_rfl
theorem laidOut : laidOutB Tryz.prog = true := by kernel_rfl
theorem var_block {W : World} {name : String} {b : Nat} {cs : Array Value} (hg : Tryz.prog.globalNamed name = some b) (h : W.var? Tryz.prog name = some cs) : ∃ ty fz, W.heap[b]? = some (.cells cs ty fz) := by
 unfold World.var? at h
 rw [hg, Option.bind_some] at h
 split at h
 ·rename_i c t f e
  cases h
  exact ⟨_, _, e⟩
 ·cases h
theorem int_of_ok {P : Program} {w : World} {r : Reach} {b : Nat} {t : TypeId} {v : Value} {k : IntKind} (h : P.underlying t = some (.int k)) (hc : Cell.ok P w r b t v) : ∃ n, v = .int k n := by
 unfold Cell.ok at hc
 rw [h] at hc
 cases v <;> simp at hc
 exact ⟨_, by rw [hc.1]⟩
theorem zero0 : ((begin Tryz.prog (fun _ _ => 0) default).world.heap[0]?).bind Obj.row? = some (#[.int .i64 0], 3) := by kernel_rfl
theorem int_var {P : Program} {W : World} {b : Nat} {t : TypeId} {zero : Array Value} (h : W.ShapedOpen P) (hb : b < P.globals.size) (hz : ((begin P (fun _ _ => 0) default).world.heap[b]?).bind Obj.row? = some (zero, t)) (h1 : zero.size = 1)
  (hB : P.buildable t = true) (hts : P.cellTypes P.depth t = some [t]) (hu : P.underlying t = some (.int .i64)) : ∃ n : Int, ∃ ty fz, W.heap[b]? = some (.cells #[.int .i64 n] ty fz) := by
 obtain ⟨cs, hb, hs, hr⟩ := h.1 b _ _ hb hz
 obtain ⟨ts, hts', _, hall⟩ := hr hB
 obtain rfl := Option.some.inj (hts.symm.trans hts')
 obtain ⟨l⟩ := cs
 rw [h1] at hs
 match l, hs, hb, hall with
 | [v], _, hb, hall =>
  obtain ⟨u, hu', hc⟩ := hall 0 v rfl
  obtain rfl : t = u := by simpa using hu'
  obtain ⟨n, rfl⟩ := int_of_ok hu hc
  exact ⟨n, _, _, hb⟩
theorem maxLen_of {W : World} (h : W.ShapedOpen Tryz.prog) : ∃ n : Int, ∃ ty fz, W.heap[0]? = some (.cells #[.int .i64 n] ty fz) :=
 int_var h (of_decide_eq_true (by kernel_rfl)) zero0 rfl (by kernel_rfl) (by kernel_rfl) (by kernel_rfl)
theorem pow_of {W : World} {r : List (String × DataW Unit)} (h : laidMet Tryz.prog (("internal/strconv.uint64pow10", Rows.laid_internal_strconv_uint64pow10) :: r) W) : ∃ ty fz, W.heap[3]? = some (.cells (powL.map (Value.int .u64)).toArray ty fz) :=
 var_block (by kernel_rfl) (Lib.tabIs_of_head (k := .u64) (zs := powL) (t := 375) (e := 257) (n := 20) (g := 3) (by kernel_rfl) (by kernel_rfl) (by kernel_rfl) (by kernel_rfl) (by kernel_rfl) (by kernel_rfl) h)
theorem lens_of {W : World} {r : List (String × DataW Unit)} (h : laidMet Tryz.prog (("concord/date.lengths", Rows.laid_concord_date_lengths) :: r) W) : ∃ ty fz, W.heap[6]? = some (.cells (mlen.map (Value.int .i64)).toArray ty fz) :=
 var_block (by kernel_rfl) (Lib.tabIs_of_head (k := .i64) (zs := mlen) (t := 409) (e := 3) (n := 12) (g := 6) (by kernel_rfl) (by kernel_rfl) (by kernel_rfl) (by kernel_rfl) (by kernel_rfl) (by kernel_rfl) h)
def Starts (W : World) (g : Gv) : Prop := ∀ b cs, (b, cs) ∈ Gl g → ∃ ty fz, W.heap[b]? = some (.cells cs.toArray ty fz)
theorem starts8 {W : World} (hS : W.ShapedOpen Tryz.prog) (hL : laidMetH Tryz.prog Rows.replicaLimitsRow.laid W) : ∃ g : Gv, Starts W g := by
 rw [MakeChecks.laidMetH_plain _ _ _ (by kernel_rfl)] at hL
 obtain ⟨n, h0⟩ := maxLen_of hS
 have h2 := pow_of (laidMet.tail (laidMet.tail hL))
 have h5 := lens_of (laidMet.tail (laidMet.tail (laidMet.tail (laidMet.tail (laidMet.tail (laidMet.tail hL))))))
 refine ⟨⟨n, []⟩, fun b cs h => ?_⟩
 simp only [Gl, List.mem_cons, Prod.mk.injEq, List.not_mem_nil, or_false] at h
 rcases h with ⟨rfl, rfl⟩ | ⟨rfl, rfl⟩ | ⟨rfl, rfl⟩
 ·exact h0
 ·exact h2
 ·exact h5
def pl0 : Pl := ⟨fun _ => True, fun _ => 0, fun _ => (none, 0)⟩
theorem call_of {g : Gv} {f : FuncId} {ins : List SV} {W : World} {args : List Value} (hS : SpG g f ins [] (.c (.d (.b true))) []) (hG : Starts W g)
  (ha : All2 (SvOk W pl0 (lookO [])) ins args) : Calls Tryz.prog f args.toArray W fun e W' => e = .returned (.bool true) ∧ Below W.heap.size W W' := by
 have fk : FrOk ⟨W, [], Gl g, fun _ => True, [], [], []⟩ := ⟨fun b cs h => ⟨hG b cs h, fun i h => by cases h⟩, fun i b h => (by cases h), fun i b h => (by cases h)⟩
 have m : Mem ⟨W, [], Gl g, fun _ => True, [], [], []⟩ (lookO []) W pl0 := by
  refine ⟨fk, fun b => ⟨fun _ => .inl trivial, fun _ => trivial⟩, fun i o h => (by cases h), fun i j b h => (by simp [blkOf, lookO] at h), fun i b h => (by simp [blkOf, lookO] at h), fun i b h => (by cases h), rfl, rfl, rfl, Nat.le_refl _, fun _ _ _ => rfl, fun i ty cs b h => (by cases h)⟩
 refine (hS ⟨W, [], Gl g, fun _ => True, [], [], []⟩ W pl0 args rfl ⟨rfl, rfl, fun _ => rfl, rfl⟩ m ha).mono ?_
 rintro e W' ⟨v, pl', rfl, m', hv⟩
 have hv : Rd W' _ (.b true) v := hv
 obtain rfl := Rd.exact hv
 exact ⟨rfl, m'.os, m'.tape, m'.output, m'.grow, fun k hk => m'.keep k hk fun i h => by cases h⟩
section
variable {H : Type} {enc : TypeId × Value → H} {P : Program} {W : World}
end
section
variable {P : Program} {W : World}
theorem u8_wide {r : Reach} {b : Nat} {t : TypeId} {v : Value} (h : P.underlying t = some (.int .u8)) (hc : Cell.okWide P W r b t v) : ∃ n, v = .int .u8 n ∧ 0 ≤ n ∧ n ≤ 255 := by
 unfold Cell.okWide at hc
 rw [h] at hc
 have hc0 := hc
 unfold Cell.ok at hc
 rw [h] at hc
 cases v <;> simp at hc
 rename_i k n
 obtain ⟨rfl, hn⟩ := hc
 have : (0 : Int) ≤ n ∧ n ≤ 255 := hn
 exact ⟨n, rfl, this⟩
theorem rd_u8 {r : Reach} {b : Nat} {t : TypeId} {v : Value} (ht : P.underlying t = some (.int .u8)) (h : Value.okWide P W r b t v) : ∃ n, v = .int .u8 n ∧ 0 ≤ n ∧ n ≤ 255 := by
 unfold Value.okWide at h
 rw [ht] at h
 exact u8_wide ht h
end
end Go.Proofs.YtclaplngjmgnoaaGreatDoor
