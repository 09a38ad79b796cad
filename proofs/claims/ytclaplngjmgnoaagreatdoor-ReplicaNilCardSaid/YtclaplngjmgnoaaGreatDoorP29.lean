/- Part 29 of the proof: texts M0, D0, Yz. -/
import Derived.Test.YtclaplngjmgnoaaGreatDoorP28
import Derived.Test.YtclaplngjmgnoaaGreatDoorProg
import Derived.Test.YtclaplngjmgnoaaGreatDoorCards
import Derived.Test.YtclaplngjmgnoaaGreatDoorTie
import Derived.WalkKit
import Derived.ProofKit
import Derived.OpenShut
import Derived.Deep.DeepHandedRow
import Derived.Lib.LaidTab
import Derived.Lay
import Derived.Stop.LaidErr
import Derived.MakeChecks
import Derived.Carry
set_option linter.all false
namespace Go.Proofs.YtclaplngjmgnoaaGreatDoor
open Go.RowKit
open Go.Eng (inR byteAt u8 d8)
abbrev bs (s : ByteArray) : List UInt8 := s.data.toList
theorem uW (s : ByteArray) : (bs s).length = s.size := by cases s; simp [ByteArray.size]
def bAt (s : ByteArray) (k : Nat) : UInt8 := (bs s).getD k 0
theorem pZ (s : ByteArray) (k : Nat) (h : k < s.size) : (bs s).drop k = bAt s k :: (bs s).drop (k + 1) := by
 have h' : k < (bs s).length := by rw [uW]; exact h
 rw [List.drop_eq_getElem_cons h', bAt, List.getD_eq_getElem?_getD, List.getElem?_eq_getElem h']; rfl
theorem str_beq (a b : ByteArray) : (a.toList == b.toList) = decide (a = b) := by
 rw [Bool.eq_iff_iff]; simp only [beq_iff_eq, decide_eq_true_eq, ByteArray.toList_eq]
 constructor
 intro h
 cases a; cases b
 exact congrArg ByteArray.mk (Array.toList_inj.1 h)
 rintro rfl; rfl
theorem aNJ (s : ByteArray) (k : Nat) (h : s.size ≤ k) : (bs s).drop k = [] := List.drop_eq_nil_of_le (by rw [uW]; exact h)
theorem iQ (s : ByteArray) (k : Nat) : byteAt s (k : Int) = ((bAt s k).toNat : Int) := by simp [byteAt, bAt]
def dY (c : UInt8) : Bool := decide (32 ≤ (c.toNat : Int)) && decide ((c.toNat : Int) ≤ 126)
def c6 (s : ByteArray) : Bool := (bs s).all dY && decide ((s.size : Int) ≤ 200)
def mlen : List Int := [31, 28, 31, 30, 31, 30, 31, 31, 30, 31, 30, 31]
def S (l : List UInt8) : ByteArray := ⟨l.toArray⟩
theorem eO (a b : List UInt8) : S a ++ S b = S (a ++ b) := by
 have : (S a ++ S b).data = (S (a ++ b)).data := by simp [S]
 cases h1 : S a ++ S b; cases h2 : S (a ++ b); rw [h1, h2] at this; simpa using this
theorem aM (l : List UInt8) : (S l).size = l.length := by simp [S, ByteArray.size]
theorem gL (l : List UInt8) (i : Int) : byteAt (S l) i = ((l.getD i.toNat 0).toNat : Int) := by simp [byteAt, S]
theorem jS (l : List UInt8) (k : Nat) : (S l).extract k (S l).size = S (l.drop k) := by
 have h : ((S l).extract k (S l).size).data = (S (l.drop k)).data := by
  rw [ByteArray.data_extract, aM]
  simp [S, List.take_of_length_le]
 cases h1 : (S l).extract k (S l).size; cases h2 : S (l.drop k); rw [h1, h2] at h; simpa using h
end Go.Proofs.YtclaplngjmgnoaaGreatDoor
namespace Go.Proofs.YtclaplngjmgnoaaGreatDoor
open Go.RowKit Go.V
open Go.Eng (inR byteAt u8 d8)
structure Gv where
 maxLen : Int
 more : List (Nat × List Value) := []
def powL : List Int := [1, 10, 100, 1000, 10000, 100000, 1000000, 10000000, 100000000, 1000000000, 10000000000, 100000000000, 1000000000000, 10000000000000, 100000000000000, 1000000000000000, 10000000000000000, 100000000000000000, 1000000000000000000, 10000000000000000000]
def Gl (g : Gv) : List (Nat × List Value) := (0, [.int .i64 g.maxLen]) :: (3, powL.map (Value.int .u64)) :: (6, mlen.map (Value.int .i64)) :: g.more
def SpG (g : Gv) (f : FuncId) (ins : List SV) (refs : bI) (out : SV) (post : bI) : Prop := V.Spec Tryz.prog (Gl g) f ins refs out post
theorem cT : Tryz.prog.follows .mixedOrders = true := by kernel_rfl
section
variable {R : Wp Tryz.prog} {fr : Fr} {n : Nat} {root : Code} {Q : Exit → Act → World → Prop} {G : List (Nat × List Value)} {pids : List Nat} {now : Now} {st : V.St} {cs : List Prop}
theorem zC (hG : FrIs fr G pids) (hs : cH) (pos : List Nat) (b : Bool) (st' : V.St) (hc : V.conj cs) (ht : b = true → W R fr n root Q (.code (0 :: pos)) st') (hf : b = false → W R fr n root Q (.code (1 :: pos)) st') (h : goS Tryz.prog G pids n root hs 1000 now st st' = told (.cond pos b) st' cs := by kernel_rfl) : W R fr n root Q now st := stepC hG cT hs pos b st' cs h hc ht hf
theorem zc (hG : FrIs fr G pids) (hs : cH) (pos : List Nat) (b : Bool) (hc : V.conj cs) (ht : b = true → W R fr n root Q (.code (0 :: pos)) st) (hf : b = false → W R fr n root Q (.code (1 :: pos)) st) (h : goS Tryz.prog G pids n root hs 1000 now st st = told (.cond pos b) st cs := by kernel_rfl) : W R fr n root Q now st := stepC hG cT hs pos b st cs h hc ht hf
theorem zr {fn : Func} {out : SV} {post : bI} (hG : FrIs fr G []) (hs : cH) (ids : List Nat) (hc : V.conj cs) (h : goR Tryz.prog G n root hs 1000 now st fn ids = some (out, post, cs) := by kernel_rfl) : W R fr n root (bodyPost Tryz.prog fn (kD fr out post)) now st := aB2 hG cT hs ids out post h hc rfl rfl
theorem zR {fn : Func} {out : SV} {post : bI} (hG : FrIs fr G []) (hs : cH) (ids : List Nat) (out' : SV) (post' : bI) (hc : V.conj cs) (ho : out' = out) (hp : post' = post) (h : goR Tryz.prog G n root hs 1000 now st fn ids = some (out', post', cs) := by kernel_rfl) : W R fr n root (bodyPost Tryz.prog fn (kD fr out post)) now st := aB2 hG cT hs ids out' post' h hc ho hp
theorem zL {σ : Type} (hG : FrIs fr G pids) (hs : cH) (pos : List Nat) (F : σ → Nat × V.St × Prop) (x0 : σ) (hc : V.conj cs) (h0 : (F x0).2.2) (round : ∀ x, (F x).2.2 → W R fr n (jE root pos) (Exit.then (V.Handed fr n (fun x => (F x).1) (fun x => (F x).2.1) (fun x => (F x).2.2) x) (ctx R root Q pos)) (.code []) (F x).2.1) (h : goS Tryz.prog G pids n root hs 1000 now st (F x0).2.1 = told (.loop pos) (F x0).2.1 cs := by kernel_rfl) (hl : xD root pos = true := by kernel_rfl) : W R fr n root Q now st :=
 oM hG cT hs pos (F x0).2.1 cs h hc (aLO (fun x => (F x).1) (fun x => (F x).2.1) (fun x => (F x).2.2) x0 hl h0 round)
theorem zA {σ : Type} (hG : FrIs fr G pids) (hs : cH) (pos : List Nat) (st6 : V.St) (ss : List (Nat × Nat × Nat × Nat)) (cc : List (Nat × Nat × Nat × Nat × Nat)) (F : σ → Nat × V.St × Prop) (x0 : σ) (hc : V.conj cs) (h0 : (F x0).2.2) (round : ∀ x, (F x).2.2 → W R fr n (jE root pos) (Exit.then (V.Handed fr n (fun x => (F x).1) (fun x => (F x).2.1) (fun x => (F x).2.2) x) (ctx R root Q pos)) (.code []) (F x).2.1) (h : goS Tryz.prog G pids n root hs 1000 now st st6 = told (.loop pos) st6 cs := by kernel_rfl) (ha : adK pids ss cc st6 (F x0).2.1 = told (.loop []) (F x0).2.1 [] := by kernel_rfl) (hl : xD root pos = true := by kernel_rfl) : W R fr n root Q now st :=
 oM hG cT hs pos st6 cs h hc (aJY hG ss cc (F x0).2.1 ha (aLO (fun x => (F x).1) (fun x => (F x).2.1) (fun x => (F x).2.2) x0 hl h0 round))
theorem zD {σ : Type} {m : σ → Nat} {S : σ → V.St} {Inv : σ → Prop} {x : σ} {Q0 : Exit → Act → World → Prop} (hG : FrIs fr G pids) (hs : cH) (y : σ) (hc : V.conj cs) (hlt : m y < m x) (hI : Inv y) (h : goS Tryz.prog G pids n root hs 1000 now st (S y) = told (.done .normal) (S y) cs := by kernel_rfl) : W R fr n root (Exit.then (V.Handed fr n m S Inv x) Q0) now st := roundE hG cT hs y cs h hc hlt hI
theorem zE {H : Act → World → Prop} {root' : Code} {pos : List Nat} (hG : FrIs fr G pids) (hs : cH) (e : Ex) (st' : V.St) (hc : V.conj cs) (he : e.isNormal = false) (hk : W R fr n root' Q (.exit pos e) st') (h : goS Tryz.prog G pids n root hs 1000 now st st' = told (.done e) st' cs := by kernel_rfl) : W R fr n root (Exit.then H (ctx R root' Q pos)) now st := leaveE hG cT hs e st' cs h hc he hk
theorem zP (hG : FrIs fr G pids) (hs : cH) (pos : List Nat) (p : Prop) [Decidable p] (st' : V.St) (hc : V.conj cs) (ht : p → W R fr n root Q (.code (0 :: pos)) st') (hf : ¬ p → W R fr n root Q (.code (1 :: pos)) st') (h : goS Tryz.prog G pids n root hs 1000 now st st' = told (.cond pos (decide p)) st' cs := by kernel_rfl) : W R fr n root Q now st := zC hG hs pos (decide p) st' hc (fun h => ht (of_decide_eq_true h)) (fun h => hf (of_decide_eq_false h)) h
theorem zp (hG : FrIs fr G pids) (hs : cH) (pos : List Nat) (p : Prop) [Decidable p] (hc : V.conj cs) (ht : p → W R fr n root Q (.code (0 :: pos)) st) (hf : ¬ p → W R fr n root Q (.code (1 :: pos)) st) (h : goS Tryz.prog G pids n root hs 1000 now st st = told (.cond pos (decide p)) st cs := by kernel_rfl) : W R fr n root Q now st := zc hG hs pos (decide p) hc (fun h => ht (of_decide_eq_true h)) (fun h => hf (of_decide_eq_false h)) h
end
structure Cl where
 kind : Int
 s : List UInt8
 dn : Int
 ds : Int
 n : Int
 deriving DecidableEq
structure Vl where
 kind : Int
 s : List UInt8
 dn : Int
 ds : Int
 n : Int
 cols : List (List UInt8)
 rows : List (List Cl)
 deriving DecidableEq
def d5 (s : List UInt8) : List D := [.s (S s)]
def strs (l : List (List UInt8)) : List (List D) := l.map d5
def ClD (c : Cl) : List D := [.i c.kind, .s (S c.s), .i c.dn, .i c.ds, .i c.n, .sl 1 [], .sl 1 []]
def rowD (r : List Cl) : List (List D) := r.map ClD
def rows1 (r : List Cl) : List D := [.sl 7 (rowD r)]
def aKE (l : List (List Cl)) : List (List D) := l.map rows1
def VlD (v : Vl) : List D := [.i v.kind, .s (S v.s), .i v.dn, .i v.ds, .i v.n, .sl 1 (strs v.cols), .sl 1 (aKE v.rows)]
def valsD (l : List Vl) : List (List D) := l.map VlD
theorem d6 {α β : Type} {f : α → β} {l : List α} {i : Int} (z : α) (h0 : 0 ≤ i) (h : i < (l.length : Int)) : 0 ≤ i ∧ (l.map f)[i.toNat]? = some (f (l.getD i.toNat z)) := by
 have : i.toNat < l.length := by omega
 exact ⟨h0, by simp [this]⟩
theorem l4 {α β : Type} {f : α → β} {l : List α} {k : Nat} (z : α) (h : k < l.length) : (l.map f)[k]? = some (f (l.getD k z)) := by simp [h]
theorem S_inj {a b : List UInt8} : S a = S b ↔ a = b := by
 constructor
 intro h; have := congrArg (fun x => x.data.toList) h; simpa [S] using this
 rintro rfl; rfl
theorem aN3 (a b : List UInt8) : ((S a).toList == (S b).toList) = decide (a = b) := by rw [str_beq]; simp [S_inj]
theorem aGE {a b : List UInt8} : (((S a).toList == (S b).toList) = true) = (a = b) := by rw [aN3]; simp
theorem kM {a b : List UInt8} : (((S a).toList == (S b).toList) = false) = ¬ (a = b) := by rw [aN3]; simp
section
variable {g : Gv}
theorem aAH {f : FuncId} {ins : List SV} {out : SV} {args : List Value} {v : Value} (hi : rW ins = some args) (ho : exT out = some v) (hk : okS out = true)
  (h : ∀ w : World, Calls Tryz.prog f args.toArray w fun e w' => e = .returned v ∧ w = w') : SpG g f ins [] out [] :=
 jU hi ho hk fun w _ => (h w).mono fun e w' ⟨h1, h2⟩ => ⟨h1, by subst h2; exact Below.refl _ _⟩
end
def intD (x : Int) : List D := [.i x]
def intsD (l : List Int) : List (List D) := l.map intD
theorem pC (acc : List UInt8) (x : Int) : bytesD acc ++ [[D.y (IntKind.wrap .u8 x)]] = bytesD (acc ++ [u8 x]) := by
 simp [bytesD, D.y, Eng.wrap_u8]
theorem mQ (acc : List UInt8) : bytesD (S acc).data.toList = bytesD acc := by simp [S]
abbrev zI (n : Nat) (x : Int) : Nat × Path × SV := (n, [], .c (.d (.i x)))
abbrev zS (n : Nat) (x : ByteArray) : Nat × Path × SV := (n, [], .c (.d (.s x)))
abbrev zB (n : Nat) (x : Bool) : Nat × Path × SV := (n, [], .c (.d (.b x)))
abbrev zX (n a b : Nat) : Nat × Path × SV := (n, [], .c (.bx a b))
abbrev zY (n a b : Nat) : Nat × Path × SV := (n, [], .c (.ar a b))
abbrev zN (n : Nat) : Nat × Path × SV := (n, [], .c (.d (.nil)))
abbrev zM (n s : Nat) (e : List (List D)) : Nat × Path × SV := (n, [], .c (.d (.sl s e)))
abbrev cI (x : Int) : C := .d (.i x)
abbrev cS (x : ByteArray) : C := .d (.s x)
abbrev cB (x : Bool) : C := .d (.b x)
abbrev cN : C := .d (.nil)
abbrev cM (s : Nat) (e : List (List D)) : C := .d (.sl s e)
abbrev zV (v : Vl) : List C := [cI v.kind, cS (S v.s), cI v.dn, cI v.ds, cI v.n, cM 1 (strs v.cols), cM 1 (aKE v.rows)]
abbrev zW (v : Cl) : List C := [cI v.kind, cS (S v.s), cI v.dn, cI v.ds, cI v.n, cM 1 [], cM 1 []]
abbrev zK (f : Func) (p : List Nat) (fn : FuncId) (tm : Array Value) (D l : Nat) : Ob := .box ⟨.raw (.loop (bN (aW f) p fn tm D)), some l⟩ []
abbrev kI (x : Int) : Hint := .call (.c (cI x)) [] []
abbrev kS (x : ByteArray) : Hint := .call (.c (cS x)) [] []
abbrev kB (x : Bool) : Hint := .call (.c (cB x)) [] []
abbrev kC (x : SV) : Hint := .call x [] []
end Go.Proofs.YtclaplngjmgnoaaGreatDoor
namespace Go.Proofs.YtclaplngjmgnoaaGreatDoor
open Go.ChangeShapes Go.WideShapes Go.ChangeAt Go.RowKit Go.V
theorem own : ownKnob Tryz.prog.godebug = none := by kernel_rfl
theorem laidOut : laidOutB Tryz.prog = true := by kernel_rfl
theorem s9 {W : World} {name : String} {b : Nat} {cs : Array Value} (hg : Tryz.prog.globalNamed name = some b) (h : W.var? Tryz.prog name = some cs) : ∃ ty fz, W.heap[b]? = some (.cells cs ty fz) := by
 unfold World.var? at h
 rw [hg, Option.bind_some] at h
 split at h
 rename_i c t f e
 cases h
 exact ⟨_, _, e⟩
 cases h
theorem uD {P : Program} {w : World} {r : Reach} {b : Nat} {t : TypeId} {v : Value} {k : IntKind} (h : P.underlying t = some (.int k)) (hc : Cell.ok P w r b t v) : ∃ n, v = .int k n := by
 unfold Cell.ok at hc
 rw [h] at hc
 cases v <;> simp at hc
 exact ⟨_, by rw [hc.1]⟩
theorem zero0 : ((begin Tryz.prog (fun _ _ => 0) default).world.heap[0]?).bind Obj.row? = some (#[.int .i64 0], 3) := by kernel_rfl
theorem int_var {P : Program} {W : World} {b : Nat} {t : TypeId} {zero : Array Value} (h : W.ShapedOpen P) (hb : b < P.globals.size) (hz : ((begin P (fun _ _ => 0) default).world.heap[b]?).bind Obj.row? = some (zero, t)) (h1 : zero.size = 1)
  (hB : P.buildable t = true) (hts : P.cellTypes P.depth t = some [t]) (hu : P.underlying t = some (.int .i64)) : ∃ n : Int, ∃ ty fz, W.heap[b]? = some (.cells #[.int .i64 n] ty fz) := by
 obtain ⟨cs, hb, hs, hr⟩ := h.1 b _ _ hb hz
 obtain ⟨ts, hts', _, hall⟩ := hr hB
 obtain rfl := Option.some.inj (hts.symm.trans hts')
 obtain ⟨l⟩ := cs
 rw [h1] at hs
 match l, hs, hb, hall with
 | [v], _, hb, hall =>
  obtain ⟨u, hu', hc⟩ := hall 0 v rfl
  obtain rfl : t = u := by simpa using hu'
  obtain ⟨n, rfl⟩ := uD hu hc
  exact ⟨n, _, _, hb⟩
theorem aIB {W : World} (h : W.ShapedOpen Tryz.prog) : ∃ n : Int, ∃ ty fz, W.heap[0]? = some (.cells #[.int .i64 n] ty fz) :=
 int_var h (of_decide_eq_true (by kernel_rfl)) zero0 rfl (by kernel_rfl) (by kernel_rfl) (by kernel_rfl)
theorem pow_of {W : World} {r : List (String × DataW Unit)} (h : laidMet Tryz.prog (("internal/strconv.uint64pow10", Rows.laid_internal_strconv_uint64pow10) :: r) W) : ∃ ty fz, W.heap[3]? = some (.cells (powL.map (Value.int .u64)).toArray ty fz) :=
 s9 (by kernel_rfl) (Lib.tabIs_of_head (k := .u64) (zs := powL) (t := 375) (e := 257) (n := 20) (g := 3) (by kernel_rfl) (by kernel_rfl) (by kernel_rfl) (by kernel_rfl) (by kernel_rfl) (by kernel_rfl) h)
theorem lens_of {W : World} {r : List (String × DataW Unit)} (h : laidMet Tryz.prog (("concord/date.lengths", Rows.laid_concord_date_lengths) :: r) W) : ∃ ty fz, W.heap[6]? = some (.cells (mlen.map (Value.int .i64)).toArray ty fz) :=
 s9 (by kernel_rfl) (Lib.tabIs_of_head (k := .i64) (zs := mlen) (t := 409) (e := 3) (n := 12) (g := 6) (by kernel_rfl) (by kernel_rfl) (by kernel_rfl) (by kernel_rfl) (by kernel_rfl) (by kernel_rfl) h)
def aNY (W : World) (g : Gv) : Prop := ∀ b cs, (b, cs) ∈ Gl g → ∃ ty fz, W.heap[b]? = some (.cells cs.toArray ty fz)
theorem starts8 {W : World} (hS : W.ShapedOpen Tryz.prog) (hL : laidMetH Tryz.prog Rows.replicaLimitsRow.laid W) : ∃ g : Gv, aNY W g := by
 rw [MakeChecks.laidMetH_plain _ _ _ (by kernel_rfl)] at hL
 obtain ⟨n, h0⟩ := aIB hS
 have h2 := pow_of (laidMet.tail (laidMet.tail hL))
 have h5 := lens_of (laidMet.tail (laidMet.tail (laidMet.tail (laidMet.tail (laidMet.tail (laidMet.tail hL))))))
 refine ⟨⟨n, []⟩, fun b cs h => ?_⟩
 simp only [Gl, List.mem_cons, Prod.mk.injEq, List.not_mem_nil, or_false] at h
 rcases h with ⟨rfl, rfl⟩ | ⟨rfl, rfl⟩ | ⟨rfl, rfl⟩
 exact h0
 exact h2
 exact h5
def pl0 : Pl := ⟨fun _ => True, fun _ => 0, fun _ => (none, 0)⟩
theorem sh0 (b : Nat) : Sh pl0 (lookO []) b := ⟨trivial, fun i h => by simp [aJ, lookO] at h⟩
theorem call_of {g : Gv} {f : FuncId} {ins : List SV} {W : World} {args : List Value} (hS : SpG g f ins [] (.c (cB true)) []) (hG : aNY W g)
  (ha : All2 (bC W pl0 (lookO [])) ins args) : Calls Tryz.prog f args.toArray W fun e W' => e = .returned (.bool true) ∧ Below W.heap.size W W' := by
 have fk : FrOk ⟨W, [], Gl g, fun _ => True, [], [], []⟩ := ⟨fun b cs h => ⟨hG b cs h, fun i h => by cases h⟩, fun i b h => (by cases h), fun i b h => (by cases h)⟩
 have m : Mem ⟨W, [], Gl g, fun _ => True, [], [], []⟩ (lookO []) W pl0 := by
  refine ⟨fk, fun b => ⟨fun _ => .inl trivial, fun _ => trivial⟩, fun i o h => (by cases h), fun i j b h => (by simp [aJ, lookO] at h), fun i b h => (by simp [aJ, lookO] at h), fun i b h => (by cases h), rfl, rfl, rfl, Nat.le_refl _, fun _ _ _ => rfl, fun i ty cs b h => (by cases h)⟩
 refine (hS ⟨W, [], Gl g, fun _ => True, [], [], []⟩ W pl0 args rfl ⟨rfl, rfl, fun _ => rfl, rfl⟩ m ha).mono ?_
 rintro e W' ⟨v, pl', rfl, m', hv⟩
 have hv : Rd W' _ (.b true) v := hv
 obtain rfl := Rd.exact hv
 exact ⟨rfl, m'.os, m'.tape, m'.output, m'.grow, fun k hk => m'.keep k hk fun i h => by cases h⟩
section
variable {H : Type} {enc : TypeId × Value → H} {P : Program} {W : World}
theorem zJ {r : Reach} {b : Nat} {t e : TypeId} {v : Value} (ht : P.underlying t = some (.slice e)) (h : Cell.ok P W r b t v) :
  v = .slice none 0 0 ∨ ∃ bl off len cap c ty fz, v = .slice (some ⟨bl, off, none⟩) len cap ∧ W.heap[bl]? = some (.cells c ty fz) := by
 unfold Cell.ok at h
 rw [ht] at h
 cases v <;> simp at h
 rename_i a len cap
 cases a with
 | none =>
  left
  cases len <;> cases cap <;> simp at h
  rfl
 | some a =>
  obtain ⟨hl, hc, _, hs, row, cells, hsh, _⟩ := (show len ≤ cap ∧ (cap : Int) ≤ IntKind.i64.max ∧ W.has P r b a e cap from h)
  obtain ⟨bl, off, sp⟩ := a
  obtain rfl : sp = none := hs
  unfold World.shape? at hsh
  split at hsh
  rename_i c ty fz e; exact .inr ⟨bl, off, len, cap, c, ty, fz, rfl, e⟩
  cases hsh
theorem aB3 {r : Reach} {b : Nat} {t e : TypeId} {v : Value} (ht : P.underlying t = some (.slice e)) (h : Value.okWide P W r b t v) : Cell.ok P W r b t v := by
 unfold Value.okWide at h
 rw [ht] at h
 unfold Cell.okWide at h
 rw [ht] at h
 exact h
theorem aKS {fuel : Nat} {b : Nat} {t e : TypeId} {v : Value} {x : DataW H × List MemPlace} (ht : P.underlying t = some (.slice e)) (he : P.underlying e = some (.int .i64)) (hc : P.cellsOf e = 1)
  (hval : Cell.ok P W .any b t v) (hf : DataW.trod enc P W 0 (fun _ => true) true fuel t [v] = some x) : ∃ l : List Int, Rd W (Sh pl0 (lookO [])) (.sl 1 (intsD l)) v := by
 rcases open_ints ht he hc hf with ⟨h1, _⟩ | ⟨a, len, cap, zs, h1, _, hl, hm, hlen, _, hcell, _⟩
 simp only [List.cons.injEq, and_true] at h1
 subst h1
 exact ⟨[], Rd.nil 1⟩
 simp only [List.cons.injEq, and_true] at h1
 subst h1
 rcases zJ ht hval with h | ⟨bl, off, len', cap', c, ty, fz, h, hb⟩
 simp at h
 simp only [Value.slice.injEq, Option.some.injEq] at h
 obtain ⟨rfl, rfl, rfl⟩ := h
 simp only [if_true] at hlen
 have hlt : len ≤ zs.length := by omega
 have el : (intsD (zs.take len)).length = len := by simp [intsD]; omega
 refine ⟨zs.take len, ?_⟩
 have key : Rd W (Sh pl0 (lookO [])) (.sl 1 (intsD (zs.take len))) (.slice (some ⟨bl, off, none⟩) (intsD (zs.take len)).length cap) := by
  refine Rd.sl (us := fun i _ => .int .i64 (zs.getD i 0)) (sh0 _) hb (by rw [el]; exact hl) hm ?_ ?_ ?_
  intro ds hds
  simp only [intsD, List.mem_map] at hds
  obtain ⟨n, _, rfl⟩ := hds
  rfl
  intro i j ds d hi hj
  have hil : i < (zs.take len).length := by
   have := (List.getElem?_eq_some_iff.1 hi).1
   simpa [intsD] using this
  simp only [List.length_take] at hil
  have := hcell i (by omega)
  simp only [intsD, List.getElem?_map, Option.map_eq_some_iff] at hi
  obtain ⟨n, hn, rfl⟩ := hi
  match j, hj with
  | 0, hj =>
   have ea : Addr.add ⟨bl, off, none⟩ i = ⟨bl, off + i, none⟩ := by
    unfold Addr.add
    split <;> simp_all
   rw [ea] at this
   simp only [World.cell?, hb] at this
   simpa using this
  intro i j ds d hi hj
  simp only [intsD, List.getElem?_map, Option.map_eq_some_iff] at hi
  obtain ⟨n, hn, rfl⟩ := hi
  match j, hj with
  | 0, hj =>
   simp only [intD, List.getElem?_cons_zero, Option.some.injEq] at hj
   subst hj
   have hz : zs.getD i 0 = n := by
    rw [List.getElem?_take] at hn
    split at hn
    simp [hn]
    cases hn
   rw [hz]
   exact Rd.v _ rfl
 rw [el] at key
 exact key
theorem one_cell {r : Reach} {b : Nat} {t e : TypeId} {v : Value} (ht : P.underlying t = some (.slice e)) (h : Cell.ok P W r b t v) : v.cells.toList = [v] := by
 rcases zJ ht h with rfl | ⟨_, _, _, _, _, _, _, rfl, _⟩ <;> rfl
theorem rd_ints {b : Nat} {t e : TypeId} {v : Value} {d : DataW H} {ps : List MemPlace} (ht : P.underlying t = some (.slice e)) (he : P.underlying e = some (.int .i64)) (hc : P.cellsOf e = 1)
  (hval : Value.okWide P W .any b t v) (hd : DataW.Trod enc P W 0 (fun _ => true) true t v d ps) : ∃ l : List Int, Rd W (Sh pl0 (lookO [])) (.sl 1 (intsD l)) v := by
 obtain ⟨fuel, hf⟩ := hd
 have hv := aB3 ht hval
 rw [one_cell ht hv] at hf
 exact aKS ht he hc hv hf
theorem aL7 {r : Reach} {b : Nat} {t : TypeId} {v : Value} {k : IntKind} (h : P.underlying t = some (.int k)) (hc : Cell.okWide P W r b t v) : ∃ n, v = .int k n := by
 unfold Cell.okWide at hc
 rw [h] at hc
 exact uD h hc
end
theorem rd_bound {w : World} {F : Nat → Prop} {sz : Nat} {es : List (List D)} {v : Value} (h : Rd w F (.sl sz es) v) : es.length ≤ maxLen := by
 cases h with
 | nil => exact Nat.zero_le _
 | far => exact Nat.zero_le _
 | sl us hF hb hc hm hs hu hr => exact Nat.le_trans hc hm
theorem rd_int {P : Program} {W : World} {r : Reach} {b : Nat} {t : TypeId} {v : Value} (ht : P.underlying t = some (.int .i64)) (h : Value.okWide P W r b t v) : ∃ n, v = .int .i64 n := by
 unfold Value.okWide at h
 rw [ht] at h
 exact aL7 ht h
section
variable {P : Program} {W : World}
end
end Go.Proofs.YtclaplngjmgnoaaGreatDoor
