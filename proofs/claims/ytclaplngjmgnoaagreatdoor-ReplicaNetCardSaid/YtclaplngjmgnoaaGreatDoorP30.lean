/- Part 30 of the proof. -/
import Derived.Test.YtclaplngjmgnoaaGreatDoorP29
import Derived.Test.YtclaplngjmgnoaaGreatDoorProg
import Derived.Test.YtclaplngjmgnoaaGreatDoorCards
import Derived.Test.YtclaplngjmgnoaaGreatDoorTie
import Derived.WalkKit
import Derived.ProofKit
import Derived.OpenShut
import Derived.Deep.DeepHandedRow
import Derived.Lib.LaidTab
import Derived.Lay
import Derived.Stop.LaidErr
import Derived.MakeChecks
import Derived.Carry
import Derived.Shelf.Strings.Builder1
import Derived.Shelf.Strings.Builder2
import Derived.Shelf.Strings.OnBuilder
import Derived.Shelf.Small.Utf8
import Derived.Shelf.Small.Strs
import Derived.Shelf.Small.Wraps
import Derived.Shelf.Strings.BuilderF
import Derived.Shelf.Strings.BuilderK
import Derived.Shelf.Strconv.Atoi
import Derived.Shelf.Strconv.Itoa0
import Derived.Shelf.Strconv.Itoa1
import Derived.Shelf.LaysM
import Derived.Shelf.Strconv.Itoa2
import Derived.Shelf.Strconv.Itoa3
import Derived.Shelf.Strconv.AtoiErrFast
import Derived.Shelf.Strconv.ParseIntEmpty
import Derived.Shelf.Strconv.AtoiFail
import Derived.Shelf.Strconv.Clone
import Derived.Shelf.Strconv.SyntaxError
import Derived.Shelf.LaysC
import Derived.Shelf.Strconv.ToError
import Derived.Shelf.Strconv.Lower
import Derived.Shelf.Strconv.ParseUint10
import Derived.Shelf.Strconv.ParseUint10Empty
import Derived.Shelf.Strconv.ParseUint10Any
import Derived.Shelf.Strconv.ParseInt10
import Derived.Shelf.Strconv.AtoiLong
import Derived.Shelf.Strconv.AtoiInnerAll
import Derived.Shelf.Strconv.RangeError
import Derived.Shelf.Strconv.ToErrorRange
import Derived.Shelf.Strconv.AtoiAll
import Derived.Shelf.Strconv.ErrVarAll
import Derived.Shelf.Strconv.ParseUintEmpty
import Derived.Shelf.Strings.Search1
import Derived.Shelf.Strings.Search2
import Derived.Shelf.Strings.Search3
import Derived.Shelf.Strings.Cut
import Derived.Shelf.Strings.Count
import Derived.Shelf.Strings.Shaped
import Derived.Shelf.Strings.Prefix
import Derived.Shelf.Strings.Split
import Derived.Shelf.Strings.Replace
import Derived.Shelf.Strings.SplitShaped
import Derived.Shelf.Strings.Runes
import Derived.Shelf.Strings.IndexAny
import Derived.Shelf.Strings.AsciiSet
import Derived.Shelf.Strings.IndexAnyAll
import Derived.Shelf.Bits.Mul64
import Derived.Shelf.Strings.Repeat
import Derived.Shelf.Unicode.DecodeSlow
import Derived.Shelf.Unicode.DecodeAny
import Derived.Shelf.Slices.Turned
import Derived.Ground.Names2Prog
import Derived.Shelf.Slices.Clone
import Derived.Ground.SlgmProg
import Derived.Shelf.SortM.Plain
import Derived.Shelf.SortM.SortNone
import Derived.Lib.AppendIntMem
import Derived.Lib.SplitLaws
import Derived.Deep.Slices
set_option linter.all false
namespace Go.Proofs.YtclaplngjmgnoaaGreatDoor
open Go.RowKit
open Go.Eng (inR byteAt u8 dN)
abbrev bs (s : ByteArray) : List UInt8 := s.data.toList
theorem wV (s : ByteArray) : (bs s).length = s.size := by cases s; simp [ByteArray.size]
def bAt (s : ByteArray) (k : Nat) : UInt8 := (bs s).getD k 0
theorem rI (s : ByteArray) (k : Nat) (h : k < s.size) : (bs s).drop k = bAt s k :: (bs s).drop (k + 1) := by
 have h' : k < (bs s).length := by rw [wV]; exact h
 rw [List.drop_eq_getElem_cons h',bAt,gd,ge h']; rfl
theorem str_beq (a b : ByteArray) : (a.toList == b.toList) = decide (a = b) := by
 rw [Bool.eq_iff_iff]; simp only [beq_iff_eq,decide_eq_true_eq,ByteArray.toList_eq];constructor;intro h;cases a; cases b;exact congrArg ByteArray.mk (Array.toList_inj.1 h);rintro rfl; rfl
theorem aP4 (s : ByteArray) (k : Nat) (h : s.size <= k) : (bs s).drop k = [] := List.drop_eq_nil_of_le (by rw [wV]; exact h)
theorem jH (s : ByteArray) (k : Nat) : byteAt s (k : Int) = ((bAt s k).toNat : Int) := by simp [byteAt,bAt]
def d2 (c : UInt8) : Bool := decide (32 <= (c.toNat : Int)) && decide ((c.toNat : Int) <= 126)
def cZ (s : ByteArray) : Bool := (bs s).all d2 && decide ((s.size : Int) <= 200)
def mlen : List Int := [31,28,31,30,31,30,31,31,30,31,30,31]
def S (l : List UInt8) : ByteArray := ⟨l.toArray⟩
theorem eU (a b : List UInt8) : S a ++ S b = S (a ++ b) := by
 have : (S a ++ S b).data = (S (a ++ b)).data := by simp [S]
 cases h1 : S a ++ S b; cases h2 : S (a ++ b); rw [h1,h2] at this; simpa using this
theorem aQ (l : List UInt8) : (S l).size = l.length := by simp [S,ByteArray.size]
theorem gZ (l : List UInt8) (i : Int) : byteAt (S l) i = ((l.getD i.toNat 0).toNat : Int) := by simp [byteAt,S]
theorem kO (l : List UInt8) (k : Nat) : (S l).extract k (S l).size = S (l.drop k) := by
 have h : ((S l).extract k (S l).size).data = (S (l.drop k)).data := by
  rw [ByteArray.data_extract,aQ];simp [S,tlQ]
 cases h1 : (S l).extract k (S l).size; cases h2 : S (l.drop k); rw [h1,h2] at h; simpa using h
end Go.Proofs.YtclaplngjmgnoaaGreatDoor
namespace Go.Proofs.YtclaplngjmgnoaaGreatDoor
open Go.RowKit Go.V
open Go.Eng (inR byteAt u8 dN)
structure Gv where
 maxLen : Int
 more : List (Nat × List Value) := []
def powL : List Int := [1,10,100,1000,10000,100000,1000000,10000000,100000000,1000000000,10000000000,100000000000,1000000000000,10000000000000,100000000000000,1000000000000000,10000000000000000,100000000000000000,1000000000000000000,10000000000000000000]
def Gl (g : Gv) : List (Nat × List Value) := (0,[.int .i64 g.maxLen]) :: (3,powL.map (Value.int .u64)) :: (6,mlen.map (Value.int .i64)) :: g.more
def SpG (g : Gv) (f : FuncId) (ins : List SV) (refs : aZ) (out : SV) (post : aZ) : Prop := V.Spec Tryz.prog (Gl g) f ins refs out post
theorem cS1 (g) {f i r o p} (h : SpG g f i r o p) : conj [SpG g f i r o p] := h
theorem cS2 (g) {f i r o p} {d : Prop} {l : List Prop} (h : SpG g f i r o p) (k : conj (d :: l)) : conj (SpG g f i r o p :: d :: l) := ⟨h,k⟩
theorem aY : Tryz.prog.follows .mixedOrders = true := by kernel_rfl
section
variable {R : Wp Tryz.prog} {fr : Fr} {n : Nat} {root : Code} {Q : Exit -> Act -> World -> Prop} {G : List (Nat × List Value)} {pids : List Nat} {now : Now} {st : V.St} {cs : List Prop}
theorem zC (hG : FrIs fr G pids) (hs : cF) (pos : List Nat) (b : Bool) (st' : V.St) (hc : V.conj cs) (ht : b = true -> W R fr n root Q (.code (0 :: pos)) st') (hf : b = false -> W R fr n root Q (.code (1 :: pos)) st') (h : goS Tryz.prog G pids n root hs 1000 now st st' = told (.cond pos b) st' cs := by kernel_rfl) : W R fr n root Q now st := stepC hG aY hs pos b st' cs h hc ht hf
theorem zc (hG : FrIs fr G pids) (hs : cF) (pos : List Nat) (b : Bool) (hc : V.conj cs) (ht : b = true -> W R fr n root Q (.code (0 :: pos)) st) (hf : b = false -> W R fr n root Q (.code (1 :: pos)) st) (h : goS Tryz.prog G pids n root hs 1000 now st st = told (.cond pos b) st cs := by kernel_rfl) : W R fr n root Q now st := stepC hG aY hs pos b st cs h hc ht hf
theorem zr {fn : Func} {out : SV} {post : aZ} (hG : FrIs fr G []) (hs : cF) (ids : List Nat) (hc : V.conj cs) (h : goR Tryz.prog G n root hs 1000 now st fn ids = some (out,post,cs) := by kernel_rfl) : W R fr n root (bodyPost Tryz.prog fn (lK fr out post)) now st := aDY hG aY hs ids out post h hc rfl rfl
theorem zR {fn : Func} {out : SV} {post : aZ} (hG : FrIs fr G []) (hs : cF) (ids : List Nat) (out' : SV) (post' : aZ) (hc : V.conj cs) (ho : out' = out) (hp : post' = post) (h : goR Tryz.prog G n root hs 1000 now st fn ids = some (out',post',cs) := by kernel_rfl) : W R fr n root (bodyPost Tryz.prog fn (lK fr out post)) now st := aDY hG aY hs ids out' post' h hc ho hp
theorem zL {σ : Type} (hG : FrIs fr G pids) (hs : cF) (pos : List Nat) (F : σ -> Nat × V.St × Prop) (x0 : σ) (hc : V.conj cs) (h0 : (F x0).2.2) (round : ∀ x,(F x).2.2 -> W R fr n (j6 root pos) (Exit.then (V.Handed fr n (fun x => (F x).1) (fun x => (F x).2.1) (fun x => (F x).2.2) x) (ctx R root Q pos)) (.code []) (F x).2.1) (h : goS Tryz.prog G pids n root hs 1000 now st (F x0).2.1 = told (.loop pos) (F x0).2.1 cs := by kernel_rfl) (hl : z1 root pos = true := by kernel_rfl) : W R fr n root Q now st :=
 g8 hG aY hs pos (F x0).2.1 cs h hc (aN2 (fun x => (F x).1) (fun x => (F x).2.1) (fun x => (F x).2.2) x0 hl h0 round)
theorem zA {σ : Type} (hG : FrIs fr G pids) (hs : cF) (pos : List Nat) (st6 : V.St) (ss : List (Nat × Nat × Nat × Nat)) (cc : List (Nat × Nat × Nat × Nat × Nat)) (F : σ -> Nat × V.St × Prop) (x0 : σ) (hc : V.conj cs) (h0 : (F x0).2.2) (round : ∀ x,(F x).2.2 -> W R fr n (j6 root pos) (Exit.then (V.Handed fr n (fun x => (F x).1) (fun x => (F x).2.1) (fun x => (F x).2.2) x) (ctx R root Q pos)) (.code []) (F x).2.1) (h : goS Tryz.prog G pids n root hs 1000 now st st6 = told (.loop pos) st6 cs := by kernel_rfl) (ha : adK pids ss cc st6 (F x0).2.1 = told (.loop []) (F x0).2.1 [] := by kernel_rfl) (hl : z1 root pos = true := by kernel_rfl) : W R fr n root Q now st :=
 g8 hG aY hs pos st6 cs h hc (aL7 hG ss cc (F x0).2.1 ha (aN2 (fun x => (F x).1) (fun x => (F x).2.1) (fun x => (F x).2.2) x0 hl h0 round))
theorem zD {σ : Type} {m : σ -> Nat} {S : σ -> V.St} {Inv : σ -> Prop} {x : σ} {Q0 : Exit -> Act -> World -> Prop} (hG : FrIs fr G pids) (hs : cF) (y : σ) (hc : V.conj cs) (hlt : m y < m x) (hI : Inv y) (h : goS Tryz.prog G pids n root hs 1000 now st (S y) = told (.done .normal) (S y) cs := by kernel_rfl) : W R fr n root (Exit.then (V.Handed fr n m S Inv x) Q0) now st := roundE hG aY hs y cs h hc hlt hI
theorem zE {H : Act -> World -> Prop} {root' : Code} {pos : List Nat} (hG : FrIs fr G pids) (hs : cF) (e : Ex) (st' : V.St) (hc : V.conj cs) (he : e.isNormal = false) (hk : W R fr n root' Q (.exit pos e) st') (h : goS Tryz.prog G pids n root hs 1000 now st st' = told (.done e) st' cs := by kernel_rfl) : W R fr n root (Exit.then H (ctx R root' Q pos)) now st := leaveE hG aY hs e st' cs h hc he hk
theorem zP (hG : FrIs fr G pids) (hs : cF) (pos : List Nat) (p : Prop) [Decidable p] (st' : V.St) (hc : V.conj cs) (ht : p -> W R fr n root Q (.code (0 :: pos)) st') (hf : ¬ p -> W R fr n root Q (.code (1 :: pos)) st') (h : goS Tryz.prog G pids n root hs 1000 now st st' = told (.cond pos (decide p)) st' cs := by kernel_rfl) : W R fr n root Q now st := zC hG hs pos (decide p) st' hc (fun h => ht (of_decide_eq_true h)) (fun h => hf (of_decide_eq_false h)) h
theorem zp (hG : FrIs fr G pids) (hs : cF) (pos : List Nat) (p : Prop) [Decidable p] (hc : V.conj cs) (ht : p -> W R fr n root Q (.code (0 :: pos)) st) (hf : ¬ p -> W R fr n root Q (.code (1 :: pos)) st) (h : goS Tryz.prog G pids n root hs 1000 now st st = told (.cond pos (decide p)) st cs := by kernel_rfl) : W R fr n root Q now st := zc hG hs pos (decide p) hc (fun h => ht (of_decide_eq_true h)) (fun h => hf (of_decide_eq_false h)) h
end
structure Cl where
 kind : Int
 s : List UInt8
 dn : Int
 ds : Int
 n : Int
 deriving DecidableEq
structure Vl where
 kind : Int
 s : List UInt8
 dn : Int
 ds : Int
 n : Int
 cols : List (List UInt8)
 rows : List (List Cl)
 deriving DecidableEq
def d9 (s : List UInt8) : List D := [.s (S s)]
def strs (l : List (List UInt8)) : LD := l.map d9
def ClD (c : Cl) : List D := [.i c.kind,.s (S c.s),.i c.dn,.i c.ds,.i c.n,.sl 1 [],.sl 1 []]
def rowD (r : List Cl) : LD := r.map ClD
def rows1 (r : List Cl) : List D := [.sl 7 (rowD r)]
def aMR (l : List (List Cl)) : LD := l.map rows1
def VlD (v : Vl) : List D := [.i v.kind,.s (S v.s),.i v.dn,.i v.ds,.i v.n,.sl 1 (strs v.cols),.sl 1 (aMR v.rows)]
def valsD (l : List Vl) : LD := l.map VlD
theorem cE {α β : Type} {f : α -> β} {l : List α} {i : Int} (z : α) (h0 : 0 <= i) (h : i < (l.length : Int)) : 0 <= i /\ (l.map f)[i.toNat]? = some (f (l.getD i.toNat z)) := by
 have : i.toNat < l.length := by omega
 exact ⟨h0,by simp [this]⟩
theorem fN {α β : Type} {f : α -> β} {l : List α} {k : Nat} (z : α) (h : k < l.length) : (l.map f)[k]? = some (f (l.getD k z)) := by simp [h]
theorem S_inj {a b : List UInt8} : S a = S b ↔ a = b := by
 constructor;intro h; have := congrArg (fun x => x.data.toList) h; simpa [S] using this;rintro rfl; rfl
theorem aQM (a b : List UInt8) : ((S a).toList == (S b).toList) = decide (a = b) := by rw [str_beq]; simp [S_inj]
theorem aIJ {a b : List UInt8} : (((S a).toList == (S b).toList) = true) = (a = b) := by rw [aQM]; simp
theorem lS {a b : List UInt8} : (((S a).toList == (S b).toList) = false) = ¬ (a = b) := by rw [aQM]; simp
section
variable {g : Gv}
theorem aB8 {f : FuncId} {ins : List SV} {out : SV} {args : List Value} {v : Value} (hi : tP ins = some args) (ho : exT out = some v) (hk : okS out = true)
  (h : ∀ w : World,Calls Tryz.prog f args.toArray w fun e w' => e = .returned v /\ w = w') : SpG g f ins [] out [] :=
 kQ hi ho hk fun w _ => (h w).mono fun e w' ⟨h1,h2⟩ => ⟨h1,by subst h2; exact Below.refl _ _⟩
end
def intD (x : Int) : List D := [.i x]
def intsD (l : List Int) : LD := l.map intD
theorem qJ (acc : List UInt8) (x : Int) : bytesD acc ++ [[D.y (IntKind.wrap .u8 x)]] = bytesD (acc ++ [u8 x]) := by
 simp [bytesD,D.y,Eng.wrap_u8]
theorem oK (acc : List UInt8) : bytesD (S acc).data.toList = bytesD acc := by simp [S]
abbrev zI (n : Nat) (x : Int) : Nat × Path × SV := (n,[],.c (.d (.i x)))
abbrev zS (n : Nat) (x : ByteArray) : Nat × Path × SV := (n,[],.c (.d (.s x)))
abbrev zB (n : Nat) (x : Bool) : Nat × Path × SV := (n,[],.c (.d (.b x)))
abbrev zX (n a b : Nat) : Nat × Path × SV := (n,[],.c (.bx a b))
abbrev zY (n a b : Nat) : Nat × Path × SV := (n,[],.c (.ar a b))
abbrev zN (n : Nat) : Nat × Path × SV := (n,[],.c (.d (.nil)))
abbrev zM (n s : Nat) (e : LD) : Nat × Path × SV := (n,[],.c (.d (.sl s e)))
abbrev cI (x : Int) : C := .d (.i x)
abbrev cS (x : ByteArray) : C := .d (.s x)
abbrev cB (x : Bool) : C := .d (.b x)
abbrev cN : C := .d (.nil)
abbrev cM (s : Nat) (e : LD) : C := .d (.sl s e)
abbrev zV (v : Vl) : List C := [cI v.kind,cS (S v.s),cI v.dn,cI v.ds,cI v.n,cM 1 (strs v.cols),cM 1 (aMR v.rows)]
abbrev zW (v : Cl) : List C := [cI v.kind,cS (S v.s),cI v.dn,cI v.ds,cI v.n,cM 1 [],cM 1 []]
abbrev zK (f : Func) (p : List Nat) (fn : FuncId) (tm : Array Value) (D l : Nat) : Ob := .box ⟨.raw (.loop (bM (aV f) p fn tm D)),some l⟩ []
abbrev kI (x : Int) : Hint := .call (.c (cI x)) [] []
abbrev kS (x : ByteArray) : Hint := .call (.c (cS x)) [] []
abbrev kB (x : Bool) : Hint := .call (.c (cB x)) [] []
abbrev kC (x : SV) : Hint := .call x [] []
end Go.Proofs.YtclaplngjmgnoaaGreatDoor
namespace Go.Proofs.YtclaplngjmgnoaaGreatDoor
open Go.ChangeShapes Go.WideShapes Go.ChangeAt Go.RowKit Go.V
theorem own : ownKnob Tryz.prog.godebug = none := by kernel_rfl
theorem laidOut : laidOutB Tryz.prog = true := by kernel_rfl
theorem u5 {W : World} {name : String} {b : Nat} {cs : Array Value} (hg : Tryz.prog.globalNamed name = some b) (h : W.var? Tryz.prog name = some cs) : ∃ ty fz,W.heap[b]? = some (.cells cs ty fz) := by
 unfold World.var? at h;rw [hg,Option.bind_some] at h;split at h;rename_i c t f e;cases h;exact ⟨_,_,e⟩;cases h
theorem aKL {P : Program} {w : World} {r : Reach} {b : Nat} {t : TypeId} {v : Value} {k : IntKind} (h : P.underlying t = some (.int k)) (hc : Cell.ok P w r b t v) : ∃ n,v = .int k n := by
 unfold Cell.ok at hc;rw [h] at hc;cases v <;> simp at hc;exact ⟨_,by rw [hc.1]⟩
theorem zero0 : ((begin Tryz.prog (fun _ _ => 0) default).world.heap[0]?).bind Obj.row? = some (#[.int .i64 0],3) := by kernel_rfl
theorem int_var {P : Program} {W : World} {b : Nat} {t : TypeId} {zero : Array Value} (h : W.ShapedOpen P) (hb : b < P.globals.size) (hz : ((begin P (fun _ _ => 0) default).world.heap[b]?).bind Obj.row? = some (zero,t)) (h1 : zero.size = 1)
  (hB : P.buildable t = true) (hts : P.cellTypes P.depth t = some [t]) (hu : P.underlying t = some (.int .i64)) : ∃ n : Int,∃ ty fz,W.heap[b]? = some (.cells #[.int .i64 n] ty fz) := by
 obtain ⟨cs,hb,hs,hr⟩ := h.1 b _ _ hb hz;obtain ⟨ts,hts',_,hall⟩ := hr hB;obtain rfl := Option.some.inj (hts.symm.trans hts');obtain ⟨l⟩ := cs;rw [h1] at hs
 match l,hs,hb,hall with
 | [v],_,hb,hall =>
  obtain ⟨u,hu',hc⟩ := hall 0 v rfl;obtain rfl : t = u := by simpa using hu'
  obtain ⟨n,rfl⟩ := aKL hu hc;exact ⟨n,_,_,hb⟩
theorem aKF {W : World} (h : W.ShapedOpen Tryz.prog) : ∃ n : Int,∃ ty fz,W.heap[0]? = some (.cells #[.int .i64 n] ty fz) :=
 int_var h (of_decide_eq_true (by kernel_rfl)) zero0 rfl (by kernel_rfl) (by kernel_rfl) (by kernel_rfl)
theorem pow_of {W : World} {r : List (String × DataW Unit)} (h : laidMet Tryz.prog (("internal/strconv.uint64pow10", Rows.laid_internal_strconv_uint64pow10) :: r) W) : ∃ ty fz, W.heap[3]? = some (.cells (powL.map (Value.int .u64)).toArray ty fz) :=
 u5 (by kernel_rfl) (Lib.tabIs_of_head (k := .u64) (zs := powL) (t := 375) (e := 257) (n := 20) (g := 3) (by kernel_rfl) (by kernel_rfl) (by kernel_rfl) (by kernel_rfl) (by kernel_rfl) (by kernel_rfl) h)
theorem lens_of {W : World} {r : List (String × DataW Unit)} (h : laidMet Tryz.prog (("concord/date.lengths", Rows.laid_concord_date_lengths) :: r) W) : ∃ ty fz, W.heap[6]? = some (.cells (mlen.map (Value.int .i64)).toArray ty fz) :=
 u5 (by kernel_rfl) (Lib.tabIs_of_head (k := .i64) (zs := mlen) (t := 409) (e := 3) (n := 12) (g := 6) (by kernel_rfl) (by kernel_rfl) (by kernel_rfl) (by kernel_rfl) (by kernel_rfl) (by kernel_rfl) h)
def aQH (W : World) (g : Gv) : Prop := ∀ b cs,(b,cs) ∈ Gl g -> ∃ ty fz,W.heap[b]? = some (.cells cs.toArray ty fz)
theorem starts8 {W : World} (hS : W.ShapedOpen Tryz.prog) (hL : laidMetH Tryz.prog Rows.replicaLimitsRow.laid W) : ∃ g : Gv,aQH W g := by
 rw [MakeChecks.laidMetH_plain _ _ _ (by kernel_rfl)] at hL;obtain ⟨n,h0⟩ := aKF hS;have h2 := pow_of (laidMet.tail (laidMet.tail hL));have h5 := lens_of (laidMet.tail (laidMet.tail (laidMet.tail (laidMet.tail (laidMet.tail (laidMet.tail hL))))));refine ⟨⟨n,[]⟩,fun b cs h => ?_⟩;simp only [Gl,mc,pIQ,List.not_mem_nil,or_false] at h;rcases h with ⟨rfl,rfl⟩ | ⟨rfl,rfl⟩ | ⟨rfl,rfl⟩
 exact h0;exact h2;exact h5
def pl0 : Pl := ⟨fun _ => True,fun _ => 0,fun _ => (none,0)⟩
theorem sh0 (b : Nat) : Sh pl0 (lookO []) b := ⟨trivial,fun i h => by simp [aN,lookO] at h⟩
theorem call_of {g : Gv} {f : FuncId} {ins : List SV} {W : World} {args : List Value} (hS : SpG g f ins [] (.c (cB true)) []) (hG : aQH W g)
  (ha : All2 (bD W pl0 (lookO [])) ins args) : Calls Tryz.prog f args.toArray W fun e W' => e = .returned (.bool true) /\ Below W.heap.size W W' := by
 have fk : FrOk ⟨W,[],Gl g,fun _ => True,[],[],[]⟩ := ⟨fun b cs h => ⟨hG b cs h,fun i h => by cases h⟩,fun i b h => (by cases h),fun i b h => (by cases h)⟩
 have m : Mem ⟨W,[],Gl g,fun _ => True,[],[],[]⟩ (lookO []) W pl0 := by
  refine ⟨fk,fun b => ⟨fun _ => .inl trivial,fun _ => trivial⟩,fun i o h => (by cases h),fun i j b h => (by simp [aN,lookO] at h),fun i b h => (by simp [aN,lookO] at h),fun i b h => (by cases h),rfl,rfl,rfl,lr _,fun _ _ _ => rfl,fun i ty cs b h => (by cases h)⟩
 refine (hS ⟨W,[],Gl g,fun _ => True,[],[],[]⟩ W pl0 args rfl ⟨rfl,rfl,fun _ => rfl,rfl⟩ m ha).mono ?_;rintro e W' ⟨v,pl',rfl,m',hv⟩;have hv : Rd W' _ (.b true) v := hv;obtain rfl := Rd.exact hv;exact ⟨rfl,m'.os,m'.tape,m'.output,m'.grow,fun k hk => m'.keep k hk fun i h => by cases h⟩
section
variable {H : Type} {enc : TypeId × Value -> H} {P : Program} {W : World}
theorem rX {r : Reach} {b : Nat} {t e : TypeId} {v : Value} (ht : P.underlying t = some (.slice e)) (h : Cell.ok P W r b t v) :
  v = .slice none 0 0 \/ ∃ bl off len cap c ty fz,v = .slice (some ⟨bl,off,none⟩) len cap /\ W.heap[bl]? = some (.cells c ty fz) := by
 unfold Cell.ok at h;rw [ht] at h;cases v <;> simp at h;rename_i a len cap;cases a with
 | none =>
  left;cases len <;> cases cap <;> simp at h;rfl
 | some a =>
  obtain ⟨hl,hc,_,hs,row,cells,hsh,_⟩ := (show len <= cap /\ (cap : Int) <= IntKind.i64.max /\ W.has P r b a e cap from h)
  obtain ⟨bl,off,sp⟩ := a;obtain rfl : sp = none := hs;unfold World.shape? at hsh;split at hsh;rename_i c ty fz e; exact .inr ⟨bl,off,len,cap,c,ty,fz,rfl,e⟩;cases hsh
theorem rW {r : Reach} {b : Nat} {t e : TypeId} {v : Value} (ht : P.underlying t = some (.slice e)) (h : Value.okWide P W r b t v) : Cell.ok P W r b t v := by
 unfold Value.okWide at h;rw [ht] at h;unfold Cell.okWide at h;rw [ht] at h;exact h
theorem one_cell {r : Reach} {b : Nat} {t e : TypeId} {v : Value} (ht : P.underlying t = some (.slice e)) (h : Cell.ok P W r b t v) : v.cells.toList = [v] := by
 rcases rX ht h with rfl | ⟨_,_,_,_,_,_,_,rfl,_⟩ <;> rfl
end
theorem rd_bound {w : World} {F : Nat -> Prop} {sz : Nat} {es : LD} {v : Value} (h : Rd w F (.sl sz es) v) : es.length <= maxLen := by
 cases h with
 | nil => exact zl _
 | far => exact zl _
 | sl us hF hb hc hm hs hu hr => exact Nat.le_trans hc hm
section
variable {P : Program} {W : World}
end
end Go.Proofs.YtclaplngjmgnoaaGreatDoor
namespace Go.Proofs
open Go.Shelf
def Tryz.lays156_ren : Go.Shelf.Ren := ⟨fun | 156 => 57 | 165 => 110 | 166 => 34 | 169 => 36 | 240 => 61 | 241 => 173 | 276 => 114 | 277 => 241 | n => n,fun | 31 => 58 | 9 => 9 | 3 => 3 | 4 => 4 | 0 => 0 | 20 => 20 | 72 => 89 | 76 => 95 | 70 => 86 | 37 => 87 | 75 => 94 | 127 => 142 | 164 => 199 | 5 => 5 | 80 => 36 | n => n,fun | n => n⟩
theorem Tryz.lays156 : Go.Proofs.Lays.n156 Tryz.prog Tryz.lays156_ren := {
 mixed := by kernel_rfl
 f156 := Tryz.func57.trans (congrArg some (by kernel_rfl))
 f165 := Tryz.func110.trans (congrArg some (by kernel_rfl))
 f166 := Tryz.func34.trans (congrArg some (by kernel_rfl))
 f169 := Tryz.func36.trans (congrArg some (by kernel_rfl))
 f240 := Tryz.func61.trans (congrArg some (by kernel_rfl))
 f241 := Tryz.func173.trans (congrArg some (by kernel_rfl))
 f276 := Tryz.func114.trans (congrArg some (by kernel_rfl))
 f277 := Tryz.func241.trans (congrArg some (by kernel_rfl))
 t0 := Tryz.underlying0
 a0 := Tryz.isAgg0
 z0 := Tryz.sizeOf0
 v0 := Tryz.zeroValue0
 t3 := Tryz.underlying3
 a3 := Tryz.isAgg3
 z3 := Tryz.sizeOf3
 v3 := Tryz.zeroValue3
 t4 := Tryz.underlying4
 a4 := Tryz.isAgg4
 z4 := Tryz.sizeOf4
 v4 := Tryz.zeroValue4
 t9 := Tryz.underlying9
 a9 := Tryz.isAgg9
 z9 := Tryz.sizeOf9
 v9 := Tryz.zeroValue9
 t20 := Tryz.underlying20
 a20 := Tryz.isAgg20
 z20 := Tryz.sizeOf20
 v20 := Tryz.zeroValue20
 t31 := Tryz.underlying58
 a31 := Tryz.isAgg58
 z31 := Tryz.sizeOf58
 v31 := Tryz.zeroValue58
 t37 := Tryz.underlying87
 a37 := Tryz.isAgg87
 z37 := Tryz.sizeOf87
 v37 := Tryz.zeroValue87
 t70 := Tryz.underlying86
 a70 := Tryz.isAgg86
 z70 := Tryz.sizeOf86
 v70 := Tryz.zeroValue86
 t72 := Tryz.underlying89
 a72 := Tryz.isAgg89
 z72 := Tryz.sizeOf89
 v72 := Tryz.zeroValue89
 t75 := Tryz.underlying94
 a75 := Tryz.isAgg94
 z75 := Tryz.sizeOf94
 v75 := Tryz.zeroValue94
 t76 := Tryz.underlying95
 a76 := Tryz.isAgg95
 z76 := Tryz.sizeOf95
 v76 := Tryz.zeroValue95
 t127 := Tryz.underlying142
 a127 := Tryz.isAgg142
 z127 := Tryz.sizeOf142
 v127 := Tryz.zeroValue142
 t164 := Tryz.underlying199
 a164 := Tryz.isAgg199
 z164 := Tryz.sizeOf199
 v164 := Tryz.zeroValue199 }
theorem Tryz.Builder_Extra_156 : Builder.Extra Tryz.prog Tryz.lays156_ren := {
 sizeBuilder := by kernel_rfl
 liesBuilder := by kernel_rfl
 t5 := Tryz.underlying5
 a5 := Tryz.isAgg5
 z5 := Tryz.sizeOf5
 v5 := Tryz.zeroValue5
 infoByte := by kernel_rfl
 cellsByte := by kernel_rfl
 sizeByte := by kernel_rfl
 neB5 := by decide }
open Go.RowKit in
theorem Tryz.strings_Join_none (a : Option Addr) (c : Nat) (sep : ByteArray) (w : World) :
  Calls Tryz.prog 57 #[.slice a 0 c,.string sep] w fun e w' => e = .returned (.string ⟨#[]⟩) /\ w' = w := Any.strings_Join_none Tryz.lays156 Tryz.Builder_Extra_156 a c sep w
open Go.RowKit in
theorem Tryz.strings_Join (bk o c : Nat) (xs : List ByteArray) (sep : ByteArray) (w : World) (hcells : ∀ (j : Nat) x,xs[j]? = some x -> w.cell? ⟨bk,o + j,none⟩ = some (.string x)) (hbk : bk < w.heap.size) (hN : xs.length <= 140737488355328) (hcap : xs.length <= c) (hlen : (Lib.join (xs.map (·.data.toList)) sep.data.toList).length <= 140737488355328) :
  Calls Tryz.prog 57 #[.slice (some ⟨bk,o,none⟩) xs.length c,.string sep] w fun e w' => e = .returned (.string ⟨(Lib.join (xs.map (·.data.toList)) sep.data.toList).toArray⟩) /\ Below w.heap.size w w' := Any.strings_Join Tryz.lays156 Tryz.Builder_Extra_156 bk o c xs sep w hcells hbk hN hcap hlen
def Tryz.lays137_ren : Go.Shelf.Ren := ⟨fun | 137 => 320 | 217 => 251 | 266 => 315 | n => n,fun | 9 => 9 | 5 => 5 | 3 => 3 | n => n,fun | n => n⟩
theorem Tryz.lays137 : Go.Proofs.Lays.n137 Tryz.prog Tryz.lays137_ren := {
 mixed := by kernel_rfl
 f137 := Tryz.func320.trans (congrArg some (by kernel_rfl))
 f217 := Tryz.func251.trans (congrArg some (by kernel_rfl))
 f266 := Tryz.func315.trans (congrArg some (by kernel_rfl))
 t3 := Tryz.underlying3
 a3 := Tryz.isAgg3
 z3 := Tryz.sizeOf3
 v3 := Tryz.zeroValue3
 t5 := Tryz.underlying5
 a5 := Tryz.isAgg5
 z5 := Tryz.sizeOf5
 v5 := Tryz.zeroValue5
 t9 := Tryz.underlying9
 a9 := Tryz.isAgg9
 z9 := Tryz.sizeOf9
 v9 := Tryz.zeroValue9 }
open Go.RowKit in
theorem Tryz.strings_IndexByte (s : ByteArray) (c : Int) (w : World) :
  Calls Tryz.prog 320 #[.string s,.int .u8 c] w fun e w' => e = .returned (.int .i64 (Lib.indexByte s.data.toList c.toNat.toUInt8)) /\ w' = w := Any.strings_IndexByte Tryz.lays137 s c w
def Tryz.lays103_ren : Go.Shelf.Ren := ⟨fun | 103 => 65 | 210 => 117 | 206 => 176 | n => n,fun | 9 => 9 | 4 => 4 | 24 => 146 | 3 => 3 | n => n,fun | n => n⟩
theorem Tryz.lays103 : Go.Proofs.Lays.n103 Tryz.prog Tryz.lays103_ren := {
 mixed := by kernel_rfl
 f103 := Tryz.func65.trans (congrArg some (by kernel_rfl))
 f206 := Tryz.func176.trans (congrArg some (by kernel_rfl))
 f210 := Tryz.func117.trans (congrArg some (by kernel_rfl))
 t3 := Tryz.underlying3
 a3 := Tryz.isAgg3
 z3 := Tryz.sizeOf3
 v3 := Tryz.zeroValue3
 t4 := Tryz.underlying4
 a4 := Tryz.isAgg4
 z4 := Tryz.sizeOf4
 v4 := Tryz.zeroValue4
 t9 := Tryz.underlying9
 a9 := Tryz.isAgg9
 z9 := Tryz.sizeOf9
 v9 := Tryz.zeroValue9
 t24 := Tryz.underlying146
 a24 := Tryz.isAgg146
 z24 := Tryz.sizeOf146
 v24 := Tryz.zeroValue146 }
open Go.RowKit in
theorem Tryz.strings_CutPrefix (s p : ByteArray) (w : World) :
  Calls Tryz.prog 65 #[.string s,.string p] w fun e w' => e = .returned (.tuple #[.string ⟨(Lib.trimPrefix s.data.toList p.data.toList).toArray⟩,.bool (Lib.hasPrefix s.data.toList p.data.toList)]) /\ w' = w := Any.strings_CutPrefix Tryz.lays103 s p w
def Tryz.laysM171_ren : Go.Shelf.Ren := ⟨fun | 171 => 55 | 243 => 106 | 246 => 167 | 283 => 231 | 284 => 232 | 285 => 233 | 286 => 234 | 129 => 162 | 317 => 299 | 318 => 300 | 319 => 301 | 320 => 302 | 337 => 353 | 338 => 354 | n => n,fun | 3 => 3 | 9 => 9 | 2 => 2 | 4 => 4 | 171 => 315 | 0 => 0 | 53 => 257 | 37 => 87 | 5 => 5 | 173 => 317 | 212 => 375 | 51 => 255 | 20 => 20 | 213 => 376 | 46 => 183 | 232 => 440 | 233 => 441 | n => n,fun | 17 => 3 | 18 => 7 | 19 => 8 | n => n⟩
theorem Tryz.laysM171 : Go.Proofs.LaysM.n171 Tryz.prog Tryz.laysM171_ren := {
 mixed := by kernel_rfl
 f129 := Tryz.func162.trans (congrArg some (by kernel_rfl))
 f171 := Tryz.func55.trans (congrArg some (by kernel_rfl))
 f243 := Tryz.func106.trans (congrArg some (by kernel_rfl))
 f246 := Tryz.func167.trans (congrArg some (by kernel_rfl))
 f283 := Tryz.func231.trans (congrArg some (by kernel_rfl))
 f284 := Tryz.func232.trans (congrArg some (by kernel_rfl))
 f285 := Tryz.func233.trans (congrArg some (by kernel_rfl))
 f286 := Tryz.func234.trans (congrArg some (by kernel_rfl))
 f317 := Tryz.func299.trans (congrArg some (by kernel_rfl))
 f318 := Tryz.func300.trans (congrArg some (by kernel_rfl))
 f319 := Tryz.func301.trans (congrArg some (by kernel_rfl))
 f320 := Tryz.func302.trans (congrArg some (by kernel_rfl))
 f337 := Tryz.func353.trans (congrArg some (by kernel_rfl))
 f338 := Tryz.func354.trans (congrArg some (by kernel_rfl))
 t0 := Tryz.underlying0
 a0 := Tryz.isAgg0
 z0 := Tryz.sizeOf0
 v0 := Tryz.zeroValue0
 t2 := Tryz.underlying2
 a2 := Tryz.isAgg2
 z2 := Tryz.sizeOf2
 v2 := Tryz.zeroValue2
 t3 := Tryz.underlying3
 a3 := Tryz.isAgg3
 z3 := Tryz.sizeOf3
 v3 := Tryz.zeroValue3
 t4 := Tryz.underlying4
 a4 := Tryz.isAgg4
 z4 := Tryz.sizeOf4
 v4 := Tryz.zeroValue4
 t5 := Tryz.underlying5
 a5 := Tryz.isAgg5
 z5 := Tryz.sizeOf5
 v5 := Tryz.zeroValue5
 t9 := Tryz.underlying9
 a9 := Tryz.isAgg9
 z9 := Tryz.sizeOf9
 v9 := Tryz.zeroValue9
 t20 := Tryz.underlying20
 a20 := Tryz.isAgg20
 z20 := Tryz.sizeOf20
 v20 := Tryz.zeroValue20
 t37 := Tryz.underlying87
 a37 := Tryz.isAgg87
 z37 := Tryz.sizeOf87
 v37 := Tryz.zeroValue87
 t46 := Tryz.underlying183
 a46 := Tryz.isAgg183
 z46 := Tryz.sizeOf183
 v46 := Tryz.zeroValue183
 t51 := Tryz.underlying255
 a51 := Tryz.isAgg255
 z51 := Tryz.sizeOf255
 v51 := Tryz.zeroValue255
 t53 := Tryz.underlying257
 a53 := Tryz.isAgg257
 z53 := Tryz.sizeOf257
 v53 := Tryz.zeroValue257
 t171 := Tryz.underlying315
 a171 := Tryz.isAgg315
 z171 := Tryz.sizeOf315
 v171 := Tryz.zeroValue315
 t173 := Tryz.underlying317
 a173 := Tryz.isAgg317
 z173 := Tryz.sizeOf317
 v173 := Tryz.zeroValue317
 t212 := Tryz.underlying375
 a212 := Tryz.isAgg375
 z212 := Tryz.sizeOf375
 v212 := Tryz.zeroValue375
 t213 := Tryz.underlying376
 a213 := Tryz.isAgg376
 z213 := Tryz.sizeOf376
 t232 := Tryz.underlying440
 a232 := Tryz.isAgg440
 z232 := Tryz.sizeOf440
 v232 := Tryz.zeroValue440
 t233 := Tryz.underlying441
 a233 := Tryz.isAgg441
 z233 := Tryz.sizeOf441
 v233 := Tryz.zeroValue441
 g17 := by kernel_rfl
 g18 := by kernel_rfl
 g19 := by kernel_rfl
 i0 := by kernel_rfl
 i2 := by kernel_rfl
 i3 := by kernel_rfl
 i4 := by kernel_rfl
 i5 := by kernel_rfl
 i9 := by kernel_rfl
 i20 := by kernel_rfl
 i37 := by kernel_rfl
 i46 := by kernel_rfl
 i51 := by kernel_rfl
 i53 := by kernel_rfl
 i171 := by kernel_rfl
 i173 := by kernel_rfl
 i212 := by kernel_rfl
 i232 := by kernel_rfl
 i233 := by kernel_rfl
 m17 := by kernel_rfl
 m18 := by kernel_rfl
 m19 := by kernel_rfl }
open Go.RowKit Go.Sort Go.Lib in
theorem Tryz.strconv_Itoa (n : Int) (h0 : -9223372036854775808 <= n) (h1 : n <= 9223372036854775807) (w : World) (htab : Lib.TabIs Tryz.prog w "internal/strconv.uint64pow10" .u64 Lib.pow10Tab) :
  Calls Tryz.prog 55 #[.int .i64 n] w fun e w' => e = .returned (.string ⟨(Lib.itoa n).toArray⟩) /\ ∃ k os,w' = grow (w.drewN k) os := Any.strconv_Itoa Tryz.laysM171 n h0 h1 w htab
def Tryz.laysC172_ren : Go.Shelf.Ren := ⟨fun | 172 => 68 | 244 => 119 | 245 => 120 | 247 => 178 | 279 => 179 | 280 => 180 | 281 => 181 | 282 => 182 | 287 => 255 | 316 => 256 | 171 => 55 | 205 => 257 | 321 => 317 | 322 => 318 | 243 => 106 | 246 => 167 | 283 => 231 | 284 => 232 | 285 => 233 | 286 => 234 | 129 => 162 | 317 => 299 | 318 => 300 | 319 => 301 | 320 => 302 | 337 => 353 | 338 => 354 | n => n,fun | 9 => 9 | 3 => 3 | 75 => 94 | 76 => 95 | 4 => 4 | 5 => 5 | 167 => 270 | 37 => 87 | 0 => 0 | 85 => 271 | 2 => 2 | 168 => 273 | 53 => 257 | 175 => 337 | 46 => 183 | 210 => 340 | 127 => 142 | 145 => 386 | 143 => 384 | 21 => 21 | 171 => 315 | 173 => 317 | 212 => 375 | 51 => 255 | 20 => 20 | 213 => 376 | 232 => 440 | 233 => 441 | 80 => 36 | n => n,fun | 15 => 1 | 16 => 2 | 17 => 3 | 18 => 7 | 19 => 8 | n => n⟩
theorem Tryz.laysC172 : Go.Proofs.LaysC.n172 Tryz.prog Tryz.laysC172_ren := {
 mixed := by kernel_rfl
 f129 := Tryz.func162.trans (congrArg some (by kernel_rfl))
 f171 := Tryz.func55.trans (congrArg some (by kernel_rfl))
 f172 := Tryz.func68.trans (congrArg some (by kernel_rfl))
 f205 := Tryz.func257.trans (congrArg some (by kernel_rfl))
 f243 := Tryz.func106.trans (congrArg some (by kernel_rfl))
 f244 := Tryz.func119.trans (congrArg some (by kernel_rfl))
 f245 := Tryz.func120.trans (congrArg some (by kernel_rfl))
 f246 := Tryz.func167.trans (congrArg some (by kernel_rfl))
 f247 := Tryz.func178.trans (congrArg some (by kernel_rfl))
 f279 := Tryz.func179.trans (congrArg some (by kernel_rfl))
 f280 := Tryz.func180.trans (congrArg some (by kernel_rfl))
 f281 := Tryz.func181.trans (congrArg some (by kernel_rfl))
 f282 := Tryz.func182.trans (congrArg some (by kernel_rfl))
 f283 := Tryz.func231.trans (congrArg some (by kernel_rfl))
 f284 := Tryz.func232.trans (congrArg some (by kernel_rfl))
 f285 := Tryz.func233.trans (congrArg some (by kernel_rfl))
 f286 := Tryz.func234.trans (congrArg some (by kernel_rfl))
 f287 := Tryz.func255.trans (congrArg some (by kernel_rfl))
 f316 := Tryz.func256.trans (congrArg some (by kernel_rfl))
 f317 := Tryz.func299.trans (congrArg some (by kernel_rfl))
 f318 := Tryz.func300.trans (congrArg some (by kernel_rfl))
 f319 := Tryz.func301.trans (congrArg some (by kernel_rfl))
 f320 := Tryz.func302.trans (congrArg some (by kernel_rfl))
 f321 := Tryz.func317.trans (congrArg some (by kernel_rfl))
 f322 := Tryz.func318.trans (congrArg some (by kernel_rfl))
 f337 := Tryz.func353.trans (congrArg some (by kernel_rfl))
 f338 := Tryz.func354.trans (congrArg some (by kernel_rfl))
 t0 := Tryz.underlying0
 a0 := Tryz.isAgg0
 z0 := Tryz.sizeOf0
 v0 := Tryz.zeroValue0
 t2 := Tryz.underlying2
 a2 := Tryz.isAgg2
 z2 := Tryz.sizeOf2
 v2 := Tryz.zeroValue2
 t3 := Tryz.underlying3
 a3 := Tryz.isAgg3
 z3 := Tryz.sizeOf3
 v3 := Tryz.zeroValue3
 t4 := Tryz.underlying4
 a4 := Tryz.isAgg4
 z4 := Tryz.sizeOf4
 v4 := Tryz.zeroValue4
 t5 := Tryz.underlying5
 a5 := Tryz.isAgg5
 z5 := Tryz.sizeOf5
 v5 := Tryz.zeroValue5
 t9 := Tryz.underlying9
 a9 := Tryz.isAgg9
 z9 := Tryz.sizeOf9
 v9 := Tryz.zeroValue9
 t20 := Tryz.underlying20
 a20 := Tryz.isAgg20
 z20 := Tryz.sizeOf20
 v20 := Tryz.zeroValue20
 t21 := Tryz.underlying21
 a21 := Tryz.isAgg21
 z21 := Tryz.sizeOf21
 v21 := Tryz.zeroValue21
 t37 := Tryz.underlying87
 a37 := Tryz.isAgg87
 z37 := Tryz.sizeOf87
 v37 := Tryz.zeroValue87
 t46 := Tryz.underlying183
 a46 := Tryz.isAgg183
 z46 := Tryz.sizeOf183
 v46 := Tryz.zeroValue183
 t51 := Tryz.underlying255
 a51 := Tryz.isAgg255
 z51 := Tryz.sizeOf255
 v51 := Tryz.zeroValue255
 t53 := Tryz.underlying257
 a53 := Tryz.isAgg257
 z53 := Tryz.sizeOf257
 v53 := Tryz.zeroValue257
 t75 := Tryz.underlying94
 a75 := Tryz.isAgg94
 z75 := Tryz.sizeOf94
 v75 := Tryz.zeroValue94
 t76 := Tryz.underlying95
 a76 := Tryz.isAgg95
 z76 := Tryz.sizeOf95
 v76 := Tryz.zeroValue95
 t85 := Tryz.underlying271
 a85 := Tryz.isAgg271
 z85 := Tryz.sizeOf271
 v85 := Tryz.zeroValue271
 t127 := Tryz.underlying142
 a127 := Tryz.isAgg142
 z127 := Tryz.sizeOf142
 v127 := Tryz.zeroValue142
 t143 := Tryz.underlying384
 a143 := Tryz.isAgg384
 z143 := Tryz.sizeOf384
 v143 := Tryz.zeroValue384
 t145 := Tryz.underlying386
 a145 := Tryz.isAgg386
 z145 := Tryz.sizeOf386
 v145 := Tryz.zeroValue386
 t167 := Tryz.underlying270
 a167 := Tryz.isAgg270
 z167 := Tryz.sizeOf270
 v167 := Tryz.zeroValue270
 t168 := Tryz.underlying273
 a168 := Tryz.isAgg273
 z168 := Tryz.sizeOf273
 v168 := Tryz.zeroValue273
 t171 := Tryz.underlying315
 a171 := Tryz.isAgg315
 z171 := Tryz.sizeOf315
 v171 := Tryz.zeroValue315
 t173 := Tryz.underlying317
 a173 := Tryz.isAgg317
 z173 := Tryz.sizeOf317
 v173 := Tryz.zeroValue317
 t175 := Tryz.underlying337
 a175 := Tryz.isAgg337
 z175 := Tryz.sizeOf337
 v175 := Tryz.zeroValue337
 t210 := Tryz.underlying340
 a210 := Tryz.isAgg340
 z210 := Tryz.sizeOf340
 v210 := Tryz.zeroValue340
 t212 := Tryz.underlying375
 a212 := Tryz.isAgg375
 z212 := Tryz.sizeOf375
 v212 := Tryz.zeroValue375
 t213 := Tryz.underlying376
 a213 := Tryz.isAgg376
 z213 := Tryz.sizeOf376
 t232 := Tryz.underlying440
 a232 := Tryz.isAgg440
 z232 := Tryz.sizeOf440
 v232 := Tryz.zeroValue440
 t233 := Tryz.underlying441
 a233 := Tryz.isAgg441
 z233 := Tryz.sizeOf441
 v233 := Tryz.zeroValue441
 g15 := by kernel_rfl
 g16 := by kernel_rfl
 g17 := by kernel_rfl
 g18 := by kernel_rfl
 g19 := by kernel_rfl
 t80 := Tryz.underlying36
 a80 := Tryz.isAgg36
 z80 := Tryz.sizeOf36
 v80 := Tryz.zeroValue36
 i0 := by kernel_rfl
 i2 := by kernel_rfl
 i3 := by kernel_rfl
 i4 := by kernel_rfl
 i5 := by kernel_rfl
 i9 := by kernel_rfl
 i20 := by kernel_rfl
 i21 := by kernel_rfl
 i37 := by kernel_rfl
 i46 := by kernel_rfl
 i51 := by kernel_rfl
 i53 := by kernel_rfl
 i75 := by kernel_rfl
 i76 := by kernel_rfl
 i80 := by kernel_rfl
 i85 := by kernel_rfl
 i127 := by kernel_rfl
 i143 := by kernel_rfl
 i145 := by kernel_rfl
 i167 := by kernel_rfl
 i168 := by kernel_rfl
 i171 := by kernel_rfl
 i173 := by kernel_rfl
 i175 := by kernel_rfl
 i210 := by kernel_rfl
 i212 := by kernel_rfl
 i232 := by kernel_rfl
 i233 := by kernel_rfl
 m15 := by kernel_rfl
 m16 := by kernel_rfl
 m17 := by kernel_rfl
 m18 := by kernel_rfl
 m19 := by kernel_rfl
 c0 := by kernel_rfl
 c2 := by kernel_rfl
 c3 := by kernel_rfl
 c4 := by kernel_rfl
 c5 := by kernel_rfl
 c9 := by kernel_rfl
 c20 := by kernel_rfl
 c21 := by kernel_rfl
 c37 := by kernel_rfl
 c46 := by kernel_rfl
 c51 := by kernel_rfl
 c53 := by kernel_rfl
 c75 := by kernel_rfl
 c76 := by kernel_rfl
 c80 := by kernel_rfl
 c85 := by kernel_rfl
 c127 := by kernel_rfl
 c143 := by kernel_rfl
 c145 := by kernel_rfl
 c167 := by kernel_rfl
 c168 := by kernel_rfl
 c171 := by kernel_rfl
 c173 := by kernel_rfl
 c175 := by kernel_rfl
 c210 := by kernel_rfl
 c212 := by kernel_rfl
 c213 := by kernel_rfl
 c232 := by kernel_rfl
 c233 := by kernel_rfl }
open Go.RowKit in
theorem Tryz.strconv_Atoi_ok (s : ByteArray) (hmax : s.size <= 9223372036854775806) (v : Int) (h : Lib.atoiAll s.data.toList = .ok v) (w : World) :
  Calls Tryz.prog 68 #[.string s] w fun e w' => e = .returned (.tuple #[.int .i64 v,.nilIface]) /\ (w' = w \/ ∃ t,w' = Lib.bytesWorld w 5 t) := Any.strconv_Atoi_ok Tryz.laysC172 s hmax v h w
def Tryz.lays145_ren : Go.Shelf.Ren := ⟨fun | 145 => 67 | 220 => 118 | 219 => 177 | 217 => 251 | 225 => 252 | 224 => 253 | 267 => 254 | 266 => 315 | 314 => 316 | n => n,fun | 9 => 9 | 4 => 4 | 59 => 148 | 3 => 3 | 5 => 5 | 46 => 183 | 146 => 381 | 51 => 255 | n => n,fun | 1 => 0 | n => n⟩
theorem Tryz.lays145 : Go.Proofs.Lays.n145 Tryz.prog Tryz.lays145_ren := {
 mixed := by kernel_rfl
 f145 := Tryz.func67.trans (congrArg some (by kernel_rfl))
 f217 := Tryz.func251.trans (congrArg some (by kernel_rfl))
 f219 := Tryz.func177.trans (congrArg some (by kernel_rfl))
 f220 := Tryz.func118.trans (congrArg some (by kernel_rfl))
 f224 := Tryz.func253.trans (congrArg some (by kernel_rfl))
 f225 := Tryz.func252.trans (congrArg some (by kernel_rfl))
 f266 := Tryz.func315.trans (congrArg some (by kernel_rfl))
 f267 := Tryz.func254.trans (congrArg some (by kernel_rfl))
 f314 := Tryz.func316.trans (congrArg some (by kernel_rfl))
 t3 := Tryz.underlying3
 a3 := Tryz.isAgg3
 z3 := Tryz.sizeOf3
 v3 := Tryz.zeroValue3
 t4 := Tryz.underlying4
 a4 := Tryz.isAgg4
 z4 := Tryz.sizeOf4
 v4 := Tryz.zeroValue4
 t5 := Tryz.underlying5
 a5 := Tryz.isAgg5
 z5 := Tryz.sizeOf5
 v5 := Tryz.zeroValue5
 t9 := Tryz.underlying9
 a9 := Tryz.isAgg9
 z9 := Tryz.sizeOf9
 v9 := Tryz.zeroValue9
 t46 := Tryz.underlying183
 a46 := Tryz.isAgg183
 z46 := Tryz.sizeOf183
 v46 := Tryz.zeroValue183
 t51 := Tryz.underlying255
 a51 := Tryz.isAgg255
 z51 := Tryz.sizeOf255
 v51 := Tryz.zeroValue255
 t59 := Tryz.underlying148
 a59 := Tryz.isAgg148
 z59 := Tryz.sizeOf148
 v59 := Tryz.zeroValue148
 t146 := Tryz.underlying381
 a146 := Tryz.isAgg381
 z146 := Tryz.sizeOf381
 v146 := Tryz.zeroValue381
 g1 := by kernel_rfl }
open Go.RowKit Go.Lib in
theorem Tryz.strings_Cut (s sep : ByteArray) (m : Int) (w : World) (hs : s.size < 4294967281) (hm : w.cell? ⟨0,0,none⟩ = some (.int .i64 m)) :
  Calls Tryz.prog 67 #[.string s,.string sep] w fun e w' => e = .returned (.tuple #[.string ⟨(Lib.cut s.data.toList sep.data.toList).1.toArray⟩,.string ⟨(Lib.cut s.data.toList sep.data.toList).2.1.toArray⟩,.bool (Lib.cut s.data.toList sep.data.toList).2.2]) /\ ∃ n,w' = w.drewN n := Any.strings_Cut Tryz.lays145 s sep m w hs hm
def Tryz.lays146_ren : Go.Shelf.Ren := ⟨fun | 146 => 72 | 221 => 123 | 268 => 185 | 138 => 186 | 143 => 187 | 195 => 265 | 197 => 235 | 218 => 266 | 219 => 177 | 260 => 303 | 217 => 251 | 225 => 252 | 224 => 253 | 267 => 254 | 266 => 315 | 314 => 316 | n => n,fun | 9 => 9 | 31 => 58 | 3 => 3 | 4 => 4 | 0 => 0 | 105 => 319 | 21 => 21 | 5 => 5 | 46 => 183 | 119 => 405 | 139 => 408 | 138 => 407 | 146 => 381 | 51 => 255 | n => n,fun | 1 => 0 | 3 => 4 | 4 => 5 | n => n⟩
theorem Tryz.lays146 : Go.Proofs.Lays.n146 Tryz.prog Tryz.lays146_ren := {
 mixed := by kernel_rfl
 f138 := Tryz.func186.trans (congrArg some (by kernel_rfl))
 f143 := Tryz.func187.trans (congrArg some (by kernel_rfl))
 f146 := Tryz.func72.trans (congrArg some (by kernel_rfl))
 f195 := Tryz.func265.trans (congrArg some (by kernel_rfl))
 f197 := Tryz.func235.trans (congrArg some (by kernel_rfl))
 f217 := Tryz.func251.trans (congrArg some (by kernel_rfl))
 f218 := Tryz.func266.trans (congrArg some (by kernel_rfl))
 f219 := Tryz.func177.trans (congrArg some (by kernel_rfl))
 f221 := Tryz.func123.trans (congrArg some (by kernel_rfl))
 f224 := Tryz.func253.trans (congrArg some (by kernel_rfl))
 f225 := Tryz.func252.trans (congrArg some (by kernel_rfl))
 f260 := Tryz.func303.trans (congrArg some (by kernel_rfl))
 f266 := Tryz.func315.trans (congrArg some (by kernel_rfl))
 f267 := Tryz.func254.trans (congrArg some (by kernel_rfl))
 f268 := Tryz.func185.trans (congrArg some (by kernel_rfl))
 f314 := Tryz.func316.trans (congrArg some (by kernel_rfl))
 t0 := Tryz.underlying0
 a0 := Tryz.isAgg0
 z0 := Tryz.sizeOf0
 v0 := Tryz.zeroValue0
 t3 := Tryz.underlying3
 a3 := Tryz.isAgg3
 z3 := Tryz.sizeOf3
 v3 := Tryz.zeroValue3
 t4 := Tryz.underlying4
 a4 := Tryz.isAgg4
 z4 := Tryz.sizeOf4
 v4 := Tryz.zeroValue4
 t5 := Tryz.underlying5
 a5 := Tryz.isAgg5
 z5 := Tryz.sizeOf5
 v5 := Tryz.zeroValue5
 t9 := Tryz.underlying9
 a9 := Tryz.isAgg9
 z9 := Tryz.sizeOf9
 v9 := Tryz.zeroValue9
 t21 := Tryz.underlying21
 a21 := Tryz.isAgg21
 z21 := Tryz.sizeOf21
 v21 := Tryz.zeroValue21
 t31 := Tryz.underlying58
 a31 := Tryz.isAgg58
 z31 := Tryz.sizeOf58
 v31 := Tryz.zeroValue58
 t46 := Tryz.underlying183
 a46 := Tryz.isAgg183
 z46 := Tryz.sizeOf183
 v46 := Tryz.zeroValue183
 t51 := Tryz.underlying255
 a51 := Tryz.isAgg255
 z51 := Tryz.sizeOf255
 v51 := Tryz.zeroValue255
 t105 := Tryz.underlying319
 a105 := Tryz.isAgg319
 z105 := Tryz.sizeOf319
 v105 := Tryz.zeroValue319
 t119 := Tryz.underlying405
 a119 := Tryz.isAgg405
 z119 := Tryz.sizeOf405
 t138 := Tryz.underlying407
 a138 := Tryz.isAgg407
 z138 := Tryz.sizeOf407
 v138 := Tryz.zeroValue407
 t139 := Tryz.underlying408
 a139 := Tryz.isAgg408
 z139 := Tryz.sizeOf408
 v139 := Tryz.zeroValue408
 t146 := Tryz.underlying381
 a146 := Tryz.isAgg381
 z146 := Tryz.sizeOf381
 v146 := Tryz.zeroValue381
 g1 := by kernel_rfl
 g3 := by kernel_rfl
 g4 := by kernel_rfl }
open Go.RowKit Go.Lib in
theorem Tryz.strings_Split (s sep : ByteArray) (m : Int) (w : World) (hs : s.size < 4294967281) (hm : w.cell? ⟨0,0,none⟩ = some (.int .i64 m)) (h1 : 1 <= sep.size) :
  Calls Tryz.prog 72 #[.string s,.string sep] w fun e w' =>
   e = .returned (.slice (some ⟨w.heap.size,0,none⟩) (Lib.countB s sep + 1) (Lib.countB s sep + 1)) /\ w' = w.alloc (.cells ((Lib.splitB sep 0 (Lib.countB s sep) s).map Value.string).toArray 9) := Any.strings_Split Tryz.lays146 (by kernel_rfl) s sep m w hs hm h1
def Tryz.lays155_ren : Go.Shelf.Ren := ⟨fun | 155 => 107 | 154 => 168 | 138 => 186 | 165 => 110 | 143 => 187 | 166 => 34 | 197 => 235 | 169 => 36 | 195 => 265 | 218 => 266 | 240 => 61 | 241 => 173 | 219 => 177 | 260 => 303 | 276 => 114 | 277 => 241 | 217 => 251 | 225 => 252 | 224 => 253 | 267 => 254 | 266 => 315 | 314 => 316 | n => n,fun | 9 => 9 | 3 => 3 | 4 => 4 | 72 => 89 | 0 => 0 | 76 => 95 | 105 => 319 | 21 => 21 | 5 => 5 | 70 => 86 | 20 => 20 | 37 => 87 | 75 => 94 | 127 => 142 | 164 => 199 | 46 => 183 | 119 => 405 | 139 => 408 | 138 => 407 | 146 => 381 | 51 => 255 | 80 => 36 | n => n,fun | 1 => 0 | 3 => 4 | 4 => 5 | n => n⟩
theorem Tryz.lays155 : Go.Proofs.Lays.n155 Tryz.prog Tryz.lays155_ren := {
 mixed := by kernel_rfl
 f138 := Tryz.func186.trans (congrArg some (by kernel_rfl))
 f143 := Tryz.func187.trans (congrArg some (by kernel_rfl))
 f154 := Tryz.func168.trans (congrArg some (by kernel_rfl))
 f155 := Tryz.func107.trans (congrArg some (by kernel_rfl))
 f165 := Tryz.func110.trans (congrArg some (by kernel_rfl))
 f166 := Tryz.func34.trans (congrArg some (by kernel_rfl))
 f169 := Tryz.func36.trans (congrArg some (by kernel_rfl))
 f195 := Tryz.func265.trans (congrArg some (by kernel_rfl))
 f197 := Tryz.func235.trans (congrArg some (by kernel_rfl))
 f217 := Tryz.func251.trans (congrArg some (by kernel_rfl))
 f218 := Tryz.func266.trans (congrArg some (by kernel_rfl))
 f219 := Tryz.func177.trans (congrArg some (by kernel_rfl))
 f224 := Tryz.func253.trans (congrArg some (by kernel_rfl))
 f225 := Tryz.func252.trans (congrArg some (by kernel_rfl))
 f240 := Tryz.func61.trans (congrArg some (by kernel_rfl))
 f241 := Tryz.func173.trans (congrArg some (by kernel_rfl))
 f260 := Tryz.func303.trans (congrArg some (by kernel_rfl))
 f266 := Tryz.func315.trans (congrArg some (by kernel_rfl))
 f267 := Tryz.func254.trans (congrArg some (by kernel_rfl))
 f276 := Tryz.func114.trans (congrArg some (by kernel_rfl))
 f277 := Tryz.func241.trans (congrArg some (by kernel_rfl))
 f314 := Tryz.func316.trans (congrArg some (by kernel_rfl))
 t0 := Tryz.underlying0
 a0 := Tryz.isAgg0
 z0 := Tryz.sizeOf0
 v0 := Tryz.zeroValue0
 t3 := Tryz.underlying3
 a3 := Tryz.isAgg3
 z3 := Tryz.sizeOf3
 v3 := Tryz.zeroValue3
 t4 := Tryz.underlying4
 a4 := Tryz.isAgg4
 z4 := Tryz.sizeOf4
 v4 := Tryz.zeroValue4
 t5 := Tryz.underlying5
 a5 := Tryz.isAgg5
 z5 := Tryz.sizeOf5
 v5 := Tryz.zeroValue5
 t9 := Tryz.underlying9
 a9 := Tryz.isAgg9
 z9 := Tryz.sizeOf9
 v9 := Tryz.zeroValue9
 t20 := Tryz.underlying20
 a20 := Tryz.isAgg20
 z20 := Tryz.sizeOf20
 v20 := Tryz.zeroValue20
 t21 := Tryz.underlying21
 a21 := Tryz.isAgg21
 z21 := Tryz.sizeOf21
 v21 := Tryz.zeroValue21
 t37 := Tryz.underlying87
 a37 := Tryz.isAgg87
 z37 := Tryz.sizeOf87
 v37 := Tryz.zeroValue87
 t46 := Tryz.underlying183
 a46 := Tryz.isAgg183
 z46 := Tryz.sizeOf183
 v46 := Tryz.zeroValue183
 t51 := Tryz.underlying255
 a51 := Tryz.isAgg255
 z51 := Tryz.sizeOf255
 v51 := Tryz.zeroValue255
 t70 := Tryz.underlying86
 a70 := Tryz.isAgg86
 z70 := Tryz.sizeOf86
 v70 := Tryz.zeroValue86
 t72 := Tryz.underlying89
 a72 := Tryz.isAgg89
 z72 := Tryz.sizeOf89
 v72 := Tryz.zeroValue89
 t75 := Tryz.underlying94
 a75 := Tryz.isAgg94
 z75 := Tryz.sizeOf94
 v75 := Tryz.zeroValue94
 t76 := Tryz.underlying95
 a76 := Tryz.isAgg95
 z76 := Tryz.sizeOf95
 v76 := Tryz.zeroValue95
 t105 := Tryz.underlying319
 a105 := Tryz.isAgg319
 z105 := Tryz.sizeOf319
 v105 := Tryz.zeroValue319
 t119 := Tryz.underlying405
 a119 := Tryz.isAgg405
 z119 := Tryz.sizeOf405
 t127 := Tryz.underlying142
 a127 := Tryz.isAgg142
 z127 := Tryz.sizeOf142
 v127 := Tryz.zeroValue142
 t138 := Tryz.underlying407
 a138 := Tryz.isAgg407
 z138 := Tryz.sizeOf407
 v138 := Tryz.zeroValue407
 t139 := Tryz.underlying408
 a139 := Tryz.isAgg408
 z139 := Tryz.sizeOf408
 v139 := Tryz.zeroValue408
 t146 := Tryz.underlying381
 a146 := Tryz.isAgg381
 z146 := Tryz.sizeOf381
 v146 := Tryz.zeroValue381
 t164 := Tryz.underlying199
 a164 := Tryz.isAgg199
 z164 := Tryz.sizeOf199
 v164 := Tryz.zeroValue199
 g1 := by kernel_rfl
 g3 := by kernel_rfl
 g4 := by kernel_rfl }
theorem Tryz.Builder_Extra_155 : Builder.Extra Tryz.prog Tryz.lays155_ren := {
 sizeBuilder := by kernel_rfl
 liesBuilder := by kernel_rfl
 t5 := Tryz.underlying5
 a5 := Tryz.isAgg5
 z5 := Tryz.sizeOf5
 v5 := Tryz.zeroValue5
 infoByte := by kernel_rfl
 cellsByte := by kernel_rfl
 sizeByte := by kernel_rfl
 neB5 := by decide }
open Go.RowKit Go.Lib in
theorem Tryz.strings_ReplaceAll (s old new : ByteArray) (m : Int) (w : World) (hs : s.size < 4294967281) (hm : w.cell? ⟨0,0,none⟩ = some (.int .i64 m)) (h1 : 1 <= old.size) (hlen : s.size + Lib.countB s old * new.size <= 140737488355328) :
  Calls Tryz.prog 107 #[.string s,.string old,.string new] w fun e w' =>
   e = .returned (.string ⟨(Lib.replaceAll s.data.toList old.data.toList new.data.toList).toArray⟩) /\ Below w.heap.size w w' := Any.strings_ReplaceAll Tryz.lays155 Tryz.Builder_Extra_155 s old new m w hs hm h1 hlen
def Tryz.lays153_ren : Go.Shelf.Ren := ⟨fun | 153 => 319 | 152 => 359 | 226 => 360 | 227 => 361 | 228 => 362 | 137 => 320 | 119 => 396 | 224 => 253 | 225 => 252 | 217 => 251 | 266 => 315 | n => n,fun | 9 => 9 | 3 => 3 | 4 => 4 | 5 => 5 | 21 => 21 | 117 => 416 | 116 => 415 | 0 => 0 | 46 => 183 | 124 => 445 | n => n,fun | n => n⟩
theorem Tryz.lays153 : Go.Proofs.Lays.n153 Tryz.prog Tryz.lays153_ren := {
 mixed := by kernel_rfl
 f119 := Tryz.func396.trans (congrArg some (by kernel_rfl))
 f137 := Tryz.func320.trans (congrArg some (by kernel_rfl))
 f152 := Tryz.func359.trans (congrArg some (by kernel_rfl))
 f153 := Tryz.func319.trans (congrArg some (by kernel_rfl))
 f217 := Tryz.func251.trans (congrArg some (by kernel_rfl))
 f224 := Tryz.func253.trans (congrArg some (by kernel_rfl))
 f225 := Tryz.func252.trans (congrArg some (by kernel_rfl))
 f226 := Tryz.func360.trans (congrArg some (by kernel_rfl))
 f227 := Tryz.func361.trans (congrArg some (by kernel_rfl))
 f228 := Tryz.func362.trans (congrArg some (by kernel_rfl))
 f266 := Tryz.func315.trans (congrArg some (by kernel_rfl))
 t0 := Tryz.underlying0
 a0 := Tryz.isAgg0
 z0 := Tryz.sizeOf0
 v0 := Tryz.zeroValue0
 t3 := Tryz.underlying3
 a3 := Tryz.isAgg3
 z3 := Tryz.sizeOf3
 v3 := Tryz.zeroValue3
 t4 := Tryz.underlying4
 a4 := Tryz.isAgg4
 z4 := Tryz.sizeOf4
 v4 := Tryz.zeroValue4
 t5 := Tryz.underlying5
 a5 := Tryz.isAgg5
 z5 := Tryz.sizeOf5
 v5 := Tryz.zeroValue5
 t9 := Tryz.underlying9
 a9 := Tryz.isAgg9
 z9 := Tryz.sizeOf9
 v9 := Tryz.zeroValue9
 t21 := Tryz.underlying21
 a21 := Tryz.isAgg21
 z21 := Tryz.sizeOf21
 v21 := Tryz.zeroValue21
 t46 := Tryz.underlying183
 a46 := Tryz.isAgg183
 z46 := Tryz.sizeOf183
 v46 := Tryz.zeroValue183
 t116 := Tryz.underlying415
 a116 := Tryz.isAgg415
 z116 := Tryz.sizeOf415
 t117 := Tryz.underlying416
 a117 := Tryz.isAgg416
 z117 := Tryz.sizeOf416
 v117 := Tryz.zeroValue416
 t124 := Tryz.underlying445
 a124 := Tryz.isAgg445
 z124 := Tryz.sizeOf445
 v124 := Tryz.zeroValue445 }
open Go.RowKit Go.Lib in
theorem Tryz.strings_IndexAny_laid (s chars : ByteArray) (w : World) (hs : s.size < 4294967281) (hcs : chars.size < 4294967281) (has : ∀ (j : Nat) b,s.data.toList[j]? = some b -> b.toNat < 128) (hac : ∀ (j : Nat) b,chars.data.toList[j]? = some b -> b.toNat < 128) :
  Calls Tryz.prog 319 #[.string s,.string chars] w fun e w' => e = .returned (.int .i64 (Lib.indexAny s.data.toList chars.data.toList)) /\ Below w.heap.size w w' := Any.strings_IndexAny_laid Tryz.lays153 (by kernel_rfl) s chars w hs hcs has hac
def Tryz.laysNm215_ren : Go.Shelf.Ren := ⟨fun | 15 => 98 | n => n,fun | 22 => 28 | 3 => 3 | 4 => 4 | n => n,fun | n => n⟩
theorem Tryz.laysNm215 : Go.Proofs.Lays2.n15 Tryz.prog Tryz.laysNm215_ren := {
 mixed := by kernel_rfl
 f15 := Tryz.func98.trans (congrArg some (by kernel_rfl))
 t3 := Tryz.underlying3
 a3 := Tryz.isAgg3
 z3 := Tryz.sizeOf3
 v3 := Tryz.zeroValue3
 t4 := Tryz.underlying4
 a4 := Tryz.isAgg4
 z4 := Tryz.sizeOf4
 v4 := Tryz.zeroValue4
 t22 := Tryz.underlying28
 a22 := Tryz.isAgg28
 z22 := Tryz.sizeOf28
 v22 := Tryz.zeroValue28
 i3 := by kernel_rfl }
open Go.RowKit Go.Lib in
theorem Tryz.slices_Clone_int (b off n c : Nat) (zs : List Int) (w : World) (hz : n <= zs.length) (hbig : n * 8 <= 140737488355328) (hc : ∀ j,j < zs.length -> w.cell? ⟨b,off + j,none⟩ = some (.int .i64 (zs.getD j 0))) :
  Calls Tryz.prog 98 #[.slice (some ⟨b,off,none⟩) n c] w fun e w' => ∃ v',e = .returned v' /\ w'.ownsRow w.heap.size 3 1 v' n ((zs.take n).map (Value.int .i64)) /\ v' ≠ .slice none 0 0 /\ Below w.heap.size w w' := Any.slices_Clone_int Tryz.laysNm215 b off n c zs w hz hbig hc
open Go.RowKit Go.Lib in
theorem Tryz.slices_Clone_int_nil (n c : Nat) (w : World) :
  Calls Tryz.prog 98 #[.slice none n c] w fun e w' => e = .returned (.slice none 0 0) /\ w' = w := Any.slices_Clone_int_nil Tryz.laysNm215 n c w
def Tryz.laysNm216_ren : Go.Shelf.Ren := ⟨fun | 16 => 163 | n => n,fun | 24 => 58 | 9 => 9 | 4 => 4 | n => n,fun | n => n⟩
theorem Tryz.laysNm216 : Go.Proofs.Lays2.n16 Tryz.prog Tryz.laysNm216_ren := {
 mixed := by kernel_rfl
 f16 := Tryz.func163.trans (congrArg some (by kernel_rfl))
 t4 := Tryz.underlying4
 a4 := Tryz.isAgg4
 z4 := Tryz.sizeOf4
 v4 := Tryz.zeroValue4
 t9 := Tryz.underlying9
 a9 := Tryz.isAgg9
 z9 := Tryz.sizeOf9
 v9 := Tryz.zeroValue9
 t24 := Tryz.underlying58
 a24 := Tryz.isAgg58
 z24 := Tryz.sizeOf58
 v24 := Tryz.zeroValue58
 i9 := by kernel_rfl }
open Go.RowKit Go.Lib in
theorem Tryz.slices_Clone_string_nil (n c : Nat) (w : World) :
  Calls Tryz.prog 163 #[.slice none n c] w fun e w' => e = .returned (.slice none 0 0) /\ w' = w := Any.slices_Clone_string_nil Tryz.laysNm216 n c w
open Go.RowKit Go.Lib in
theorem Tryz.slices_Clone_int_zero (a : Addr) (c : Nat) (w : World) :
  Calls Tryz.prog 98 #[.slice (some a) 0 c] w fun e w' => ∃ v',e = .returned v' /\ w'.ownsRow w.heap.size 3 1 v' 0 [] /\ v' ≠ .slice none 0 0 /\ Below w.heap.size w w' := Any.slices_Clone_int_zero Tryz.laysNm215 a c w
open Go.RowKit Go.Lib in
theorem Tryz.slices_Clone_string_zero (a : Addr) (c : Nat) (w : World) :
  Calls Tryz.prog 163 #[.slice (some a) 0 c] w fun e w' => ∃ v',e = .returned v' /\ w'.ownsRow w.heap.size 9 1 v' 0 [] /\ v' ≠ .slice none 0 0 /\ Below w.heap.size w w' := Any.slices_Clone_string_zero Tryz.laysNm216 a c w
def Tryz.laysSlM5_f46_ren : Go.Shelf.Ren := ⟨fun | 5 => 46 | 8 => 95 | 7 => 94 | 19 => 161 | 20 => 162 | 10 => 152 | 11 => 153 | 12 => 154 | 13 => 155 | 14 => 156 | 15 => 157 | 16 => 158 | 17 => 159 | 18 => 160 | 30 => 223 | 31 => 224 | 32 => 225 | 33 => 226 | 34 => 227 | 35 => 228 | 40 => 298 | n => n,fun | 23 => 28 | 25 => 3 | 3 => 3 | 32 => 183 | 22 => 28 | 0 => 0 | 44 => 255 | 46 => 257 | 4 => 4 | 36 => 249 | 35 => 248 | 41 => 105 | 5 => 5 | 9 => 9 | 53 => 308 | 57 => 312 | 63 => 371 | 64 => 372 | n => n,fun | n => n⟩
theorem Tryz.laysSlM5_f46 : Go.Proofs.SlLaysM.n5 Tryz.prog Tryz.laysSlM5_f46_ren := {
 mixed := by kernel_rfl
 f5 := ⟨Tryz.f46.name,by decide,Tryz.func46.trans (congrArg some (by kernel_rfl))⟩
 f7 := ⟨Tryz.f94.name,by decide,Tryz.func94.trans (congrArg some (by kernel_rfl))⟩
 f8 := Tryz.func95.trans (congrArg some (by kernel_rfl))
 f10 := ⟨Tryz.f152.name,by decide,Tryz.func152.trans (congrArg some (by kernel_rfl))⟩
 f11 := ⟨Tryz.f153.name,by decide,Tryz.func153.trans (congrArg some (by kernel_rfl))⟩
 f12 := ⟨Tryz.f154.name,by decide,Tryz.func154.trans (congrArg some (by kernel_rfl))⟩
 f13 := ⟨Tryz.f155.name,by decide,Tryz.func155.trans (congrArg some (by kernel_rfl))⟩
 f14 := ⟨Tryz.f156.name,by decide,Tryz.func156.trans (congrArg some (by kernel_rfl))⟩
 f15 := ⟨Tryz.f157.name,by decide,Tryz.func157.trans (congrArg some (by kernel_rfl))⟩
 f16 := ⟨Tryz.f158.name,by decide,Tryz.func158.trans (congrArg some (by kernel_rfl))⟩
 f17 := ⟨Tryz.f159.name,by decide,Tryz.func159.trans (congrArg some (by kernel_rfl))⟩
 f18 := ⟨Tryz.f160.name,by decide,Tryz.func160.trans (congrArg some (by kernel_rfl))⟩
 f19 := Tryz.func161.trans (congrArg some (by kernel_rfl))
 f20 := Tryz.func162.trans (congrArg some (by kernel_rfl))
 f30 := ⟨Tryz.f223.name,by decide,Tryz.func223.trans (congrArg some (by kernel_rfl))⟩
 f31 := Tryz.func224.trans (congrArg some (by kernel_rfl))
 f32 := Tryz.func225.trans (congrArg some (by kernel_rfl))
 f33 := ⟨Tryz.f226.name,by decide,Tryz.func226.trans (congrArg some (by kernel_rfl))⟩
 f34 := ⟨Tryz.f227.name,by decide,Tryz.func227.trans (congrArg some (by kernel_rfl))⟩
 f35 := ⟨Tryz.f228.name,by decide,Tryz.func228.trans (congrArg some (by kernel_rfl))⟩
 f40 := ⟨Tryz.f298.name,by decide,Tryz.func298.trans (congrArg some (by kernel_rfl))⟩
 t0 := Tryz.underlying0
 a0 := Tryz.isAgg0
 z0 := Tryz.sizeOf0
 v0 := Tryz.zeroValue0
 t3 := Tryz.underlying3
 a3 := Tryz.isAgg3
 z3 := Tryz.sizeOf3
 v3 := Tryz.zeroValue3
 t4 := Tryz.underlying4
 a4 := Tryz.isAgg4
 z4 := Tryz.sizeOf4
 v4 := Tryz.zeroValue4
 t5 := Tryz.underlying5
 a5 := Tryz.isAgg5
 z5 := Tryz.sizeOf5
 v5 := Tryz.zeroValue5
 t9 := Tryz.underlying9
 a9 := Tryz.isAgg9
 z9 := Tryz.sizeOf9
 v9 := Tryz.zeroValue9
 t22 := Tryz.underlying28
 a22 := Tryz.isAgg28
 z22 := Tryz.sizeOf28
 v22 := Tryz.zeroValue28
 t23 := Tryz.underlying28
 a23 := Tryz.isAgg28
 z23 := Tryz.sizeOf28
 v23 := Tryz.zeroValue28
 t25 := Tryz.underlying3
 a25 := Tryz.isAgg3
 z25 := Tryz.sizeOf3
 v25 := Tryz.zeroValue3
 t32 := Tryz.underlying183
 a32 := Tryz.isAgg183
 z32 := Tryz.sizeOf183
 v32 := Tryz.zeroValue183
 t35 := Tryz.underlying248
 a35 := Tryz.isAgg248
 z35 := Tryz.sizeOf248
 v35 := Tryz.zeroValue248
 t36 := Tryz.underlying249
 a36 := Tryz.isAgg249
 z36 := Tryz.sizeOf249
 v36 := Tryz.zeroValue249
 t41 := Tryz.underlying105
 a41 := Tryz.isAgg105
 z41 := Tryz.sizeOf105
 v41 := Tryz.zeroValue105
 t44 := Tryz.underlying255
 a44 := Tryz.isAgg255
 z44 := Tryz.sizeOf255
 v44 := Tryz.zeroValue255
 t46 := Tryz.underlying257
 a46 := Tryz.isAgg257
 z46 := Tryz.sizeOf257
 v46 := Tryz.zeroValue257
 t53 := Tryz.underlying308
 a53 := Tryz.isAgg308
 z53 := Tryz.sizeOf308
 v53 := Tryz.zeroValue308
 t57 := Tryz.underlying312
 a57 := Tryz.isAgg312
 z57 := Tryz.sizeOf312
 v57 := Tryz.zeroValue312
 t63 := Tryz.underlying371
 a63 := Tryz.isAgg371
 z63 := Tryz.sizeOf371
 v63 := Tryz.zeroValue371
 t64 := Tryz.underlying372
 a64 := Tryz.isAgg372
 z64 := Tryz.sizeOf372
 v64 := Tryz.zeroValue372 }
open Go.Sort Go.RowKit in
theorem Tryz.slices_Sort_int (blk off cap : Nat) (zs : List Int) (w : World) (hH : Holds (Value.int .i64) w blk off zs.toArray) (hblk : blk < w.heap.size) (hsz : zs.length < 4611686018427387904) :
  Calls Tryz.prog 46 #[.slice (some ⟨blk,off,none⟩) zs.length cap] w fun e w' =>
   e = .returned (.tuple #[]) /\ ∃ n os,w' = grow (putRow (Value.int .i64) (Sort.ahead w n) blk off (zs.mergeSort fun x y => decide (x <= y)).toArray) os := AnyM.slices_Sort_int Tryz.laysSlM5_f46 blk off cap zs w hH hblk hsz
open Go.RowKit Go.Sort in
theorem Tryz.slices_Sort_int_none (p : Option Addr) (cap : Nat) (w : World) :
  Calls Tryz.prog 46 #[.slice p 0 cap] w fun e w' => e = .returned (.tuple #[]) /\ w' = w := AnyM.slices_Sort_int_none Tryz.laysSlM5_f46 p cap w
end Go.Proofs
namespace Go.Proofs.YtclaplngjmgnoaaGreatDoor
open Go.RowKit Go.V
open Go.Sort (grow)
open Go.Eng (inR byteAt u8 dN)
variable {g : Gv}
theorem x9 {a b : Bool} (h : a = b) : (SV.c (cB a) : SV) = .c (cB b) := by rw [h]
theorem bX {f : FuncId} {ins : List SV} {refs : aZ} {out : SV} {post post' : aZ} (h : SpG g f ins refs out post) (e : lookO post = lookO post') : SpG g f ins refs out post' := by
 unfold SpG V.Spec at *;rw [<- e];exact h
theorem vV : oR Tryz.prog 114 := ⟨_,Tryz.func114,by kernel_rfl,by kernel_rfl,by kernel_rfl,by kernel_rfl⟩
theorem bF {α : Type} {l : List α} {k : Nat} {z : α} (h : k < l.length) : l.getD k z ∈ l := by simp [h]
def aAL (c : UInt8) : List UInt8 := if c = 39 then [39,39] else [c]
def cQ (l : List UInt8) : List UInt8 := l.flatMap aAL
def zq0 := And.intro @la.{0} (@lc.{0})
theorem oA : ∀ (l : List UInt8),(cQ l).length <= 2 * l.length
 | [] => by simp [cQ]
 | c :: l => by
  have := oA l;have h1 : (aAL c).length <= 2 := by unfold aAL; split <;> simp
  simp only [zq0,cQ,List.flatMap_cons] at this ⊢;omega
theorem g0 (l : List UInt8) (a b : Nat) : (S l).extract a b = S ((l.take b).drop a) := by
 apply ByteArray.ext;rw [ByteArray.data_extract];apply Array.ext';simp [S,List.drop_take,List.extract_eq_take_drop]
def joinL (sep : List UInt8) : List (List UInt8) -> List UInt8
 | [] => []
 | [x] => x
 | x :: y :: r => x ++ sep ++ joinL sep (y :: r)
def lV (sep : Nat) (l : List (List UInt8)) : Nat := (l.map fun x => x.length + sep).sum
theorem iQ (sep : List UInt8) : ∀ (l : List (List UInt8)),(joinL sep l).length <= lV sep.length l
 | [] => by simp [joinL,lV]
 | [x] => by simp [joinL,lV]
 | x :: y :: r => by
  have := iQ sep (y :: r);simp only [joinL,lV,mp1,List.sum_cons,la] at this ⊢;omega
theorem dG {α : Type} (z : α) {l : List α} {k : Nat} (h : k < l.length) : l.take (k + 1) = l.take k ++ [l.getD k z] := by
 rw [List.take_add_one,gd,ge h]; rfl
theorem u7 {α : Type} (z : α) {f : α -> List UInt8} {l : List α} {k : Nat} (h : k < l.length) : strs ((l.take (k + 1)).map f) = strs ((l.take k).map f) ++ [[D.s (S (f (l.getD k z)))]] := by
 rw [dG z h]; simp [strs,d9]
theorem oU (l : List (List UInt8)) (x : List UInt8) : strs (l ++ [x]) = strs l ++ [[D.s (S x)]] := by simp [strs,d9]
theorem aQL (l : List UInt8) (i j : Nat) : (S l).extract i j = S ((l.take j).drop i) := by
 have : ((S l).extract i j).data = (S ((l.take j).drop i)).data := by simp [S,ByteArray.data_extract,List.drop_take]
 cases h1 : (S l).extract i j; cases h2 : S ((l.take j).drop i); rw [h1,h2] at this; simpa using this
theorem cP (l : List UInt8) : (S l).data.toList = l := by simp [S]
theorem mJ (a b : List UInt8) : bytesD (a ++ b) = bytesD a ++ bytesD b := by simp [bytesD]
theorem zQ (sep : List UInt8) : ∀ l : List (List UInt8),Lib.join l sep = joinL sep l
 | [] => rfl
 | [x] => by simp [Lib.join,joinL,List.intercalate]
 | x :: y :: r => by
  have := zQ sep (y :: r);simp only [Lib.join,joinL,List.intercalate,List.intersperse,List.flatten_cons] at this ⊢;rw [this];simp
theorem join_ok (l : List (List UInt8)) (sep : List UInt8) (h : lV sep.length l <= 1000000000) (hl : l.length <= 1000000) : SpG g 57 [.c (cM 1 (strs l)),.c (cS (S sep))] [] (.c (cS (S (joinL sep l)))) [] := by
 intro fr w pl args hw hG m ha;obtain ⟨v,r,rfl,h1,h2⟩ := ha.uncons;obtain ⟨u,r',rfl,h3,h4⟩ := h2.uncons;rw [h4.unnil];have hu : u = .string (S sep) := Rd.exact h3;subst hu;have fin : (Calls Tryz.prog 57 #[v,.string (S sep)] w fun e w' => e = .returned (.string (S (joinL sep l))) /\ Below w.heap.size w w') -> Calls Tryz.prog 57 [v,.string (S sep)].toArray w fun e w' => ∃ v pl',e = .returned v /\ Mem fr (lookO []) w' pl' /\ bD w' pl' (lookO []) (.c (cS (S (joinL sep l)))) v := by
  intro hc;refine Calls.mono hc ?_;rintro e w' ⟨rfl,hb⟩;obtain ⟨m',L⟩ := m.ext (w' := w') ⟨hb.os,hb.tape,hb.output,hb.size,fun k hk _ => hb.block k hk⟩;exact ⟨_,pl,rfl,m',Rd.v _ rfl⟩
 refine fin ?_;have h1 : Rd w (Sh pl (lookO [])) (.sl 1 (strs l)) v := h1;generalize hes : strs l = es at h1;cases h1 with
 | nil =>
  have : l = [] := by simpa [strs] using hes
  subst this;exact (Tryz.strings_Join_none none 0 (S sep) w).mono fun _ _ ⟨a,b⟩ => ⟨a,by rw [b]; exact Below.refl _ _⟩
 | far _ ad =>
  have : l = [] := by simpa [strs] using hes
  subst this;exact (Tryz.strings_Join_none (some ad) 0 (S sep) w).mono fun _ _ ⟨a,b⟩ => ⟨a,by rw [b]; exact Below.refl _ _⟩
 | sl us hF hb hc hm hs hu hr =>
  rename_i b off c cs e fz;subst hes;have hlen : (strs l).length = l.length := by simp [strs]
  have hj := iQ sep l;have e1 : (l.map S).map (fun x : ByteArray => x.data.toList) = l := by
   rw [List.map_map];exact (List.map_congr_left fun x _ => by simp [S]).trans (List.map_id l)
  have e2 : (S sep).data.toList = sep := by simp [S]
  have := Tryz.strings_Join b off c (l.map S) (S sep) w (fun j x hx => by
    simp only [List.getElem?_map,me] at hx;obtain ⟨t,ht,rfl⟩ := hx;have a1 : (strs l)[j]? = some [.s (S t)] := by simp [strs,d9,ht]
    have a2 := hu j 0 _ _ a1 rfl;have a3 := Rd.exact (hr j 0 _ _ a1 rfl);rw [a3] at a2;rw [Lib.cell_of_heap hb];simpa using a2) (Array.getElem?_eq_some_iff.1 hb).1 (by rw [lm]; omega) (by rw [lm,<- hlen]; exact hc) (by rw [e1,e2,zQ]; omega)
  rw [e1,e2,zQ,lm] at this;rw [hlen];exact this
theorem aGZ : ∀ s : List UInt8,Lib.replaceK [39] [39,39] (Lib.count s [39]) s = cQ s
 | [] => by rw [Lib.count_one]; rfl
 | b :: l => by
  have ih := aGZ l;by_cases hb : b = 39;subst hb;rw [Lib.count_cons_eq,Nat.add_comm,Lib.replaceK_hit _ _ _ _ 0 (by simp [Lib.index,List.isPrefixOf])];simp [ih,cQ,aAL];rw [Lib.count_cons_ne _ _ _ hb];have e : cQ (b :: l) = b :: cQ l := by simp [cQ,aAL,hb]
  rw [e,<- ih];cases hn : Lib.count l [39] with
  | zero => rfl
  | succ k =>
   obtain ⟨i,hi⟩ := Lib.index_of_count (s := l) (old := [39]) (by omega);have hne : ¬ (39 : UInt8) = b := fun h => hb h.symm;have hi2 : Lib.index (b :: l) [39] = ((i + 1 : Nat) : Int) := by
    simp only [Lib.index,List.isPrefixOf,hi];rw [if_neg (by simp [hne]),if_neg (by simp)];omega
   rw [Lib.replaceK_hit _ _ _ _ _ hi2,Lib.replaceK_hit _ _ _ _ _ hi];simp
theorem uW (s : List UInt8) (h : s.length <= 1000000) : SpG g 107 [.c (cS (S s)),.c (cS (S [39])),.c (cS (S [39,39]))] [] (.c (cS (S (cQ s)))) [] := by
 refine kQ (args := [.string (S s),.string (S [39]),.string (S [39,39])]) rfl rfl rfl fun w hG => ?_;obtain ⟨ty,fz,h0⟩ := hG 0 [.int .i64 g.maxLen] (by simp [Gl]);have hc := Lib.countB_le (S [39]) (by decide) s.length (S s) (by rw [aQ]; omega);rw [aQ] at hc;have := Tryz.strings_ReplaceAll (S s) (S [39]) (S [39,39]) g.maxLen w (by rw [aQ]; omega) (by rw [Lib.cell_of_heap h0]; rfl) (by decide) (by
  have e : (S [39,39]).size = 2 := rfl;rw [aQ,e]; omega)
 have e1 : (S s).data.toList = s := by simp [S]
 have e2 : (S [39]).data.toList = [39] := by simp [S]
 have e3 : (S [39,39]).data.toList = [39,39] := by simp [S]
 rw [e1,e2,e3,Lib.replaceAll,Lib.replace,if_neg (by decide),Lib.replaceNum,if_pos (by omega),aGZ] at this;exact this
theorem zO {es : LD} {l : List (List UInt8)} (e : es = strs l) (sep : List UInt8) (h : lV sep.length l <= 1000000000) (hl : l.length <= 1000000) : SpG g 57 [.c (cM 1 es),.c (cS (S sep))] [] (.c (cS (S (joinL sep l)))) [] := by
 subst e; exact join_ok l sep h hl
theorem below_grow (w : World) (q : Nat) (os : Array Obj) : Below w.heap.size w (grow (w.drewN q) os) :=
 ⟨rfl,rfl,rfl,by simp [grow,World.drewN],fun i hi => by
  show ((w.drewN q).heap ++ os)[i]? = _;rw [Array.getElem?_append_left (by show i < w.heap.size; omega)];rfl⟩
theorem tab_of {w : World} (hG : ∀ b cs, (b, cs) ∈ Gl g -> ∃ ty fz, w.heap[b]? = some (.cells cs.toArray ty fz)) : Lib.TabIs Tryz.prog w "internal/strconv.uint64pow10" .u64 Lib.pow10Tab := by
 obtain ⟨ty,fz,h⟩ := hG 3 (powL.map (Value.int .u64)) (by simp [Gl]);have hn : Tryz.prog.globalNamed "internal/strconv.uint64pow10" = some 3 := by kernel_rfl
 unfold Lib.TabIs World.var?;rw [hn];simp only [Option.bind_some,h];rfl
theorem nR (n : Int) (h0 : -9223372036854775808 <= n) (h1 : n <= 9223372036854775807) : SpG g 55 [.c (cI n)] [] (.c (cS (S (Lib.itoa n)))) [] := by
 refine kQ (args := [.int .i64 n]) rfl rfl rfl fun w hG => ?_;have h := Tryz.strconv_Itoa n h0 h1 w (tab_of hG);refine h.mono ?_;rintro e w' ⟨rfl,k,os,rfl⟩;exact ⟨rfl,below_grow _ _ _⟩
def nOk (n : Int) : Prop := -1000000000000 <= n /\ n <= 1000000000000
def aOL (c : UInt8) : Bool := decide (48 <= c.toNat) && decide (c.toNat <= 57)
theorem oG {i : Nat} (h : i < 10) : aOL (UInt8.ofNat (48 + i)) = true /\ Lib.digitVal (UInt8.ofNat (48 + i)) = some i := by
 have : ∀ j : Fin 10,aOL (UInt8.ofNat (48 + j.val)) = true /\ Lib.digitVal (UInt8.ofNat (48 + j.val)) = some j.val := by decide
 exact this ⟨i,h⟩
theorem rH (u : Nat) : (Lib.decDigits u).all aOL = true /\ Lib.decDigits u ≠ [] := by
 induction u using Nat.strongRecOn with
 | ind u ih =>
  rw [Lib.decDigits];by_cases h : u < 10;rw [dif_pos h,List.all_cons,(oG h).1]; simp;rw [dif_neg h,List.all_append,(ih (u / 10) (by omega)).1];rw [List.all_cons,(oG (show u % 10 < 10 by omega)).1]; simp
theorem qI : ∀ (a : List UInt8) (acc m : Nat) (b : List UInt8),Lib.decFrom acc a = some m -> Lib.decFrom acc (a ++ b) = Lib.decFrom m b
 | [],acc,m,b,h => by simp only [Lib.decFrom,oIQ] at h; subst h; rfl
 | c :: a,acc,m,b,h => by
  simp only [List.cons_append,Lib.decFrom] at h ⊢;cases hd : Lib.digitVal c with
  | none => rw [hd] at h; cases h
  | some d => rw [hd] at h; exact qI a _ m b h
theorem aC7 (u : Nat) : Lib.decFrom 0 (Lib.decDigits u) = some u := by
 induction u using Nat.strongRecOn with
 | ind u ih =>
  rw [Lib.decDigits];by_cases h : u < 10;rw [dif_pos h];simp only [Lib.decFrom,(oG h).2]; simp;rw [dif_neg h,qI _ 0 _ _ (ih (u / 10) (by omega))];simp only [Lib.decFrom,(oG (show u % 10 < 10 by omega)).2];congr 1; omega
theorem tV (u : Nat) : Lib.decNat (Lib.decDigits u) = some u := by
 have h := (rH u).2;have h2 := aC7 u;unfold Lib.decNat
 split;rename_i e; exact absurd (List.isEmpty_iff.1 e) h;exact h2
def zq1 := And.intro @la.{0} (And.intro @lc.{0} (@ln.{0}))
theorem aH3 {u : Nat} {k : Nat} (h : u < 10 ^ k) (hk : 1 <= k) : (Lib.decDigits u).length <= k := by
 induction k generalizing u with
 | zero => omega
 | succ k ih =>
  rw [Lib.decDigits];by_cases h1 : u < 10;rw [dif_pos h1]; simp;rw [dif_neg h1];have hk1 : 1 <= k := by
   rcases Nat.eq_zero_or_pos k with rfl | hp;simp at h; omega;exact hp
  have := ih (u := u / 10) (by rw [Nat.pow_succ] at h; omega) hk1;simp only [zq1]; omega
theorem aHN {c : UInt8} (h : aOL c = true) : ¬ c = 45 /\ ¬ c = 43 /\ ¬ c = 32 /\ ¬ c = 58 /\ ¬ c = 44 := by
 refine ⟨?_,?_,?_,?_,?_⟩ <;> rintro rfl <;> simp [aOL] at h
theorem fT {n : Int} (h : nOk n) : (Lib.itoa n).length <= 14 := by
 unfold Lib.itoa;obtain ⟨h0,h1⟩ := h;split;have := aH3 (u := n.natAbs) (k := 13) (by omega) (by decide);simp only [lc]; omega;have := aH3 (u := n.toNat) (k := 13) (by omega) (by decide);omega
theorem fA {n : Int} {c : UInt8} (hc : c = 32 \/ c = 58 \/ c = 44) : ∀ x,x ∈ Lib.itoa n -> ¬ x = c := by
 have go : ∀ u,∀ x,x ∈ Lib.decDigits u -> ¬ x = c := by
  intro u x hx;have := aHN (at1.1 (rH u).1 x hx);rcases hc with rfl | rfl | rfl;exact this.2.2.1;exact this.2.2.2.1;exact this.2.2.2.2
 intro x hx;unfold Lib.itoa at hx;split at hx;rcases mc.1 hx with rfl | hx;rcases hc with rfl | rfl | rfl <;> decide;exact go _ x hx;exact go _ x hx
theorem itoa_ne (n : Int) : Lib.itoa n ≠ [] := by
 unfold Lib.itoa;split;simp;exact (rH _).2
theorem pV {n : Int} (h : nOk n) : Lib.atoiAll (Lib.itoa n) = .ok n := by
 rw [Lib.atoiAll_short _ (by have := fT h; omega)];have e : Lib.atoi (Lib.itoa n) = some n := by
  unfold Lib.itoa;split;rename_i hn;simp only [Lib.atoi,tV];simp; omega;rename_i hn;have hd := rH n.toNat
  have h3 := tV n.toNat
  generalize Lib.decDigits n.toNat = l at *;cases l with
  | nil => exact absurd rfl hd.2
  | cons c r =>
   have hc := aHN (at1.1 hd.1 c (by simp));simp only [Lib.atoi];have h45 : (c == 45) = false := by simpa using hc.1
   have h43 : (c == 43) = false := by simpa using hc.2.1
   rw [h45,h43];simp [h3]; omega
 rw [e]; rfl
theorem kM (n : Int) (h : nOk n) : SpG g 68 [.c (cS (S (Lib.itoa n)))] [] (.tup [(false,[cI n]),(false,[.d (.v .nilIface)])]) [] := by
 refine kQ (args := [.string (S (Lib.itoa n))]) rfl rfl rfl fun w hG => ?_;refine (Tryz.strconv_Atoi_ok (S (Lib.itoa n)) (by rw [aQ]; have := fT h; omega) n (by rw [cP]; exact pV h) w).mono ?_;rintro e w' ⟨rfl,hb⟩;refine ⟨rfl,?_⟩;rcases hb with rfl | ⟨t,rfl⟩
 exact Below.refl _ _;exact ⟨rfl,rfl,rfl,by rw [Lib.bytesWorld_size]; omega,fun j hj => Lib.bytesWorld_at_old w 5 t j hj⟩
theorem aDN (l : List UInt8) : (S l).data.toList = l := by simp [S]
theorem aKX (w : World) (n : Nat) : Below w.heap.size w (w.drewN n) := ⟨rfl,rfl,rfl,lr _,fun _ _ => rfl⟩
theorem aAR (s p : List UInt8) : SpG g 65 [.c (cS (S s)),.c (cS (S p))] [] (.tup [(false,[cS (S (Lib.trimPrefix s p))]),(false,[cB (Lib.hasPrefix s p)])]) [] := by
 refine aB8 (args := [.string (S s),.string (S p)]) rfl rfl rfl fun w => ?_;have := Tryz.strings_CutPrefix (S s) (S p) w;rw [aDN,aDN] at this;exact this.mono fun _ _ ⟨a,b⟩ => ⟨a,b.symm⟩
theorem aAQ (s p : List UInt8) (hs : s.length < 4294967281) : SpG g 67 [.c (cS (S s)),.c (cS (S p))] [] (.tup [(false,[cS (S (Lib.cut s p).1)]),(false,[cS (S (Lib.cut s p).2.1)]),(false,[.d (.b (Lib.cut s p).2.2)])]) [] := by
 refine kQ (args := [.string (S s),.string (S p)]) rfl rfl rfl fun w hG => ?_;obtain ⟨ty,fz,h0⟩ := hG 0 [.int .i64 g.maxLen] (by simp [Gl]);have := Tryz.strings_Cut (S s) (S p) g.maxLen w (by rw [aQ]; omega) (by rw [Lib.cell_of_heap h0]; rfl);rw [aDN,aDN] at this;exact this.mono fun _ _ ⟨x,n,y⟩ => ⟨x,by rw [y]; exact aKX _ _⟩
theorem tB {l r : List UInt8} {c : UInt8} (h : ∀ x,x ∈ l -> ¬ x = c) : Lib.index (l ++ c :: r) [c] = (l.length : Int) := by
 induction l with
 | nil => simp [Lib.index,List.isPrefixOf]
 | cons x l ih =>
  have h1 := ih (fun y hy => h y (by simp [hy]));have h2 : ¬ c = x := fun e => h x (by simp) e.symm;have h3 : (c == x) = false := by simpa using h2
  simp only [List.cons_append,Lib.index,List.isPrefixOf,h3,Bool.false_and,h1];have h4 : ((l.length : Int) == -1) = false := by rw [beq_eq_false_iff_ne]; omega
  simp [h4]
theorem nT (l : List UInt8) (c : Int) : SpG g 320 [.c (cS (S l)),.c (.d (.y c))] [] (.c (cI (Lib.indexByte l c.toNat.toUInt8))) [] := by
 refine aB8 (args := [.string (S l),.int .u8 c]) rfl rfl rfl fun w => ?_;have := Tryz.strings_IndexByte (S l) c w;rw [aDN] at this;exact this.mono fun _ _ ⟨a,b⟩ => ⟨a,b.symm⟩
def seps : List UInt8 := [44,59,93,124]
def fE (c : UInt8) : Bool := !(c == 44 || c == 59 || c == 93 || c == 124)
def iY (r : List UInt8) : Prop := r = [] \/ ∃ x t,r = x :: t /\ fE x = false
theorem uR {α : Type} {p : α -> Bool} {l r : List α} (h : l.all p = true) (hr : r = [] \/ ∃ x t,r = x :: t /\ p x = false) : (l ++ r).takeWhile p = l /\ (l ++ r).dropWhile p = r := by
 induction l with
 | nil =>
  rcases hr with rfl | ⟨x,t,rfl,hx⟩
  simp;simp [List.takeWhile_cons,List.dropWhile_cons,hx]
 | cons y l ih =>
  simp only [List.all_cons,bIQ] at h;obtain ⟨h1,h2⟩ := ih h.2;simp [List.takeWhile_cons,List.dropWhile_cons,h.1,h1,h2]
theorem aIM {w r : List UInt8} (h : w.all fE = true) (hr : iY r) : (w ++ r).takeWhile fE = w /\ (w ++ r).dropWhile fE = r := uR h hr
def eN (c : UInt8) : List UInt8 -> Bool
 | x :: _ => decide (x = c)
 | [] => false
def dH (c : UInt8) : List UInt8 -> List UInt8
 | x :: r => if x = c then r else x :: r
 | [] => []
theorem aGR {l : List UInt8} {c : UInt8} (h : l = [] \/ ¬ byteAt (S l) 0 = (c.toNat : Int)) : eN c l = false /\ dH c l = l := by
 cases l with
 | nil => exact ⟨rfl,rfl⟩
 | cons x r =>
  rcases h with h | h;cases h;have hx : ¬ x = c := by
   rintro rfl;exact h (gZ (x :: r) 0)
  exact ⟨by simp [eN,hx],by simp [dH,hx]⟩
theorem aBT {l : List UInt8} {c : UInt8} (h1 : ¬ l = []) (h : byteAt (S l) 0 = (c.toNat : Int)) : eN c l = true /\ dH c l = l.drop 1 := by
 cases l with
 | nil => exact absurd rfl h1
 | cons x r =>
  have hx : x = c := by
   have e : byteAt (S (x :: r)) 0 = (x.toNat : Int) := gZ (x :: r) 0;rw [e] at h;exact UInt8.toNat_inj.1 (by omega)
  exact ⟨by simp [eN,hx],by simp [dH,hx]⟩
theorem aJA (c : UInt8) : seps.contains c = !(fE c) := by
 simp only [seps,fE,List.contains_cons,List.contains_nil,Bool.or_false];rw [Bool.eq_iff_iff];simp [or_assoc]
theorem qD : ∀ (l : List UInt8),(Lib.indexAny l seps < 0 /\ l.takeWhile fE = l /\ l.dropWhile fE = []) \/ (0 <= Lib.indexAny l seps /\ Lib.indexAny l seps <= l.length /\ l.takeWhile fE = l.take (Lib.indexAny l seps).toNat /\ l.dropWhile fE = l.drop (Lib.indexAny l seps).toNat)
 | [] => .inl ⟨by decide,rfl,rfl⟩
 | c :: l => by
  have ih := qD l;have hc := aJA c;have hge := Lib.indexAny_ge seps l;cases hn : fE c with
  | false =>
   rw [hn] at hc;have e : Lib.indexAny (c :: l) seps = 0 := by rw [Lib.indexAny,hc]; rfl
   right;rw [e];refine ⟨Int.le_refl _,by omega,?_,?_⟩;rw [List.takeWhile_cons,hn]; rfl;rw [List.dropWhile_cons,hn]; rfl
  | true =>
   rw [hn] at hc;rcases ih with ⟨h1,h2,h3⟩ | ⟨h1,h2,h3,h4⟩
   have h0 : Lib.indexAny l seps = -1 := by omega
   have e : Lib.indexAny (c :: l) seps = -1 := by rw [Lib.indexAny,hc,h0]; rfl
   left;rw [e];exact ⟨by decide,by rw [List.takeWhile_cons,hn,if_pos rfl,h2],by rw [List.dropWhile_cons,hn,if_pos rfl,h3]⟩;have h0 : (Lib.indexAny l seps == -1) = false := by rw [beq_eq_false_iff_ne]; omega
   have e : Lib.indexAny (c :: l) seps = Lib.indexAny l seps + 1 := by
    rw [Lib.indexAny,hc,h0]; rfl
   right;rw [e,show (Lib.indexAny l seps + 1).toNat = (Lib.indexAny l seps).toNat + 1 by omega];refine ⟨by omega,by rw [lc]; omega,?_,?_⟩;rw [List.takeWhile_cons,hn,if_pos rfl,h3]; rfl;rw [List.dropWhile_cons,hn,if_pos rfl,h4]; rfl
def tqM : Nat -> List UInt8 -> List UInt8 -> Bool × List UInt8 × List UInt8
 | 0,acc,r => (false,acc,r)
 | n + 1,acc,r =>
  if Lib.indexByte r 39 < 0 then (false,[],r)
  else if eN 39 (r.drop ((Lib.indexByte r 39).toNat + 1)) then tqM n (acc ++ r.take (Lib.indexByte r 39).toNat ++ [39]) (dH 39 (r.drop ((Lib.indexByte r 39).toNat + 1)))
  else (true,acc ++ r.take (Lib.indexByte r 39).toNat,r.drop ((Lib.indexByte r 39).toNat + 1))
theorem aI9 (c : UInt8) (l : List UInt8) : (dH c l).length <= l.length := by
 cases l with
 | nil => exact lr _
 | cons x r =>
  by_cases h : x = c;simp [dH,h];simp [dH,h]
theorem rY {c : UInt8} {l : List UInt8} (h : eN c l = false) : dH c l = l := by
 cases l with
 | nil => rfl
 | cons x r =>
  have hx : ¬ x = c := by simpa [eN] using h
  simp [dH,hx]
theorem nU : ∀ (l : List UInt8) (c : UInt8),-1 <= Lib.indexByte l c /\ Lib.indexByte l c < l.length
 | [],c => ⟨Int.le_refl _,by show (-1 : Int) < 0; decide⟩
 | b :: l,c => by
  have ih := nU l c;unfold Lib.indexByte;split;simp only [lc]; omega;split;simp only [lc]; omega;simp only [lc]; omega
theorem qL {r : List UInt8} {i : Int} (h : 0 <= i) : (S r).extract (i + 1).toNat (S r).size = S (r.drop (i.toNat + 1)) := by
 rw [kO,show (i + 1).toNat = i.toNat + 1 by omega]
theorem aAN {es : LD} {acc r : List UInt8} {k : Nat} (h : es = bytesD (S acc).data.toList) : es ++ bytesD ((S r).extract 0 k).data.toList = bytesD (S (acc ++ r.take k)).data.toList := by
 rw [h,g0,cP,cP,cP,<- mJ]; rfl
theorem aAM {acc r : List UInt8} {k : Nat} (h : acc = []) : bytesD ((S r).extract 0 k).data.toList = bytesD (S (acc ++ r.take k)).data.toList := by
 subst h; rw [g0]; rfl
theorem tq_step {n : Nat} {acc r : List UInt8} (h : r.length < n) : tqM n acc r = (if Lib.indexByte r 39 < 0 then (false,[],r)
  else if eN 39 (r.drop ((Lib.indexByte r 39).toNat + 1)) then tqM (n - 1) (acc ++ r.take (Lib.indexByte r 39).toNat ++ [39]) (dH 39 (r.drop ((Lib.indexByte r 39).toNat + 1)))
  else (true,acc ++ r.take (Lib.indexByte r 39).toNat,r.drop ((Lib.indexByte r 39).toNat + 1))) := by
 cases n with
 | zero => omega
 | succ n => rfl
theorem es_39 {es : LD} {a : List UInt8} (h : es = bytesD (S a).data.toList) : es ++ [[D.y 39]] = bytesD (S (a ++ [39])).data.toList := by
 rw [h,oK,oK,mJ]; rfl
theorem no39 : ∀ {a : List UInt8},(39 : UInt8) ∉ a -> cQ a = a
 | [],_ => rfl
 | c :: a,h => by
  have hc : ¬ c = 39 := fun e => h (by rw [e]; exact List.mem_cons_self);have ih := no39 (a := a) fun e => h (List.mem_cons_of_mem _ e);rw [show cQ (c :: a) = aAL c ++ cQ a by simp [cQ],ih,aAL,if_neg hc]; rfl
theorem aO5 (a b : List UInt8) : cQ (a ++ b) = cQ a ++ cQ b := by simp [cQ]
theorem z7 : ∀ {a : List UInt8} (t : List UInt8),(39 : UInt8) ∉ a -> Lib.indexByte (a ++ 39 :: t) 39 = a.length
 | [],t,_ => by show Lib.indexByte (39 :: t) 39 = 0; rw [Lib.indexByte]; rfl
 | c :: a,t,h => by
  have hc : ¬ c = 39 := fun e => h (by rw [e]; exact List.mem_cons_self);have ih := z7 (a := a) t fun e => h (List.mem_cons_of_mem _ e);rw [List.cons_append,Lib.indexByte,ih];simp [hc]
theorem tq_of : ∀ (n : Nat) (s acc r : List UInt8),(cQ s ++ 39 :: r).length < n -> iY r -> tqM n acc (cQ s ++ 39 :: r) = (true,acc ++ s,r)
 | 0,s,acc,r,h,_ => absurd h (Nat.not_lt_zero _)
 | n + 1,s,acc,r,h,hr => by
  by_cases hm : (39 : UInt8) ∈ s;obtain ⟨a,s',rfl,ha⟩ := List.eq_append_cons_of_mem hm;have e : cQ (a ++ 39 :: s') ++ 39 :: r = a ++ 39 :: (39 :: (cQ s' ++ 39 :: r)) := by
   rw [aO5,no39 ha,show cQ (39 :: s') = [39,39] ++ cQ s' by simp [cQ,aAL]]; simp
  have hi := z7 (39 :: (cQ s' ++ 39 :: r)) ha;rw [e] at h ⊢;rw [tqM,hi,if_neg (by omega),Int.toNat_natCast];have hd : (a ++ 39 :: (39 :: (cQ s' ++ 39 :: r))).drop (a.length + 1) = 39 :: (cQ s' ++ 39 :: r) := by
   rw [<- List.drop_drop,List.drop_left]; rfl
  have ht : (a ++ 39 :: (39 :: (cQ s' ++ 39 :: r))).take a.length = a := List.take_left;rw [hd,ht,if_pos (by simp [eN]),show dH 39 (39 :: (cQ s' ++ 39 :: r)) = cQ s' ++ 39 :: r by simp [dH]];rw [tq_of n s' _ r (by simp only [zq0] at h ⊢; omega) hr];simp;have hi := z7 r hm;rw [no39 hm] at h ⊢;rw [tqM,hi,if_neg (by omega),Int.toNat_natCast];have hd : (s ++ 39 :: r).drop (s.length + 1) = r := by
   rw [<- List.drop_drop,List.drop_left]; rfl
  have ht : (s ++ 39 :: r).take s.length = s := List.take_left;have hk : eN 39 r = false := by
   rcases hr with rfl | ⟨x,t,rfl,hx⟩
   rfl;have : ¬ x = 39 := by rintro rfl; simp [fE] at hx
   simp [eN,this]
  rw [hd,ht,if_neg (by rw [hk]; decide)]
theorem aQK (x : UInt8) (t : List UInt8) : (S (x :: t)).extract 1 (S (x :: t)).size = S t := by rw [kO]; rfl
theorem byte0 (x : UInt8) (t : List UInt8) : byteAt (S (x :: t)) 0 = (x.toNat : Int) := gZ (x :: t) 0
def eE (l : List UInt8) : Bool := l.all (fun b => decide (b.toNat < 128))
theorem aCQ (l : List UInt8) (hl : l.length < 4294967281) (ha : eE l = true) : SpG g 319 [.c (cS (S l)),.c (cS (S [44,59,93,124]))] [] (.c (cI (Lib.indexAny l seps))) [] := by
 refine kQ (args := [.string (S l),.string (S [44,59,93,124])]) rfl rfl rfl fun w _ => ?_;have := Tryz.strings_IndexAny_laid (S l) (S [44,59,93,124]) w (by rw [aQ]; omega) (by decide) (fun j b hb => by
   rw [cP] at hb;have := at1.1 ha b (List.mem_of_getElem? hb);simpa using this) (fun j b hb => by
   rw [cP] at hb;have h4 : ([44,59,93,124] : List UInt8).all (fun b => decide (b.toNat < 128)) = true := by decide
   have := at1.1 h4 b (List.mem_of_getElem? hb);simpa using this)
 rw [cP,cP] at this;exact this
end Go.Proofs.YtclaplngjmgnoaaGreatDoor
namespace Go.Proofs.YtclaplngjmgnoaaGreatDoor
open Go.RowKit Go.V
open Go.Eng (inR byteAt u8 dN)
variable {g : Gv}
abbrev Tv := Option (List UInt8)
def tvK : Tv -> Int
 | none => 0
 | some _ => 1
def tvS : Tv -> List UInt8
 | none => []
 | some s => s
def TvD (v : Tv) : List D := [.i (tvK v),.s (S (tvS v)),.i 0,.i 0,.i 0,.sl 1 [],.sl 1 []]
def aS (l : List Tv) : LD := l.map TvD
def bU (v : Tv) : Prop := cZ (S (tvS v)) = true
def tvT : Tv -> List UInt8
 | none => [33,48]
 | some s => 39 :: (cQ s ++ [39])
theorem iE {v : Tv} (h : bU v) : (tvS v).length <= 200 := by
 unfold bU cZ at h;simp only [bIQ,decide_eq_true_eq,aQ] at h;omega
theorem aLP (v : Tv) : tvK v = 0 /\ v = none \/ tvK v = 1 /\ ∃ s,v = some s := by
 cases v with
 | none => exact .inl ⟨rfl,rfl⟩
 | some s => exact .inr ⟨rfl,s,rfl⟩
theorem aGH {v : Tv} (h : bU v) : (tvT v).length <= 402 := by
 have := iE h;cases v with
 | none => simp [tvT]
 | some s =>
  have h2 := oA s;simp only [zq1,tvT,tvS] at *;omega
theorem tvT_ne (v : Tv) : tvT v ≠ [] := by cases v <;> simp [tvT]
def rwT (l : List Tv) : List UInt8 := joinL [124] (l.map tvT)
theorem yA : ∀ (l : List Tv),(∀ v,v ∈ l -> bU v) -> lV 1 (l.map tvT) <= 403 * l.length
 | [],_ => by simp [lV]
 | v :: l,h => by
  have h1 := aGH (h v (by simp));have h2 := yA l fun x hx => h x (by simp [hx]);unfold lV at *;simp only [mp1,List.sum_cons,lc] at *;omega
theorem aGS {l : List Tv} (h : ∀ v,v ∈ l -> bU v) : (rwT l).length <= 403 * l.length := Nat.le_trans (iQ [124] _) (yA l h)
theorem itoa0 : Lib.itoa 0 = [48] := by
 rw [Lib.itoa,if_neg (by decide),Int.toNat_zero,Lib.decDigits_one (by decide)]; rfl
theorem aOE : SpG g 55 [.c (cI 0)] [] (.c (cS (S [48]))) [] := by
 have := nR (g := g) 0 (by decide) (by decide);rw [itoa0] at this;exact this
theorem aFM (s : ByteArray) (hs : s.size <= maxLen) :
  SpG g 103 [.c (cS s)] [] (.c (cB (cZ s))) [] := by
 unfold maxLen at hs;refine aP 23 Tryz.func103 fun fr hG => ?_;refine zL hG [] [0,1,0,1] (fun (zz : Nat) => match zz with | k => (s.size - k,⟨[zS 0 s,zB 2 false,zI 5 (s.size : Int),zI 6 (k : Int)],[]⟩,k <= s.size /\ (bs s).all d2 = ((bs s).drop k).all d2)) 0 aB ?_ ?_;exact ⟨zl _,rfl⟩;rintro k ⟨hk,hall⟩;refine zp hG [] [0,1] ((k : Int) < (s.size : Int)) aB (fun hc2 => ?_) (fun hc2 => ?_);skip;refine zc hG [] [1,1,0,0,1,1] ((decide ((byteAt s (k : Int) : Int) < 32)) || (decide ((byteAt s (k : Int) : Int) > 126))) (aA (by intros; first | omega | decide | (simp only [inR,blS] at *; omega) : (0 : Int) <= (k : Int) /\ (k : Int) < (s.size : Int)) (aC (by intros; first | omega | decide | (simp only [inR,blS] at *; omega) : (decide ((byteAt s (k : Int) : Int) < 32)) = false -> (0 : Int) <= (k : Int) /\ (k : Int) < (s.size : Int)))) (fun hc3 => ?_) (fun hc3 => ?_)
 (try simp only [blS] at hc3)
 refine zE hG [] .ret (⟨[zS 0 s,zB 2 false],[]⟩) aB rfl ?_;refine zR hG [] [] (.c (cB false)) [] aB ?_ ?_;refine x9 ?_;rw [cZ,hall,rI s k (by omega)]; simp only [jH] at hc3; simp [d2]; omega;rfl
 (try simp only [blS] at hc3)
 refine zD hG [] (k + 1) (aC (by intros; first | omega | decide | (simp only [inR,blS] at *; omega) : inR ((k : Int) + 1))) ?_ ?_
 (try dsimp only); omega
 exact ⟨by omega,by rw [hall,rI s k (by omega)]; simp only [jH] at hc3; simp [d2]; omega⟩;skip;refine zE hG [] (.exit 0) (⟨[zS 0 s,zB 2 false],[]⟩) aB rfl ?_;refine zR hG [] [] (.c (cB (decide (((s.size : Int) : Int) <= 200)))) [] aB ?_ ?_;refine x9 ?_;rw [cZ,hall,aP4 s k (by omega)]; simp;rfl
theorem bareT (k : Int) :
  SpG g 102 [.agg [cI k,cS (S []),cI 0,cI 0,cI 0,cM 1 ([] : LD),cM 1 ([] : LD)]] [] (.c (cB true)) [] := by
 refine aP 29 Tryz.func102 fun fr hG => ?_;exact zr hG [] [] aB
abbrev y0 (a0 : Int) (a1 : ByteArray) (a2 : LD) : SV := .agg [cI a0,cS a1,cI 0,cI 0,cI 0,cM 1 a2,cM 1 a2]
theorem bareS (k : Int) (s : List UInt8) :
  SpG g 102 [y0 k (S s) ([] : LD)] [] (.c (cB (decide (s = [])))) [] := by
 refine aP 29 Tryz.func102 fun fr hG => ?_;refine zR hG [] [] (.c (cB ((((((S s).toList == (S []).toList) && (((0 : Int) == 0) && ((0 : Int) == 0))) && true) && (decide (((([] : LD).length : Int) : Int) = 0))) && (decide (((([] : LD).length : Int) : Int) = 0))))) [] aB ?_ ?_;refine x9 ?_;rw [aQM]; simp;rfl
abbrev y1 (a0 : Int) (a1 : ByteArray) (a2 : LD) : Ob := .box 61 [cI a0,cS a1,cI 0,cI 0,cI 0,cM 1 a2,cM 1 a2]
theorem mV (v : Tv) (h : bU v) :
  SpG g 54 [y0 (tvK v) (S (tvS v)) ([] : LD)] [] (.c (cB true)) [] := by
 have hl := iE h;have h01 := aLP v;refine aP 86 Tryz.func54 fun fr hG => ?_;refine zP hG [] [1,0,1,0,1,1] ((tvK v : Int) = 0) (⟨[zX 1 100 0,zB 2 false,zX 3 201 0,zI 6 (tvK v)],[(100,y1 (tvK v) (S (tvS v)) ([] : LD)),(201,y1 (tvK v) (S (tvS v)) ([] : LD))]⟩) aB (fun hc1 => ?_) (fun hc1 => ?_);skip;refine zR hG [(5,10,kB (decide ((tvS v) = [])))] [] (.c (cB (decide ((tvS v) = [])))) [] (aC (fun (hg1 : true = true) => (bareS (tvK v) (tvS v) : SpG g _ _ _ _ _))) ?_ ?_;rcases h01 with ⟨h0,rfl⟩ | ⟨h0,_⟩
 rfl;exfalso; omega;rfl;skip;refine zp hG [] [1,1,1,0,1,0,1,1] ((tvK v : Int) = 1) aB (fun hc2 => ?_) (fun hc2 => ?_);skip;refine zR hG [(8,2,kB (cZ (S (tvS v)))),(8,5,kB true)] [] (.c (cB ((cZ (S (tvS v))) && true))) [] (cS2 g (aFM (S (tvS v)) (by rw [aQ]; unfold maxLen; omega)) (aC (fun (hg1 : (cZ (S (tvS v))) = true) => (bareT (tvK v) : SpG g _ _ _ _ _)))) ?_ ?_;have h2 : cZ (S (tvS v)) = true := h;rw [h2]; rfl;rfl;skip;exfalso; rcases h01 with ⟨h0,_⟩ | ⟨h0,_⟩ <;> omega
theorem xY (v : Tv) (h : bU v) :
  SpG g 56 [y0 (tvK v) (S (tvS v)) ([] : LD)] [] (.c (cS (S (tvT v)))) [] := by
 have hl := iE h;have h01 := aLP v;have he := oA (tvS v);refine aP 61 Tryz.func56 fun fr hG => ?_;refine zC hG [(1,1,kB true)] [1,0,1] false (⟨[zX 1 100 0,zS 2 (S [])],[(100,y1 (tvK v) (S (tvS v)) ([] : LD))]⟩) (cS1 g (mV v (by assumption))) (fun hc1 => absurd hc1 (by decide)) (fun _ => ?_);refine zP hG [] [1,0,1,0,1,1] ((tvK v : Int) = 0) (⟨[zX 1 100 0,zS 2 (S []),zI 10 (tvK v)],[(100,y1 (tvK v) (S (tvS v)) ([] : LD))]⟩) aB (fun hc2 => ?_) (fun hc2 => ?_);skip;refine zR hG [(5,2,kS (S [48]))] [] (.c (cS (S [33,48]))) [] (cS2 g aOE (aC (by decide : (S [33]).size + (S [48]).size <= maxLen))) ?_ ?_;rcases h01 with ⟨h0,rfl⟩ | ⟨h0,_⟩
 rfl;exfalso; omega;rfl;skip;refine zp hG [] [1,1,1,0,1,0,1,1] ((tvK v : Int) = 1) aB (fun hc3 => ?_) (fun hc3 => ?_);skip;refine zR hG [(7,2,kS (S (cQ (tvS v))))] [] (.c (cS (((S [39]) ++ (S (cQ (tvS v)))) ++ (S [39])))) [] (cS2 g (uW (tvS v) (by omega)) (aA (by intros; (try rw [eU]); (try simp only [aQ,la,lc,ln,maxLen]); first | omega | decide : (S [39]).size + (S (cQ (tvS v))).size <= maxLen) (aC (by intros; (try rw [eU]); (try simp only [aQ,la,lc,ln,maxLen]); first | omega | decide : ((S [39]) ++ (S (cQ (tvS v)))).size + (S [39]).size <= maxLen)))) ?_ ?_;rcases h01 with ⟨h0,_⟩ | ⟨h0,s,rfl⟩
 exfalso; omega;rw [eU,eU]; rfl;rfl;skip;exfalso; rcases h01 with ⟨h0,_⟩ | ⟨h0,_⟩ <;> omega
def zq2 := And.intro @la.{0} (And.intro @lc.{0} (And.intro @lm.{0,0} (And.intro @ln.{0} (And.intro @Go.Eng.inR.eq_1 (And.intro @maxLen.eq_1 (@strs.eq_1))))))
def zq3 := And.intro @lm.{0,0} (And.intro @lS (And.intro @aIJ (And.intro @blS (@strs.eq_1))))
def zq4 := And.intro @lm.{0,0} (@strs.eq_1)
theorem join_tv (l : List Tv) (sep : List UInt8) (hl : l.length <= 1000) (hs : lV sep.length (l.map tvT) <= 1000000000) (hT : ∀ v,v ∈ l -> bU v) :
  SpG g 101 [.c (cM 7 (aS l)),.c (cS (S sep))] [] (.c (cS (S (joinL sep (l.map tvT))))) [] := by
 refine aP 26 Tryz.func101 fun fr hG => ?_;refine yB 0 rfl fun hl0 => ?_;refine zL hG [] [0,1,0,1,1] (fun (zz : Nat × LD) => match zz with | (k,es) => (l.length - k,⟨[zS 1 (S sep),zS 4 (S []),zY 5 202 0,zM 11 7 (aS l),zI 12 ((aS l).length : Int),zI 13 (k : Int)],[(202,.arr 0 9 1 es)]⟩,k <= l.length /\ es = strs ((l.take k).map tvT))) (0,[]) (aC (by intros; (try simp only [zq2,aS] at *); omega : (0 : Int) <= ((aS l).length : Int) /\ ((16 : Nat) : Int) * ((aS l).length : Int) <= 281474976710656 /\ ((aS l).length : Int) <= 9223372036854775807)) ?_ ?_;exact ⟨zl _,rfl⟩;rintro ⟨k,es⟩ ⟨hk,hes⟩;have hlen : es.length = k := by rw [hes,strs,lm,lm,lt1]; omega
 refine zc hG [] [0,1] (decide ((k : Int) < ((aS l).length : Int))) aB (fun hc2 => ?_) (fun hc2 => ?_)
 (try simp only [zq3,aS] at hc2)
 refine zD hG [(4,0,.elem (TvD (l.getD k none))),(5,2,kS (S (tvT (l.getD k none))))] (k + 1,es ++ [[D.s (S (tvT (l.getD k none)))]]) (aA (by intros; exact cE _ (by omega) (by (try simp only [zq4,aS] at *); omega) : (0 : Int) <= (k : Int) /\ (aS l)[k]? = some (TvD (l.getD k none))) (cS2 g (xY (l.getD k none) (by exact hT _ (bF (by omega)))) (aA (by intros; (try simp only [zq2,aS] at *); omega : (es.length + ([[.s (S (tvT (l.getD k none)))]] : LD).length) * (16 + 1) <= 140737488355328) (aC (by intros; (try simp only [zq2,aS] at *); omega : inR ((k : Int) + 1)))))) ?_ ?_
 (try dsimp only); omega
 refine ⟨by omega,?_⟩;rw [hes,u7 none (by omega)]
 (try simp only [zq3,aS] at hc2)
 refine zE hG [] (.exit 0) (⟨[zS 1 (S sep),zS 4 (S []),zY 5 202 0],[(202,.arr 0 9 1 es)]⟩) aB rfl ?_;exact zr hG [(7,2,kS (S (joinL sep (l.map tvT))))] [] (cS1 g (zO (es := es) (l := l.map tvT) (by rw [hes,tlQ (by omega)]) sep hs (by rw [lm]; omega)))
theorem sE (l : List Tv) (hl : l.length <= 8) (hT : ∀ v,v ∈ l -> bU v) :
  SpG g 53 [.c (cM 7 (aS l))] [] (.c (cS (S (rwT l)))) [] := by
 refine aP 20 Tryz.func53 fun fr hG => ?_;refine yB 0 rfl fun hl0 => ?_;refine zC hG [] [1,0,1] (decide ((((aS l).length : Int) : Int) > 8)) (⟨[zM 0 7 (aS l),zS 2 (S [])],[]⟩) aB (fun hc1 => ?_) (fun hc1 => ?_)
 (try simp only [zq3,aS] at hc1)
 exfalso; omega
 (try simp only [zq3,aS] at hc1)
 refine zL hG [] [0,1,0,1,1] (fun (zz : Nat) => match zz with | k => (l.length - k,⟨[zM 0 7 (aS l),zS 2 (S []),zM 8 7 (aS l),zI 9 ((aS l).length : Int),zI 10 (k : Int)],[]⟩,k <= l.length)) 0 aB ?_ ?_;exact zl _;rintro k hk;refine zc hG [] [0,1] (decide ((k : Int) < ((aS l).length : Int))) aB (fun hc3 => ?_) (fun hc3 => ?_)
 (try simp only [zq3,aS] at hc3)
 refine zc hG [(5,0,.elem (TvD (l.getD k none))),(6,1,kB true)] [1,1,0,0,1,1] false (aA (by intros; exact cE _ (by omega) (by (try simp only [zq4,aS] at *); omega) : (0 : Int) <= (k : Int) /\ (aS l)[k]? = some (TvD (l.getD k none))) (cS1 g (mV (l.getD k none) (by exact hT _ (bF (by omega)))))) (fun hc4 => absurd hc4 (by decide)) (fun _ => ?_);refine zD hG [] (k + 1) (aC (by intros; (try simp only [inR,maxLen,aS,lm] at *); omega : inR ((k : Int) + 1))) ?_ ?_
 (try dsimp only); omega
 show k + 1 <= l.length; omega
 (try simp only [zq3,aS] at hc3)
 refine zE hG [] (.exit 0) (⟨[zM 0 7 (aS l),zS 2 (S [])],[]⟩) aB rfl ?_;exact zr hG [(9,1,kS (S (rwT l)))] [] (cS1 g (join_tv l [124] (by omega) (Nat.le_trans (yA _ hT) (by omega)) hT))
end Go.Proofs.YtclaplngjmgnoaaGreatDoor
namespace Go.Proofs.YtclaplngjmgnoaaGreatDoor
open Go.RowKit Go.V
open Go.Eng (inR byteAt u8 dN)
variable {g : Gv}
def aNZ : List (List (Option Nat)) -> List (Bool × List C) -> List (Bool × List C)
 | m :: ms,p :: ps => (p.1,j5 m p.2) :: aNZ ms ps
 | _,ps => ps
theorem aKG {m : List (Option Nat)} {c : C} : j5 m [c] = [c] \/ ∃ q,j5 m [c] = [aCH q c] := by
 cases m with
 | nil => exact .inl rfl
 | cons q m =>
  right;refine ⟨q,?_⟩;cases m <;> rfl
theorem aCF {own : Own} {w : World} {pl : Pl} : ∀ {ms : List (List (Option Nat))} {ps : List (Bool × List C)} {vs : List Value},All2 (bV w pl own) ps vs -> All2 (bV w pl own) (aNZ ms ps) vs
 | [],ps,vs,h => by cases ps <;> exact h
 | m :: ms,[],vs,h => h
 | m :: ms,p :: ps,vs,h => by
  obtain ⟨y,r,rfl,h1,h2⟩ := h.uncons;refine All2.cons ?_ (aCF h2);obtain ⟨b,cs⟩ := p;cases b with
  | true =>
   obtain ⟨us,rfl,h3⟩ := h1;exact ⟨us,rfl,iM h3⟩
  | false =>
   cases cs with
   | nil => exact h1.elim
   | cons c cs =>
    cases cs with
    | cons _ _ => exact h1.elim
    | nil =>
     rcases aKG (m := m) (c := c) with e | ⟨q,e⟩
     show bV w pl own (false,j5 m [c]) y;rw [e]; exact h1;show bV w pl own (false,j5 m [c]) y;rw [e]; exact sY h1
theorem oW {f : FuncId} {ins : List SV} {refs : aZ} {ps : List (Bool × List C)} {post : aZ} (ms : List (List (Option Nat))) (h : SpG g f ins refs (.tup ps) post) : SpG g f ins refs (.tup (aNZ ms ps)) post := by
 intro fr w pl args hw hG m ha;refine (h fr w pl args hw hG m ha).mono ?_;rintro e w' ⟨v,pl',rfl,m',hv⟩;obtain ⟨vs,rfl,h2⟩ := hv;exact ⟨_,pl',rfl,m',vs,rfl,aCF h2⟩
theorem iV {a b : List UInt8} : eE (a ++ b) = (eE a && eE b) := by simp [eE]
theorem yF {f : FuncId} {ins : List SV} {out : SV} {post : aZ} {s s' : ByteArray} (e : s = s') (h : SpG g f ins [(0,.box 206 [cS s'])] out post) : SpG g f ins [(0,.box 206 [cS s])] out post := by subst e; exact h
theorem yU {l : List UInt8} (h : l.all d2 = true) : eE l = true := by
 rw [eE,at1];intro x hx;have := at1.1 h x hx;simp only [d2,bIQ,decide_eq_true_eq] at this;simp only [decide_eq_true_eq]; omega
theorem tR : ∀ {l : List UInt8},eE l = true -> eE (cQ l) = true
 | [],_ => rfl
 | x :: l,h => by
  simp only [eE,List.all_cons,bIQ] at h;have ih := tR (l := l) h.2;have hx := h.1;simp only [cQ,List.flatMap_cons] at ih ⊢;rw [iV,ih,Bool.and_true];unfold aAL;split;decide;simp [eE,hx]
theorem aIR {v : Tv} (h : bU v) : eE (tvT v) = true := by
 cases v with
 | none => decide
 | some s =>
  have h2 : s.all d2 = true := by
   unfold bU cZ at h;simp only [bIQ] at h;have := h.1;simpa [bs,tvS,S] using this
  simp only [tvT];rw [show ((39 : UInt8) :: (cQ s ++ [39])) = [39] ++ (cQ s ++ [39]) from rfl,iV,iV,tR (yU h2)];decide
def tlR (l : List Tv) (k : Nat) : List UInt8 := if k + 1 < l.length then 124 :: rwT (l.drop (k + 1)) else []
theorem tlR_end (l : List Tv) (k : Nat) : iY (tlR l k) := by
 unfold tlR;split;exact .inr ⟨124,_,rfl,rfl⟩;exact .inl rfl
theorem aD6 {l : List Tv} {k : Nat} (h : k < l.length) : rwT (l.drop k) = tvT (l.getD k none) ++ tlR l k := by
 have e : l.drop k = l.getD k none :: l.drop (k + 1) := by
  rw [gd,ge h]; exact List.drop_eq_getElem_cons h
 unfold tlR rwT;rw [e];by_cases h1 : k + 1 < l.length;rw [if_pos h1];obtain ⟨x,r,hx⟩ : ∃ x r,l.drop (k + 1) = x :: r := by
  cases hd : l.drop (k + 1) with
  | nil => have := congrArg List.length hd; simp at this; omega
  | cons x r => exact ⟨x,r,rfl⟩
 rw [hx]; simp [joinL];rw [if_neg h1];have : l.drop (k + 1) = [] := List.drop_eq_nil_of_le (by omega);rw [this]; simp [joinL]
theorem aGQ (l : List Tv) (k : Nat) : eN 124 (tlR l k) = decide (k + 1 < l.length) /\ dH 124 (tlR l k) = rwT (l.drop (k + 1)) := by
 unfold tlR;by_cases h : k + 1 < l.length;rw [if_pos h]; simp [eN,dH,h];rw [if_neg h];have : l.drop (k + 1) = [] := List.drop_eq_nil_of_le (by omega);rw [this]; simp [eN,dH,h,rwT,joinL]
theorem aJC {l : List Tv} (h : ∀ v,v ∈ l -> bU v) : eE (rwT l) = true := by
 induction l with
 | nil => rfl
 | cons v r ih =>
  have h1 := aIR (h v (by simp));have h2 := ih fun x hx => h x (by simp [hx]);have e := aD6 (l := v :: r) (k := 0) (by simp);simp only [List.drop_zero,List.getD_cons_zero] at e;rw [e,iV,h1,Bool.true_and];unfold tlR;split;rw [show ((124 : UInt8) :: rwT (List.drop (0 + 1) (v :: r))) = [124] ++ rwT r from rfl,iV,h2]; rfl;rfl
theorem yI {l : List Tv} (h : l ≠ []) : rwT l ≠ [] := by
 cases l with
 | nil => exact absurd rfl h
 | cons v r =>
  have e := aD6 (l := v :: r) (k := 0) (by simp);simp only [List.drop_zero,List.getD_cons_zero] at e;rw [e];intro hh;exact tvT_ne v (List.append_eq_nil_iff.1 hh).1
theorem word0 {r : List UInt8} (hr : iY r) : (48 :: r).takeWhile fE = [48] /\ (48 :: r).dropWhile fE = r := aIM (w := [48]) (by decide) hr
theorem atoi0 {r : List UInt8} (hr : iY r) : SpG g 68 [.c (cS (S ((48 :: r).takeWhile fE)))] [] (.tup [(false,[cI 0]),(false,[.d (.v .nilIface)])]) [] := by
 rw [(word0 hr).1,<- itoa0];exact kM 0 ⟨by decide,by decide⟩
theorem aLQ (s : List UInt8) {r : List UInt8} (hr : iY r) : tqM ((cQ s ++ 39 :: r).length + 1) [] (cQ s ++ 39 :: r) = (true,s,r) := by
 have := tq_of ((cQ s ++ 39 :: r).length + 1) s [] r (by omega) hr;simpa using this
abbrev y2 : Ob := .box 89 [.bx 0 0,.ar 1 0]
theorem tW (es : LD) :
  SpG g 61 [.c (.bx 0 0)] [(0,y2),(1,.arr 0 5 1 es)] (.tup []) [(0,y2),(1,.arr 0 5 1 es)] := by
 refine aP 20 Tryz.func61 fun fr hG => ?_;refine zc hG [] [1] false aB (fun hc1 => absurd hc1 (by decide)) (fun _ => ?_);refine zC hG [] [1,1,1] false (⟨[],[(0,y2),(1,.arr 0 5 1 es)]⟩) aB (fun hc2 => absurd hc2 (by decide)) (fun _ => ?_);exact zr hG [] [] aB
abbrev y3 : Ob := .box 89 [.d (.v (.pointer none)),cN]
theorem aF9  :
  SpG g 61 [.c (.bx 0 0)] [(0,y3)] (.tup []) [(0,.box 89 [.bx 0 0,cN])] := by
 refine aP 20 Tryz.func61 fun fr hG => ?_;refine zc hG [] [1] true aB (fun _ => ?_) (fun hc1 => absurd hc1 (by decide));exact zr hG [] [] (aC (show oR Tryz.prog 114 from vV))
abbrev y4 (a0 : Int) : SV := .tup [(false,[cI a0]),(false,[.d (.v (.nilIface))])]
abbrev y5 (a0 : LD) : Ob := .arr 0 5 1 a0
theorem w5 (s : ByteArray) (h : s.size <= 1000000000000) :
  SpG g 34 [.c (.bx 0 0),.c (cS s)] [(0,y3)] (y4 (s.size : Int)) [(0,.box 89 [.bx 0 0,.ar 100 0]),(100,y5 (bytesD s.data.toList))] := by
 refine aP 19 Tryz.func34 fun fr hG => ?_;exact zr hG [(1,1,.callG (.tup []) [0] [(0,.box 89 [.bx 0 0,cN])])] [306] (cS2 g aF9 (aC (by intros; first | assumption | omega : s.size <= 1000000000000)))
theorem w6 (es : LD) (s : ByteArray) (h : es.length + s.size <= 1000000000000) :
  SpG g 34 [.c (.bx 0 0),.c (cS s)] [(0,y2),(1,.arr 0 5 1 es)] (y4 (s.size : Int)) [(0,y2),(1,y5 (es ++ bytesD s.data.toList))] := by
 refine aP 19 Tryz.func34 fun fr hG => ?_;exact zr hG [(1,1,.callG (.tup []) [0,1] [(0,y2),(1,.arr 0 5 1 es)])] [] (cS2 g (tW es) (aC (by intros; first | assumption | omega : es.length + s.size <= 1000000000000)))
theorem tZ (es : LD) (r : ByteArray) (h : es = bytesD r.data.toList) :
  SpG g 36 [.c (.bx 0 0)] [(0,y2),(1,.arr 0 5 1 es)] (.c (cS r)) [(1,.arr 0 5 1 []),(0,.box 89 [.bx 0 0,.any])] := by
 refine aP 14 Tryz.func36 fun fr hG => ?_;exact zr hG [(1,10,kS r)] [] (aA (show es = bytesD r.data.toList from h) (aC (by intros; first | assumption | (rw [h,bC]; rfl) : ((es.length : Int) : Int) = (r.size : Int))))
theorem iC (es : LD) (r : ByteArray) (h : es = bytesD r.data.toList) :
  SpG g 36 [.c (.bx 0 0)] [(0,y2),(1,.arr 0 5 1 es)] (.c (cS r)) [(0,.box 89 [.bx 0 0,.any]),(1,.arr 0 5 1 [])] :=
 bX (tZ es r h) (by funext i; match i with | 0 => rfl | 1 => rfl | i + 2 => rfl)
def zq5 := And.intro @lc.{0} (@ln.{0})
theorem rM (es : LD) (c : Int) (h : es.length <= 1000000000000) :
  SpG g 321 [.c (.bx 0 0),.c (.d (.y c))] [(0,y2),(1,.arr 0 5 1 es)] (.c (.d (.v (.nilIface)))) [(0,y2),(1,y5 (es ++ [[D.y c]]))] := by
 refine aP 17 Tryz.func321 fun fr hG => ?_;exact zr hG [(1,1,.callG (.tup []) [0,1] [(0,y2),(1,.arr 0 5 1 es)])] [] (cS2 g (tW es) (aC (by intros; (try simp only [zq5]); omega : (es.length + ([[.y c]] : LD).length) * (1 + 1) <= 140737488355328)))
def zq6 := And.intro @lS (And.intro @aIJ (And.intro @aQ (@blS)))
abbrev y6 (a0 : ByteArray) : Ob := .box 206 [cS a0]
theorem qZ (l : List UInt8) (c : UInt8) :
  SpG g 122 [.c (.bx 0 0),.c (.d (.y c.toNat))] [(0,.box 206 [cS (S l)])] (.c (cB (eN c l))) [(0,y6 (S (dH c l)))] := by
 refine aP 27 Tryz.func122 fun fr hG => ?_;refine zC hG [] [1,0,1] (((S l).toList == (S []).toList) || (!decide ((byteAt (S l) 0 : Int) = c.toNat))) (⟨[zX 0 0 0,zB 4 false],[(0,.box 206 [cS (S l)])]⟩) (aC (by first | (intro h; rw [lS] at h; have := List.length_pos_iff.2 h; rw [aQ]; omega) | (have := List.length_pos_iff.2 hc1.1; rw [aQ]; omega) : ((S l).toList == (S []).toList) = false -> (0 : Int) <= 0 /\ 0 < ((S l).size : Int))) (fun hc1 => ?_) (fun hc1 => ?_)
 (try simp only [zq6] at hc1)
 refine zR hG [] [] (.c (cB false)) [(0,.box 206 [cS (S l)])] aB ?_ ?_;rw [(aGR hc1).1];rw [(aGR hc1).2]
 (try simp only [zq6] at hc1)
 refine zR hG [] [] (.c (cB true)) [(0,y6 ((S l).extract 1 (S l).size))] (aC (by first | (intro h; rw [lS] at h; have := List.length_pos_iff.2 h; rw [aQ]; omega) | (have := List.length_pos_iff.2 hc1.1; rw [aQ]; omega) : (0 : Int) <= 1 /\ (1 : Int) <= ((S l).size : Int) /\ ((S l).size : Int) <= ((S l).size : Int))) ?_ ?_;rw [(aBT hc1.1 hc1.2).1];rw [(aBT hc1.1 hc1.2).2,kO]
theorem word_ok (l : List UInt8) (hl : l.length < 4294967281) (ha : eE l = true) :
  SpG g 258 [.c (.bx 0 0)] [(0,.box 206 [cS (S l)])] (.c (cS (S (l.takeWhile fE)))) [(0,y6 (S (l.dropWhile fE)))] := by
 have hw := qD l;refine aP 33 Tryz.func258 fun fr hG => ?_;refine zC hG [(1,4,kI (Lib.indexAny l seps))] [1,0,1,1] (decide ((Lib.indexAny l seps : Int) < 0)) (⟨[zX 0 0 0,zS 2 (S []),zI 3 (Lib.indexAny l seps)],[(0,.box 206 [cS (S l)])]⟩) (cS1 g (aCQ l hl ha)) (fun hc1 => ?_) (fun hc1 => ?_)
 (try simp only [blS,aQ] at hc1)
 refine zR hG [] [] (.c (cS ((S l).extract 0 ((S l).size)))) [(0,y6 ((S l).extract ((S l).size) (S l).size))] (aA (by intros; (try simp only [aQ] at *); first | omega | decide : (0 : Int) <= 0 /\ (0 : Int) <= ((S l).size : Int) /\ ((S l).size : Int) <= ((S l).size : Int)) (aC (by intros; (try simp only [aQ] at *); first | omega | decide : (0 : Int) <= ((S l).size : Int) /\ (((S l).size : Int) : Int) <= ((S l).size : Int) /\ ((S l).size : Int) <= ((S l).size : Int)))) ?_ ?_;obtain ⟨h1,h2,h3⟩ : Lib.indexAny l seps < 0 /\ l.takeWhile fE = l /\ l.dropWhile fE = [] := by rcases hw with h | h <;> first | exact h | (exfalso; omega)
 rw [h2,aQL,aQ]; simp;obtain ⟨h1,h2,h3⟩ : Lib.indexAny l seps < 0 /\ l.takeWhile fE = l /\ l.dropWhile fE = [] := by rcases hw with h | h <;> first | exact h | (exfalso; omega)
 rw [h3,aQL,aQ]; simp
 (try simp only [blS,aQ] at hc1)
 refine zR hG [] [] (.c (cS ((S l).extract 0 (Lib.indexAny l seps : Int).toNat))) [(0,y6 ((S l).extract (Lib.indexAny l seps : Int).toNat (S l).size))] (aA (by intros; (try simp only [aQ] at *); first | omega | decide : (0 : Int) <= 0 /\ (0 : Int) <= (Lib.indexAny l seps) /\ (Lib.indexAny l seps) <= ((S l).size : Int)) (aC (by intros; (try simp only [aQ] at *); first | omega | decide : (0 : Int) <= (Lib.indexAny l seps) /\ (Lib.indexAny l seps : Int) <= ((S l).size : Int) /\ ((S l).size : Int) <= ((S l).size : Int)))) ?_ ?_;obtain ⟨h1,h2,h3,h4⟩ : 0 <= Lib.indexAny l seps /\ Lib.indexAny l seps <= l.length /\ l.takeWhile fE = l.take (Lib.indexAny l seps).toNat /\ l.dropWhile fE = l.drop (Lib.indexAny l seps).toNat := by rcases hw with h | h <;> first | exact h | (exfalso; omega)
 rw [h3,aQL]; simp;obtain ⟨h1,h2,h3,h4⟩ : 0 <= Lib.indexAny l seps /\ Lib.indexAny l seps <= l.length /\ l.takeWhile fE = l.take (Lib.indexAny l seps).toNat /\ l.dropWhile fE = l.drop (Lib.indexAny l seps).toNat := by rcases hw with h | h <;> first | exact h | (exfalso; omega)
 rw [h4,kO]
abbrev y7 : SV := .tup [(true,[cI 0,cS (S []),cI 0,cI 0,cI 0,cN,cN]),(false,[cB true])]
theorem aOR (r : List UInt8) (hl : r.length < 1000000000) (hr : iY r) (ha : eE (48 :: r) = true) :
  SpG g 260 [.c (.bx 0 0)] [(0,y6 (S (48 :: r)))] y7 [(0,.box 206 [cS (S r)])] := by
 refine aP 16 Tryz.func260 fun fr hG => ?_;refine zR hG [(1,1,.callG (.c (cS (S ((48 :: r).takeWhile fE)))) [0] [(0,y6 (S ((48 :: r).dropWhile fE)))]),(1,2,kC (.tup [(false,[cI 0]),(false,[.d (.v (.nilIface))])]))] [] y7 [(0,y6 (S ((48 :: r).dropWhile fE)))] (cS2 g (word_ok (48 :: r) (by rw [lc]; omega) ha) (cS1 g (atoi0 hr))) ?_ ?_;rfl;rw [(word0 hr).2]
abbrev y8 : Ob := .box 61 [cI 0,cS (S []),cI 0,cI 0,cI 0,cN,cN]
noncomputable def txO (es : LD) (r : List UInt8) : Nat -> aZ
 | 0 => [(0,.box 206 [cS (S r)]),(100,y8),(200,y3)]
 | _ => [(0,.box 206 [cS (S r)]),(100,y8),(200,.box 89 [.bx 200 0,.ar 606 0]),(606,.arr 0 5 1 (es))]
def zq7 := And.intro @la.{0} (And.intro @lc.{0} (And.intro @ln.{0} (@lt1.{0})))
abbrev y9 (a0 : Int) (a1 : ByteArray) (a2 : Bool) : SV := .tup [(true,[cI a0,cS a1,cI 0,cI 0,cI 0,cN,cN]),(false,[cB a2])]
abbrev e0z : bR := [zX 2 100 0,zB 3 false]
theorem aLU (l : List UInt8) (hl : l.length < 1000000000) :
  SpG g 261 [.c (.bx 0 0)] [(0,.box 206 [cS (S l)])] (y9 (if (tqM (l.length + 1) [] l).1 then 1 else 0) (S (tqM (l.length + 1) [] l).2.1) ((tqM (l.length + 1) [] l).1)) [(0,y6 (S (tqM (l.length + 1) [] l).2.2))] := by
 refine aP 37 Tryz.func261 fun fr hG => ?_;refine zL hG [] [0,1,1] (fun (zz : Nat × Nat × List UInt8 × List UInt8 × LD) => match zz with | (k,n,acc,r,es) => (r.length,⟨[zX 0 0 0,zX 2 100 0,zB 3 false,zX 4 200 0],txO es r k⟩,k <= 1 /\ (k = 0 -> acc = []) /\ r.length < n /\ acc.length + r.length <= l.length + 1 /\ tqM (l.length + 1) [] l = tqM n acc r /\ (k = 1 -> es = bytesD (S acc).data.toList))) (0,l.length + 1,[],l,[]) aB ?_ ?_;exact ⟨by omega,fun _ => rfl,by omega,by simp,rfl,by omega⟩;rintro ⟨k,n,acc,r,es⟩ ⟨hk,hz,hrn,hal,hm,hes⟩;have hib := nU r 39;have hsl := aI9 39 (r.drop ((Lib.indexByte r 39).toNat + 1));rw [List.length_drop] at hsl;have htl : (r.take (Lib.indexByte r 39).toNat).length <= (Lib.indexByte r 39).toNat := by rw [lt1]; omega
 have hst := tq_step (acc := acc) hrn;rcases (by omega : k = 0 \/ k = 1) with rfl | rfl;skip;refine zP hG [(2,4,kI (Lib.indexByte r 39))] [1,0,1,0] ((Lib.indexByte r 39 : Int) < 0) (⟨[zX 0 0 0] ++ e0z ++ [zX 4 200 0,zI 5 (Lib.indexByte r 39)],[(0,.box 206 [cS (S r)]),(100,y8),(200,y3)]⟩) (cS1 g (nT r 39)) (fun hc2 => ?_) (fun hc2 => ?_);skip;refine zE hG [] .ret (⟨e0z,[(0,.box 206 [cS (S r)]),(100,y8)]⟩) aB rfl ?_;refine zR hG [] [] (.tup [(true,[cI 0,cS (S []),cI 0,cI 0,cI 0,cN,cN]),(false,[cB false])]) [(0,.box 206 [cS (S r)])] aB ?_ ?_;rw [hm,hst,if_pos hc2]; rfl;rw [hm,hst,if_pos hc2];skip;refine zC hG [(5,6,.callG (y4 (((S r).extract 0 (Lib.indexByte r 39 : Int).toNat).size : Int)) [200] [(0,.box 89 [.bx 0 0,.ar 100 0]),(100,y5 (bytesD ((S r).extract 0 (Lib.indexByte r 39 : Int).toNat).data.toList))]),(7,1,.callG (.c (cB (eN 39 (r.drop ((Lib.indexByte r 39).toNat + 1))))) [0] [(0,y6 (S (dH 39 (r.drop ((Lib.indexByte r 39).toNat + 1)))))])] [1,0,1,1,1,1,0] (!(eN 39 (r.drop ((Lib.indexByte r 39).toNat + 1)))) (⟨[zX 0 0 0] ++ e0z ++ [zX 4 200 0],[(0,y6 (S (dH 39 (r.drop ((Lib.indexByte r 39).toNat + 1))))),(100,y8),(200,.box 89 [.bx 200 0,.ar 606 0]),(606,y5 (bytesD ((S r).extract 0 (Lib.indexByte r 39 : Int).toNat).data.toList))]⟩) (aA (by intros; (try simp only [aQ] at *); first | omega | (refine ⟨?_,?_⟩ <;> omega) : (0 : Int) <= 0 /\ (0 : Int) <= (Lib.indexByte r 39) /\ (Lib.indexByte r 39) <= ((S r).size : Int)) (cS2 g (w5 ((S r).extract 0 (Lib.indexByte r 39 : Int).toNat) (by first | (rw [g0,aQ]; simp only [zq7,List.drop_zero]; omega) | (rw [hes rfl,bC,cP,g0,aQ]; simp only [zq7,List.drop_zero]; omega))) (aA (by intros; (try simp only [aQ] at *); first | omega | (refine ⟨?_,?_⟩ <;> omega) : inR ((Lib.indexByte r 39) + 1)) (aA (by intros; (try simp only [aQ] at *); first | omega | (refine ⟨?_,?_⟩ <;> omega) : (0 : Int) <= ((Lib.indexByte r 39) + 1) /\ ((Lib.indexByte r 39) + 1 : Int) <= ((S r).size : Int) /\ ((S r).size : Int) <= ((S r).size : Int)) (cS1 g (yF (qL (by omega)) (qZ (r.drop ((Lib.indexByte r 39).toNat + 1)) 39))))))) (fun hc3 => ?_) (fun hc3 => ?_)
 (try simp only [blS] at hc3)
 refine zE hG [(8,0,.callG (.c (cS (S (acc ++ r.take (Lib.indexByte r 39).toNat)))) [200,606] [(0,.box 89 [.bx 0 0,.any]),(1,y5 ([] : LD))])] .ret (⟨[zX 2 100 0,zB 3 true],[(0,y6 (S (dH 39 (r.drop ((Lib.indexByte r 39).toNat + 1))))),(100,.box 61 [cI 1,cS (S (acc ++ r.take (Lib.indexByte r 39).toNat)),cI 0,cI 0,cI 0,cN,cN])]⟩) (cS1 g (iC (bytesD ((S r).extract 0 (Lib.indexByte r 39 : Int).toNat).data.toList) (S (acc ++ r.take (Lib.indexByte r 39).toNat)) (by first | exact aAM (hz rfl) | exact aAN (hes rfl)))) rfl ?_;refine zR hG [] [] (.tup [(true,[cI 1,cS (S (acc ++ r.take (Lib.indexByte r 39).toNat)),cI 0,cI 0,cI 0,cN,cN]),(false,[cB true])]) [(0,y6 (S (dH 39 (r.drop ((Lib.indexByte r 39).toNat + 1)))))] aB ?_ ?_;have e : tqM n acc r = (true,acc ++ r.take (Lib.indexByte r 39).toNat,r.drop ((Lib.indexByte r 39).toNat + 1)) := by rw [hst,if_neg hc2,hc3]; rfl
 rw [hm,e]; rfl;have e : tqM n acc r = (true,acc ++ r.take (Lib.indexByte r 39).toNat,r.drop ((Lib.indexByte r 39).toNat + 1)) := by rw [hst,if_neg hc2,hc3]; rfl
 rw [hm,e,rY hc3]
 (try simp only [blS] at hc3)
 refine zD hG [(9,0,.callG (.c (.d (.v (.nilIface)))) [200,606] [(0,y2),(1,y5 ((bytesD ((S r).extract 0 (Lib.indexByte r 39 : Int).toNat).data.toList) ++ [[D.y 39]]))])] (1,n - 1,acc ++ (r.take (Lib.indexByte r 39).toNat) ++ [39],dH 39 (r.drop ((Lib.indexByte r 39).toNat + 1)),(bytesD ((S r).extract 0 (Lib.indexByte r 39 : Int).toNat).data.toList) ++ [[D.y 39]]) (cS1 g (rM (bytesD ((S r).extract 0 (Lib.indexByte r 39 : Int).toNat).data.toList) 39 (by first | (rw [bC,g0,cP]; simp only [zq7,List.drop_zero]; omega) | (rw [la,hes rfl,bC,bC,g0,cP,cP]; simp only [zq7,List.drop_zero]; omega)))) ?_ ?_
 (try dsimp only); omega
 refine ⟨by omega,by omega,by omega,by simp only [zq1]; omega,?_,fun _ => ?_⟩;rw [hm,hst,if_neg hc2,if_pos hc3];exact es_39 (by first | exact aAM (hz rfl) | exact aAN (hes rfl));skip;refine zP hG [(2,4,kI (Lib.indexByte r 39))] [1,0,1,0] ((Lib.indexByte r 39 : Int) < 0) (⟨[zX 0 0 0] ++ e0z ++ [zX 4 200 0,zI 5 (Lib.indexByte r 39)],[(0,.box 206 [cS (S r)]),(100,y8),(200,.box 89 [.bx 200 0,.ar 606 0]),(606,.arr 0 5 1 es)]⟩) (cS1 g (nT r 39)) (fun hc4 => ?_) (fun hc4 => ?_);skip;refine zE hG [] .ret (⟨e0z,[(0,.box 206 [cS (S r)]),(100,y8)]⟩) aB rfl ?_;refine zR hG [] [] (.tup [(true,[cI 0,cS (S []),cI 0,cI 0,cI 0,cN,cN]),(false,[cB false])]) [(0,.box 206 [cS (S r)])] aB ?_ ?_;rw [hm,hst,if_pos hc4]; rfl;rw [hm,hst,if_pos hc4];skip;refine zC hG [(5,6,.callG (y4 (((S r).extract 0 (Lib.indexByte r 39 : Int).toNat).size : Int)) [200,606] [(0,y2),(1,y5 (es ++ bytesD ((S r).extract 0 (Lib.indexByte r 39 : Int).toNat).data.toList))]),(7,1,.callG (.c (cB (eN 39 (r.drop ((Lib.indexByte r 39).toNat + 1))))) [0] [(0,y6 (S (dH 39 (r.drop ((Lib.indexByte r 39).toNat + 1)))))])] [1,0,1,1,1,1,0] (!(eN 39 (r.drop ((Lib.indexByte r 39).toNat + 1)))) (⟨[zX 0 0 0] ++ e0z ++ [zX 4 200 0],[(0,y6 (S (dH 39 (r.drop ((Lib.indexByte r 39).toNat + 1))))),(100,y8),(200,.box 89 [.bx 200 0,.ar 606 0]),(606,y5 (es ++ bytesD ((S r).extract 0 (Lib.indexByte r 39 : Int).toNat).data.toList))]⟩) (aA (by intros; (try simp only [aQ] at *); first | omega | (refine ⟨?_,?_⟩ <;> omega) : (0 : Int) <= 0 /\ (0 : Int) <= (Lib.indexByte r 39) /\ (Lib.indexByte r 39) <= ((S r).size : Int)) (cS2 g (w6 es ((S r).extract 0 (Lib.indexByte r 39 : Int).toNat) (by first | (rw [g0,aQ]; simp only [zq7,List.drop_zero]; omega) | (rw [hes rfl,bC,cP,g0,aQ]; simp only [zq7,List.drop_zero]; omega))) (aA (by intros; (try simp only [aQ] at *); first | omega | (refine ⟨?_,?_⟩ <;> omega) : inR ((Lib.indexByte r 39) + 1)) (aA (by intros; (try simp only [aQ] at *); first | omega | (refine ⟨?_,?_⟩ <;> omega) : (0 : Int) <= ((Lib.indexByte r 39) + 1) /\ ((Lib.indexByte r 39) + 1 : Int) <= ((S r).size : Int) /\ ((S r).size : Int) <= ((S r).size : Int)) (cS1 g (yF (qL (by omega)) (qZ (r.drop ((Lib.indexByte r 39).toNat + 1)) 39))))))) (fun hc5 => ?_) (fun hc5 => ?_)
 (try simp only [blS] at hc5)
 refine zE hG [(8,0,.callG (.c (cS (S (acc ++ r.take (Lib.indexByte r 39).toNat)))) [200,606] [(0,.box 89 [.bx 0 0,.any]),(1,y5 ([] : LD))])] .ret (⟨[zX 2 100 0,zB 3 true],[(0,y6 (S (dH 39 (r.drop ((Lib.indexByte r 39).toNat + 1))))),(100,.box 61 [cI 1,cS (S (acc ++ r.take (Lib.indexByte r 39).toNat)),cI 0,cI 0,cI 0,cN,cN])]⟩) (cS1 g (iC (es ++ bytesD ((S r).extract 0 (Lib.indexByte r 39 : Int).toNat).data.toList) (S (acc ++ r.take (Lib.indexByte r 39).toNat)) (by first | exact aAM (hz rfl) | exact aAN (hes rfl)))) rfl ?_;refine zR hG [] [] (.tup [(true,[cI 1,cS (S (acc ++ r.take (Lib.indexByte r 39).toNat)),cI 0,cI 0,cI 0,cN,cN]),(false,[cB true])]) [(0,y6 (S (dH 39 (r.drop ((Lib.indexByte r 39).toNat + 1)))))] aB ?_ ?_;have e : tqM n acc r = (true,acc ++ r.take (Lib.indexByte r 39).toNat,r.drop ((Lib.indexByte r 39).toNat + 1)) := by rw [hst,if_neg hc4,hc5]; rfl
 rw [hm,e]; rfl;have e : tqM n acc r = (true,acc ++ r.take (Lib.indexByte r 39).toNat,r.drop ((Lib.indexByte r 39).toNat + 1)) := by rw [hst,if_neg hc4,hc5]; rfl
 rw [hm,e,rY hc5]
 (try simp only [blS] at hc5)
 refine zD hG [(9,0,.callG (.c (.d (.v (.nilIface)))) [200,606] [(0,y2),(1,y5 ((es ++ bytesD ((S r).extract 0 (Lib.indexByte r 39 : Int).toNat).data.toList) ++ [[D.y 39]]))])] (1,n - 1,acc ++ (r.take (Lib.indexByte r 39).toNat) ++ [39],dH 39 (r.drop ((Lib.indexByte r 39).toNat + 1)),(es ++ bytesD ((S r).extract 0 (Lib.indexByte r 39 : Int).toNat).data.toList) ++ [[D.y 39]]) (cS1 g (rM (es ++ bytesD ((S r).extract 0 (Lib.indexByte r 39 : Int).toNat).data.toList) 39 (by first | (rw [bC,g0,cP]; simp only [zq7,List.drop_zero]; omega) | (rw [la,hes rfl,bC,bC,g0,cP,cP]; simp only [zq7,List.drop_zero]; omega)))) ?_ ?_
 (try dsimp only); omega
 refine ⟨by omega,by omega,by omega,by simp only [zq1]; omega,?_,fun _ => ?_⟩;rw [hm,hst,if_neg hc4,if_pos hc5];exact es_39 (by first | exact aAM (hz rfl) | exact aAN (hes rfl))
def zq8 := And.intro @lS (And.intro @aIJ (@blS))
theorem cell_0 (r : List UInt8) (hl : r.length < 999999990) (hr : iY r) (ha : eE (48 :: r) = true) :
  SpG g 184 [.c (.bx 0 0)] [(0,y6 (S (33 :: 48 :: r)))] y7 [(0,.box 206 [cS (S r)])] := by
 refine aP 50 Tryz.func184 fun fr hG => ?_;refine zC hG [] [1,0,1] ((S (33 :: 48 :: r)).toList == (S []).toList) (⟨[zX 0 0 0] ++ e0z,[(0,y6 (S (33 :: 48 :: r))),(100,y8)]⟩) aB (fun hc1 => ?_) (fun hc1 => ?_)
 (try simp only [zq8] at hc1)
 exact absurd hc1 (by simp)
 (try simp only [zq8] at hc1)
 refine zC hG [(4,6,.elem [.i 0])] [1,0,1,1,1,1] false (⟨[zX 0 0 0] ++ e0z ++ [(5,[],.c (.fn 260 [(0,0)] []))],[(0,y6 (S (33 :: 48 :: r))),(100,y8)]⟩) (aA (by first | (intro h; rw [lS] at h; have := List.length_pos_iff.2 h; rw [aQ]; omega) | (intros; rw [aQ]; simp only [lc]; omega) | omega : (0 : Int) <= 0 /\ 0 < ((S (33 :: 48 :: r)).size : Int)) (aC (show (byteAt (S (33 :: 48 :: r)) 0 : Int) = 33 from (byte0 33 (48 :: r))))) (fun hc2 => absurd hc2 (by decide)) (fun _ => ?_);exact zr hG [(8,1,.callG y7 [0] [(0,.box 206 [cS (S r)])])] [] (aA (by first | (intro h; rw [lS] at h; have := List.length_pos_iff.2 h; rw [aQ]; omega) | (intros; rw [aQ]; simp only [lc]; omega) | omega : (0 : Int) <= 1 /\ (1 : Int) <= ((S (33 :: 48 :: r)).size : Int) /\ ((S (33 :: 48 :: r)).size : Int) <= ((S (33 :: 48 :: r)).size : Int)) (cS1 g (yF (aQK 33 (48 :: r)) (aOR r (by omega) hr ha))))
theorem cell_1 (t : List UInt8) (hl : t.length < 999999999) :
  SpG g 184 [.c (.bx 0 0)] [(0,y6 (S (39 :: t)))] (y9 (if (tqM (t.length + 1) [] t).1 then 1 else 0) (S (tqM (t.length + 1) [] t).2.1) ((tqM (t.length + 1) [] t).1)) [(0,y6 (S (tqM (t.length + 1) [] t).2.2))] := by
 refine aP 50 Tryz.func184 fun fr hG => ?_;refine zC hG [] [1,0,1] ((S (39 :: t)).toList == (S []).toList) (⟨[zX 0 0 0] ++ e0z,[(0,y6 (S (39 :: t))),(100,y8)]⟩) aB (fun hc1 => ?_) (fun hc1 => ?_)
 (try simp only [zq8] at hc1)
 exact absurd hc1 (by simp)
 (try simp only [zq8] at hc1)
 refine zC hG [(4,6,.elem [.i 1])] [1,0,1,1,1,1] false (⟨[zX 0 0 0] ++ e0z ++ [(5,[],.c (.fn 261 [(0,0)] []))],[(0,y6 (S (39 :: t))),(100,y8)]⟩) (aA (by first | (intro h; rw [lS] at h; have := List.length_pos_iff.2 h; rw [aQ]; omega) | (intros; rw [aQ]; simp only [lc]; omega) | omega : (0 : Int) <= 0 /\ 0 < ((S (39 :: t)).size : Int)) (aC (show (byteAt (S (39 :: t)) 0 : Int) = 39 from (byte0 39 t)))) (fun hc2 => absurd hc2 (by decide)) (fun _ => ?_);exact zr hG [(8,1,.callG (y9 (if (tqM (t.length + 1) [] t).1 then 1 else 0) (S (tqM (t.length + 1) [] t).2.1) ((tqM (t.length + 1) [] t).1)) [0] [(0,y6 (S (tqM (t.length + 1) [] t).2.2))])] [] (aA (by first | (intro h; rw [lS] at h; have := List.length_pos_iff.2 h; rw [aQ]; omega) | (intros; rw [aQ]; simp only [lc]; omega) | omega : (0 : Int) <= 1 /\ (1 : Int) <= ((S (39 :: t)).size : Int) /\ ((S (39 :: t)).size : Int) <= ((S (39 :: t)).size : Int)) (cS1 g (yF (aQK 39 t) (aLU t (by omega)))))
abbrev y10 (a0 : Int) (a1 : ByteArray) (a2 : LD) : SV := .tup [(true,[cI a0,cS a1,cI 0,cI 0,cI 0,cM 1 a2,cM 1 a2]),(false,[cB true])]
theorem cell_tv (v : Tv) (hv : bU v) (r : List UInt8) (hl : r.length < 900000000) (hr : iY r) (ha : eE r = true) : SpG g 184 [.c (.bx 0 0)] [(0,y6 (S (tvT v ++ r)))] (y10 (tvK v) (S (tvS v)) ([] : LD)) [(0,.box 206 [cS (S (r))])] := by
 have h : SpG g 184 [.c (.bx 0 0)] [(0,y6 (S (tvT v ++ r)))] (.tup [(true,[cI (tvK v),cS (S (tvS v)),cI 0,cI 0,cI 0,.d .nil,.d .nil]),(false,[cB true])]) [(0,.box 206 [cS (S r)])] := by
  cases v with
  | none => exact cell_0 r (by omega) hr (by simp only [eE,List.all_cons] at ha ⊢; rw [ha]; rfl)
  | some s =>
   have hs := iE hv;have h2 := oA s;have e : tvT (some s) ++ r = 39 :: (cQ s ++ 39 :: r) := by simp [tvT]
   have hc := cell_1 (g := g) (cQ s ++ 39 :: r) (by simp only [zq0,tvS] at *; omega);rw [aLQ s hr] at hc;rw [e];exact hc
 exact oW [[none,none,none,none,none,some 1,some 1],[]] h
theorem skip91 (v : Tv) (r : List UInt8) : SpG g 122 [.c (.bx 0 0),.c (.d (.y 91))] [(0,y6 (S (tvT v ++ r)))] (.c (cB false)) [(0,y6 (S (tvT v ++ r)))] := by
 have h := qZ (g := g) (tvT v ++ r) 91;have e : eN 91 (tvT v ++ r) = false := by cases v <;> rfl
 rw [e,rY e] at h;exact h
theorem aBA (v : Tv) (hv : bU v) (r : List UInt8) (hl : r.length < 900000000) (hr : iY r) (ha : eE r = true) :
  SpG g 121 [.c (.bx 0 0)] [(0,y6 (S (tvT v ++ r)))] (y10 (tvK v) (S (tvS v)) ([] : LD)) [(0,.box 206 [cS (S r)])] := by
 refine aP 14 Tryz.func121 fun fr hG => ?_;refine zC hG [(1,1,.callG (.c (cB false)) [0] [(0,y6 (S (tvT v ++ r)))])] [1,0,1] false (⟨[zX 0 0 0] ++ e0z,[(0,y6 (S (tvT v ++ r))),(100,y8)]⟩) (cS1 g (skip91 v r)) (fun hc1 => absurd hc1 (by decide)) (fun _ => ?_);exact zr hG [(3,1,.callG (y10 (tvK v) (S (tvS v)) ([] : LD)) [0] [(0,.box 206 [cS (S r)])])] [] (cS1 g (cell_tv v hv r hl hr ha))
theorem aIN (v : Tv) (hv : bU v) : SpG g 121 [.c (.bx 0 0)] [(0,y6 (S (tvT v)))] (y10 (tvK v) (S (tvS v)) ([] : LD)) [(0,.box 206 [cS (S ([]))])] := by
 have h := aBA (g := g) v hv [] (by simp) (.inl rfl) rfl;rw [List.append_nil] at h;exact h
theorem aG2 (v : Tv) (hv : bU v) :
  SpG g 71 [.c (cS (S (tvT v)))] [] (y10 (tvK v) (S (tvS v)) ([] : LD)) [] := by
 refine aP 37 Tryz.func71 fun fr hG => ?_;refine zC hG [(2,1,.callG (y10 (tvK v) (S (tvS v)) ([] : LD)) [202] [(0,.box 206 [cS (S [])])]),(3,11,kB true),(3,16,kS (S (tvT v)))] [1,0,1,1,1] (!((S (tvT v)).toList == (S (tvT v)).toList)) (⟨e0z ++ [zX 5 305 0],[(100,y8),(305,y1 (tvK v) (S (tvS v)) ([] : LD))]⟩) (cS2 g (aIN v hv) (aA (fun (hg1 : false = false) => (mV v (by assumption) : SpG g _ _ _ _ _)) (aC (fun (hg1 : false = false) => (xY v (by assumption) : SpG g _ _ _ _ _))))) (fun hc1 => ?_) (fun hc1 => ?_)
 (try simp only [zq8] at hc1)
 simp at hc1
 (try simp only [zq8] at hc1)
 exact zr hG [] [] aB
theorem aB2  :
  SpG g 70 [.c (cS (S []))] [] (.tup [(false,[cN]),(false,[cB true])]) [] := by
 refine aP 35 Tryz.func70 fun fr hG => ?_;refine zC hG [] [1,0,1] true (⟨[zS 0 (S []),zN 2,zB 3 false],[]⟩) aB (fun _ => ?_) (fun hc1 => absurd hc1 (by decide));exact zr hG [] [] aB
theorem aLJ (l : List Tv) (hl : l.length <= 8) (hT : ∀ v,v ∈ l -> bU v) (k : Nat) (h : k < l.length) : SpG g 121 [.c (.bx 0 0)] [(0,y6 (S (rwT (l.drop k))))] (y10 (tvK (l.getD k none)) (S (tvS (l.getD k none))) ([] : LD)) [(0,y6 (S (tlR l k)))] := by
 have ha := aJC (l := l.drop (k + 1)) fun v hv => hT v (List.mem_of_mem_drop hv);have h2 := aGS (l := l.drop (k + 1)) fun v hv => hT v (List.mem_of_mem_drop hv);have h3 : (tlR l k).length < 900000000 /\ eE (tlR l k) = true := by
  unfold tlR;rw [List.length_drop] at h2;split;refine ⟨by simp only [lc]; omega,?_⟩;simp only [eE,List.all_cons] at ha ⊢; rw [ha]; rfl;exact ⟨by simp,rfl⟩
 have := aBA (g := g) (l.getD k none) (hT _ (bF h)) (tlR l k) h3.1 (tlR_end l k) h3.2;rw [<- aD6 h] at this;exact this
theorem skip_at (l : List Tv) (k : Nat) : SpG g 122 [.c (.bx 0 0),.c (.d (.y 124))] [(0,y6 (S (tlR l k)))] (.c (cB (decide (k + 1 < l.length)))) [(0,y6 (S (rwT (l.drop (k + 1)))))] := by
 have h := qZ (g := g) (tlR l k) 124;rw [(aGQ l k).1,(aGQ l k).2] at h;exact h
theorem aD9 {es : LD} {l : List Tv} (h : es = aS l) (hl : l.length <= 8) (hT : ∀ v,v ∈ l -> bU v) : SpG g 53 [.c (cM 7 es)] [] (.c (cS (S (rwT l)))) [] := by subst h; exact sE l hl hT
theorem mP {l : List Tv} {k : Nat} (h : k < l.length) : aS (l.take k) ++ [TvD (l.getD k none)] = aS (l.take (k + 1)) := by rw [dG none h]; simp [aS]
def zq9 := And.intro @la.{0} (And.intro @lc.{0} (And.intro @lm.{0,0} (And.intro @ln.{0} (@Go.Eng.inR.eq_1))))
abbrev y11 (a0 : LD) : SV := .tup [(false,[cM 7 a0]),(false,[cB true])]
theorem aEB (l : List Tv) (hl : l.length <= 8) (hne : l ≠ []) (hT : ∀ v,v ∈ l -> bU v) :
  SpG g 70 [.c (cS (S (rwT l)))] [] (y11 (aS l)) [] := by
 refine aP 35 Tryz.func70 fun fr hG => ?_;refine zC hG [] [1,0,1] ((S (rwT l)).toList == (S []).toList) (⟨[zS 0 (S (rwT l)),zN 2,zB 3 false],[]⟩) aB (fun hc1 => ?_) (fun hc1 => ?_)
 (try simp only [zq8] at hc1)
 exact absurd hc1 (yI hne)
 (try simp only [zq8] at hc1)
 refine zA hG [] [0,0,1,1,1,1] (⟨[zS 0 (S (rwT l)),zN 2,zB 3 false,zX 4 402 0,zN 5],[(402,y6 (S (rwT l)))]⟩) [(5,9003,61,7)] [] (fun (zz : Nat × LD) => match zz with | (k,es) => (l.length - k,⟨[zS 0 (S (rwT l)),zN 2,zB 3 false,zX 4 402 0,zY 5 9003 0],[(402,y6 (S (rwT (l.drop k)))),(9003,.arr 0 61 7 es)]⟩,k < l.length /\ es = aS (l.take k))) (0,[]) aB ?_ ?_;exact ⟨List.length_pos_iff.2 hne,rfl⟩;rintro ⟨k,es⟩ ⟨hk,hes⟩;have hel : es.length = k := by rw [hes,aS,lm,lt1]; omega
 refine zc hG [] [1,0] (decide (((es.length : Int) : Int) < 8)) aB (fun hc3 => ?_) (fun hc3 => ?_)
 (try simp only [zq8] at hc3)
 refine zC hG [(6,1,.callG (y10 (tvK (l.getD k none)) (S (tvS (l.getD k none))) ([] : LD)) [402] [(0,y6 (S (tlR l k)))])] [1,0,1,0,1] false (⟨[zS 0 (S (rwT l)),zN 2,zB 3 false,zX 4 402 0,zY 5 9003 0,zX 6 705 0],[(402,y6 (S (tlR l k))),(705,y1 (tvK (l.getD k none)) (S (tvS (l.getD k none))) ([] : LD)),(9003,.arr 0 61 7 es)]⟩) (cS1 g (aLJ l hl hT k hk)) (fun hc4 => absurd hc4 (by decide)) (fun _ => ?_);refine zC hG [(10,1,.callG (.c (cB (decide (k + 1 < l.length)))) [402] [(0,y6 (S (rwT (l.drop (k + 1)))))])] [1,1,1,1,0,1] (!(decide (k + 1 < l.length))) (⟨[zS 0 (S (rwT l)),zN 2,zB 3 false,zX 4 402 0,zY 5 9003 0],[(402,y6 (S (rwT (l.drop (k + 1))))),(9003,.arr 0 61 7 (es ++ ([[.i (tvK (l.getD k none)),.s (S (tvS (l.getD k none))),.i 0,.i 0,.i 0,.sl 1 ([] : LD),.sl 1 ([] : LD)]] : LD)))]⟩) (aA (by intros; (try simp only [zq9,aS] at *); omega : (es.length + ([[.i (tvK (l.getD k none)),.s (S (tvS (l.getD k none))),.i 0,.i 0,.i 0,.sl 1 ([] : LD),.sl 1 ([] : LD)]] : LD).length) * (96 + 1) <= 140737488355328) (cS1 g (skip_at l k))) (fun hc5 => ?_) (fun hc5 => ?_)
 (try simp only [zq8] at hc5)
 refine zE hG [] (.exit 0) (⟨[zS 0 (S (rwT l)),zN 2,zB 3 false,zY 5 9003 0],[(9003,.arr 0 61 7 (es ++ ([[.i (tvK (l.getD k none)),.s (S (tvS (l.getD k none))),.i 0,.i 0,.i 0,.sl 1 ([] : LD),.sl 1 ([] : LD)]] : LD)))]⟩) aB rfl ?_;refine zC hG [(11,1,kS (S (rwT l)))] [1,0,1,1,1,1,1] (!((S (rwT l)).toList == (S (rwT l)).toList)) (⟨[zN 2,zB 3 false,zY 5 9003 0],[(9003,.arr 0 61 7 (es ++ ([[.i (tvK (l.getD k none)),.s (S (tvS (l.getD k none))),.i 0,.i 0,.i 0,.sl 1 ([] : LD),.sl 1 ([] : LD)]] : LD)))]⟩) (cS1 g (aD9 (es := es ++ ([[.i (tvK (l.getD k none)),.s (S (tvS (l.getD k none))),.i 0,.i 0,.i 0,.sl 1 ([] : LD),.sl 1 ([] : LD)]] : LD)) (l := l) (by have e := mP hk; rw [tlQ (l := l) (i := k + 1) (by simp at hc5; omega)] at e; rw [hes]; exact e) hl hT)) (fun hc6 => ?_) (fun hc6 => ?_)
 (try simp only [zq8] at hc6)
 simp at hc6
 (try simp only [zq8] at hc6)
 refine zR hG [] [] (y11 (es ++ ([[.i (tvK (l.getD k none)),.s (S (tvS (l.getD k none))),.i 0,.i 0,.i 0,.sl 1 ([] : LD),.sl 1 ([] : LD)]] : LD))) [] aB ?_ ?_;have e : es ++ [TvD (l.getD k none)] = aS l := by rw [hes,mP hk,tlQ (by simp at hc5; omega)]
 exact congrArg (fun x => SV.tup [(false,[C.d (D.sl 7 x)]),(false,[C.d (D.b true)])]) e;rfl
 (try simp only [zq8] at hc5)
 refine zD hG [] (k + 1,es ++ ([[.i (tvK (l.getD k none)),.s (S (tvS (l.getD k none))),.i 0,.i 0,.i 0,.sl 1 (([] : LD)),.sl 1 (([] : LD))]] : LD)) aB ?_ ?_
 (try dsimp only); omega
 exact ⟨by simpa using hc5,by rw [hes]; exact mP hk⟩
 (try simp only [zq8] at hc3)
 exfalso; omega
end Go.Proofs.YtclaplngjmgnoaaGreatDoor
namespace Go.Proofs.YtclaplngjmgnoaaGreatDoor
open Go.RowKit Go.V
open Go.Eng (inR byteAt u8 dN)
variable {g : Gv}
structure It where
 id : Int
 author : Int
 rank : Int
 time : Int
 kind : Int
 input : List Tv
 output : Tv
 prop : List UInt8
 param : List UInt8
 program : List Int
 deriving DecidableEq
def It.z : It := ⟨0,0,0,0,0,[],none,[],[],[]⟩
def ItD (i : It) : List D := [.i i.id,.i i.author,.i i.rank,.i i.time,.i i.kind,.sl 7 (aS i.input),.i (tvK i.output),.s (S (tvS i.output)),.i 0,.i 0,.i 0,.sl 1 [],.sl 1 [],.s (S i.prop),.s (S i.param),.sl 1 (intsD i.program)]
def bI (l : List It) : LD := l.map ItD
structure ItOk (i : It) : Prop where
 id : nOk i.id
 author : nOk i.author
 rank : nOk i.rank
 time : nOk i.time
 kind : nOk i.kind
 len : i.input.length <= 8
 cells : ∀ v,v ∈ i.input -> bU v
 output : bU i.output
 prop : i.prop.length <= 500
 param : i.param.length <= 500
 plen : i.program.length <= 1000
 prog : ∀ n,n ∈ i.program -> nOk n
def wdT (s : List UInt8) : List UInt8 := Lib.itoa (s.length : Int) ++ 58 :: s
def dP (i : It) : List Int := [i.id,i.author,i.rank,i.time,i.kind]
def wsL (i : It) : List (List UInt8) := [rwT i.input,tvT i.output,i.prop,i.param]
def prT (i : It) : List UInt8 := joinL [44] (i.program.map Lib.itoa)
def itP (i : It) : List (List UInt8) := [[105,116,101,109]] ++ (dP i).map Lib.itoa ++ (wsL i).map wdT ++ [prT i]
def itT (i : It) : List UInt8 := joinL [32] (itP i)
def rsT (i : It) (k : Nat) : List UInt8 := joinL [32] ((itP i).drop k)
theorem rB (i : It) : (itP i).length = 11 := rfl
theorem hJ {n : Nat} (h : n <= 1000000) : nOk (n : Int) := ⟨by omega,by omega⟩
theorem aDT {c : Nat} : ∀ {l : List (List UInt8)} {k : Nat},(∀ x,x ∈ l -> x.length <= c) -> lV k l <= (c + k) * l.length
 | [],_,_ => by simp [lV]
 | x :: l,k,h => by
  have h1 := h x (by simp);have h2 := aDT (k := k) fun y hy => h y (List.mem_cons_of_mem x hy);unfold lV at *;simp only [mp1,List.sum_cons,lc,Nat.mul_add,Nat.mul_one];omega
theorem aG4 {i : It} (h : ItOk i) : lV 1 (i.program.map Lib.itoa) <= 15000 := by
 have := aDT (c := 14) (l := i.program.map Lib.itoa) (k := 1) fun x hx => by
  obtain ⟨n,hn,rfl⟩ := mm.1 hx;exact fT (h.prog n hn)
 have h2 := h.plen;rw [lm] at this;omega
theorem aG5 {i : It} (h : ItOk i) : (prT i).length <= 15000 := Nat.le_trans (iQ [44] _) (aG4 h)
theorem aLF {i : It} (h : ItOk i) : ∀ x,x ∈ wsL i -> x.length <= 3300 := by
 intro x hx;simp only [wsL,mc,List.not_mem_nil,or_false] at hx;have h1 := aGS h.cells;have h2 := h.len;have h3 := aGH h.output;have h4 := h.prop;have h5 := h.param;rcases hx with rfl | rfl | rfl | rfl <;> omega
theorem wd_len {i : It} (h : ItOk i) : ∀ x,x ∈ wsL i -> (wdT x).length <= 3320 := by
 intro x hx;have h1 := aLF h x hx;have h2 := fT (hJ (n := x.length) (by omega));simp only [zq0,wdT]; omega
theorem tC {i : It} (h : ItOk i) : ∀ x,x ∈ dP i -> nOk x := by
 intro x hx;simp only [dP,mc,List.not_mem_nil,or_false] at hx;rcases hx with rfl | rfl | rfl | rfl | rfl;exact h.id;exact h.author;exact h.rank;exact h.time;exact h.kind
theorem aHM {i : It} (h : ItOk i) : lV 1 (itP i) <= 200000 := by
 have := aDT (c := 15000) (l := itP i) (k := 1) fun x hx => by
  simp only [itP,List.mem_append,mm,mc,List.not_mem_nil,or_false] at hx;rcases hx with ((rfl | ⟨n,hn,rfl⟩) | ⟨y,hy,rfl⟩) | rfl;decide;have := fT (tC h n hn); omega;have := wd_len h y hy; omega;exact aG5 h
 rw [rB] at this;omega
theorem rA {i : It} (h : ItOk i) : (itT i).length <= 200000 := Nat.le_trans (iQ [32] _) (aHM h)
theorem fQ (i : It) {k : Nat} (h : k < 10) : rsT i k = (itP i).getD k [] ++ 32 :: rsT i (k + 1) := by
 unfold rsT;have e : (itP i).drop k = (itP i).getD k [] :: (itP i).drop (k + 1) := by
  have hk : k < (itP i).length := by rw [rB]; omega
  rw [gd,ge hk]; exact List.drop_eq_getElem_cons hk
 obtain ⟨x,r,hx⟩ : ∃ x r,(itP i).drop (k + 1) = x :: r := by
  cases hd : (itP i).drop (k + 1) with
  | nil => have := congrArg List.length hd; rw [List.length_drop,rB,ln] at this; omega
  | cons x r => exact ⟨x,r,rfl⟩
 rw [e,hx]; simp [joinL]
theorem yK (i : It) : ∀ k,k <= 10 -> (rsT i k).length <= (itT i).length
 | 0,_ => lr _
 | k + 1,h => by
  have := yK i k (by omega);rw [fQ i (by omega)] at this;simp only [zq0] at this;omega
theorem rsT_end (i : It) : rsT i 10 = prT i := rfl
theorem iR (i : It) : itT i = [105,116,101,109,32] ++ rsT i 1 := fQ i (k := 0) (by decide)
theorem itT_ne (i : It) : itT i ≠ [] := by rw [iR]; simp
theorem mH {a r : List UInt8} {c : UInt8} (h : ∀ x,x ∈ a -> ¬ x = c) : Lib.cut (a ++ c :: r) [c] = (a,r,true) := by
 rw [Lib.cut,tB h,if_pos (by omega),Int.toNat_natCast];simp
theorem oJ (i : It) : SpG g 65 [.c (cS (S (itT i))),.c (cS (S [105,116,101,109,32]))] [] (.tup [(false,[cS (S (rsT i 1))]),(false,[cB true])]) [] := by
 have h := aAR (g := g) (itT i) [105,116,101,109,32];have e : Lib.hasPrefix (itT i) [105,116,101,109,32] = true := by
  rw [iR,Lib.hasPrefix,List.isPrefixOf_iff_prefix]; exact List.prefix_append _ _
 rw [Lib.trimPrefix,e,if_pos rfl] at h;have e2 : (itT i).drop ([105,116,101,109,32] : List UInt8).length = rsT i 1 := by rw [iR]; exact List.drop_left
 rw [e2] at h;exact h
abbrev y12 (a0 : ByteArray) (a1 : ByteArray) : SV := .tup [(false,[cS a0]),(false,[cS a1]),(false,[cB true])]
theorem cut_num {i : It} (h : ItOk i) {k : Nat} (hk : k < 5) : SpG g 67 [.c (cS (S (rsT i (k + 1)))),.c (cS (S [32]))] [] (y12 (S (Lib.itoa ((dP i).getD k 0))) (S (rsT i (k + 2)))) [] := by
 have hl := rA h;have hr := yK i (k + 1) (by omega);have hc := aAQ (g := g) (rsT i (k + 1)) [32] (by omega);have e : (itP i).getD (k + 1) [] = Lib.itoa ((dP i).getD k 0) := by
  match k,hk with
  | 0,_ => rfl
  | 1,_ => rfl
  | 2,_ => rfl
  | 3,_ => rfl
  | 4,_ => rfl
 have := fQ i (k := k + 1) (by omega);rw [e] at this;rw [this] at hc ⊢;rw [mH (fA (.inl rfl))] at hc;exact hc
def wrT (i : It) (k : Nat) : List UInt8 := (wsL i).getD k [] ++ 32 :: rsT i (k + 7)
theorem cut_wd {i : It} (h : ItOk i) {k : Nat} (hk : k < 4) : SpG g 67 [.c (cS (S (rsT i (k + 6)))),.c (cS (S [58]))] [] (y12 (S (Lib.itoa (((wsL i).getD k []).length : Int))) (S (wrT i k))) [] := by
 have hl := rA h;have hr := yK i (k + 6) (by omega);have hc := aAQ (g := g) (rsT i (k + 6)) [58] (by omega);have e : (itP i).getD (k + 6) [] = wdT ((wsL i).getD k []) := by
  match k,hk with
  | 0,_ => rfl
  | 1,_ => rfl
  | 2,_ => rfl
  | 3,_ => rfl
 have := fQ i (k := k + 6) (by omega);rw [e] at this;have e2 : wdT ((wsL i).getD k []) ++ 32 :: rsT i (k + 6 + 1) = Lib.itoa (((wsL i).getD k []).length : Int) ++ 58 :: wrT i k := by simp [wdT,wrT]
 rw [e2] at this;rw [this] at hc ⊢;rw [mH (fA (.inr (.inl rfl)))] at hc;exact hc
theorem wr_take (i : It) (k : Nat) : (S (wrT i k)).extract 0 (((wsL i).getD k []).length : Int).toNat = S ((wsL i).getD k []) := by
 rw [g0,wrT,Int.toNat_natCast]; simp
theorem wr_drop (i : It) (k : Nat) : (S (wrT i k)).extract ((((wsL i).getD k []).length : Int) + 1).toNat (S (wrT i k)).size = S (rsT i (k + 7)) := by
 have e : ((((wsL i).getD k []).length : Int) + 1).toNat = ((wsL i).getD k []).length + 1 := by omega
 rw [e,kO,wrT,<- List.drop_drop,List.drop_left]; rfl
theorem rL {i : It} (h : ItOk i) {k : Nat} (hk : k < 4) : ((wsL i).getD k []).length <= 3300 := aLF h _ (bF (by simpa [wsL] using hk))
theorem wr_len {i : It} (h : ItOk i) {k : Nat} (hk : k < 4) : (wrT i k).length <= 210000 := by
 have h1 := rL h hk;have h2 := rA h;have h3 := yK i (k + 7) (by omega);simp only [zq0,wrT]; omega
theorem aMH {f : FuncId} {ins : List SV} {args : List Value} {xs : List Value} {e : TypeId} (hi : tP ins = some args) (h1 : ∀ x ∈ xs,x.oneCell' = true) (hn : xs.length <= maxLen)
  (h : ∀ w : World,(∀ g' cs,(g',cs) ∈ Gl g -> ∃ ty fz,w.heap[g']? = some (.cells cs.toArray ty fz)) -> Calls Tryz.prog f args.toArray w fun e' w' => e' = .returned (.slice (some ⟨w.heap.size,0,none⟩) xs.length xs.length) /\ w' = w.alloc (.cells xs.toArray e)) :
  V.Spec Tryz.prog (Gl g) f ins [] (.c (.ar 100 0)) [(100,.arr 0 ⟨e,[]⟩ 1 (xs.map fun x => [.v x]))] := by
 intro fr w pl as0 hw hG m ha;obtain ⟨hGG,_,_,_⟩ := hG;rw [tO hi ha];refine Calls.mono (h w fun g' cs hg => by rw [<- hw]; exact (m.frOk.glob g' cs (by rw [hGG]; exact hg)).1) ?_;rintro e' w' ⟨rfl,rfl⟩;have hfl : ∀ xs : List Value,(xs.map fun x => [D.v x]).flatten = xs.map D.v := by
  intro xs
  induction xs with
  | nil => rfl
  | cons x r ih => simp only [mp1,List.flatten_cons,ih]; rfl
 obtain ⟨pl',m',L,hA⟩ := m.newArr (i := 100) (e := ⟨e,[]⟩) (sz := 1) (es := xs.map fun x => [.v x]) (xs := xs) (A := some ⟨w.heap.size,0,none⟩) (cap := xs.length) rfl (w' := w.alloc (.cells xs.toArray e)) ⟨rfl,rfl,rfl,by simp,fun k hk _ => Below.heap_alloc _ _ _ hk⟩
  ⟨by simp,.inr ⟨w.heap.size,xs.length,xs.toArray,by simp,zl _,heap_alloc_new w _,by simp,hn,by simp,by simp⟩⟩
  (fun ad h => by injection h with h; rw [<- h]; exact lr _) (by rw [hfl xs]; exact AllO.of ⟨by simp,fun j d x hd hx => by
   simp only [List.getElem?_map,me] at hd;obtain ⟨y,hy,rfl⟩ := hd;rw [hy] at hx;simp only [oIQ] at hx;subst hx;exact .v _ (h1 _ (List.mem_of_getElem? hy))⟩) (fun ds hd => by
   obtain ⟨x,_,rfl⟩ := mm.1 hd;rfl)
 have hown : upd (lookO []) 100 (.arr 0 ⟨e,[]⟩ 1 (xs.map fun x => [.v x])) = lookO [(100,.arr 0 ⟨e,[]⟩ 1 (xs.map fun x => [.v x]))] := by rw [aF]
 rw [hown] at m';exact ⟨_,pl',rfl,m',0,⟨e,[]⟩,1,_,rfl,lr _,fun _ => by rw [hA]; simp,rfl⟩
theorem aIY (s p : ByteArray) (hs : s.size < 4294967281) (h1 : 1 <= p.size) :
  V.Spec Tryz.prog (Gl g) 72 [.c (.d (.v (.string s))),.c (.d (.v (.string p)))] [] (.c (.ar 100 0)) [(100,.arr 0 ⟨9,[]⟩ 1 (((Lib.splitB p 0 (Lib.countB s p) s).map Value.string).map fun x => [.v x]))] := by
 have hl : (Lib.splitB p 0 (Lib.countB s p) s).length = Lib.countB s p + 1 := Lib.splitB_all p h1 0 _ s rfl;have hc := Lib.countB_le p h1 s.size s (lr _);refine aMH (args := [.string s,.string p]) rfl (fun x hx => by obtain ⟨y,_,rfl⟩ := mm.1 hx; rfl) (by rw [lm,hl]; unfold maxLen; omega) fun w hG => ?_;obtain ⟨ty,fz,h0⟩ := hG 0 [.int .i64 g.maxLen] (by simp [Gl]);have := Tryz.strings_Split s p g.maxLen w hs (by rw [Lib.cell_of_heap h0]; rfl) h1;rw [lm,hl];exact this
theorem kH {c : UInt8} : ∀ (l : List (List UInt8)) (x : List UInt8),(∀ y,y ∈ x :: l -> ∀ b,b ∈ y -> ¬ b = c) -> (joinL [c] (x :: l)).count c = l.length
 | [],x,h => by
  simp only [joinL,ln];exact List.count_eq_zero.2 fun hm => h x (by simp) c hm rfl
 | y :: r,x,h => by
  have ih := kH r y fun z hz => h z (by simp only [mc] at hz ⊢; exact .inr hz);have h0 : x.count c = 0 := List.count_eq_zero.2 fun hm => h x (by simp) c hm rfl;simp only [joinL,List.count_append,h0,ih,lc];simp; omega
theorem jU {c : UInt8} : ∀ (l : List (List UInt8)) (x : List UInt8),(∀ y,y ∈ x :: l -> ∀ b,b ∈ y -> ¬ b = c) -> Lib.splitB (S [c]) 0 l.length (S (joinL [c] (x :: l))) = (x :: l).map S
 | [],x,h => by simp [Lib.splitB,joinL]
 | y :: r,x,h => by
  have ih := jU r y fun z hz => h z (by simp only [mc] at hz ⊢; exact .inr hz);have e : joinL [c] (x :: y :: r) = x ++ c :: joinL [c] (y :: r) := by simp [joinL]
  have hi : Lib.indexB (S (x ++ c :: joinL [c] (y :: r))) (S [c]) = (x.length : Int) := by
   show Lib.index (S _).data.toList (S [c]).data.toList = _;rw [cP,cP];exact tB (h x (by simp))
  rw [e,lc,Lib.splitB_hit _ _ _ _ _ hi,g0];have h1 : (S [c]).size = 1 := rfl;rw [h1,kO,Nat.add_zero,<- List.drop_drop,List.drop_left];show _ :: Lib.splitB (S [c]) 0 r.length (S (joinL [c] (y :: r))) = _;rw [ih];simp
theorem aL8 {i : It} (h : ItOk i) (hp : i.program ≠ []) : SpG g 72 [.c (cS (S (prT i))),.c (cS (S [44]))] [] (.c (.ar 100 0)) [(100,.arr 0 9 1 (strs (i.program.map Lib.itoa)))] := by
 have hl := aG5 h;have := aIY (g := g) (S (prT i)) (S [44]) (by rw [aQ]; omega) (by decide);obtain ⟨x,r,hx⟩ : ∃ x r,i.program.map Lib.itoa = x :: r := by
  cases he : i.program with
  | nil => exact absurd he hp
  | cons y s => exact ⟨_,_,rfl⟩
 have hno : ∀ y,y ∈ x :: r -> ∀ b,b ∈ y -> ¬ b = 44 := by
  intro y hy b hb;rw [<- hx] at hy;obtain ⟨n,_,rfl⟩ := mm.1 hy;exact fA (.inr (.inr rfl)) b hb
 have hc : Lib.countB (S (prT i)) (S [44]) = r.length := by
  show Lib.count (S _).data.toList (S [44]).data.toList = _;rw [cP,cP,Lib.count_one,prT,hx];exact kH r x hno
 have hs : Lib.splitB (S [44]) 0 r.length (S (prT i)) = (x :: r).map S := by
  rw [prT,hx]; exact jU r x hno
 rw [hc,hs,<- hx] at this;have e : (((i.program.map Lib.itoa).map S).map Value.string).map (fun x => [D.v x]) = strs (i.program.map Lib.itoa) := by
  rw [List.map_map,List.map_map]; rfl
 rw [e] at this;exact this
theorem noTxt {i : It} (hi : ItOk i) (h : (i.input.length : Int) > 8 \/ ((i.input.length : Int) > 0 /\ rwT i.input = [])) : False := by
 have := hi.len;rcases h with h | ⟨h,h2⟩
 omega;exact yI (l := i.input) (by intro e; rw [e] at h; simp at h) h2
theorem aEC {i : It} (h : prT i = []) (hp : i.program ≠ []) : False := by
 unfold prT at h;cases he : i.program with
 | nil => exact hp he
 | cons n r =>
  rw [he] at h;cases r with
  | nil => exact itoa_ne n (by simpa [joinL] using h)
  | cons m s => simp [joinL] at h
def iD := And.intro @lm.{0,0} (And.intro @lS (And.intro @aIJ (And.intro @blS (And.intro @intsD.eq_1 (@strs.eq_1)))))
def rK := And.intro @la.{0} (And.intro @lc.{0} (And.intro @lm.{0,0} (And.intro @ln.{0} (And.intro @aQ (And.intro @Go.Eng.inR.eq_1 (And.intro @intsD.eq_1 (And.intro @maxLen.eq_1 (@strs.eq_1))))))))
abbrev zTQ (i : It) : List C := [cI (i.id),cI (i.author),cI (i.rank),cI (i.time),cI (i.kind),cM 7 (aS (i.input)),cI (tvK (i.output)),cS (S (tvS (i.output))),cI 0,cI 0,cI 0,cM 1 ([] : LD),cM 1 ([] : LD),cS (S i.prop),cS (S i.param),cM 1 (intsD (i.program))]
theorem pH (i : It) (hi : ItOk i) :
  SpG g 31 [.agg (zTQ i)] [] (.c (cS (S (itT i)))) [] := by
 have hlen := hi.len;have hil := hi.cells;have hid : (dP i).length = 5 := rfl;have hws : (wsL i).length = 4 := rfl;refine aP 101 Tryz.func31 fun fr hG => ?_;refine zC hG [(1,2,kS (S (rwT i.input))),(2,17,kB true)] [1,0,1,1] (((decide ((((aS (i.input)).length : Int) : Int) > 8)) || ((decide ((((aS (i.input)).length : Int) : Int) > 0)) && ((S (rwT i.input)).toList == (S []).toList))) && true) (⟨[zX 1 100 0,zS 2 (S []),zS 3 (S (rwT i.input))],[(100,.box 63 (zTQ i))]⟩) (cS2 g (sE i.input hi.len hi.cells) (aC (fun (hg1 : ((decide ((((aS (i.input)).length : Int) : Int) > 8)) || ((decide ((((aS (i.input)).length : Int) : Int) > 0)) && ((S (rwT i.input)).toList == (S []).toList))) = false) => (mV (i.output) (by exact hi.output) : SpG g _ _ _ _ _)))) (fun hc1 => ?_) (fun hc1 => ?_)
 (try simp only [iD,aS] at hc1)
 exact (noTxt hi (by simpa using hc1)).elim
 (try simp only [iD,aS] at hc1)
 refine zL hG [] [0,1,0,1,1,1,1] (fun (zz : Nat × LD) => match zz with | (k,es) => (5 - k,⟨[zX 1 100 0,zS 2 (S []),zS 3 (S (rwT i.input)),zY 4 500 0,zY 46 610 0,zI 47 ((intsD (dP i)).length : Int),zI 48 (k : Int)],[(100,.box 63 (zTQ i)),(500,.arr 0 9 1 es),(610,.arr 0 3 1 (intsD (dP i)))]⟩,k <= 5 /\ es = strs ([[105,116,101,109]] ++ ((dP i).take k).map Lib.itoa))) (0,strs [[105,116,101,109]]) aB ?_ ?_;exact ⟨zl _,rfl⟩;rintro ⟨k,es⟩ ⟨hk,hes⟩;have hel : es.length = 1 + k := by rw [hes,strs,lm,la,lm,lt1,show (dP i).length = 5 from rfl]; simp only [zq5]; omega
 have hn : k < 5 -> nOk ((dP i).getD k 0) := fun h => tC hi _ (bF h);refine zc hG [] [0,1] (decide ((k : Int) < ((intsD (dP i)).length : Int))) aB (fun hc3 => ?_) (fun hc3 => ?_)
 (try simp only [iD,aS] at hc3)
 refine zD hG [(7,1,.elem (intD ((dP i).getD k 0))),(8,2,kS (S (Lib.itoa ((dP i).getD k 0))))] (k + 1,es ++ [[D.s (S (Lib.itoa ((dP i).getD k 0)))]]) (aA (by intros; (try simp only [rK,aS,sa] at *); omega : (0 : Int) <= (k : Int) /\ (k : Int) < ((intsD (dP i)).length : Int)) (aA (by intros; exact fN (f := intD) (l := dP i) 0 (by (try simp only [zq5,dP]); omega) : (intsD (dP i))[k]? = some (intD ((dP i).getD k 0))) (cS2 g (nR ((dP i).getD k 0) (by have := (hn (by omega)).1; omega) (by have := (hn (by omega)).2; omega)) (aA (by intros; (try simp only [rK,aS,sa] at *); omega : (es.length + ([[.s (S (Lib.itoa ((dP i).getD k 0)))]] : LD).length) * (16 + 1) <= 140737488355328) (aC (by intros; (try simp only [rK,aS,sa] at *); omega : inR ((k : Int) + 1))))))) ?_ ?_
 (try dsimp only); omega
 refine ⟨by omega,?_⟩;rw [hes,dG 0 (show k < (dP i).length by omega),List.map_append,<- List.append_assoc,List.map_singleton,oU]
 (try simp only [iD,aS] at hc3)
 refine zE hG [] (.exit 0) (⟨[zX 1 100 0,zS 2 (S []),zS 3 (S (rwT i.input)),zY 4 500 0],[(100,.box 63 (zTQ i)),(500,.arr 0 9 1 es)]⟩) aB rfl ?_;refine zL hG [(10,3,kS (S (tvT i.output)))] [0,1,0,1,1,1,1,1] (fun (zz : Nat × LD) => match zz with | (m,et) => (4 - m,⟨[zX 1 100 0,zS 2 (S []),zY 4 500 0,zY 66 1108 0,zI 67 ((strs (wsL i)).length : Int),zI 68 (m : Int)],[(100,.box 63 (zTQ i)),(500,.arr 0 9 1 et),(1108,.arr 0 9 1 (strs (wsL i)))]⟩,m <= 4 /\ et = strs ([[105,116,101,109]] ++ (dP i).map Lib.itoa ++ ((wsL i).take m).map wdT))) (0,es) (cS1 g (xY i.output hi.output)) ?_ ?_;have h5 : k = 5 := by omega
 subst h5;exact ⟨zl _,by rw [hes]; rfl⟩;rintro ⟨m,et⟩ ⟨hm,het⟩;have htl : et.length = 6 + m := by rw [het,strs,lm,la,la,lm,lm,lt1,show (dP i).length = 5 from rfl,show (wsL i).length = 4 from rfl]; simp only [zq5]; omega
 have hw : m < 4 -> ((wsL i).getD m []).length <= 3300 := fun h => rL hi h;have hw2 : m < 4 -> (Lib.itoa (((wsL i).getD m []).length : Int)).length <= 14 := fun h => fT (hJ (by have := hw h; omega));refine zc hG [] [0,1] (decide ((m : Int) < ((strs (wsL i)).length : Int))) aB (fun hc5 => ?_) (fun hc5 => ?_)
 (try simp only [iD,aS] at hc5)
 refine zD hG [(12,1,.elem (d9 ((wsL i).getD m []))),(13,3,kS (S (Lib.itoa ((S ((wsL i).getD m [])).size : Int))))] (m + 1,et ++ [[D.s ((S (Lib.itoa ((S ((wsL i).getD m [])).size : Int)) ++ S [58]) ++ S ((wsL i).getD m []))]]) (aA (by intros; (try simp only [rK,aS,sa] at *); omega : (0 : Int) <= (m : Int) /\ (m : Int) < ((strs (wsL i)).length : Int)) (aA (by intros; exact fN (f := d9) (l := wsL i) [] (by (try simp only [zq5,wsL]); omega) : (strs (wsL i))[m]? = some (d9 ((wsL i).getD m []))) (cS2 g (nR ((S ((wsL i).getD m [])).size : Int) (by rw [aQ]; have := hw (by omega); omega) (by rw [aQ]; have := hw (by omega); omega)) (aA (by intros; (try simp only [rK,aS,sa] at *); omega : (S (Lib.itoa ((S ((wsL i).getD m [])).size : Int))).size + (S [58]).size <= maxLen) (aA (by intros; (try simp only [rK,aS,sa] at *); omega : ((S (Lib.itoa ((S ((wsL i).getD m [])).size : Int))) ++ (S [58])).size + (S ((wsL i).getD m [])).size <= maxLen) (aA (by intros; (try simp only [rK,aS,sa] at *); omega : (et.length + ([[.s (((S (Lib.itoa ((S ((wsL i).getD m [])).size : Int))) ++ (S [58])) ++ (S ((wsL i).getD m [])))]] : LD).length) * (16 + 1) <= 140737488355328) (aC (by intros; (try simp only [rK,aS,sa] at *); omega : inR ((m : Int) + 1))))))))) ?_ ?_
 (try dsimp only); omega
 refine ⟨by omega,?_⟩;rw [het,dG [] (show m < (wsL i).length by omega),List.map_append,<- List.append_assoc,List.map_singleton,oU,eU,eU,aQ];simp [wdT]
 (try simp only [iD,aS] at hc5)
 refine zE hG [] (.exit 2) (⟨[zX 1 100 0,zS 2 (S []),zY 4 500 0],[(100,.box 63 (zTQ i)),(500,.arr 0 9 1 et)]⟩) aB rfl ?_;refine zA hG [] [0,1,0,1,1,1,1,1,1,1] (⟨[zS 2 (S []),zY 4 500 0,zN 9,zM 83 1 (intsD (i.program)),zI 84 ((intsD (i.program)).length : Int),zI 85 0],[(500,.arr 0 9 1 et)]⟩) [(9,9003,9,1)] [] (fun (zz : Nat × LD) => match zz with | (q,eu) => (i.program.length - q,⟨[zS 2 (S []),zY 4 500 0,zY 9 9003 0,zM 83 1 (intsD (i.program)),zI 84 ((intsD (i.program)).length : Int),zI 85 (q : Int)],[(500,.arr 0 9 1 et),(9003,.arr 0 9 1 eu)]⟩,q <= i.program.length /\ eu = strs ((i.program.take q).map Lib.itoa))) (0,[]) aB ?_ ?_;exact ⟨zl _,rfl⟩;rintro ⟨q,eu⟩ ⟨hq,heu⟩;have hul : eu.length = q := by rw [heu,strs,lm,lm,lt1]; omega
 have hpn : q < i.program.length -> nOk (i.program.getD q 0) := fun h => hi.prog _ (bF h);have hpl := hi.plen;refine zc hG [] [0,1] (decide ((q : Int) < ((intsD (i.program)).length : Int))) aB (fun hc7 => ?_) (fun hc7 => ?_)
 (try simp only [iD,aS] at hc7)
 refine zD hG [(18,0,.elem (intD ((i.program).getD q 0))),(19,2,kS (S (Lib.itoa ((i.program).getD q 0))))] (q + 1,eu ++ [[D.s (S (Lib.itoa (i.program.getD q 0)))]]) (aA (by intros; exact cE _ (by omega) (by (try simp only [intsD,lm] at *); omega) : (0 : Int) <= (q : Int) /\ (intsD (i.program))[q]? = some (intD ((i.program).getD q 0))) (cS2 g (nR ((i.program).getD q 0) (by have := (hpn (by omega)).1; omega) (by have := (hpn (by omega)).2; omega)) (aA (by intros; (try simp only [rK,aS,sa] at *); omega : (eu.length + ([[.s (S (Lib.itoa ((i.program).getD q 0)))]] : LD).length) * (16 + 1) <= 140737488355328) (aC (by intros; (try simp only [rK,aS,sa] at *); omega : inR ((q : Int) + 1)))))) ?_ ?_
 (try dsimp only); omega
 refine ⟨by omega,?_⟩;rw [heu]; exact (u7 (f := Lib.itoa) 0 (by omega)).symm
 (try simp only [iD,aS] at hc7)
 refine zE hG [] (.exit 4) (⟨[zS 2 (S []),zY 4 500 0,zY 9 9003 0],[(500,.arr 0 9 1 et),(9003,.arr 0 9 1 eu)]⟩) aB rfl ?_;exact zr hG [(21,2,kS (S (prT i))),(21,5,kS (S (itT i)))] [] (cS2 g (zO (es := eu) (l := i.program.map Lib.itoa) (by rw [heu,tlQ (by omega)]) [44] (Nat.le_trans (aG4 hi) (by decide)) (by rw [lm]; omega)) (aA (by intros; (try simp only [rK,aS,sa] at *); omega : (et.length + ([[.s (S (prT i))]] : LD).length) * (16 + 1) <= 140737488355328) (cS1 g (zO (es := et ++ ([[.s (S (prT i))]] : LD)) (l := itP i) (by rw [het,tlQ (by simp [wsL]; omega),itP,oU]) [32] (Nat.le_trans (aHM hi) (by decide)) (by rw [rB]; decide)))))
theorem aM3 (i : It) (hi : ItOk i) (k : Nat) (hk : k < 5) :
  SpG g 66 [.c (.bx 0 0),.c (.bx 1 0)] [(0,.box 9 [cS (S (rsT i (k + 1)))]),(1,.box 4 [cB true])] (.c (cI ((dP i).getD k 0))) [(1,.box 4 [cB true]),(0,.box 9 [cS (S (rsT i (k + 2)))])] := by
 refine aP 23 Tryz.func66 fun fr hG => ?_;exact zr hG [(2,1,kC (y12 (S (Lib.itoa ((dP i).getD k 0))) (S (rsT i (k + 2))))),(3,1,kC (y4 ((dP i).getD k 0)))] [] (cS2 g (cut_num hi hk) (cS1 g (kM ((dP i).getD k 0) (tC hi _ (bF (by simpa [dP] using hk))))))
theorem fJ (i : It) (hi : ItOk i) (k : Nat) (hk : k < 5) :
  SpG g 66 [.c (.bx 0 0),.c (.bx 1 0)] [(0,.box 9 [cS (S (rsT i (k + 1)))]),(1,.box 4 [cB true])] (.c (cI ((dP i).getD k 0))) [(0,.box 9 [cS (S (rsT i (k + 2)))]),(1,.box 4 [cB true])] := by
 refine bX (aM3 i hi k hk) ?_
 first | rfl | (funext i; simp only [aF,upd]; ((repeat' split) <;> first | rfl | (exfalso; omega)))
def qN := And.intro @aQ (@Go.Eng.inR.eq_1)
theorem aJH (i : It) (hi : ItOk i) (k : Nat) (hk : k < 4) :
  SpG g 69 [.c (.bx 0 0),.c (.bx 1 0)] [(0,.box 9 [cS (S (rsT i (k + 6)))]),(1,.box 4 [cB true])] (.c (cS (S ((wsL i).getD k [])))) [(0,.box 9 [cS (S (rsT i (k + 7)))]),(1,.box 4 [cB true])] := by
 have hw := rL hi hk;have hr := wr_len hi hk;have hwl : (wrT i k).length = ((wsL i).getD k []).length + 1 + (rsT i (k + 7)).length := by simp only [zq0,wrT]; omega
 refine aP 38 Tryz.func69 fun fr hG => ?_;refine zC hG [(2,1,kC (y12 (S (Lib.itoa (((wsL i).getD k []).length : Int))) (S (wrT i k)))),(3,1,kC (y4 (((wsL i).getD k []).length : Int)))] [1,0,1,1,1,1] ((decide (((((wsL i).getD k []).length : Int) : Int) < 0)) || (decide (((((wsL i).getD k []).length : Int) : Int) >= ((S (wrT i k)).size : Int)))) (⟨[zX 0 0 0,zX 1 1 0,zS 2 (S []),zI 4 (((wsL i).getD k []).length : Int)],[(0,.box 9 [cS (S (wrT i k))]),(1,.box 4 [cB true])]⟩) (cS2 g (cut_wd hi hk) (cS1 g (kM (((wsL i).getD k []).length : Int) (hJ (by omega))))) (fun hc1 => ?_) (fun hc1 => ?_)
 (try simp only [blS,aQ] at hc1)
 exfalso; omega
 (try simp only [blS,aQ] at hc1)
 refine zR hG [] [] (.c (cS ((S (wrT i k)).extract 0 (((wsL i).getD k []).length)))) [(0,.box 9 [cS ((S (wrT i k)).extract ((((wsL i).getD k []).length : Int) + 1 : Int).toNat (S (wrT i k)).size)]),(1,.box 4 [cB true])] (aA (by intros; (try simp only [qN] at *); omega : (0 : Int) <= 0 /\ (0 : Int) <= (((wsL i).getD k []).length : Int) /\ (((wsL i).getD k []).length : Int) <= ((S (wrT i k)).size : Int)) (aA (by intros; (try simp only [qN] at *); omega : inR ((((wsL i).getD k []).length : Int) + 1)) (aC (by intros; (try simp only [qN] at *); omega : (0 : Int) <= ((((wsL i).getD k []).length : Int) + 1) /\ ((((wsL i).getD k []).length : Int) + 1 : Int) <= ((S (wrT i k)).size : Int) /\ ((S (wrT i k)).size : Int) <= ((S (wrT i k)).size : Int))))) ?_ ?_;exact congrArg (fun x => SV.c (C.d (D.s x))) (wr_take i k);rw [<- wr_drop i k]
theorem fR (i : It) (hi : ItOk i) (k : Nat) (hk : k < 4) :
  SpG g 69 [.c (.bx 0 0),.c (.bx 1 0)] [(0,.box 9 [cS (S (rsT i (k + 6)))]),(1,.box 4 [cB true])] (.c (cS (S ((wsL i).getD k [])))) [(0,.box 9 [cS (S (rsT i (k + 7)))]),(1,.box 4 [cB true])] := by
 refine bX (aJH i hi k hk) ?_
 first | rfl | (funext i; simp only [aF,upd]; ((repeat' split) <;> first | rfl | (exfalso; omega)))
theorem wC {i : It} (hi : ItOk i) {es : LD} (h : es = intsD i.program) : SpG g 31 [.agg [cI ((i).id),cI ((i).author),cI ((i).rank),cI ((i).time),cI ((i).kind),cM 7 (aS ((i).input)),cI (tvK ((i).output)),cS (S (tvS ((i).output))),cI 0,cI 0,cI 0,cM 1 ([] : LD),cM 1 ([] : LD),cS (S (i).prop),cS (S (i).param),cM 1 (es)]] [] (.c (cS (S (itT i)))) [] := by subst h; exact pH i hi
theorem p9 (l : List Tv) (hl : l.length <= 8) (hT : ∀ v,v ∈ l -> bU v) : SpG g 70 [.c (cS (S (rwT l)))] [] (y11 (aS l)) [] := by
 by_cases h : l = [];subst h; exact oW [[some 7],[]] aB2;exact aEB l hl h hT
theorem atoi_at {i : It} (hi : ItOk i) {q : Nat} (h : q < i.program.length) : SpG g 68 [.c (cS (S ((i.program.map Lib.itoa).getD q [])))] [] (.tup [(false,[cI (i.program.getD q 0)]),(false,[.d (.v .nilIface)])]) [] := by
 have e : (i.program.map Lib.itoa).getD q [] = Lib.itoa (i.program.getD q 0) := by simp [h]
 rw [e]; exact kM (i.program.getD q 0) (hi.prog _ (bF h))
abbrev y13 : Ob := .box 63 [cI 0,cI 0,cI 0,cI 0,cI 0,cN,cI 0,cS (S []),cI 0,cI 0,cI 0,cN,cN,cS (S []),cS (S []),cN]
abbrev e1z : bR := [zX 8 511 0,zB 11 true,zB 12 true]
theorem read_no (i : It) (hi : ItOk i) (hp : i.program = []) :
  SpG g 38 [.c (cS (S (itT i)))] [] (.tup [(true,[cI (i.id),cI (i.author),cI (i.rank),cI (i.time),cI (i.kind),cM 7 (aS (i.input)),cI (tvK (i.output)),cS (S (tvS (i.output))),cI 0,cI 0,cI 0,cM 1 ([] : LD),cM 1 ([] : LD),cS (S i.prop),cS (S i.param),cN]),(false,[cB true])]) [] := by
 refine aP 98 Tryz.func38 fun fr hG => ?_;refine zC hG [(1,1,kC (.tup [(false,[cS (S (rsT i 1))]),(false,[cB true])])),(4,1,.call (.c (cI (i.id))) [] [[.s (S (rsT i 2))],[.b true]]),(4,3,.call (.c (cI (i.author))) [] [[.s (S (rsT i 3))],[.b true]]),(4,5,.call (.c (cI (i.rank))) [] [[.s (S (rsT i 4))],[.b true]]),(4,7,.call (.c (cI (i.time))) [] [[.s (S (rsT i 5))],[.b true]]),(4,9,.call (.c (cI (i.kind))) [] [[.s (S (rsT i 6))],[.b true]]),(5,1,.call (.c (cS (S (rwT i.input)))) [] [[.s (S (rsT i 7))],[.b true]]),(5,3,.call (.c (cS (S (tvT i.output)))) [] [[.s (S (rsT i 8))],[.b true]]),(6,1,.call (.c (cS (S i.prop))) [] [[.s (S (rsT i 9))],[.b true]]),(6,3,.call (.c (cS (S i.param))) [] [[.s (S (rsT i 10))],[.b true]])] [1,0,1,1,1,1,1,1,1] false (⟨[zS 0 (S (itT i))] ++ e0z ++ [zX 4 205 0,zX 8 511 0,zS 9 (S (rwT i.input)),zS 10 (S (tvT i.output))],[(100,y13),(205,.box 9 [cS (S (rsT i 10))]),(511,.box 63 [cI (i.id),cI (i.author),cI (i.rank),cI (i.time),cI (i.kind),cN,cI 0,cS (S []),cI 0,cI 0,cI 0,cN,cN,cS (S i.prop),cS (S i.param),cN])]⟩) (cS2 g (oJ i) (cS2 g (fJ i hi 0 (by decide)) (cS2 g (fJ i hi 1 (by decide)) (cS2 g (fJ i hi 2 (by decide)) (cS2 g (fJ i hi 3 (by decide)) (cS2 g (fJ i hi 4 (by decide)) (cS2 g (fR i hi 0 (by decide)) (cS2 g (fR i hi 1 (by decide)) (cS2 g (fR i hi 2 (by decide)) (cS1 g (fR i hi 3 (by decide)))))))))))) (fun hc1 => absurd hc1 (by decide)) (fun _ => ?_);refine zC hG [(10,1,kC (y11 (aS (i.input)))),(11,1,kC (y10 (tvK (i.output)) (S (tvS (i.output))) ([] : LD)))] [1,0,1,1,1,1,1,1,1,1,1,1,1] (!((S (rsT i 10)).toList == (S []).toList)) (⟨[zS 0 (S (itT i))] ++ e0z ++ [zX 4 205 0] ++ e1z,[(100,y13),(205,.box 9 [cS (S (rsT i 10))]),(511,.box 63 [cI (i.id),cI (i.author),cI (i.rank),cI (i.time),cI (i.kind),cM 7 (aS (i.input)),cI (tvK (i.output)),cS (S (tvS (i.output))),cI 0,cI 0,cI 0,cM 1 ([] : LD),cM 1 ([] : LD),cS (S i.prop),cS (S i.param),cN])]⟩) (cS2 g (p9 i.input hi.len hi.cells) (cS1 g (aG2 i.output hi.output))) (fun hc2 => ?_) (fun hc2 => ?_)
 (try simp only [zq8] at hc2)
 simp [rsT_end,prT,hp,joinL] at hc2
 (try simp only [zq8] at hc2)
 refine zC hG [(21,8,kS (S (itT i)))] [1,0,1,1,1,1,1,1,1,1,1,1,1,1] (!((S (itT i)).toList == (S (itT i)).toList)) (⟨e0z ++ [zX 8 511 0],[(100,y13),(511,.box 63 [cI (i.id),cI (i.author),cI (i.rank),cI (i.time),cI (i.kind),cM 7 (aS (i.input)),cI (tvK (i.output)),cS (S (tvS (i.output))),cI 0,cI 0,cI 0,cM 1 ([] : LD),cM 1 ([] : LD),cS (S i.prop),cS (S i.param),cN])]⟩) (aC (fun (hg1 : false = false) => (oX (ins := [.agg [cI (i.id),cI (i.author),cI (i.rank),cI (i.time),cI (i.kind),cM 7 (aS (i.input)),cI (tvK (i.output)),cS (S (tvS (i.output))),cI 0,cI 0,cI 0,cM 1 ([] : LD),cM 1 ([] : LD),cS (S i.prop),cS (S i.param),cN]]) [[none,none,none,none,none,none,none,none,none,none,none,none,none,none,none,some 1]] (wC hi (es := []) (by rw [hp]; rfl)) : SpG g _ _ _ _ _))) (fun hc3 => ?_) (fun hc3 => ?_)
 (try simp only [zq8] at hc3)
 simp at hc3
 (try simp only [zq8] at hc3)
 exact zr hG [] [] aB
def zq13 := And.intro @la.{0} (And.intro @lc.{0} (And.intro @lm.{0,0} (And.intro @ln.{0} (And.intro @Go.Eng.inR.eq_1 (And.intro @intsD.eq_1 (@strs.eq_1))))))
theorem aM1 (i : It) (hi : ItOk i) (hp : i.program ≠ []) :
  SpG g 38 [.c (cS (S (itT i)))] [] (.tup [(true,(zTQ i)),(false,[cB true])]) [] := by
 refine aP 98 Tryz.func38 fun fr hG => ?_;refine zC hG [(1,1,kC (.tup [(false,[cS (S (rsT i 1))]),(false,[cB true])])),(4,1,.call (.c (cI (i.id))) [] [[.s (S (rsT i 2))],[.b true]]),(4,3,.call (.c (cI (i.author))) [] [[.s (S (rsT i 3))],[.b true]]),(4,5,.call (.c (cI (i.rank))) [] [[.s (S (rsT i 4))],[.b true]]),(4,7,.call (.c (cI (i.time))) [] [[.s (S (rsT i 5))],[.b true]]),(4,9,.call (.c (cI (i.kind))) [] [[.s (S (rsT i 6))],[.b true]]),(5,1,.call (.c (cS (S (rwT i.input)))) [] [[.s (S (rsT i 7))],[.b true]]),(5,3,.call (.c (cS (S (tvT i.output)))) [] [[.s (S (rsT i 8))],[.b true]]),(6,1,.call (.c (cS (S i.prop))) [] [[.s (S (rsT i 9))],[.b true]]),(6,3,.call (.c (cS (S i.param))) [] [[.s (S (rsT i 10))],[.b true]])] [1,0,1,1,1,1,1,1,1] false (⟨[zS 0 (S (itT i))] ++ e0z ++ [zX 4 205 0,zX 8 511 0,zS 9 (S (rwT i.input)),zS 10 (S (tvT i.output))],[(100,y13),(205,.box 9 [cS (S (rsT i 10))]),(511,.box 63 [cI (i.id),cI (i.author),cI (i.rank),cI (i.time),cI (i.kind),cN,cI 0,cS (S []),cI 0,cI 0,cI 0,cN,cN,cS (S i.prop),cS (S i.param),cN])]⟩) (cS2 g (oJ i) (cS2 g (fJ i hi 0 (by decide)) (cS2 g (fJ i hi 1 (by decide)) (cS2 g (fJ i hi 2 (by decide)) (cS2 g (fJ i hi 3 (by decide)) (cS2 g (fJ i hi 4 (by decide)) (cS2 g (fR i hi 0 (by decide)) (cS2 g (fR i hi 1 (by decide)) (cS2 g (fR i hi 2 (by decide)) (cS1 g (fR i hi 3 (by decide)))))))))))) (fun hc1 => absurd hc1 (by decide)) (fun _ => ?_);refine zC hG [(10,1,kC (y11 (aS (i.input)))),(11,1,kC (y10 (tvK (i.output)) (S (tvS (i.output))) ([] : LD)))] [1,0,1,1,1,1,1,1,1,1,1,1,1] (!((S (rsT i 10)).toList == (S []).toList)) (⟨[zS 0 (S (itT i))] ++ e0z ++ [zX 4 205 0] ++ e1z,[(100,y13),(205,.box 9 [cS (S (rsT i 10))]),(511,.box 63 [cI (i.id),cI (i.author),cI (i.rank),cI (i.time),cI (i.kind),cM 7 (aS (i.input)),cI (tvK (i.output)),cS (S (tvS (i.output))),cI 0,cI 0,cI 0,cM 1 ([] : LD),cM 1 ([] : LD),cS (S i.prop),cS (S i.param),cN])]⟩) (cS2 g (p9 i.input hi.len hi.cells) (cS1 g (aG2 i.output hi.output))) (fun hc2 => ?_) (fun hc2 => ?_)
 (try simp only [zq8] at hc2)
 refine zA hG [(13,1,.call (.c (.ar 100 0)) [(100,.arr 0 9 1 (strs (i.program.map Lib.itoa)))] [])] [0,1,0,1,0,1,1,1,1,1,1,1,1,1,1,1] (⟨[zS 0 (S (itT i))] ++ e0z ++ e1z ++ [zY 63 1401 0,zI 64 ((strs (i.program.map Lib.itoa)).length : Int),zI 65 0],[(100,y13),(511,.box 63 [cI (i.id),cI (i.author),cI (i.rank),cI (i.time),cI (i.kind),cM 7 (aS (i.input)),cI (tvK (i.output)),cS (S (tvS (i.output))),cI 0,cI 0,cI 0,cM 1 ([] : LD),cM 1 ([] : LD),cS (S i.prop),cS (S i.param),cN]),(1401,.arr 0 9 1 (strs (i.program.map Lib.itoa)))]⟩) [] [(511,15,9003,3,1)] (fun (zz : Nat × LD) => match zz with | (q,es) => (i.program.length - q,⟨[zS 0 (S (itT i))] ++ e0z ++ e1z ++ [zY 63 1401 0,zI 64 ((strs (i.program.map Lib.itoa)).length : Int),zI 65 (q : Int)],[(100,y13),(511,.box 63 [cI (i.id),cI (i.author),cI (i.rank),cI (i.time),cI (i.kind),cM 7 (aS (i.input)),cI (tvK (i.output)),cS (S (tvS (i.output))),cI 0,cI 0,cI 0,cM 1 ([] : LD),cM 1 ([] : LD),cS (S i.prop),cS (S i.param),.ar 9003 0]),(1401,.arr 0 9 1 (strs (i.program.map Lib.itoa))),(9003,.arr 0 3 1 es)]⟩,q <= i.program.length /\ es = intsD (i.program.take q))) (0,[]) (cS1 g (aL8 hi hp)) ?_ ?_;exact ⟨zl _,rfl⟩;rintro ⟨q,es⟩ ⟨hq,hes⟩;have hel : es.length = q := by rw [hes,intsD,lm,lt1]; omega
 have hpl := hi.plen;have hsl : (strs (i.program.map Lib.itoa)).length = i.program.length := by rw [strs,lm,lm]
 refine zc hG [] [0,1] (decide ((q : Int) < ((strs (i.program.map Lib.itoa)).length : Int))) aB (fun hc4 => ?_) (fun hc4 => ?_)
 (try simp only [zq8] at hc4)
 refine zC hG [(15,1,.elem (d9 ((i.program.map Lib.itoa).getD q []))),(16,1,kC (y4 (i.program.getD q 0)))] [1,0,1,1,0,0,1,1] false (⟨[zS 0 (S (itT i))] ++ e0z ++ e1z ++ [zI 15 (i.program.getD q 0),zY 63 1401 0,zI 64 ((strs (i.program.map Lib.itoa)).length : Int),zI 65 (q : Int)],[(100,y13),(511,.box 63 [cI (i.id),cI (i.author),cI (i.rank),cI (i.time),cI (i.kind),cM 7 (aS (i.input)),cI (tvK (i.output)),cS (S (tvS (i.output))),cI 0,cI 0,cI 0,cM 1 ([] : LD),cM 1 ([] : LD),cS (S i.prop),cS (S i.param),.ar 9003 0]),(1401,.arr 0 9 1 (strs (i.program.map Lib.itoa))),(9003,.arr 0 3 1 es)]⟩) (aA (by intros; (try simp only [zq13] at *); omega : (0 : Int) <= (q : Int) /\ (q : Int) < ((strs (i.program.map Lib.itoa)).length : Int)) (aA (by intros; exact fN (f := d9) (l := i.program.map Lib.itoa) [] (by rw [lm]; omega) : (strs (i.program.map Lib.itoa))[q]? = some (d9 ((i.program.map Lib.itoa).getD q []))) (cS1 g (atoi_at (q := q) hi (by omega))))) (fun hc5 => absurd hc5 (by decide)) (fun _ => ?_);refine zD hG [] (q + 1,es ++ [[D.i (i.program.getD q 0)]]) (aA (by intros; (try simp only [zq13] at *); omega : (es.length + (([[.i (i.program.getD q 0)]] : LD)).length) * (8 + 1) <= 140737488355328) (aC (by intros; (try simp only [zq13] at *); omega : inR ((q : Int) + 1)))) ?_ ?_
 (try dsimp only); omega
 refine ⟨by omega,?_⟩;rw [hes,dG 0 (by omega),intsD,intsD,List.map_append]; rfl
 (try simp only [zq8] at hc4)
 refine zE hG [] (.exit 0) (⟨[zS 0 (S (itT i))] ++ e0z ++ e1z,[(100,y13),(511,.box 63 [cI (i.id),cI (i.author),cI (i.rank),cI (i.time),cI (i.kind),cM 7 (aS (i.input)),cI (tvK (i.output)),cS (S (tvS (i.output))),cI 0,cI 0,cI 0,cM 1 ([] : LD),cM 1 ([] : LD),cS (S i.prop),cS (S i.param),.ar 9003 0]),(9003,.arr 0 3 1 es)]⟩) aB rfl ?_;refine zC hG [(21,8,kS (S (itT i)))] [1,0,1,1,1,1,1,1,1,1,1,1,1,1] (!((S (itT i)).toList == (S (itT i)).toList)) (⟨e0z ++ [zX 8 511 0],[(100,y13),(511,.box 63 [cI (i.id),cI (i.author),cI (i.rank),cI (i.time),cI (i.kind),cM 7 (aS (i.input)),cI (tvK (i.output)),cS (S (tvS (i.output))),cI 0,cI 0,cI 0,cM 1 ([] : LD),cM 1 ([] : LD),cS (S i.prop),cS (S i.param),.ar 9003 0]),(9003,.arr 0 3 1 es)]⟩) (aC (fun (hg1 : false = false) => (wC hi (es := es) (by rw [hes,tlQ (by omega)]) : SpG g _ _ _ _ _))) (fun hc6 => ?_) (fun hc6 => ?_)
 (try simp only [zq8] at hc6)
 simp at hc6
 (try simp only [zq8] at hc6)
 refine zR hG [] [] (.tup [(true,[cI (i.id),cI (i.author),cI (i.rank),cI (i.time),cI (i.kind),cM 7 (aS (i.input)),cI (tvK (i.output)),cS (S (tvS (i.output))),cI 0,cI 0,cI 0,cM 1 ([] : LD),cM 1 ([] : LD),cS (S i.prop),cS (S i.param),cM 1 es]),(false,[cB true])]) [] aB ?_ ?_;rw [hes,tlQ (by omega)];rfl
 (try simp only [zq8] at hc2)
 exact (aEC (by have h2 : rsT i 10 = [] := (by simpa using hc2); exact h2) hp).elim
theorem aKJ (i : It) (hi : ItOk i) : SpG g 38 [.c (cS (S (itT i)))] [] (.tup [(true,[cI ((i).id),cI ((i).author),cI ((i).rank),cI ((i).time),cI ((i).kind),cM 7 (aS ((i).input)),cI (tvK ((i).output)),cS (S (tvS ((i).output))),cI 0,cI 0,cI 0,cM 1 ([] : LD),cM 1 ([] : LD),cS (S (i).prop),cS (S (i).param),cM 1 (intsD ((i).program))]),(false,[cB true])]) [] := by
 by_cases h : i.program = [];have := oW [[none,none,none,none,none,none,none,none,none,none,none,none,none,none,none,some 1],[]] (read_no (g := g) i hi h);rw [show intsD i.program = [] by rw [h]; rfl];exact this;exact aM1 i hi h
end Go.Proofs.YtclaplngjmgnoaaGreatDoor
namespace Go.Proofs.YtclaplngjmgnoaaGreatDoor
open Go.RowKit Go.V
open Go.Eng (inR byteAt u8 dN)
variable {g : Gv}
def nxV (l : List Int) (k n : Int) : Int := if k >= l.length \/ n < 1 then 0 else ((l.getD k.toNat 0).tmod n + n).tmod n
def nxK (l : List Int) (k n : Int) : Int := if k >= l.length \/ n < 1 then k else k + 1
structure NumOk (l : List Int) (k : Int) : Prop where
 k0 : 0 <= k
 k1 : k <= l.length
 k2 : (l.length : Int) <= 9223372036854775807
theorem NumOk.next {l : List Int} {k : Int} (h : NumOk l k) (n : Int) : NumOk l (nxK l k n) := by
 have := h.k0; have := h.k1;unfold nxK; split
 ·exact h
 ·exact ⟨by omega,by omega,h.k2⟩
theorem aGI {x n : Int} (hn : 1 <= n) : -n < x.tmod n /\ x.tmod n < n :=
 ⟨Int.lt_tmod_of_pos x (by omega),Int.tmod_lt_of_pos x (by omega)⟩
theorem dK (l : List Int) (k : Int) {n : Int} (hn : 1 <= n) : 0 <= nxV l k n /\ nxV l k n < n := by
 unfold nxV;split;omega;have h1 := aGI (x := l.getD k.toNat 0) hn;refine ⟨Int.tmod_nonneg _ (by omega),Int.tmod_lt_of_pos _ (by omega)⟩
def wordsL : List (List UInt8) := [[],[97],[98],[97,98],[105,116,39,115],[50,48,50,52,45,48,49,45,51,49],[49,50],[45,51,46,53],[65,124,66,44,91,99,93,59],[78,111,114,116,104,32,55],[120,32,121],[39,39],[97,98,99,97,98,99],[48],[55,46,50,53]]
def chM (l : List Int) : Nat -> Int -> List UInt8 × Int
 | 0,k => ([],k)
 | n + 1,k => (u8 (32 + nxV l k 95) :: (chM l n (nxK l k 95)).1,(chM l n (nxK l k 95)).2)
def txN (l : List Int) (k : Int) : Int := if nxV l k 18 = 17 then 190 + nxV l (nxK l (nxK l k 18) 9) 11 else nxV l (nxK l k 18) 9
def txK (l : List Int) (k : Int) : Int := if nxV l k 18 = 17 then nxK l (nxK l (nxK l k 18) 9) 11 else nxK l (nxK l k 18) 9
def txM (l : List Int) (k : Int) : List UInt8 × Int := if nxV l k 18 < 15 then (wordsL.getD (nxV l k 18).toNat [],nxK l k 18) else chM l (txN l k).toNat (txK l k)
theorem aH9 {l : List Int} {N j : Nat} {kk : Int} (h : j < N) : chM l (N - j) kk = (u8 (32 + nxV l kk 95) :: (chM l (N - (j + 1)) (nxK l kk 95)).1,(chM l (N - (j + 1)) (nxK l kk 95)).2) := by
 have : N - j = (N - (j + 1)) + 1 := by omega
 rw [this,chM]
theorem aPW (l : List Int) : ∀ (n : Nat) (k : Int),(chM l n k).1.length = n
 | 0,k => rfl
 | n + 1,k => by simp [chM,aPW l n]
theorem aPV {l : List Int} : ∀ (n : Nat) {k : Int},NumOk l k -> NumOk l (chM l n k).2
 | 0,k,h => h
 | n + 1,k,h => by rw [chM]; exact aPV n (h.next 95)
theorem oT {l : List Int} {k : Int} (h : NumOk l k) : NumOk l (txM l k).2 := by
 unfold txM; split
 ·exact h.next 18
 ·refine aPV _ ?_
  unfold txK; split
  ·exact ((h.next 18).next 9).next 11
  ·exact (h.next 18).next 9
theorem txN_bd (l : List Int) (k : Int) : 0 <= txN l k /\ txN l k <= 200 := by
 unfold txN;have h1 := dK l (nxK l (nxK l k 18) 9) (n := 11) (by decide);have h2 := dK l (nxK l k 18) (n := 9) (by decide);split <;> omega
def aLC := And.intro @lm.{0,0} (And.intro @Go.Eng.inR.eq_1 (And.intro @intsD.eq_1 (@maxLen.eq_1)))
abbrev y14 (a0 : LD) (a1 : Int) : Ob := .box 162 [cM 1 a0,cI a1]
theorem iK (l : List Int) (k n : Int) (h : NumOk l k) (hn : n <= 1000000000000000001) :
  SpG g 82 [.c (.bx 0 0),.c (cI n)] [(0,y14 (intsD l) k)] (.c (cI (nxV l k n))) [(0,y14 (intsD l) (nxK l k n))] := by
 have h0 := h.k0; have h1 := h.k1; have h2 := h.k2;have hk1 : k + 1 - 1 = k := by omega
 have hb : 1 <= n -> -n < (l.getD k.toNat 0).tmod n /\ (l.getD k.toNat 0).tmod n < n := aGI;refine aP 43 Tryz.func82 fun fr hG => ?_;refine zC hG [] [1,0,1] ((decide ((k : Int) >= ((intsD l).length : Int))) || (decide ((n : Int) < 1))) (⟨[zX 0 0 0,zI 1 n,zI 4 0],[(0,y14 (intsD l) k)]⟩) aB (fun hc1 => ?_) (fun hc1 => ?_)
 (try simp only [blS,intsD,lm] at hc1)
 refine zR hG [] [] (.c (cI 0)) [(0,y14 (intsD l) k)] aB ?_ ?_;rw [nxV,if_pos hc1];rw [nxK,if_pos hc1]
 (try simp only [blS,intsD,lm] at hc1)
 refine zR hG [(4,9,.elem (intD (l.getD ((k + 1) - 1 : Int).toNat 0)))] [] (.c (cI (Int.tmod ((Int.tmod (l.getD ((k + 1) - 1 : Int).toNat 0) n) + n) n))) [(0,y14 (intsD l) (k + 1))] (aA (by intros; (try rw [hk1]); (try simp only [aLC] at *); omega : inR (k + 1)) (aA (by intros; (try rw [hk1]); (try simp only [aLC] at *); omega : inR ((k + 1) - 1)) (aA (by intros; exact cE _ (by omega) (by (try simp only [intsD,lm] at *); omega) : (0 : Int) <= ((k + 1) - 1) /\ (intsD l)[((k + 1) - 1 : Int).toNat]? = some (intD (l.getD ((k + 1) - 1 : Int).toNat 0))) (aA (by intros; (try rw [hk1]); (try simp only [aLC] at *); omega : n ≠ (0 : Int)) (aA (by intros; (try rw [hk1]); (try simp only [aLC] at *); omega : inR ((Int.tmod (l.getD ((k + 1) - 1 : Int).toNat 0) n) + n)) (aC (by intros; (try rw [hk1]); (try simp only [aLC] at *); omega : n ≠ (0 : Int)))))))) ?_ ?_;rw [nxV,if_neg (by omega),hk1];rw [nxK,if_neg (by omega)]
theorem aLG  :
  SpG g 212 [] [] (.c (.ar 100 0)) [(100,.arr 0 9 1 (strs wordsL))] := by
 refine aP 2 Tryz.func212 fun fr hG => ?_;exact zr hG [] [200] aB
theorem aFE (l : List Int) (k : Int) (h : NumOk l k) :
  SpG g 142 [.c (.bx 0 0)] [(0,y14 (intsD l) k)] (.c (cS (S (txM l k).1))) [(0,y14 (intsD l) ((txM l k).2))] := by
 have a1 := dK l k (n := 18) (by decide);have a2 := dK l (nxK l k 18) (n := 9) (by decide);have a3 := dK l (nxK l (nxK l k 18) 9) (n := 11) (by decide);have hw : ((strs wordsL).length : Int) = 15 := rfl;refine aP 40 Tryz.func142 fun fr hG => ?_;refine zP hG [(1,1,.call (.c (cI (nxV l k 18))) [] [[.sl 1 (intsD l),.i (nxK l k 18)]]),(2,0,.call (.c (.ar 100 0)) [(100,.arr 0 9 1 (strs wordsL))] [])] [1,0,1,1,1] ((nxV l k 18 : Int) < ((strs wordsL).length : Int)) (⟨[zX 0 0 0,zS 2 (S []),zI 3 (nxV l k 18),zY 4 300 0],[(0,y14 (intsD l) (nxK l k 18)),(300,.arr 0 9 1 (strs wordsL))]⟩) (cS2 g (iK l k 18 (by (repeat (first | assumption | apply NumOk.next))) (by decide)) (cS1 g aLG)) (fun hc1 => ?_) (fun hc1 => ?_)
 ·skip
  refine zR hG [(4,3,.elem (d9 (wordsL.getD (nxV l k 18 : Int).toNat [])))] [] (.c (cS (S (wordsL.getD (nxV l k 18 : Int).toNat [])))) [(0,y14 (intsD l) (nxK l k 18))] (aA (by intros; (try simp only [inR,maxLen] at *); (try simp only [zq1] at *); omega : (0 : Int) <= (nxV l k 18) /\ (nxV l k 18) < ((strs wordsL).length : Int)) (aC (by intros; exact fN _ (by (try simp only [strs,rowD,aMR,valsD,lm] at *); omega) : (strs wordsL)[(nxV l k 18 : Int).toNat]? = some (d9 (wordsL.getD (nxV l k 18 : Int).toNat []))))) ?_ ?_
  ·rw [txM,if_pos (by omega)]
  ·rw [txM,if_pos (by omega)]
 ·skip
  refine zP hG [(5,1,.call (.c (cI (nxV l (nxK l k 18) 9))) [] [[.sl 1 (intsD l),.i (nxK l (nxK l k 18) 9)]])] [1,0,1,1,1,1,1] ((nxV l k 18 : Int) = 17) (⟨[zX 0 0 0,zS 2 (S []),zI 5 (nxV l (nxK l k 18) 9)],[(0,y14 (intsD l) (nxK l (nxK l k 18) 9))]⟩) (cS1 g (iK l (nxK l k 18) 9 (by (repeat (first | assumption | apply NumOk.next))) (by decide))) (fun hc2 => ?_) (fun hc2 => ?_)
  ·skip
   refine zA hG [(7,1,.call (.c (cI (nxV l (nxK l (nxK l k 18) 9) 11))) [] [[.sl 1 (intsD l),.i (nxK l (nxK l (nxK l k 18) 9) 11)]])] [0,1,0,1,1,1,1,1,1,1] (⟨[zX 0 0 0,zS 2 (S []),zI 5 (190 + (nxV l (nxK l (nxK l k 18) 9) 11)),zN 6,zI 7 0],[(0,y14 (intsD l) (nxK l (nxK l (nxK l k 18) 9) 11))]⟩) [(6,9000,5,1)] [] (fun (zz : Nat × LD × List UInt8 × Int) => match zz with | (j,es,acc,kk) => ((190 + (nxV l (nxK l (nxK l k 18) 9) 11)).toNat - j,⟨[zX 0 0 0,zS 2 (S []),zI 5 (190 + (nxV l (nxK l (nxK l k 18) 9) 11)),zY 6 9000 0,zI 7 (j : Int)],[(0,y14 (intsD l) kk),(9000,.arr 0 5 1 es)]⟩,j <= (190 + (nxV l (nxK l (nxK l k 18) 9) 11)).toNat /\ NumOk l kk /\ es = bytesD acc /\ acc.length = j /\ acc ++ (chM l ((190 + (nxV l (nxK l (nxK l k 18) 9) 11)).toNat - j) kk).1 = (chM l (190 + (nxV l (nxK l (nxK l k 18) 9) 11)).toNat (nxK l (nxK l (nxK l k 18) 9) 11)).1 /\ (chM l ((190 + (nxV l (nxK l (nxK l k 18) 9) 11)).toNat - j) kk).2 = (chM l (190 + (nxV l (nxK l (nxK l k 18) 9) 11)).toNat (nxK l (nxK l (nxK l k 18) 9) 11)).2)) (0,[],[],nxK l (nxK l (nxK l k 18) 9) 11) (cS2 g (iK l (nxK l (nxK l k 18) 9) 11 (by (repeat (first | assumption | apply NumOk.next))) (by decide)) (aC (by intros; (try simp only [inR,maxLen] at *); (try simp only [zq1] at *); omega : inR (190 + (nxV l (nxK l (nxK l k 18) 9) 11))))) ?_ ?_
   ·exact ⟨zl _,(by (repeat (first | assumption | apply NumOk.next))),rfl,rfl,by simp,by simp⟩
   rintro ⟨j,es,acc,kk⟩ ⟨hj,hN,hes,ha,h3,h4⟩;have hlen : es.length = j := by rw [hes,bC,ha]
   have hx := dK l kk (n := 95) (by decide);refine zp hG [] [1,0] ((j : Int) < (190 + (nxV l (nxK l (nxK l k 18) 9) 11))) aB (fun hc4 => ?_) (fun hc4 => ?_)
   ·skip
    refine zD hG [(12,2,.call (.c (cI (nxV l kk 95))) [] [[.sl 1 (intsD l),.i (nxK l kk 95)]])] (j + 1,es ++ [[D.y (IntKind.wrap .u8 (32 + nxV l kk 95))]],acc ++ [u8 (32 + nxV l kk 95)],nxK l kk 95) (cS2 g (iK l kk 95 (by (repeat (first | assumption | apply NumOk.next))) (by decide)) (aA (by intros; (try simp only [inR,maxLen] at *); (try simp only [zq1] at *); omega : inR (32 + (nxV l kk 95))) (aA (by intros; (try simp only [inR,maxLen] at *); (try simp only [zq1] at *); omega : (es.length + ([[.y (IntKind.wrap .u8 (32 + (nxV l kk 95)))]] : LD).length) * (1 + 1) <= 140737488355328) (aC (by intros; (try simp only [inR,maxLen] at *); (try simp only [zq1] at *); omega : inR ((j : Int) + 1)))))) ?_ ?_
    ·(try dsimp only); omega
    ·have hjs := aH9 (l := l) (kk := kk) (N := (190 + (nxV l (nxK l (nxK l k 18) 9) 11)).toNat) (j := j) (by omega)
     refine ⟨by omega,hN.next _,by rw [hes,qJ],by simp [ha],?_,?_⟩
     ·rw [<- h3,hjs]; simp
     ·rw [<- h4,hjs]
   ·skip
    refine zE hG [] (.exit 0) (⟨[zS 2 (S []),zY 6 9000 0],[(0,y14 (intsD l) kk),(9000,.arr 0 5 1 es)]⟩) aB rfl ?_;refine zR hG [(13,1,kS (S acc))] [] (.c (cS (S acc))) [(0,y14 (intsD l) kk)] (aC (by rw [hes,oK] : es = bytesD (S acc).data.toList)) ?_ ?_
    ·have e : txM l k = chM l (txN l k).toNat (txK l k) := by rw [txM,if_neg (by omega)]
     have e2 : txN l k = 190 + nxV l (nxK l (nxK l k 18) 9) 11 := by rw [txN,if_pos hc2]
     have e3 : txK l k = nxK l (nxK l (nxK l k 18) 9) 11 := by rw [txK,if_pos hc2]
     have hz : (190 + nxV l (nxK l (nxK l k 18) 9) 11).toNat - j = 0 := by omega
     rw [hz] at h3;simp only [chM,List.append_nil] at h3;rw [e,e2,e3,<- h3]
    ·have e : txM l k = chM l (txN l k).toNat (txK l k) := by rw [txM,if_neg (by omega)]
     have e2 : txN l k = 190 + nxV l (nxK l (nxK l k 18) 9) 11 := by rw [txN,if_pos hc2]
     have e3 : txK l k = nxK l (nxK l (nxK l k 18) 9) 11 := by rw [txK,if_pos hc2]
     have hz : (190 + nxV l (nxK l (nxK l k 18) 9) 11).toNat - j = 0 := by omega
     rw [hz] at h4;simp only [chM] at h4;rw [e,e2,e3,<- h4]
  ·skip
   refine zA hG [] [0,1,0,1,1,1,1,1,1,1] (⟨[zX 0 0 0,zS 2 (S []),zI 5 (nxV l (nxK l k 18) 9),zN 6,zI 7 0],[(0,y14 (intsD l) (nxK l (nxK l k 18) 9))]⟩) [(6,9000,5,1)] [] (fun (zz : Nat × LD × List UInt8 × Int) => match zz with | (j,es,acc,kk) => ((nxV l (nxK l k 18) 9).toNat - j,⟨[zX 0 0 0,zS 2 (S []),zI 5 (nxV l (nxK l k 18) 9),zY 6 9000 0,zI 7 (j : Int)],[(0,y14 (intsD l) kk),(9000,.arr 0 5 1 es)]⟩,j <= (nxV l (nxK l k 18) 9).toNat /\ NumOk l kk /\ es = bytesD acc /\ acc.length = j /\ acc ++ (chM l ((nxV l (nxK l k 18) 9).toNat - j) kk).1 = (chM l (nxV l (nxK l k 18) 9).toNat (nxK l (nxK l k 18) 9)).1 /\ (chM l ((nxV l (nxK l k 18) 9).toNat - j) kk).2 = (chM l (nxV l (nxK l k 18) 9).toNat (nxK l (nxK l k 18) 9)).2)) (0,[],[],nxK l (nxK l k 18) 9) aB ?_ ?_
   ·exact ⟨zl _,(by (repeat (first | assumption | apply NumOk.next))),rfl,rfl,by simp,by simp⟩
   rintro ⟨j,es,acc,kk⟩ ⟨hj,hN,hes,ha,h3,h4⟩;have hlen : es.length = j := by rw [hes,bC,ha]
   have hx := dK l kk (n := 95) (by decide);refine zp hG [] [1,0] ((j : Int) < (nxV l (nxK l k 18) 9)) aB (fun hc6 => ?_) (fun hc6 => ?_)
   ·skip
    refine zD hG [(12,2,.call (.c (cI (nxV l kk 95))) [] [[.sl 1 (intsD l),.i (nxK l kk 95)]])] (j + 1,es ++ [[D.y (IntKind.wrap .u8 (32 + nxV l kk 95))]],acc ++ [u8 (32 + nxV l kk 95)],nxK l kk 95) (cS2 g (iK l kk 95 (by (repeat (first | assumption | apply NumOk.next))) (by decide)) (aA (by intros; (try simp only [inR,maxLen] at *); (try simp only [zq1] at *); omega : inR (32 + (nxV l kk 95))) (aA (by intros; (try simp only [inR,maxLen] at *); (try simp only [zq1] at *); omega : (es.length + ([[.y (IntKind.wrap .u8 (32 + (nxV l kk 95)))]] : LD).length) * (1 + 1) <= 140737488355328) (aC (by intros; (try simp only [inR,maxLen] at *); (try simp only [zq1] at *); omega : inR ((j : Int) + 1)))))) ?_ ?_
    ·(try dsimp only); omega
    ·have hjs := aH9 (l := l) (kk := kk) (N := (nxV l (nxK l k 18) 9).toNat) (j := j) (by omega)
     refine ⟨by omega,hN.next _,by rw [hes,qJ],by simp [ha],?_,?_⟩
     ·rw [<- h3,hjs]; simp
     ·rw [<- h4,hjs]
   ·skip
    refine zE hG [] (.exit 0) (⟨[zS 2 (S []),zY 6 9000 0],[(0,y14 (intsD l) kk),(9000,.arr 0 5 1 es)]⟩) aB rfl ?_;refine zR hG [(13,1,kS (S acc))] [] (.c (cS (S acc))) [(0,y14 (intsD l) kk)] (aC (by rw [hes,oK] : es = bytesD (S acc).data.toList)) ?_ ?_
    ·have e : txM l k = chM l (txN l k).toNat (txK l k) := by rw [txM,if_neg (by omega)]
     have e2 : txN l k = nxV l (nxK l k 18) 9 := by rw [txN,if_neg hc2]
     have e3 : txK l k = nxK l (nxK l k 18) 9 := by rw [txK,if_neg hc2]
     have hz : (nxV l (nxK l k 18) 9).toNat - j = 0 := by omega
     rw [hz] at h3;simp only [chM,List.append_nil] at h3;rw [e,e2,e3,<- h3]
    ·have e : txM l k = chM l (txN l k).toNat (txK l k) := by rw [txM,if_neg (by omega)]
     have e2 : txN l k = nxV l (nxK l k 18) 9 := by rw [txN,if_neg hc2]
     have e3 : txK l k = nxK l (nxK l k 18) 9 := by rw [txK,if_neg hc2]
     have hz : (nxV l (nxK l k 18) 9).toNat - j = 0 := by omega
     rw [hz] at h4;simp only [chM] at h4;rw [e,e2,e3,<- h4]
def wM (c : UInt8) : List UInt8 := if c = 39 then [39,39] else [c]
def lP (l : List UInt8) : List UInt8 := l.flatMap wM
def quoL (l : List UInt8) : List UInt8 := [39] ++ lP l ++ [39]
theorem pP : ∀ (l : List UInt8),(lP l).length <= 2 * l.length
 | [] => by simp [lP]
 | c :: l => by
  have := pP l;have h1 : (wM c).length <= 2 := by unfold wM; split <;> simp
  simp only [zq0,lP,List.flatMap_cons] at this ⊢;omega
theorem wL {l : List UInt8} {k : Nat} (h : k < l.length) : lP (l.take (k + 1)) = lP (l.take k) ++ wM (l.getD k 0) := by
 have e : l.take (k + 1) = l.take k ++ [l.getD k 0] := by
  rw [List.take_add_one,gd,ge h]; rfl
 rw [e,lP,List.flatMap_append];simp [lP]
theorem S_cutq (l : List UInt8) (a b : Nat) : (S l).extract a b = S ((l.take b).drop a) := by
 apply ByteArray.ext;rw [ByteArray.data_extract];apply Array.ext';simp [S,List.drop_take,List.extract_eq_take_drop]
theorem lR {l : List UInt8} {k : Nat} (h : k < l.length) : (S l).extract k ((k : Int) + 1).toNat = S [l.getD k 0] := by
 have e : ((k : Int) + 1).toNat = k + 1 := by omega
 rw [e,S_cutq];congr 1;have e : l.take (k + 1) = l.take k ++ [l.getD k 0] := by
  rw [List.take_add_one,gd,ge h]; rfl
 have ht : (l.take k).length = k := by rw [lt1]; omega
 rw [e,List.drop_append_of_le_length (by omega),List.drop_of_length_le (by omega)];rfl
theorem cEqq {l : List UInt8} {k : Nat} (h : ((l.getD k 0).toNat : Int) = 39) : l.getD k 0 = 39 := by
 have : (l.getD k 0).toNat = 39 := by omega
 exact UInt8.toNat_inj.1 this
theorem cNe {l : List UInt8} {k : Nat} (h : ¬ ((l.getD k 0).toNat : Int) = 39) : ¬ l.getD k 0 = 39 := fun e => h (by rw [e]; rfl)
def aA9 := And.intro @la.{0} (And.intro @lc.{0} (And.intro @ln.{0} (And.intro @eU (And.intro @aQ (And.intro @Go.Eng.inR.eq_1 (@maxLen.eq_1))))))
theorem aJJ (s : List UInt8) (h : s.length <= 1000000) :
  SpG g 147 [.c (cS (S s))] [] (.c (cS (S (quoL s)))) [] := by
 refine aP 26 Tryz.func147 fun fr hG => ?_;refine zL hG [] [0,1,0,1,1] (fun (zz : ByteArray × Nat) => match zz with | (o,k) => (s.length - k,⟨[zS 0 (S s),zS 2 (S []),zS 3 o,zI 4 (k : Int)],[]⟩,k <= s.length /\ o = S ([39] ++ lP (s.take k)))) (S [39],0) aB ?_ ?_;exact ⟨zl _,by simp [lP]⟩;rintro ⟨o,k⟩ ⟨hk,ho⟩;have hl := pP (s.take k);have ht : (s.take k).length = k := by simp; omega
 refine zc hG [] [1,0] (decide ((k : Int) < ((S s).size : Int))) aB (fun hc2 => ?_) (fun hc2 => ?_)
 (try simp only [blS,aQ,gZ,Int.toNat_natCast] at hc2)
 refine zC hG [] [1,1,0,0,1] (decide ((byteAt (S s) (k : Int) : Int) = 39)) (⟨[zS 0 (S s),zS 2 (S []),zS 3 (o ++ ((S s).extract k ((k : Int) + 1 : Int).toNat)),zI 4 (k : Int)],[]⟩) (aA (by intros; (try rw [lR (by (try simp only [aQ] at *); omega)]); (try rw [ho]); (try simp only [aA9] at *); omega : inR ((k : Int) + 1)) (aA (by intros; (try rw [lR (by (try simp only [aQ] at *); omega)]); (try rw [ho]); (try simp only [aA9] at *); omega : (0 : Int) <= (k : Int) /\ (k : Int) <= ((k : Int) + 1) /\ ((k : Int) + 1) <= ((S s).size : Int)) (aA (by intros; (try rw [lR (by (try simp only [aQ] at *); omega)]); (try rw [ho]); (try simp only [aA9] at *); omega : o.size + ((S s).extract k ((k : Int) + 1 : Int).toNat).size <= maxLen) (aC (by intros; (try rw [lR (by (try simp only [aQ] at *); omega)]); (try rw [ho]); (try simp only [aA9] at *); omega : (0 : Int) <= (k : Int) /\ (k : Int) < ((S s).size : Int)))))) (fun hc3 => ?_) (fun hc3 => ?_)
 (try simp only [blS,aQ,gZ,Int.toNat_natCast] at hc3)
 refine zD hG [] ((o ++ ((S s).extract k ((k : Int) + 1 : Int).toNat)) ++ (S [39]),k + 1) (aA (by intros; (try rw [lR (by (try simp only [aQ] at *); omega)]); (try rw [ho]); (try simp only [aA9] at *); omega : (o ++ ((S s).extract k ((k : Int) + 1 : Int).toNat)).size + (S [39]).size <= maxLen) (aC (by intros; (try rw [lR (by (try simp only [aQ] at *); omega)]); (try rw [ho]); (try simp only [aA9] at *); omega : inR ((k : Int) + 1)))) ?_ ?_
 (try dsimp only); omega
 refine ⟨by omega,?_⟩;rw [lR (by omega),ho,eU,eU,wL (by omega)];rw [wM,if_pos (cEqq hc3),cEqq hc3]; simp
 (try simp only [blS,aQ,gZ,Int.toNat_natCast] at hc3)
 refine zD hG [] (o ++ ((S s).extract k ((k : Int) + 1 : Int).toNat),k + 1) (aC (by intros; (try rw [lR (by (try simp only [aQ] at *); omega)]); (try rw [ho]); (try simp only [aA9] at *); omega : inR ((k : Int) + 1))) ?_ ?_
 (try dsimp only); omega
 refine ⟨by omega,?_⟩;rw [lR (by omega),ho,eU,wL (by omega)];rw [wM,if_neg (cNe hc3)]; simp
 (try simp only [blS,aQ,gZ,Int.toNat_natCast] at hc2)
 refine zE hG [] (.exit 0) (⟨[zS 2 (S []),zS 3 o],[]⟩) aB rfl ?_;refine zR hG [] [] (.c (cS (o ++ (S [39])))) [] (aC (by intros; (try rw [lR (by (try simp only [aQ] at *); omega)]); (try rw [ho]); (try simp only [aA9] at *); omega : o.size + (S [39]).size <= maxLen)) ?_ ?_;have : s.take k = s := tlQ (by omega);rw [ho,this,eU]; rfl;rfl
theorem aBQ {a b : Bool} (h : a = b) : (SV.c (cB a) : SV) = .c (cB b) := by rw [h]
theorem aJL (s : ByteArray) (hs : s.size <= maxLen) :
  SpG g 214 [.c (cS s)] [] (.c (cB (cZ s))) [] := by
 unfold maxLen at hs;refine aP 23 Tryz.func214 fun fr hG => ?_;refine zL hG [] [0,1,0,1] (fun (zz : Nat) => match zz with | k => (s.size - k,⟨[zS 0 s,zB 2 false,zI 3 (k : Int)],[]⟩,k <= s.size /\ (bs s).all d2 = ((bs s).drop k).all d2)) 0 aB ?_ ?_;exact ⟨zl _,rfl⟩;rintro k ⟨hk,hall⟩;refine zp hG [] [1,0] ((k : Int) < (s.size : Int)) aB (fun hc2 => ?_) (fun hc2 => ?_);skip;refine zc hG [] [1,0,0,1] ((decide ((byteAt s (k : Int) : Int) < 32)) || (decide ((byteAt s (k : Int) : Int) > 126))) (aA (by intros; first | omega | decide | (simp only [inR,blS] at *; omega) : (0 : Int) <= (k : Int) /\ (k : Int) < (s.size : Int)) (aC (by intros; first | omega | decide | (simp only [inR,blS] at *; omega) : (decide ((byteAt s (k : Int) : Int) < 32)) = false -> (0 : Int) <= (k : Int) /\ (k : Int) < (s.size : Int)))) (fun hc3 => ?_) (fun hc3 => ?_)
 (try simp only [blS] at hc3)
 refine zE hG [] .ret (⟨[zS 0 s,zB 2 false],[]⟩) aB rfl ?_;refine zR hG [] [] (.c (cB false)) [] aB ?_ ?_;refine aBQ ?_;rw [cZ,hall,rI s k (by omega)]; simp only [jH] at hc3; simp [d2]; omega;rfl
 (try simp only [blS] at hc3)
 refine zD hG [] (k + 1) (aC (by intros; first | omega | decide | (simp only [inR,blS] at *; omega) : inR ((k : Int) + 1))) ?_ ?_
 (try dsimp only); omega
 exact ⟨by omega,by rw [hall,rI s k (by omega)]; simp only [jH] at hc3; simp [d2]; omega⟩;skip;refine zE hG [] (.exit 0) (⟨[zS 0 s,zB 2 false],[]⟩) aB rfl ?_;refine zR hG [] [] (.c (cB (decide (((s.size : Int) : Int) <= 200)))) [] aB ?_ ?_;refine aBQ ?_;rw [cZ,hall,aP4 s k (by omega)]; simp;rfl
theorem val1_ok (l : List Int) (k : Int) (h : NumOk l k) :
  SpG g 91 [.c (.bx 0 0),.c (cI 1)] [(0,y14 (intsD l) k)] (.agg [cI 1,cS (S (txM l k).1),cI 0,cI 0,cI 0,cN,cN]) [(0,y14 (intsD l) ((txM l k).2))] := by
 refine aP 45 Tryz.func91 fun fr hG => ?_;refine zC hG [] [1,0,1,0,1] true (⟨[zX 0 0 0,zI 1 1,zX 4 100 0,zI 6 1],[(0,y14 (intsD l) k),(100,y8)]⟩) aB (fun _ => ?_) (fun hc1 => absurd hc1 (by decide));exact zr hG [(3,2,.call (.c (cS (S (txM l k).1))) [] [[.sl 1 (intsD l),.i ((txM l k).2)]])] [] (cS1 g (aFE l k h))
end Go.Proofs.YtclaplngjmgnoaaGreatDoor
namespace Go.Proofs.YtclaplngjmgnoaaGreatDoor
open Go.RowKit Go.V
structure Ac where
 what : Int
 who : Int
 n : Int
 l : List Int
def Ac.z : Ac := ⟨0,0,0,[]⟩
def AcD (a : Ac) : List D := [.i a.what,.i a.who,.i a.n,.sl 1 (intsD a.l)]
def bP (l : List Ac) : LD := l.map AcD
theorem num_z : NumOk Ac.z.l 0 := ⟨by decide,by decide,by decide⟩
theorem acs_num {l : List Ac} (h : ∀ a,a ∈ l -> NumOk a.l 0) (k : Nat) : NumOk (l.getD k Ac.z).l 0 := by
 by_cases hk : k < l.length;exact h _ (bF hk);have : l.getD k Ac.z = Ac.z := by simp [gd,List.getElem?_eq_none (by omega : l.length <= k)]
 rw [this]; exact num_z
end Go.Proofs.YtclaplngjmgnoaaGreatDoor
namespace Go.Proofs.YtclaplngjmgnoaaGreatDoor
open Go.ChangeShapes Go.WideShapes Go.ChangeAt Go.RowKit Go.V
section
variable {H : Type} {enc : TypeId × Value -> H} {P : Program} {W : World}
theorem aM4 {A : Option Addr} {L C : Nat} {Z : List Int} (hl : L <= C) (hm : C <= maxLen) (hZ : Z.length = C) (h0 : A = none -> C = 0)
  (hc : ∀ a',A = some a' -> ∀ c,c < C -> W.cell? (a'.add c) = some (.int .i64 (Z.getD c 0))) : Rd W (Sh pl0 (lookO [])) (.sl 1 (intsD (Z.take L))) (.slice A L C) := by
 rcases Nat.eq_zero_or_pos C with rfl | hC;obtain rfl : L = 0 := by omega
 cases A with
 | none => exact Rd.nil 1
 | some a => exact Rd.far 1 a
 cases A with
 | none => have := h0 rfl; omega
 | some a =>
  have hcell := hc a rfl;have c0 := hcell 0 hC;obtain ⟨bl,off,sp⟩ := a;simp only [Addr.add,if_true] at c0;unfold World.cell? at c0;split at c0;rename_i c ty fz hb;obtain rfl : sp = none := by
   cases sp with
   | none => rfl
   | some _ => simp at c0
  have el : (intsD (Z.take L)).length = L := by simp [intsD]; omega
  have key : Rd W (Sh pl0 (lookO [])) (.sl 1 (intsD (Z.take L))) (.slice (some ⟨bl,off,none⟩) (intsD (Z.take L)).length C) := by
   refine Rd.sl (us := fun i _ => .int .i64 (Z.getD i 0)) (sh0 _) hb (by rw [el]; exact hl) hm ?_ ?_ ?_;intro ds hds;simp only [intsD,mm] at hds;obtain ⟨n,_,rfl⟩ := hds;rfl;intro i j ds d hi hj;have hil : i < (Z.take L).length := by
    have := (gsQ.1 hi).1;simpa [intsD] using this
   simp only [lt1] at hil;have := hcell i (by omega);simp only [intsD,List.getElem?_map,me] at hi;obtain ⟨n,hn,rfl⟩ := hi
   match j,hj with
   | 0,hj =>
    have ea : Addr.add ⟨bl,off,none⟩ i = ⟨bl,off + i,none⟩ := by
     unfold Addr.add;split <;> simp_all
    rw [ea] at this;simp only [World.cell?,hb] at this;simpa using this
   intro i j ds d hi hj;simp only [intsD,List.getElem?_map,me] at hi;obtain ⟨n,hn,rfl⟩ := hi
   match j,hj with
   | 0,hj =>
    simp only [intD,cz,oIQ] at hj;subst hj;have hz : Z.getD i 0 = n := by
     rw [List.getElem?_take] at hn;split at hn;simp [hn];cases hn
    rw [hz];exact Rd.v _ rfl
  rw [el] at key;exact key;cases c0
def aCN (P : Program) (t : TypeId) : Bool := match P.underlying t with
 | some (.struct _) => true
 | _ => false
def lM (P : Program) (t : TypeId) : Array Field := match P.underlying t with
 | some (.struct fs) => fs
 | _ => #[]
theorem str_is {t : TypeId} (h : aCN P t = true) : P.underlying t = some (.struct (lM P t)) := by
 unfold aCN at h;unfold lM;split at h;rename_i fs e; rw [e];cases h
theorem lW {t u : TypeId} {q o c fuel : Nat} {cs : List Value} {x : DataW H × List MemPlace} (ht : aCN P t = true) (hf : ((lM P t)[q]?).map (fun f => (f.type,f.offset)) = some (u,o)) (hc : P.cellsOf u = c)
  (h : DataW.trod enc P W 0 (fun _ => true) true fuel t cs = some x) : ∃ m y,DataW.trod enc P W 0 (fun _ => true) true m u ((cs.drop o).take c) = some y := by
 obtain ⟨xs,m,_,_,_,hl,hx⟩ := DataW.trod_struct (str_is ht) h;obtain ⟨f,e,hf⟩ := me.1 hf;simp only [pIQ] at hf;have h1 := hx q f e;rw [hf.1,hf.2,hc] at h1;have hq : q < xs.length := by rw [hl]; exact (Array.getElem?_eq_some_iff.1 e).1
 rw [ge hq] at h1;exact ⟨m,_,h1⟩
theorem rd_acts {b : Nat} {t e i s : TypeId} {v : Value} {d : DataW H} {ps : List MemPlace} (ht : P.underlying t = some (.slice e)) (he : aCN P e = true) (ce : P.cellsOf e = 4) (hi : P.underlying i = some (.int .i64)) (hs : P.underlying s = some (.slice i)) (ci : P.cellsOf i = 1) (cs_ : P.cellsOf s = 1)
  (f0 : ((lM P e)[0]?).map (fun f => (f.type,f.offset)) = some (i,0)) (f1 : ((lM P e)[1]?).map (fun f => (f.type,f.offset)) = some (i,1)) (f2 : ((lM P e)[2]?).map (fun f => (f.type,f.offset)) = some (i,2)) (f3 : ((lM P e)[3]?).map (fun f => (f.type,f.offset)) = some (s,3))
  (hval : Value.okWide P W .any b t v) (hd : DataW.Trod enc P W 0 (fun _ => true) true t v d ps) : ∃ l : List Ac,(∀ a,a ∈ l -> NumOk a.l 0) /\ Rd W (Sh pl0 (lookO [])) (.sl 4 (bP l)) v := by
 obtain ⟨fuel,hf⟩ := hd;have hv := rW ht hval;rw [one_cell ht hv] at hf;rcases Deep.open_slice ht hf with ⟨h1,_⟩ | ⟨a,len,cap,m,n,Dd,Pp,h1,hb,hl,hm,hmm,_,hx⟩
 simp only [List.cons.injEq,and_true] at h1;subst h1;exact ⟨[],by simp,Rd.nil 4⟩;simp only [List.cons.injEq,and_true] at h1;subst h1;simp only [if_true] at hmm;subst hmm;rw [ce] at hx;have each : ∀ r,r < m -> ∃ y : (Int × Int × Int) × Option Addr × Nat × Nat × List Int,
   W.cell? (a.add (r * 4)) = some (.int .i64 y.1.1) /\ W.cell? ((a.add (r * 4)).add 1) = some (.int .i64 y.1.2.1) /\ W.cell? ((a.add (r * 4)).add 2) = some (.int .i64 y.1.2.2) /\ W.cell? ((a.add (r * 4)).add 3) = some (.slice y.2.1 y.2.2.1 y.2.2.2.1) /\
   y.2.2.1 <= y.2.2.2.1 /\ y.2.2.2.1 <= maxLen /\ y.2.2.2.2.length = y.2.2.2.1 /\ (y.2.1 = none -> y.2.2.2.1 = 0) /\ ∀ a',y.2.1 = some a' -> ∀ c,c < y.2.2.2.1 -> W.cell? (a'.add c) = some (.int .i64 (y.2.2.2.2.getD c 0)) := by
  intro r hr;obtain ⟨cs',hc,hd⟩ := hx r hr;obtain ⟨_,hlen,hcell⟩ := World.cells?_some hc
  match cs',hlen,hcell,hd with
  | [c0,c1,c2,c3],_,hcell,hd =>
   have w0 := hcell 0 (by decide);have w1 := hcell 1 (by decide);have w2 := hcell 2 (by decide);have w3 := hcell 3 (by decide);obtain ⟨_,_,t0⟩ := lW he f0 ci hd;obtain ⟨_,_,t1⟩ := lW he f1 ci hd;obtain ⟨_,_,t2⟩ := lW he f2 ci hd;obtain ⟨_,_,t3⟩ := lW he f3 cs_ hd;obtain ⟨n0,e0,_⟩ := DataW.trod_int hi t0;obtain ⟨n1,e1,_⟩ := DataW.trod_int hi t1;obtain ⟨n2,e2,_⟩ := DataW.trod_int hi t2;simp only [List.drop_zero,List.take_succ_cons,List.take_zero,List.cons.injEq,and_true] at e0;simp only [List.drop_succ_cons,List.drop_zero,List.take_succ_cons,List.take_zero,List.cons.injEq,and_true] at e1 e2 t3;subst e0 e1 e2;have a0 : a.add (r * 4) = (a.add (r * 4)).add 0 := by simp [Addr.add]
   rcases open_ints hs hi ci t3 with ⟨hcs,_⟩ | ⟨a',len',cap',zs,hcs,_,hl',hm',hz,_,hcl,_⟩
   simp only [List.cons.injEq,and_true] at hcs;subst hcs;refine ⟨((n0,n1,n2),none,0,0,[]),?_,by simpa using w1,by simpa using w2,by simpa using w3,lr _,zl _,rfl,fun _ => rfl,(fun a' h => by cases h)⟩;rw [a0]; simpa using w0;simp only [List.cons.injEq,and_true] at hcs;subst hcs;simp only [if_true] at hz;refine ⟨((n0,n1,n2),some a',len',cap',zs),?_,by simpa using w1,by simpa using w2,by simpa using w3,hl',hm',hz,(fun h => by cases h),fun a'' h c hc => ?_⟩;rw [a0]; simpa using w0;cases h; exact hcl c (by rw [hz]; exact hc)
 obtain ⟨y,hy⟩ := Deep.choose_lt each;rcases rX ht hv with h | ⟨bl,off,len',cap',c,ty,fz,h,hbb⟩
 simp at h;simp only [Value.slice.injEq,oIQ] at h;obtain ⟨rfl,rfl,rfl⟩ := h
 let f : Nat -> Ac := fun r => ⟨(y r).1.1,(y r).1.2.1,(y r).1.2.2,(y r).2.2.2.2.take (y r).2.2.1⟩
 have el : (bP ((List.range len).map f)).length = len := by simp [bP]
 have get : ∀ {i : Nat} {ds : List D},(bP ((List.range len).map f))[i]? = some ds -> i < len /\ ds = AcD (f i) := by
  intro i ds h;have hi := (gsQ.1 h).1;rw [el] at hi;simp only [bP,List.map_map,List.getElem?_map,List.getElem?_range hi,Option.map_some,oIQ,Function.comp] at h;exact ⟨hi,h.symm⟩
 refine ⟨(List.range len).map f,fun x hx => ?_,?_⟩;obtain ⟨r,hr,rfl⟩ := mm.1 hx;have hr := List.mem_range.1 hr;obtain ⟨_,_,_,_,k1,k2,k3,_⟩ := hy r (by omega);refine ⟨Int.le_refl _,Int.natCast_nonneg _,?_⟩;simp only [f,lt1];unfold maxLen at k2;omega;have key : Rd W (Sh pl0 (lookO [])) (.sl 4 (bP ((List.range len).map f))) (.slice (some ⟨bl,off,none⟩) (bP ((List.range len).map f)).length m) := by
  refine Rd.sl (us := fun i j => match j with | 0 => .int .i64 (y i).1.1 | 1 => .int .i64 (y i).1.2.1 | 2 => .int .i64 (y i).1.2.2 | _ => .slice (y i).2.1 (y i).2.2.1 (y i).2.2.2.1) (sh0 _) hbb (by rw [el]; exact hl) hm ?_ ?_ ?_;intro ds hds;simp only [bP,mm] at hds;obtain ⟨n,_,rfl⟩ := hds;rfl;intro i j ds d hi hj;obtain ⟨hi,rfl⟩ := get hi;obtain ⟨h0,h1,h2,h3,_⟩ := hy i (by omega);have ea : ∀ q,Addr.add ⟨bl,off,none⟩ q = ⟨bl,off + q,none⟩ := by
   intro q;unfold Addr.add;split <;> simp_all
  rw [ea] at h0 h1 h2 h3;have eb : ∀ q o,Addr.add ⟨bl,o,none⟩ q = ⟨bl,o + q,none⟩ := by
   intro q o;unfold Addr.add;split <;> simp_all
  rw [eb] at h1 h2 h3;simp only [World.cell?,hbb] at h0 h1 h2 h3
  match j,hj with
  | 0,hj => simpa using h0
  | 1,hj => simpa using h1
  | 2,hj => simpa using h2
  | 3,hj => simpa using h3
  intro i j ds d hi hj;obtain ⟨hi,rfl⟩ := get hi;obtain ⟨_,_,_,_,k1,k2,k3,k5,k6⟩ := hy i (by omega)
  match j,hj with
  | 0,hj => simp only [AcD,cz,oIQ] at hj; subst hj; exact Rd.v _ rfl
  | 1,hj => simp only [AcD,List.getElem?_cons_succ,cz,oIQ] at hj; subst hj; exact Rd.v _ rfl
  | 2,hj => simp only [AcD,List.getElem?_cons_succ,cz,oIQ] at hj; subst hj; exact Rd.v _ rfl
  | 3,hj =>
   simp only [AcD,List.getElem?_cons_succ,cz,oIQ] at hj;subst hj;exact aM4 k1 k2 k3 k5 k6
 rw [el] at key;exact key
end
end Go.Proofs.YtclaplngjmgnoaaGreatDoor
