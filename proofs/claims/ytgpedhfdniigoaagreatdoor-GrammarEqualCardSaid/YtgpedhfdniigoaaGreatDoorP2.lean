/- Part 2 of the proof. -/
import Derived.Test.YtgpedhfdniigoaaGreatDoorP1
set_option linter.all false
namespace Go.V
open Go.RowKit
inductive D where
 | v (x : Value)
 | sl (sz : Nat) (es : List (List D))
abbrev LD := List (List D)
inductive Rd (w : World) (F : Nat -> Prop) : D -> Value -> Prop where
 | v (x : Value) (h : x.oneCell' = true) : Rd w F (.v x) x
 | nil (sz : Nat) : Rd w F (.sl sz []) (.slice none 0 0)
 | far (sz : Nat) (a : Addr) : Rd w F (.sl sz []) (.slice (some a) 0 0)
 | sl {b off c sz : Nat} {cs : Array Value} {e : TypeId} {fz : Nat × Nat} {es : LD} (us : Nat -> Nat -> Value) (hF : F b) (hb : w.heap[b]? = some (.cells cs e fz)) (hc : es.length <= c) (hm : c <= maxLen)
   (hs : ∀ ds,ds ∈ es -> ds.length = sz)
   (hu : ∀ (i j : Nat) (ds : List D) (d : D),es[i]? = some ds -> ds[j]? = some d -> cs[off + i * sz + j]? = some (us i j))
   (hr : ∀ (i j : Nat) (ds : List D) (d : D),es[i]? = some ds -> ds[j]? = some d -> Rd w F d (us i j)) : Rd w F (.sl sz es) (.slice (some ⟨b,off,none⟩) es.length c)
theorem Rd.frame {w w' : World} {F F' : Nat -> Prop} (hw : ∀ b,b < w.heap.size -> F b -> w'.heap[b]? = w.heap[b]?) (hF : ∀ b,b < w.heap.size -> F b -> F' b) {d : D} {v : Value} (h : Rd w F d v) : Rd w' F' d v := by
 induction h with
 | v x h => exact .v x h
 | nil sz => exact .nil sz
 | far sz a => exact .far sz a
 | sl us hFb hb hc hm hs hu _ ih =>
  have hlt := (Array.getElem?_eq_some_iff.1 hb).1
  exact .sl us (hF _ hlt hFb) ((hw _ hlt hFb).trans hb) hc hm hs hu ih
theorem Rd.one {w : World} {F : Nat -> Prop} {d : D} {v : Value} (h : Rd w F d v) : v.oneCell' = true := by
 cases h with
 | v x h => exact h
 | nil => rfl
 | far => rfl
 | sl => rfl
theorem Rd.exact {w : World} {F : Nat -> Prop} {x v : Value} (h : Rd w F (.v x) v) : v = x := by cases h; rfl
def All2 {α β : Type} (R : α -> β -> Prop) (xs : List α) (ys : List β) : Prop := xs.length = ys.length /\ ∀ (j : Nat) (x : α) (y : β),xs[j]? = some x -> ys[j]? = some y -> R x y
section
variable {α β : Type} {R S : α -> β -> Prop} {xs xs' : List α} {ys ys' : List β}
theorem All2.mono (h : All2 R xs ys) (hr : ∀ x y,R x y -> S x y) : All2 S xs ys := ⟨h.1,fun j x y hx hy => hr _ _ (h.2 j x y hx hy)⟩
theorem All2.nil : All2 R [] [] := ⟨rfl,fun j x y hx => by simp at hx⟩
theorem All2.cons {x : α} {y : β} (h : R x y) (ht : All2 R xs ys) : All2 R (x :: xs) (y :: ys) := by
 refine ⟨by simp [ht.1],fun j a b ha hb => ?_⟩
 cases j with
 | zero => simp at ha hb; subst ha; subst hb; exact h
 | succ j => simp at ha hb; exact ht.2 j a b ha hb
theorem All2.one {x : α} {y : β} (h : R x y) : All2 R [x] [y] := All2.cons h All2.nil
theorem All2.uncons {x : α} (h : All2 R (x :: xs) ys) : ∃ y r,ys = y :: r /\ R x y /\ All2 R xs r := by
 cases ys with
 | nil => have := h.1; simp at this
 | cons y r =>
  refine ⟨y,r,rfl,h.2 0 x y rfl rfl,?_,fun j a b ha hb => h.2 (j + 1) a b (by simpa using ha) (by simpa using hb)⟩
  have := h.1; simpa using this
theorem All2.unnil (h : All2 R [] ys) : ys = [] := List.eq_nil_of_length_eq_zero h.1.symm
theorem All2.take (h : All2 R xs ys) (k : Nat) : All2 R (xs.take k) (ys.take k) := by
 refine ⟨by simp [h.1],fun j x y hx hy => ?_⟩
 rw [List.getElem?_take] at hx hy
 split at hx
 rename_i hj; rw [if_pos hj] at hy; exact h.2 j x y hx hy
 cases hx
theorem All2.drop (h : All2 R xs ys) (k : Nat) : All2 R (xs.drop k) (ys.drop k) := by
 refine ⟨by simp [h.1],fun j x y hx hy => ?_⟩
 rw [List.getElem?_drop] at hx hy
 exact h.2 _ x y hx hy
theorem All2.append (h : All2 R xs ys) (h' : All2 R xs' ys') : All2 R (xs ++ xs') (ys ++ ys') := by
 refine ⟨by simp [h.1,h'.1],fun j x y hx hy => ?_⟩
 rw [List.getElem?_append] at hx hy
 split at hx
 rename_i hj; rw [if_pos (by have := h.1; omega)] at hy; exact h.2 j x y hx hy
 rename_i hj; rw [if_neg (by have := h.1; omega)] at hy; rw [h.1] at hx; exact h'.2 _ x y hx hy
theorem All2.get (h : All2 R xs ys) {j : Nat} {x : α} (hx : xs[j]? = some x) : ∃ y,ys[j]? = some y /\ R x y := by
 have hj := (gsQ.1 hx).1
 have hj' : j < ys.length := by have := h.1; omega
 exact ⟨ys[j],ge hj',h.2 j x _ hx (ge hj')⟩
end
inductive C where
 | d (x : D)
 | bx (i off : Nat)
 | ar (i k : Nat)
 | pe (ds : List D) (off : Nat)
 | ea (i k idx off : Nat)
 | pg (g off : Nat)
 | sd (i k : Nat)
 | fn (f : FuncId) (first cap : List (Nat × Nat))
 | mp (i : Nat)
 | yl (i : Nat)
 | ib (t i : Nat)
 | av (i k l n : Nat)
 | nn
 | any
inductive BK where
 | c (ty : TypeId)
 | map (agg : Bool)
 | raw (o : Obj)
 | mapx (agg : Bool) (wd : Nat) (ks : List (Value × Nat)) (next : Nat)
 | lp (n : Nat) (slots : List Nat) (st : LoopState) (pend : Option Code) (params : Array Tmp) (assign body : Code)
 | mpb (es : List (List UInt8 × Bool))
 | mpi (es : List (Int × Int))
 | itr (since : Nat) (seen : Array Nat) (last : Nat)
structure BT where
 k : BK
 pin : Option Nat
instance (n : Nat) : OfNat BT n := ⟨⟨.c n,none⟩⟩
instance : Coe Nat BT := ⟨fun n => ⟨.c n,none⟩⟩
def aAG (agg : Bool) : Nat -> List Value -> List MapEntry
 | n,k :: v :: r => { key := k,val := if agg then .agg #[v] else v,born := n } :: aAG agg (n + 1) r
 | _,_ => []
def bY (agg : Bool) (wd : Nat) : List (Value × Nat) -> List Value -> List MapEntry
 | [],_ => []
 | (k,b) :: r,vs => { key := k,val := if agg then .agg (vs.take wd).toArray else vs.headD undef,born := b } :: bY agg wd r (vs.drop wd)
def BK.obj : BK -> List Value -> Obj
 | .c ty,vs => .cells vs.toArray ty (0,0)
 | .map agg,vs => .map (aAG agg 0 vs).toArray (aAG agg 0 vs).length
 | .raw o,_ => o
 | .mapx agg wd ks next,vs => .map (bY agg wd ks vs).toArray next
 | _,_ => .deferred none
def BT.obj (ty : BT) (vs : List Value) : Obj := ty.k.obj vs
structure MapIs (kvs : List (Value × Value)) (ents : Array MapEntry) (clock : Nat) : Prop where
 kv : (ents.toList.map (fun e => (e.key,e.val))).Perm kvs
 kn : (kvs.map (·.1)).Nodup
 nd : (ents.toList.map (·.born)).Nodup
 lt : ∀ e ∈ ents.toList,e.born < clock
def kvB (es : List (List UInt8 × Bool)) : List (Value × Value) := es.map fun x => (.string ⟨x.1.toArray⟩,.bool x.2)
def kvI (es : List (Int × Int)) : List (Value × Value) := es.map fun x => (.int .i64 x.1,.int .i64 x.2)
def BK.at : BK -> Option Obj -> List Value -> Prop
 | .lp n slots st pend ps as bd,o,vs => ∃ (tm : Array Value) (fn : FuncId) (D : Nat),o = some (.loop { state := st,pending := pend,fn := fn,tmps := tm,params := ps,assign := as,body := bd,defers := D }) /\ tm.size = n /\ vs = slots.map (fun t => tm.getD t undef)
 | .c ty,o,vs => o = some (.cells vs.toArray ty (0,0))
 | .map agg,o,vs => o = some ((BK.map agg).obj vs)
 | .raw o',o,_ => o = some o'
 | .mapx agg wd ks next,o,vs => o = some (.map (bY agg wd ks vs).toArray next)
 | .mpb es,o,_ => ∃ ents clock,o = some (.map ents clock) /\ MapIs (kvB es) ents clock
 | .mpi es,o,_ => ∃ ents clock,o = some (.map ents clock) /\ MapIs (kvI es) ents clock
 | .itr since seen last,o,vs => ∃ q,vs = [.map q] /\ o = some (.mapIter q since seen last)
theorem BK.at_some {k : BK} {o : Option Obj} {vs : List Value} (h : k.at o vs) : ∃ x,o = some x := by
 cases k with
 | lp => obtain ⟨_,_,_,h,_⟩ := h; exact ⟨_,h⟩
 | c => exact ⟨_,h⟩
 | map => exact ⟨_,h⟩
 | raw => exact ⟨_,h⟩
 | mapx => exact ⟨_,h⟩
 | mpb => obtain ⟨_,_,h,_⟩ := h; exact ⟨_,h⟩
 | mpi => obtain ⟨_,_,h,_⟩ := h; exact ⟨_,h⟩
 | itr => obtain ⟨_,_,h⟩ := h; exact ⟨_,h⟩
inductive SV where
 | c (x : C)
 | agg (xs : List C)
 | tup (xs : List (Bool × List C))
structure AT where
 e : TypeId
 ov : List (Nat × C)
instance (n : Nat) : OfNat AT n := ⟨⟨n,[]⟩⟩
instance : Coe Nat AT := ⟨fun n => ⟨n,[]⟩⟩
inductive Ob where
 | box (ty : BT) (cells : List C)
 | arr (k : Nat) (e : AT) (sz : Nat) (es : LD)
structure Pl where
 S : Nat -> Prop
 blk : Nat -> Nat
 sl : Nat -> Option Addr × Nat
abbrev Own := Nat -> Option Ob
def aM (pl : Pl) (own : Own) (i : Nat) : Option Nat := match own i with
 | some (.box _ _) => some (pl.blk i)
 | some (.arr _ _ _ _) => (pl.sl i).1.map (·.block)
 | none => none
def Sh (pl : Pl) (own : Own) (b : Nat) : Prop := pl.S b /\ ∀ i,aM pl own i ≠ some b
def adV (pl : Pl) (x : Nat × Nat) : Value := .pointer (some ⟨pl.blk x.1,x.2,none⟩)
def COk (w : World) (pl : Pl) (own : Own) : C -> Value -> Prop
 | .d x,v => Rd w (Sh pl own) x v
 | .bx i off,v => (∃ ty cs,own i = some (.box ty cs)) /\ v = .pointer (some ⟨pl.blk i,off,none⟩)
 | .ar i k,v => ∃ k' e sz es,own i = some (.arr k' e sz es) /\ k <= k' /\ (k' = k -> v = .slice (pl.sl i).1 es.length (pl.sl i).2) /\ v.oneCell' = true
 | .pe ds off,v => ∃ (b o : Nat) (cs : Array Value) (e : TypeId) (fz : Nat × Nat) (us : Nat -> Value),v = .pointer (some ⟨b,o + off,none⟩) /\ Sh pl own b /\ w.heap[b]? = some (.cells cs e fz) /\ (∀ (j : Nat) (d : D),ds[j]? = some d -> cs[o + j]? = some (us j) /\ Rd w (Sh pl own) d (us j))
 | .ea i k idx off,v => ∃ k' e sz es,own i = some (.arr k' e sz es) /\ k <= k' /\ (k' = k -> idx < es.length /\ ∃ b,(pl.sl i).1 = some ⟨b,0,none⟩ /\ v = .pointer (some ⟨b,idx * sz + off,none⟩)) /\ v.oneCell' = true
 | .pg g off,v => v = .pointer (some ⟨g,off,none⟩)
 | .sd i k,v => ∃ k' e sz es,own i = some (.arr k' e sz es) /\ k <= k' /\ ∃ q,v = .pointer q /\ (k' = k -> es ≠ [] -> q = (pl.sl i).1)
 | .fn f first cap,v => (∀ x ∈ first ++ cap,∃ ty cs,own x.1 = some (.box ty cs)) /\ v = .func (.func f) (first.map (adV pl)).toArray (cap.map (adV pl)).toArray
 | .mp i,v => (∃ ty cs,own i = some (.box ty cs)) /\ v = .map (some (pl.blk i))
 | .yl i,v => (∃ ty cs,own i = some (.box ty cs)) /\ v = .func (.yield (pl.blk i)) #[] #[]
 | .ib t i,v => (∃ ty cs,own i = some (.box ty cs)) /\ v = .iface t (.pointer (some ⟨pl.blk i,0,none⟩))
 | .av i k l n,v => ∃ k' e sz es,own i = some (.arr k' e sz es) /\ k <= k' /\ (k' = k -> l + n <= es.length /\ v = .slice (if (pl.sl i).2 = l then (pl.sl i).1 else (pl.sl i).1.map (·.add (l * sz))) n ((pl.sl i).2 - l)) /\ v.oneCell' = true
 | .nn,v => ∃ t x,v = .iface t x
 | .any,v => v.oneCell' = true
def cZ (w : World) (pl : Pl) (own : Own) : Bool × List C -> Value -> Prop
 | (true,cs),v => ∃ vs : List Value,v = .agg vs.toArray /\ All2 (COk w pl own) cs vs
 | (false,[c]),v => COk w pl own c v
 | _,_ => False
def aV (w : World) (pl : Pl) (own : Own) : SV -> Value -> Prop
 | .c x,v => COk w pl own x v
 | .agg xs,v => ∃ vs : List Value,v = .agg vs.toArray /\ All2 (COk w pl own) xs vs
 | .tup xs,v => ∃ vs : List Value,v = .tuple vs.toArray /\ All2 (cZ w pl own) xs vs
def aGJ (w : World) (pl : Pl) (own : Own) (d : D) (x : Value) : Option C -> Prop
 | none => Rd w (Sh pl own) d x
 | some c => COk w pl own c x
def AllO (w : World) (pl : Pl) (own : Own) (ov : List (Nat × C)) (ds : List D) (xs : List Value) : Prop := ds.length = xs.length /\ ∀ (j : Nat) (d : D) (x : Value),ds[j]? = some d -> xs[j]? = some x -> aGJ w pl own d x (ov.lookup j)
theorem AllO.pure {w : World} {pl : Pl} {own : Own} {ds : List D} {xs : List Value} (h : AllO w pl own [] ds xs) : All2 (Rd w (Sh pl own)) ds xs := h
theorem AllO.of {w : World} {pl : Pl} {own : Own} {ds : List D} {xs : List Value} (h : All2 (Rd w (Sh pl own)) ds xs) : AllO w pl own [] ds xs := h
theorem AllO.mono {w w' : World} {pl pl' : Pl} {own own' : Own} {ov : List (Nat × C)} {ds : List D} {xs : List Value} (h : AllO w pl own ov ds xs) (fc : ∀ {c : C} {v : Value},COk w pl own c v -> COk w' pl' own' c v) (fd : ∀ {d : D} {v : Value},Rd w (Sh pl own) d v -> Rd w' (Sh pl' own') d v) : AllO w' pl' own' ov ds xs :=
 ⟨h.1,fun j d x hd hx => by
  have := h.2 j d x hd hx
  cases ho : ov.lookup j with
  | none => rw [ho] at this; exact fd this
  | some c => rw [ho] at this; exact fc this⟩
theorem lP (f : C -> C) (q : Nat) : ∀ ov : List (Nat × C),(ov.map fun x => (x.1,f x.2)).lookup q = (ov.lookup q).map f
 | [] => rfl
 | y :: r => by
  simp only [mp1,List.lookup]
  split
  rfl
  exact lP f q r
def ownsM (w : World) (B : Nat) (e : TypeId) (sz : Nat) (v : Value) (n : Nat) (xs : List Value) : Prop :=
 xs.length = n * sz /\ ((v = .slice none 0 0 /\ n = 0) \/ ∃ g cap cur,v = .slice (some ⟨g,0,none⟩) n cap /\ B <= g /\ (∃ fz : Nat × Nat,fz.1 = cur.size /\ w.heap[g]? = some (.cells cur e fz)) /\ n <= cap /\ cur.size = cap * sz /\ cur.toList.take (n * sz) = xs)
def mkd (ov : List (Nat × C)) : Bool := ov.any (fun x => x.1 == 4611686018427387904)
theorem aG8 (f : Nat × C -> C) (ov : List (Nat × C)) : mkd (ov.map fun x => (x.1,f x)) = mkd ov := by simp [mkd,List.any_map,Function.comp_def]
def ownsQ (b : Bool) (w : World) (B : Nat) (e : TypeId) (sz : Nat) (v : Value) (n : Nat) (xs : List Value) : Prop := match b with
 | false => w.ownsRow B e sz v n xs
 | true => ownsM w B e sz v n xs
theorem ownsQ.all {b : Bool} {w : World} {B : Nat} {e : TypeId} {sz : Nat} {v : Value} {n : Nat} {xs : List Value} (h : ownsQ b w B e sz v n xs) :
  xs.length = n * sz /\ ((v = .slice none 0 0 /\ n = 0) \/ ∃ g cap cur fz,v = .slice (some ⟨g,0,none⟩) n cap /\ B <= g /\ w.heap[g]? = some (.cells cur e fz) /\ n <= cap /\ cur.size = cap * sz /\ cur.toList.take (n * sz) = xs) := by
 cases b with
 | false =>
  refine ⟨h.1,h.2.imp id ?_⟩
  rintro ⟨g,cap,cur,hv,hB,hg,hn,_,hs,ht⟩
  exact ⟨g,cap,cur,_,hv,hB,hg,hn,hs,ht⟩
 | true =>
  refine ⟨h.1,h.2.imp id ?_⟩
  rintro ⟨g,cap,cur,hv,hB,⟨fz,_,hg⟩,hn,hs,ht⟩
  exact ⟨g,cap,cur,fz,hv,hB,hg,hn,hs,ht⟩
theorem ownsQ.lt {b : Bool} {w : World} {B : Nat} {e : TypeId} {sz : Nat} {v : Value} {n : Nat} {xs : List Value} (h : ownsQ b w B e sz v n xs) : ∀ k,v.ownBlock = some k -> B <= k /\ k < w.heap.size := by
 intro k hk
 rcases h.all.2 with ⟨rfl,_⟩ | ⟨g,cap,cur,fz,rfl,hB,hg,_⟩
 cases hk
 have : g = k := by simpa [Value.ownBlock] using hk
 subst this
 exact ⟨hB,(Array.getElem?_eq_some_iff.1 hg).1⟩
theorem ownsQ.move {b : Bool} {w w' : World} {B : Nat} {e : TypeId} {sz : Nat} {A : Option Addr} {n c : Nat} {xs : List Value} (h : ownsQ b w B e sz (.slice A n c) n xs)
  (hh : ∀ g,A.map (·.block) = some g -> w'.heap[g]? = w.heap[g]?) : ownsQ b w' B e sz (.slice A n c) n xs := by
 cases b with
 | false =>
  refine ⟨h.1,h.2.imp id ?_⟩
  rintro ⟨g,cap,cur,hv,hB,hg,hr⟩
  refine ⟨g,cap,cur,hv,hB,?_,hr⟩
  rw [hh g (by injection hv with hA; rw [hA]; rfl)]; exact hg
 | true =>
  refine ⟨h.1,h.2.imp id ?_⟩
  rintro ⟨g,cap,cur,hv,hB,⟨fz,hf,hg⟩,hr⟩
  refine ⟨g,cap,cur,hv,hB,⟨fz,hf,?_⟩,hr⟩
  rw [hh g (by injection hv with hA; rw [hA]; rfl)]; exact hg
def ObOk (B : Nat) (w : World) (pl : Pl) (own : Own) (i : Nat) : Ob -> Prop
 | .box ty cells => ∃ vs : List Value,ty.k.at (w.heap[pl.blk i]?) vs /\ All2 (COk w pl own) cells vs
 | .arr _ e sz es => ∃ xs : List Value,ownsQ (mkd e.ov) w B e.e sz (.slice (pl.sl i).1 es.length (pl.sl i).2) es.length xs /\ AllO w pl own e.ov es.flatten xs /\ ∀ ds,ds ∈ es -> ds.length = sz
theorem COk.one {w : World} {pl : Pl} {own : Own} {c : C} {v : Value} (h : COk w pl own c v) : v.oneCell' = true := by
 cases c with
 | d x => exact Rd.one h
 | bx i off => rw [h.2]; rfl
 | ar i k => obtain ⟨_,_,_,_,_,_,_,h⟩ := h; exact h
 | pe ds off => obtain ⟨_,_,_,_,_,_,h,_⟩ := h; rw [h]; rfl
 | ea i k idx off => obtain ⟨_,_,_,_,_,_,_,h⟩ := h; exact h
 | pg g off => have h : v = _ := h; rw [h]; rfl
 | sd i k => obtain ⟨_,_,_,_,_,_,q,h,_⟩ := h; rw [h]; rfl
 | fn f first cap => rw [h.2]; rfl
 | mp i => rw [h.2]; rfl
 | yl i => rw [h.2]; rfl
 | ib t i => rw [h.2]; rfl
 | av i k l n => obtain ⟨_,_,_,_,_,_,_,h⟩ := h; exact h
 | nn => obtain ⟨_,_,h⟩ := h; rw [h]; rfl
 | any => exact h
structure Later (w : World) (pl : Pl) (own : Own) (w' : World) (pl' : Pl) (own' : Own) : Prop where
 sh : ∀ b,b < w.heap.size -> Sh pl own b -> w'.heap[b]? = w.heap[b]? /\ Sh pl' own' b
 bx : ∀ i ty cs,own i = some (.box ty cs) -> (∃ ty cs,own' i = some (.box ty cs)) /\ pl'.blk i = pl.blk i
 ar : ∀ i k e sz es,own i = some (.arr k e sz es) -> ∃ k' e' sz' es',own' i = some (.arr k' e' sz' es') /\ k <= k' /\ (k' = k -> es'.length = es.length /\ sz' = sz /\ pl'.sl i = pl.sl i)
abbrev Path := Eng.Path
abbrev Env := Nat -> Option (Path × SV)
structure Fr where
 w0 : World
 X : List (Nat × Nat)
 G : List (Nat × List Value)
 F : Nat -> Prop
 pin : List (Nat × Nat) := []
 ds : List Deferred := []
 lat : List (World × Pl × Own) := []
 free : Bool := false
structure FrIs (fr : Fr) (G : List (Nat × List Value)) (pids : List Nat) : Prop where
 G : fr.G = G
 pin : fr.pin.map (·.1) = pids
 ds : pids = [] -> fr.ds = [] /\ fr.free = false
 lat : fr.lat = []
structure FrOk (fr : Fr) : Prop where
 glob : ∀ g cs,(g,cs) ∈ fr.G -> (∃ ty fz,fr.w0.heap[g]? = some (.cells cs.toArray ty fz)) /\ ∀ i,(i,g) ∉ fr.X
 inW : ∀ i b,(i,b) ∈ fr.X -> b < fr.w0.heap.size
 few : ∀ i b,(i,b) ∈ fr.X -> i < 100
structure Mem (fr : Fr) (own : Own) (w : World) (pl : Pl) : Prop where
 frOk : FrOk fr
 hS : ∀ b,pl.S b ↔ fr.F b \/ fr.w0.heap.size <= b
 obj : ∀ i o,own i = some o -> ObOk 0 w pl own i o
 inj : ∀ i j b,aM pl own i = some b -> aM pl own j = some b -> i = j
 base : ∀ i b,aM pl own i = some b -> fr.w0.heap.size <= b \/ (i,b) ∈ fr.X
 bor : ∀ i b,(i,b) ∈ fr.X -> (∃ ty cs,own i = some (.box ty cs) /\ pl.blk i = b) \/ ∃ k e sz es,own i = some (.arr k e sz es)
 os : w.os = fr.w0.os
 tape : w.tape = fr.w0.tape
 output : w.output = fr.w0.output
 grow : fr.w0.heap.size <= w.heap.size
 keep : ∀ b,b < fr.w0.heap.size -> (∀ i,(i,b) ∉ fr.X) -> w.heap[b]? = fr.w0.heap[b]?
 pin : ∀ i ty cs b,own i = some (.box ty cs) -> ty.pin = some b -> pl.blk i = b
def collD (D : Nat) : Deferred := { target := .collected D,args := #[] }
def Marks (B : Nat) (w : World) (pl : Pl) (own : Own) (ds : List Deferred) : Prop := ∃ Ds : List Nat,ds = Ds.map collD /\ Ds.Nodup /\ ∀ D ∈ Ds,B <= D /\ Sh pl own D /\ w.heap[D]? = some (.deferred (some []))
structure Ok (fr : Fr) (n : Nat) (env : Env) (own : Own) (a : Act) (w : World) (pl : Pl) : Prop where
 mem : Mem fr own w pl
 defers : fr.free = false -> a.defers = fr.ds
 size : a.tmps.size = n
 yes : ∀ t p sv,env t = some (p,sv) -> Eng.Holds a p -> aV w pl own sv (a.tmps.getD t undef)
 no : ∀ t p sv,env t = some (p,sv) -> ¬ Eng.Holds a p -> a.tmps.getD t undef = undef
 late : (∀ q,q ∈ fr.lat -> Later q.1 q.2.1 q.2.2 w pl own) /\ (fr.free = true -> Marks fr.w0.heap.size w pl own a.defers)
section
variable {fr : Fr} {n : Nat} {env : Env} {own : Own} {a : Act} {w w' : World} {pl pl' : Pl}
theorem ObOk.lt {B i : Nat} {o : Ob} (h : ObOk B w pl own i o) (ho : own i = some o) {b : Nat} (hb : aM pl own i = some b) : b < w.heap.size := by
 unfold aM at hb
 rw [ho] at hb
 cases o with
 | box ty cells =>
  obtain ⟨vs,hv,_⟩ := h
  simp only [oIQ] at hb
  subst hb
  obtain ⟨x,hv⟩ := BK.at_some hv
  exact (Array.getElem?_eq_some_iff.1 hv).1
 | arr k e sz es =>
  obtain ⟨xs,hx,_⟩ := h
  refine (ownsQ.lt hx b ?_).2
  simp only [me] at hb
  obtain ⟨ad,hA,rfl⟩ := hb
  rw [hA]; rfl
theorem Mem.blk_lt (h : Mem fr own w pl) {i b : Nat} (hb : aM pl own i = some b) : b < w.heap.size := by
 cases ho : own i with
 | none => unfold aM at hb; rw [ho] at hb; cases hb
 | some o => exact (h.obj i o ho).lt ho hb
variable {own' : Own}
theorem Later.rd (L : Later w pl own w' pl' own') {d : D} {v : Value} (h : Rd w (Sh pl own) d v) : Rd w' (Sh pl' own') d v :=
 Rd.frame (fun b hb hF => (L.sh b hb hF).1) (fun b hb hF => (L.sh b hb hF).2) h
theorem Later.c (L : Later w pl own w' pl' own') {c : C} {v : Value} (h : COk w pl own c v) : COk w' pl' own' c v := by
 cases c with
 | d x => exact L.rd h
 | bx i off =>
  obtain ⟨⟨ty,cs,ho⟩,rfl⟩ := h
  obtain ⟨h1,h2⟩ := L.bx i ty cs ho
  exact ⟨h1,by rw [h2]⟩
 | ar i k =>
  obtain ⟨k',e,sz,es,ho,hk,hv,h1⟩ := h
  obtain ⟨k2,e2,sz2,es2,ho2,hk3,hk2⟩ := L.ar i k' e sz es ho
  refine ⟨k2,e2,sz2,es2,ho2,by omega,fun hk => ?_,h1⟩
  obtain ⟨hl,_,hp⟩ := hk2 (by omega)
  rw [hv (by omega),hl,hp]
 | pe ds off =>
  obtain ⟨b,o,cs,e,fz,us,hv,hF,hb,hd⟩ := h
  have hlt := (Array.getElem?_eq_some_iff.1 hb).1
  exact ⟨b,o,cs,e,fz,us,hv,(L.sh b hlt hF).2,(L.sh b hlt hF).1.trans hb,fun j d hj => ⟨(hd j d hj).1,L.rd (hd j d hj).2⟩⟩
 | ea i k idx off =>
  obtain ⟨k',e,sz,es,ho,hk,hv,h1⟩ := h
  obtain ⟨k2,e2,sz2,es2,ho2,hk3,hk2⟩ := L.ar i k' e sz es ho
  refine ⟨k2,e2,sz2,es2,ho2,by omega,fun hk => ?_,h1⟩
  obtain ⟨hl,hs,hp⟩ := hk2 (by omega)
  obtain ⟨h5,b,h6,h7⟩ := hv (by omega)
  exact ⟨by omega,b,by rw [hp]; exact h6,by rw [hs]; exact h7⟩
 | av i k l n =>
  obtain ⟨k',e,sz,es,ho,hk,hv,h1⟩ := h
  obtain ⟨k2,e2,sz2,es2,ho2,hk3,hk2⟩ := L.ar i k' e sz es ho
  refine ⟨k2,e2,sz2,es2,ho2,by omega,fun hk => ?_,h1⟩
  obtain ⟨hl,hs,hp⟩ := hk2 (by omega)
  obtain ⟨h5,h6⟩ := hv (by omega)
  exact ⟨by omega,by rw [hp,hs]; exact h6⟩
 | pg g off => exact h
 | sd i k =>
  obtain ⟨k',e,sz,es,ho,hk,q,hv,hq⟩ := h
  obtain ⟨k2,e2,sz2,es2,ho2,hk3,hk2⟩ := L.ar i k' e sz es ho
  refine ⟨k2,e2,sz2,es2,ho2,by omega,q,hv,fun hk hne => ?_⟩
  obtain ⟨hl,_,hp⟩ := hk2 (by omega)
  rw [hp]
  exact hq (by omega) (fun he => hne (List.eq_nil_of_length_eq_zero (by rw [hl,he]; rfl)))
 | fn f first cap =>
  obtain ⟨h1,rfl⟩ := h
  have e : ∀ l : List (Nat × Nat),(∀ x ∈ l,∃ ty cs,own x.1 = some (.box ty cs)) -> l.map (adV pl') = l.map (adV pl) := fun l hl => List.map_congr_left fun x hx => by
   obtain ⟨ty,cs,ho⟩ := hl x hx
   simp only [adV,(L.bx x.1 ty cs ho).2]
  refine ⟨fun x hx => ?_,by rw [e first fun x hx => h1 x (List.mem_append.2 (.inl hx)),e cap fun x hx => h1 x (List.mem_append.2 (.inr hx))]⟩
  obtain ⟨ty,cs,ho⟩ := h1 x hx
  exact (L.bx x.1 ty cs ho).1
 | mp i =>
  obtain ⟨⟨ty,cs,ho⟩,rfl⟩ := h
  obtain ⟨h1,h2⟩ := L.bx i ty cs ho
  exact ⟨h1,by rw [h2]⟩
 | yl i =>
  obtain ⟨⟨ty,cs,ho⟩,rfl⟩ := h
  obtain ⟨h1,h2⟩ := L.bx i ty cs ho
  exact ⟨h1,by rw [h2]⟩
 | ib t i =>
  obtain ⟨⟨ty,cs,ho⟩,rfl⟩ := h
  obtain ⟨h1,h2⟩ := L.bx i ty cs ho
  exact ⟨h1,by rw [h2]⟩
 | nn => exact h
 | any => exact h
theorem Later.part (L : Later w pl own w' pl' own') {c : Bool × List C} {v : Value} (h : cZ w pl own c v) : cZ w' pl' own' c v := by
 unfold cZ at h ⊢
 split at h
 obtain ⟨vs,hv,h2⟩ := h; exact ⟨vs,hv,h2.mono fun _ _ h => L.c h⟩
 exact L.c h
 exact h.elim
theorem Later.sv (L : Later w pl own w' pl' own') {c : SV} {v : Value} (h : aV w pl own c v) : aV w' pl' own' c v := by
 cases c with
 | c x => exact L.c h
 | agg xs => obtain ⟨vs,hv,h2⟩ := h; exact ⟨vs,hv,h2.mono fun _ _ h => L.c h⟩
 | tup xs => obtain ⟨vs,hv,h2⟩ := h; exact ⟨vs,hv,h2.mono fun _ _ h => L.part h⟩
theorem Later.trans {w2 : World} {pl2 : Pl} {own2 : Own} (h : Later w pl own w' pl' own') (h2 : Later w' pl' own' w2 pl2 own2) : Later w pl own w2 pl2 own2 := by
 refine ⟨fun b hb hs => ?_,fun i ty cs ho => ?_,fun i k e sz es ho => ?_⟩
 obtain ⟨h3,h4⟩ := h.sh b hb hs
 have hb' : b < w'.heap.size := by
  rw [Array.getElem?_eq_getElem hb] at h3
  exact (Array.getElem?_eq_some_iff.1 h3).1
 obtain ⟨h5,h6⟩ := h2.sh b hb' h4
 exact ⟨h5.trans h3,h6⟩
 obtain ⟨⟨ty',cs',h3⟩,h4⟩ := h.bx i ty cs ho
 obtain ⟨h5,h6⟩ := h2.bx i ty' cs' h3
 exact ⟨h5,h6.trans h4⟩
 obtain ⟨k1,e1,sz1,es1,h3,h4,h5⟩ := h.ar i k e sz es ho
 obtain ⟨k2,e2,sz2,es2,h6,h7,h8⟩ := h2.ar i k1 e1 sz1 es1 h3
 refine ⟨k2,e2,sz2,es2,h6,by omega,fun hk => ?_⟩
 obtain ⟨a1,a2,a3⟩ := h5 (by omega)
 obtain ⟨b1,b2,b3⟩ := h8 (by omega)
 exact ⟨b1.trans a1,b2.trans a2,b3.trans a3⟩
theorem Marks.later {B : Nat} {ds : List Deferred} (h : Marks B w pl own ds) (L : Later w pl own w' pl' own') : Marks B w' pl' own' ds := by
 obtain ⟨Ds,h1,h2,h3⟩ := h
 refine ⟨Ds,h1,h2,fun D hD => ?_⟩
 obtain ⟨hB,a,b⟩ := h3 D hD
 obtain ⟨c,d⟩ := L.sh D (Array.getElem?_eq_some_iff.1 b).1 a
 exact ⟨hB,d,c.trans b⟩
theorem Later.refl (w : World) (pl : Pl) (own : Own) : Later w pl own w pl own := ⟨fun _ _ h => ⟨rfl,h⟩,fun _ ty cs h => ⟨⟨ty,cs,h⟩,rfl⟩,fun _ k e sz es h => ⟨k,e,sz,es,h,lr _,fun _ => ⟨rfl,rfl,rfl⟩⟩⟩
end
end Go.V
