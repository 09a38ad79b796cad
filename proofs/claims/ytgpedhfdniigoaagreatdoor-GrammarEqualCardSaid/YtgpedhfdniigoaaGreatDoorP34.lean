/- Part 34 of the proof. -/
import Derived.Test.YtgpedhfdniigoaaGreatDoorP30
import Derived.Test.YtgpedhfdniigoaaGreatDoorP31
import Derived.Lib.AppendZerosOnto
import Derived.RangeFuncNested
set_option linter.all false
namespace Go.V
open Go.RowKit
def aA6 (P : Program) (fr : Fr) (n : Nat) (ops : Array Oper) (i : Nat) (r : Rec) (envi : Env) (owni : Own) : Prop :=
 ∀ (env : Env) (own : Own) (a : Act) (w : World) (pl : Pl),Ok fr n env own a w pl -> (∀ u ∈ r.uses,env u = envi u) -> (∀ j ∈ r.touch,own j = owni j) ->
  (∀ t,r.dst = some t -> ∀ u q sv,env u = some (q,sv) -> u ≠ t -> ∀ x ∈ q,x.1 ≠ t) -> ∀ K : Act -> World -> Prop,(∀ a' w' pl',Ok fr n (d6 env r) (aY own r.upd) a' w' pl' -> K a' w') -> fK P ops i K a w
structure RecsOk (P : Program) (fr : Fr) (n : Nat) (ops : Array Oper) (rs : List Rec) (env : Env) (own : Own) (env' : Env) (own' : Own) : Prop where
 len : rs.length = ops.size
 envE : env' = cA rs (fun _ => true) 0 env
 ownE : own' = bW rs (fun _ => true) 0 own
 each : ∀ (i : Nat) (r : Rec),rs[i]? = some r -> ∃ envi owni,aA6 P fr n ops i r envi owni /\ envi = cA rs (fun j => decide (j < i)) 0 env /\ owni = bW rs (fun j => decide (j < i)) 0 own
 keysT : ∀ (i : Nat) (r : Rec),rs[i]? = some r -> ∀ x ∈ keys r.upd,x ∈ r.touch
 sub : ∀ (i : Nat) (r : Rec),rs[i]? = some r -> ∀ x,x ∈ slots r -> x ∈ r.uses
def okB : Nat -> List Rec -> List Nat -> Bool
 | _,[],_ => true
 | i,a :: r,_ :: ms => aFG a i r ms && okB (i + 1) r ms
 | _,_ :: _,[] => false
theorem zZ : ∀ {l : List Rec} {ms : List Nat} {k i j : Nat} {a b : Rec},okB k l ms = true -> l[i]? = some a -> l[j]? = some b -> i < j -> ∃ m,ms[j]? = some m /\ (m.testBit (k + i) = true \/ o7 a b = true)
 | [],ms,k,i,j,a,b,_,h,_,_ => by simp at h
 | x :: r,[],k,i,j,a,b,h,_,_,_ => by simp [okB] at h
 | x :: r,m :: ms,k,0,j,a,b,h,hi,hj,hlt => by
  simp only [okB,bIQ] at h
  obtain ⟨j,rfl⟩ : ∃ j',j = j' + 1 := ⟨j - 1,by omega⟩
  simp only [cz,oIQ] at hi
  subst hi
  simpa using sL h.1 (by simpa using hj)
 | x :: r,m :: ms,k,i + 1,j,a,b,h,hi,hj,hlt => by
  simp only [okB,bIQ] at h
  obtain ⟨j,rfl⟩ : ∃ j',j = j' + 1 := ⟨j - 1,by omega⟩
  obtain ⟨m',h1,h2⟩ := zZ h.2 (by simpa using hi) (by simpa using hj) (by omega)
  exact ⟨m',by simpa using h1,by rw [show k + (i + 1) = k + 1 + i by omega]; exact h2⟩
theorem iM : ∀ (rs : List Rec) (D : Nat -> Bool) (_ : ∀ j,D j = false) (k : Nat) (e : Env),cA rs D k e = e
 | [],_,_,_,_ => rfl
 | y :: ys,D,h,k,e => by simp only [cA,h k,Bool.false_eq_true,if_false]; exact iM ys D h (k + 1) e
theorem iE : ∀ (rs : List Rec) (D : Nat -> Bool) (_ : ∀ j,D j = false) (k : Nat) (e : Own),bW rs D k e = e
 | [],_,_,_,_ => rfl
 | y :: ys,D,h,k,e => by simp only [bW,h k,Bool.false_eq_true,if_false]; exact iE ys D h (k + 1) e
section
variable {P : Program} {fr : Fr} {n : Nat} {ops : Array Oper}
theorem vE {env env' : Env} {own own' : Own} {rs : List Rec} (h : RecsOk P fr n ops rs env own env' own') {i : Nat} (hi : i < ops.size) : ∃ r,rs[i]? = some r := ⟨rs[i]'(by rw [h.len]; exact hi),ge _⟩
theorem stepX {env env' : Env} {own own' own0 : Own} {rs : List Rec} (h : RecsOk P fr n ops rs env own env' own') (hag : ∀ (i : Nat) (r : Rec),rs[i]? = some r -> ∀ x ∈ r.touch,own0 x = own x) (henv : ∀ u q sv,env u = some (q,sv) -> q = [])
  {D : Nat -> Bool} {i : Nat} {r : Rec} (hr : rs[i]? = some r) (hDi : D i = false)
  (hlow : ∀ j b,j < i -> rs[j]? = some b -> (b.dst.any (fun t => r.uses.contains t) || (keys b.upd).any (fun x => r.touch.contains x)) = true -> D j = true)
  (hhigh : ∀ j b,i < j -> rs[j]? = some b -> (b.dst.any (fun t => r.uses.contains t || r.dst == some t) || (keys b.upd).any (fun x => r.touch.contains x || (keys r.upd).contains x) || r.dst.any (fun t => (slots b).contains t)) = true -> D j = false)
  (hpath : ∀ j b,j < i -> rs[j]? = some b -> r.dst.any (fun t => (slots b).contains t) = false)
  {a : Act} {w : World} {pl : Pl} (hok : Ok fr n (cA rs D 0 env) (bW rs D 0 own0) a w pl) {K : Act -> World -> Prop}
  (hK : ∀ a' w' pl',Ok fr n (cA rs (cE D i) 0 env) (bW rs (cE D i) 0 own0) a' w' pl' -> K a' w') : fK P ops i K a w := by
 obtain ⟨h1,h2,h3,h4,_⟩ := h
 obtain ⟨envi,owni,hrec,he,hw⟩ := h4 i r hr
 have hDu : ∀ u ∈ r.uses,∀ j b,rs[j]? = some b -> b.dst = some u -> D (0 + j) = decide (0 + j < i) := by
  intro u hu j b hj hb
  rw [Nat.zero_add]
  rcases Nat.lt_trichotomy j i with hlt | rfl | hgt
  ·rw [decide_eq_true hlt]
   exact hlow j b hlt hj (by simp [hb,hu])
  ·rw [hDi,decide_eq_false (by omega)]
  ·rw [decide_eq_false (by omega)]
   exact hhigh j b hgt hj (by simp [hb,hu])
 refine hrec _ _ a w pl hok (fun u hu => ?_) (fun x hx => ?_) (fun t ht u q sv hq hne x hx hxt => ?_) K (fun a' w' pl' hok' => hK a' w' pl' ?_)
 ·rw [he]
  exact dB rs _ _ 0 _ _ u rfl (hDu u hu)
 ·rw [hw]
  refine c8 rs _ _ 0 _ _ x (hag i r hr x hx) (fun j b hj hb => ?_)
  rw [Nat.zero_add]
  rcases Nat.lt_trichotomy j i with hlt | rfl | hgt
  ·rw [decide_eq_true hlt]
   exact hlow j b hlt hj (by simp only [Bool.or_eq_true,List.any_eq_true]; exact .inr ⟨x,hb,by simpa using hx⟩)
  ·rw [hDi,decide_eq_false (by omega)]
  ·rw [decide_eq_false (by omega)]
   exact hhigh j b hgt hj (by simp only [Bool.or_eq_true,List.any_eq_true]; exact .inl (.inr ⟨x,hb,.inl (by simpa using hx)⟩))
 ·rcases oF rs D 0 _ u q sv hq with h5 | ⟨j,b,h5,h6,h7,rfl⟩
  ·rw [henv u q sv h5] at hx; cases hx
  ·rw [Nat.zero_add] at h6
   have hsl : (slots b).contains t = true := by
    simp only [slots,List.contains_iff_mem,mmQ]
    exact ⟨x,hx,hxt⟩
   rcases Nat.lt_trichotomy j i with hlt | rfl | hgt
   ·have := hpath j b hlt h5
    rw [ht] at this
    simp only [Option.any_some,hsl] at this
    cases this
   ·rw [hDi] at h6; cases h6
   ·have := hhigh j b hgt h5 (by rw [ht]; simp only [Option.any_some,hsl,Bool.or_true])
    rw [this] at h6; cases h6
 ·
  have e1 : d6 (cA rs D 0 env) r = cA rs (cE D i) 0 env := by
   funext u
   by_cases hu : r.dst = some u
   ·rw [oE rs (cE D i) 0 _ u i r hr hu (by simp [cE]) (fun j b hj hb hbu => by
     rw [Nat.zero_add]
     simp only [cE,if_neg (show j ≠ i by omega)]
     exact hhigh j b hj hb (by simp [hbu,hu]))]
    simp only [d6,hu]
    exact upd_same _ _ _
   ·have hp : d6 (cA rs D 0 env) r u = cA rs D 0 env u := by
     unfold d6
     cases hd' : r.dst with
     | none => rfl
     | some t => exact upd_ne _ _ (fun e => hu (by rw [hd',e]))
    rw [hp]
    refine dB rs _ _ 0 _ _ u rfl (fun j b hj hb => ?_)
    rw [Nat.zero_add]
    have : j ≠ i := fun e => by subst e; rw [hr] at hj; injection hj with hj; rw [hj] at hu; exact hu hb
    simp [cE,this]
  have e2 : aY (bW rs D 0 own0) r.upd = bW rs (cE D i) 0 own0 := by
   funext x
   by_cases hu : x ∈ keys r.upd
   ·exact (nT rs (cE D i) 0 _ _ x i r hr hu (by simp [cE]) (fun j b hj hb hbu => by
     rw [Nat.zero_add]
     simp only [cE,if_neg (show j ≠ i by omega)]
     exact hhigh j b hj hb (by simp only [Bool.or_eq_true,List.any_eq_true]; exact .inl (.inr ⟨x,hbu,.inr (by simpa using hu)⟩)))).symm
   ·rw [fO _ _ x hu]
    refine c8 rs _ _ 0 _ _ x rfl (fun j b hj hb => ?_)
    rw [Nat.zero_add]
    have : j ≠ i := fun e => by subst e; rw [hr] at hj; injection hj with hj; rw [hj] at hu; exact hu hb
    simp [cE,this]
  rw [<- e1,<- e2]
  exact hok'
theorem textX {K : Act -> World -> Prop} {env env' : Env} {own own' own0 : Own} {rs : List Rec} (h : RecsOk P fr n ops rs env own env' own') (hag : ∀ (i : Nat) (r : Rec),rs[i]? = some r -> ∀ x ∈ r.touch,own0 x = own x) (henv : ∀ u q sv,env u = some (q,sv) -> q = []) (hT : okT rs = true)
  (hQ : ∀ a w pl,Ok fr n env' ((bW rs (fun _ => true) 0 own0)) a w pl -> K a w) : ∀ (m i : Nat),i + m = ops.size -> ∀ a w pl,Ok fr n (cA rs (fun j => decide (j < i)) 0 env) (bW rs (fun j => decide (j < i)) 0 own0) a w pl -> dR P ops K (List.range' i m) a w := by
 intro m
 obtain ⟨h1,h2,h3,h4,_⟩ := id h
 induction m with
 | zero =>
  intro i hi a w pl hok
  simp only [List.range'_zero,dR]
  refine hQ a w pl ?_
  have hlt : ∀ j r,rs[j]? = some r -> (0 + j) < i := by
   intro j r hj
   have := (gsQ.1 hj).1
   omega
  have e1 : cA rs (fun j => decide (j < i)) 0 env = env' := by
   rw [h2]
   funext u
   exact dB rs _ _ 0 _ _ u rfl (fun j r hj _ => decide_eq_true (hlt j r hj))
  have e2 : bW rs (fun j => decide (j < i)) 0 own0 = (bW rs (fun _ => true) 0 own0) := by
   funext u
   exact c8 rs _ _ 0 _ _ u rfl (fun j r hj _ => decide_eq_true (hlt j r hj))
  rw [<- e1,<- e2]
  exact hok
 | succ m ih =>
  intro i hi a w pl hok
  rw [List.range'_succ,dR]
  obtain ⟨r,hr⟩ := vE h (i := i) (by omega)
  refine stepX h hag henv hr (D := fun j => decide (j < i)) (by simp) (fun j b hj _ _ => by simpa using hj) (fun j b hj _ _ => by simp; omega) (fun j b hj hb => ?_) hok (fun a' w' pl' hok' => ?_)
  have := mS hT hb hr hj
  unfold lL at this
  cases hd : r.dst with
  | none => rfl
  | some t =>
   rw [hd] at this
   simp only [Option.any_some]
   simpa using this
  have e : cE (fun j => decide (j < i)) i = fun j => decide (j < i + 1) := by
   funext j
   by_cases hj : j = i
   subst hj; simp [cE]
   simp only [cE,if_neg hj]
   congr 1
   simp only [eq_iff_iff]
   omega
  rw [e] at hok'
  exact ih (i + 1) (by omega) a' w' pl' hok'
theorem anyX {K : Act -> World -> Prop} {env env' : Env} {own own' own0 : Own} {rs : List Rec} (h : RecsOk P fr n ops rs env own env' own') (hag : ∀ (i : Nat) (r : Rec),rs[i]? = some r -> ∀ x ∈ r.touch,own0 x = own x) (henv : ∀ u q sv,env u = some (q,sv) -> q = []) (hT : okT rs = true) (hA : okB 0 rs (bef ops) = true) (hE : fI 0 ops.toList = true)
  (hQ : ∀ a w pl,Ok fr n env' ((bW rs (fun _ => true) 0 own0)) a w pl -> K a w) : ∀ (fuel : Nat) (listed : Array Bool),listed.size = ops.size -> (List.range ops.size).countP (fun i => !listed.getD i false) <= fuel ->
   (∀ i o,ops[i]? = some o -> listed.getD i false = true -> ∀ e ∈ o.after,Region.binds .any e = true -> listed.getD e.on false = true) ->
   ∀ a w pl,Ok fr n (cA rs (fun j => listed.getD j false) 0 env) (bW rs (fun j => listed.getD j false) 0 own0) a w pl -> rA P .any ops K fuel listed a w := by
 obtain ⟨h1,h2,h3,h4,hkt,hsl⟩ := id h
 have hlen : rs.length = ops.size := h1
 have fin : ∀ (listed : Array Bool),(∀ i,i < ops.size -> listed.getD i false = true) -> ∀ a w pl,Ok fr n (cA rs (fun j => listed.getD j false) 0 env) (bW rs (fun j => listed.getD j false) 0 own0) a w pl -> K a w := by
  intro listed hall a w pl hok
  refine hQ a w pl ?_
  have hlt : ∀ j r,rs[j]? = some r -> listed.getD (0 + j) false = true := by
   intro j r hj
   have := (gsQ.1 hj).1
   rw [Nat.zero_add]
   exact hall j (by omega)
  have e1 : cA rs (fun j => listed.getD j false) 0 env = env' := by
   rw [h2]
   funext u
   exact dB rs _ _ 0 _ _ u rfl (fun j r hj _ => hlt j r hj)
  have e2 : bW rs (fun j => listed.getD j false) 0 own0 = (bW rs (fun _ => true) 0 own0) := by
   funext u
   exact c8 rs _ _ 0 _ _ u rfl (fun j r hj _ => hlt j r hj)
  rw [<- e1,<- e2]
  exact hok
 have rdy : ∀ (listed : Array Bool),listed.size = ops.size -> Region.ready .any ops listed = [] -> ∀ i,i < ops.size -> listed.getD i false = true := by
  intro listed hsz hr i
  induction i using Nat.strongRecOn with
  | _ i ih =>
   intro hi
   cases hb : listed.getD i false with
   | true => rfl
   | false =>
    exfalso
    have hmem : i ∈ Region.ready .any ops listed := by
     rw [mem_ready]
     refine ⟨?_,ops[i],Array.getElem?_eq_getElem hi,fun e he hbd => ?_⟩
     have : i < listed.size := by omega
     simp only [Array.getD,this,dif_pos] at hb ⊢
     exact hb
     have := j5 hE (i := i) (o := ops[i]) (by simp [hi]) e he hbd
     exact ih e.on (by omega) (by omega)
    rw [hr] at hmem
    cases hmem
 intro fuel
 induction fuel with
 | zero =>
  intro listed hsz hcnt hcl a w pl hok
  have hall : ∀ i,i < ops.size -> listed.getD i false = true := by
   intro i hi
   have h0 : (List.range ops.size).countP (fun i => !listed.getD i false) = 0 := by omega
   rw [List.countP_eq_zero] at h0
   have := h0 i (List.mem_range.2 hi)
   simpa using this
  refine ⟨?_,fin listed hall a w pl hok⟩
  rw [List.eq_nil_iff_forall_not_mem]
  intro i hi
  obtain ⟨h5,o,ho,_⟩ := mem_ready.1 hi
  have hlt := (Array.getElem?_eq_some_iff.1 ho).1
  have h6 := hall i hlt
  have : i < listed.size := by omega
  simp only [Array.getD,this,dif_pos] at h5 h6
  rw [h5] at h6
  cases h6
 | succ fuel ih =>
  intro listed hsz hcnt hcl a w pl hok
  refine ⟨fun hr => fin listed (rdy listed hsz hr) a w pl hok,fun i hi => ?_⟩
  obtain ⟨h5,o,ho,hedge⟩ := mem_ready.1 hi
  have hlt := (Array.getElem?_eq_some_iff.1 ho).1
  have hltl : i < listed.size := by omega
  have hDi : listed.getD i false = false := by
   simp only [Array.getD,hltl,dif_pos] at h5 ⊢
   exact h5
  obtain ⟨r,hr⟩ := vE h hlt
  have hmarked : (fun j => (listed.setIfInBounds i true).getD j false) = cE (fun j => listed.getD j false) i := by
   funext j
   by_cases hj : j = i
   subst hj; simp [cE,hltl]
   simp only [cE,if_neg hj]; exact getD_set_ne false (Ne.symm hj)
  have hbef : ∀ b,(bef ops)[i]? = some b -> ∀ j,b.testBit j = true -> listed.getD j false = true :=
   fun b hb => jC (D := fun j => listed.getD j false) hcl i o b ho hb hedge
  have haft : ∀ j m,(bef ops)[j]? = some m -> m.testBit i = true -> listed.getD j false = false := by
   intro j m hm hbit
   cases hb : listed.getD j false with
   | false => rfl
   | true =>
    exfalso
    have hjl : j < ops.size := by
     rcases Nat.lt_or_ge j listed.size with h' | h'
     omega
     simp [Array.getD,Nat.not_lt.2 h'] at hb
    have := jC (D := fun j => listed.getD j false) hcl j ops[j] m (Array.getElem?_eq_getElem hjl) hm (hcl j _ (Array.getElem?_eq_getElem hjl) hb) i hbit
    rw [hDi] at this
    cases this
  refine stepX h hag henv hr (D := fun j => listed.getD j false) hDi (fun j b hj hb hd => ?_) (fun j b hj hb hd => ?_) (fun j b hj hb => ?_) hok (fun a' w' pl' hok' => ?_)
  obtain ⟨m,hm,hor⟩ := zZ hA hb hr hj
  rw [Nat.zero_add] at hor
  rcases hor with hbit | hind
  exact hbef m hm j hbit
  exfalso
  simp only [o7,bIQ] at hind
  obtain ⟨⟨⟨hi1,hi2⟩,hi3⟩,hi4⟩ := hind
  simp only [Bool.or_eq_true] at hd
  rcases hd with hd | hd
  cases hbd : b.dst with
  | none => rw [hbd] at hd; cases hd
  | some t =>
   rw [hbd] at hd hi1
   simp only [Option.any_some] at hd
   simp at hi1
   exact hi1.1 (by simpa using hd)
  obtain ⟨x,hx,hxt⟩ := List.any_eq_true.1 hd
  have := at1.1 hi3 x hx
  rw [hxt] at this
  cases this
  obtain ⟨m,hm,hor⟩ := zZ hA hr hb hj
  rw [Nat.zero_add] at hor
  rcases hor with hbit | hind
  exact haft j m hm hbit
  exfalso
  simp only [o7,bIQ] at hind
  obtain ⟨⟨⟨hi1,hi2⟩,hi3⟩,hi4⟩ := hind
  simp only [Bool.or_eq_true] at hd
  rcases hd with (hd | hd) | hd
  cases hbd : b.dst with
  | none => rw [hbd] at hd; cases hd
  | some t =>
   rw [hbd] at hd hi2
   simp only [Option.any_some,Bool.or_eq_true] at hd
   rcases hd with hd | hd
   simp only [hd] at hi2; cases hi2
   simp only [beq_iff_eq] at hd
   rw [hd,hbd] at hi1
   simp at hi1
  obtain ⟨x,hx,hxt⟩ := List.any_eq_true.1 hd
  have h7 := at1.1 hi4 x hx
  simp only [Bool.or_eq_true] at hxt
  rcases hxt with hxt | hxt
  rw [hxt] at h7; cases h7
  have h8 : x ∈ keys r.upd := by simpa using hxt
  have h9 := hkt i r hr x h8
  have : r.touch.contains x = true := by simpa using h9
  rw [this] at h7
  cases h7
  cases hrd : r.dst with
  | none => rw [hrd] at hd; cases hd
  | some t =>
   rw [hrd] at hd hi1
   simp only [Option.any_some] at hd
   simp only [bIQ] at hi1
   have hsub : ∀ x,x ∈ slots b -> x ∈ b.uses := hsl j b hb
   have := hsub t (by simpa using hd)
   have h7 : b.uses.contains t = true := by simpa using this
   rw [h7] at hi1
   cases hi1.1
  have := mS hT hb hr hj
  unfold lL at this
  cases hd : r.dst with
  | none => rfl
  | some t =>
   rw [hd] at this
   simp only [Option.any_some]
   simpa using this
  refine ih _ (by simp [hsz]) ?_ ?_ a' w' pl' ?_
  have hsplit : (List.range ops.size).countP (fun j => !(listed.setIfInBounds i true).getD j false) + 1 = (List.range ops.size).countP (fun j => !listed.getD j false) := by
   have hm : ∀ (l : List Nat),l.Nodup -> i ∈ l -> l.countP (fun j => !(listed.setIfInBounds i true).getD j false) + 1 = l.countP (fun j => !listed.getD j false) := by
    intro l
    induction l with
    | nil => intro _ h; cases h
    | cons x r ihl =>
     intro hn hi
     rw [List.nodup_cons] at hn
     by_cases hx : x = i
     subst hx
     have hsame : r.countP (fun j => !(listed.setIfInBounds x true).getD j false) = r.countP (fun j => !listed.getD j false) := by
      refine List.countP_congr (fun j hj => ?_)
      have : x ≠ j := fun e => hn.1 (by rw [e]; exact hj)
      rw [getD_set_ne false this]
     have hs : (listed.setIfInBounds x true).getD x false = true := by simp [hltl]
     rw [List.countP_cons_of_neg (by simp [hs]),List.countP_cons_of_pos (by simp [hDi]),hsame]
     have hir : i ∈ r := (mc.1 hi).resolve_left (fun e => hx e.symm)
     have := ihl hn.2 hir
     rw [List.countP_cons,List.countP_cons,getD_set_ne false (fun e => hx e.symm)]
     omega
   exact hm _ List.nodup_range (List.mem_range.2 hlt)
  omega
  intro j o' hj hdone e he hbd
  by_cases hji : j = i
  subst hji
  rw [ho] at hj
  injection hj with hj
  subst hj
  exact getD_set_true (hedge e he hbd)
  rw [getD_set_ne false (Ne.symm hji)] at hdone
  exact getD_set_true (hcl j o' hj hdone e he hbd)
  rw [hmarked]; exact hok'
theorem aBS {env env' : Env} {own own' own0 : Own} {rs : List Rec} (h : RecsOk P fr n ops rs env own env' own') (hag : ∀ (i : Nat) (r : Rec),rs[i]? = some r -> ∀ x ∈ r.touch,own0 x = own x) (henv : ∀ u q sv,env u = some (q,sv) -> q = [])
  (hT : okT rs = true) {K : Act -> World -> Prop} {a : Act} {w : World} {pl : Pl} (hok : Ok fr n env own0 a w pl)
  (hQ : ∀ a w pl,Ok fr n env' (bW rs (fun _ => true) 0 own0) a w pl -> K a w) : dR P ops K (List.range ops.size) a w := by
 have h0 : ∀ e : Env,cA rs (fun j => decide (j < 0)) 0 e = e := fun e => iM rs _ (fun j => by simp) 0 e
 have h0' : ∀ e : Own,bW rs (fun j => decide (j < 0)) 0 e = e := fun e => iE rs _ (fun j => by simp) 0 e
 rw [List.range_eq_range']
 exact textX h hag henv hT hQ ops.size 0 (by omega) a w pl (by rw [h0,h0']; exact hok)
theorem aKK {R : Wp P} {id : Nat} {draw : Bool} (hm : P.follows .mixedOrders = true) {env env' : Env} {own own' own0 : Own} {rs : List Rec} (h : RecsOk P fr n ops rs env own env' own') (hag : ∀ (i : Nat) (r : Rec),rs[i]? = some r -> ∀ x ∈ r.touch,own0 x = own x) (henv : ∀ u q sv,env u = some (q,sv) -> q = [])
  (hT : okT rs = true) (hA : draw = true -> okB 0 rs (bef ops) = true /\ fI 0 ops.toList = true) (hnd : d3 ops = true) {Q : Exit -> Act -> World -> Prop} {a : Act} {w : World} {pl : Pl} (hok : Ok fr n env own0 a w pl)
  (hQ : ∀ a w pl,Ok fr n env' (bW rs (fun _ => true) 0 own0) a w pl -> Q .normal a w) : R.wp (Code.region id ops draw) Q a w := by
 have h0 : ∀ e : Env,cA rs (fun j => decide (j < 0)) 0 e = e := fun e => iM rs _ (fun j => by simp) 0 e
 have h0' : ∀ e : Own,bW rs (fun j => decide (j < 0)) 0 e = e := fun e => iE rs _ (fun j => by simp) 0 e
 cases draw with
 | false =>
  refine R.region hnd ?_
  rw [List.range_eq_range']
  exact textX h hag henv hT hQ ops.size 0 (by omega) a w pl (by rw [h0,h0']; exact hok)
 | true =>
  obtain ⟨hA,hE⟩ := hA rfl
  refine R.any hm hnd ?_
  have hz : ∀ j,(Array.replicate ops.size false).getD j false = false := by
   intro j
   simp only [Array.getD_eq_getD_getElem?,Array.getElem?_replicate]
   split <;> rfl
  have hg : w.grownBy { w with drawn := w.drawn + 1 } none := ⟨rfl,rfl,rfl,lr _,fun _ _ _ => rfl⟩
  obtain ⟨m',L⟩ := hok.mem.ext hg
  refine anyX h hag henv hT hA hE hQ ops.size _ (by simp) ?_ (fun i o _ hd => by rw [hz] at hd; cases hd) a _ pl ?_
  exact Nat.le_trans List.countP_le_length (by simp)
  rw [iM rs _ hz 0,iE rs _ hz 0]
  exact hok.later m' L
end
end Go.V
namespace Go.V
open Go.RowKit
inductive Tr (α : Type) where
 | e
 | n (v : Option α) (l r : Tr α)
def Tr.get {α : Type} : Tr α -> Nat -> Option α
 | .e,_ => none
 | .n v l r,i => bif Nat.beq i 0 then v else bif Nat.beq (i % 2) 1 then l.get (i / 2) else r.get (i / 2 - 1)
def Tr.put {α : Type} (x : Option α) : Nat -> Tr α -> Nat -> Tr α
 | 0,t,_ => t
 | f + 1,.e,i => bif Nat.beq i 0 then .n x .e .e else bif Nat.beq (i % 2) 1 then .n none (Tr.put x f .e (i / 2)) .e else .n none .e (Tr.put x f .e (i / 2 - 1))
 | f + 1,.n v l r,i => bif Nat.beq i 0 then .n x l r else bif Nat.beq (i % 2) 1 then .n v (Tr.put x f l (i / 2)) r else .n v l (Tr.put x f r (i / 2 - 1))
theorem lA {i j : Nat} : (Nat.beq i j = true) = (i = j) := by simp [Nat.beq_eq]
theorem eB {α : Type} {i j : Nat} {x y : α} : (bif Nat.beq i j then x else y) = if i = j then x else y := by
 by_cases h : i = j
 subst h; simp [Nat.beq_refl]
 have : Nat.beq i j = false := by
  cases hb : Nat.beq i j with
  | false => rfl
  | true => exact absurd (Nat.eq_of_beq_eq_true hb) h
 rw [this,if_neg h]; rfl
theorem Tr.get_put {α : Type} (x : Option α) : ∀ (f : Nat) (t : Tr α) (i j : Nat),i + 1 < 2 ^ f -> (Tr.put x f t i).get j = if j = i then x else t.get j
 | 0,t,i,j,h => by simp at h
 | f + 1,t,i,j,h => by
  have h2 : 2 ^ (f + 1) = 2 * 2 ^ f := by rw [Nat.pow_succ]; omega
  cases t with
  | e =>
   simp only [Tr.put,eB]
   split
   rename_i hi
   subst hi
   simp only [Tr.get,eB]
   split
   rename_i hj; simp [hj]
   rename_i hj; simp [hj,Tr.get]
   rename_i hi
   split
   rename_i ho
   simp only [Tr.get,eB]
   by_cases hj : j = 0
   simp only [hj,if_true]; rw [if_neg (by omega)]
   rw [if_neg hj]
   by_cases hjo : j % 2 = 1
   rw [if_pos hjo,Tr.get_put x f .e (i / 2) (j / 2) (by omega)]
   by_cases hji : j = i
   simp [hji]
   rw [if_neg (show ¬ j / 2 = i / 2 by omega),if_neg hji]; simp [Tr.get]
   rw [if_neg hjo,if_neg (by omega)]
   rename_i ho
   simp only [Tr.get,eB]
   by_cases hj : j = 0
   simp only [hj,if_true]; rw [if_neg (by omega)]
   rw [if_neg hj]
   by_cases hjo : j % 2 = 1
   rw [if_pos hjo,if_neg (by omega)]
   rw [if_neg hjo,Tr.get_put x f .e (i / 2 - 1) (j / 2 - 1) (by omega)]
   by_cases hji : j = i
   simp [hji]
   rw [if_neg (show ¬ j / 2 - 1 = i / 2 - 1 by omega),if_neg hji]; simp [Tr.get]
  | n v l r =>
   simp only [Tr.put,eB]
   split
   rename_i hi
   subst hi
   simp only [Tr.get,eB]
   split
   rename_i hj; simp [hj]
   rename_i hj; simp [hj]
   rename_i hi
   split
   rename_i ho
   simp only [Tr.get,eB]
   by_cases hj : j = 0
   simp only [hj,if_true]; rw [if_neg (by omega)]
   rw [if_neg hj,if_neg hj]
   by_cases hjo : j % 2 = 1
   rw [if_pos hjo,if_pos hjo,Tr.get_put x f l (i / 2) (j / 2) (by omega)]
   by_cases hji : j = i
   simp [hji]
   rw [if_neg (show ¬ j / 2 = i / 2 by omega),if_neg hji]
   rw [if_neg hjo,if_neg hjo,if_neg (by omega)]
   rename_i ho
   simp only [Tr.get,eB]
   by_cases hj : j = 0
   simp only [hj,if_true]; rw [if_neg (by omega)]
   rw [if_neg hj,if_neg hj]
   by_cases hjo : j % 2 = 1
   rw [if_pos hjo,if_pos hjo,if_neg (by omega)]
   rw [if_neg hjo,if_neg hjo,Tr.get_put x f r (i / 2 - 1) (j / 2 - 1) (by omega)]
   by_cases hji : j = i
   simp [hji]
   rw [if_neg (show ¬ j / 2 - 1 = i / 2 - 1 by omega),if_neg hji]
def few (i : Nat) : Bool := Nat.ble (i + 2) 1099511627776
theorem Tr.get_put40 {α : Type} {x : Option α} {t : Tr α} {i : Nat} (h : few i = true) (j : Nat) : (Tr.put x 40 t i).get j = if j = i then x else t.get j :=
 Tr.get_put x 40 t i j (by
  have := Nat.le_of_ble_eq_true h
  have e : (2 : Nat) ^ 40 = 1099511627776 := by decide
  omega)
def aBL : Tr Ob -> List (Nat × Ob) -> Option (Tr Ob)
 | t,[] => some t
 | t,(i,o) :: r => if few i then aBL (Tr.put (some o) 40 t i) r else none
theorem jM : ∀ {l : List (Nat × Ob)} {t t' : Tr Ob},aBL t l = some t' -> t'.get = aY t.get l
 | [],t,t',h => by simp only [aBL,oIQ] at h; subst h; rfl
 | (i,o) :: r,t,t',h => by
  simp only [aBL] at h
  split at h
  rename_i hf
  rw [jM h]
  simp only [aY]
  congr 1
  funext j
  rw [Tr.get_put40 hf]
  rfl
  cases h
theorem lD : ∀ (l : List (Nat × Ob)) {own own' : Own} {i : Nat},own i = own' i -> aY own l i = aY own' l i
 | [],_,_,_,h => h
 | (j,o) :: r,own,own',i,h => lD r (by by_cases hi : i = j <;> simp [upd,hi,h])
theorem eW : ∀ (l m : List (Nat × Ob)) (own : Own),aY own (l ++ m) = aY (aY own l) m
 | [],_,_ => rfl
 | (j,o) :: r,m,own => eW r m _
def bE (loc : cO) (tr : Tr SV) : Env := fun t => match aL loc t with
 | some x => some x
 | none => (tr.get t).map fun s => ([],s)
def s0 : cO -> Tr SV -> Tr SV
 | [],tr => tr
 | (t,p,sv) :: r,tr => Tr.put (bif p.isEmpty then some sv else none) 40 (s0 r tr) t
theorem lT : ∀ {loc : cO} {tr : Tr SV},(loc.all fun e => few e.1) = true -> ∀ {u : Nat} {q : Path} {sv : SV},bE [] (s0 loc tr) u = some (q,sv) -> q = [] /\ bE loc tr u = some (q,sv)
 | [],tr,_,u,q,sv,h => by
  refine ⟨?_,h⟩
  simp only [bE,aL,s0,me,pIQ] at h
  obtain ⟨_,_,h,_⟩ := h
  exact h.symm
 | (t,p,s) :: r,tr,hf,u,q,sv,h => by
  simp only [List.all_cons,bIQ] at hf
  simp only [bE,aL,s0] at h ⊢
  rw [Tr.get_put40 hf.1] at h
  by_cases hu : t = u
  subst hu
  simp only [if_true,beq_self_eq_true] at h ⊢
  cases p with
  | nil =>
   simp only [List.isEmpty_nil,cond_true,Option.map_some,oIQ,pIQ] at h
   obtain ⟨rfl,rfl⟩ := h
   exact ⟨rfl,rfl⟩
  | cons x y => simp at h
  have hne : (t == u) = false := by simpa using hu
  rw [if_neg (Ne.symm hu)] at h
  rw [hne]
  simp only [Bool.false_eq_true,if_false]
  exact lT (loc := r) hf.2 (by simpa only [bE,aL] using h)
structure Ent (P : Program) (G : List (Nat × List Value)) where
 f : FuncId
 ask : Nat -> List SV -> List (Nat × Ob) -> Option (SV × List (Nat × Ob) × List Prop)
 ok : ∀ {k : Nat} {ins : List SV} {refs post : List (Nat × Ob)} {out : SV} {cs : List Prop},ask k ins refs = some (out,post,cs) -> conj cs -> Spec P G f ins refs out post
def aDX {P : Program} {G : List (Nat × List Value)} : List (Ent P G) -> FuncId -> Option (Ent P G)
 | [],_ => none
 | e :: r,f => bif Nat.beq e.f f then some e else aDX r f
theorem aHK {P : Program} {G : List (Nat × List Value)} : ∀ {T : List (Ent P G)} {f : FuncId} {e : Ent P G},aDX T f = some e -> e.f = f
 | [],f,e,h => by simp [aDX] at h
 | x :: r,f,e,h => by
  simp only [aDX,eB] at h
  split at h
  rename_i hx; simp only [oIQ] at h; rw [<- h]; exact hx
  exact aHK h
def idsC : C -> List Nat
 | .bx i _ => [i]
 | .fn _ l m => (l ++ m).map (·.1)
 | .mp i => [i]
 | .yl i => [i]
 | .ib _ i => [i]
 | _ => []
def idsCA : C -> List Nat
 | .ar i _ => [i]
 | c => idsC c
def aL2 : SV -> List Nat
 | .c x => idsC x
 | .agg xs => xs.flatMap idsC
 | .tup xs => xs.flatMap fun p => p.2.flatMap idsC
def idsO : Option Ob -> List Nat
 | some (.box _ cells) => cells.flatMap idsCA
 | some (.arr _ e _ _) => e.ov.flatMap fun x => idsCA x.2
 | none => []
def gV (ob : Own) : Nat -> List Nat -> List Nat -> List Nat
 | 0,_,acc => acc
 | _ + 1,[],acc => acc
 | f + 1,i :: r,acc => if acc.contains i then gV ob f r acc else gV ob f (idsO (ob i) ++ r) (acc ++ [i])
structure OpR where
 sv : SV
 upd : List (Nat × Ob)
 touch : List Nat
 own : Tr Ob
 k : Nat
 cs : List Prop
def OpR.eff (r : OpR) : Eff := ⟨r.sv,r.upd,r.touch,[]⟩
def uO (own : Tr Ob) (k : Nat) (cs : List Prop) (e : Eff) : Option OpR := match aBL own e.upd with
 | some own' => some ⟨e.sv,e.upd,keys e.upd ++ e.touch,own',k,cs⟩
 | none => none
def aMQ {P : Program} {G : List (Nat × List Value)} (e : Ent P G) (k : Nat) (svs : List SV) (own : Tr Ob) : Option OpR :=
 match tQ own.get (gV own.get 1000 (svs.flatMap aL2) []) svs,o8 own.get (gV own.get 1000 (svs.flatMap aL2) []) 0 (gV own.get 1000 (svs.flatMap aL2) []) with
 | some (ins,_),some refs => match e.ask k ins refs with
  | some (out,post,cs) => match lW (Spec P G e.f) own.get (some svs) k out (gV own.get 1000 (svs.flatMap aL2) []) post with
   | some ef => if ef.obs.all (fun o => o.k || o.b) then uO own (k + 1 + post.length) cs ef else none
   | none => none
  | none => none
 | _,_ => none
def aNB (P : Program) (G : List (Nat × List Value)) (lk : Lk) (p : Path) (o : Oper) (own : Tr Ob) (r : OpR) : Prop :=
 r.own.get = aY own.get r.upd /\ (∀ x ∈ keys r.upd,x ∈ r.touch) /\
 ∀ (fr : Fr) (own0 : Own) (a : Act) (w : World) (pl : Pl),fr.G = G -> conj r.cs -> (∀ i ∈ r.touch,own0 i = own.get i) -> Mem fr own0 w pl -> aX a w pl own0 p lk -> Eng.Holds a p -> fN P fr own0 a w pl o r.eff
section
variable {P : Program} {G : List (Nat × List Value)} {lk : Lk} {p : Path} {o : Oper}
theorem tA {fr : Fr} {own : Own} {a : Act} {w : World} {pl : Pl} {e e' : Eff} (h1 : e'.sv = e.sv) (h2 : e'.upd = e.upd) (h : fN P fr own a w pl o e) : fN P fr own a w pl o e' := by
 unfold fN at h ⊢
 rw [h1,h2]
 exact h
theorem gZ {own : Tr Ob} {k : Nat} {cs : List Prop} {e : Eff} {r : OpR} (h : uO own k cs e = some r)
  (hd : ∀ (fr : Fr) (own0 : Own) (a : Act) (w : World) (pl : Pl),fr.G = G -> conj cs -> (∀ i ∈ e.touch,own0 i = own.get i) -> Mem fr own0 w pl -> aX a w pl own0 p lk -> Eng.Holds a p -> fN P fr own0 a w pl o e) : aNB P G lk p o own r := by
 unfold uO at h
 split at h
 rename_i own' hs
 simp only [oIQ] at h
 subst h
 refine ⟨jM hs,fun x hx => by simp [hx],fun fr own0 a w pl hG hc ht m hl hp => ?_⟩
 exact tA (e := e) rfl rfl (hd fr own0 a w pl hG hc (fun i hi => ht i (by simp [hi])) m hl hp)
 cases h
theorem fY : ∀ {l : List Prop},(∀ c ∈ l,c) -> conj l
 | [],_ => trivial
 | [c],h => h c (by simp)
 | c :: d :: r,h => ⟨h c (by simp),fY fun x hx => h x (by simp [hx])⟩
theorem aGE {S : List SV -> List (Nat × Ob) -> SV -> List (Nat × Ob) -> Prop} {ob : Own} {osv : Option (List SV)} {nid : Nat} {out : SV} {rs : List Nat} {post : List (Nat × Ob)} {e : Eff} (h : lW S ob osv nid out rs post = some e) :
  ∃ svs ins ars refs,osv = some svs /\ tQ ob rs svs = some (ins,ars) /\ o8 ob rs 0 rs = some refs /\ ∀ x ∈ e.obs,x.p = S ins refs out post \/ x.k = false := by
 unfold lW at h
 split at h
 rename_i svs
 split at h
 rename_i ins ars refs hargs hrefs
 split at h
 split at h
 simp only [oIQ] at h
 subst h
 refine ⟨svs,ins,ars,refs,rfl,hargs,hrefs,fun x hx => ?_⟩
 rcases mc.1 hx with rfl | hx
 exact .inl rfl
 right
 split at hx
 cases hx
 obtain ⟨y,hy,hx⟩ := List.mem_flatMap.1 hx
 unfold vU at hx
 split at hx
 cases hx
 simp only [List.mem_singleton] at hx
 subst hx; rfl
 cases h
 cases h
 cases h
 cases h
theorem aMP {T : Ent P G} {k : Nat} {svs : List SV} {own : Tr Ob} {r : OpR} (h : aMQ T k svs own = some r)
  (hrun : ∀ (own0 : Own) (a : Act) (w : World) (pl : Pl) ,aX a w pl own0 p lk -> Eng.Holds a p -> ∃ vals,All2 (aV w pl own0) svs vals /\ aA5 P G a w o vals (Spec P G T.f)) : aNB P G lk p o own r := by
 unfold aMQ at h
 generalize hrs : gV own.get 1000 (svs.flatMap aL2) [] = rs at h
 split at h
 rename_i ins ars refs hargs hrefs
 split at h
 rename_i out post cs hask
 split at h
 rename_i ef hef
 split at h
 rename_i hall
 refine gZ h fun fr own0 a w pl hG hc ht m hl hp => ?_
 subst hG
 obtain ⟨vals,hv,hr⟩ := hrun own0 a w pl hl hp
 obtain ⟨svs',ins',ars',refs',h1,h2,h3,h4⟩ := aGE hef
 simp only [oIQ] at h1
 subst h1
 rw [hargs] at h2
 rw [hrefs] at h3
 simp only [oIQ,pIQ] at h2 h3
 obtain ⟨rfl,rfl⟩ := h2
 subst h3
 refine oK m (vals := vals) (fun s hs => by simp only [oIQ] at hs; subst hs; exact hv) hr hef ht (fY fun c hcm => ?_)
 simp only [Eff.obl,pOf,mmQ] at hcm
 obtain ⟨x,hx,rfl⟩ := hcm
 rcases h4 x hx with h5 | h5
 rw [h5]; exact T.ok hask hc
 have := at1.1 hall x hx
 rw [h5,Bool.false_or] at this
 exact x.h this
 cases h
 cases h
 cases h
 cases h
end
end Go.V
namespace Go.V
open Go.RowKit
def dF (ov : List (Nat × C)) : Nat -> List D -> List C
 | _,[] => []
 | p,d :: r => (match ov.lookup p with
  | some c => c
  | none => .d d) :: dF ov (p + 1) r
def fM : List C -> List D
 | [] => []
 | .d x :: r => x :: fM r
 | _ :: r => .v undef :: fM r
def gC : Nat -> List C -> List (Nat × C)
 | _,[] => []
 | p,.d _ :: r => gC (p + 1) r
 | p,c :: r => (p,c) :: gC (p + 1) r
section
variable {P : Program} {fr : Fr} {own : Own} {a : Act} {w w' : World} {pl : Pl} {o : Oper} {p : Path} {lk : Lk}
theorem gE (ov : List (Nat × C)) : ∀ (ds : List D) (p : Nat),(dF ov p ds).length = ds.length
 | [],_ => rfl
 | d :: r,p => by simp [dF,gE ov r]
theorem nM (ov : List (Nat × C)) : ∀ (ds : List D) (p j : Nat),(dF ov p ds)[j]? = (ds[j]?).map fun d => match ov.lookup (p + j) with
  | some c => c
  | none => .d d
 | [],_,j => by simp [dF]
 | d :: r,p,0 => by simp [dF]
 | d :: r,p,j + 1 => by
  simp only [dF,List.getElem?_cons_succ]
  rw [nM ov r (p + 1) j,show p + 1 + j = p + (j + 1) by omega]
theorem view_ok {ov : List (Nat × C)} {ds : List D} {xs : List Value} (h : AllO w pl own ov ds xs) : All2 (COk w pl own) (dF ov 0 ds) xs := by
 refine ⟨by rw [gE]; exact h.1,fun j c x hc hx => ?_⟩
 rw [nM] at hc
 simp only [me,Nat.zero_add] at hc
 obtain ⟨d,hd,rfl⟩ := hc
 have := h.2 j d x hd hx
 cases ho : ov.lookup j with
 | none => rw [ho] at this; exact this
 | some c => rw [ho] at this; exact this
theorem gH : ∀ cs : List C,(fM cs).length = cs.length
 | [] => rfl
 | c :: r => by cases c <;> simp [fM,gH r]
theorem zO : ∀ (cs : List C) (p j : Nat),j < p -> (gC p cs).lookup j = none
 | [],_,_,_ => rfl
 | c :: r,p,j,h => by
  cases c with
  | d x => exact zO r (p + 1) j (by omega)
  | _ =>
   simp only [gC,List.lookup]
   have : (j == p) = false := by simp; omega
   rw [this]
   exact zO r (p + 1) j (by omega)
theorem aBH : ∀ {cs : List C} {xs : List Value} (p : Nat),All2 (COk w pl own) cs xs -> ∀ (j : Nat) (d : D) (x : Value),(fM cs)[j]? = some d -> xs[j]? = some x -> aGJ w pl own d x ((gC p cs).lookup (p + j))
 | [],xs,p,h,j,d,x,hd,hx => by simp [fM] at hd
 | c :: r,xs,p,h,j,d,x,hd,hx => by
  obtain ⟨y,ys,rfl,h1,h2⟩ := h.uncons
  cases j with
  | zero =>
   simp only [cz,oIQ] at hx
   subst hx
   cases c with
   | d z =>
    simp only [fM,cz,oIQ] at hd
    subst hd
    simp only [gC,Nat.add_zero]
    rw [zO r (p + 1) p (by omega)]
    exact h1
   | _ => simp only [gC,Nat.add_zero,List.lookup,beq_self_eq_true]; exact h1
  | succ j =>
   have ih := aBH (p + 1) h2 j d x (by cases c <;> simpa [fM] using hd) (by simpa using hx)
   rw [show p + 1 + j = p + (j + 1) by omega] at ih
   cases c with
   | d z => exact ih
   | _ =>
    simp only [gC,List.lookup]
    have : (p + (j + 1) == p) = false := by simp
    rw [this]
    exact ih
theorem q8 {cs : List C} {xs : List Value} (h : All2 (COk w pl own) cs xs) : AllO w pl own (gC 0 cs) (fM cs) xs :=
 ⟨by rw [gH]; exact h.1,fun j d x hd hx => by have := aBH 0 h j d x hd hx; rwa [Nat.zero_add] at this⟩
theorem jX : ∀ (cs : List C) (p : Nat),p + cs.length <= 4611686018427387904 -> mkd (gC p cs) = false
 | [],_,_ => rfl
 | c :: r,p,h => by
  simp only [lc] at h
  have ih := jX r (p + 1) (by omega)
  cases c with
  | d x => exact ih
  | _ =>
   simp only [mkd,gC,List.any_cons,Bool.or_eq_false_iff] at ih ⊢
   exact ⟨by simp; omega,ih⟩
def aHY (k : Nat) (e : TypeId) (sz n : Nat) (cs : List C) : Ob := .arr k ⟨e,gC 0 cs⟩ sz (chunks sz n (fM cs))
theorem tN {i k : Nat} {e : AT} {sz : Nat} {es : LD} (h : ObOk 0 w pl own i (.arr k e sz es)) : ∃ xs,ownsQ (mkd e.ov) w 0 e.e sz (.slice (pl.sl i).1 es.length (pl.sl i).2) es.length xs /\ All2 (COk w pl own) (dF e.ov 0 es.flatten) xs /\ es.flatten.length = es.length * sz := by
 obtain ⟨xs,hx,hr,hs⟩ := h
 exact ⟨xs,hx,view_ok hr,a8 hs⟩
def aLM (P : Program) (lk : Lk) (ob : Own) (t : TypeId) (x : Operand) : Option Eff :=
 match lk [] x with
 | some (.c (.ea i k idx off)) => match ob i with
  | some (.arr k' ⟨e,y :: ov⟩ sz es) => match es[idx]? with
   | some ds => bif Nat.beq k' k && Nat.beq ds.length sz then (match j0 P t (dF (y :: ov) (idx * sz) ds) off with
    | some s => some ⟨s,[],[i],[]⟩
    | none => none) else none
   | none => none
  | _ => none
 | _ => none
theorem aLL (m : Mem fr own w pl) (hl : aX a w pl own p lk) (hp : Eng.Holds a p) {t : TypeId} {x : Operand} (hop : o.op = .load t x) {ob : Own} {e : Eff} (h : aLM P lk ob t x = some e) (hob : ∀ i ∈ e.touch,own i = ob i) : Does P fr own a w pl o e := by
 unfold aLM at h
 split at h
 rename_i i k idx off hx
 split at h
 rename_i k' el y ov sz es hbx
 split at h
 rename_i ds hds
 cases hc : (Nat.beq k' k && Nat.beq ds.length sz) with
 | false => rw [hc] at h; cases h
 | true =>
  rw [hc] at h
  simp only [cond_true] at h
  simp only [bIQ,lA] at hc
  obtain ⟨rfl,hdl⟩ := hc
  split at h
  rename_i s hs
  simp only [oIQ] at h
  subst h
  have hi : own i = some (.arr k' ⟨el,y :: ov⟩ sz es) := by rw [hob i (by simp),hbx]
  obtain ⟨k2,e2,sz2,es2,hi2,_,hv,_⟩ := hl [] x _ hx holds_nil hp
  rw [hi] at hi2
  injection hi2 with hi2
  injection hi2 with h1 h2 h3 h4
  subst h1; subst h2; subst h3; subst h4
  obtain ⟨hlt,b,hA,hv⟩ := hv rfl
  obtain ⟨xs,hxs,hr,hss⟩ := m.obj i _ hi
  rcases hxs.all.2 with ⟨_,h0⟩ | ⟨g,cap,cur,fz,hvv,hB,hg,hn,hsz,htk⟩
  omega
  injection hvv with hA1 hA2 hA3
  rw [hA] at hA1
  simp only [oIQ,Addr.mk.injEq,and_true] at hA1
  subst hA1
  have hL : aNC w pl own (dF (y :: ov) (idx * sz) ds) cur.toList (idx * sz) := by
   intro j c hj
   rw [nM] at hj
   simp only [me] at hj
   obtain ⟨d,hd,rfl⟩ := hj
   have hfd := dK hss hds hd
   have hlt2 : idx * sz + j < xs.length := by rw [<- hr.1]; exact (gsQ.1 hfd).1
   obtain ⟨u,hxj⟩ : ∃ u,xs[idx * sz + j]? = some u := ⟨_,ge hlt2⟩
   have hok := hr.2 _ d _ hfd hxj
   refine ⟨u,?_,?_⟩
   rw [<- htk,List.getElem?_take] at hxj
   split at hxj
   exact hxj
   cases hxj
   cases ho : (y :: ov).lookup (idx * sz + j) with
   | none => rw [show (AT.mk el (y :: ov)).ov = y :: ov from rfl,ho] at hok; exact hok
   | some c => rw [show (AT.mk el (y :: ov)).ov = y :: ov from rfl,ho] at hok; exact hok
  obtain ⟨v,hv2,hok⟩ := fG hs hL
  exact eJ (L := cur.toList) hop m hv (by simpa using hg) hv2 hok
  cases h
 cases h
 cases h
 cases h
def aA3 : List C -> Bool
 | [] => true
 | .d _ :: r => aA3 r
 | _ => false
def aEJ (P : Program) (lk : Lk) (ob : Own) (ty : TypeId) (x v : Operand) : Option Eff :=
 match lk [] x,lk [] v,P.info? ty with
 | some (.c (.ea i k idx off)),some s,some ti => match ob i,kD s with
  | some (.arr k' ⟨e,ov⟩ sz es),some cs =>
   bif ov.isEmpty && (Nat.beq off 0 && (aA3 cs && Nat.beq cs.length sz)) then none else
   bif Nat.beq k' k && (Nat.beq cs.length ti.size && (Nat.ble (idx * sz + off + cs.length) (es.length * sz) && (!(mkd ov) && Nat.ble (es.length * sz) 4611686018427387904))) then
    some ⟨.c .any,[(i,aHY k e sz es.length (aI (dF ov 0 es.flatten) (idx * sz + off) cs))],[i],[]⟩ else none
  | _,_ => none
 | _,_,_ => none
theorem aH7 (m : Mem fr own w pl) (hl : aX a w pl own p lk) (hp : Eng.Holds a p) {ty : TypeId} {x v : Operand} (hop : o.op = .store ty x v) (hd : o.dst = none) {ob : Own} {e : Eff} (h : aEJ P lk ob ty x v = some e) (hob : ∀ i ∈ e.touch,own i = ob i) : Does P fr own a w pl o e := by
 unfold aEJ at h
 split at h
 ·rename_i i k idx off s ti hx hs hti
  split at h
  ·rename_i k' el ov sz es cs hbx hcs
   cases hc0 : (ov.isEmpty && (Nat.beq off 0 && (aA3 cs && Nat.beq cs.length sz))) with
   | true => rw [hc0] at h; cases h
   | false =>
    rw [hc0] at h
    simp only [cond_false] at h
    cases hc : (Nat.beq k' k && (Nat.beq cs.length ti.size && (Nat.ble (idx * sz + off + cs.length) (es.length * sz) && (!(mkd ov) && Nat.ble (es.length * sz) 4611686018427387904)))) with
    | false => rw [hc] at h; cases h
    | true =>
     rw [hc] at h
     simp only [cond_true,oIQ] at h
     simp only [bIQ,lA,Nat.ble_eq,Bool.not_eq_true'] at hc
     obtain ⟨rfl,hc1,hc2,hmk,hbig⟩ := hc
     subst h
     have hi : own i = some (.arr k' ⟨el,ov⟩ sz es) := by rw [hob i (by simp),hbx]
     obtain ⟨k2,e2,sz2,es2,hi2,_,hv,_⟩ := hl [] x _ hx holds_nil hp
     rw [hi] at hi2
     injection hi2 with hi2
     injection hi2 with h1 h2 h3 h4
     subst h1; subst h2; subst h3; subst h4
     obtain ⟨hlt,b,hA,hv⟩ := hv rfl
     have hcv := gI hcs (hl [] v s hs holds_nil hp)
     obtain ⟨xs,hxs,hview,hfl⟩ := tN (m.obj i _ hi)
     rw [show mkd (AT.mk el ov).ov = false from hmk] at hxs
     have hview : All2 (COk w pl own) (dF ov 0 es.flatten) xs := hview
     have hxl : xs.length = es.length * sz := by rw [<- hview.1,gE,hfl]
     have hvl : (a.eval v).cells.toList.length = cs.length := hcv.1.symm
     have hlen1 : (a.eval v).cells.size = ti.size := by simp at hvl; omega
     generalize hcl : (a.eval v).cells.toList = cells at hcv hvl
     generalize hpl : idx * sz + off = q at hc2 hv ⊢
     have hsplC : All2 (COk w pl own) (aI (dF ov 0 es.flatten) q cs) (aI xs q cells) := fQ hview hcv q
     have hslen : (aI (dF ov 0 es.flatten) q cs).length = es.length * sz := by
      unfold aI
      simp only [la,lt1,List.length_drop,gE,hfl]
      omega
     rcases hxs.2 with ⟨_,h0⟩ | ⟨g,cap,cur,hvv,hB,hg,hn,hcap,hsz,htk⟩
     ·omega
     ·injection hvv with hA1 hA2 hA3
      rw [hA] at hA1
      simp only [oIQ,Addr.mk.injEq,and_true] at hA1
      subst hA1
      have hcl2 : es.length * sz <= cur.size := by rw [hsz]; exact Nat.mul_le_mul_right _ hn
      have hsp : (aI cur.toList q cells).take (es.length * sz) = aI xs q cells := by
       have e1 : (cur.toList.take q).length = q := by rw [lt1,Array.length_toList]; omega
       have e2 : (cur.toList.take q ++ cells).length = q + cells.length := by rw [la,e1]
       have e3 : (cur.toList.take q ++ cells).take (es.length * sz) = cur.toList.take q ++ cells := tl (by rw [e2]; omega)
       have e4 : xs.take q = cur.toList.take q := by rw [<- htk,List.take_take,Nat.min_eq_left (by omega)]
       have e5 : xs.drop (q + cells.length) = (cur.toList.drop (q + cells.length)).take (es.length * sz - (q + cells.length)) := by rw [<- htk,List.drop_take]
       unfold aI
       rw [List.take_append,e3,e2,e4,e5]
      have hsl : (aI cur.toList q cells).length = cur.size := by
       unfold aI
       simp only [la,lt1,List.length_drop,Array.length_toList]
       omega
      have hrun : (execOp a.eval o).run P w = .ok .skip (w.setRow b (aI cur.toList q cells).toArray) := by
       unfold execOp
       simp only [hop,hv]
       have := run_storeCells_at (P := P) b q el cells 0 cur w hg (by simp; omega) (iP hcv)
       simp only [Nat.add_zero] at this ⊢
       simp only [Instr.storeAt,Instr.sureAddr,storeVar,sizeOf,typeInfo]
       simp [hti,hlen1,hcl,this,aI]
      have hgr : w.grownBy (w.setRow b (aI cur.toList q cells).toArray) ((pl.sl i).1.map (·.block)) := by
       refine ⟨rfl,rfl,rfl,by simp [World.setRow],fun q hq hne => dQ _ _ _ (fun he => hne ?_)⟩
       rw [hA,he]; rfl
      intro K Q hK
      obtain ⟨hch1,hch2,hch3⟩ := chunks_flatten sz es.length (fM (aI (dF ov 0 es.flatten) q cs)) (by rw [gH]; exact hslen)
      have hmk2 : mkd (gC 0 (aI (dF ov 0 es.flatten) q cs)) = false := jX _ 0 (by rw [hslen]; omega)
      obtain ⟨pl',m',L,hA'⟩ := m.turnArrO (k' := k') (e' := ⟨el,gC 0 (aI (dF ov 0 es.flatten) q cs)⟩) (es' := chunks sz es.length (fM (aI (dF ov 0 es.flatten) q cs))) (A := some ⟨b,0,none⟩) (cap := cap) (xs := aI xs q cells) hi hgr
       (by
        rw [show mkd (AT.mk el (gC 0 (aI (dF ov 0 es.flatten) q cs))).ov = false from hmk2,hch2]
        exact ⟨by rw [<- hsp]; simp only [lt1,hsl]; omega,.inr ⟨b,cap,(aI cur.toList q cells).toArray,rfl,hB,setRow_heap w _ cur _ el (0,0) hg,hn,hcap,by simp [hsl,hsz],hsp⟩⟩)
       (.inl (by rw [hA])) (by rw [hch1]; exact q8 hsplC) hch3 (.inr ⟨rfl,hch2,by rw [<- hA3,<- hA]⟩)
      unfold Oper.wp
      rw [hrun,Oper.upon_skip]
      exact hK undef _ pl' m' L (.inl hd)
  ·cases h
 ·cases h
def bslG (P : Program) (lk : Lk) (ob : Own) (T : TypeId) (len : Nat) (parts : Array (Nat × Operand)) (nid : Nat) : Option Eff :=
 match ob nid,iV lk parts.toList,P.underlying T with
 | none,some ps,some (.slice e) => match P.info? e with
  | some i => match i.zero with
   | some z => bif Nat.ble (len * i.size) 16777216 && (Nat.ble 1 i.size && Nat.beq z.cells.size i.size) then
     (match eF ((Array.range (len * i.size)).map ((if len * i.size = 0 then #[] else z.cells)[· % (if len * i.size = 0 then #[] else z.cells).size]!)).toList with
     | some zc => match k7 (fun k => some (k * i.size,i.size)) zc ps with
      | some cs => bif aA3 cs then none else bif Nat.beq cs.length (len * i.size) then some ⟨.c (.ar nid 0),[(nid,aHY 0 e i.size len cs)],[nid],[]⟩ else none
      | none => none
     | none => none) else none
   | none => none
  | none => none
 | _,_,_ => none
theorem bslG_ok (m : Mem fr own w pl) (hl : aX a w pl own p lk) (hp : Eng.Holds a p) {T : TypeId} {len : Nat} {parts : Array (Nat × Operand)} (hop : o.op = .buildSlice T len parts) {ob : Own} {nid : Nat} {e : Eff} (h : bslG P lk ob T len parts nid = some e) (hob : ∀ i ∈ e.touch,own i = ob i) : Does P fr own a w pl o e := by
 unfold bslG at h
 split at h
 rename_i ps el hnone hps hu
 have hparts := gG hl hp hps
 split at h
 rename_i i hi
 split at h
 rename_i z hz
 cases hc : (Nat.ble (len * i.size) 16777216 && (Nat.ble 1 i.size && Nat.beq z.cells.size i.size)) with
 | false => rw [hc] at h; cases h
 | true =>
  rw [hc] at h
  simp only [cond_true] at h
  simp only [bIQ,lA,Nat.ble_eq] at hc
  obtain ⟨hc1,hc2,hc3⟩ := hc
  split at h
  rename_i zc hzc
  split at h
  rename_i cs hf
  cases hall : aA3 cs with
  | true => rw [hall] at h; cases h
  | false =>
   rw [hall] at h
   simp only [cond_false] at h
   cases hcl : Nat.beq cs.length (len * i.size) with
   | false => rw [hcl] at h; cases h
   | true =>
    rw [hcl] at h
    simp only [cond_true,oIQ] at h
    have hcl := Nat.eq_of_beq_eq_true hcl
    subst h
    obtain ⟨cells',h1,h2⟩ := fX hf (c9 hzc) hparts
    obtain ⟨hfl,hln,hsz⟩ := chunks_flatten i.size len (fM cs) (by rw [gH]; exact hcl)
    have hcs : cells'.size = len * i.size := by have := h2.1; simp at this; omega
    have hlen : len <= maxLen := by
     have : len <= len * i.size := Nat.le_mul_of_pos_right len hc2
     unfold maxLen; omega
    have hg : w.grownBy (w.alloc (.cells cells' el)) none := ⟨rfl,rfl,rfl,by simp,fun k hk _ => Below.heap_alloc _ _ _ hk⟩
    have hr : (execOp a.eval o).run P w = .ok (.value (.slice (some ⟨w.heap.size,0,none⟩) len len)) (w.alloc (.cells cells' el)) := by
     unfold execOp
     simp only [hop,Instr.buildSlice]
     have hsz2 : ¬ len * i.size > 2 ^ 24 := by omega
     by_cases h0 : len * i.size = 0
     simp only [h0,if_true] at h1 hsz2 ⊢
     simp at h1
     simp [run_underlying hu,sizeOf,typeInfo,hi,h0,h1,newRow,newObj]
     rfl
     simp only [h0,if_false] at h1
     simp [run_underlying hu,sizeOf,typeInfo,hi,h0,h1,newRow,newObj,zeroValue,hz,hsz2]
     rfl
    intro K Q hK
    have hmk : mkd (gC 0 cs) = false := jX _ 0 (by omega)
    obtain ⟨pl',m',L,hA⟩ := m.newArr (i := nid) (e := ⟨el,gC 0 cs⟩) (sz := i.size) (es := chunks i.size len (fM cs)) (xs := cells'.toList) (A := some ⟨w.heap.size,0,none⟩) (cap := len) (by rw [hob nid (by simp),hnone]) hg
     (by
      rw [show mkd (AT.mk el (gC 0 cs)).ov = false from hmk]
      exact ⟨by rw [hln]; simp [hcs],.inr ⟨w.heap.size,len,cells',by rw [hln],zl _,heap_alloc_new w _,by omega,hlen,hcs,by rw [hln,tl (by simp [hcs])]⟩⟩)
     (fun ad h => by injection h with h; rw [<- h]; exact lr _) (by rw [hfl]; exact q8 h2) hsz
    unfold Oper.wp
    rw [hr,Oper.upon_value]
    exact hK _ _ pl' m' L (.inr ⟨0,_,i.size,_,upd_same _ _ _,lr _,fun _ => by rw [hA,hln],rfl⟩)
  cases h
  cases h
 cases h
 cases h
 cases h
def aKO (lk : Lk) (ob : Own) (x : Operand) : Option (Nat × Nat × List C × List Nat) :=
 match lk [] x with
 | some (.c (.d (.sl sz es))) => some (sz,es.length,es.flatten.map .d,[])
 | some (.c (.ar i k)) => match ob i with
  | some (.arr k' ⟨_,ov⟩ sz es) => bif Nat.beq k' k && !(mkd ov) then some (sz,es.length,dF ov 0 es.flatten,[i]) else none
  | _ => none
 | _ => none
theorem aBW (m : Mem fr own w pl) (hl : aX a w pl own p lk) (hp : Eng.Holds a p) {ob : Own} {x : Operand} {sz n : Nat} {cs : List C} {t : List Nat} (h : aKO lk ob x = some (sz,n,cs,t)) (hob : ∀ i ∈ t,own i = ob i) :
  ∃ A c xs,a.eval x = .slice A n c /\ All2 (COk w pl own) cs xs /\ cs.length = n * sz /\ ((n = 0 /\ c = 0) \/ ∃ b off,A = some ⟨b,off,none⟩ /\ ∀ (j : Nat) (u : Value),xs[j]? = some u -> w.cell? ⟨b,off + j,none⟩ = some u) := by
 unfold aKO at h
 split at h
 rename_i sz' es hx
 simp only [oIQ,pIQ] at h
 obtain ⟨rfl,rfl,rfl,rfl⟩ := h
 obtain ⟨A,c,xs,h1,h2,h3,h4,h5⟩ := jS (ob := own) m hl hp (show rN lk own x = some (sz',es,[]) by unfold rN; rw [hx]) (fun i hi => by cases hi)
 refine ⟨A,c,xs,h1,wH (f := C.d) (S := COk w pl own) (fun x y h => h) h2,by rw [lm]; exact a8 h3,h5.imp (fun h => ⟨by rw [h.1]; rfl,h.2⟩) id⟩
 rename_i i k hx
 split at h
 rename_i k' el ov sz' es hi
 cases hc : (Nat.beq k' k && !(mkd ov)) with
 | false => rw [hc] at h; cases h
 | true =>
  rw [hc] at h
  simp only [cond_true,oIQ,pIQ] at h
  obtain ⟨rfl,rfl,rfl,rfl⟩ := h
  simp only [bIQ,lA,Bool.not_eq_true'] at hc
  obtain ⟨rfl,hmk⟩ := hc
  have hi' : own i = some (.arr k' ⟨el,ov⟩ sz' es) := by rw [hob i (by simp),hi]
  have hv := cD (w := w) (hl [] x _ hx holds_nil hp) hi'
  obtain ⟨xs,hxs,hview,hfl⟩ := tN (m.obj i _ hi')
  rw [show mkd (AT.mk el ov).ov = false from hmk] at hxs
  refine ⟨_,_,xs,hv,hview,by rw [gE]; exact hfl,?_⟩
  rcases hxs.2 with ⟨h0,h1⟩ | ⟨g,cap,cur,hvv,hB,hg,hn,hcap,hsz,htk⟩
  injection h0 with _ _ h2
  exact .inl ⟨h1,h2⟩
  injection hvv with hA1 hA2 hA3
  refine .inr ⟨g,0,hA1,fun j u hj => ?_⟩
  rw [cell_of_row w g _ cur el (0,0) hg]
  rw [<- htk,List.getElem?_take] at hj
  split at hj
  simpa using hj
  cases hj
 cases h
 cases h
def appG (P : Program) (lk : Lk) (ob : Own) (T : TypeId) (s x : Operand) (nid : Nat) : Option Eff :=
 match P.underlying T,aKO lk ob x with
 | some (.slice e),some (szx,nx,news,tx) => match P.info? e with
  | some i => match i.zero with
   | some z => bif Nat.beq z.cells.size i.size && (Nat.ble 1 i.size && Nat.beq szx i.size) then
     (match lk [] s with
     | some (.c (.ar j k)) => match ob j with
      | some (.arr k' ⟨e',ov⟩ sz es) => bif aA3 news && ov.isEmpty then none else
       bif Nat.beq k' k && (Nat.beq e' e && (Nat.beq sz i.size && (!(mkd ov) && Nat.ble ((es.length + nx) * (i.bytes + 1)) 140737488355328))) && Nat.ble ((es.length + nx) * i.size) 4611686018427387904 then
        some ⟨.c (.ar j (k + 1)),[(j,aHY (k + 1) e i.size (es.length + nx) (dF ov 0 es.flatten ++ news))],j :: tx,[]⟩ else none
      | _ => none
     | some (.c (.d (.v (.slice none 0 0)))) => match ob nid with
      | none => bif aA3 news then none else bif Nat.ble (nx * (i.bytes + 1)) 140737488355328 && Nat.ble (nx * i.size) 4611686018427387904 then some ⟨.c (.ar nid 0),[(nid,aHY 0 e i.size nx news)],nid :: tx,[]⟩ else none
      | some _ => none
     | _ => none) else none
   | none => none
  | none => none
 | _,_ => none
theorem appG_ok (m : Mem fr own w pl) (hl : aX a w pl own p lk) (hp : Eng.Holds a p) {T : TypeId} {s x : Operand} (hop : o.op = .call { callee := .builtin .append,args := #[s,x],argTypes := #[T,T] }) {ob : Own} {nid : Nat} {e : Eff} (h : appG P lk ob T s x nid = some e) (hob : ∀ i ∈ e.touch,own i = ob i) : Does P fr own a w pl o e := by
 unfold appG at h
 have hrun : ∀ {v w'},(Builtin.append_ #[T,T] o.type #[a.eval s,a.eval x]).run P w = .ok v w' -> (execOp a.eval o).run P w = .ok (.value v) w' := by
  intro v w' hr
  unfold execOp
  simp only [hop,resolve,invoke,builtin,Sem.run_bind,Sem.run_pure,an,List.map_toArray,mp1,List.map_nil,hr]
 split at h
 rename_i el szx nx news tx hu hrx
 split at h
 rename_i i hi
 split at h
 rename_i z hz
 cases hc : (Nat.beq z.cells.size i.size && (Nat.ble 1 i.size && Nat.beq szx i.size)) with
 | false => rw [hc] at h; cases h
 | true =>
  rw [hc] at h
  simp only [cond_true] at h
  simp only [bIQ,lA,Nat.ble_eq] at hc
  obtain ⟨hc1,hc2,rfl⟩ := hc
  split at h
  rename_i j k hs
  split at h
  rename_i k' e' ov sz es hbx
  cases hc0 : (aA3 news && ov.isEmpty) with
  | true => rw [hc0] at h; cases h
  | false =>
   rw [hc0] at h
   simp only [cond_false] at h
   cases hk : (Nat.beq k' k && (Nat.beq e' el && (Nat.beq sz i.size && (!(mkd ov) && Nat.ble ((es.length + nx) * (i.bytes + 1)) 140737488355328))) && Nat.ble ((es.length + nx) * i.size) 4611686018427387904) with
   | false => rw [hk] at h; cases h
   | true =>
    rw [hk] at h
    simp only [cond_true,oIQ] at h
    simp only [bIQ,lA,Nat.ble_eq,Bool.not_eq_true'] at hk
    obtain ⟨⟨rfl,rfl,rfl,hmk,hbig⟩,hbig2⟩ := hk
    subst h
    have hj : own j = some (.arr k' ⟨e',ov⟩ i.size es) := by rw [hob j (by simp),hbx]
    have hv := cD (w := w) (hl [] s _ hs holds_nil hp) hj
    obtain ⟨A2,c2,xs2,hx2,hr2,hl2,hA2⟩ := aBW m hl hp hrx (fun i hi => hob i (by simp [hi]))
    obtain ⟨xs,hxs,hview,hfl⟩ := tN (m.obj j _ hj)
    rw [show mkd (AT.mk e' ov).ov = false from hmk] at hxs
    have hview : All2 (COk w pl own) (dF ov 0 es.flatten) xs := hview
    have hl2' : xs2.length = nx * i.size := by rw [<- hr2.1,hl2]
    obtain ⟨A',c',w',h1,h2,h3,h4⟩ := dI (P := P) (w := w) 0 T o.type e' i z hu hi hz hc1 hc2 hxs hl2' (iP hr2) hA2 hbig (zl _)
    intro K Q hK
    have hall := hview.append hr2
    have hcl : (dF ov 0 es.flatten ++ news).length = (es.length + nx) * i.size := by rw [la,gE,hfl,hl2,Nat.add_mul]
    obtain ⟨hch1,hch2,hch3⟩ := chunks_flatten i.size (es.length + nx) (fM (dF ov 0 es.flatten ++ news)) (by rw [gH]; exact hcl)
    have hmk2 : mkd (gC 0 (dF ov 0 es.flatten ++ news)) = false := jX _ 0 (by omega)
    obtain ⟨pl',m',L,hA⟩ := m.turnArrO (k' := k' + 1) (e' := ⟨e',gC 0 (dF ov 0 es.flatten ++ news)⟩) (es' := chunks i.size (es.length + nx) (fM (dF ov 0 es.flatten ++ news))) (A := A') (cap := c') (xs := xs ++ xs2) hj h3 (by
      rw [show mkd (AT.mk e' (gC 0 (dF ov 0 es.flatten ++ news))).ov = false from hmk2,hch2]; exact h2)
     (h4.imp id (fun h ad had => by rw [had] at h; simp only [Option.map_some,oIQ] at h; omega))
     (by rw [hch1]; exact q8 hall) hch3 (.inl (by omega))
    have := hrun (v := .slice A' (es.length + nx) c') (w' := w') (by rw [hv,hx2]; exact h1)
    unfold Oper.wp
    rw [this,Oper.upon_value]
    exact hK _ _ pl' m' L (.inr ⟨k' + 1,_,i.size,_,upd_same _ _ _,lr _,fun _ => by rw [hA,hch2],rfl⟩)
  cases h
  rename_i hs
  split at h
  rename_i hnone
  cases hc0 : aA3 news with
  | true => rw [hc0] at h; cases h
  | false =>
   rw [hc0] at h
   simp only [cond_false] at h
   cases hk : (Nat.ble (nx * (i.bytes + 1)) 140737488355328 && Nat.ble (nx * i.size) 4611686018427387904) with
   | false => rw [hk] at h; cases h
   | true =>
    rw [hk] at h
    simp only [cond_true,oIQ] at h
    simp only [bIQ,Nat.ble_eq] at hk
    obtain ⟨hbig,hbig2⟩ := hk
    subst h
    have hv : a.eval s = .slice none 0 0 := Rd.exact (hl [] s _ hs holds_nil hp)
    obtain ⟨A2,c2,xs2,hx2,hr2,hl2,hA2⟩ := aBW m hl hp hrx (fun i hi => hob i (by simp [hi]))
    have hl2' : xs2.length = nx * i.size := by rw [<- hr2.1,hl2]
    obtain ⟨A',c',w',h1,h2,h3,h4⟩ := dI (P := P) (w := w) 0 T o.type el i z hu hi hz hc1 hc2 (World.ownsRow_nil w _ _ _) hl2' (iP hr2) hA2 (by rw [Nat.zero_add]; exact hbig) (zl _)
    rw [Nat.zero_add] at h1 h2
    intro K Q hK
    obtain ⟨hch1,hch2,hch3⟩ := chunks_flatten i.size nx (fM news) (by rw [gH]; exact hl2)
    have hmk2 : mkd (gC 0 news) = false := jX _ 0 (by omega)
    obtain ⟨pl',m',L,hA⟩ := m.newArr (i := nid) (e := ⟨el,gC 0 news⟩) (sz := i.size) (es := chunks i.size nx (fM news)) (xs := xs2) (A := A') (cap := c') (by rw [hob nid (by simp),hnone]) h3 (by
      rw [show mkd (AT.mk el (gC 0 news)).ov = false from hmk2,hch2]; simp only [List.nil_append] at h2; exact h2)
     (fun ad had => by
      rw [had] at h4
      rcases h4 with h | h
      simp at h
      simp only [Option.map_some,oIQ] at h; omega) (by rw [hch1]; exact q8 hr2) hch3
    have := hrun (v := .slice A' nx c') (w' := w') (by rw [hv,hx2]; exact h1)
    unfold Oper.wp
    rw [this,Oper.upon_value]
    exact hK _ _ pl' m' L (.inr ⟨0,_,i.size,_,upd_same _ _ _,lr _,fun _ => by rw [hA,hch2],rfl⟩)
  cases h
  cases h
 cases h
 cases h
 cases h
end
end Go.V
namespace Go.V
open Go.RowKit
def sK : TypeDesc -> Value -> Bool
 | .int _,.int _ _ => true
 | .string,.string _ => true
 | _,_ => false
def f8 (agg : Bool) (wd : Nat) (vs : List Value) : Value := if agg then .agg (vs.take wd).toArray else vs.headD undef
theorem aDV {agg : Bool} {wd : Nat} {kd : TypeDesc} {k : Value} : ∀ (ks : List (Value × Nat)) (vs vs' : List Value) (i : Nat),
  (∀ j v',Instr.findNow kd k (bY agg wd ks vs') i = some (some (j,v')) -> ∃ m,j = i + m /\ m < ks.length /\ Instr.findNow kd k (bY agg wd ks vs) i = some (some (j,f8 agg wd (vs.drop (m * wd))))) /\
  (Instr.findNow kd k (bY agg wd ks vs') i = some none -> Instr.findNow kd k (bY agg wd ks vs) i = some none)
 | [],vs,vs',i => ⟨fun j v' h => by simp [bY,Instr.findNow] at h,fun h => h⟩
 | (x,b) :: r,vs,vs',i => by
  simp only [bY,Instr.findNow]
  cases hs : Instr.sameNow kd k x with
  | none => simp
  | some t =>
   cases t with
   | true =>
    refine ⟨fun j v' h => ?_,fun h => by simp at h⟩
    simp only [oIQ,pIQ] at h
    obtain ⟨rfl,_⟩ := h
    exact ⟨0,rfl,by simp,by simp [f8]⟩
   | false =>
    simp only
    obtain ⟨h1,h2⟩ := aDV (agg := agg) (wd := wd) (kd := kd) (k := k) r (vs.drop wd) (vs'.drop wd) (i + 1)
    refine ⟨fun j v' h => ?_,h2⟩
    obtain ⟨m,e1,e2,e3⟩ := h1 j v' h
    refine ⟨m + 1,by omega,by simp; omega,?_⟩
    rw [e3,List.drop_drop,Nat.succ_mul,Nat.add_comm]
theorem v6 (agg : Bool) (wd : Nat) : ∀ (ks : List (Value × Nat)) (vs us : List Value) (k : Value) (b : Nat),vs.length = ks.length * wd -> (agg = false -> wd = 1) -> us.length = wd -> bY agg wd (ks ++ [(k,b)]) (vs ++ us) = bY agg wd ks vs ++ [{ key := k,val := f8 agg wd us,born := b }]
 | [],vs,us,k,b,h,_,hu => by
  have : vs = [] := List.eq_nil_of_length_eq_zero (by simpa using h)
  subst this
  simp [bY,f8]
 | (x,b') :: r,vs,us,k,b,h,ha,hu => by
  have hl : wd <= vs.length := by rw [h]; simp [Nat.succ_mul]
  simp only [List.cons_append,bY]
  rw [List.drop_append_of_le_length hl,v6 agg wd r (vs.drop wd) us k b (by simp [h,Nat.succ_mul]) ha hu,List.take_append_of_le_length hl]
  cases agg with
  | true => rfl
  | false =>
   have := ha rfl
   subst this
   cases vs with
   | nil => simp at hl
   | cons y ys => rfl
theorem aBI {α : Type} {l vs : List α} {off d : Nat} (h : d <= off) (h2 : off + vs.length <= l.length) : (aI l off vs).drop d = aI (l.drop d) (off - d) vs := by
 unfold aI
 rw [List.drop_drop,show d + (off - d + vs.length) = off + vs.length by omega,List.append_assoc,List.append_assoc,List.drop_append_of_le_length (by simp; omega),List.drop_take]
theorem vY (agg : Bool) (wd : Nat) : ∀ (ks : List (Value × Nat)) (vs us : List Value) (m : Nat),vs.length = ks.length * wd -> (agg = false -> wd = 1) -> us.length = wd -> m < ks.length -> bY agg wd ks (aI vs (m * wd) us) = (bY agg wd ks vs).modify m fun e => { e with val := f8 agg wd us }
 | [],vs,us,m,_,_,_,hm => by simp at hm
 | (x,b) :: r,vs,us,m,h,ha,hu,hm => by
  have hl : wd <= vs.length := by rw [h]; simp [Nat.succ_mul]
  cases m with
  | zero =>
   simp only [Nat.zero_mul,bY,List.modify_zero_cons]
   have e1 : aI vs 0 us = us ++ vs.drop wd := by simp [aI,hu]
   rw [e1,List.drop_left' hu,List.take_left' hu]
   cases agg with
   | true => simp [f8,<- hu]
   | false =>
    have := ha rfl
    subst this
    cases us with
    | nil => simp at hu
    | cons y ys => simp [f8]
  | succ m =>
   have hm' : m < r.length := by simpa using hm
   have hle : (m + 1) * wd + us.length <= vs.length := by
    rw [h,hu]
    have : (m + 2) * wd <= (r.length + 1) * wd := Nat.mul_le_mul_right _ (by omega)
    have e : (m + 2) * wd = (m + 1) * wd + wd := by rw [Nat.succ_mul]
    simp only [lc]
    omega
   have hge : wd <= (m + 1) * wd := by rw [Nat.succ_mul]; omega
   simp only [bY,List.modify_succ_cons]
   rw [aBI hge hle,show (m + 1) * wd - wd = m * wd by rw [Nat.succ_mul]; omega,vY agg wd r (vs.drop wd) us m (by simp [h,Nat.succ_mul]) ha hu hm']
   have e2 : (aI vs ((m + 1) * wd) us).take wd = vs.take wd := by
    unfold aI
    rw [List.append_assoc,List.take_append_of_le_length (by simp; omega),List.take_take,Nat.min_eq_left hge]
   have e3 : agg = false -> (aI vs ((m + 1) * wd) us).headD undef = vs.headD undef := by
    intro ha'
    have := ha ha'
    subst this
    cases vs with
    | nil => simp at hl
    | cons y ys => simp [aI]
   rw [e2]
   cases agg with
   | true => rfl
   | false => simp only [Bool.false_eq_true,if_false]; rw [e3 rfl]
section
variable {P : Program} {fr : Fr} {own : Own} {a : Act} {w w' : World} {pl : Pl} {o : Oper} {p : Path} {lk : Lk}
def mmX (P : Program) (ob : Own) (T : TypeId) (nid : Nat) : Option Eff :=
 match P.underlying T,ob nid with
 | some (.map _ et),none => match Eng.isAggB P et,P.info? et with
  | some agg,some i => if agg || Nat.beq i.size 1 then some ⟨.c (.mp nid),[(nid,.box ⟨.mapx agg i.size [] 0,none⟩ [])],[nid],[]⟩ else none
  | _,_ => none
 | _,_ => none
theorem mmX_ok (m : Mem fr own w pl) {T : TypeId} (hop : o.op = .makeMap T none) {ob : Own} {nid : Nat} {e : Eff} (h : mmX P ob T nid = some e) (hob : ∀ i ∈ e.touch,own i = ob i) : Does P fr own a w pl o e := by
 unfold mmX at h
 split at h
 rename_i kt et hu hnone
 split at h
 rename_i agg i ha hi
 split at h
 simp only [oIQ] at h
 subst h
 intro K Q hK
 obtain ⟨pl',m',L,hb,_⟩ := m.newBoxO (i := nid) (by rw [hob nid (by simp),hnone]) ⟨.mapx agg i.size [] 0,none⟩ (fun b hb => by cases hb) (cells := []) (vs := []) All2.nil (x := .map #[] 0) rfl
 have hrun : (execOp a.eval o).run P w = .ok (.value (.map (some w.heap.size))) (w.alloc (.map #[] 0)) := by
  unfold execOp
  simp only [hop]
  simp [Instr.makeMap,run_underlying hu,newObj]
  rfl
 unfold Oper.wp
 rw [hrun,Oper.upon_value]
 exact hK _ _ pl' m' L (.inr ⟨⟨_,[],upd_same _ _ _⟩,by rw [hb]⟩)
 cases h
 cases h
 cases h
def aGB (agg : Bool) (wd : Nat) : SV -> Option (List C)
 | .c x => if agg then none else some [x]
 | .agg xs => if agg && Nat.beq xs.length wd then some xs else none
 | .tup _ => none
theorem aJC {agg : Bool} {wd : Nat} (hw : agg = false -> wd = 1) {s : SV} {cs : List C} {v : Value} (h : aGB agg wd s = some cs) (hv : aV w pl own s v) : ∃ us : List Value,v = f8 agg wd us /\ us.length = wd /\ All2 (COk w pl own) cs us := by
 unfold aGB at h
 split at h
 split at h
 cases h
 rename_i x ha
 simp only [oIQ] at h; subst h
 have ha : agg = false := by simpa using ha
 exact ⟨[v],by simp [f8,ha],(hw ha).symm,All2.one hv⟩
 split at h
 rename_i xs ha
 simp only [bIQ,lA] at ha
 simp only [oIQ] at h; subst h
 obtain ⟨vs,rfl,h2⟩ := hv
 have hl : vs.length = wd := by rw [<- h2.1]; exact ha.2
 exact ⟨vs,by simp [f8,ha.1,<- hl],hl,h2⟩
 cases h
 cases h
def svX (agg : Bool) (cs : List C) : Option SV := if agg then some (.agg cs) else match cs with
 | [c] => some (.c c)
 | _ => none
def insX (P : Program) (lk : Lk) (ob : Own) (T : TypeId) (m k x : Operand) : Option Eff :=
 match lk [] m,exO lk [] k,lk [] x with
 | some (.c (.mp i)),some key,some s => match ob i,P.underlying T with
  | some (.box ⟨.mapx agg wd ks next,q⟩ cells),some (.map kt _) => match P.underlying kt,aGB agg wd s with
   | some kd,some cs => if sK kd key && Nat.beq cells.length (ks.length * wd) && (agg || Nat.beq wd 1) then match Instr.findNow kd key (bY agg wd ks []) 0 with
     | some none => some ⟨.c .any,[(i,.box ⟨.mapx agg wd (ks ++ [(key,next)]) (next + 1),q⟩ (cells ++ cs))],[i],[]⟩
     | some (some (j,_)) => match ks[j]? with
      | some (key0,_) => if Instr.sameBits 10000 key0 key then some ⟨.c .any,[(i,.box ⟨.mapx agg wd (ks.modify j fun y => (key,y.2)) next,q⟩ (aI cells (j * wd) cs))],[i],[]⟩ else none
      | none => none
     | none => none
    else none
   | _,_ => none
  | _,_ => none
 | _,_,_ => none
theorem run_checkKey {e : Bool} {kt : TypeId} {kd : TypeDesc} {key : Value} (hkt : P.underlying kt = some kd) (hk : sK kd key = true) : (Instr.checkKey e 10000 kt key).run P w = .ok () w := by
 unfold Instr.checkKey
 cases kd <;> cases key <;> first | (simp [sK] at hk; done) | simp [Sem.run_bind,run_underlying hkt,Result.andThen]
theorem run_findKey {kt : TypeId} {kd : TypeDesc} {key : Value} {es : List MapEntry} {x : Option (Nat × Value)} (hkt : P.underlying kt = some kd) (h : Instr.findNow kd key es 0 = some x) : (Instr.findKey kt key es).run P w = .ok x w := by
 unfold Instr.findKey
 simp [Sem.run_bind,run_underlying hkt,Result.andThen,h]
theorem vZ (agg : Bool) (wd : Nat) (key : Value) : ∀ (ks : List (Value × Nat)) (vs : List Value) (j : Nat),bY agg wd (ks.modify j fun y => (key,y.2)) vs = (bY agg wd ks vs).modify j fun e => { e with key }
 | [],vs,j => by cases j <;> rfl
 | x :: r,vs,0 => rfl
 | x :: r,vs,j + 1 => by simp only [List.modify_succ_cons,bY]; rw [vZ agg wd key r]
theorem aHD (m : Mem fr own w pl) (hl : aX a w pl own p lk) (hp : Eng.Holds a p) {T : TypeId} {y k x : Operand} (hop : o.op = .insert T y k x \/ o.op = .mapUpdate T y k x) (hd : o.dst = none) {ob : Own} {e : Eff} (h : insX P lk ob T y k x = some e) (hob : ∀ i ∈ e.touch,own i = ob i) : Does P fr own a w pl o e := by
  unfold insX at h
  split at h
  · rename_i i key s hy hk hx
    split at h
    · rename_i agg wd ks next q cells kt et hbx hu
      split at h
      · rename_i kd cs hkt hc
        split at h
        · rename_i hchk
          simp only [bIQ,Bool.or_eq_true,lA] at hchk
          obtain ⟨⟨hokk,hlen⟩,hwd⟩ := hchk
          have hw : agg = false → wd = 1 := fun ha => by rcases hwd with h | h; · rw [ha] at h; cases h
                                                         · exact h
          obtain ⟨uv,huv,hul,hcu⟩ := aJC hw hc (hl [] x s hx holds_nil hp)
          obtain ⟨_,hv⟩ := hl [] y _ hy holds_nil hp
          have hkv := bD hl hp holds_nil hk
          split at h
          · rename_i hfn
            simp only [oIQ] at h
            subst h
            have hi : own i = some (.box ⟨.mapx agg wd ks next,q⟩ cells) := by rw [hob i (by simp),hbx]
            obtain ⟨vs,hb,hcells⟩ := m.obj i _ hi
            have hb : w.heap[pl.blk i]? = some (.map (bY agg wd ks vs).toArray next) := hb
            have hvl : vs.length = ks.length * wd := by rw [<- hcells.1]; exact hlen
            have hf := (aDV (agg := agg) (wd := wd) (kd := kd) (k := key) ks vs [] 0).2 hfn
            intro K Q hK
            obtain ⟨m',L⟩ := m.turnObjO (ty' := ⟨.mapx agg wd (ks ++ [(key,next)]) (next + 1),q⟩) (cells' := cells ++ cs) (vs' := vs ++ uv) hi rfl (hcells.append hcu) (x := .map ((bY agg wd ks vs).toArray.push { key,val := f8 agg wd uv,born := next }) (next + 1)) (by
              show _ = _
              rw [v6 agg wd ks vs uv key next hvl hw hul]
              simp)
            have hgo : (getObj (pl.blk i)).run P w = .ok (.map (bY agg wd ks vs).toArray next) w := by simp [getObj,Sem.run,hb]
            have hso : ∀ ob2,(setObj (pl.blk i) ob2).run P w = .ok () { w with heap := w.heap.setIfInBounds (pl.blk i) ob2 } := fun ob2 => by simp [setObj,Sem.run,hb]
            have hmu : (Instr.mapUpdate T (.map (some (pl.blk i))) key (f8 agg wd uv)).run P w = .ok () { w with heap := w.heap.setIfInBounds (pl.blk i) (.map ((bY agg wd ks vs).toArray.push { key,val := f8 agg wd uv,born := next }) (next + 1)) } := by
              unfold Instr.mapUpdate
              simp only [Sem.run_bind,run_underlying hu,an,hgo,run_checkKey hkt hokk,run_findKey hkt hf]
              rw [hso]
            have hrun : (execOp a.eval o).run P w = .ok .skip { w with heap := w.heap.setIfInBounds (pl.blk i) (.map ((bY agg wd ks vs).toArray.push { key,val := f8 agg wd uv,born := next }) (next + 1)) } := by
              unfold execOp
              rcases hop with hop | hop
              · simp only [hop,hv,hkv,huv,Sem.run_bind,hmu,an,Sem.run_pure]
              · simp only [hop,hv,hkv,huv,Sem.run_bind,hmu,an,Sem.run_pure]
            unfold Oper.wp
            rw [hrun,Oper.upon_skip]
            exact hK undef _ pl m' L (.inl hd)
          · rename_i j v0 hfn
            split at h
            · rename_i key0 b0 hks
              split at h
              · rename_i hsb
                simp only [oIQ] at h
                subst h
                have hi : own i = some (.box ⟨.mapx agg wd ks next,q⟩ cells) := by rw [hob i (by simp),hbx]
                obtain ⟨vs,hb,hcells⟩ := m.obj i _ hi
                have hb : w.heap[pl.blk i]? = some (.map (bY agg wd ks vs).toArray next) := hb
                have hvl : vs.length = ks.length * wd := by rw [<- hcells.1]; exact hlen
                obtain ⟨mm,hjm,hlt,hf⟩ := (aDV (agg := agg) (wd := wd) (kd := kd) (k := key) ks vs [] 0).1 j v0 hfn
                have : mm = j := by omega
                subst this
                have hek : ((bY agg wd ks vs).toArray[mm]?).map (·.key) = some key0 := by
                  have : ∀ (ks : List (Value × Nat)) (vs : List Value) (j : Nat) (x : Value × Nat),ks[j]? = some x -> ((bY agg wd ks vs)[j]?).map (·.key) = some x.1 := by
                    intro ks
                    induction ks with
                    | nil => intro vs j x h; simp at h
                    | cons y r ih =>
                      intro vs j x h
                      cases j with
                      | zero => simp only [cz,oIQ] at h; subst h; rfl
                      | succ j => simpa [bY] using ih (vs.drop wd) j x (by simpa using h)
                  simpa using this ks vs mm _ hks
                intro K Q hK
                obtain ⟨m',L⟩ := m.turnObjO (ty' := ⟨.mapx agg wd (ks.modify mm fun y => (key,y.2)) next,q⟩) (cells' := aI cells (mm * wd) cs) (vs' := aI vs (mm * wd) uv) hi rfl (fQ hcells hcu _) (x := .map ((bY agg wd ks vs).toArray.modify mm fun e => { e with key,val := f8 agg wd uv }) next) (by
                  show _ = _
                  rw [vZ,vY agg wd ks vs uv mm hvl hw hul hlt]
                  congr 2
                  apply Array.ext'
                  simp only [Array.toList_modify]
                  apply List.ext_getElem?
                  intro z
                  simp only [List.getElem?_modify]
                  by_cases hz : mm = z
                  · subst hz
                    cases (bY agg wd ks vs)[mm]? <;> simp
                  · simp [hz])
                have hgo : (getObj (pl.blk i)).run P w = .ok (.map (bY agg wd ks vs).toArray next) w := by simp [getObj,Sem.run,hb]
                have hso : ∀ ob2,(setObj (pl.blk i) ob2).run P w = .ok () { w with heap := w.heap.setIfInBounds (pl.blk i) ob2 } := fun ob2 => by simp [setObj,Sem.run,hb]
                have hks2 : (Instr.keyThatStays key0 key).run P w = .ok key w := by simp [Instr.keyThatStays,hsb]
                have hmu : (Instr.mapUpdate T (.map (some (pl.blk i))) key (f8 agg wd uv)).run P w = .ok () { w with heap := w.heap.setIfInBounds (pl.blk i) (.map ((bY agg wd ks vs).toArray.modify mm fun e => { e with key,val := f8 agg wd uv }) next) } := by
                  unfold Instr.mapUpdate
                  simp only [Sem.run_bind,run_underlying hu,an,hgo,run_checkKey hkt hokk,run_findKey hkt hf,hek,Option.getD_some,hks2]
                  rw [hso]
                have hrun : (execOp a.eval o).run P w = .ok .skip { w with heap := w.heap.setIfInBounds (pl.blk i) (.map ((bY agg wd ks vs).toArray.modify mm fun e => { e with key,val := f8 agg wd uv }) next) } := by
                  unfold execOp
                  rcases hop with hop | hop
                  · simp only [hop,hv,hkv,huv,Sem.run_bind,hmu,an,Sem.run_pure]
                  · simp only [hop,hv,hkv,huv,Sem.run_bind,hmu,an,Sem.run_pure]
                unfold Oper.wp
                rw [hrun,Oper.upon_skip]
                exact hK undef _ pl m' L (.inl hd)
              · cases h
            · cases h
          · cases h
        · cases h
      · cases h
    · cases h
  · cases h
def aH4 (agg : Bool) (cs : List C) (b : Bool) : SV := .tup [(agg,cs),(false,[.d (.v (.bool b))])]
def lkpX (P : Program) (lk : Lk) (ob : Own) (T : TypeId) (m k : Operand) (ok : Bool) : Option Eff :=
 match lk [] m,exO lk [] k with
 | some (.c (.mp i)),some key => match ob i,P.underlying T with
  | some (.box ⟨.mapx agg wd ks next,q⟩ cells),some (.map kt et) => match P.underlying kt with
   | some kd => if sK kd key && Nat.beq cells.length (ks.length * wd) && (agg || Nat.beq wd 1) then match Instr.findNow kd key (bY agg wd ks []) 0 with
     | some (some (j,_)) => match svX agg ((cells.drop (j * wd)).take wd) with
      | some s => some ⟨if ok then aH4 agg ((cells.drop (j * wd)).take wd) true else s,[],[i],[]⟩
      | none => none
     | some none => match P.info? et with
      | some ti => match ti.zero with
       | some z => match ofV z with
        | some s => match s with
         | .c c => some ⟨if ok then aH4 false [c] false else s,[],[i],[]⟩
         | .agg cs => some ⟨if ok then aH4 true cs false else s,[],[i],[]⟩
         | .tup _ => none
        | none => none
       | none => none
      | none => none
     | none => none
    else none
   | none => none
  | _,_ => none
 | _,_ => none
theorem oT {T kt et : TypeId} {kd : TypeDesc} {key : Value} {r cl : Nat} {es : List MapEntry} {ok : Bool} {v : Value} {b : Bool} (hu : P.underlying T = some (.map kt et)) (hkt : P.underlying kt = some kd) (hk : sK kd key = true) (hb : w.heap[r]? = some (.map es.toArray cl))
  (hf : (b = true /\ ∃ j,Instr.findNow kd key es 0 = some (some (j,v))) \/ (b = false /\ Instr.findNow kd key es 0 = some none /\ ∃ ti,P.info? et = some ti /\ ti.zero = some v)) :
  (Instr.lookup T (.map (some r)) key ok).run P w = .ok (if ok then .tuple #[v,.bool b] else v) w := by
 unfold Instr.lookup
 have hgo : (getObj r).run P w = .ok (.map es.toArray cl) w := by simp [getObj,Sem.run,hb]
 rcases hf with ⟨rfl,j,hj⟩ | ⟨rfl,hn,ti,hti,hz⟩
 simp only [Sem.run_bind,run_underlying hu,an,hgo,run_checkKey hkt hk,run_findKey hkt hj,Sem.run_pure]
 have hzv : (zeroValue et).run P w = .ok v w := by simp [zeroValue,typeInfo,hti,hz]
 simp only [Sem.run_bind,run_underlying hu,an,hgo,run_checkKey hkt hk,run_findKey hkt hn,Sem.run_pure,hzv]
theorem aIL {b : Bool} : cZ w pl own (false,[.d (.v (.bool b))]) (.bool b) := Rd.v _ rfl
theorem lZ {agg : Bool} {cs : List C} {b : Bool} {v : Value} (h : cZ w pl own (agg,cs) v) : aV w pl own (aH4 agg cs b) (.tuple #[v,.bool b]) := ⟨[v,.bool b],rfl,All2.cons h (All2.one aIL)⟩
theorem lkpX_ok (m : Mem fr own w pl) (hl : aX a w pl own p lk) (hp : Eng.Holds a p) {T : TypeId} {y k : Operand} {ok : Bool} (hop : o.op = .lookup T y k ok) {ob : Own} {e : Eff} (h : lkpX P lk ob T y k ok = some e) (hob : ∀ i ∈ e.touch,own i = ob i) : Does P fr own a w pl o e := by
  unfold lkpX at h
  split at h
  · rename_i i key hy hk
    split at h
    · rename_i agg wd ks next q cells kt et hbx hu
      split at h
      · rename_i kd hkt
        split at h
        · rename_i hchk
          simp only [bIQ,Bool.or_eq_true,lA] at hchk
          obtain ⟨⟨hokk,hlen⟩,hwd⟩ := hchk
          have hw : agg = false → wd = 1 := fun ha => by rcases hwd with h | h; · rw [ha] at h; cases h
                                                         · exact h
          obtain ⟨_,hv⟩ := hl [] y _ hy holds_nil hp
          have hkv := bD hl hp holds_nil hk
          split at h
          · rename_i j v0 hfn
            split at h
            · rename_i s hs
              simp only [oIQ] at h
              subst h
              have hi : own i = some (.box ⟨.mapx agg wd ks next,q⟩ cells) := by rw [hob i (by simp),hbx]
              obtain ⟨vs,hb,hcells⟩ := m.obj i _ hi
              have hb : w.heap[pl.blk i]? = some (.map (bY agg wd ks vs).toArray next) := hb
              obtain ⟨mm,hjm,hlt,hf⟩ := (aDV (agg := agg) (wd := wd) (kd := kd) (k := key) ks vs [] 0).1 j v0 hfn
              have : mm = j := by omega
              subst this
              have hvl : vs.length = ks.length * wd := by rw [<- hcells.1]; exact hlen
              have hcut : All2 (COk w pl own) ((cells.drop (mm * wd)).take wd) ((vs.drop (mm * wd)).take wd) := (hcells.drop _).take _
              have hpart : cZ w pl own (agg,(cells.drop (mm * wd)).take wd) (f8 agg wd (vs.drop (mm * wd))) := by
                cases agg with
                | true => exact ⟨_,by simp [f8],hcut⟩
                | false =>
                  have := hw rfl
                  subst this
                  simp only [svX,Bool.false_eq_true,if_false] at hs
                  split at hs
                  · rename_i c hc1
                    rw [hc1] at hcut ⊢
                    obtain ⟨u,t,hu1,hcu,ht⟩ := hcut.uncons
                    have : (vs.drop (mm * 1)).headD undef = u := by
                      cases hvd : vs.drop (mm * 1) with
                      | nil => rw [hvd] at hu1; simp at hu1
                      | cons z zs => rw [hvd] at hu1; simp at hu1; simp [hu1.1]
                    simp only [f8,Bool.false_eq_true,if_false,this]
                    exact hcu
                  · cases hs
              have hsv : aV w pl own s (f8 agg wd (vs.drop (mm * wd))) := by
                unfold svX at hs
                cases agg with
                | true => simp only [if_true,oIQ] at hs; subst hs; exact hpart
                | false =>
                  simp only [Bool.false_eq_true,if_false] at hs
                  split at hs
                  · rename_i c hc1
                    simp only [oIQ] at hs; subst hs
                    rw [hc1] at hpart
                    exact hpart
                  · cases hs
              have hrun := oT (w := w) (ok := ok) hu hkt hokk hb (.inl ⟨rfl,_,hf⟩)
              refine aJ (v := if ok then .tuple #[f8 agg wd (vs.drop (mm * wd)),.bool true] else f8 agg wd (vs.drop (mm * wd))) m ?_ ?_
              · unfold execOp
                simp only [hop,hv,hkv,Sem.run_bind,hrun,an,Sem.run_pure]
              · cases ok with
                | true => exact lZ hpart
                | false => exact hsv
            · cases h
          · rename_i hfn
            split at h
            · rename_i ti hti
              split at h
              · rename_i z hz
                split at h
                · rename_i s hs
                  have fin : ∀ (s' : SV) (tp : SV),e = ⟨if ok then tp else s',[],[i],[]⟩ -> aV w pl own s' z -> aV w pl own tp (.tuple #[z,.bool false]) -> Does P fr own a w pl o e := by
                    rintro s' tp rfl h1 h2
                    have hi : own i = some (.box ⟨.mapx agg wd ks next,q⟩ cells) := by rw [hob i (by simp),hbx]
                    obtain ⟨vs,hb,hcells⟩ := m.obj i _ hi
                    have hb : w.heap[pl.blk i]? = some (.map (bY agg wd ks vs).toArray next) := hb
                    have hf := (aDV (agg := agg) (wd := wd) (kd := kd) (k := key) ks vs [] 0).2 hfn
                    have hrun := oT (w := w) (ok := ok) hu hkt hokk hb (.inr ⟨rfl,hf,ti,hti,hz⟩)
                    refine aJ (v := if ok then .tuple #[z,.bool false] else z) m ?_ ?_
                    · unfold execOp
                      simp only [hop,hv,hkv,Sem.run_bind,hrun,an,Sem.run_pure]
                    · cases ok with
                      | true => exact h2
                      | false => exact h1
                  have hsv : aV w pl own s z := lM hs
                  split at h
                  · rename_i c
                    simp only [oIQ] at h
                    exact fin _ _ h.symm hsv (lZ (agg := false) hsv)
                  · rename_i cs'
                    simp only [oIQ] at h
                    exact fin _ _ h.symm hsv (lZ (agg := true) hsv)
                  · cases h
                · cases h
              · cases h
            · cases h
          · cases h
        · cases h
      · cases h
    · cases h
  · cases h
def lkpN (P : Program) (lk : Lk) (T : TypeId) (m k : Operand) (ok : Bool) : Option Eff :=
 match lk [] m,exO lk [] k with
 | some (.c (.d (.v (.map none)))),some key => match P.underlying T with
  | some (.map kt et) => match P.underlying kt,P.info? et with
   | some kd,some ti => bif sK kd key then (match ti.zero with
    | some z => match ofV z with
     | some s => match s with
      | .c c => some ⟨if ok then aH4 false [c] false else s,[],[],[]⟩
      | .agg cs => some ⟨if ok then aH4 true cs false else s,[],[],[]⟩
      | .tup _ => none
     | none => none
    | none => none) else none
   | _,_ => none
  | _ => none
 | _,_ => none
theorem lkpN_ok (m : Mem fr own w pl) (hl : aX a w pl own p lk) (hp : Eng.Holds a p) {T : TypeId} {y k : Operand} {ok : Bool} (hop : o.op = .lookup T y k ok) {e : Eff} (h : lkpN P lk T y k ok = some e) : Does P fr own a w pl o e := by
 unfold lkpN at h
 split at h
 rename_i key hy hk
 split at h
 rename_i kt et hu
 split at h
 rename_i kd ti hkt hti
 cases hokk : sK kd key with
 | false => rw [hokk] at h; cases h
 | true =>
  rw [hokk] at h
  simp only [cond_true] at h
  have hv : a.eval y = .map none := Rd.exact (hl [] y _ hy holds_nil hp)
  have hkv := bD hl hp holds_nil hk
  split at h
  rename_i z hz
  split at h
  rename_i s hs
  have hzv : (zeroValue et).run P w = .ok z w := by simp [zeroValue,typeInfo,hti,hz]
  have hrun : (Instr.lookup T (.map none) key ok).run P w = .ok (if ok then .tuple #[z,.bool false] else z) w := by
   unfold Instr.lookup
   have hfk : (Instr.findKey kt key []).run P w = .ok none w := run_findKey hkt rfl
   simp only [Sem.run_bind,run_underlying hu,an,run_checkKey hkt hokk,hfk,Sem.run_pure,hzv]
  have fin : ∀ (s' : SV) (tp : SV),e = ⟨if ok then tp else s',[],[],[]⟩ -> aV w pl own s' z -> aV w pl own tp (.tuple #[z,.bool false]) -> Does P fr own a w pl o e := by
   rintro s' tp rfl h1 h2
   refine aJ (v := if ok then .tuple #[z,.bool false] else z) m ?_ ?_
   unfold execOp
   simp only [hop,hv,hkv,Sem.run_bind,hrun,an,Sem.run_pure]
   cases ok with
   | true => exact h2
   | false => exact h1
  have hsv : aV w pl own s z := lM hs
  split at h
  rename_i c
  simp only [oIQ] at h
  exact fin _ _ h.symm hsv (lZ (agg := false) hsv)
  rename_i cs'
  simp only [oIQ] at h
  exact fin _ _ h.symm hsv (lZ (agg := true) hsv)
  cases h
  cases h
  cases h
 cases h
 cases h
 cases h
def opW (P : Program) (lk : Lk) (ob : Own) (o : Oper) (nid : Nat) : Option Eff := match o.op with
 | .makeMap T none => mmX P ob T nid
 | .insert T m k x => match o.dst with
  | none => insX P lk ob T m k x
  | some _ => none
 | .mapUpdate T m k x => match o.dst with
  | none => insX P lk ob T m k x
  | some _ => none
 | .lookup T m k ok => match lkpX P lk ob T m k ok with
  | some e => some e
  | none => lkpN P lk T m k ok
 | .load t x => aLM P lk ob t x
 | .store ty x v => match o.dst with
  | none => aEJ P lk ob ty x v
  | some _ => none
 | .buildSlice T len parts => bslG P lk ob T len parts nid
 | .call { callee := .builtin .append,args := ⟨[s,x]⟩,argTypes := ⟨[T,T']⟩ } => bif Nat.beq T T' then appG P lk ob T s x nid else none
 | _ => none
theorem opW_ok (m : Mem fr own w pl) (hl : aX a w pl own p lk) (hp : Eng.Holds a p) {ob : Own} {nid : Nat} {e : Eff} (h : opW P lk ob o nid = some e) (hob : ∀ i ∈ e.touch,own i = ob i) : Does P fr own a w pl o e := by
 unfold opW at h
 split at h
 rename_i hop; exact mmX_ok m hop h hob
 rename_i hop
 split at h
 rename_i hd; exact aHD m hl hp (.inl hop) hd h hob
 cases h
 rename_i hop
 split at h
 rename_i hd; exact aHD m hl hp (.inr hop) hd h hob
 cases h
 rename_i hop
 split at h
 rename_i e' he
 simp only [oIQ] at h
 subst h
 exact lkpX_ok m hl hp hop he hob
 exact lkpN_ok m hl hp hop h
 rename_i hop; exact aLL m hl hp hop h hob
 rename_i hop
 split at h
 rename_i hd; exact aH7 m hl hp hop hd h hob
 cases h
 rename_i hop; exact bslG_ok m hl hp hop h hob
 rename_i s x T T' hop
 cases hT : Nat.beq T T' with
 | false => rw [hT] at h; cases h
 | true =>
  rw [hT] at h
  have := Nat.eq_of_beq_eq_true hT
  subst this
  exact appG_ok m hl hp hop h hob
 cases h
end
end Go.V
namespace Go.V
open Go.RowKit
section
variable {P : Program} {fr : Fr} {own own' : Own} {a : Act} {w w' : World} {pl pl' : Pl} {o : Oper} {p : Path} {lk : Lk}
theorem Mem.freeze (h : Mem fr own w pl) {i k : Nat} {e : TypeId} {sz : Nat} {es : LD} (hi : own i = some (.arr k ⟨e,[]⟩ sz es)) (h100 : 100 <= i) :
  ∃ pl',Mem fr (upd own i (.arr (k + 1) ⟨e,[]⟩ sz [])) w pl' /\ Later w pl own w pl' (upd own i (.arr (k + 1) ⟨e,[]⟩ sz [])) /\
   Rd w (Sh pl' (upd own i (.arr (k + 1) ⟨e,[]⟩ sz []))) (.sl sz es) (.slice (pl.sl i).1 es.length (pl.sl i).2) := by
 obtain ⟨xs,hxs,hr,hs⟩ := h.obj i _ hi
 have hr : All2 (Rd w (Sh pl own)) es.flatten xs := hr
 have hb0 : aM pl own i = (pl.sl i).1.map (·.block) := by unfold aM; rw [hi]
 have := Mem.set (own' := upd own i (.arr (k + 1) ⟨e,[]⟩ sz [])) (pl' := ⟨pl.S,pl.blk,pF pl.sl i (none,0)⟩) (w' := w) h i (.arr (k + 1) ⟨e,[]⟩ sz []) rfl rfl (fun j hj => ⟨rfl,kM _ _ hj⟩) (fun _ _ _ => rfl)
  (fun _ _ => ⟨[],by simp only [cP]; exact ⟨by simp,.inl ⟨rfl,rfl⟩⟩,AllO.of All2.nil,by simp⟩)
  (fun b hb => by simp [aM,upd_same,cP] at hb)
  (fun ty cs h => by rw [hi] at h; cases h)
  (fun k2 e2 sz2 es2 h => by
   rw [hi] at h
   injection h with h
   injection h with h1 h2 h3 h4
   subst h1
   exact ⟨k + 1,_,_,_,rfl,by omega,fun hk => by omega⟩) rfl rfl rfl (lr _) (fun _ _ _ he => by cases he)
 obtain ⟨m',L⟩ := this
 refine ⟨_,m',L,?_⟩
 rcases hxs.2 with ⟨hA,h0⟩ | ⟨g,cap,cur,hA,hB,hg,hn,hc,hsz,htk⟩
 ·injection hA with h1 h2 h3
  have : es = [] := List.eq_nil_of_length_eq_zero h0
  subst this
  rw [h1,h3]
  exact .nil sz
 ·injection hA with h1 h2 h3
  rw [h1,h3]
  have hbg : aM pl own i = some g := by rw [hb0,h1]; rfl
  have hSg : pl.S g := (h.hS g).2 (.inr (by
   rcases h.base i g hbg with hh | hh
   ·exact hh
   ·have := h.frOk.few i g hh; omega))
  have hget : ∀ (i j : Nat) (ds : List D) (d : D),es[i]? = some ds -> ds[j]? = some d -> ∃ x,xs[i * sz + j]? = some x /\ Rd w (Sh pl own) d x := fun i j ds d hi hj => hr.get (dK hs hi hj)
  have hus : ∀ {q : Nat} {x : Value},xs[q]? = some x -> xs.getD q undef = x := fun hx => by rw [gd,hx]; rfl
  refine Rd.sl (off := 0) (fun i j => xs.getD (i * sz + j) undef) ⟨hSg,fun j hj => ?_⟩ hg hn (by omega) hs (fun i' j ds d hi' hj => ?_) (fun i' j ds d hi' hj => ?_)
  ·by_cases hji : j = i
   ·subst hji
    simp [aM,upd_same,cP] at hj
   ·rw [f4 (own' := upd own i (.arr (k + 1) ⟨e,[]⟩ sz [])) (own := own) (pl' := ⟨pl.S,pl.blk,pF pl.sl i (none,0)⟩) (pl := pl) (upd_ne _ _ hji) rfl (kM _ _ hji)] at hj
    exact hji (h.inj j i g hj hbg)
  ·obtain ⟨x,hx,_⟩ := hget i' j ds d hi' hj
   rw [hus hx]
   rw [<- htk,List.getElem?_take] at hx
   split at hx
   ·simpa using hx
   ·cases hx
  ·obtain ⟨x,hx,hrx⟩ := hget i' j ds d hi' hj
   rw [hus hx]
   exact L.rd hrx
def frC (i k sz : Nat) (es : LD) : C -> C
 | .ar j k' => bif Nat.beq j i && Nat.beq k' k then .d (.sl sz es) else .ar j k'
 | c => c
def lkF (lk : Lk) (i k sz : Nat) (es : LD) : Lk := fun q x => match lk q x with
 | some (.c c) => some (.c (frC i k sz es c))
 | some (.agg xs) => some (.agg (xs.map (frC i k sz es)))
 | r => r
def aFV (lk : Lk) (own : Tr Ob) (i : Nat) : Option (Lk × Tr Ob × (Nat × Ob)) := match own.get i with
 | some (.arr k ⟨e,[]⟩ sz es) => bif Nat.ble 100 i then (match aBL own [(i,.arr (k + 1) ⟨e,[]⟩ sz [])] with
  | some own' => some (lkF lk i k sz es,own',(i,.arr (k + 1) ⟨e,[]⟩ sz []))
  | none => none) else none
 | _ => none
def sV : List Nat -> Lk -> Tr Ob -> Option (Lk × Tr Ob × List (Nat × Ob))
 | [],lk,own => some (lk,own,[])
 | i :: r,lk,own => match aFV lk own i with
  | some (lk1,own1,u) => match sV r lk1 own1 with
   | some (lk2,own2,us) => some (lk2,own2,u :: us)
   | none => none
  | none => none
def aJH : List C -> List Nat -> List Nat
 | [],a => a
 | .ar i _ :: r,a => bif (aJH r a).contains i then aJH r a else i :: aJH r a
 | _ :: r,a => aJH r a
def aHX (lk : Lk) : List Operand -> List Nat
 | [] => []
 | x :: r => match lk [] x with
  | some (.c c) => aJH [c] (aHX lk r)
  | some (.agg xs) => aJH xs (aHX lk r)
  | _ => aHX lk r
theorem All2.mapL {α β γ : Type} {R : α -> β -> Prop} {S : γ -> β -> Prop} {f : α -> γ} {xs : List α} {ys : List β} (h : All2 R xs ys) (hf : ∀ x y,R x y -> S (f x) y) : All2 S (xs.map f) ys := by
 refine ⟨by simp [h.1],fun j x y hx hy => ?_⟩
 rw [List.getElem?_map] at hx
 cases hj : xs[j]? with
 | none => rw [hj] at hx; cases hx
 | some z =>
  rw [hj] at hx
  simp only [Option.map_some,oIQ] at hx
  subst hx
  exact hf _ _ (h.2 j z y hj hy)
theorem aI2 {T T1 : Tr Ob} {i : Nat} {lk1 : Lk} {u : Nat × Ob} (h : aFV lk T i = some (lk1,T1,u)) : u.1 = i /\ T1.get = upd T.get i u.2 /\
  ∀ {fr : Fr} {own0 : Own} {a : Act} {w : World} {pl : Pl} {p : Path},own0 i = T.get i -> Mem fr own0 w pl -> aX a w pl own0 p lk -> ∃ pl',Mem fr (upd own0 i u.2) w pl' /\ Later w pl own0 w pl' (upd own0 i u.2) /\ aX a w pl' (upd own0 i u.2) p lk1 := by
 unfold aFV at h
 split at h
 rename_i k e sz es hi
 cases h100 : Nat.ble 100 i with
 | false => rw [h100] at h; cases h
 | true =>
  rw [h100] at h
  simp only [cond_true] at h
  split at h
  rename_i T' hs
  simp only [oIQ,pIQ] at h
  obtain ⟨rfl,rfl,rfl⟩ := h
  refine ⟨rfl,jM hs,fun {fr own0 a w pl p} h0 m hl => ?_⟩
  obtain ⟨pl',m',L,hr⟩ := m.freeze (i := i) (by rw [h0]; exact hi) (Nat.le_of_ble_eq_true h100)
  refine ⟨pl',m',L,fun q x sv hx hq hp => ?_⟩
  have key : ∀ {c : C} {v : Value},COk w pl own0 c v -> COk w pl' (upd own0 i (.arr (k + 1) ⟨e,[]⟩ sz [])) (frC i k sz es c) v := by
   intro c v hv
   cases c with
   | ar j k' =>
    simp only [frC]
    cases hb : (Nat.beq j i && Nat.beq k' k) with
    | false => exact L.c hv
    | true =>
     simp only [bIQ] at hb
     have e1 := Nat.eq_of_beq_eq_true hb.1
     have e2 := Nat.eq_of_beq_eq_true hb.2
     subst e1; subst e2
     rw [cD (w := w) hv (by rw [h0]; exact hi)]
     exact hr
   | _ => exact L.c hv
  unfold lkF at hx
  split at hx
  rename_i c hj
  simp only [oIQ] at hx
  subst hx
  exact key (hl q x _ hj hq hp)
  rename_i xs hj
  simp only [oIQ] at hx
  subst hx
  obtain ⟨vs,hv,h2⟩ := hl q x _ hj hq hp
  exact ⟨vs,hv,h2.mapL fun _ _ h => key h⟩
  exact L.sv (hl q x _ hx hq hp)
  cases h
 cases h
theorem vR : ∀ {l : List Nat} {lk lk1 : Lk} {T T1 : Tr Ob} {us : List (Nat × Ob)},sV l lk T = some (lk1,T1,us) -> keys us = l /\ T1.get = aY T.get us /\
  ∀ {fr : Fr} {own0 : Own} {a : Act} {w : World} {pl : Pl} {p : Path},(∀ i ∈ l,own0 i = T.get i) -> Mem fr own0 w pl -> aX a w pl own0 p lk -> ∃ pl',Mem fr (aY own0 us) w pl' /\ Later w pl own0 w pl' (aY own0 us) /\ aX a w pl' (aY own0 us) p lk1
 | [],lk,lk1,T,T1,us,h => by
  simp only [sV,oIQ,pIQ] at h
  obtain ⟨rfl,rfl,rfl⟩ := h
  exact ⟨rfl,rfl,fun {fr own0 a w pl p} _ m hl => ⟨pl,m,Later.refl _ _ _,hl⟩⟩
 | i :: r,lk,lk1,T,T1,us,h => by
  simp only [sV] at h
  split at h
  rename_i lkA TA u h1
  split at h
  rename_i lkB TB us' h2
  simp only [oIQ,pIQ] at h
  obtain ⟨rfl,rfl,rfl⟩ := h
  obtain ⟨a1,a2,a3⟩ := aI2 h1
  obtain ⟨b1,b2,b3⟩ := vR h2
  obtain ⟨ui,uo⟩ := u
  simp only at a1
  subst a1
  refine ⟨by simp only [keys,mp1]; rw [<- b1]; rfl,by rw [b2,a2]; rfl,fun {fr own0 a w pl p} h0 m hl => ?_⟩
  obtain ⟨pl1,m1,L1,hl1⟩ := a3 (h0 ui (by simp)) m hl
  obtain ⟨pl2,m2,L2,hl2⟩ := b3 (fun j hj => by
   rw [a2]
   by_cases hji : j = ui
   subst hji; rw [upd_same,upd_same]
   rw [upd_ne _ _ hji,upd_ne _ _ hji]; exact h0 j (by simp [hj])) m1 hl1
  exact ⟨pl2,m2,L1.trans L2,hl2⟩
  cases h
  cases h
def cutE (P : Program) (lk : Lk) (ob : Own) (t : TypeId) (x : Operand) (lo hi : Option Operand) : Option Eff :=
 match P.underlying t,lk [] x with
 | some (.slice e),some (.c (.ar i k)) => match ob i,P.info? e with
  | some (.arr k' e' sz es),some ti => bif Nat.beq k' k && Nat.beq ti.size sz then (match lo with
   | none => (match kF lk hi es.length with
    | some (_,h) => bif decide (0 <= h /\ h <= (es.length : Int)) && !mkd e'.ov then some ⟨.c (.ar i (k' + 1)),[(i,.arr (k' + 1) e' sz (es.take h.toNat))],[i],[]⟩ else none
    | none => none)
   | some l0 => (match kF lk (some l0) 0,kF lk hi es.length with
    | some (_,l),some (_,h) => bif decide (0 <= l /\ l <= h /\ h <= (es.length : Int)) && !mkd e'.ov then some ⟨.c (.av i k' l.toNat (h.toNat - l.toNat)),[],[i],[]⟩ else none
    | _,_ => none)) else none
  | _,_ => none
 | some (.slice e),some (.c (.d (.v (.slice none 0 0)))) => match kF lk lo 0,kF lk hi ((0 : Nat) : Int),P.info? e with
  | some (_,l),some (_,h),some ti => bif decide (l = 0 /\ h = 0) then some ⟨.c (.d (.v (.slice none 0 0))),[],[],[]⟩ else none
  | _,_,_ => none
 | _,_ => none
theorem cutE_ok (m : Mem fr own w pl) (hl : aX a w pl own p lk) (hp : Eng.Holds a p) {t : TypeId} {x : Operand} {lo hi : Option Operand} (hop : o.op = .slice t x lo hi none) {ob : Own} {e : Eff} (h : cutE P lk ob t x lo hi = some e) (hob : ∀ i ∈ e.touch,own i = ob i) : Does P fr own a w pl o e := by
 unfold cutE at h
 split at h
 rename_i el i k hu hx
 split at h
 rename_i k' e' sz es ti hi' hti
 cases hc : (Nat.beq k' k && Nat.beq ti.size sz) with
 | false => rw [hc] at h; cases h
 | true =>
  rw [hc] at h
  simp only [cond_true] at h
  simp only [bIQ] at hc
  have e1 := Nat.eq_of_beq_eq_true hc.1
  have e2 := Nat.eq_of_beq_eq_true hc.2
  subst e1
  split at h
  split at h
  rename_i v2 hh hb2
  cases hd : (decide (0 <= hh /\ hh <= (es.length : Int)) && !mkd e'.ov) with
  | false => rw [hd] at h; cases h
  | true =>
   rw [hd] at h
   simp only [cond_true,oIQ] at h
   subst h
   simp only [bIQ,decide_eq_true_eq,Bool.not_eq_true'] at hd
   obtain ⟨hd,hmk⟩ := hd
   have ho : own i = some (.arr k' e' sz es) := by rw [hob i (by simp)]; exact hi'
   have hv := cD (w := w) (hl [] x _ hx holds_nil hp) ho
   obtain ⟨xs,hxs,hr,hs⟩ := m.obj i _ ho
   rw [hmk] at hxs
   have hcap : es.length <= (pl.sl i).2 := by
    rcases hxs.2 with ⟨hA,h0⟩ | ⟨g,cap,cur,hA,hB,hg,hn,_⟩
    omega
    injection hA with _ _ h3; omega
   have hlen : (es.take hh.toNat).length = hh.toNat := by rw [lt1]; omega
   obtain ⟨pl',m',L,hsl⟩ := m.turnArrO (k' := k' + 1) (e' := e') (es' := es.take hh.toNat) (A := (pl.sl i).1) (cap := (pl.sl i).2) ho (w' := w) (World.grownBy.refl _ _) (by rw [hmk,hlen]; exact hxs.take (by omega)) (.inl rfl)
    ⟨by rw [dG hs,lt1,lt1,hr.1],fun j d y hd' hy => by
     rw [dG hs,List.getElem?_take] at hd'
     rw [List.getElem?_take] at hy
     split at hd'
     rename_i hj; rw [if_pos hj] at hy; exact hr.2 j d y hd' hy
     cases hd'⟩ (fun ds hd' => hs ds (List.mem_of_mem_take hd')) (.inl (by omega))
   have hrun := l9 (lo := none) (hi := hi) hop hu hti hv hl hp rfl hb2 ⟨by omega,by omega,by omega⟩
   refine v8 (pl' := pl') m' L hrun ⟨k' + 1,e',sz,_,upd_same _ _ _,lr _,fun _ => ?_,rfl⟩
   rw [hsl,hlen]
   simp only [Int.toNat_zero,Nat.zero_mul,Nat.sub_zero]
   split
   rfl
   cases (pl.sl i).1 <;> simp [Addr.add]
  cases h
  rename_i l0
  split at h
  rename_i v1 l v2 hh hb1 hb2
  cases hd : (decide (0 <= l /\ l <= hh /\ hh <= (es.length : Int)) && !mkd e'.ov) with
  | false => rw [hd] at h; cases h
  | true =>
   rw [hd] at h
   simp only [cond_true,oIQ] at h
   subst h
   simp only [bIQ,decide_eq_true_eq,Bool.not_eq_true'] at hd
   obtain ⟨hd,hmk⟩ := hd
   have ho : own i = some (.arr k' e' sz es) := by rw [hob i (by simp)]; exact hi'
   have hv := cD (w := w) (hl [] x _ hx holds_nil hp) ho
   obtain ⟨xs,hxs,hr,hs⟩ := m.obj i _ ho
   rw [hmk] at hxs
   have hcap : es.length <= (pl.sl i).2 := by
    rcases hxs.2 with ⟨hA,h0⟩ | ⟨g,cap,cur,hA,hB,hg,hn,_⟩
    omega
    injection hA with _ _ h3; omega
   have hrun := l9 (lo := some l0) (hi := hi) hop hu hti hv hl hp hb1 hb2 ⟨by omega,by omega,by omega⟩
   refine aJ m hrun ⟨k',e',sz,es,ho,lr _,fun _ => ⟨by omega,?_⟩,rfl⟩
   rw [e2]
  cases h
 cases h
 rename_i el hu hx
 split at h
 rename_i v1 l v2 hh ti hb1 hb2 hti
 cases hd : (decide (l = 0 /\ hh = 0)) with
 | false => rw [hd] at h; cases h
 | true =>
  rw [hd] at h
  simp only [cond_true,oIQ] at h
  subst h
  simp only [decide_eq_true_eq] at hd
  obtain ⟨rfl,rfl⟩ := hd
  have hv : a.eval x = .slice none 0 0 := Rd.exact (hl [] x _ hx holds_nil hp)
  have hrun := l9 hop hu hti hv hl hp hb1 hb2 ⟨by omega,by omega,by omega⟩
  refine aJ m hrun ?_
  exact Rd.v _ rfl
 cases h
 cases h
def vK (ob : Own) : SV -> Option (Bool × List Nat)
 | .c (.d (.sl _ (_ :: _))) => some (true,[])
 | .c (.ar i k) => match ob i with
  | some (.arr k' _ _ (_ :: _)) => bif Nat.beq k' k then some (true,[i]) else none
  | _ => none
 | .c (.av i k _ _) => match ob i with
  | some (.arr k' _ _ (_ :: _)) => bif Nat.beq k' k then some (true,[i]) else none
  | _ => none
 | .c (.fn _ _ _) => some (false,[])
 | _ => none
def isSl (P : Program) (t : TypeId) : Bool := match P.underlying t with
 | some (.slice _) => true
 | _ => false
def isFn (P : Program) (t : TypeId) : Bool := match P.underlying t with
 | some (.func _ _ _) => true
 | _ => false
def nilZ (P : Program) (lk : Lk) (ob : Own) (op : BinOp) (t : TypeId) (x y : Operand) : Option Eff :=
 match lk [] x,lk [] y with
 | some sv,some (.c (.d (.v (.slice none 0 0)))) => match vK ob sv with
  | some (true,tc) => bif isSl P t then (match op with
   | .eql => some ⟨.c (.d (.v (.bool false))),[],tc,[]⟩
   | .neq => some ⟨.c (.d (.v (.bool true))),[],tc,[]⟩
   | _ => none) else none
  | _ => none
 | some sv,some (.c (.d (.v .nilFunc))) => match vK ob sv with
  | some (false,tc) => bif isFn P t then (match op with
   | .eql => some ⟨.c (.d (.v (.bool false))),[],tc,[]⟩
   | .neq => some ⟨.c (.d (.v (.bool true))),[],tc,[]⟩
   | _ => none) else none
  | _ => none
 | _,_ => none
theorem rF {t e : TypeId} {ad : Addr} {n c : Nat} (h : P.underlying t = some (.slice e)) : (Op.equal t (.slice (some ad) n c) (.slice none 0 0)).run P w = .ok false w := by
 have h : ∀ d : Nat,(Op.equalIn (d + 1) t (.slice (some ad) n c) (.slice none 0 0)).run P w = .ok false w := fun d => by
  simp [Op.equalIn,run_underlying h]
 simp [Op.equal,Op.maxDepth,h 9999]
theorem rG {t : TypeId} {x y z} {g l m} (h : P.underlying t = some (.func x y z)) : (Op.equal t (.func g l m) .nilFunc).run P w = .ok false w := by
 have h : ∀ d : Nat,(Op.equalIn (d + 1) t (.func g l m) .nilFunc).run P w = .ok false w := fun d => by
  simp [Op.equalIn,run_underlying h]
 simp [Op.equal,Op.maxDepth,h 9999]
theorem aDB (m : Mem fr own w pl) {ob : Own} {sv : SV} {tc : List Nat} (h : vK ob sv = some (true,tc)) (hob : ∀ i ∈ tc,own i = ob i) {v : Value} (hv : aV w pl own sv v) : ∃ ad n c,v = .slice (some ad) n c := by
 have hne : ∀ {i k : Nat} {e : AT} {sz : Nat} {d : List D} {r : LD},own i = some (.arr k e sz (d :: r)) -> ∃ g,(pl.sl i).1 = some g := fun {i k e sz d r} ho => by
  rcases tP (m.obj i _ ho) with ⟨h0,_⟩ | ⟨b,hb⟩
  cases h0
  exact ⟨_,hb⟩
 unfold vK at h
 split at h
 simp only [oIQ,pIQ] at h
 obtain ⟨_,rfl⟩ := h
 have hv : Rd _ _ _ _ := hv
 cases hv with
 | sl us hF hb hc hm hs hu hr => exact ⟨_,_,_,rfl⟩
 rename_i i k
 split at h
 rename_i k' e' sz d r hi
 cases hk : Nat.beq k' k with
 | false => rw [hk] at h; cases h
 | true =>
  rw [hk] at h
  simp only [cond_true,oIQ,pIQ] at h
  obtain ⟨_,rfl⟩ := h
  have e1 := Nat.eq_of_beq_eq_true hk
  subst e1
  have ho : own i = some (.arr k' e' sz (d :: r)) := by rw [hob i (by simp)]; exact hi
  have := cD (w := w) hv ho
  obtain ⟨g,hg⟩ := hne ho
  rw [hg] at this
  exact ⟨_,_,_,this⟩
 cases h
 rename_i i k l n
 split at h
 rename_i k' e' sz d r hi
 cases hk : Nat.beq k' k with
 | false => rw [hk] at h; cases h
 | true =>
  rw [hk] at h
  simp only [cond_true,oIQ,pIQ] at h
  obtain ⟨_,rfl⟩ := h
  have e1 := Nat.eq_of_beq_eq_true hk
  subst e1
  have ho : own i = some (.arr k' e' sz (d :: r)) := by rw [hob i (by simp)]; exact hi
  have := (tM (w := w) hv ho).2
  obtain ⟨g,hg⟩ := hne ho
  rw [hg] at this
  split at this
  exact ⟨_,_,_,this⟩
  exact ⟨_,_,_,this⟩
 cases h
 simp at h
 cases h
theorem aDC {ob : Own} {sv : SV} {tc : List Nat} (h : vK ob sv = some (false,tc)) {v : Value} (hv : aV w pl own sv v) : ∃ g l m,v = .func g l m := by
 unfold vK at h
 split at h
 simp at h
 split at h
 rename_i k' _ _ _ _ _
 cases hk : Nat.beq k' _ with
 | false => rw [hk] at h; cases h
 | true => rw [hk] at h; simp at h
 cases h
 split at h
 rename_i k' _ _ _ _ _
 cases hk : Nat.beq k' _ with
 | false => rw [hk] at h; cases h
 | true => rw [hk] at h; simp at h
 cases h
 exact ⟨_,_,_,hv.2⟩
 cases h
theorem nilZ_ok (m : Mem fr own w pl) (hl : aX a w pl own p lk) (hp : Eng.Holds a p) {op : BinOp} {t : TypeId} {x y : Operand} {ty : TypeId} (hop : o.op = .binOp op t x y ty) {ob : Own} {e : Eff} (h : nilZ P lk ob op t x y = some e) (hob : ∀ i ∈ e.touch,own i = ob i) : Does P fr own a w pl o e := by
 unfold nilZ at h
 split at h
 rename_i sv hx hy
 have hvy : a.eval y = .slice none 0 0 := Rd.exact (hl [] y _ hy holds_nil hp)
 split at h
 rename_i tc hn
 cases ht : isSl P t with
 | false => rw [ht] at h; cases h
 | true =>
  rw [ht] at h
  simp only [cond_true] at h
  unfold isSl at ht
  split at ht
  rename_i el hu
  split at h
  simp only [oIQ] at h
  subst h
  obtain ⟨ad,n,c,hvx⟩ := aDB m hn hob (hl [] x _ hx holds_nil hp)
  refine aJ (v := .bool false) m ?_ (Rd.v _ rfl)
  unfold execOp
  simp only [hop,hvx,hvy]
  simp [eqGuard,binOp,rF hu]
  simp only [oIQ] at h
  subst h
  obtain ⟨ad,n,c,hvx⟩ := aDB m hn hob (hl [] x _ hx holds_nil hp)
  refine aJ (v := .bool true) m ?_ (Rd.v _ rfl)
  unfold execOp
  simp only [hop,hvx,hvy]
  simp [eqGuard,binOp,rF hu]
  cases h
  cases ht
 cases h
 rename_i sv hx hy
 have hvy : a.eval y = .nilFunc := Rd.exact (hl [] y _ hy holds_nil hp)
 split at h
 rename_i tc hn
 cases ht : isFn P t with
 | false => rw [ht] at h; cases h
 | true =>
  rw [ht] at h
  simp only [cond_true] at h
  unfold isFn at ht
  split at ht
  rename_i _ _ _ hu
  split at h
  simp only [oIQ] at h
  subst h
  obtain ⟨g,l,m',hvx⟩ := aDC hn (hl [] x _ hx holds_nil hp)
  refine aJ (v := .bool false) m ?_ (Rd.v _ rfl)
  unfold execOp
  simp only [hop,hvx,hvy]
  simp [eqGuard,binOp,rG hu]
  simp only [oIQ] at h
  subst h
  obtain ⟨g,l,m',hvx⟩ := aDC hn (hl [] x _ hx holds_nil hp)
  refine aJ (v := .bool true) m ?_ (Rd.v _ rfl)
  unfold execOp
  simp only [hop,hvx,hvy]
  simp [eqGuard,binOp,rG hu]
  cases h
  cases ht
 cases h
 cases h
def zerE (P : Program) (lk : Lk) (ob : Own) (T tn : TypeId) (s x : Operand) (nid : Nat) : Option Eff :=
 match P.underlying T,P.underlying tn,lk [] s,exO lk [] x with
 | some (.slice e),some (.int _),some (.c (.d (.v (.slice none 0 0)))),some (.int _ (.ofNat k)) => match P.info? e,ob nid with
  | some i,none => match i.zero with
   | some z => match z.cells with
    | ⟨[v]⟩ => bif Nat.blt 0 k && Nat.ble k 1000 && Nat.beq i.size 1 && Nat.ble i.bytes 1000 && v.oneCell' then some ⟨.c (.ar nid 0),[(nid,.arr 0 ⟨e,[]⟩ 1 (List.replicate k [.v v]))],[nid],[]⟩ else none
    | _ => none
   | none => none
  | _,_ => none
 | _,_,_,_ => none
theorem aH2 (v : Value) (k : Nat) : (Builtin.zeroCells #[v] k).toList = List.replicate k v := by
 apply List.ext_getElem
 simp [Builtin.zeroCells]
 intro j h1 h2
 simp [Builtin.zeroCells,Nat.mod_one]
theorem aDT (v : D) : ∀ k : Nat,(List.replicate k [v]).flatten = List.replicate k v
 | 0 => rfl
 | k + 1 => by simp only [List.replicate_succ,List.flatten_cons,aDT v k]; rfl
theorem zerE_ok (m : Mem fr own w pl) (hl : aX a w pl own p lk) (hp : Eng.Holds a p) {T tn : TypeId} {s x : Operand} (hop : o.op = .call { callee := .builtin .append,args := #[s,x],argTypes := #[T,tn] }) {ob : Own} {nid : Nat} {e : Eff} (h : zerE P lk ob T tn s x nid = some e) (hob : ∀ i ∈ e.touch,own i = ob i) : Does P fr own a w pl o e := by
 unfold zerE at h
 split at h
 rename_i el kn kq k hT htn hs hx
 split at h
 rename_i i hi hnone
 split at h
 rename_i z hz
 split at h
 rename_i v hzc
 cases hc : (Nat.blt 0 k && Nat.ble k 1000 && Nat.beq i.size 1 && Nat.ble i.bytes 1000 && v.oneCell') with
 | false => rw [hc] at h; cases h
 | true =>
  rw [hc] at h
  simp only [cond_true,oIQ] at h
  subst h
  simp only [bIQ] at hc
  obtain ⟨⟨⟨⟨c1,c2⟩,c3⟩,c4⟩,c5⟩ := hc
  have c1 : 0 < k := by simpa using c1
  have c2 := Nat.le_of_ble_eq_true c2
  have c3 := Nat.eq_of_beq_eq_true c3
  have c4 := Nat.le_of_ble_eq_true c4
  have hvs : a.eval s = .slice none 0 0 := Rd.exact (hl [] s _ hs holds_nil hp)
  have hvx : a.eval x = .int kq (k : Int) := bD hl hp holds_nil hx
  have hnx : Builtin.nextslicecap (0 + k) 0 = 0 + k := by unfold Builtin.nextslicecap; rw [if_pos (by omega)]
  have hkb : k * i.bytes <= 1000 * 1000 := Nat.mul_le_mul c2 c4
  have hr := Lib.run_append_grow_zeros (P := P) w T tn o.type el i z kq kn hT htn hi hz none 0 0 [] (by simp [Builtin.firstCells]) k c1 (by omega) (by omega) (by omega) (by omega) (by rw [hnx,Nat.zero_add]; omega)
  simp only [Nat.zero_add] at hr
  have hge := grownCap_ge w k 0 el
  have hcm : grownCap w k 0 el <= maxLen := grownCap_le_maxLen w k 0 el (by unfold maxLen; omega)
  obtain ⟨pl',m',L,hsl⟩ := m.newArr (i := nid) (e := ⟨el,[]⟩) (sz := 1) (es := List.replicate k [.v v]) (by rw [hob nid (by simp)]; exact hnone)
   (w' := w.drew.alloc (.cells (([] : List Value).toArray ++ Builtin.zeroCells z.cells k ++ Builtin.zeroCells z.cells (grownCap w k 0 el - k)) el)) (A := some ⟨w.heap.size,0,none⟩) (cap := grownCap w k 0 el) (xs := List.replicate k v)
   ⟨rfl,rfl,rfl,by simp,fun j hj _ => Below.heap_alloc w.drew _ _ hj⟩
   ⟨by simp,.inr ⟨w.heap.size,_,_,rfl,zl _,heap_alloc_new w.drew _,by simpa using hge,hcm,by
    simp only [Array.size_append,List.size_toArray,size_zeroCells,hzc]
    simp only [lnQ,lc]
    omega,by
    rw [hzc]
    simp only [Array.toList_append,aH2,List.nil_append]
    have : (List.replicate k [D.v v]).length * 1 = (List.replicate k v).length := by simp
    rw [this]
    exact List.take_left⟩⟩
   (fun ad had => by injection had with had; rw [<- had]; exact lr _)
   (AllO.of ⟨by simp,fun j d y hd hy => by
    rw [aDT] at hd
    have h1 := List.eq_of_mem_replicate (List.mem_of_getElem? hd)
    have h2 := List.eq_of_mem_replicate (List.mem_of_getElem? hy)
    subst h1; subst h2
    exact Rd.v _ c5⟩)
   (fun ds hd => by have := List.eq_of_mem_replicate hd; subst this; rfl)
  intro K Q hK
  have hrun : (execOp a.eval o).run P w = .ok (.value (.slice (some ⟨w.heap.size,0,none⟩) k (grownCap w k 0 el))) (w.drew.alloc (.cells (([] : List Value).toArray ++ Builtin.zeroCells z.cells k ++ Builtin.zeroCells z.cells (grownCap w k 0 el - k)) el)) := by
   unfold execOp
   simp only [hop,resolve,invoke,builtin,Sem.run_bind,Sem.run_pure,an,List.map_toArray,mp1,List.map_nil,hvs,hvx,hr]
  unfold Oper.wp
  rw [hrun,Oper.upon_value]
  refine hK _ _ pl' m' L (.inr ⟨0,⟨el,[]⟩,1,_,upd_same _ _ _,lr _,fun _ => ?_,rfl⟩)
  rw [hsl]
  simp
 cases h
 cases h
 cases h
 cases h
def avE (P : Program) (lk : Lk) (ob : Own) (o : Oper) : Option Eff := match o.op with
 | .call { callee := .builtin .len,args := ⟨[x]⟩,argTypes := ⟨[t]⟩ } => match P.underlying t,lk [] x with
  | some (.slice _),some (.c (.av i k _ n)) => match ob i with
   | some (.arr k' _ _ _) => bif Nat.beq k' k then some ⟨.c (.d (.v (.int .i64 (n : Int)))),[],[i],[]⟩ else none
   | _ => none
  | _,_ => none
 | .indexAddr t x ix => match lk [] x,exO lk [] ix,P.underlying t with
  | some (.c (.av j k l n)),some (.int _ m),some (.slice e) => match ob j,P.info? e with
   | some (.arr k' _ sz _),some ti => bif (Nat.beq ti.size sz && Nat.beq k' k) && decide (0 <= m /\ m < (n : Int)) then some ⟨.c (.ea j k' (l + m.toNat) 0),[],[j],[]⟩ else none
   | _,_ => none
  | _,_,_ => none
 | _ => none
theorem avE_ok (m : Mem fr own w pl) (hl : aX a w pl own p lk) (hp : Eng.Holds a p) {ob : Own} {e : Eff} (h : avE P lk ob o = some e) (hob : ∀ i ∈ e.touch,own i = ob i) : Does P fr own a w pl o e := by
 unfold avE at h
 split at h
 rename_i x t hop
 split at h
 rename_i el i k l n hu hx
 split at h
 rename_i k' e' sz es hbx
 cases hk : Nat.beq k' k with
 | false => rw [hk] at h; cases h
 | true =>
  rw [hk] at h
  simp only [cond_true,oIQ] at h
  subst h
  obtain rfl := Nat.eq_of_beq_eq_true hk
  have hj : own i = some (.arr k' e' sz es) := by rw [hob i (by simp),hbx]
  obtain ⟨_,hv⟩ := tM (w := w) (hl [] x _ hx holds_nil hp) hj
  refine aJ m ?_ (Rd.v _ rfl)
  unfold execOp
  simp only [hop,resolve,invoke,builtin,Sem.run_bind,Sem.run_pure,an,List.map_toArray,mp1,List.map_nil,hv]
  simp [Builtin.len_,run_underlying hu,goInt]
 cases h
 cases h
 rename_i t x ix hop
 split at h
 rename_i j k l n kd q el hx hi hu
 split at h
 rename_i k' e' sz es ti hbx hti
 cases hc : ((Nat.beq ti.size sz && Nat.beq k' k) && decide (0 <= q /\ q < (n : Int))) with
 | false => rw [hc] at h; cases h
 | true =>
  rw [hc] at h
  simp only [cond_true,oIQ] at h
  subst h
  simp only [bIQ,decide_eq_true_eq] at hc
  obtain ⟨⟨h1,h2⟩,h3,h4⟩ := hc
  have hsz := Nat.eq_of_beq_eq_true h1
  obtain rfl := Nat.eq_of_beq_eq_true h2
  have hj : own j = some (.arr k' e' sz es) := by rw [hob j (by simp),hbx]
  obtain ⟨hln,hv⟩ := tM (w := w) (hl [] x _ hx holds_nil hp) hj
  have hi' := bD hl hp holds_nil hi
  have hcap : es.length <= (pl.sl j).2 := by
   obtain ⟨xs,ho,_⟩ := m.obj j _ hj
   rcases ho.all.2 with ⟨h0,h5⟩ | ⟨g,cap,cur,fz,h0,_,_,h5,_⟩
   omega
   injection h0 with _ _ h0; rw [h0]; exact h5
  rcases tP (m.obj j _ hj) with ⟨rfl,_⟩ | ⟨b,hA⟩
  simp at hln; omega
  have hne : ¬ (pl.sl j).2 = l := by omega
  refine aJ (v := .pointer (some ⟨b,(l + q.toNat) * sz,none⟩)) (s := .c (.ea j k' (l + q.toNat) 0)) m ?_ ⟨k',e',sz,es,hj,lr _,fun _ => ⟨by omega,b,hA,rfl⟩,rfl⟩
  rw [if_neg hne,hA] at hv
  unfold execOp
  simp only [hop,hv,hi',Option.map_some]
  simp [Instr.indexAt,run_underlying hu,asIntOf,sizeOf,typeInfo,hti,h3,h4,addr_add,hsz,Nat.add_mul]
 cases h
 cases h
 cases h
def opQ (P : Program) (lk : Lk) (ob : Own) (o : Oper) (nid : Nat) : Option Eff := match o.op with
 | .call { callee := .builtin .append,args := ⟨[s,x]⟩,argTypes := ⟨[T,tn]⟩ } => zerE P lk ob T tn s x nid
 | .slice t x lo hi none => cutE P lk ob t x lo hi
 | .binOp op t x y _ => nilZ P lk ob op t x y
 | _ => avE P lk ob o
theorem opQ_ok (m : Mem fr own w pl) (hl : aX a w pl own p lk) (hp : Eng.Holds a p) {ob : Own} {nid : Nat} {e : Eff} (h : opQ P lk ob o nid = some e) (hob : ∀ i ∈ e.touch,own i = ob i) : Does P fr own a w pl o e := by
 unfold opQ at h
 split at h
 rename_i hop; exact zerE_ok m hl hp hop h hob
 rename_i hop; exact cutE_ok m hl hp hop h hob
 rename_i hop; exact nilZ_ok m hl hp hop h hob
 exact avE_ok m hl hp h hob
def sameT : Operand -> Option Operand -> Bool
 | .tmp a,some (.tmp b) => a == b
 | _,_ => false
def lkN (P : Program) (o : Oper) (lk : Lk) : Lk := match o.op with
 | .call { callee := .builtin .append,args := xs,argTypes := ats } => match P.underlying (ats.getD 0 0) with
  | some (.slice e) => match P.info? e with
   | some i => fun q x => match lk q x with
    | some (.c (.d (.v (.slice none 0 0)))) => bif sameT x xs[0]? then lk q x else some (.c (.d (.sl i.size [])))
    | r => r
   | none => lk
  | _ => lk
 | _ => lk
theorem lkN_ok (hl : aX a w pl own p lk) : aX a w pl own p (lkN P o lk) := by
 unfold lkN
 split
 split
 split
 rename_i i hi
 intro q x sv hx hq hp
 simp only at hx
 split at hx
 rename_i hv
 revert hx
 cases sameT x _ with
 | true => intro hx; exact hl q x _ hx hq hp
 | false =>
  intro hx
  simp only [cond_false,oIQ] at hx
  subst hx
  have := Rd.exact (hl q x _ hv hq hp)
  show Rd _ _ _ _
  rw [this]
  exact .nil _
 exact hl q x _ hx hq hp
 exact hl
 exact hl
 exact hl
end
end Go.V
namespace Go.V
open Go.RowKit
def bytesOf : LD -> Option (List UInt8)
 | [] => some []
 | [.v (.int .u8 n)] :: r => match bytesOf r with
  | some l => some (UInt8.ofNat n.toNat :: l)
  | none => none
 | _ => none
def oL (es : LD) : Hint := match bytesOf es with
 | some l => .call (.c (.d (.v (.string ⟨l.toArray⟩)))) [] []
 | none => .none
def aMY (lk : Lk) (ob : Own) (o : Oper) : Hint := match o.op with
 | .load _ _ => .auto
 | .indexAddr _ _ _ => .auto
 | .buildSlice _ len _ => bif Nat.beq len 0 then .none else .elem []
 | .makeSlice _ x _ => match exO lk [] x with
  | some (.int _ (.ofNat 0)) => .none
  | _ => .mask []
 | .convert _ _ x => match lk [] x with
  | some (.c (.d (.sl 1 es))) => oL es
  | some (.c (.ar i _)) => match ob i with
   | some (.arr _ _ 1 es) => oL es
   | _ => .none
  | _ => .none
 | .call { callee := .builtin .unsafeString,args := ⟨x :: _⟩,argTypes := _ } => match lk [] x with
  | some (.c (.sd i _)) => match ob i with
   | some (.arr _ _ _ es) => oL es
   | _ => .none
  | _ => .none
 | _ => .none
inductive Who where
 | fn (f : FuncId) (svs : List SV)
 | yl (i : Nat) (svs : List SV)
 | no
def aIN : List Value -> Option (List SV)
 | [] => some []
 | v :: r => match ofV v,aIN r with
  | some s,some l => some (s :: l)
  | _,_ => none
def whoV (P : Program) (sv : SV) (svs : List SV) : Who := match sv with
 | .c (.d (.v (.func (.func f) l m))) => bif enters P f then (match aIN l.toList,aIN m.toList with
   | some l',some m' => .fn f (l' ++ svs ++ m')
   | _,_ => .no) else .no
 | .c (.fn f l m) => bif enters P f then .fn f (l.map (fun y => .c (.bx y.1 y.2)) ++ svs ++ m.map (fun y => .c (.bx y.1 y.2))) else .no
 | .c (.yl i) => .yl i svs
 | _ => .no
def who (P : Program) (lk : Lk) (o : Oper) : Who := match o.op with
 | .call { callee := .value (.func f),args := xs,argTypes := _ } => bif enters P f then (match eK (xs.toList.map (lk [])) with
  | some svs => .fn f svs
  | none => .no) else .no
 | .call { callee := .value (.tmp x),args := xs,argTypes := _ } => match lk [] (.tmp x),eK (xs.toList.map (lk [])) with
  | some sv,some svs => whoV P sv svs
  | _,_ => .no
 | _ => .no
abbrev Step := Nat -> FuncId -> List SV -> Tr Ob -> Option OpR
abbrev StepY := Nat -> Nat -> List SV -> Tr Ob -> Option OpR
structure NE (P : Program) where
 f : FuncId
 ok : nK P f
def aK9 {P : Program} : List (NE P) -> FuncId -> Option (NE P)
 | [],_ => none
 | e :: r,f => bif Nat.beq e.f f then some e else aK9 r f
theorem aK8 {P : Program} : ∀ {T : List (NE P)} {f : FuncId} {e : NE P},aK9 T f = some e -> e.f = f
 | [],f,e,h => by simp [aK9] at h
 | x :: r,f,e,h => by
  simp only [aK9,eB] at h
  split at h
  rename_i hx; simp only [oIQ] at h; rw [<- h]; exact hx
  exact aK8 h
def neOp {P : Program} (ne : List (NE P)) (lk : Lk) (o : Oper) : Option SV := match o.op with
 | .call { callee := .value (.func f),args := ⟨[x]⟩,argTypes := _ } => match aK9 ne f with
  | some _ => bif aAM P f then (match lk [] x with
   | some (.c c) => some (.c c)
   | _ => none) else none
  | none => none
 | _ => none
structure EntD (P : Program) where
 f : FuncId
 ar : Nat
 ok : ∀ (args : Array Value) (w : World),args.size = ar -> CallsDIn Fence.wide 0 P f args .returning w fun e u w' => ∃ v,e = .returned v /\ u = .returning /\ w.grownBy w' none
def aI7 {P : Program} : List (EntD P) -> FuncId -> Option (EntD P)
 | [],_ => none
 | e :: r,f => bif Nat.beq e.f f then some e else aI7 r f
theorem aMD {P : Program} : ∀ {T : List (EntD P)} {f : FuncId} {e : EntD P},aI7 T f = some e -> e.f = f
 | [],f,e,h => by simp [aI7] at h
 | x :: r,f,e,h => by
  simp only [aI7,eB] at h
  split at h
  rename_i hx; simp only [oIQ] at h; rw [<- h]; exact hx
  exact aMD h
structure Exe (P : Program) (G : List (Nat × List Value)) where
 T : List (Ent P G)
 ne : List (NE P)
 df : List (EntD P)
 orc : Nat -> Option Bool
 lit : Nat -> Option Value
 call : Step
 yld : StepY
 hnt : Nat -> Option (List D) := fun _ => none
def litR (own : Tr Ob) (k : Nat) (e : Eff) (v : Value) : Option OpR := match e.sv with
 | .c (.d (.v x)) => uO own (k + 1) ((x = v) :: e.obl) ⟨.c (.d (.v v)),e.upd,e.touch,e.obs⟩
 | _ => none
def aHN {P : Program} {G : List (Nat × List Value)} (E : Exe P G) (lt : Option Value) (hint : Hint) (lk : Lk) (own : Tr Ob) (o : Oper) (k : Nat) : Option OpR :=
  match who P lk o with
  | .fn f svs => match aDX E.T f with
    | some e => match aMQ e k svs own with
      | some r => some r
      | none => E.call k f svs own
    | none => E.call k f svs own
  | .yl i svs => E.yld k i svs own
  | .no => match neOp E.ne lk o with
   | some s => uO own (k + 1) [] ⟨s,[],[],[]⟩
   | none => match opW P lk own.get o k with
    | some e => uO own (k + 1) [] e
    | none => match opE P G lk own.get o k hint with
      | some e => match lt with
       | some v => litR own k e v
       | none => match E.orc k with
        | some _ => uO own (k + 1) e.obl e
        | none => bif e.obs.all (·.b) then uO own (k + 1) [] e else none
      | none => match opQ P lk own.get o k with
       | some e => uO own (k + 1) [] e
       | none => match opE P G (lkN P o lk) own.get o k hint with
        | some e => bif e.obs.all (·.b) then uO own (k + 1) [] e else none
        | none => none
def aLX : Option Value -> Bool
 | some .nilIface => true
 | _ => false
def hntH (h : Option (List D)) (a : Hint) : Hint := match h with
 | some ds => .elem ds
 | none => a
def litV : Option Value -> Option Value
 | some (.agg _) => none
 | v => v
def doOp {P : Program} {G : List (Nat × List Value)} (E : Exe P G) (lk : Lk) (own : Tr Ob) (o : Oper) (k : Nat) : Option OpR :=
 bif aLX (E.lit k) then (match sV (aHX lk o.op.operands.toList) lk own with
  | some (lk1,own1,us) => match aHN E none .none lk1 own1 o k with
   | some r => some ⟨r.sv,us ++ r.upd,keys us ++ r.touch,r.own,r.k,r.cs⟩
   | none => none
  | none => none) else aHN E (litV (E.lit k)) (hntH (E.hnt k) (aMY lk own.get o)) lk own o k
def aND (P : Program) (G : List (Nat × List Value)) (call : Step) : Prop :=
 ∀ (k : Nat) (f : FuncId) (svs : List SV) (own : Tr Ob) (r : OpR),call k f svs own = some r -> r.own.get = aY own.get r.upd /\ (∀ x ∈ keys r.upd,x ∈ r.touch) /\
  ∀ (fr : Fr) (own0 : Own) (w : World) (pl : Pl) (vals : List Value),fr.G = G -> conj r.cs -> (∀ i ∈ r.touch,own0 i = own.get i) -> Mem fr own0 w pl -> All2 (aV w pl own0) svs vals ->
   Calls P f vals.toArray w fun e w' => ∃ v pl',e = .returned v /\ Mem fr (aY own0 r.upd) w' pl' /\ Later w pl own0 w' pl' (aY own0 r.upd) /\ aV w' pl' (aY own0 r.upd) r.sv v
def YldOk (P : Program) (G : List (Nat × List Value)) (yld : StepY) : Prop :=
 ∀ (k : Nat) (i : Nat) (svs : List SV) (own : Tr Ob) (r : OpR),yld k i svs own = some r -> r.own.get = aY own.get r.upd /\ (∀ x ∈ keys r.upd,x ∈ r.touch) /\
  ∀ (fr : Fr) (own0 : Own) (w : World) (pl : Pl) (vals : List Value),fr.G = G -> conj r.cs -> (∀ i ∈ r.touch,own0 i = own.get i) -> Mem fr own0 w pl -> All2 (aV w pl own0) svs vals ->
   ∃ (f : FuncId) (tmps : Array Value) (assign body : Code),(Instr.yield (pl.blk i) vals.toArray).run P w = .ok (.round (pl.blk i) f tmps assign body) w /\
    RoundIn Fence.wide 0 P (pl.blk i) f tmps assign body w fun e w' => ∃ v pl',e = .returned v /\ Mem fr (aY own0 r.upd) w' pl' /\ Later w pl own0 w' pl' (aY own0 r.upd) /\ aV w' pl' (aY own0 r.upd) r.sv v
structure ExeOk {P : Program} {G : List (Nat × List Value)} (E : Exe P G) : Prop where
 call : aND P G E.call
 yld : YldOk P G E.yld
section
variable {P : Program} {G : List (Nat × List Value)} {lk : Lk} {p : Path} {o : Oper} {E : Exe P G}
theorem z6 {w : World} {pl : Pl} {own : Own} : ∀ {l : List Value} {s : List SV},aIN l = some s -> All2 (aV w pl own) s l
 | [],s,h => by simp only [aIN,oIQ] at h; subst h; exact All2.nil
 | v :: r,s,h => by
  simp only [aIN] at h
  split at h
  rename_i s' l hs hl
  simp only [oIQ] at h; subst h
  exact All2.cons (lM hs) (z6 hl)
  cases h
def WhoOk (P : Program) (lk : Lk) (p : Path) (o : Oper) : Who -> Prop
 | .fn f svs => ∀ (own0 : Own) (a : Act) (w : World) (pl : Pl),aX a w pl own0 p lk -> Eng.Holds a p -> ∃ vals : List Value,All2 (aV w pl own0) svs vals /\ (execOp a.eval o).run P w = .ok (.enter f vals.toArray) w
 | .yl i svs => ∀ (own0 : Own) (a : Act) (w : World) (pl : Pl),aX a w pl own0 p lk -> Eng.Holds a p -> ∃ vals : List Value,All2 (aV w pl own0) svs vals /\ (execOp a.eval o).run P w = (Instr.yield (pl.blk i) vals.toArray).run P w
 | .no => True
def WhoVOk (P : Program) (sv : SV) (svs : List SV) : Who -> Prop
 | .fn f svs' => ∀ (own0 : Own) (w : World) (pl : Pl) (v : Value) (vals : List Value),aV w pl own0 sv v -> All2 (aV w pl own0) svs vals ->
   ∃ lv mv : Array Value,enters P f = true /\ v = .func (.func f) lv mv /\ All2 (aV w pl own0) svs' (lv.toList ++ vals ++ mv.toList)
 | .yl i svs' => ∀ (own0 : Own) (w : World) (pl : Pl) (v : Value),aV w pl own0 sv v -> svs' = svs /\ v = .func (.yield (pl.blk i)) #[] #[]
 | .no => True
theorem whoV_ok (sv : SV) (svs : List SV) : WhoVOk P sv svs (whoV P sv svs) := by
 unfold whoV
 split
 rename_i f l m
 cases he : enters P f with
 | false => trivial
 | true =>
  simp only [cond_true]
  split
  rename_i l' m' hl' hm'
  intro own0 w pl v vals hv hvs
  have hv : v = .func (.func f) l m := Rd.exact hv
  exact ⟨l,m,he,hv,((z6 hl').append hvs).append (z6 hm')⟩
  trivial
 rename_i f l m
 cases he : enters P f with
 | false => trivial
 | true =>
  intro own0 w pl v vals hv hvs
  obtain ⟨hb,hv⟩ := hv
  refine ⟨(l.map (adV pl)).toArray,(m.map (adV pl)).toArray,he,hv,?_⟩
  exact ((tI fun y hy => hb y (by simp [hy])).append hvs).append (tI fun y hy => hb y (by simp [hy]))
 intro own0 w pl v hv
 exact ⟨rfl,hv.2⟩
 trivial
theorem aJO : WhoOk P lk p o (who P lk o) := by
 unfold who
 split
 rename_i f xs ats hop
 cases he : enters P f with
 | false => trivial
 | true =>
  simp only [cond_true]
  split
  rename_i svs hs
  intro own0 a w pl hl hp
  exact ⟨_,dL hl hp hs,nR hop he⟩
  trivial
 rename_i x xs ats hop
 split
 rename_i sv svs hx hs
 have hw := whoV_ok (P := P) sv svs
 cases hwv : whoV P sv svs with
 | no => trivial
 | fn f svs' =>
  rw [hwv] at hw
  intro own0 a w pl hl hp
  obtain ⟨lv,mv,he,hv,h2⟩ := hw own0 w pl _ _ (hl [] _ _ hx holds_nil hp) (dL hl hp hs)
  exact ⟨_,h2,nQ (l := lv.toList) (m := mv.toList) hop (by simpa using hv) he⟩
 | yl i svs' =>
  rw [hwv] at hw
  intro own0 a w pl hl hp
  obtain ⟨rfl,hv⟩ := hw own0 w pl _ (hl [] _ _ hx holds_nil hp)
  exact ⟨_,dL hl hp hs,u9 hop hv⟩
 trivial
 trivial
theorem aDZ (hE : ExeOk E) {lt : Option Value} {hint : Hint} {own : Tr Ob} {k : Nat} {r : OpR} (h : aHN E lt hint lk own o k = some r) : aNB P G lk p o own r := by
 have hw : WhoOk P lk p o (who P lk o) := aJO
 unfold aHN at h
 split at h
 ·rename_i f svs hwho
  rw [hwho] at hw
  have inl : E.call k f svs own = some r -> aNB P G lk p o own r := by
   intro h
   obtain ⟨h1,h2,h3⟩ := hE.call _ _ _ _ _ h
   refine ⟨h1,h2,fun fr own0 a w pl hG hc ht m hl hp => ?_⟩
   obtain ⟨vals,hv,hr⟩ := hw own0 a w pl hl hp
   intro K hK
   refine .inl fun Q => ?_
   unfold Oper.wp
   rw [hr,Oper.upon_enter]
   refine Calls.mono (h3 fr own0 w pl vals hG hc ht m hv) ?_
   rintro e w' ⟨v,pl',rfl,m',L,hs⟩
   exact hK v w' pl' m' L (.inr hs)
  split at h
  ·rename_i e he
   split at h
   ·rename_i r' hr'
    simp only [oIQ] at h
    subst h
    refine aMP hr' fun own0 a w pl hl hp => ?_
    obtain ⟨vals,hv,hr⟩ := hw own0 a w pl hl hp
    have := aHK he
    subst this
    exact ⟨vals,hv,u5 hr⟩
   ·exact inl h
  ·exact inl h
 ·rename_i i svs hwho
  rw [hwho] at hw
  obtain ⟨h1,h2,h3⟩ := hE.yld _ _ _ _ _ h
  refine ⟨h1,h2,fun fr own0 a w pl hG hc ht m hl hp => ?_⟩
  obtain ⟨vals,hv,hr⟩ := hw own0 a w pl hl hp
  intro K hK
  obtain ⟨f,tmps,asg,bd,h4,h5⟩ := h3 fr own0 w pl vals hG hc ht m hv
  refine .inr ⟨_,f,tmps,asg,bd,hr.trans h4,h5.mono ?_⟩
  rintro e w' ⟨v,pl',rfl,m',L,hs⟩
  exact ⟨v,rfl,hK v w' pl' m' L (.inr hs)⟩
 ·split at h
  ·rename_i s hs
   refine gZ h fun fr own0 a w pl hG hc ht m hl hp => ?_
   unfold neOp at hs
   split at hs
   ·rename_i f x ats hop
    split at hs
    ·rename_i ne hne
     cases hn : aAM P f with
     | false => rw [hn] at hs; cases hs
     | true =>
      rw [hn] at hs
      simp only [cond_true] at hs
      split at hs
      ·rename_i c hx
       simp only [oIQ] at hs
       subst hs
       have hNE : nK P f := by have := aK8 hne; subst this; exact ne.ok
       exact (tA (e := ⟨.c c,[],[],[.un (nK P f)]⟩) rfl rfl (aDD m hl hp hop (show aDE P lk f x = some ⟨.c c,[],[],[.un (nK P f)]⟩ by unfold aDE; rw [hn,if_pos rfl,hx]) hNE).x)
      ·cases hs
    ·cases hs
   ·cases hs
  split at h
  ·rename_i e he
   exact gZ h fun fr own0 a w pl hG hc ht m hl hp => (opW_ok m hl hp he ht).x
  ·split at h
   ·rename_i e he
    split at h
    ·rename_i v
     unfold litR at h
     split at h
     ·rename_i x hx
      refine gZ h fun fr own0 a w pl hG hc ht m hl hp => ?_
      subst hG
      have hc1 : x = v := j9 hc (by simp)
      have hc2 : conj e.obl := fY fun c hcm => j9 hc (by simp [hcm])
      subst hc1
      exact tA (e := e) hx.symm rfl (nU m hl hp he ht hc2)
     ·cases h
    split at h
    ·refine gZ h fun fr own0 a w pl hG hc ht m hl hp => ?_
     subst hG
     exact nU m hl hp he ht hc
    cases hob : e.obs.all (·.b) with
    | false => rw [hob] at h; cases h
    | true =>
     rw [hob] at h
     refine gZ h fun fr own0 a w pl hG hc ht m hl hp => ?_
     subst hG
     refine nU m hl hp he ht (fY fun c hcm => ?_)
     simp only [Eff.obl,pOf,mmQ] at hcm
     obtain ⟨x,hx,rfl⟩ := hcm
     exact x.h (at1.1 hob x hx)
   ·split at h
    ·rename_i e he
     exact gZ h fun fr own0 a w pl hG hc ht m hl hp => (opQ_ok m hl hp he ht).x
    ·split at h
     ·rename_i e he
      cases hob : e.obs.all (·.b) with
      | false => rw [hob] at h; cases h
      | true =>
       rw [hob] at h
       refine gZ h fun fr own0 a w pl hG hc ht m hl hp => ?_
       subst hG
       refine nU m (lkN_ok hl) hp he ht (fY fun c hcm => ?_)
       simp only [Eff.obl,pOf,mmQ] at hcm
       obtain ⟨x,hx,rfl⟩ := hcm
       exact x.h (at1.1 hob x hx)
     ·cases h
theorem aHM (hE : ExeOk E) {own : Tr Ob} {k : Nat} {r : OpR} (h : doOp E lk own o k = some r) : aNB P G lk p o own r := by
 unfold doOp at h
 cases hm : aLX (E.lit k) with
 | false => rw [hm] at h; exact aDZ hE h
 | true =>
  rw [hm] at h
  simp only [cond_true] at h
  split at h
  rename_i lk1 own1 us hf
  split at h
  rename_i r1 hr
  simp only [oIQ] at h
  subst h
  obtain ⟨f1,f2,f3⟩ := vR hf
  have hin : ∀ {fr : Fr} {own0 : Own} {a : Act} {w : World} {pl : Pl},aX a w pl own0 p lk1 -> aX a w pl own0 p lk1 := id
  obtain ⟨g1,g2,g3⟩ := aDZ (p := p) hE hr
  refine ⟨by show r1.own.get = _; rw [g1,f2,eW],fun x hx => ?_,fun fr own0 a w pl hG hc ht m hl hp => ?_⟩
  simp only [keys,List.map_append,List.mem_append] at hx ⊢
  rcases hx with hx | hx
  exact .inl hx
  exact .inr (g2 x hx)
  obtain ⟨pl1,m1,L1,hl1⟩ := f3 (fun i hi => ht i (by simp only [List.mem_append]; exact .inl (f1 ▸ hi))) m hl
  have hd := g3 fr (aY own0 us) a w pl1 hG hc (fun i hi => by
   rw [f2]
   exact lD _ (ht i (by simp only [List.mem_append]; exact .inr hi))) m1 hl1 hp
  intro K hK
  refine hd K fun v w' pl' m' L' hs => ?_
  simp only [OpR.eff] at hK m' L' hs
  rw [eW] at hK
  exact hK v w' pl' m' (L1.trans L') hs
  cases h
  cases h
end
inductive Mk where
 | mark (i : Nat)
 | df (f : FuncId) (cap : List (Nat × Nat))
structure XS where
 env : Tr SV
 own : Tr Ob
 k : Nat
 T : List Nat
 U : List (Nat × Ob)
 cs : List Prop
 mks : List Mk
def lkX (loc : cO) (tr : Tr SV) (p : Path) (us : List Nat) : Lk := sQ (bE loc tr) p us
def aMC (n : Nat) (d : Option Nat) : Bool := match d with
 | some t => Nat.blt t n && few t
 | none => true
def putX (loc : cO) (r : Rec) : cO := match r.dst with
 | some t => (t,r.path,r.sv) :: loc
 | none => loc
def aKM {P : Program} {G : List (Nat × List Value)} (E : Exe P G) (n : Nat) (ops : Array Oper) (loc : cO) (tr : Tr SV) (own : Tr Ob) (k : Nat) (o : Oper) : Option (Rec × Tr Ob × Nat × List Prop) :=
 match pathOf ops (bE loc tr) o with
 | some p => bif closed (bE loc tr) p && chainB (bE loc tr) p && aMC n o.dst && j6 n o.dst p then
   bif j3 (bE loc tr) p then (match doOp E (lkX loc tr p (jV o)) own o k with
    | some r => some (⟨o.dst,[],r.sv,r.upd,r.touch,jV o ++ p.map (·.1),[]⟩,r.own,r.k,r.cs)
    | none => none)
   else some (⟨o.dst,p,.c (.d (.v (.bool false))),[],[],p.map (·.1),[]⟩,own,k,[])
  else none
 | none => none
def oY {P : Program} {G : List (Nat × List Value)} (E : Exe P G) (n : Nat) (ops : Array Oper) : List Oper -> cO -> Tr SV -> Tr Ob -> Nat -> Option (List Rec × cO × Tr Ob × Nat × List Prop)
 | [],loc,_,own,k => some ([],loc,own,k,[])
 | o :: l,loc,tr,own,k => match aKM E n ops loc tr own k o with
  | some (r,own1,k1,cs1) => match oY E n ops l (putX loc r) tr own1 k1 with
   | some (rs,loc',own',k',cs) => some (r :: rs,loc',own',k',cs1 ++ cs)
   | none => none
  | none => none
def aEU {P : Program} {G : List (Nat × List Value)} (E : Exe P G) (n : Nat) (ops : Array Oper) (draw : Bool) (st : XS) : Option XS :=
 match oY E n ops ops.toList [] st.env st.own st.k with
 | some (rs,loc,own,k,cs) => bif okT rs && (!draw || (okB 0 rs (bef ops) && fI 0 ops.toList)) then
   some ⟨s0 loc st.env,own,k,(rs.flatMap (·.touch)) ++ st.T,(rs.flatMap (·.upd)).reverse ++ st.U,cs ++ st.cs,st.mks⟩ else none
 | none => none
section
variable {P : Program} {G : List (Nat × List Value)} {E : Exe P G} {fr : Fr} {n : Nat} {ops : Array Oper}
theorem aDW (loc : cO) (tr : Tr SV) (r : Rec) : bE (putX loc r) tr = d6 (bE loc tr) r := by
 funext u
 unfold putX d6
 cases r.dst with
 | none => rfl
 | some t =>
  simp only [bE,aL,upd]
  by_cases h : u = t
  subst h; simp
  have : (t == u) = false := by simpa using fun e => h e.symm
  simp [this,h]
theorem mH {env env' : Env} {o : Oper} {p : Path} (h : pathOf ops env o = some p) (hu : ∀ x ∈ p,env' x.1 = env x.1) : pathOf ops env' o = some p := by
 unfold pathOf at h ⊢
 split at h
 exact h
 rename_i j want hg
 split at h
 cases h
 rename_i g hd
 split at h
 rename_i q b hfd
 simp only [oIQ] at h
 have : env' g = env g := hu (g,want) (by rw [<- h]; simp)
 simp only [hd,this,hfd,h]
 cases h
theorem recX_ok (hE : ExeOk E) (hG : fr.G = G) {loc : cO} {tr : Tr SV} {own own' : Tr Ob} {k k' : Nat} {i : Nat} {o : Oper} {r : Rec} {cs : List Prop} (h : aKM E n ops loc tr own k o = some (r,own',k',cs)) (hoi : ops[i]? = some o) (hc : conj cs) :
  own'.get = aY own.get r.upd /\ (∀ x ∈ keys r.upd,x ∈ r.touch) /\ (∀ x,x ∈ slots r -> x ∈ r.uses) /\ aA6 P fr n ops i r (bE loc tr) own.get /\ r.dst = o.dst /\ aMC n o.dst = true := by
 unfold aKM at h
 split at h
 rename_i p hp
 cases hchk : (closed (bE loc tr) p && chainB (bE loc tr) p && aMC n o.dst && j6 n o.dst p) with
 | false => rw [hchk] at h; cases h
 | true =>
  rw [hchk] at h
  simp only [bIQ] at hchk
  obtain ⟨⟨⟨hcl,hch⟩,hdx⟩,hdo⟩ := hchk
  cases hh : j3 (bE loc tr) p with
  | true =>
   rw [hh] at h
   simp only [cond_true] at h
   split at h
   rename_i r' hr
   simp only [oIQ,pIQ] at h
   obtain ⟨rfl,rfl,rfl,rfl⟩ := h
   obtain ⟨h1,h2,h3⟩ := aHM (p := p) hE hr
   refine ⟨h1,h2,fun x hx => by simp [slots] at hx,?_,rfl,hdx⟩
   intro env own0 a w pl hok hu ht hm K hK
   simp only at hu ht hm hK
   have hpu : ∀ x ∈ p,env x.1 = bE loc tr x.1 := fun x hx => hu x.1 (by simp only [List.mem_append,mmQ]; exact .inr ⟨x,hx,rfl⟩)
   have hpath := mH hp hpu
   have hw := gK hok hpath
   have hP : Eng.Holds a p := by
    obtain ⟨e1,e2⟩ := fJ hpu
    exact n5 hok (by rw [e1]; exact hch) (by rw [e2]; exact holdsB_iff.1 hh)
   have hlk : aX a w pl own0 p (lkX loc tr p (jV o)) := by
    intro q x sv hs hq hh
    refine gN hok p q x sv ?_ hq hh
    cases x with
    | tmp t =>
     simp only [lkX,sQ] at hs
     split at hs
     rename_i hin
     have : env t = bE loc tr t := hu t (by simp only [List.mem_append]; exact .inl (by simpa using hin))
     simp only [gW] at hs ⊢
     rw [this]; exact hs
     cases hs
    | const v => exact hs
    | global g => exact hs
    | func f => exact hs
   unfold fK
   rw [hoi]
   simp only
   rw [if_pos (hw.2 hP)]
   refine h3 fr own0 a w pl hG hc ht hok.mem hlk hP K fun v w' pl' m' L hv => ?_
   refine hK _ w' pl' ?_
   have hok' := hok.later m' L
   cases hd : o.dst with
   | none => simp only [d6,hd]; exact hok'
   | some t =>
    simp only [j6,hd,bIQ,decide_eq_true_eq] at hdo
    simp only [d6,hd]
    exact hok'.put hdo.1 (hm t hd) (fun x hx => by cases hx) (fun _ => hv.resolve_left (by rw [hd]; simp)) (fun h => absurd holds_nil h)
   cases h
  | false =>
   rw [hh] at h
   simp only [cond_false,oIQ,pIQ] at h
   obtain ⟨rfl,rfl,rfl,rfl⟩ := h
   refine ⟨rfl,fun x hx => by simp [keys] at hx,fun x hx => hx,?_,rfl,hdx⟩
   intro env own0 a w pl hok hu ht hm K hK
   simp only at hu ht hm hK
   have hpu : ∀ x ∈ p,env x.1 = bE loc tr x.1 := fun x hx => hu x.1 (by simp only [mmQ]; exact ⟨x,hx,rfl⟩)
   have hw := gK hok (mH hp hpu)
   have hP : ¬ Eng.Holds a p := by
    intro hP
    obtain ⟨e1,e2⟩ := fJ hpu
    have := n6 hok (by rw [e1]; exact hch) hP
    rw [e2] at this
    rw [holdsB_iff.2 this] at hh
    cases hh
   unfold fK
   rw [hoi]
   simp only
   rw [if_neg (fun h => hP (hw.1 h))]
   refine hK _ w pl ?_
   cases hd : o.dst with
   | none => simp only [d6,hd]; exact hok
   | some t =>
    simp only [j6,hd,bIQ,decide_eq_true_eq,at1,bne_iff_ne] at hdo
    simp only [d6,hd]
    exact hok.put hdo.1 (hm t hd) (fun x hx => hdo.2 x hx) (fun h => absurd h hP) (fun _ => rfl)
 cases h
theorem rM (hE : ExeOk E) (hG : fr.G = G) {tr : Tr SV} : ∀ {l : List Oper} {i0 : Nat} {loc loc' : cO} {own own' : Tr Ob} {k k' : Nat} {rs : List Rec} {cs : List Prop},oY E n ops l loc tr own k = some (rs,loc',own',k',cs) -> (∀ i o,l[i]? = some o -> ops[i0 + i]? = some o) -> conj cs ->
  rs.length = l.length /\ bE loc' tr = cA rs (fun _ => true) 0 (bE loc tr) /\ own'.get = bW rs (fun _ => true) 0 own.get /\
  (∀ (i : Nat) (r : Rec),rs[i]? = some r -> ∃ envi owni,aA6 P fr n ops (i0 + i) r envi owni /\ envi = cA rs (fun j => decide (j < i)) 0 (bE loc tr) /\ owni = bW rs (fun j => decide (j < i)) 0 own.get) /\
  (∀ (i : Nat) (r : Rec),rs[i]? = some r -> ∀ x ∈ keys r.upd,x ∈ r.touch) /\ (∀ (i : Nat) (r : Rec),rs[i]? = some r -> ∀ x,x ∈ slots r -> x ∈ r.uses) /\ ((loc.all fun e => few e.1) = true -> (loc'.all fun e => few e.1) = true) /\
  own'.get = aY own.get (rs.flatMap (·.upd))
 | [],i0,loc,loc',own,own',k,k',rs,cs,h,_,_ => by
  simp only [oY,oIQ,pIQ] at h
  obtain ⟨rfl,rfl,rfl,rfl,rfl⟩ := h
  exact ⟨rfl,rfl,rfl,fun i r hi => by simp at hi,fun i r hi => by simp at hi,fun i r hi => by simp at hi,fun h => h,rfl⟩
 | o :: l,i0,loc,loc',own,own',k,k',rs,cs,h,hops,hc => by
  simp only [oY] at h
  split at h
  ·rename_i r own1 k1 cs1 hr
   split at h
   ·rename_i rs2 loc2 own2 k2 cs2 hrs
    simp only [oIQ,pIQ] at h
    obtain ⟨rfl,rfl,rfl,rfl,rfl⟩ := h
    obtain ⟨hc1,hc2⟩ := c6 hc
    obtain ⟨a1,a2,a3,a4,a5,a6⟩ := recX_ok hE hG (i := i0) hr (by simpa using hops 0 o rfl) hc1
    obtain ⟨b1,b2,b3,b4,b5,b6,b7,b8⟩ := rM hE hG (i0 := i0 + 1) hrs (fun i o' hi => by rw [show i0 + 1 + i = i0 + (i + 1) by omega]; exact hops (i + 1) o' (by simpa using hi)) hc2
    have shE : ∀ (rs : List Rec) (D D' : Nat -> Bool) (k k' : Nat) (e : Env),(∀ j,D (k + j) = D' (k' + j)) -> cA rs D k e = cA rs D' k' e := by
     intro rs
     induction rs with
     | nil => intros; rfl
     | cons y ys ih =>
      intro D D' k k' e hD
      have h0 := hD 0
      simp only [Nat.add_zero] at h0
      simp only [cA,h0]
      exact ih _ _ _ _ _ fun j => by have := hD (j + 1); rw [show k + 1 + j = k + (j + 1) by omega,show k' + 1 + j = k' + (j + 1) by omega]; exact this
    have shO : ∀ (rs : List Rec) (D D' : Nat -> Bool) (k k' : Nat) (e : Own),(∀ j,D (k + j) = D' (k' + j)) -> bW rs D k e = bW rs D' k' e := by
     intro rs
     induction rs with
     | nil => intros; rfl
     | cons y ys ih =>
      intro D D' k k' e hD
      have h0 := hD 0
      simp only [Nat.add_zero] at h0
      simp only [bW,h0]
      exact ih _ _ _ _ _ fun j => by have := hD (j + 1); rw [show k + 1 + j = k + (j + 1) by omega,show k' + 1 + j = k' + (j + 1) by omega]; exact this
    refine ⟨by simp [b1],?_,?_,fun i r' hi => ?_,fun i r' hi => ?_,fun i r' hi => ?_,fun hf => b7 ?_,?_⟩
    ·rw [b2,aDW]
     simp only [cA,if_true]
     exact shE _ _ _ _ _ _ fun j => rfl
    ·rw [b3,a1]
     simp only [bW,if_true]
     exact shO _ _ _ _ _ _ fun j => rfl
    ·cases i with
     | zero =>
      simp only [cz,oIQ] at hi
      subst hi
      exact ⟨_,_,a4,(iM _ _ (fun j => by simp) 0 _).symm,(iE _ _ (fun j => by simp) 0 _).symm⟩
     | succ i =>
      obtain ⟨envi,owni,c1,c2,c3⟩ := b4 i r' (by simpa using hi)
      refine ⟨envi,owni,by rw [show i0 + (i + 1) = i0 + 1 + i by omega]; exact c1,?_,?_⟩
      ·rw [c2,aDW]
       simp only [cA,decide_eq_true (show 0 < i + 1 by omega),if_true]
       exact shE _ _ _ _ _ _ fun j => by simp only [Nat.zero_add,decide_eq_decide]; omega
      ·rw [c3,a1]
       simp only [bW,decide_eq_true (show 0 < i + 1 by omega),if_true]
       exact shO _ _ _ _ _ _ fun j => by simp only [Nat.zero_add,decide_eq_decide]; omega
    ·cases i with
     | zero => simp only [cz,oIQ] at hi; subst hi; exact a2
     | succ i => exact b5 i r' (by simpa using hi)
    ·cases i with
     | zero => simp only [cz,oIQ] at hi; subst hi; exact a3
     | succ i => exact b6 i r' (by simpa using hi)
    ·unfold putX
     cases hd : r.dst with
     | none => exact hf
     | some t =>
      rw [a5] at hd
      rw [hd] at a6
      simp only [aMC,bIQ] at a6
      simp only [List.all_cons,a6.2,Bool.true_and]
      exact hf
    ·rw [b8,a1,List.flatMap_cons,eW]
   ·cases h
  ·cases h
theorem aKL (hE : ExeOk E) {loc : cO} {tr : Tr SV} {own own' : Tr Ob} {k k' : Nat} {o : Oper} {r : Rec} {cs : List Prop} (h : aKM E n ops loc tr own k o = some (r,own',k',cs)) :
  own'.get = aY own.get r.upd /\ (∀ x ∈ keys r.upd,x ∈ r.touch) := by
 unfold aKM at h
 split at h
 rename_i p hp
 cases hchk : (closed (bE loc tr) p && chainB (bE loc tr) p && aMC n o.dst && j6 n o.dst p) with
 | false => rw [hchk] at h; cases h
 | true =>
  rw [hchk] at h
  cases hh : j3 (bE loc tr) p with
  | true =>
   rw [hh] at h
   simp only [cond_true] at h
   split at h
   rename_i r' hr
   simp only [oIQ,pIQ] at h
   obtain ⟨rfl,rfl,rfl,rfl⟩ := h
   obtain ⟨h1,h2,h3⟩ := aHM (p := p) hE hr
   exact ⟨h1,h2⟩
   cases h
  | false =>
   rw [hh] at h
   simp only [cond_true,cond_false,oIQ,pIQ] at h
   obtain ⟨rfl,rfl,rfl,rfl⟩ := h
   exact ⟨rfl,fun x hx => by simp [keys] at hx⟩
 cases h
theorem iD (hE : ExeOk E) {tr : Tr SV} : ∀ {l : List Oper} {loc loc' : cO} {own own' : Tr Ob} {k k' : Nat} {rs : List Rec} {cs : List Prop},oY E n ops l loc tr own k = some (rs,loc',own',k',cs) ->
  own'.get = aY own.get (rs.flatMap (·.upd)) /\ ∀ r ∈ rs,∀ x ∈ keys r.upd,x ∈ r.touch
 | [],loc,loc',own,own',k,k',rs,cs,h => by
  simp only [oY,oIQ,pIQ] at h
  obtain ⟨rfl,rfl,rfl,rfl,rfl⟩ := h
  exact ⟨rfl,fun r hr => by cases hr⟩
 | o :: l,loc,loc',own,own',k,k',rs,cs,h => by
  simp only [oY] at h
  split at h
  ·rename_i r own1 k1 cs1 hr
   split at h
   ·rename_i rs2 loc2 own2 k2 cs2 hrs
    simp only [oIQ,pIQ] at h
    obtain ⟨rfl,rfl,rfl,rfl,rfl⟩ := h
    obtain ⟨a1,a2⟩ := aKL hE hr
    obtain ⟨b1,b2⟩ := iD hE hrs
    refine ⟨by rw [b1,a1,List.flatMap_cons,eW],fun r' hr' => ?_⟩
    rcases mc.1 hr' with rfl | hr'
    ·exact a2
    ·exact b2 r' hr'
   ·cases h
  ·cases h
def bF : List (Nat × Ob) -> Own -> Own
 | [],own => own
 | (i,o) :: r,own => upd (bF r own) i o
theorem bP : ∀ (l m : List (Nat × Ob)) (own : Own),bF (l ++ m) own = bF l (bF m own)
 | [],_,_ => rfl
 | (i,o) :: r,m,own => by simp only [List.cons_append,bF,bP r m own]
theorem c7 : ∀ (l : List (Nat × Ob)) (own : Own),bF l.reverse own = aY own l
 | [],_ => rfl
 | (i,o) :: r,own => by
  simp only [List.reverse_cons,aY]
  rw [bP,c7 r]
  rfl
theorem eR (l : List (Nat × Ob)) {own own' : Own} {i : Nat} (h : own i = own' i) : bF l own i = bF l own' i := by
 rw [<- List.reverse_reverse l,c7,c7]
 exact lD _ h
theorem sI : ∀ (rs : List Rec) (k : Nat) (own : Own),bW rs (fun _ => true) k own = aY own (rs.flatMap (·.upd))
 | [],_,_ => rfl
 | r :: rs,k,own => by simp only [bW,if_true,List.flatMap_cons,eW]; exact sI rs (k + 1) _
def Mk.d (pl : Pl) : Mk -> Deferred
 | .mark i => { target := .collected (pl.blk i),args := #[] }
 | .df f cap => { target := .fn (.func f) (cap.map (adV pl)).toArray,args := #[] }
def mkD (pl : Pl) (mk : List Mk) : List Deferred := mk.map (Mk.d pl)
def Mk.bx (own : Own) : Mk -> Prop
 | .mark i => ∃ ty cs,own i = some (.box ty cs)
 | .df _ cap => ∀ x ∈ cap,∃ ty cs,own x.1 = some (.box ty cs)
structure OkM (fr : Fr) (n : Nat) (env : Env) (own : Own) (mk : List Mk) (a : Act) (w : World) (pl : Pl) : Prop where
 ok : Ok { fr with ds := mkD pl mk,free := false } n env own a w pl
 bx : ∀ x ∈ mk,x.bx own
theorem nY {w w' : World} {pl pl' : Pl} {own own' : Own} (L : Later w pl own w' pl' own') {mk : List Mk} (h : ∀ x ∈ mk,x.bx own) : mkD pl' mk = mkD pl mk /\ ∀ x ∈ mk,x.bx own' := by
 refine ⟨List.map_congr_left fun x hx => ?_,fun x hx => ?_⟩
 have hb := h x hx
 cases x with
 | mark i =>
  obtain ⟨ty,cs,ho⟩ := hb
  simp only [Mk.d,(L.bx i ty cs ho).2]
 | df f cap =>
  simp only [Mk.d]
  congr 3
  exact List.map_congr_left fun y hy => by
   obtain ⟨ty,cs,ho⟩ := hb y hy
   simp only [adV,(L.bx y.1 ty cs ho).2]
 have hb := h x hx
 cases x with
 | mark i =>
  obtain ⟨ty,cs,ho⟩ := hb
  exact (L.bx i ty cs ho).1
 | df f cap =>
  intro y hy
  obtain ⟨ty,cs,ho⟩ := hb y hy
  exact (L.bx y.1 ty cs ho).1
theorem Mem.to {fr : Fr} {fb : Bool} (ds : List Deferred) (lat : List (World × Pl × Own)) {own : Own} {w : World} {pl : Pl} (m : Mem fr own w pl) : Mem { fr with ds := ds,lat := lat,free := fb } own w pl :=
 ⟨⟨m.frOk.glob,m.frOk.inW,m.frOk.few⟩,m.hS,m.obj,m.inj,m.base,m.bor,m.os,m.tape,m.output,m.grow,m.keep,m.pin⟩
theorem Mem.of {fr : Fr} {fb : Bool} {ds : List Deferred} {lat : List (World × Pl × Own)} {own : Own} {w : World} {pl : Pl} (m : Mem { fr with ds := ds,lat := lat,free := fb } own w pl) : Mem fr own w pl :=
 ⟨⟨m.frOk.glob,m.frOk.inW,m.frOk.few⟩,m.hS,m.obj,m.inj,m.base,m.bor,m.os,m.tape,m.output,m.grow,m.keep,m.pin⟩
theorem OkM.snap {fr : Fr} {n : Nat} {env : Env} {own : Own} {mk : List Mk} {a : Act} {w : World} {pl : Pl} (h : OkM fr n env own mk a w pl) : Ok { fr with ds := mkD pl mk,lat := (w,pl,own) :: fr.lat,free := false } n env own a w pl :=
 ⟨h.ok.mem.of.to _ _,h.ok.defers,h.ok.size,h.ok.yes,h.ok.no,⟨fun q hq => by
  rcases mc.1 hq with rfl | hq
  exact Later.refl _ _ _
  exact h.ok.late.1 q hq,fun hf => by cases hf⟩⟩
theorem OkM.unsnap {fr : Fr} {n : Nat} {env env' : Env} {own own' : Own} {mk : List Mk} {a a' : Act} {w w' : World} {pl pl' : Pl} (h : OkM fr n env own mk a w pl) (h' : Ok { fr with ds := mkD pl mk,lat := (w,pl,own) :: fr.lat,free := false } n env' own' a' w' pl') : OkM fr n env' own' mk a' w' pl' /\ Later w pl own w' pl' own' := by
 have L := h'.late.1 (w,pl,own) (by simp)
 obtain ⟨h1,h2⟩ := nY L h.bx
 refine ⟨⟨⟨h'.mem.of.to _ _,fun hf => (by rw [h1]; exact h'.defers rfl),h'.size,h'.yes,h'.no,⟨fun q hq => h'.late.1 q (by simp; exact .inr hq),fun hf => by cases hf⟩⟩,h2⟩,L⟩
def RIs (P : Program) (fl : Option Nat) (fr : Fr) (R : Wp P) : Prop := match fl with
 | none => R = bB P
 | some i => ∃ q ∈ fr.lat,(∃ ty cs,q.2.2 i = some (.box ty cs)) /\ R = roundWp P (q.2.1.blk i)
structure Goes (P : Program) (G : List (Nat × List Value)) (fl : Option Nat) (n : Nat) (V : Wp P -> (Exit -> Act -> World -> Prop) -> Act -> World -> Prop) (e : Ex) (st st' : XS) : Prop where
 dl : ∃ (dT : List Nat) (dU : List (Nat × Ob)) (dC : List Prop),st'.T = dT ++ st.T /\ st'.U = dU ++ st.U /\ st'.cs = dC ++ st.cs /\ st'.own.get = bF dU st.own.get /\ (∀ x ∈ keys dU,x ∈ dT) /\
  ∀ (R : Wp P) (fr : Fr) (own0 : Own) (a : Act) (w : World) (pl : Pl) (Q : Exit -> Act -> World -> Prop),RIs P fl fr R -> fr.G = G -> conj dC -> (∀ i ∈ dT,own0 i = st.own.get i) -> OkM fr n (bE [] st.env) own0 st.mks a w pl ->
   (∀ a' w' pl',OkM fr n (bE [] st'.env) (bF dU own0) st'.mks a' w' pl' -> Q e.to a' w') -> V R Q a w
theorem regX_ok (hE : ExeOk E) (hm : P.follows .mixedOrders = true) {fl : Option Nat} {id : Nat} {draw : Bool} {st st' : XS} (hnd : d3 ops = true) (h : aEU E n ops draw st = some st') : Goes P G fl n (fun R Q => R.wp (.region id ops draw) Q) .normal st st' := by
 unfold aEU at h
 split at h
 ·rename_i rs loc own k cs hrs
  cases hchk : (okT rs && (!draw || (okB 0 rs (bef ops) && fI 0 ops.toList))) with
  | false => rw [hchk] at h; cases h
  | true =>
   rw [hchk] at h
   simp only [cond_true,oIQ] at h
   subst h
   simp only [bIQ,Bool.or_eq_true,Bool.not_eq_true'] at hchk
   obtain ⟨hT,hA⟩ := hchk
   have hops : ∀ i o,ops.toList[i]? = some o -> ops[0 + i]? = some o := fun i o h => by rw [Nat.zero_add]; simpa using h
   refine ⟨rs.flatMap (·.touch),(rs.flatMap (·.upd)).reverse,cs,rfl,rfl,rfl,?_,?_,fun R fr own0 a w pl Q hR hG hc ht hok hQ => ?_⟩
   ·
    rw [c7]
    exact (iD hE hrs).1
   ·intro x hx
    obtain ⟨y,hy,rfl⟩ := mmQ.1 hx
    obtain ⟨r,hr,hy⟩ := List.mem_flatMap.1 (List.mem_reverse.1 hy)
    exact List.mem_flatMap.2 ⟨r,hr,(iD hE hrs).2 r hr _ (mmQ.2 ⟨y,hy,rfl⟩)⟩
   ·obtain ⟨b1,b2,b3,b4,b5,b6,b7,b8⟩ := rM (fr := { fr with ds := mkD pl st.mks,lat := (w,pl,own0) :: fr.lat,free := false }) hE hG hrs hops hc
    have hRR : RecsOk P { fr with ds := mkD pl st.mks,lat := (w,pl,own0) :: fr.lat,free := false } n ops rs (bE [] st.env) st.own.get (bE loc st.env) own.get :=
     ⟨by rw [b1]; simp,b2,b3,fun i r hi => by obtain ⟨x,y,c1,c2,c3⟩ := b4 i r hi; rw [Nat.zero_add] at c1; exact ⟨x,y,c1,c2,c3⟩,b5,b6⟩
    refine aKK hm hRR (fun i r hi x hx => ht x (List.mem_flatMap.2 ⟨r,List.mem_of_getElem? hi,hx⟩)) (fun u q sv h => ?_) hT (fun hd => by
     rcases hA with h | h
     ·rw [hd] at h; cases h
     ·exact h) hnd hok.snap (fun a' w' pl' hok' => ?_)
    ·simp only [bE,aL,me,pIQ] at h
     obtain ⟨_,_,h,_⟩ := h
     exact h.symm
    ·refine hQ a' w' pl' ?_
     rw [c7,<- sI rs 0]
     exact (hok.unsnap (zT hok' fun u q sv h => (lT (b7 rfl) h).2)).1
 ·cases h
theorem aBT (hE : ExeOk E) {fl : Option Nat} {draw : Bool} {st st' : XS} (h : aEU E n ops draw st = some st') : Goes P G fl n (fun R Q => dR P ops (Q .normal) (List.range ops.size)) .normal st st' := by
 unfold aEU at h
 split at h
 ·rename_i rs loc own k cs hrs
  cases hchk : (okT rs && (!draw || (okB 0 rs (bef ops) && fI 0 ops.toList))) with
  | false => rw [hchk] at h; cases h
  | true =>
   rw [hchk] at h
   simp only [cond_true,oIQ] at h
   subst h
   simp only [bIQ,Bool.or_eq_true,Bool.not_eq_true'] at hchk
   obtain ⟨hT,hA⟩ := hchk
   have hops : ∀ i o,ops.toList[i]? = some o -> ops[0 + i]? = some o := fun i o h => by rw [Nat.zero_add]; simpa using h
   refine ⟨rs.flatMap (·.touch),(rs.flatMap (·.upd)).reverse,cs,rfl,rfl,rfl,?_,?_,fun R fr own0 a w pl Q hR hG hc ht hok hQ => ?_⟩
   ·
    rw [c7]
    exact (iD hE hrs).1
   ·intro x hx
    obtain ⟨y,hy,rfl⟩ := mmQ.1 hx
    obtain ⟨r,hr,hy⟩ := List.mem_flatMap.1 (List.mem_reverse.1 hy)
    exact List.mem_flatMap.2 ⟨r,hr,(iD hE hrs).2 r hr _ (mmQ.2 ⟨y,hy,rfl⟩)⟩
   ·obtain ⟨b1,b2,b3,b4,b5,b6,b7,b8⟩ := rM (fr := { fr with ds := mkD pl st.mks,lat := (w,pl,own0) :: fr.lat,free := false }) hE hG hrs hops hc
    have hRR : RecsOk P { fr with ds := mkD pl st.mks,lat := (w,pl,own0) :: fr.lat,free := false } n ops rs (bE [] st.env) st.own.get (bE loc st.env) own.get :=
     ⟨by rw [b1]; simp,b2,b3,fun i r hi => by obtain ⟨x,y,c1,c2,c3⟩ := b4 i r hi; rw [Nat.zero_add] at c1; exact ⟨x,y,c1,c2,c3⟩,b5,b6⟩
    refine aBS hRR (fun i r hi x hx => ht x (List.mem_flatMap.2 ⟨r,List.mem_of_getElem? hi,hx⟩)) (fun u q sv h => ?_) hT hok.snap (fun a' w' pl' hok' => ?_)
    ·simp only [bE,aL,me,pIQ] at h
     obtain ⟨_,_,h,_⟩ := h
     exact h.symm
    ·refine hQ a' w' pl' ?_
     rw [c7,<- sI rs 0]
     exact (hok.unsnap (zT hok' fun u q sv h => (lT (b7 rfl) h).2)).1
 ·cases h
end
end Go.V
namespace Go.V
open Go.RowKit
def isDf (o : Oper) : Option Tmp := match o.op,o.dst,o.guard with
 | .defer { callee := .value (.tmp t),args := ⟨[]⟩,argTypes := _ },none,none => some t
 | _,_,_ => none
def regD {P : Program} {G : List (Nat × List Value)} (E : Exe P G) (n : Nat) (ops : Array Oper) (st : XS) : Option XS :=
 match ops.back? with
 | some o => match isDf o with
  | some t => bif d3 ops.pop then (match aEU E n ops.pop false st with
   | some st1 => match st1.env.get t with
    | some (.c (.fn f [] cap)) => match aI7 E.df f with
     | some e => bif enters P f && Nat.beq cap.length e.ar then some ⟨st1.env,st1.own,st1.k,st1.T,st1.U,st1.cs,.df f cap :: st1.mks⟩ else none
     | none => none
    | _ => none
   | none => none) else none
  | none => none
 | none => none
def frzT (t : Nat) (st : XS) : Option XS := match st.env.get t with
 | some (.c (.ar i k)) => match st.own.get i with
  | some (.arr k' ⟨e,[]⟩ sz es) => bif Nat.beq k' k && Nat.ble 100 i && few t then (match aBL st.own [(i,.arr (k' + 1) ⟨e,[]⟩ sz [])] with
   | some own' => some ⟨Tr.put (some (.c (.d (.sl sz es)))) 40 st.env t,own',st.k,i :: st.T,(i,.arr (k' + 1) ⟨e,[]⟩ sz []) :: st.U,st.cs,st.mks⟩
   | none => none) else none
  | _ => none
 | _ => none
def frzS (l : Option Value) (st : XS) : XS := match l with
 | some (.agg ⟨[.int .i64 (.ofNat t)]⟩) => match frzT t st with
  | some st' => st'
  | none => st
 | _ => st
def evC {P : Program} {G : List (Nat × List Value)} (E : Exe P G) (fl : Option Nat) (n : Nat) : Nat -> Code -> XS -> Option (Ex × XS)
 | 0,_,_ => none
 | f + 1,c,st => match c with
  | .skip => some (.normal,st)
  | .region id ops draw => bif d3 ops then (match aEU E n ops draw (frzS (E.lit st.k) st) with
   | some st' => some (.normal,st')
   | none => none) else bif fl.isNone && !draw then (match regD E n ops st with
   | some st' => some (.normal,st')
   | none => none) else none
  | .seq x y => match evC E fl n f x st with
   | some (.normal,st') => evC E fl n f y st'
   | some (e,st') => some (e,st')
   | none => none
  | .cond c x y => match gW (bE [] st.env) [] [] c with
   | some (.c (.d (.v (.bool b)))) => match E.orc st.k with
    | some true => evC E fl n f x ⟨st.env,st.own,st.k,st.T,st.U,(b = true) :: st.cs,st.mks⟩
    | some false => evC E fl n f y ⟨st.env,st.own,st.k,st.T,st.U,(b = false) :: st.cs,st.mks⟩
    | none => match b with
     | true => evC E fl n f x st
     | false => evC E fl n f y st
   | _ => none
  | .block id x => match evC E fl n f x st with
   | some (.exit k,st') => bif Nat.beq k id then some (.normal,st') else some (.exit k,st')
   | some (e,st') => some (e,st')
   | none => none
  | .loop x => match evC E fl n f x st with
   | some (.normal,st') => evC E fl n f (.loop x) st'
   | some (e,st') => some (e,st')
   | none => none
  | .exit id => some (.exit id,st)
  | .ret => some (.ret,st)
  | _ => none
section
variable {P : Program} {G : List (Nat × List Value)} {E : Exe P G} {n : Nat} {fl : Option Nat}
theorem Goes.nil {V : Wp P -> (Exit -> Act -> World -> Prop) -> Act -> World -> Prop} {e : Ex} {st : XS} (h : ∀ (R : Wp P) (Q : Exit -> Act -> World -> Prop) (a : Act) (w : World),Q e.to a w -> V R Q a w) : Goes P G fl n V e st st :=
 ⟨[],[],[],rfl,rfl,rfl,rfl,fun x hx => by simp [keys] at hx,fun R fr own0 a w pl Q _ _ _ _ hok hQ => h R Q a w (hQ a w pl hok)⟩
theorem Goes.trans {V V1 V2 : Wp P -> (Exit -> Act -> World -> Prop) -> Act -> World -> Prop} {e1 e2 : Ex} {st st1 st2 : XS} (h1 : Goes P G fl n V1 e1 st st1) (h2 : Goes P G fl n V2 e2 st1 st2)
  (h : ∀ (R : Wp P) (Q : Exit -> Act -> World -> Prop) (a : Act) (w : World),V1 R (fun e a w => e = e1.to /\ V2 R (fun e a w => e = e2.to /\ Q e2.to a w) a w) a w -> V R Q a w) : Goes P G fl n V e2 st st2 := by
 obtain ⟨T1,U1,C1,a1,a2,a3,a4,a5,a6⟩ := h1.dl
 obtain ⟨T2,U2,C2,b1,b2,b3,b4,b5,b6⟩ := h2.dl
 refine ⟨T2 ++ T1,U2 ++ U1,C2 ++ C1,by rw [b1,a1,List.append_assoc],by rw [b2,a2,List.append_assoc],by rw [b3,a3,List.append_assoc],by rw [b4,a4,bP],fun x hx => ?_,fun R fr own0 a w pl Q hR hG hc ht hok hQ => ?_⟩
 simp only [keys,List.map_append,List.mem_append] at hx ⊢
 exact hx.imp (b5 x) (a5 x)
 obtain ⟨hc2,hc1⟩ := c6 hc
 refine h R Q a w (a6 R fr own0 a w pl _ hR hG hc1 (fun i hi => ht i (by simp [hi])) hok fun a' w' pl' hok' => ⟨rfl,?_⟩)
 refine b6 R fr _ a' w' pl' _ hR hG hc2 (fun i hi => ?_) hok' fun a2 w2 pl2 hok2 => ⟨rfl,?_⟩
 rw [a4]; exact eR U1 (ht i (by simp [hi]))
 rw [<- bP] at hok2
 exact hQ a2 w2 pl2 hok2
theorem Goes.one {V V1 : Wp P -> (Exit -> Act -> World -> Prop) -> Act -> World -> Prop} {e1 e : Ex} {st st1 : XS} (h1 : Goes P G fl n V1 e1 st st1)
  (h : ∀ (R : Wp P) (Q : Exit -> Act -> World -> Prop) (a : Act) (w : World),V1 R (fun e' a w => e' = e1.to /\ Q e.to a w) a w -> V R Q a w) : Goes P G fl n V e st st1 := by
 obtain ⟨T1,U1,C1,a1,a2,a3,a4,a5,a6⟩ := h1.dl
 refine ⟨T1,U1,C1,a1,a2,a3,a4,a5,fun R fr own0 a w pl Q hR hG hc ht hok hQ => ?_⟩
 exact h R Q a w (a6 R fr own0 a w pl _ hR hG hc ht hok fun a' w' pl' hok' => ⟨rfl,hQ a' w' pl' hok'⟩)
theorem qU {ops ops' : Array Oper} {K : Act -> World -> Prop} {Q : Exit -> Act -> World -> Prop} {rest : List Nat} (hnd : d3 ops' = true) (hK : ∀ a w,K a w -> wpOpsIn (dV none) 0 P ops Q rest a w) : ∀ {l : List Nat} {a : Act} {w : World},(∀ i ∈ l,ops[i]? = ops'[i]?) -> (∀ i ∈ l,∀ o,ops'[i]? = some o -> ∀ tm : Array Value,Region.wanted o (yielded ops tm) = Region.wanted o (yielded ops' tm)) -> dR P ops' K l a w -> wpOpsIn (dV none) 0 P ops Q (l ++ rest) a w
 | [],a,w,_,_,h => hK a w h
 | i :: r,a,w,hs,hy,h => by
  have ih : ∀ a w,dR P ops' K r a w -> wpOpsIn (dV none) 0 P ops Q (r ++ rest) a w := fun a w h => qU hnd hK (fun j hj => hs j (by simp [hj])) (fun j hj => hy j (by simp [hj])) h
  simp only [dR,fK] at h
  simp only [List.cons_append,wpOpsIn]
  rw [hs i (by simp)]
  cases ho : ops'[i]? with
  | none => simp only [ho] at h; exact ih a w h
  | some o =>
   simp only [ho] at h
   have hmem : o ∈ ops'.toList := by
    rw [List.mem_iff_getElem?]
    exact ⟨i,by simpa using ho⟩
   have hdo : qV o.op = false := by
    have := at1.1 hnd o hmem
    simpa using this
   have hyw := hy i (by simp) o ho a.tmps
   by_cases hw : Region.wanted o (yielded ops' a.tmps) = true
   rw [if_pos hw] at h
   simp only [hyw,if_pos hw]
   exact aK3 none hdo (h.mono fun a w h => ih a w h)
   rw [if_neg hw] at h
   simp only [hyw,if_neg hw]
   exact ⟨fun f _ => sX none f,ih _ w h⟩
theorem isDf_ok {o : Oper} {t : Tmp} (h : isDf o = some t) : (∃ ats,o.op = .defer { callee := .value (.tmp t),args := #[],argTypes := ats }) /\ o.dst = none /\ o.guard = none := by
 unfold isDf at h
 split at h
 rename_i t' ats h1 h2 h3
 simp only [oIQ] at h
 subst h
 exact ⟨⟨_,h1⟩,h2,h3⟩
 cases h
theorem regD_ok (hE : ExeOk E) {id : Nat} {ops : Array Oper} {st st' : XS} (h : regD E n ops st = some st') : Goes P G none n (fun R Q => R.wp (.region id ops false) Q) .normal st st' := by
 unfold regD at h
 split at h
 rename_i o hback
 split at h
 rename_i t hdf
 cases hnd : d3 ops.pop with
 | false => rw [hnd] at h; cases h
 | true =>
  rw [hnd] at h
  simp only [cond_true] at h
  split at h
  rename_i st1 hr
  split at h
  rename_i f cap ht
  split at h
  rename_i e he
  cases hen : (enters P f && Nat.beq cap.length e.ar) with
  | false => rw [hen] at h; cases h
  | true =>
   rw [hen] at h
   simp only [cond_true,oIQ] at h
   subst h
   obtain ⟨⟨ats,hop⟩,hdst,hgd⟩ := isDf_ok hdf
   obtain ⟨T1,U1,C1,a1,a2,a3,a4,a5,a6⟩ := (aBT (fl := none) hE hr).dl
   refine ⟨T1,U1,C1,a1,a2,a3,a4,a5,fun R fr own0 a w pl Q hR hG hc hag hok hQ => ?_⟩
   have hRe : R = bB P := hR
   subst hRe
   show (Code.region id ops false).wp P Q a w
   have hsz : ops.size = ops.pop.size + 1 := by
    have : ops.size ≠ 0 := by
     intro h0
     have : ops = #[] := Array.eq_empty_of_size_eq_zero h0
     rw [this] at hback
     simp at hback
    simp; omega
   have hlast : ops[ops.pop.size]? = some o := by
    rw [Array.back?_eq_getElem?] at hback
    rw [<- hback]; congr 1; omega
   refine wpIn_wide.1 (wpIn_region (n := 0) ?_)
   show wpOpsIn (dV none) 0 P ops Q (List.range ops.size) a w
   rw [hsz,List.range_succ]
   have hsame : ∀ i ∈ List.range ops.pop.size,ops[i]? = ops.pop[i]? := fun i hi => by
    have := List.mem_range.1 hi
    rw [Array.getElem?_pop,if_pos (by simp at this; omega)]
   refine qU (K := fun a w => ∃ pl,OkM fr n (bE [] st1.env) (bF U1 own0) st1.mks a w pl) hnd (fun a1 w1 hk => ?_) hsame (fun i hi o' ho' tm => ?_) (a6 (bB P) fr own0 a w pl (fun _ a w => ∃ pl,OkM fr n (bE [] st1.env) (bF U1 own0) st1.mks a w pl) rfl hG hc hag hok (fun a' w' pl' hok' => ⟨pl',hok'⟩))
   obtain ⟨pl1,hok1⟩ := hk
   simp only [wpOpsIn,hlast]
   have hwant : Region.wanted o (yielded ops a1.tmps) = true := by unfold Region.wanted; rw [hgd]
   rw [if_pos hwant]
   refine ⟨fun f _ => trivial,?_⟩
   obtain ⟨hbs,hv⟩ := hok1.ok.yes t [] _ (show bE [] st1.env t = some ([],.c (.fn f [] cap)) by simp [bE,aL,ht]) holds_nil
   have hv : a1.eval (.tmp t) = .func (.func f) (([] : List (Nat × Nat)).map (adV pl1)).toArray (cap.map (adV pl1)).toArray := hv
   have hrun : (Oper.semAt (dV none).round a1.eval o).run P w1 = .ok (.defer { target := .fn (.func f) (cap.map (adV pl1)).toArray,args := #[] }) w1 := by
    rw [gY,Oper.semAt_none]
    unfold execOp
    simp only [hop,resolve,hv,Deferred.ofValue]
    simp
   rw [hrun,Oper.uponIn_defer]
   have hput : ({ a1 with defers := { target := .fn (.func f) (cap.map (adV pl1)).toArray,args := #[] } :: a1.defers } : Act).put o.dst undef = { a1 with defers := { target := .fn (.func f) (cap.map (adV pl1)).toArray,args := #[] } :: a1.defers } := by rw [hdst]; rfl
   rw [hput]
   refine hQ _ w1 pl1 ⟨⟨hok1.ok.mem.of.to _ _,?_,hok1.ok.size,hok1.ok.yes,hok1.ok.no,⟨fun q hq => hok1.ok.late.1 q hq,fun hf => (by cases hf)⟩⟩,fun x hx => ?_⟩
   intro _; show _ :: a1.defers = mkD pl1 (.df f cap :: st1.mks)
   have : a1.defers = mkD pl1 st1.mks := hok1.ok.defers rfl
   rw [this]; rfl
   rcases mc.1 hx with rfl | hx
   exact fun y hy => hbs y (by simp [hy])
   exact hok1.bx x hx
   have hlt := List.mem_range.1 hi
   unfold Region.wanted
   cases hg : o'.guard with
   | none => rfl
   | some jw =>
    obtain ⟨j,want⟩ := jw
    simp only
    have : yielded ops tm j = yielded ops.pop tm j := by
     unfold yielded
     by_cases hj : j < ops.pop.size
     rw [Array.getElem?_pop,if_pos (by simp at hj; omega)]
     have h1 : ops.pop[j]? = none := by simp; simp at hj; omega
     rw [h1]
     by_cases hj2 : j = ops.pop.size
     subst hj2; rw [hlast]; simp [hdst]
     have h2 : ops[j]? = none := by simp; omega
     rw [h2]
    rw [this]
  cases h
  cases h
  cases h
 cases h
 cases h
def fB (R : Wp P) (c : Code) (Q : Exit -> Act -> World -> Prop) : Nat -> Act -> World -> Prop
 | 0 => fun _ _ => False
 | k + 1 => R.wp c (Exit.then (fB R c Q k) Q)
theorem rI {R : Wp P} {c : Code} {Q : Exit -> Act -> World -> Prop} {k : Nat} {a : Act} {w : World} (h : fB R c Q k a w) : R.wp (.loop c) Q a w := by
 refine R.loop (fun k a w => fB R c Q k a w) k h fun k a w h => ?_
 cases k with
 | zero => exact h.elim
 | succ k =>
  refine R.mono h fun e a w h => ?_
  cases e with
  | normal => exact ⟨k,by omega,h⟩
  | _ => exact h
def walkV (P : Program) (f : Nat) : Code -> Wp P -> (Exit -> Act -> World -> Prop) -> Act -> World -> Prop
 | .loop x => fun R Q => fB R x Q f
 | c => fun R Q => R.wp c Q
theorem cU {f : Nat} {c : Code} {R : Wp P} {Q : Exit -> Act -> World -> Prop} {a : Act} {w : World} (h : walkV P f c R Q a w) : R.wp c Q a w := by
 cases c with
 | loop x => exact rI h
 | _ => exact h
theorem fT {st : XS} {fr : Fr} {own0 : Own} {a : Act} {w : World} {pl : Pl} {c : Operand} {b : Bool} (hok : Ok fr n (bE [] st.env) own0 a w pl) (h : gW (bE [] st.env) [] [] c = some (.c (.d (.v (.bool b))))) : a.eval c = .bool b :=
 Rd.exact (gN hok [] [] c _ h holds_nil holds_nil)
theorem frzT_ok {t : Nat} {st st' : XS} (h : frzT t st = some st') : Goes P G fl n (fun _ Q => Q .normal) .normal st st' := by
 unfold frzT at h
 split at h
 rename_i i k hsl
 split at h
 rename_i k' e sz es hi
 cases hc : (Nat.beq k' k && Nat.ble 100 i && few t) with
 | false => rw [hc] at h; cases h
 | true =>
  rw [hc] at h
  simp only [cond_true] at h
  simp only [bIQ] at hc
  obtain ⟨⟨hk,h100⟩,hft⟩ := hc
  have hk := Nat.eq_of_beq_eq_true hk
  subst hk
  split at h
  rename_i own' hset
  simp only [oIQ] at h
  subst h
  refine ⟨[i],[(i,.arr (k' + 1) ⟨e,[]⟩ sz [])],[],rfl,rfl,rfl,jM hset,fun x hx => by simpa [keys] using hx,fun R fr own0 a w pl Q hR hG hc ht hok hQ => ?_⟩
  have h0 : own0 i = some (.arr k' ⟨e,[]⟩ sz es) := (ht i (by simp)).trans hi
  have ok := hok.ok
  obtain ⟨pl',m',L,hr⟩ := ok.mem.freeze h0 (Nat.le_of_ble_eq_true h100)
  have ok' := ok.later m' L
  obtain ⟨e1,e2⟩ := nY L hok.bx
  have hv : COk w pl own0 (.ar i k') (a.tmps.getD t undef) := ok.yes t [] (.c (.ar i k')) (by simp [bE,aL,hsl]) holds_nil
  refine hQ a w pl' ⟨⟨ok'.mem.of.to _ _,?_,ok'.size,fun u p sv hu hp => ?_,fun u p sv hu hp => ?_,⟨fun q hq => ok'.late.1 q hq,fun hf => (by cases hf)⟩⟩,e2⟩
  intro _; show a.defers = mkD pl' st.mks
  have hdd : a.defers = mkD pl st.mks := ok.defers rfl
  rw [hdd,e1]
  simp only [bE,aL,me,pIQ] at hu
  obtain ⟨s',hs',_,rfl⟩ := hu
  rw [Tr.get_put40 hft] at hs'
  by_cases hut : u = t
  subst hut
  rw [if_pos rfl] at hs'
  simp only [oIQ] at hs'
  subst hs'
  rw [cD (w := w) hv h0]
  exact hr
  rw [if_neg hut] at hs'
  exact ok'.yes u [] s' (by simp [bE,aL,hs']) holds_nil
  simp only [bE,aL,me,pIQ] at hu
  obtain ⟨_,_,rfl,_⟩ := hu
  exact absurd holds_nil hp
  cases h
 cases h
 cases h
theorem frzS_ok (l : Option Value) (st : XS) : Goes P G fl n (fun _ Q => Q .normal) .normal st (frzS l st) := by
 unfold frzS
 split
 split
 rename_i h; exact frzT_ok h
 exact Goes.nil fun R Q a w hq => hq
 exact Goes.nil fun R Q a w hq => hq
theorem s7 (hE : ExeOk E) (hm : P.follows .mixedOrders = true) : ∀ (f : Nat) (c : Code) (e : Ex) (st st' : XS),evC E fl n f c st = some (e,st') -> Goes P G fl n (walkV P f c) e st st'
 | 0,c,e,st,st',h => by simp [evC] at h
 | f + 1,c,e,st,st',h => by
  have ih := s7 hE hm f
  cases c with
  | skip =>
   simp only [evC,oIQ,pIQ] at h
   obtain ⟨rfl,rfl⟩ := h
   exact Goes.nil fun R Q a w hq => R.skip hq
  | region id ops draw =>
   simp only [evC] at h
   cases hnd : d3 ops with
   | false =>
    rw [hnd] at h
    simp only [cond_false] at h
    cases hfd : (fl.isNone && !draw) with
    | false => rw [hfd] at h; cases h
    | true =>
     rw [hfd] at h
     simp only [cond_true] at h
     simp only [bIQ,Bool.not_eq_true',Option.isNone_iff_eq_none] at hfd
     obtain ⟨rfl,rfl⟩ := hfd
     split at h
     rename_i st1 hr
     simp only [oIQ,pIQ] at h
     obtain ⟨rfl,rfl⟩ := h
     exact regD_ok hE hr
     cases h
   | true =>
    rw [hnd] at h
    simp only [cond_true] at h
    split at h
    rename_i st1 hr
    simp only [oIQ,pIQ] at h
    obtain ⟨rfl,rfl⟩ := h
    refine Goes.trans (frzS_ok (E.lit st.k) st) (regX_ok (id := id) hE hm hnd hr) fun R Q a w hq => ?_
    exact R.mono hq.2 fun e' a w h => by obtain ⟨rfl,h⟩ := h; exact h
    cases h
  | seq x y =>
   simp only [evC] at h
   split at h
   rename_i st1 hx
   refine Goes.trans (ih x _ _ _ hx) (ih y _ _ _ h) fun R Q a w hq => ?_
   refine R.seq (R.mono (cU hq) fun e' a w h => ?_)
   obtain ⟨rfl,h⟩ := h
   exact R.mono (cU h) fun e' a w h => by obtain ⟨rfl,h⟩ := h; exact h
   rename_i e1 st1 hne hx
   simp only [oIQ,pIQ] at h
   obtain ⟨rfl,rfl⟩ := h
   refine Goes.one (ih x _ _ _ hx) fun R Q a w hq => ?_
   refine R.seq (R.mono (cU hq) fun e' a w h => ?_)
   obtain ⟨rfl,h⟩ := h
   cases e1 with
   | normal => exact (hne rfl).elim
   | exit k => exact h
   | ret => exact h
   cases h
  | cond c x y =>
   simp only [evC] at h
   split at h
   rename_i b hb
   split at h
   obtain ⟨T1,U1,C1,a1,a2,a3,a4,a5,a6⟩ := (ih x _ _ _ h).dl
   refine ⟨T1,U1,C1 ++ [b = true],a1,a2,by rw [a3]; simp,a4,a5,fun R fr own0 a w pl Q hR hG hc ht hok hQ => ?_⟩
   obtain ⟨hc1,hc2⟩ := c6 hc
   have hc2 : b = true := hc2
   exact R.cond (fT hok.ok hb) (fun _ => cU (a6 R fr own0 a w pl Q hR hG hc1 ht hok hQ)) (fun h => by rw [hc2] at h; cases h)
   obtain ⟨T1,U1,C1,a1,a2,a3,a4,a5,a6⟩ := (ih y _ _ _ h).dl
   refine ⟨T1,U1,C1 ++ [b = false],a1,a2,by rw [a3]; simp,a4,a5,fun R fr own0 a w pl Q hR hG hc ht hok hQ => ?_⟩
   obtain ⟨hc1,hc2⟩ := c6 hc
   have hc2 : b = false := hc2
   exact R.cond (fT hok.ok hb) (fun h => by rw [hc2] at h; cases h) (fun _ => cU (a6 R fr own0 a w pl Q hR hG hc1 ht hok hQ))
   cases b with
   | true =>
    obtain ⟨T1,U1,C1,a1,a2,a3,a4,a5,a6⟩ := (ih x _ _ _ h).dl
    refine ⟨T1,U1,C1,a1,a2,a3,a4,a5,fun R fr own0 a w pl Q hR hG hc ht hok hQ => ?_⟩
    exact R.cond (fT hok.ok hb) (fun _ => cU (a6 R fr own0 a w pl Q hR hG hc ht hok hQ)) (fun h => by cases h)
   | false =>
    obtain ⟨T1,U1,C1,a1,a2,a3,a4,a5,a6⟩ := (ih y _ _ _ h).dl
    refine ⟨T1,U1,C1,a1,a2,a3,a4,a5,fun R fr own0 a w pl Q hR hG hc ht hok hQ => ?_⟩
    exact R.cond (fT hok.ok hb) (fun h => by cases h) (fun _ => cU (a6 R fr own0 a w pl Q hR hG hc ht hok hQ))
   cases h
  | block id x =>
   simp only [evC] at h
   split at h
   rename_i k st1 hx
   cases hk : Nat.beq k id with
   | true =>
    rw [hk] at h
    simp only [cond_true,oIQ,pIQ] at h
    obtain ⟨rfl,rfl⟩ := h
    refine Goes.one (ih x _ _ _ hx) fun R Q a w hq => ?_
    refine R.block (R.mono (cU hq) fun e' a w h => ?_)
    obtain ⟨rfl,h⟩ := h
    have := Nat.eq_of_beq_eq_true hk
    subst this
    simp only [Ex.to,Exit.inBlock,if_true]
    exact h
   | false =>
    rw [hk] at h
    simp only [cond_false,oIQ,pIQ] at h
    obtain ⟨rfl,rfl⟩ := h
    refine Goes.one (ih x _ _ _ hx) fun R Q a w hq => ?_
    refine R.block (R.mono (cU hq) fun e' a w h => ?_)
    obtain ⟨rfl,h⟩ := h
    have hne : k ≠ id := fun e => by subst e; rw [Nat.beq_refl] at hk; cases hk
    simp only [Ex.to,Exit.inBlock,if_neg hne]
    exact h
   rename_i e1 st1 hne hx
   simp only [oIQ,pIQ] at h
   obtain ⟨rfl,rfl⟩ := h
   refine Goes.one (ih x _ _ _ hx) fun R Q a w hq => ?_
   refine R.block (R.mono (cU hq) fun e' a w h => ?_)
   obtain ⟨rfl,h⟩ := h
   cases e1 with
   | normal => exact h
   | exit k => exact (hne k rfl).elim
   | ret => exact h
   cases h
  | loop x =>
   simp only [evC] at h
   split at h
   rename_i st1 hx
   refine Goes.trans (ih x _ _ _ hx) (ih (.loop x) _ _ _ h) fun R Q a w hq => ?_
   show R.wp x (Exit.then (fB R x Q f) Q) a w
   refine R.mono (cU hq) fun e' a w h => ?_
   obtain ⟨rfl,h⟩ := h
   have mono : ∀ (k : Nat) (Q Q' : Exit -> Act -> World -> Prop),(∀ e a w,Q e a w -> Q' e a w) -> ∀ a w,fB R x Q k a w -> fB R x Q' k a w := by
    intro k Q Q' hQQ
    induction k with
    | zero => exact fun _ _ h => h
    | succ k ihk =>
     intro a w h
     refine R.mono h fun e a w h => ?_
     cases e with
     | normal => exact ihk a w h
     | _ => exact hQQ _ _ _ h
   exact mono f _ _ (fun e' a w h => by obtain ⟨rfl,h⟩ := h; exact h) a w h
   rename_i e1 st1 hne hx
   simp only [oIQ,pIQ] at h
   obtain ⟨rfl,rfl⟩ := h
   refine Goes.one (ih x _ _ _ hx) fun R Q a w hq => ?_
   show R.wp x (Exit.then (fB R x Q f) Q) a w
   refine R.mono (cU hq) fun e' a w h => ?_
   obtain ⟨rfl,h⟩ := h
   cases e1 with
   | normal => exact (hne rfl).elim
   | exit k => exact h
   | ret => exact h
   cases h
  | rangeFunc g ps asg bd => simp [evC] at h
  | exit id =>
   simp only [evC,oIQ,pIQ] at h
   obtain ⟨rfl,rfl⟩ := h
   exact Goes.nil fun R Q a w hq => R.exit hq
  | ret =>
   simp only [evC,oIQ,pIQ] at h
   obtain ⟨rfl,rfl⟩ := h
   exact Goes.nil fun R Q a w hq => R.ret hq
  | _ => simp [evC] at h
end
end Go.V
namespace Go.V
open Go.RowKit
section
variable {P : Program} {fr : Fr} {n : Nat} {a : Act} {w : World} {pl : Pl}
def oW (P : Program) (env : Env) (own : Own) : ResultVar -> Option SV
 | .tmp t => match env t with
  | some ([],s) => some s
  | _ => none
 | .cell x t => match env x with
  | some ([],.c (.bx i off)) => match own i with
   | some (.box ⟨.c _,_⟩ cells) => j0 P t cells off
   | _ => none
  | _ => none
def d7 (P : Program) (env : Env) (own : Own) : List ResultVar -> Option (List (Bool × List C))
 | [] => some []
 | r :: l => match oW P env own r with
  | some s => match partOf s,d7 P env own l with
   | some p,some q => some (p :: q)
   | _,_ => none
  | none => none
def jQ (P : Program) (env : Env) (own : Own) (fn : Func) : Option SV :=
 match fn.results.toList with
 | [r] => oW P env own r
 | l => match d7 P env own l with
  | some q => some (.tup q)
  | none => none
theorem aBR {env : Env} {own : Own} (h : Ok fr n env own a w pl) {r : ResultVar} {s : SV} (hr : oW P env own r = some s) : ∃ v,(Eng.resRun a.tmps r).run P w = .ok v w /\ aV w pl own s v := by
 cases r with
 | tmp t =>
  simp only [oW] at hr
  split at hr
  rename_i s' hf
  simp only [oIQ] at hr
  subst hr
  exact ⟨_,by simp [Eng.resRun],h.yes t [] _ hf holds_nil⟩
  cases hr
 | cell x t =>
  simp only [oW] at hr
  split at hr
  rename_i i off hf
  split at hr
  rename_i ty cells ho
  obtain ⟨_,hv⟩ := h.yes x [] _ hf holds_nil
  obtain ⟨vs,hb,h2⟩ := h.mem.obj i _ ho
  obtain ⟨v,hv2,hok⟩ := fG hr (iH h2)
  rw [Nat.zero_add] at hv2
  have hl := Eng.run_loadB hv2 hb
  simp only [Instr.loadAt,Instr.sureAddr,Sem.run_bind,Sem.run_pure,an] at hl
  exact ⟨v,by simp [Eng.resRun,hv,asAddr,hl],hok⟩
  cases hr
  cases hr
theorem oZ {env : Env} {own : Own} (h : Ok fr n env own a w pl) : ∀ {l : List ResultVar} {q : List (Bool × List C)},d7 P env own l = some q -> ∃ vs : List Value,(l.mapM (Eng.resRun a.tmps)).run P w = .ok vs w /\ All2 (cZ w pl own) q vs
 | [],q,hq => by simp only [d7,oIQ] at hq; subst hq; exact ⟨[],by simp,All2.nil⟩
 | r :: l,q,hq => by
  simp only [d7] at hq
  split at hq
  rename_i s hs
  split at hq
  rename_i p q' hp hq'
  simp only [oIQ] at hq
  subst hq
  obtain ⟨v,h1,h2⟩ := aBR h hs
  obtain ⟨vs,h3,h4⟩ := oZ h hq'
  exact ⟨v :: vs,by simp [h1,h3],All2.cons (vG hp h2) h4⟩
  cases hq
  cases hq
theorem rJ {env : Env} {own : Own} {fn : Func} (h : Ok fr n env own a w pl) {s : SV} (hs : jQ P env own fn = some s) : ∃ v,(results fn a.tmps).run P w = .ok v w /\ aV w pl own s v := by
 rw [Eng.results_eq]
 have hmm : (fn.results.mapM (Eng.resRun a.tmps)) = (do let vs <- fn.results.toList.mapM (Eng.resRun a.tmps); pure vs.toArray) := by
  rw [Array.mapM_eq_mapM_toList]
  rfl
 rw [hmm]
 unfold jQ at hs
 split at hs
 rename_i r hr
 obtain ⟨v,h1,h2⟩ := aBR h hs
 refine ⟨v,?_,h2⟩
 rw [hr]
 simp [h1]
 rename_i l hne
 split at hs
 rename_i q hq
 simp only [oIQ] at hs
 subst hs
 obtain ⟨vs,h1,h2⟩ := oZ h hq
 refine ⟨.tuple vs.toArray,?_,vs,rfl,h2⟩
 have hl : vs.length ≠ 1 := by
  intro h1'
  have hlen : ∀ (l : List ResultVar) (q : List (Bool × List C)),d7 P env own l = some q -> q.length = l.length := by
   intro l
   induction l with
   | nil => intro q h; simp only [d7,oIQ] at h; subst h; rfl
   | cons x r ih =>
    intro q h
    simp only [d7] at h
    split at h
    split at h
    rename_i p q' hp hq'
    simp only [oIQ] at h
    subst h
    simp [ih q' hq']
    cases h
    cases h
  have e1 := hlen _ _ hq
  have e2 := h2.1
  have e3 : fn.results.toList.length = 1 := by omega
  obtain ⟨r,hr⟩ := List.length_eq_one_iff.1 e3
  exact hne r hr
 simp [h1,hl]
 cases hs
end
def cR (env : Env) : List ResultVar -> List Nat
 | [] => []
 | .cell x _ :: r => match env x with
  | some ([],.c (.bx i _)) => i :: cR env r
  | _ => cR env r
 | _ :: r => cR env r
theorem oV {P : Program} {env : Env} {own own' : Own} {r : ResultVar} (h : ∀ i ∈ cR env [r],own i = own' i) : oW P env own r = oW P env own' r := by
 cases r with
 | tmp t => rfl
 | cell x t =>
  simp only [oW]
  split
  rename_i i off hx
  rw [h i (by simp [cR,hx])]
  rfl
theorem jU {P : Program} {env : Env} {own own' : Own} : ∀ {l : List ResultVar},(∀ i ∈ cR env l,own i = own' i) -> d7 P env own l = d7 P env own' l
 | [],_ => rfl
 | r :: l,h => by
  have h1 : ∀ i ∈ cR env [r],i ∈ cR env (r :: l) := by
   intro i hi
   cases r with
   | tmp t => simp [cR] at hi
   | cell x t =>
    simp only [cR] at hi ⊢
    split
    rename_i k off hx
    rw [hx] at hi
    simp only [List.mem_singleton] at hi
    simp [hi]
    rename_i hne
    split at hi
    rename_i k off hx; exact absurd hx (hne k off)
    cases hi
  have h2 : ∀ i ∈ cR env l,i ∈ cR env (r :: l) := by
   intro i hi
   cases r with
   | tmp t => exact hi
   | cell x t =>
    simp only [cR]
    split
    exact List.mem_cons_of_mem _ hi
    exact hi
  simp only [d7]
  rw [oV (own := own) (own' := own') fun i hi => h i (h1 i hi),jU fun i hi => h i (h2 i hi)]
theorem jP {P : Program} {env : Env} {own own' : Own} {fn : Func} (h : ∀ i ∈ cR env fn.results.toList,own i = own' i) : jQ P env own fn = jQ P env own' fn := by
 unfold jQ
 split
 rename_i r hr
 rw [hr] at h
 exact oV h
 rw [jU h]
def lU {P : Program} (df : List (EntD P)) : List Mk -> Tr Ob -> Option (Tr Ob × List (Nat × Ob))
 | [],own => some (own,[])
 | .mark i :: r,own => match own.get i with
  | some (.box ⟨.raw (.deferred (some [])),q⟩ []) => match aBL own [(i,.box ⟨.raw (.deferred none),q⟩ [])] with
   | some own1 => match lU df r own1 with
    | some (own2,us) => some (own2,us ++ [(i,.box ⟨.raw (.deferred none),q⟩ [])])
    | none => none
   | none => none
  | _ => none
 | .df f cap :: r,own => match aI7 df f with
  | some e => bif enters P f && Nat.beq cap.length e.ar then lU df r own else none
  | none => none
def k5 : List Mk -> List Nat
 | [] => []
 | .mark i :: r => i :: k5 r
 | .df _ _ :: r => k5 r
section
variable {P : Program} {G : List (Nat × List Value)} {fr : Fr}
theorem kR {df : List (EntD P)} {fn : Func} {tmps : Array Value} {R : Ending -> World -> Prop} {pl : Pl} : ∀ {mk : List Mk} {own own2 : Tr Ob} {us : List (Nat × Ob)},lU df mk own = some (own2,us) ->
  own2.get = bF us own.get /\ (∀ x ∈ keys us,x ∈ k5 mk) /\ ∀ (own0 : Own) (w : World),(∀ i ∈ k5 mk,own0 i = own.get i) -> Mem fr own0 w pl ->
   (∀ w',Mem fr (bF us own0) w' pl -> Later w pl own0 w' pl (bF us own0) -> LeavesInM Fence.wide 0 P fn tmps R [] .returning w') -> LeavesInM Fence.wide 0 P fn tmps R (mkD pl mk) .returning w
 | [],own,own2,us,h => by
  simp only [lU,oIQ,pIQ] at h
  obtain ⟨rfl,rfl⟩ := h
  exact ⟨rfl,fun x hx => by simp [keys] at hx,fun own0 w _ m hk => hk w m (Later.refl _ _ _)⟩
 | .df f cap :: r,own,own2,us,h => by
  simp only [lU] at h
  split at h
  rename_i e he
  cases hen : (enters P f && Nat.beq cap.length e.ar) with
  | false => rw [hen] at h; cases h
  | true =>
   rw [hen] at h
   simp only [cond_true] at h
   simp only [bIQ,lA] at hen
   obtain ⟨a1,a2,a3⟩ := kR (fn := fn) (tmps := tmps) (R := R) (pl := pl) h
   refine ⟨a1,a2,fun own0 w hag m hk => ?_⟩
   have hef := aMD he
   subst hef
   refine ⟨by simp,.inr ⟨fun h => (by cases h),.func e.f,(cap.map (adV pl)).toArray,e.f,(#[] ++ (cap.map (adV pl)).toArray),rfl,by simp only [Mk.d,invoke]; exact iC hen.1 _,fun _ _ => trivial,?_⟩⟩
   obtain ⟨hF,hd⟩ := e.ok (#[] ++ (cap.map (adV pl)).toArray) w (by simpa using hen.2)
   refine ⟨hF,fun c cs hu hroom => ?_⟩
   obtain ⟨en,u',w',frX,hR,hsteps⟩ := hd c cs hu hroom
   obtain ⟨v,rfl,rfl,hg⟩ := hR
   refine ⟨.returned v,.returning,w',frX,?_,hsteps⟩
   show LeavesInM Fence.wide 0 P fn tmps R (mkD pl r) (settle .returning) w'
   obtain ⟨m',L⟩ := m.ext hg
   exact a3 own0 w' hag m' fun w2 m2 L2 => hk w2 m2 (L.trans L2)
  cases h
 | .mark i :: r,own,own2,us,h => by
  simp only [lU] at h
  split at h
  rename_i q hi
  split at h
  rename_i own1 hs
  split at h
  rename_i own3 us3 hc
  simp only [oIQ,pIQ] at h
  obtain ⟨rfl,rfl⟩ := h
  have hg := jM hs
  simp only [aY] at hg
  obtain ⟨a1,a2,a3⟩ := kR (fn := fn) (tmps := tmps) (R := R) (pl := pl) hc
  refine ⟨by rw [a1,hg,bP]; rfl,fun x hx => ?_,fun own0 w hag m hk => ?_⟩
  simp only [keys,List.map_append,List.mem_append,mp1,List.map_nil,List.mem_singleton] at hx
  simp only [k5]
  rcases hx with hx | hx
  exact List.mem_cons_of_mem _ (a2 x hx)
  simp [hx]
  have ho : own0 i = some (.box ⟨.raw (.deferred (some [])),q⟩ []) := by rw [hag i (by simp [k5])]; exact hi
  obtain ⟨vs,hh,_⟩ := m.obj i _ ho
  have hh : w.heap[pl.blk i]? = some (.deferred (some [])) := hh
  obtain ⟨m5,L5⟩ := m.turnObjO (ty' := ⟨.raw (.deferred none),q⟩) (cells' := []) (vs' := []) ho rfl All2.nil (x := .deferred none) rfl
  refine ⟨by simp,.inl ⟨pl.blk i,_,rfl,run_takeDeferred hh,?_⟩⟩
  refine a3 _ _ (fun j hj => ?_) m5 (fun w' m' L' => ?_)
  rw [hg]
  by_cases hji : j = i
  subst hji; rw [upd_same,upd_same]
  rw [upd_ne _ _ hji,upd_ne _ _ hji]; exact hag j (by simp [k5,hj])
  have e : bF us3 (upd own0 i (.box ⟨.raw (.deferred none),q⟩ [])) = bF (us3 ++ [(i,.box ⟨.raw (.deferred none),q⟩ [])]) own0 := by rw [bP]; rfl
  rw [e] at m' L'
  exact hk w' m' (L5.trans L')
  cases h
  cases h
  cases h
def z8 : Nat -> List SV -> Tr SV
 | _,[] => .e
 | k,s :: r => Tr.put (some s) 40 (z8 (k + 1) r) k
theorem sM : ∀ {l : List SV} {k t : Nat} {sv : SV},few (k + l.length) = true -> (z8 k l).get t = some sv -> ∃ i,t = k + i /\ l[i]? = some sv
 | [],k,t,sv,_,h => by simp [z8,Tr.get] at h
 | s :: r,k,t,sv,hf,h => by
  simp only [z8] at h
  have hk : few k = true := by
   simp only [few,Nat.ble_eq] at hf ⊢
   simp only [lc] at hf
   omega
  rw [Tr.get_put40 hk] at h
  split at h
  rename_i ht
  simp only [oIQ] at h
  exact ⟨0,by omega,by simp [h]⟩
  obtain ⟨i,h1,h2⟩ := sM (by rw [show k + 1 + r.length = k + (s :: r).length by simp; omega]; exact hf) h
  exact ⟨i + 1,by omega,by simpa using h2⟩
def Ex.isEx : Ex -> Bool
 | .exit _ => true
 | _ => false
def runX {P : Program} {G : List (Nat × List Value)} (E : Exe P G) (F : Nat) : Step := fun k f svs own =>
 match P.funcs[f]? with
 | some fn => match fn.body with
  | some c => bif Nat.ble svs.length fn.ntmps && few fn.ntmps then (match evC E none fn.ntmps F c ⟨z8 0 svs,own,k,[],[],[],[]⟩ with
   | some (e,st) => bif Ex.isEx e then none else (match lU E.df st.mks st.own with
    | some (own2,us) => match jQ P (bE [] st.env) own2.get fn with
     | some s => some ⟨s,(us ++ st.U).reverse,cR (bE [] st.env) fn.results.toList ++ (k5 st.mks ++ st.T),own2,st.k,st.cs⟩
     | none => none
    | none => none)
   | none => none) else none
  | none => none
 | none => none
theorem runX_ok {E : Exe P G} (hE : ExeOk E) (hm : P.follows .mixedOrders = true) (F : Nat) : aND P G (runX E F) := by
 intro k f svs own r h
 unfold runX at h
 split at h
 rename_i fn hfn
 split at h
 rename_i c hb
 cases hchk : (Nat.ble svs.length fn.ntmps && few fn.ntmps) with
 | false => rw [hchk] at h; cases h
 | true =>
  rw [hchk] at h
  simp only [cond_true] at h
  simp only [bIQ,Nat.ble_eq] at hchk
  obtain ⟨hle,hfew⟩ := hchk
  split at h
  rename_i e st hev
  cases hex : Ex.isEx e with
  | true => rw [hex] at h; cases h
  | false =>
   rw [hex] at h
   simp only [cond_false] at h
   split at h
   rename_i own2 us hcl
   split at h
   rename_i s hret
   simp only [oIQ] at h
   subst h
   obtain ⟨dT,dU,dC,a1,a2,a3,a4,a5,a6⟩ := (s7 hE hm F c e _ st hev).dl
   simp only [List.append_nil] at a1 a2 a3
   subst a1
   have hU := a2
   subst a2
   subst a3
   obtain ⟨b1,b2,_⟩ := kR (fr := { w0 := default,X := [],G := [],F := fun _ => False }) (P := P) (fn := fn) (tmps := #[]) (R := fun _ _ => True) (pl := ⟨fun _ => False,fun _ => 0,fun _ => (none,0)⟩) hcl
   refine ⟨by rw [b1,a4,<- bP,<- c7,List.reverse_reverse],fun x hx => ?_,fun fr own0 w pl vals hG hc ht m hv => ?_⟩
   simp only [keys,List.map_reverse,List.map_append,List.mem_reverse,List.mem_append] at hx ⊢
   rcases hx with hx | hx
   exact .inr (.inl (b2 x hx))
   exact .inr (.inr (a5 x hx))
   have ht : ∀ i,i ∈ cR (bE [] st.env) fn.results.toList \/ i ∈ k5 st.mks \/ i ∈ st.T -> own0 i = own.get i := fun i hi => ht i (by simpa using hi)
   have hfn' : (fn.ntmps = fn.ntmps) := rfl
   refine callsIn_wide.1 (callsIn_of_wp_marks (n := 0) hfn hb trivial (wpIn_wide.2 ?_))
   show (bB P).wp c _ _ w
   have hlen : vals.length = svs.length := hv.1.symm
   refine cU (a6 (bB P) { fr with lat := [(w,pl,own0)],free := false } own0 _ w pl (bodyPostM Fence.wide 0 P fn _) rfl hG hc (fun i hi => ht i (.inr (.inr hi))) ⟨⟨m.to _ _,fun _ => rfl,?_,?_,?_,⟨?_,fun hf => by cases hf⟩⟩,fun i hi => by cases hi⟩ ?_)
   simp; omega
   intro t p sv hfd _
   simp only [bE,aL,me,pIQ] at hfd
   obtain ⟨s',hs',_,rfl⟩ := hfd
   obtain ⟨i,rfl,hi⟩ := sM (by
    simp only [few,Nat.ble_eq] at hfew ⊢
    omega) hs'
   obtain ⟨v,hvi,hok⟩ := hv.get hi
   have hlt := (gsQ.1 hvi).1
   simp only [Nat.zero_add,Array.getD_eq_getD_getElem?]
   rw [Array.getElem?_append_left (by simpa using hlt)]
   simp [hvi]
   exact hok
   intro t p sv hfd hh
   simp only [bE,aL,me,pIQ] at hfd
   obtain ⟨_,_,rfl,_⟩ := hfd
   exact absurd holds_nil hh
   intro q hq
   simp only [List.mem_singleton] at hq
   subst hq
   exact Later.refl _ _ _
   intro a' w' pl' hok
   obtain ⟨_,_,c3⟩ := kR (fr := fr) (P := P) (fn := fn) (tmps := a'.tmps) (R := fun e w' => ∃ v pl',e = .returned v /\ Mem fr (aY own0 (us ++ st.U).reverse) w' pl' /\ Later w pl own0 w' pl' (aY own0 (us ++ st.U).reverse) /\ aV w' pl' (aY own0 (us ++ st.U).reverse) s v) (pl := pl') hcl
   have hownU : ∀ i,i ∈ cR (bE [] st.env) fn.results.toList \/ i ∈ k5 st.mks \/ i ∈ st.T -> bF st.U own0 i = st.own.get i := fun i hi => by rw [a4]; exact eR _ (ht i hi)
   have fin := c3 (bF st.U own0) w' (fun i hi => hownU i (.inr (.inl hi))) (Mem.of (fr := fr) (ds := fr.ds) hok.ok.mem.of) (fun w2 m2 L2 => by
    have ok2 := hok.ok.later (m2.to _ _) L2
    have e0 : bF us (bF st.U own0) = aY own0 (us ++ st.U).reverse := by rw [<- bP,<- c7,List.reverse_reverse]
    rw [e0] at ok2 m2 L2
    have hr2 : jQ P (bE [] st.env) (aY own0 (us ++ st.U).reverse) fn = some s := by
     rw [<- hret]
     refine jP fun i hi => ?_
     rw [<- e0,b1]
     exact eR _ (hownU i (.inl hi))
    obtain ⟨v,h1,h2⟩ := rJ ok2 hr2
    exact ⟨v,h1,v,pl',rfl,m2,ok2.late.1 (w,pl,own0) (by simp),h2⟩)
   have hdd : a'.defers = mkD pl' st.mks := hok.ok.defers rfl
   cases e with
   | normal => show LeavesInM Fence.wide 0 P fn a'.tmps _ a'.defers .returning w'; rw [hdd]; exact fin
   | exit id => cases hex
   | ret => show LeavesInM Fence.wide 0 P fn a'.tmps _ a'.defers .returning w'; rw [hdd]; exact fin
   cases h
   cases h
  cases h
 cases h
 cases h
end
end Go.V
namespace Go.V
open Go.RowKit
def aKQ {α : Type} : List (Nat × α) -> Tr α -> Tr α
 | [],t => t
 | (i,x) :: r,t => aKQ r (Tr.put (some x) 40 t i)
section
variable {P : Program} {G : List (Nat × List Value)}
theorem aBX {w : World} {pl : Pl} {own : Own} : ∀ {l : List (Nat × SV)} {vals : List Value} {tr : Tr SV} {tm : Array Value},All2 (aV w pl own) (l.map (·.2)) vals -> (∀ x ∈ l,few x.1 = true /\ x.1 < tm.size) -> (∀ t s,tr.get t = some s -> aV w pl own s (tm.getD t undef)) ->
  ∀ t s,(aKQ l tr).get t = some s -> aV w pl own s ((((l.map (·.1)).zip vals).foldl (fun tm (x : Nat × Value) => tm.setIfInBounds x.1 x.2) tm).getD t undef)
 | [],vals,tr,tm,_,_,h,t,s,hs => by simpa using h t s hs
 | (i,x) :: r,vals,tr,tm,hv,hf,h,t,s,hs => by
  obtain ⟨y,ys,rfl,h1,h2⟩ := hv.uncons
  obtain ⟨hfi,hlt⟩ := hf (i,x) (by simp)
  refine aBX (l := r) (vals := ys) (tr := Tr.put (some x) 40 tr i) (tm := tm.setIfInBounds i y) h2 (fun z hz => by
   obtain ⟨a,b⟩ := hf z (by simp [hz])
   exact ⟨a,by simpa using b⟩) (fun u su hu => ?_) t s hs
  rw [Tr.get_put40 hfi] at hu
  by_cases hui : u = i
  ·subst hui
   simp only [if_true,oIQ] at hu
   subst hu
   simp only [Array.getD_eq_getD_getElem?,Array.getElem?_setIfInBounds,if_true]
   have hlt : u < tm.size := hlt
   rw [if_pos hlt]
   exact h1
  ·rw [if_neg hui] at hu
   simp only [Array.getD_eq_getD_getElem?,Array.getElem?_setIfInBounds,if_neg (Ne.symm hui)]
   rw [<- Array.getD_eq_getD_getElem?]
   exact h u su hu
def aF3 (T : List (Ent P G)) (ne : List (NE P)) (df : List (EntD P)) (orc : Nat -> Option Bool) (lit : Nat -> Option Value) (F : Nat) (hnt : Nat -> Option (List D)) : Nat -> Exe P G
 | 0 => ⟨T,ne,df,orc,lit,fun _ _ _ _ => none,fun _ _ _ _ => none,hnt⟩
 | d + 1 => ⟨T,ne,df,orc,lit,runX (aF3 T ne df orc lit F hnt d) F,(fun _ _ _ _ => none),hnt⟩
theorem qX {T : List (Ent P G)} {ne : List (NE P)} {df : List (EntD P)} {orc : Nat -> Option Bool} {lit : Nat -> Option Value} {F : Nat} {hnt : Nat -> Option (List D)} (hm : P.follows .mixedOrders = true) : ∀ d,ExeOk (aF3 T ne df orc lit F hnt d)
 | 0 => ⟨(by intro k f svs own r h; cases h),(by intro k f svs own r h; cases h)⟩
 | d + 1 => ⟨runX_ok (qX hm d) hm F,(by intro k f svs own r h; cases h)⟩
def topX (T : List (Ent P G)) (ne : List (NE P)) (df : List (EntD P)) (orc : Nat -> Option Bool) (lit : Nat -> Option Value) (F d : Nat) (f : FuncId) (ins : List SV) (hnt : Nat -> Option (List D) := fun _ => none) : Option (SV × List Prop) :=
 match (aF3 T ne df orc lit F hnt (d + 1)).call 100 f ins .e with
 | some r => some (uP r.own.get (fun _ => false) r.sv,r.cs)
 | none => none
theorem specXH {T : List (Ent P G)} {ne : List (NE P)} {df : List (EntD P)} (orc : Nat -> Option Bool) (lit : Nat -> Option Value) (hnt : Nat -> Option (List D)) {F d : Nat} {f : FuncId} {ins : List SV} {out : SV} {cs : List Prop} (hm : P.follows .mixedOrders = true) (h : topX T ne df orc lit F d f ins hnt = some (out,cs)) (hc : conj cs) : Spec P G f ins [] out [] := by
 unfold topX at h
 split at h
 rename_i r hr
 simp only [oIQ,pIQ] at h
 obtain ⟨rfl,rfl⟩ := h
 obtain ⟨c1,c2,c3⟩ := (qX (T := T) (ne := ne) (df := df) (orc := orc) (lit := lit) (F := F) (hnt := hnt) hm (d + 1)).call _ _ _ _ _ hr
 intro fr w pl args hw hG m ha
 have hE : lookO [] = (Tr.e : Tr Ob).get := by funext i; rfl
 have hX : ∀ i b,(i,b) ∉ fr.X := by
  intro i b hib
  rcases m.bor i b hib with ⟨_,_,h,_⟩ | ⟨_,_,_,_,h⟩ <;> cases h
 refine (c3 fr (lookO []) w pl args hG.G hc (fun i _ => by rw [hE]) m ha).mono ?_
 rintro e w' ⟨v,pl',rfl,m',L,hs⟩
 rw [hE,<- c1] at m' hs
 have hk : bO r.own.get (fun _ => false) = lookO [] := by funext i; simp [bO,lookO]
 refine ⟨v,pl',rfl,?_,?_⟩
 rw [<- hk]; exact kN m' fun i b h => absurd h (hX i b)
 rw [<- hk]; exact tC m' (fun i b h => absurd h (hX i b)) hs
 cases h
theorem aF {T : List (Ent P G)} {ne : List (NE P)} {df : List (EntD P)} (orc : Nat -> Option Bool) (lit : Nat -> Option Value) {F d : Nat} {f : FuncId} {ins : List SV} {out : SV} {cs : List Prop} (hm : P.follows .mixedOrders = true) (h : topX T ne df orc lit F d f ins = some (out,cs)) (hc : conj cs) : Spec P G f ins [] out [] := specXH orc lit nFQ hm h hc
end
end Go.V
namespace Go.V
open Go.RowKit
def aL3 (l : List Nat) (j : Nat) : Bool := l.any (Nat.beq j)
def nodupB : List Nat -> Bool
 | [] => true
 | x :: r => !(aL3 r x) && nodupB r
theorem hasN_iff {l : List Nat} {j : Nat} : aL3 l j = true ↔ j ∈ l := by
 unfold aL3
 rw [List.any_eq_true]
 constructor
 rintro ⟨x,hx,h⟩; rw [Nat.eq_of_beq_eq_true h]; exact hx
 intro h; exact ⟨j,h,Nat.beq_refl j⟩
theorem nX : ∀ {l : List Nat},nodupB l = true -> l.Nodup
 | [],_ => List.nodup_nil
 | x :: r,h => by
  simp only [nodupB,bIQ,Bool.not_eq_true'] at h
  refine List.nodup_cons.2 ⟨fun hx => ?_,nX h.2⟩
  rw [hasN_iff.2 hx] at h
  cases h.1
section
variable {P : Program} {G : List (Nat × List Value)}
end
def lI (dp : C -> Option D) (ov : List (Nat × C)) : Nat -> LD -> Option (LD)
 | _,[] => some []
 | j,[d] :: r => match lI dp ov (j + 1) r with
  | some r' => match ov.lookup j with
   | some c => match dp c with
    | some d' => some ([d'] :: r')
    | none => none
   | none => some ([d] :: r')
  | none => none
 | _,_ => none
def wA (own : Own) : Nat -> C -> Option D
 | 0,_ => none
 | f + 1,c => match c with
  | .d x => some x
  | .ar i k => match own i with
   | some (.arr k' e sz es) => bif Nat.beq k' k then (match e.ov with
    | [] => some (.sl sz es)
    | x :: r => bif Nat.beq sz 1 && !(mkd (x :: r)) then (match lI (wA own f) (x :: r) 0 es with
     | some es' => some (.sl 1 es')
     | none => none) else none) else none
   | _ => none
  | _ => none
theorem vF {dp : C -> Option D} {ov : List (Nat × C)} : ∀ {es es' : LD} {j : Nat},lI dp ov j es = some es' -> es'.length = es.length /\ es'.flatten.length = es.flatten.length /\ (∀ ds ∈ es',ds.length = 1) /\
  ∀ q d',es'.flatten[q]? = some d' -> ∃ d,es.flatten[q]? = some d /\ ((∃ c,ov.lookup (j + q) = some c /\ dp c = some d') \/ (ov.lookup (j + q) = none /\ d' = d))
 | [],es',j,h => by
  simp only [lI,oIQ] at h
  subst h
  simp
 | [] :: r,es',j,h => by simp [lI] at h
 | (_ :: _ :: _) :: r,es',j,h => by simp [lI] at h
 | [d] :: r,es',j,h => by
  simp only [lI] at h
  split at h
  rename_i r' hr
  obtain ⟨a1,a2,a3,a4⟩ := vF hr
  have tail : ∀ (y : D) q d',([y] :: r').flatten[q + 1]? = some d' -> ∃ x,([d] :: r).flatten[q + 1]? = some x /\ ((∃ c,ov.lookup (j + (q + 1)) = some c /\ dp c = some d') \/ (ov.lookup (j + (q + 1)) = none /\ d' = x)) := by
   intro y q d' hq
   obtain ⟨x,hx,hc⟩ := a4 q d' (by simpa using hq)
   exact ⟨x,by simpa using hx,by rw [show j + (q + 1) = j + 1 + q by omega]; exact hc⟩
  split at h
  rename_i c hc
  split at h
  rename_i d1 hd
  simp only [oIQ] at h
  subst h
  refine ⟨by simp [a1],by simp [a2],fun ds hds => ?_,fun q d' hq => ?_⟩
  rcases mc.1 hds with rfl | hds
  rfl
  exact a3 ds hds
  cases q with
  | zero =>
   simp only [List.flatten_cons,List.cons_append,cz,oIQ] at hq
   subst hq
   exact ⟨d,by simp,.inl ⟨c,hc,hd⟩⟩
  | succ q => exact tail _ q d' hq
  cases h
  rename_i hc
  simp only [oIQ] at h
  subst h
  refine ⟨by simp [a1],by simp [a2],fun ds hds => ?_,fun q d' hq => ?_⟩
  rcases mc.1 hds with rfl | hds
  rfl
  exact a3 ds hds
  cases q with
  | zero =>
   simp only [List.flatten_cons,List.cons_append,cz,oIQ] at hq
   subst hq
   exact ⟨d,by simp,.inr ⟨hc,rfl⟩⟩
  | succ q => exact tail _ q d' hq
  cases h
theorem aD0 {fr : Fr} {own : Own} {w : World} {pl : Pl} (m : Mem fr own w pl) (hX : ∀ i b,(i,b) ∉ fr.X) : ∀ {f : Nat} {c : C} {d : D} {v : Value},wA own f c = some d -> COk w pl own c v -> Rd w (Sh pl (lookO [])) d v
 | 0,c,d,v,h,_ => by cases h
 | f + 1,c,d,v,h,hv => by
  have T : ∀ d v,Rd w (Sh pl own) d v -> Rd w (Sh pl (lookO [])) d v := fun d v h => Rd.frame (fun _ _ _ => rfl) (fun _ _ h => ⟨h.1,fun j hj => by simp [aM,lookO] at hj⟩) h
  cases c with
  | d x =>
   simp only [wA,oIQ] at h
   subst h
   exact T _ _ hv
  | ar i k =>
   simp only [wA] at h
   obtain ⟨k',e,sz,es,ho,hkk,hw,h1⟩ := hv
   rw [ho] at h
   simp only at h
   cases hb : Nat.beq k' k with
   | false => rw [hb] at h; cases h
   | true =>
    rw [hb] at h
    simp only [cond_true] at h
    have hk := Nat.eq_of_beq_eq_true hb
    have hblk : ∀ b,(pl.sl i).1.map (·.block) = some b -> Sh pl (lookO []) b := by
     intro b hbb
     have hbi : aM pl own i = some b := by simp only [aM,ho]; exact hbb
     refine ⟨?_,fun j hj => by simp [aM,lookO] at hj⟩
     rcases m.base i b hbi with h2 | h2
     ·exact (m.hS b).2 (.inr h2)
     ·exact absurd h2 (hX i b)
    obtain ⟨e,ov⟩ := e
    split at h
    ·rename_i hov
     have hov : ov = [] := hov
     subst hov
     simp only [oIQ] at h
     subst h
     rw [hw hk]
     exact oM (m.obj i _ ho) hblk T
    ·rename_i x r hov
     have hov : ov = x :: r := hov
     subst hov
     cases hz : (Nat.beq sz 1 && !(mkd (x :: r))) with
     | false => rw [hz] at h; cases h
     | true =>
      rw [hz] at h
      rw [bIQ,Bool.not_eq_true'] at hz
      obtain ⟨hz,hmk⟩ := hz
      have hz := Nat.eq_of_beq_eq_true hz
      subst hz
      simp only [cond_true] at h
      split at h
      ·rename_i es' hp
       simp only [oIQ] at h
       subst h
       obtain ⟨a1,a2,a3,a4⟩ := vF hp
       obtain ⟨xs,hx,hr,hs⟩ := m.obj i _ ho
       rw [hw hk,<- a1]
       rw [<- a1] at hx
       have hx : ownsQ (mkd (x :: r)) w 0 e 1 (.slice (pl.sl i).1 es'.length (pl.sl i).2) es'.length xs := hx
       rw [hmk] at hx
       refine nS hx hblk ⟨by rw [a2]; exact hr.1,fun q d' u hd hu => ?_⟩ a3
       obtain ⟨d0,hd0,hc⟩ := a4 q d' hd
       have hq := hr.2 q d0 u hd0 hu
       rw [Nat.zero_add] at hc
       rcases hc with ⟨c,hl,hdp⟩ | ⟨hl,rfl⟩
       ·have hq : COk w pl own c u := by
         have := hq
         rw [hl] at this
         exact this
        exact aD0 m hX hdp hq
       ·rw [hl] at hq
        exact T _ _ hq
      ·cases h
  | _ => simp [wA] at h
section
variable {P : Program} {G : List (Nat × List Value)}
def topD (T : List (Ent P G)) (ne : List (NE P)) (df : List (EntD P)) (orc : Nat -> Option Bool) (lit : Nat -> Option Value) (F d : Nat) (f : FuncId) (ins : List SV) : Option (SV × List Prop) :=
 match (aF3 T ne df orc lit F nFQ (d + 1)).call 100 f ins .e with
 | some r => match r.sv with
  | .c c => match wA r.own.get 20 c with
   | some x => some (.c (.d x),r.cs)
   | none => none
  | _ => none
 | none => none
theorem specXD {T : List (Ent P G)} {ne : List (NE P)} {df : List (EntD P)} (orc : Nat -> Option Bool) (lit : Nat -> Option Value) {F d : Nat} {f : FuncId} {ins : List SV} {out : SV} {cs : List Prop} (hm : P.follows .mixedOrders = true) (h : topD T ne df orc lit F d f ins = some (out,cs)) (hc : conj cs) : Spec P G f ins [] out [] := by
 unfold topD at h
 split at h
 rename_i r hr
 split at h
 rename_i c hsv
 split at h
 rename_i x hx
 simp only [oIQ,pIQ] at h
 obtain ⟨rfl,rfl⟩ := h
 obtain ⟨c1,c2,c3⟩ := (qX (T := T) (ne := ne) (df := df) (orc := orc) (lit := lit) (F := F) (hnt := fun _ => none) hm (d + 1)).call _ _ _ _ _ hr
 intro fr w pl args hw hG m ha
 have hE : lookO [] = (Tr.e : Tr Ob).get := by funext i; rfl
 have hX : ∀ i b,(i,b) ∉ fr.X := by
  intro i b hib
  rcases m.bor i b hib with ⟨_,_,h,_⟩ | ⟨_,_,_,_,h⟩ <;> cases h
 refine (c3 fr (lookO []) w pl args hG.G hc (fun i _ => by rw [hE]) m ha).mono ?_
 rintro e w' ⟨v,pl',rfl,m',L,hs⟩
 rw [hE,<- c1] at m' hs
 have hk : bO r.own.get (fun _ => false) = lookO [] := by funext i; simp [bO,lookO]
 refine ⟨v,pl',rfl,?_,?_⟩
 rw [<- hk]; exact kN m' fun i b h => absurd h (hX i b)
 rw [hsv] at hs
 exact aD0 m' hX hx hs
 cases h
 cases h
 cases h
end
end Go.V
