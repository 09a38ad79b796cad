/- Part 24 of the proof. -/
import Derived.Test.YtgpedhfdniigoaaGreatDoorP23
import Derived.Sort.LoopGhostIn
set_option linter.all false
namespace Go.V
open Go.RowKit
structure St where
 env : cO
 own : bR
def OkS (fr : Fr) (n : Nat) (st : St) (a : Act) (w : World) : Prop := ∃ pl,Ok fr n (aL st.env) (lookO st.own) a w pl
def rO (env : cO) : Bool := env.all fun e => e.2.1.isEmpty
theorem aBY {env : cO} (h : rO env = true) : ∀ u q sv,aL env u = some (q,sv) -> q = [] := by
 intro u q sv hf
 induction env with
 | nil => simp [aL] at hf
 | cons e r ih =>
  simp only [rO,List.all_cons,bIQ] at h
  simp only [aL] at hf
  split at hf
  simp only [oIQ] at hf
  have h1 := h.1
  rw [hf] at h1
  simpa using h1
  exact ih h.2 hf
def bare (env : cO) (u : Nat) : Bool := match aL env u with
 | some ([],_) => true
 | _ => false
theorem oD {g : Nat -> Bool} : ∀ {env : cO} {u : Nat} {x : Path × SV},aL (env.filter (fun e => g e.1)) u = some x -> aL env u = some x
 | [],u,x,h => by simp [aL] at h
 | e :: r,u,x,h => by
  simp only [List.filter_cons] at h
  by_cases hg : g e.1 = true
  rw [if_pos hg] at h
  simp only [aL] at h ⊢
  split
  rename_i he; rw [if_pos he] at h; exact h
  rename_i he; rw [if_neg he] at h; exact oD h
  rw [if_neg hg] at h
  simp only [aL]
  split
  rename_i he
  simp only [beq_iff_eq] at he
  exfalso
  have : ∀ (r : cO),aL (r.filter (fun e => g e.1)) u = none := by
   intro r
   induction r with
   | nil => rfl
   | cons y ys ih =>
    simp only [List.filter_cons]
    split
    rename_i hy
    simp only [aL]
    split
    rename_i hyu; simp only [beq_iff_eq] at hyu; rw [hyu,<- he] at hy; exact absurd hy hg
    exact ih
    exact ih
  rw [this r] at h
  cases h
  exact oD h
def regE (P : Program) (G : List (Nat × List Value)) (n rid : Nat) (ops : Array Oper) (draw : Bool) (hs : dM) (st : St) : Option (St × List Prop) :=
 if rO st.env then
  match mF P G n rid ops hs 0 ops.toList st.env st.own with
  | some (rs,env',own',cs) => if okT rs && (!draw || (okA 0 rs (bef ops) && fI 0 ops.toList)) then some (⟨env'.filter (fun e => bare env' e.1),own'⟩,cs) else none
  | none => none
 else none
section
variable {P : Program} {fr : Fr} {n rid : Nat} {Q : Exit -> Act -> World -> Prop} {ops : Array Oper} {hs : dM}
theorem zT {env env' : Env} {own : Own} {a : Act} {w : World} {pl : Pl} (h : Ok fr n env own a w pl) (he : ∀ u q sv,env' u = some (q,sv) -> env u = some (q,sv)) : Ok fr n env' own a w pl :=
 ⟨h.mem,h.defers,h.size,fun t p sv hf => h.yes t p sv (he t p sv hf),fun t p sv hf => h.no t p sv (he t p sv hf),h.late⟩
theorem aBV {env : cO} {own : bR} {rs : List Rec} {env' : cO} {own' : bR} {cs : List Prop} (h : mF P fr.G n rid ops hs 0 ops.toList env own = some (rs,env',own',cs)) (hc : conj cs) {i : Nat} (hi : i < ops.size) : ∃ r,rs[i]? = some r := by
 obtain ⟨h1,_⟩ := gM h hc
 exact ⟨rs[i]'(by rw [h1]; simpa using hi),ge _⟩
theorem aH5 {K : Act -> World -> Prop} {env : cO} {own : bR} {rs : List Rec} {env' : cO} {own' : bR} {cs : List Prop} (h : mF P fr.G n rid ops hs 0 ops.toList env own = some (rs,env',own',cs)) (hc : conj cs) (henv : ∀ u q sv,aL env u = some (q,sv) -> q = []) (hT : okT rs = true)
  (hQ : ∀ a w pl,Ok fr n (aL env') (lookO own') a w pl -> K a w) : ∀ (m i : Nat),i + m = ops.size -> ∀ a w pl,Ok fr n (cA rs (fun j => decide (j < i)) 0 (aL env)) (bW rs (fun j => decide (j < i)) 0 (lookO own)) a w pl -> dR P ops K (List.range' i m) a w := by
 intro m
 obtain ⟨h1,h2,h3,h4⟩ := gM h hc
 induction m with
 | zero =>
  intro i hi a w pl hok
  simp only [List.range'_zero,dR]
  refine hQ a w pl ?_
  have hlt : ∀ j r,rs[j]? = some r -> (0 + j) < i := by
   intro j r hj
   have := (gsQ.1 hj).1
   rw [h1] at this
   simp at this
   omega
  have e1 : cA rs (fun j => decide (j < i)) 0 (aL env) = aL env' := by
   rw [h2]
   funext u
   exact dB rs _ _ 0 _ _ u rfl (fun j r hj _ => decide_eq_true (hlt j r hj))
  have e2 : bW rs (fun j => decide (j < i)) 0 (lookO own) = lookO own' := by
   rw [h3]
   funext u
   exact c8 rs _ _ 0 _ _ u rfl (fun j r hj _ => decide_eq_true (hlt j r hj))
  rw [<- e1,<- e2]
  exact hok
 | succ m ih =>
  intro i hi a w pl hok
  rw [List.range'_succ,dR]
  obtain ⟨r,hr⟩ := aBV h hc (i := i) (by omega)
  refine aGQ h hc henv hr (D := fun j => decide (j < i)) (by simp) (fun j b hj _ _ => by simpa using hj) (fun j b hj _ _ => by simp; omega) (fun j b hj hb => ?_) hok (fun a' w' pl' hok' => ?_)
  have := mS hT hb hr hj
  unfold lL at this
  cases hd : r.dst with
  | none => rfl
  | some t =>
   rw [hd] at this
   simp only [Option.any_some]
   simpa using this
  have e : cE (fun j => decide (j < i)) i = fun j => decide (j < i + 1) := by
   funext j
   by_cases hj : j = i
   subst hj; simp [cE]
   simp only [cE,if_neg hj]
   congr 1
   simp only [eq_iff_iff]
   omega
  rw [e] at hok'
  exact ih (i + 1) (by omega) a' w' pl' hok'
theorem aM3 {K : Act -> World -> Prop} {env : cO} {own : bR} {rs : List Rec} {env' : cO} {own' : bR} {cs : List Prop} (h : mF P fr.G n rid ops hs 0 ops.toList env own = some (rs,env',own',cs)) (hc : conj cs) (henv : ∀ u q sv,aL env u = some (q,sv) -> q = []) (hT : okT rs = true) (hA : okA 0 rs (bef ops) = true) (hE : fI 0 ops.toList = true)
  (hQ : ∀ a w pl,Ok fr n (aL env') (lookO own') a w pl -> K a w) : ∀ (fuel : Nat) (listed : Array Bool),listed.size = ops.size -> (List.range ops.size).countP (fun i => !listed.getD i false) <= fuel ->
   (∀ i o,ops[i]? = some o -> listed.getD i false = true -> ∀ e ∈ o.after,Region.binds .any e = true -> listed.getD e.on false = true) ->
   ∀ a w pl,Ok fr n (cA rs (fun j => listed.getD j false) 0 (aL env)) (bW rs (fun j => listed.getD j false) 0 (lookO own)) a w pl -> rA P .any ops K fuel listed a w := by
 obtain ⟨h1,h2,h3,h4⟩ := gM h hc
 have hlen : rs.length = ops.size := by rw [h1]; simp
 have fin : ∀ (listed : Array Bool),(∀ i,i < ops.size -> listed.getD i false = true) -> ∀ a w pl,Ok fr n (cA rs (fun j => listed.getD j false) 0 (aL env)) (bW rs (fun j => listed.getD j false) 0 (lookO own)) a w pl -> K a w := by
  intro listed hall a w pl hok
  refine hQ a w pl ?_
  have hlt : ∀ j r,rs[j]? = some r -> listed.getD (0 + j) false = true := by
   intro j r hj
   have := (gsQ.1 hj).1
   rw [Nat.zero_add]
   exact hall j (by omega)
  have e1 : cA rs (fun j => listed.getD j false) 0 (aL env) = aL env' := by
   rw [h2]
   funext u
   exact dB rs _ _ 0 _ _ u rfl (fun j r hj _ => hlt j r hj)
  have e2 : bW rs (fun j => listed.getD j false) 0 (lookO own) = lookO own' := by
   rw [h3]
   funext u
   exact c8 rs _ _ 0 _ _ u rfl (fun j r hj _ => hlt j r hj)
  rw [<- e1,<- e2]
  exact hok
 have rdy : ∀ (listed : Array Bool),listed.size = ops.size -> Region.ready .any ops listed = [] -> ∀ i,i < ops.size -> listed.getD i false = true := by
  intro listed hsz hr i
  induction i using Nat.strongRecOn with
  | _ i ih =>
   intro hi
   cases hb : listed.getD i false with
   | true => rfl
   | false =>
    exfalso
    have hmem : i ∈ Region.ready .any ops listed := by
     rw [mem_ready]
     refine ⟨?_,ops[i],Array.getElem?_eq_getElem hi,fun e he hbd => ?_⟩
     have : i < listed.size := by omega
     simp only [Array.getD,this,dif_pos] at hb ⊢
     exact hb
     have := j5 hE (i := i) (o := ops[i]) (by simp [hi]) e he hbd
     exact ih e.on (by omega) (by omega)
    rw [hr] at hmem
    cases hmem
 intro fuel
 induction fuel with
 | zero =>
  intro listed hsz hcnt hcl a w pl hok
  have hall : ∀ i,i < ops.size -> listed.getD i false = true := by
   intro i hi
   have h0 : (List.range ops.size).countP (fun i => !listed.getD i false) = 0 := by omega
   rw [List.countP_eq_zero] at h0
   have := h0 i (List.mem_range.2 hi)
   simpa using this
  refine ⟨?_,fin listed hall a w pl hok⟩
  rw [List.eq_nil_iff_forall_not_mem]
  intro i hi
  obtain ⟨h5,o,ho,_⟩ := mem_ready.1 hi
  have hlt := (Array.getElem?_eq_some_iff.1 ho).1
  have h6 := hall i hlt
  have : i < listed.size := by omega
  simp only [Array.getD,this,dif_pos] at h5 h6
  rw [h5] at h6
  cases h6
 | succ fuel ih =>
  intro listed hsz hcnt hcl a w pl hok
  refine ⟨fun hr => fin listed (rdy listed hsz hr) a w pl hok,fun i hi => ?_⟩
  obtain ⟨h5,o,ho,hedge⟩ := mem_ready.1 hi
  have hlt := (Array.getElem?_eq_some_iff.1 ho).1
  have hltl : i < listed.size := by omega
  have hDi : listed.getD i false = false := by
   simp only [Array.getD,hltl,dif_pos] at h5 ⊢
   exact h5
  obtain ⟨r,hr⟩ := aBV h hc hlt
  have hmarked : (fun j => (listed.setIfInBounds i true).getD j false) = cE (fun j => listed.getD j false) i := by
   funext j
   by_cases hj : j = i
   subst hj; simp [cE,hltl]
   simp only [cE,if_neg hj]; exact getD_set_ne false (Ne.symm hj)
  have hbef : ∀ b,(bef ops)[i]? = some b -> ∀ j,b.testBit j = true -> listed.getD j false = true :=
   fun b hb => jC (D := fun j => listed.getD j false) hcl i o b ho hb hedge
  have haft : ∀ j m,(bef ops)[j]? = some m -> m.testBit i = true -> listed.getD j false = false := by
   intro j m hm hbit
   cases hb : listed.getD j false with
   | false => rfl
   | true =>
    exfalso
    have hjl : j < ops.size := by
     rcases Nat.lt_or_ge j listed.size with h' | h'
     omega
     simp [Array.getD,Nat.not_lt.2 h'] at hb
    have := jC (D := fun j => listed.getD j false) hcl j ops[j] m (Array.getElem?_eq_getElem hjl) hm (hcl j _ (Array.getElem?_eq_getElem hjl) hb) i hbit
    rw [hDi] at this
    cases this
  refine aGQ h hc henv hr (D := fun j => listed.getD j false) hDi (fun j b hj hb hd => ?_) (fun j b hj hb hd => ?_) (fun j b hj hb => ?_) hok (fun a' w' pl' hok' => ?_)
  obtain ⟨m,hm,hor⟩ := z1 hA hb hr hj
  rw [Nat.zero_add] at hor
  rcases hor with hbit | hind
  exact hbef m hm j hbit
  exfalso
  simp only [o7,bIQ] at hind
  obtain ⟨⟨⟨hi1,hi2⟩,hi3⟩,hi4⟩ := hind
  simp only [Bool.or_eq_true] at hd
  rcases hd with hd | hd
  cases hbd : b.dst with
  | none => rw [hbd] at hd; cases hd
  | some t =>
   rw [hbd] at hd hi1
   simp only [Option.any_some] at hd
   simp at hi1
   exact hi1.1 (by simpa using hd)
  obtain ⟨x,hx,hxt⟩ := List.any_eq_true.1 hd
  have := at1.1 hi3 x hx
  rw [hxt] at this
  cases this
  obtain ⟨m,hm,hor⟩ := z1 hA hr hb hj
  rw [Nat.zero_add] at hor
  rcases hor with hbit | hind
  exact haft j m hm hbit
  exfalso
  simp only [o7,bIQ] at hind
  obtain ⟨⟨⟨hi1,hi2⟩,hi3⟩,hi4⟩ := hind
  simp only [Bool.or_eq_true] at hd
  rcases hd with (hd | hd) | hd
  cases hbd : b.dst with
  | none => rw [hbd] at hd; cases hd
  | some t =>
   rw [hbd] at hd hi2
   simp only [Option.any_some,Bool.or_eq_true] at hd
   rcases hd with hd | hd
   simp only [hd] at hi2; cases hi2
   simp only [beq_iff_eq] at hd
   rw [hd,hbd] at hi1
   simp at hi1
  obtain ⟨x,hx,hxt⟩ := List.any_eq_true.1 hd
  have h7 := at1.1 hi4 x hx
  simp only [Bool.or_eq_true] at hxt
  rcases hxt with hxt | hxt
  rw [hxt] at h7; cases h7
  have h8 : x ∈ keys r.upd := by simpa using hxt
  have h9 := aC6 hA hr x h8
  have : r.touch.contains x = true := by simpa using h9
  rw [this] at h7
  cases h7
  cases hrd : r.dst with
  | none => rw [hrd] at hd; cases hd
  | some t =>
   rw [hrd] at hd hi1
   simp only [Option.any_some] at hd
   simp only [bIQ] at hi1
   obtain ⟨_,o',hint,envi,owni,ho',hrec,_,_⟩ := h4 j b hb
   have hsub : ∀ x,x ∈ slots b -> x ∈ b.uses := by
    intro x hx
    unfold aKN at hrec
    split at hrec
    unfold recD at hrec
    split at hrec
    split at hrec
    simp only [oIQ] at hrec
    subst hrec
    simp only [slots] at hx ⊢
    exact hx
    cases hrec
    cases hrec
    unfold aGZ at hrec
    split at hrec
    split at hrec
    split at hrec
    split at hrec
    simp only [oIQ] at hrec
    subst hrec
    simp only [slots] at hx ⊢
    exact List.mem_append_right _ hx
    split at hrec
    simp only [oIQ] at hrec
    subst hrec
    simp only [slots] at hx
    cases hx
    cases hrec
    cases hrec
    cases hrec
    cases hrec
   have := hsub t (by simpa using hd)
   have h7 : b.uses.contains t = true := by simpa using this
   rw [h7] at hi1
   cases hi1.1
  have := mS hT hb hr hj
  unfold lL at this
  cases hd : r.dst with
  | none => rfl
  | some t =>
   rw [hd] at this
   simp only [Option.any_some]
   simpa using this
  refine ih _ (by simp [hsz]) ?_ ?_ a' w' pl' ?_
  have hsplit : (List.range ops.size).countP (fun j => !(listed.setIfInBounds i true).getD j false) + 1 = (List.range ops.size).countP (fun j => !listed.getD j false) := by
   have hm : ∀ (l : List Nat),l.Nodup -> i ∈ l -> l.countP (fun j => !(listed.setIfInBounds i true).getD j false) + 1 = l.countP (fun j => !listed.getD j false) := by
    intro l
    induction l with
    | nil => intro _ h; cases h
    | cons x r ihl =>
     intro hn hi
     rw [List.nodup_cons] at hn
     by_cases hx : x = i
     subst hx
     have hsame : r.countP (fun j => !(listed.setIfInBounds x true).getD j false) = r.countP (fun j => !listed.getD j false) := by
      refine List.countP_congr (fun j hj => ?_)
      have : x ≠ j := fun e => hn.1 (by rw [e]; exact hj)
      rw [getD_set_ne false this]
     have hs : (listed.setIfInBounds x true).getD x false = true := by simp [hltl]
     rw [List.countP_cons_of_neg (by simp [hs]),List.countP_cons_of_pos (by simp [hDi]),hsame]
     have hir : i ∈ r := (mc.1 hi).resolve_left (fun e => hx e.symm)
     have := ihl hn.2 hir
     rw [List.countP_cons,List.countP_cons,getD_set_ne false (fun e => hx e.symm)]
     omega
   exact hm _ List.nodup_range (List.mem_range.2 hlt)
  omega
  intro j o' hj hdone e he hbd
  by_cases hji : j = i
  subst hji
  rw [ho] at hj
  injection hj with hj
  subst hj
  exact getD_set_true (hedge e he hbd)
  rw [getD_set_ne false (Ne.symm hji)] at hdone
  exact getD_set_true (hcl j o' hj hdone e he hbd)
  rw [hmarked]; exact hok'
structure Wp (P : Program) where
 wp : Code -> (Exit -> Act -> World -> Prop) -> Act -> World -> Prop
 mono : ∀ {c : Code} {Q Q' : Exit -> Act -> World -> Prop} {a : Act} {w : World},wp c Q a w -> (∀ e a w,Q e a w -> Q' e a w) -> wp c Q' a w
 skip : ∀ {Q : Exit -> Act -> World -> Prop} {a : Act} {w : World},Q .normal a w -> wp .skip Q a w
 region : ∀ {id : Nat} {ops : Array Oper} {Q : Exit -> Act -> World -> Prop} {a : Act} {w : World},d3 ops = true -> dR P ops (Q .normal) (List.range ops.size) a w -> wp (.region id ops false) Q a w
 any : ∀ {id : Nat} {ops : Array Oper} {Q : Exit -> Act -> World -> Prop} {a : Act} {w : World},P.follows .mixedOrders = true -> d3 ops = true -> rA P .any ops (Q .normal) ops.size (Array.replicate ops.size false) a { w with drawn := w.drawn + 1 } -> wp (.region id ops true) Q a w
 seq : ∀ {x y : Code} {Q : Exit -> Act -> World -> Prop} {a : Act} {w : World},wp x (Exit.then (wp y Q) Q) a w -> wp (.seq x y) Q a w
 cond : ∀ {c : Operand} {x y : Code} {t : Bool} {Q : Exit -> Act -> World -> Prop} {a : Act} {w : World},a.eval c = .bool t -> (t = true -> wp x Q a w) -> (t = false -> wp y Q a w) -> wp (.cond c x y) Q a w
 block : ∀ {id : Nat} {c : Code} {Q : Exit -> Act -> World -> Prop} {a : Act} {w : World},wp c (Exit.inBlock id Q) a w -> wp (.block id c) Q a w
 exit : ∀ {id : Nat} {Q : Exit -> Act -> World -> Prop} {a : Act} {w : World},Q (.exit id) a w -> wp (.exit id) Q a w
 ret : ∀ {Q : Exit -> Act -> World -> Prop} {a : Act} {w : World},Q .ret a w -> wp .ret Q a w
 loop : ∀ {c : Code} {Q : Exit -> Act -> World -> Prop} {a : Act} {w : World} (I : Nat -> Act -> World -> Prop) (k : Nat),I k a w -> (∀ k a w,I k a w -> wp c (Exit.then (fun a' w' => ∃ k',k' < k /\ I k' a' w') Q) a w) -> wp (.loop c) Q a w
def bB (P : Program) : Wp P where
 wp c Q a w := c.wp P Q a w
 mono := wp_mono
 skip := wp_skip
 region hnd h := wp_mono (wpIn_wide.1 (wpIn_region (iW none hnd h))) mR
 any hm hnd h := wp_mono (wpIn_wide.1 (wpIn_region_draw fun t => by
  simp only [Region.schedule,hm,Bool.true_or,if_true]
  exact iW none hnd (lX _ t _ _ _ h))) mR
 seq := wp_seq
 cond := wp_cond_split
 block := wp_block
 exit := wp_exit
 ret := wp_ret
 loop I k h r := wp_loop_ghost I k h r
def roundWp (P : Program) (l : Nat) : Wp P where
 wp c Q a w := c.wpIn (Fence.wide.inRound l) 0 P Q a w
 mono := wpIn_mono
 skip := wpIn_skip
 region hnd h := wpIn_mono (wpIn_region (iW (some l) hnd h)) mR
 any hm hnd h := wpIn_mono (wpIn_region_draw fun t => by
  simp only [Region.schedule,hm,Bool.true_or,if_true]
  exact iW (some l) hnd (lX _ t _ _ _ h)) mR
 seq := wpIn_seq
 cond := wpIn_cond_split
 block := wpIn_block
 exit := wpIn_exit
 ret := wpIn_ret
 loop I k h r := wpIn_loop_ghost I k h r
theorem aIJ {R : Wp P} {id : Nat} {draw : Bool} {st st' : St} {cs : List Prop} (hm : P.follows .mixedOrders = true) (h : regE P fr.G n rid ops draw hs st = some (st',cs)) (hc : conj cs) {a : Act} {w : World} (hok : OkS fr n st a w) (hnd : d3 ops = true) (hQ : ∀ a w,OkS fr n st' a w -> Q .normal a w) : R.wp (Code.region id ops draw) Q a w := by
 unfold regE at h
 split at h
 rename_i hpl
 split at h
 rename_i rs env' own' cs' hrs
 split at h
 rename_i hchk
 simp only [bIQ,Bool.or_eq_true,Bool.not_eq_true'] at hchk
 simp only [oIQ,pIQ] at h
 obtain ⟨rfl,rfl⟩ := h
 have henv := aBY hpl
 have hQ' : ∀ a w pl,Ok fr n (aL env') (lookO own') a w pl -> Q .normal a w := by
  intro a w pl hk
  exact hQ a w ⟨pl,zT hk fun u q sv h => oD h⟩
 obtain ⟨pl,hok⟩ := hok
 cases draw with
 | false =>
  refine R.region hnd ?_
  have := aH5 hrs hc henv hchk.1 hQ' ops.size 0 (by omega) a w pl ?_
  rw [List.range_eq_range']; exact this
  have e1 : cA rs (fun j => decide (j < 0)) 0 (aL st.env) = aL st.env := by
   have : ∀ (rs : List Rec) (k : Nat) (e : Env),cA rs (fun j => decide (j < 0)) k e = e := by
    intro rs
    induction rs with
    | nil => intro k e; rfl
    | cons y ys ih => intro k e; simp only [cA,Nat.not_lt_zero,decide_false,Bool.false_eq_true,if_false]; exact ih _ _
   exact this _ _ _
  have e2 : bW rs (fun j => decide (j < 0)) 0 (lookO st.own) = lookO st.own := by
   have : ∀ (rs : List Rec) (k : Nat) (e : Own),bW rs (fun j => decide (j < 0)) k e = e := by
    intro rs
    induction rs with
    | nil => intro k e; rfl
    | cons y ys ih => intro k e; simp only [bW,Nat.not_lt_zero,decide_false,Bool.false_eq_true,if_false]; exact ih _ _
   exact this _ _ _
  rw [e1,e2]; exact hok
 | true =>
  have hchk2 := hchk.2.resolve_left (by simp)
  refine R.any hm hnd ?_
  have hz : ∀ j,(Array.replicate ops.size false).getD j false = false := by
   intro j
   simp only [Array.getD_eq_getD_getElem?,Array.getElem?_replicate]
   split <;> rfl
  refine aM3 hrs hc henv hchk.1 hchk2.1 hchk2.2 hQ' ops.size _ (by simp) ?_ (fun i o _ hd => by rw [hz] at hd; cases hd) a _ pl ?_
  exact Nat.le_trans List.countP_le_length (by simp)
  have e1 : cA rs (fun j => (Array.replicate ops.size false).getD j false) 0 (aL st.env) = aL st.env := by
   funext u
   rw [dB rs _ (fun _ => false) 0 _ (aL st.env) u rfl (fun j r _ _ => hz _)]
   have : ∀ (rs : List Rec) (k : Nat) (e : Env),cA rs (fun _ => false) k e = e := by
    intro rs
    induction rs with
    | nil => intro k e; rfl
    | cons y ys ih => intro k e; simp only [cA,Bool.false_eq_true,if_false]; exact ih _ _
   rw [this]
  have e2 : bW rs (fun j => (Array.replicate ops.size false).getD j false) 0 (lookO st.own) = lookO st.own := by
   funext u
   rw [c8 rs _ (fun _ => false) 0 _ (lookO st.own) u rfl (fun j r _ _ => hz _)]
   have : ∀ (rs : List Rec) (k : Nat) (e : Own),bW rs (fun _ => false) k e = e := by
    intro rs
    induction rs with
    | nil => intro k e; rfl
    | cons y ys ih => intro k e; simp only [bW,Bool.false_eq_true,if_false]; exact ih _ _
   rw [this]
  rw [e1,e2]
  have hg : w.grownBy { w with drawn := w.drawn + 1 } none := ⟨rfl,rfl,rfl,lr _,fun _ _ _ => rfl⟩
  obtain ⟨m',L⟩ := hok.mem.ext hg
  exact hok.later m' L
 cases h
 cases h
 cases h
end
end Go.V
