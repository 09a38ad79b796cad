/- Part 3 of the proof. -/
import Derived.Test.YtgpedhfdniigoaaGreatDoorP2
set_option linter.all false
namespace Go.V
open Go.RowKit
def upd {α : Type} (f : Nat -> Option α) (i : Nat) (x : α) : Nat -> Option α := fun j => if j = i then some x else f j
theorem upd_same {α : Type} (f : Nat -> Option α) (i : Nat) (x : α) : upd f i x i = some x := by simp [upd]
theorem upd_ne {α : Type} (f : Nat -> Option α) {i j : Nat} (x : α) (h : j ≠ i) : upd f i x j = f j := by simp [upd,h]
def pF {α : Type} (f : Nat -> α) (i : Nat) (x : α) : Nat -> α := fun j => if j = i then x else f j
theorem cP {α : Type} (f : Nat -> α) (i : Nat) (x : α) : pF f i x i = x := by simp [pF]
theorem kM {α : Type} (f : Nat -> α) {i j : Nat} (x : α) (h : j ≠ i) : pF f i x j = f j := by simp [pF,h]
section
variable {fr : Fr} {n : Nat} {env : Env} {own own' : Own} {a : Act} {w w' : World} {pl pl' : Pl}
theorem Ok.put (h : Ok fr n env own a w pl) {t : Nat} (ht : t < n) (hm : ∀ u q sv,env u = some (q,sv) -> u ≠ t -> ∀ x ∈ q,x.1 ≠ t) {p : Path} (hpt : ∀ x ∈ p,x.1 ≠ t) {sv : SV} {v : Value}
  (h1 : Eng.Holds a p -> aV w pl own sv v) (h2 : ¬ Eng.Holds a p -> v = undef) : Ok fr n (upd env t (p,sv)) own (a.put (some t) v) w pl := by
 have hts : t < a.tmps.size := by rw [h.size]; exact ht
 refine ⟨h.mem,h.defers,by simp [Act.put,h.size],?_,?_,h.late⟩
 intro u q sv' hfd hh
 rw [Eng.put_getD _ _ _ _ hts]
 by_cases hu : u = t
 subst hu
 rw [upd_same] at hfd
 simp only [oIQ,pIQ] at hfd
 obtain ⟨rfl,rfl⟩ := hfd
 rw [if_pos rfl]
 exact h1 ((Eng.holds_put hts hpt).1 hh)
 rw [upd_ne _ _ hu] at hfd
 rw [if_neg hu]
 exact h.yes u q sv' hfd ((Eng.holds_put hts (hm u q sv' hfd hu)).1 hh)
 intro u q sv' hfd hh
 rw [Eng.put_getD _ _ _ _ hts]
 by_cases hu : u = t
 subst hu
 rw [upd_same] at hfd
 simp only [oIQ,pIQ] at hfd
 obtain ⟨rfl,rfl⟩ := hfd
 rw [if_pos rfl]
 exact h2 (fun h => hh ((Eng.holds_put hts hpt).2 h))
 rw [upd_ne _ _ hu] at hfd
 rw [if_neg hu]
 exact h.no u q sv' hfd (fun h' => hh ((Eng.holds_put hts (hm u q sv' hfd hu)).2 h'))
theorem Ok.later (h : Ok fr n env own a w pl) (m : Mem fr own' w' pl') (L : Later w pl own w' pl' own') : Ok fr n env own' a w' pl' := ⟨m,h.defers,h.size,fun t p sv h1 h2 => L.sv (h.yes t p sv h1 h2),h.no,fun q hq => (h.late.1 q hq).trans L,fun hf => (h.late.2 hf).later L⟩
theorem ObOk.later {B : Nat} (L : Later w pl own w' pl' own') {j : Nat} {o : Ob} (h1 : pl'.blk j = pl.blk j) (h2 : pl'.sl j = pl.sl j) (ho : own j = some o)
  (hb : ∀ b,aM pl own j = some b -> w'.heap[b]? = w.heap[b]?) (h : ObOk B w pl own j o) : ObOk B w' pl' own' j o := by
 cases o with
 | box ty cells =>
  obtain ⟨vs,hv,hc⟩ := h
  refine ⟨vs,?_,hc.mono fun _ _ h => L.c h⟩
  rw [h1,hb _ (by simp [aM,ho])]
  exact hv
 | arr k e sz es =>
  obtain ⟨xs,hx,hc,hs⟩ := h
  refine ⟨xs,?_,hc.mono (fun h => L.c h) (fun h => L.rd h),hs⟩
  rw [h2]
  exact hx.move fun g hg => hb g (by simp [aM,ho,hg])
theorem f4 {i : Nat} (h1 : own' i = own i) (h2 : pl'.blk i = pl.blk i) (h3 : pl'.sl i = pl.sl i) : aM pl' own' i = aM pl own i := by
 unfold aM; rw [h1,h2,h3]
theorem Mem.set (h : Mem fr own w pl) (i : Nat) (o : Ob) (hown : own' = upd own i o) (hS : pl'.S = pl.S) (hp : ∀ j,j ≠ i -> pl'.blk j = pl.blk j /\ pl'.sl j = pl.sl j)
  (hw : ∀ b,b < w.heap.size -> aM pl own i ≠ some b -> w'.heap[b]? = w.heap[b]?)
  (hi : (∀ {c : C} {v : Value},COk w pl own c v -> COk w' pl' own' c v) -> (∀ {d : D} {v : Value},Rd w (Sh pl own) d v -> Rd w' (Sh pl' own') d v) -> ObOk 0 w' pl' own' i o)
  (hnew : ∀ b,aM pl' own' i = some b -> aM pl own i = some b \/ w.heap.size <= b)
  (hbx : ∀ ty cs,own i = some (.box ty cs) -> (∃ ty cs,o = .box ty cs) /\ pl'.blk i = pl.blk i)
  (har : ∀ k e sz es,own i = some (.arr k e sz es) -> ∃ k' e' sz' es',o = .arr k' e' sz' es' /\ k <= k' /\ (k' = k -> es'.length = es.length /\ sz' = sz /\ pl'.sl i = pl.sl i))
  (os : w'.os = w.os) (tape : w'.tape = w.tape) (output : w'.output = w.output) (grow : w.heap.size <= w'.heap.size) (hpin : ∀ ty cs b,o = .box ty cs -> ty.pin = some b -> pl'.blk i = b) : Mem fr own' w' pl' /\ Later w pl own w' pl' own' := by
 subst hown
 have hblk : ∀ j,j ≠ i -> aM pl' (upd own i o) j = aM pl own j := fun j hj => f4 (upd_ne _ _ hj) (hp j hj).1 (hp j hj).2
 have hsh : ∀ b,b < w.heap.size -> Sh pl own b -> Sh pl' (upd own i o) b := by
  intro b hb hs
  refine ⟨by rw [hS]; exact hs.1,fun j hj => ?_⟩
  by_cases hji : j = i
  subst hji
  rcases hnew b hj with h1 | h1
  exact hs.2 j h1
  omega
  rw [hblk j hji] at hj; exact hs.2 j hj
 have L : Later w pl own w' pl' (upd own i o) := by
  refine ⟨fun b hb hs => ⟨hw b hb (hs.2 i),hsh b hb hs⟩,fun j ty cs hj => ?_,fun j k e sz es hj => ?_⟩
  by_cases hji : j = i
  subst hji
  obtain ⟨⟨ty',cs',rfl⟩,h2⟩ := hbx ty cs hj
  exact ⟨⟨ty',cs',upd_same _ _ _⟩,h2⟩
  exact ⟨⟨ty,cs,by rw [upd_ne _ _ hji]; exact hj⟩,(hp j hji).1⟩
  by_cases hji : j = i
  subst hji
  obtain ⟨k',e',sz',es',rfl,h2⟩ := har k e sz es hj
  exact ⟨k',e',sz',es',upd_same _ _ _,h2⟩
  exact ⟨k,e,sz,es,by rw [upd_ne _ _ hji]; exact hj,lr _,fun _ => ⟨rfl,rfl,(hp j hji).2⟩⟩
 refine ⟨⟨h.frOk,fun b => by rw [hS]; exact h.hS b,?_,?_,?_,?_,os.trans h.os,tape.trans h.tape,output.trans h.output,Nat.le_trans h.grow grow,?_,fun j ty cs b hj hb => ?_⟩,L⟩
 intro j o' ho'
 by_cases hji : j = i
 subst hji
 rw [upd_same] at ho'
 simp only [oIQ] at ho'
 subst ho'
 exact hi (fun h => L.c h) (fun h => L.rd h)
 rw [upd_ne _ _ hji] at ho'
 refine ObOk.later L (hp j hji).1 (hp j hji).2 ho' (fun b hb => ?_) (h.obj j o' ho')
 exact hw b (h.blk_lt hb) (fun hib => hji (h.inj j i b hb hib))
 intro j k b hj hk
 by_cases hji : j = i
 by_cases hki : k = i
 rw [hji,hki]
 subst hji
 rw [hblk k hki] at hk
 rcases hnew b hj with h1 | h1
 exact h.inj j k b h1 hk
 have := h.blk_lt hk; omega
 rw [hblk j hji] at hj
 by_cases hki : k = i
 subst hki
 rcases hnew b hk with h1 | h1
 exact h.inj j k b hj h1
 have := h.blk_lt hj; omega
 rw [hblk k hki] at hk; exact h.inj j k b hj hk
 intro j b hj
 by_cases hji : j = i
 subst hji
 rcases hnew b hj with h1 | h1
 exact h.base j b h1
 exact .inl (Nat.le_trans h.grow h1)
 rw [hblk j hji] at hj; exact h.base j b hj
 intro j b hj
 rcases h.bor j b hj with ⟨ty,cs,h1,h2⟩ | ⟨k,e,sz,es,h1⟩
 by_cases hji : j = i
 subst hji
 obtain ⟨⟨ty',cs',rfl⟩,h4⟩ := hbx ty cs h1
 exact .inl ⟨ty',cs',upd_same _ _ _,by rw [h4]; exact h2⟩
 exact .inl ⟨ty,cs,by rw [upd_ne _ _ hji]; exact h1,by rw [(hp j hji).1]; exact h2⟩
 by_cases hji : j = i
 subst hji
 obtain ⟨k',e',sz',es',rfl,_⟩ := har k e sz es h1
 exact .inr ⟨k',e',sz',es',upd_same _ _ _⟩
 exact .inr ⟨k,e,sz,es,by rw [upd_ne _ _ hji]; exact h1⟩
 intro b hb hX
 rw [<- h.keep b hb hX]
 refine hw b (Nat.lt_of_lt_of_le hb h.grow) (fun hib => ?_)
 rcases h.base i b hib with h1 | h1
 omega
 exact hX i h1
 by_cases hji : j = i
 subst hji
 rw [upd_same] at hj
 simp only [oIQ] at hj
 exact hpin ty cs b hj hb
 rw [upd_ne _ _ hji] at hj
 rw [(hp j hji).1]
 exact h.pin j ty cs b hj hb
theorem Mem.newBoxO (h : Mem fr own w pl) {i : Nat} (hi : own i = none) (ty : BT) (hpn : ∀ b,ty.pin = some b -> b = w.heap.size) {cells : List C} {vs : List Value} (hc : All2 (COk w pl own) cells vs) {x : Obj} (hx : ty.k.at (some x) vs) :
  ∃ pl',Mem fr (upd own i (.box ty cells)) (w.alloc x) pl' /\ Later w pl own (w.alloc x) pl' (upd own i (.box ty cells)) /\ pl'.blk i = w.heap.size /\ pl'.S = pl.S /\ ∀ j,j ≠ i -> pl'.blk j = pl.blk j /\ pl'.sl j = pl.sl j := by
 refine ⟨⟨pl.S,pF pl.blk i w.heap.size,pl.sl⟩,?_⟩
 have hb0 : aM pl own i = none := by unfold aM; rw [hi]
 have := Mem.set (own' := upd own i (.box ty cells)) (pl' := ⟨pl.S,pF pl.blk i w.heap.size,pl.sl⟩) (w' := w.alloc x) h i (.box ty cells) rfl rfl (fun j hj => ⟨kM _ _ hj,rfl⟩) (fun b hb _ => Below.heap_alloc _ _ _ hb)
  (fun fc _ => ⟨vs,by simp only [cP]; rw [heap_alloc_new w _]; exact hx,hc.mono fun _ _ h => fc h⟩)
  (fun b hb => by simp only [aM,upd_same,cP,oIQ] at hb; exact .inr (by omega))
  (fun ty cs h => by rw [hi] at h; cases h) (fun k e sz es h => by rw [hi] at h; cases h) rfl rfl rfl (by simp) (fun ty' cs b he hb => by injection he with he; subst he; simp only [cP]; exact (hpn b hb).symm)
 exact ⟨this.1,this.2,cP _ _ _,rfl,fun j hj => ⟨kM _ _ hj,rfl⟩⟩
theorem Mem.newBox (h : Mem fr own w pl) {i : Nat} (hi : own i = none) (ty : BT) (hpn : ∀ b,ty.pin = some b -> b = w.heap.size) {cells : List C} {vs : List Value} (hc : All2 (COk w pl own) cells vs) (hx : ty.k.at (some (ty.obj vs)) vs := by first | exact rfl | trivial) :
  ∃ pl',Mem fr (upd own i (.box ty cells)) (w.alloc (ty.obj vs)) pl' /\ Later w pl own (w.alloc (ty.obj vs)) pl' (upd own i (.box ty cells)) /\ pl'.blk i = w.heap.size := by
 obtain ⟨pl',h1,h2,h3,_⟩ := h.newBoxO hi ty hpn hc hx
 exact ⟨pl',h1,h2,h3⟩
theorem dQ (w : World) (g : Nat) (cs : Array Value) {b : Nat} (hb : b ≠ g) : (w.setRow g cs).heap[b]? = w.heap[b]? := by
 simp only [World.setRow,Array.getElem?_modify]
 rw [if_neg (fun e => hb e.symm)]
theorem Mem.turnBox (h : Mem fr own w pl) {i : Nat} {ty : TypeId} {q : Option Nat} {cells cells' : List C} (hi : own i = some (.box ⟨.c ty,q⟩ cells)) {vs : List Value} (hv : w.heap[pl.blk i]? = some (.cells vs.toArray ty (0,0))) {vs' : List Value} (hc : All2 (COk w pl own) cells' vs') :
  Mem fr (upd own i (.box ⟨.c ty,q⟩ cells')) (w.setRow (pl.blk i) vs'.toArray) pl /\ Later w pl own (w.setRow (pl.blk i) vs'.toArray) pl (upd own i (.box ⟨.c ty,q⟩ cells')) := by
 have hb0 : aM pl own i = some (pl.blk i) := by unfold aM; rw [hi]
 exact Mem.set (own' := upd own i (.box ⟨.c ty,q⟩ cells')) (pl' := pl) h i (.box ⟨.c ty,q⟩ cells') rfl rfl (fun j hj => ⟨rfl,rfl⟩) (fun b _ hne => dQ _ _ _ (fun e => hne (by rw [hb0,e])))
  (fun fc _ => ⟨vs',setRow_heap w _ vs.toArray vs'.toArray ty (0,0) hv,hc.mono fun _ _ h => fc h⟩)
  (fun b hb => by simp only [aM,upd_same] at hb; exact .inl (by rw [hb0]; exact hb))
  (fun ty' cs h => ⟨⟨_,_,rfl⟩,rfl⟩) (fun k e sz es h => by rw [hi] at h; cases h) rfl rfl rfl (by simp [World.setRow]) (fun ty' cs b he hb => by injection he with he; subst he; exact h.pin i _ _ b hi hb)
theorem Mem.turnObjO (h : Mem fr own w pl) {i : Nat} {ty ty' : BT} {cells cells' : List C} (hi : own i = some (.box ty cells)) (hq : ty'.pin = ty.pin) {vs' : List Value} (hc : All2 (COk w pl own) cells' vs') {x : Obj} (hx : ty'.k.at (some x) vs') :
  Mem fr (upd own i (.box ty' cells')) { w with heap := w.heap.setIfInBounds (pl.blk i) x } pl /\ Later w pl own { w with heap := w.heap.setIfInBounds (pl.blk i) x } pl (upd own i (.box ty' cells')) := by
 have hb0 : aM pl own i = some (pl.blk i) := by unfold aM; rw [hi]
 have hlt := h.blk_lt hb0
 exact Mem.set (own' := upd own i (.box ty' cells')) (pl' := pl) h i (.box ty' cells') rfl rfl (fun j hj => ⟨rfl,rfl⟩) (fun b _ hne => by
   simp only [Array.getElem?_setIfInBounds]
   rw [if_neg (fun e => hne (by rw [hb0,e]))])
  (fun fc _ => ⟨vs',by simp only [Array.getElem?_setIfInBounds,if_true,hlt]; exact hx,hc.mono fun _ _ h => fc h⟩)
  (fun b hb => by simp only [aM,upd_same] at hb; exact .inl (by rw [hb0]; exact hb))
  (fun ty' cs h => ⟨⟨_,_,rfl⟩,rfl⟩) (fun k e sz es h => by rw [hi] at h; cases h) rfl rfl rfl (by simp) (fun ty2 cs b he hb => by injection he with he; subst he; exact h.pin i _ _ b hi (hq ▸ hb))
theorem Mem.newArr (h : Mem fr own w pl) {i : Nat} (hi : own i = none) {e : AT} {sz : Nat} {es : LD} {w' : World} (hg : w.grownBy w' none) {A : Option Addr} {cap : Nat} {xs : List Value}
  (hr : ownsQ (mkd e.ov) w' 0 e.e sz (.slice A es.length cap) es.length xs) (hA : ∀ ad,A = some ad -> w.heap.size <= ad.block)
  (hx : AllO w pl own e.ov es.flatten xs) (hs : ∀ ds,ds ∈ es -> ds.length = sz) :
  ∃ pl',Mem fr (upd own i (.arr 0 e sz es)) w' pl' /\ Later w pl own w' pl' (upd own i (.arr 0 e sz es)) /\ pl'.sl i = (A,cap) := by
 refine ⟨⟨pl.S,pl.blk,pF pl.sl i (A,cap)⟩,?_⟩
 have hb0 : aM pl own i = none := by unfold aM; rw [hi]
 have := Mem.set (own' := upd own i (.arr 0 e sz es)) (pl' := ⟨pl.S,pl.blk,pF pl.sl i (A,cap)⟩) (w' := w') h i (.arr 0 e sz es) rfl rfl (fun j hj => ⟨rfl,kM _ _ hj⟩) (fun b hb _ => hg.block b hb (by simp))
  (fun fc fd => ⟨xs,by simp only [cP]; exact hr,hx.mono fc fd,hs⟩)
  (fun b hb => by
   simp only [aM,upd_same,cP,me] at hb
   obtain ⟨ad,h1,rfl⟩ := hb
   exact .inr (hA ad h1))
  (fun ty cs h => by rw [hi] at h; cases h) (fun k e sz es h => by rw [hi] at h; cases h) hg.os hg.tape hg.output hg.size (fun _ _ _ he => by cases he)
 exact ⟨this.1,this.2,cP _ _ _⟩
theorem Mem.turnArrO (h : Mem fr own w pl) {i k k' : Nat} {e e' : AT} {sz : Nat} {es es' : LD} (hi : own i = some (.arr k e sz es)) {w' : World} (hg : w.grownBy w' ((pl.sl i).1.map (·.block))) {A : Option Addr} {cap : Nat} {xs : List Value}
  (hr : ownsQ (mkd e'.ov) w' 0 e'.e sz (.slice A es'.length cap) es'.length xs) (hA : A.map (·.block) = (pl.sl i).1.map (·.block) \/ ∀ ad,A = some ad -> w.heap.size <= ad.block)
  (hx : AllO w pl own e'.ov es'.flatten xs) (hs : ∀ ds,ds ∈ es' -> ds.length = sz) (hk : k < k' \/ (k' = k /\ es'.length = es.length /\ (A,cap) = pl.sl i)) :
  ∃ pl',Mem fr (upd own i (.arr k' e' sz es')) w' pl' /\ Later w pl own w' pl' (upd own i (.arr k' e' sz es')) /\ pl'.sl i = (A,cap) := by
 refine ⟨⟨pl.S,pl.blk,pF pl.sl i (A,cap)⟩,?_⟩
 have hb0 : aM pl own i = (pl.sl i).1.map (·.block) := by unfold aM; rw [hi]
 have := Mem.set (own' := upd own i (.arr k' e' sz es')) (pl' := ⟨pl.S,pl.blk,pF pl.sl i (A,cap)⟩) (w' := w') h i (.arr k' e' sz es') rfl rfl (fun j hj => ⟨rfl,kM _ _ hj⟩) (fun b hb hne => hg.block b hb (by rw [hb0] at hne; exact fun e => hne e.symm))
  (fun fc fd => ⟨xs,by simp only [cP]; exact hr,hx.mono fc fd,hs⟩)
  (fun b hb => by
   simp only [aM,upd_same,cP] at hb
   rcases hA with h1 | h1
   ·rw [h1] at hb; exact .inl (by rw [hb0]; exact hb)
   ·simp only [me] at hb
    obtain ⟨ad,h2,rfl⟩ := hb
    exact .inr (h1 ad h2))
  (fun ty cs h => by rw [hi] at h; cases h)
  (fun k2 e2 sz2 es2 h => by
   rw [hi] at h
   injection h with h
   injection h with h1 h2 h3 h4
   subst h1; subst h2; subst h3; subst h4
   refine ⟨k',e',sz,es',rfl,by omega,fun hkk => ?_⟩
   rcases hk with h5 | ⟨_,h5,h6⟩
   ·omega
   ·exact ⟨h5,rfl,by simp only [cP]; exact h6⟩) hg.os hg.tape hg.output hg.size (fun _ _ _ he => by cases he)
 exact ⟨this.1,this.2,cP _ _ _⟩
theorem Mem.turnArr (h : Mem fr own w pl) {i k k' : Nat} {e : AT} {sz : Nat} {es es' : LD} (hi : own i = some (.arr k e sz es)) {w' : World} (hg : w.grownBy w' ((pl.sl i).1.map (·.block))) {A : Option Addr} {cap : Nat} {xs : List Value}
  (hr : ownsQ (mkd e.ov) w' 0 e.e sz (.slice A es'.length cap) es'.length xs) (hA : A.map (·.block) = (pl.sl i).1.map (·.block) \/ ∀ ad,A = some ad -> w.heap.size <= ad.block)
  (hx : AllO w pl own e.ov es'.flatten xs) (hs : ∀ ds,ds ∈ es' -> ds.length = sz) (hk : k < k' \/ (k' = k /\ es'.length = es.length /\ (A,cap) = pl.sl i)) :
  ∃ pl',Mem fr (upd own i (.arr k' e sz es')) w' pl' /\ Later w pl own w' pl' (upd own i (.arr k' e sz es')) /\ pl'.sl i = (A,cap) := h.turnArrO hi hg hr hA hx hs hk
theorem Mem.ext (h : Mem fr own w pl) {w' : World} (hg : w.grownBy w' none) : Mem fr own w' pl /\ Later w pl own w' pl own := by
 have L : Later w pl own w' pl own := ⟨fun b hb hs => ⟨hg.block b hb (by simp),hs⟩,fun i ty cs h => ⟨⟨ty,cs,h⟩,rfl⟩,fun i k e sz es h => ⟨k,e,sz,es,h,lr _,fun _ => ⟨rfl,rfl,rfl⟩⟩⟩
 refine ⟨⟨h.frOk,h.hS,fun j o ho => ?_,h.inj,h.base,h.bor,hg.os.trans h.os,hg.tape.trans h.tape,hg.output.trans h.output,Nat.le_trans h.grow hg.size,fun b hb hX => ?_,h.pin⟩,L⟩
 exact ObOk.later L rfl rfl ho (fun b hb => hg.block b (h.blk_lt hb) (by simp)) (h.obj j o ho)
 rw [hg.block b (Nat.lt_of_lt_of_le hb h.grow) (by simp)]; exact h.keep b hb hX
end
end Go.V
