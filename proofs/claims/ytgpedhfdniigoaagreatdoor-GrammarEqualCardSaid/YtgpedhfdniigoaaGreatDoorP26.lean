/- Part 26 of the proof. -/
import Derived.Test.YtgpedhfdniigoaaGreatDoorP25
set_option linter.all false
namespace Go.V
open Go.RowKit
inductive Ex where
 | normal
 | exit (id : Nat)
 | ret
def Ex.to : Ex -> Exit
 | .normal => .normal
 | .exit id => .exit id
 | .ret => .ret
inductive Now where
 | code (pos : List Nat)
 | exit (pos : List Nat) (e : Ex)
def child : Code -> Nat -> Option Code
 | .seq x _,0 => some x
 | .seq _ y,1 => some y
 | .cond _ x _,0 => some x
 | .cond _ _ y,1 => some y
 | .block _ x,0 => some x
 | _,_ => none
def jG (root : Code) : List Nat -> Option Code
 | [] => some root
 | k :: p => match jG root p with
  | some c => child c k
  | none => none
def ctx {P : Program} (R : Wp P) (root : Code) (Q : Exit -> Act -> World -> Prop) : List Nat -> Exit -> Act -> World -> Prop
 | [] => Q
 | k :: p => match jG root p,k with
  | some (.seq _ y),0 => Exit.then (R.wp y (ctx R root Q p)) (ctx R root Q p)
  | some (.block id _),_ => Exit.inBlock id (ctx R root Q p)
  | _,_ => ctx R root Q p
inductive Stop where
 | cond (pos : List Nat) (b : Bool)
 | loop (pos : List Nat)
 | done (e : Ex)
def Ex.isNormal : Ex -> Bool
 | .normal => true
 | _ => false
def Ex.isExit (id : Nat) : Ex -> Bool
 | .exit k => k == id
 | _ => false
def go (P : Program) (G : List (Nat × List Value)) (n : Nat) (root : Code) (hs : dM) : Nat -> Now -> St -> Option (Stop × St × List Prop)
 | 0,_,_ => none
 | fuel + 1,.code pos,st => match jG root pos with
  | some .skip => go P G n root hs fuel (.exit pos .normal) st
  | some (.region id ops draw) => if d3 ops then match regE P G n id ops draw hs st with
   | some (st',cs) => match go P G n root hs fuel (.exit pos .normal) st' with
    | some (s,st'',cs') => some (s,st'',cs ++ cs')
    | none => none
   | none => none
   else none
  | some (.seq _ _) => go P G n root hs fuel (.code (0 :: pos)) st
  | some (.cond c _ _) => match gW (aL st.env) [] [] c with
   | some (.c (.d (.v (.bool b)))) => some (.cond pos b,st,[])
   | _ => none
  | some (.block _ _) => go P G n root hs fuel (.code (0 :: pos)) st
  | some (.loop _) => some (.loop pos,st,[])
  | some (.rangeFunc _ _ _ _) => some (.loop pos,st,[])
  | some (.exit id) => go P G n root hs fuel (.exit pos (.exit id)) st
  | some .ret => go P G n root hs fuel (.exit pos .ret) st
  | _ => none
 | fuel + 1,.exit [] e,st => some (.done e,st,[])
 | fuel + 1,.exit (k :: p) e,st => match jG root p with
  | some (.seq _ _) => if k == 0 && e.isNormal then go P G n root hs fuel (.code (1 :: p)) st else go P G n root hs fuel (.exit p e) st
  | some (.cond _ _ _) => go P G n root hs fuel (.exit p e) st
  | some (.block id _) => if e.isExit id then go P G n root hs fuel (.exit p .normal) st else go P G n root hs fuel (.exit p e) st
  | _ => none
section
variable {P : Program} {R : Wp P} {fr : Fr} {n : Nat} {root : Code} {Q : Exit -> Act -> World -> Prop} {hs : dM}
def W {P : Program} (R : Wp P) (fr : Fr) (n : Nat) (root : Code) (Q : Exit -> Act -> World -> Prop) : Now -> St -> Prop
 | .code pos,st => ∀ c,jG root pos = some c -> ∀ a w,OkS fr n st a w -> R.wp c (ctx R root Q pos) a w
 | .exit pos e,st => ∀ a w,OkS fr n st a w -> ctx R root Q pos e.to a w
def aM6 {P : Program} (R : Wp P) (fr : Fr) (n : Nat) (root : Code) (Q : Exit -> Act -> World -> Prop) : Stop -> St -> Prop
 | .cond pos b,st => (b = true -> W R fr n root Q (.code (0 :: pos)) st) /\ (b = false -> W R fr n root Q (.code (1 :: pos)) st)
 | .loop pos,st => W R fr n root Q (.code pos) st
 | .done e,st => ∀ a w,OkS fr n st a w -> Q e.to a w
theorem go_ok (hm : P.follows .mixedOrders = true) : ∀ (fuel : Nat) (now : Now) {st st' : St} {s : Stop} {cs : List Prop},go P fr.G n root hs fuel now st = some (s,st',cs) -> conj cs -> aM6 R fr n root Q s st' -> W R fr n root Q now st := by
 intro fuel
 induction fuel with
 | zero => intro now st st' s cs h; simp [go] at h
 | succ fuel ih =>
  intro now st st' s cs h hc hs'
  cases now with
  | code pos =>
   intro c hcode a w hok
   simp only [go,hcode] at h
   cases c with
   | skip => exact R.skip (ih _ h hc hs' a w hok)
   | region id ops draw =>
    simp only at h
    split at h
    rename_i hnd
    split at h
    rename_i st1 cs1 hr
    split at h
    rename_i s2 st2 cs2 h2
    simp only [oIQ,pIQ] at h
    obtain ⟨rfl,rfl,rfl⟩ := h
    obtain ⟨hc1,hc2⟩ := c6 hc
    exact aIJ hm hr hc1 hok hnd fun a w hok' => ih _ h2 hc2 hs' a w hok'
    cases h
    cases h
    cases h
   | seq x y =>
    simp only at h
    have := ih _ h hc hs' x (by simp [jG,hcode,child]) a w hok
    simp only [ctx,hcode] at this
    exact R.seq this
   | cond c x y =>
    simp only at h
    split at h
    rename_i b hb
    simp only [oIQ,pIQ] at h
    obtain ⟨rfl,rfl,rfl⟩ := h
    obtain ⟨pl,hok'⟩ := id hok
    have hv : a.eval c = .bool b := Rd.exact (gN hok' [] [] c _ hb holds_nil holds_nil)
    refine R.cond hv (fun hb1 => ?_) (fun hb1 => ?_)
    have := hs'.1 hb1 x (by simp [jG,hcode,child]) a w hok
    simp only [ctx,hcode] at this
    exact this
    have := hs'.2 hb1 y (by simp [jG,hcode,child]) a w hok
    simp only [ctx,hcode] at this
    exact this
    cases h
   | block id x =>
    simp only at h
    have := ih _ h hc hs' x (by simp [jG,hcode,child]) a w hok
    simp only [ctx,hcode] at this
    exact R.block this
   | loop body =>
    simp only [oIQ,pIQ] at h
    obtain ⟨rfl,rfl,rfl⟩ := h
    exact hs' _ hcode a w hok
   | exit id => exact R.exit (ih _ h hc hs' a w hok)
   | ret => exact R.ret (ih _ h hc hs' a w hok)
   | rangeFunc _ _ _ _ =>
    simp only [oIQ,pIQ] at h
    obtain ⟨rfl,rfl,rfl⟩ := h
    exact hs' _ hcode a w hok
   | scope _ => simp at h
   | label _ => simp at h
   | goto _ => simp at h
   | refuse _ => simp at h
  | exit pos e =>
   intro a w hok
   cases pos with
   | nil =>
    simp only [go,oIQ,pIQ] at h
    obtain ⟨rfl,rfl,rfl⟩ := h
    exact hs' a w hok
   | cons k p =>
    simp only [go] at h
    split at h
    rename_i x y hcode
    split at h
    rename_i hk
    simp only [bIQ,beq_iff_eq] at hk
    obtain ⟨rfl,he⟩ := hk
    have := ih _ h hc hs' y (by simp [jG,hcode,child]) a w hok
    simp only [ctx,hcode] at this ⊢
    cases e with
    | normal => exact this
    | exit => cases he
    | ret => cases he
    rename_i hk
    have := ih _ h hc hs' a w hok
    simp only [ctx,hcode]
    cases k with
    | zero =>
     simp only [bIQ,beq_iff_eq,not_and] at hk
     cases e with
     | normal => exact absurd rfl (hk trivial)
     | exit => exact this
     | ret => exact this
    | succ k => exact this
    rename_i c x y hcode
    have := ih _ h hc hs' a w hok
    simp only [ctx,hcode]
    exact this
    rename_i id x hcode
    split at h
    rename_i he
    have := ih _ h hc hs' a w hok
    simp only [ctx,hcode]
    cases e with
    | normal => cases he
    | exit k' =>
     simp only [Ex.isExit,beq_iff_eq] at he
     simp only [Ex.to,Exit.inBlock,he,if_true]
     exact this
    | ret => cases he
    rename_i he
    have := ih _ h hc hs' a w hok
    simp only [ctx,hcode]
    cases e with
    | normal => exact this
    | exit k' =>
     simp only [Ex.isExit,beq_iff_eq] at he
     simp only [Ex.to,Exit.inBlock,if_neg he]
     exact this
    | ret => exact this
    cases h
def aF5 (own own' : bR) : Bool := own.all fun e => own'.any fun x => x.1 == e.1
theorem oH {own own' : bR} (h : aF5 own own' = true) : ∀ i o,lookO own i = some o -> ∃ o',lookO own' i = some o' := by
 intro i o ho
 have hm := iG ho
 have := at1.1 h _ hm
 obtain ⟨x,hx,he⟩ := List.any_eq_true.1 this
 simp only [beq_iff_eq] at he
 have : ∀ (l : bR),x ∈ l -> ∃ o',lookO l i = some o' := by
  intro l
  induction l with
  | nil => intro h; cases h
  | cons y r ih =>
   intro hx'
   simp only [lookO]
   by_cases hy : y.1 = i
   have : (y.1 == i) = true := by simpa using hy
   exact ⟨y.2,by simp [this]⟩
   have : (y.1 == i) = false := by simpa using hy
   rw [this]
   rcases mc.1 hx' with rfl | h'
   exact absurd he hy
   simpa using ih h'
 exact this own' hx
def goS (P : Program) (G : List (Nat × List Value)) (pids : List Nat) (n : Nat) (root : Code) (hs : dM) (fuel : Nat) (now : Now) (st st' : St) : Option (Stop × List (Option (Path × SV)) × List (Option Ob) × Bool × List Prop) :=
 match go P G n root hs fuel now st with
 | some (s,st1,cs) => let st2 := eL (st'.own.map (·.1)) st1
  some (s,st'.env.map (fun e => aL st2.env e.1),st'.own.map (fun e => lookO st2.own e.1),aF5 st2.own st'.own && pids.all (fW (st'.own.map (·.1))),cs)
 | none => none
def told (s : Stop) (st' : St) (cs : List Prop) : Option (Stop × List (Option (Path × SV)) × List (Option Ob) × Bool × List Prop) := some (s,st'.env.map (fun e => some e.2),st'.own.map (fun e => some e.2),true,cs)
theorem aFU {pids : List Nat} (hpn : fr.pin.map (·.1) = pids) (hla : fr.lat = []) (hm : P.follows .mixedOrders = true) {fuel : Nat} {now : Now} {st : St} {s : Stop} {cs : List Prop} (st' : St) (h : goS P fr.G pids n root hs fuel now st st' = told s st' cs) (hc : conj cs) (hk : aM6 R fr n root Q s st') : W R fr n root Q now st := by
 unfold goS told at h
 split at h
 ·rename_i s1 st1 cs1 hgo
  simp only [oIQ,pIQ] at h
  obtain ⟨rfl,h1,h2,h3,rfl⟩ := h
  simp only [bIQ,at1] at h3
  obtain ⟨h3,h4⟩ := h3
  have hsel : ∀ a w,OkS fr n st1 a w -> OkS fr n st' a w := fun a w hok => aER h1 h2 (oH h3) (nZ _ hla hok)
  refine go_ok hm fuel now hgo hc ?_
  cases s1 with
  | cond pos b => exact ⟨fun hb c hcode a w hok => hk.1 hb c hcode a w (hsel a w hok),fun hb c hcode a w hok => hk.2 hb c hcode a w (hsel a w hok)⟩
  | loop pos => exact fun c hcode a w hok => hk c hcode a w (hsel a w hok)
  | done e => exact fun a w hok => hk a w (hsel a w hok)
 ·cases h
theorem stepC {G : List (Nat × List Value)} {pids : List Nat} (hG : FrIs fr G pids) (hm : P.follows .mixedOrders = true) {now : Now} {st : St} (hs : dM) (pos : List Nat) (b : Bool) (st' : St) (cs : List Prop) (h : goS P G pids n root hs 1000 now st st' = told (.cond pos b) st' cs) (hc : conj cs)
  (ht : b = true -> W R fr n root Q (.code (0 :: pos)) st') (hf : b = false -> W R fr n root Q (.code (1 :: pos)) st') : W R fr n root Q now st := by
 obtain ⟨rfl,hpn,_,hla⟩ := hG; exact aFU hpn hla hm st' h hc ⟨ht,hf⟩
theorem uZ {G : List (Nat × List Value)} {pids : List Nat} (hG : FrIs fr G pids) (hm : P.follows .mixedOrders = true) {now : Now} {st : St} (hs : dM) (pos : List Nat) (st' : St) (cs : List Prop) (h : goS P G pids n root hs 1000 now st st' = told (.loop pos) st' cs) (hc : conj cs) (hk : W R fr n root Q (.code pos) st') : W R fr n root Q now st := by
 obtain ⟨rfl,hpn,_,hla⟩ := hG; exact aFU hpn hla hm st' h hc hk
theorem stepE {G : List (Nat × List Value)} {pids : List Nat} (hG : FrIs fr G pids) (hm : P.follows .mixedOrders = true) {now : Now} {st : St} (hs : dM) (e : Ex) (st' : St) (cs : List Prop) (h : goS P G pids n root hs 1000 now st st' = told (.done e) st' cs) (hc : conj cs) (hk : ∀ a w,OkS fr n st' a w -> Q e.to a w) : W R fr n root Q now st := by
 obtain ⟨rfl,hpn,_,hla⟩ := hG; exact aFU hpn hla hm st' h hc hk
def Handed (fr : Fr) (n : Nat) {σ : Type} (m : σ -> Nat) (S : σ -> St) (Inv : σ -> Prop) (x : σ) (a : Act) (w : World) : Prop := ∃ y,m y < m x /\ Inv y /\ OkS fr n (S y) a w
def jZ (root : Code) (pos : List Nat) : Code := match jG root pos with
 | some (.loop b) => b
 | _ => .skip
def aAN (root : Code) (pos : List Nat) : Bool := match jG root pos with
 | some (.loop _) => true
 | _ => false
theorem vN {σ : Type} (m : σ -> Nat) (S : σ -> St) (Inv : σ -> Prop) (x : σ) {pos : List Nat} (hl : aAN root pos = true) (h0 : Inv x)
  (round : ∀ x,Inv x -> W R fr n (jZ root pos) (Exit.then (Handed fr n m S Inv x) (ctx R root Q pos)) (.code []) (S x)) : W R fr n root Q (.code pos) (S x) := by
 intro c hcode a w hok
 unfold aAN at hl
 rw [hcode] at hl
 split at hl
 rename_i body hb
 simp only [oIQ] at hb
 subst hb
 have hbody : jZ root pos = body := by unfold jZ; rw [hcode]
 refine R.loop (fun k a w => ∃ y,m y = k /\ Inv y /\ OkS fr n (S y) a w) (m x) ⟨x,rfl,h0,hok⟩ ?_
 rintro k a w ⟨y,rfl,hI,hok⟩
 have := round y hI body (by rw [hbody]; rfl) a w hok
 refine R.mono this ?_
 intro e a' w' hq
 cases e with
 | normal => obtain ⟨z,hz,hI',hf'⟩ := hq; exact ⟨m z,hz,z,rfl,hI',hf'⟩
 | _ => exact hq
 cases hl
theorem roundE {G : List (Nat × List Value)} {pids : List Nat} (hG : FrIs fr G pids) (hm : P.follows .mixedOrders = true) {σ : Type} {m : σ -> Nat} {S : σ -> St} {Inv : σ -> Prop} {x : σ} {Q0 : Exit -> Act -> World -> Prop} {now : Now} {st : St} (hs : dM) (y : σ) (cs : List Prop)
  (h : goS P G pids n root hs 1000 now st (S y) = told (.done .normal) (S y) cs) (hc : conj cs) (hlt : m y < m x) (hI : Inv y) : W R fr n root (Exit.then (Handed fr n m S Inv x) Q0) now st :=
 stepE hG hm hs .normal (S y) cs h hc fun a w hok => ⟨y,hlt,hI,hok⟩
theorem leaveE {G : List (Nat × List Value)} {pids : List Nat} (hG : FrIs fr G pids) (hm : P.follows .mixedOrders = true) {H : Act -> World -> Prop} {root' : Code} {pos : List Nat} {now : Now} {st : St} (hs : dM) (e : Ex) (st' : St) (cs : List Prop)
  (h : goS P G pids n root hs 1000 now st st' = told (.done e) st' cs) (hc : conj cs) (he : e.isNormal = false) (hk : W R fr n root' Q (.exit pos e) st') : W R fr n root (Exit.then H (ctx R root' Q pos)) now st := by
 refine stepE hG hm hs e st' cs h hc fun a w hok => ?_
 have := hk a w hok
 cases e with
 | normal => cases he
 | exit => exact this
 | ret => exact this
end
end Go.V
