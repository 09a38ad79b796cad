/- Part 21 of the proof. -/
import Derived.Test.YtgpedhfdniigoaaGreatDoorP20
set_option linter.all false
namespace Go.V
open Go.RowKit
def aMO (P : Program) (G : List (Nat × List Value)) (lk : Lk) (ob : Own) (x : Tmp) (xs : Array Operand) (nid : Nat) (hint : Hint) : Option Eff :=
 match lk [] (.tmp x) with
 | some (.c (.d (.v (.func (.func f) ⟨[]⟩ ⟨[]⟩)))) => if enters P f then tG P G ob f (eK (xs.toList.map (lk []))) nid hint else none
 | some (.c (.d (.v (.func (.yield l) ⟨[]⟩ ⟨[]⟩)))) => match hint with
  | .callG out rs post => lW (YSpec P G l) ob (eK (xs.toList.map (lk []))) nid out rs post
  | _ => none
 | some (.c (.fn f l m)) => if enters P f then tG P G ob f ((eK (xs.toList.map (lk []))).map fun s => l.map (fun y => .c (.bx y.1 y.2)) ++ s ++ m.map (fun y => .c (.bx y.1 y.2))) nid hint else none
 | _ => none
section
variable {P : Program} {fr : Fr} {own : Own} {a : Act} {w w' : World} {pl : Pl} {o : Oper} {p : Path} {lk : Lk}
theorem tI {l : List (Nat × Nat)} (h : ∀ x ∈ l,∃ ty cs,own x.1 = some (.box ty cs)) : All2 (aV w pl own) (l.map (fun y => SV.c (.bx y.1 y.2))) (l.map (adV pl)) := by
 refine ⟨by simp,fun j x y hx hy => ?_⟩
 simp only [List.getElem?_map,me] at hx hy
 obtain ⟨z,hz,rfl⟩ := hx
 obtain ⟨z',hz',rfl⟩ := hy
 rw [hz] at hz'
 simp only [oIQ] at hz'
 subst hz'
 exact ⟨h z (List.mem_of_getElem? hz),rfl⟩
theorem aMN (m : Mem fr own w pl) (hl : aX a w pl own p lk) (hp : Eng.Holds a p) {x : Tmp} {xs : Array Operand} {ats : Array TypeId} (hop : o.op = .call { callee := .value (.tmp x),args := xs,argTypes := ats }) {ob : Own} {nid : Nat} {hint : Hint} {e : Eff}
  (h : aMO P fr.G lk ob x xs nid hint = some e) (hob : ∀ i ∈ e.touch,own i = ob i) (ho : conj e.obl) : fN P fr own a w pl o e := by
 unfold aMO at h
 split at h
 rename_i f hx
 split at h
 rename_i he
 have hv : a.eval (.tmp x) = .func (.func f) ([] : List Value).toArray ([] : List Value).toArray := Rd.exact (hl [] _ _ hx holds_nil hp)
 refine kE m (vals := xs.toList.map a.eval) (fun svs hs => dL hl hp hs) ?_ h hob ho
 have := nQ (P := P) (w := w) hop hv he
 simpa using this
 cases h
 rename_i l hx
 split at h
 rename_i out rs post
 have hv : a.eval (.tmp x) = .func (.yield l) #[] #[] := Rd.exact (hl [] _ _ hx holds_nil hp)
 exact oK m (vals := xs.toList.map a.eval) (fun svs hs => dL hl hp hs) (aES (u9 hop hv)) h hob ho
 cases h
 rename_i f l c hx
 split at h
 rename_i he
 obtain ⟨hb,hv⟩ := hl [] _ _ hx holds_nil hp
 refine kE m (fun svs hs => ?_) (nQ (P := P) (w := w) hop hv he) h hob ho
 simp only [me] at hs
 obtain ⟨s,hs,rfl⟩ := hs
 exact ((tI fun y hy => hb y (List.mem_append.2 (.inl hy))).append (dL hl hp hs)).append (tI fun y hy => hb y (List.mem_append.2 (.inr hy)))
 cases h
 cases h
end
def aI3 : Hint -> Eff -> Eff
 | .elem _,⟨.c (.ar j k),[(j',.arr k' ⟨el,[]⟩ sz es)],t,c⟩ => if j == j' && k == k' && decide (100 <= j) then ⟨.c (.d (.sl sz es)),[(j,.arr (k + 1) ⟨el,[]⟩ sz [])],t,c⟩ else ⟨.c (.ar j k),[(j',.arr k' ⟨el,[]⟩ sz es)],t,c⟩
 | _,e => e
theorem vQ (hint : Hint) (e : Eff) : (aI3 hint e).touch = e.touch /\ (aI3 hint e).obl = e.obl := by
 unfold aI3
 split
 split <;> exact ⟨rfl,rfl⟩
 exact ⟨rfl,rfl⟩
section
variable {P : Program} {fr : Fr} {own : Own} {a : Act} {w : World} {pl : Pl} {o : Oper}
theorem frz_ok {e : Eff} (h : Does P fr own a w pl o e) (hint : Hint) : Does P fr own a w pl o (aI3 hint e) := by
 unfold aI3
 split
 ·rename_i ds j k j' k' el sz es t c
  split
  ·rename_i hc
   simp only [bIQ,beq_iff_eq,decide_eq_true_eq] at hc
   obtain ⟨⟨rfl,rfl⟩,h100⟩ := hc
   intro K Q hK
   refine h K Q fun v w' pl' m' L hv => ?_
   have hj : (aY own [(j,.arr k ⟨el,[]⟩ sz es)]) j = some (.arr k ⟨el,[]⟩ sz es) := upd_same _ _ _
   obtain ⟨xs,hx,hr,hs⟩ := m'.obj j _ hj
   obtain ⟨pl2,m2,L2,hA⟩ := m'.turnArr (k' := k + 1) (es' := []) (A := none) (cap := 0) (xs := []) hj (World.grownBy.refl w' _) (World.ownsRow_nil w' _ _ _) (.inr (fun ad h => by cases h)) All2.nil (fun ds h => by cases h) (.inl (by omega))
   have e1 : aY own [(j,.arr (k + 1) ⟨el,[]⟩ sz [])] = upd (aY own [(j,.arr k ⟨el,[]⟩ sz es)]) j (.arr (k + 1) ⟨el,[]⟩ sz []) := by
    funext i
    simp only [aY,upd]
    split <;> rfl
   have same : ∀ i,i ≠ j -> upd (aY own [(j,.arr k ⟨el,[]⟩ sz es)]) j (.arr (k + 1) ⟨el,[]⟩ sz []) i = aY own [(j,.arr k ⟨el,[]⟩ sz es)] i := fun i hi => upd_ne _ _ hi
   have hblk : ∀ b,(pl'.sl j).1.map (·.block) = some b -> Sh pl2 (upd (aY own [(j,.arr k ⟨el,[]⟩ sz es)]) j (.arr (k + 1) ⟨el,[]⟩ sz [])) b := by
    intro b hb
    have hbj : aM pl' (aY own [(j,.arr k ⟨el,[]⟩ sz es)]) j = some b := by unfold aM; rw [hj]; exact hb
    refine ⟨?_,fun i hi => ?_⟩
    ·rcases m'.base j b hbj with h2 | h2
     ·exact (m2.hS b).2 (.inr h2)
     ·exact absurd (m'.frOk.few j b h2) (by omega)
    ·by_cases hij : i = j
     ·subst hij
      unfold aM at hi
      rw [upd_same,hA] at hi
      cases hi
     ·have hi' : aM pl' (aY own [(j,.arr k ⟨el,[]⟩ sz es)]) i = some b := by
       unfold aM at hi ⊢
       rw [same i hij] at hi
       cases ho : aY own [(j,.arr k ⟨el,[]⟩ sz es)] i with
       | none => rw [ho] at hi; cases hi
       | some ob =>
        rw [ho] at hi
        cases ob with
        | box ty cs =>
         obtain ⟨_,hb2⟩ := L2.bx i ty cs ho
         rw [hb2] at hi; exact hi
        | arr k9 e9 sz9 es9 =>
         obtain ⟨k8,e8,sz8,es8,ho8,_,h8⟩ := L2.ar i k9 e9 sz9 es9 ho
         rw [same i hij,ho] at ho8
         simp only [oIQ,Ob.arr.injEq] at ho8
         obtain ⟨rfl,_,_,_⟩ := ho8
         rw [(h8 rfl).2.2] at hi; exact hi
      exact hij (m'.inj i j b hi' hbj)
   rw [e1] at hK
   refine hK v w' pl2 m2 ⟨fun b hb hS => ?_,fun i ty cs hi => ?_,fun i k9 e9 sz9 es9 hi => ?_⟩ ?_
   ·obtain ⟨h1,h2⟩ := L.sh b hb hS
    have hlt : b < w'.heap.size := by
     have : w.heap.size <= w'.heap.size \/ w'.heap.size < w.heap.size := by omega
     rcases this with h3 | h3
     ·omega
     ·rw [Array.getElem?_eq_getElem hb] at h1
      exact (Array.getElem?_eq_some_iff.1 h1).1
    obtain ⟨h4,h5⟩ := L2.sh b hlt h2
    exact ⟨h4.trans h1,h5⟩
   ·obtain ⟨⟨ty2,cs2,h1⟩,h2⟩ := L.bx i ty cs hi
    obtain ⟨h3,h4⟩ := L2.bx i ty2 cs2 h1
    exact ⟨h3,h4.trans h2⟩
   ·obtain ⟨k2,e2,sz2,es2,h1,h2,h3⟩ := L.ar i k9 e9 sz9 es9 hi
    obtain ⟨k3,e3,sz3,es3,h4,h5,h6⟩ := L2.ar i k2 e2 sz2 es2 h1
    refine ⟨k3,e3,sz3,es3,h4,by omega,fun h7 => ?_⟩
    obtain ⟨a1,a2,a3⟩ := h3 (by omega)
    obtain ⟨b1,b2,b3⟩ := h6 (by omega)
    exact ⟨b1.trans a1,b2.trans a2,b3.trans a3⟩
   ·rcases hv with hv | hv
    ·exact .inl hv
    ·right
     obtain ⟨k2,e2,sz2,es2,h1,_,h3,_⟩ := hv
     rw [hj] at h1
     simp only [oIQ,Ob.arr.injEq] at h1
     obtain ⟨rfl,rfl,rfl,rfl⟩ := h1
     rw [h3 rfl]
     exact nS hx hblk ((AllO.pure hr).mono fun _ _ hh => L2.rd hh) hs
  ·exact h
 ·exact h
end
def opE0 (P : Program) (G : List (Nat × List Value)) (lk : Lk) (ob : Own) (o : Oper) (nid : Nat) (hint : Hint) : Option Eff :=
 match o.op with
 | .move x | .assign x => match lk [] x with
  | some s => some ⟨s,[],[],[]⟩
  | none => none
 | .pick (.tmp c) x y => aKW lk c x y
 | .extract x k => aL6 lk x k
 | .field t x f => aF1 P lk o t x f
 | .load t x => aLO P G lk ob t x hint
 | .nilCheck x => nilE P lk o x
 | .fieldAddr s x f => aF2 P lk ob s x f
 | .indexAddr t x i => aFR P lk ob t x i hint
 | .index t x i => aFN P lk o t x i
 | .slice t x lo hi none => aEQ P lk t x lo hi
 | .binOp op t x y _ => binE P lk o op t x y
 | .convert s d x => aMJ P lk ob o s d x hint
 | .box _ _ => newE P lk ob o.op nid
 | .alloc _ => newE P lk ob o.op nid
 | .store ty x v => match o.dst with
  | none => match aEL P lk ob ty x v with
   | some e => some e
   | none => aEM P lk ob ty x v hint
  | some _ => none
 | .build t parts => aGF P lk t parts
 | .buildSlice T len parts => bslE P lk ob T len parts nid hint
 | .call { callee := .builtin .len,args := ⟨[x]⟩,argTypes := ⟨[t]⟩ } => lenE P lk ob o t x
 | .call { callee := .builtin .append,args := ⟨[s,x]⟩,argTypes := ⟨[T,T']⟩ } => if T == T' then (match appE P lk ob T s x nid with | some e => some (aI3 hint e) | none => appV P lk ob T s x nid) else none
 | .call { callee := .value (.func f),args := xs,argTypes := _ } => if enters P f then tG P G ob f (eK (xs.toList.map (lk []))) nid hint else none
 | .call { callee := .value (.tmp x),args := xs,argTypes := _ } => aMO P G lk ob x xs nid hint
 | _ => aAR P lk o
section
variable {P : Program} {fr : Fr} {own : Own} {a : Act} {w w' : World} {pl : Pl} {o : Oper} {p : Path} {lk : Lk}
theorem opE0_ok (m : Mem fr own w pl) (hl : aX a w pl own p lk) (hp : Eng.Holds a p) {ob : Own} {nid : Nat} {hint : Hint} {e : Eff} (h : opE0 P fr.G lk ob o nid hint = some e) (hob : ∀ i ∈ e.touch,own i = ob i) (ho : conj e.obl) : fN P fr own a w pl o e := by
 unfold opE0 at h
 split at h
 case h_1 =>
  rename_i x hop
  split at h
  ·rename_i s hs; simp only [oIQ] at h; subst h; exact (aG7 m hl hp (.inl hop) hs).x
  ·cases h
 case h_2 =>
  rename_i x hop
  split at h
  ·rename_i s hs; simp only [oIQ] at h; subst h; exact (aG7 m hl hp (.inr hop) hs).x
  ·cases h
 case h_3 => rename_i c x y hop; exact (aKV m hl hp hop h).x
 case h_4 => rename_i x k hop; exact (aL5 m hl hp hop h).x
 case h_5 => rename_i t x f hop; exact (aI4 m hl hp hop h).x
 case h_6 => rename_i t x hop; exact (aLN m hl hp hop h hob ho).x
 case h_7 => rename_i x hop; exact (nilE_ok m hl hp hop h).x
 case h_8 => rename_i s x f hop; exact (aI5 m hl hp hop h hob).x
 case h_9 => rename_i t x i hop; exact (aIY m hl hp hop h hob ho).x
 case h_10 => rename_i t x i hop; exact (aIX m hl hp hop h ho).x
 case h_11 => rename_i t x lo hi hop; exact (aID m hl hp hop h ho).x
 case h_12 => rename_i op t x y ty hop; exact (binE_ok m hl hp hop h ho).x
 case h_13 => rename_i s d x hop; exact (aMI m hl hp hop h hob ho).x
 case h_14 => exact (aG5 m hl hp h hob).x
 case h_15 => exact (aG5 m hl hp h hob).x
 case h_16 =>
  rename_i ty x v hop
  split at h
  ·rename_i hd
   split at h
   ·rename_i e' he; simp only [oIQ] at h; subst h; exact (aH9 m hl hp hop hd he hob).x
   ·exact (aIA m hl hp hop hd h hob).x
  ·cases h
 case h_17 => rename_i t parts hop; exact (aJF m hl hp hop h).x
 case h_18 => rename_i T len parts hop; exact (bslE_ok m hl hp hop h hob).x
 case h_19 => rename_i x t hop; exact (lenE_ok m hl hp hop h hob).x
 case h_20 =>
  rename_i s x T T' hop
  split at h
  ·rename_i hT
   simp only [beq_iff_eq] at hT
   subst hT
   split at h
   ·rename_i e' he; simp only [oIQ] at h; subst h; exact (frz_ok (appE_ok m hl hp hop he (fun i hi => hob i (by rw [(vQ hint e').1]; exact hi)) (by rw [(vQ hint e').2] at ho; exact ho)) hint).x
   ·exact (appV_ok m hl hp hop h hob ho).x
  ·cases h
 case h_21 =>
  rename_i f xs ats hop
  split at h
  ·rename_i he; exact kE m (fun svs hs => dL hl hp hs) (nR hop he) h hob ho
  ·cases h
 case h_22 =>
  rename_i x xs ats hop
  exact aMN m hl hp hop h hob ho
 case h_23 => exact (i7 m hl hp h).x
def opE1 (P : Program) (G : List (Nat × List Value)) (lk : Lk) (ob : Own) (o : Oper) (nid : Nat) (hint : Hint) : Option Eff := match opX P lk ob o nid hint with
 | some e => some e
 | none => match opN P G lk ob o nid hint with
  | some e => some e
  | none => match opY P lk ob o nid hint with
   | some e => some e
   | none => match opE0 P G lk ob o nid hint with
    | some e => some e
    | none => opJ P G lk ob o nid hint
theorem opE1_ok (m : Mem fr own w pl) (hl : aX a w pl own p lk) (hp : Eng.Holds a p) {ob : Own} {nid : Nat} {hint : Hint} {e : Eff} (h : opE1 P fr.G lk ob o nid hint = some e) (hob : ∀ i ∈ e.touch,own i = ob i) (ho : conj e.obl) : fN P fr own a w pl o e := by
 unfold opE1 at h
 split at h
 rename_i e' h1
 simp only [oIQ] at h
 subst h
 exact (opX_ok m hl hp h1 hob ho).x
 split at h
 rename_i e' h1
 simp only [oIQ] at h
 subst h
 exact opN_ok m hl hp h1 hob ho
 split at h
 rename_i e' h1
 simp only [oIQ] at h
 subst h
 exact (opY_ok m hl hp h1 hob ho).x
 split at h
 rename_i e' h1
 simp only [oIQ] at h
 subst h
 exact opE0_ok m hl hp h1 hob ho
 exact opJ_ok m hl hp h hob ho
def opE (P : Program) (G : List (Nat × List Value)) (lk : Lk) (ob : Own) (o : Oper) (nid : Nat) (hint : Hint) : Option Eff := match opK P lk ob o nid hint with
 | some e => some e
 | none => opE1 P G lk ob o nid hint
theorem nU (m : Mem fr own w pl) (hl : aX a w pl own p lk) (hp : Eng.Holds a p) {ob : Own} {nid : Nat} {hint : Hint} {e : Eff} (h : opE P fr.G lk ob o nid hint = some e) (hob : ∀ i ∈ e.touch,own i = ob i) (ho : conj e.obl) : fN P fr own a w pl o e := by
 unfold opE at h
 split at h
 rename_i e' h1
 simp only [oIQ] at h
 subst h
 exact (opK_ok m hl hp h1 hob ho).x
 exact opE1_ok m hl hp h hob ho
end
abbrev cO := List (Nat × Path × SV)
abbrev bR := List (Nat × Ob)
def aL : cO -> Env
 | [],_ => none
 | (u,x) :: r,t => if u == t then some x else aL r t
def aKS (env : cO) (t : Nat) (x : Path × SV) : cO := (t,x) :: env.filter (fun e => !(e.1 == t))
def aBC : bR -> List (Nat × Ob) -> bR
 | own,[] => own
 | own,(i,o) :: r => aBC ((i,o) :: own.filter (fun e => !(e.1 == i))) r
theorem aAU (env : cO) (t u : Nat) (h : u ≠ t) : aL (env.filter (fun e => !(e.1 == t))) u = aL env u := by
 induction env with
 | nil => rfl
 | cons e r ih =>
  simp only [List.filter_cons]
  by_cases he : e.1 = t
  have h1 : (e.1 == t) = true := by simpa using he
  have h2 : (e.1 == u) = false := by simp; rw [he]; exact fun h' => h h'.symm
  simp only [h1,Bool.not_true,Bool.false_eq_true,if_false,ih,aL,h2]
  have h1 : (e.1 == t) = false := by simpa using he
  simp only [h1,Bool.not_false,if_true,aL,ih]
theorem s4 (env : cO) (t : Nat) (x : Path × SV) : aL (aKS env t x) = upd (aL env) t x := by
 funext u
 by_cases h : u = t
 subst h; simp [aKS,aL,upd]
 have h1 : (t == u) = false := by simp; exact fun h' => h h'.symm
 simp only [aKS,aL,h1,Bool.false_eq_true,if_false,upd_ne _ _ h]
 exact aAU env t u h
theorem aAI (own : bR) (t u : Nat) (h : u ≠ t) : lookO (own.filter (fun e => !(e.1 == t))) u = lookO own u := by
 induction own with
 | nil => rfl
 | cons e r ih =>
  simp only [List.filter_cons]
  by_cases he : e.1 = t
  have h1 : (e.1 == t) = true := by simpa using he
  have h2 : (e.1 == u) = false := by simp; rw [he]; exact fun h' => h h'.symm
  simp only [h1,Bool.not_true,Bool.false_eq_true,if_false,ih,lookO,h2]
  have h1 : (e.1 == t) = false := by simpa using he
  simp only [h1,Bool.not_false,if_true,lookO,ih]
theorem gX : ∀ (l : List (Nat × Ob)) (own : bR),lookO (aBC own l) = aY (lookO own) l
 | [],own => rfl
 | (i,o) :: r,own => by
  simp only [aBC,aY]
  rw [gX r]
  congr 1
  funext u
  by_cases h : u = i
  subst h; simp [lookO,upd]
  have h1 : (i == u) = false := by simp; exact fun h' => h h'.symm
  simp only [lookO,h1,Bool.false_eq_true,if_false,upd_ne _ _ h]
  exact aAI own i u h
def pathOf (ops : Array Oper) (env : Env) (o : Oper) : Option Path :=
 match o.guard with
 | none => some []
 | some (j,want) =>
  match (ops[j]?).bind (·.dst) with
  | none => none
  | some g => match env g with
   | some (p,.c (.d (.v (.bool _)))) => some ((g,want) :: p)
   | _ => none
section
variable {P : Program} {fr : Fr} {n : Nat} {env : Env} {own : Own} {a : Act} {w w' : World} {pl : Pl} {o : Oper} {p : Path} {ops : Array Oper}
theorem gK (h : Ok fr n env own a w pl) (hp : pathOf ops env o = some p) : Region.wanted o (yielded ops a.tmps) = true ↔ Eng.Holds a p := by
 unfold pathOf at hp
 unfold Region.wanted
 split at hp
 rename_i hg
 simp only [oIQ] at hp
 subst hp
 simp [hg,Eng.Holds]
 rename_i j want hg
 simp only [hg]
 split at hp
 cases hp
 rename_i g hd
 split at hp
 rename_i q b hfd
 simp only [oIQ] at hp
 subst hp
 unfold yielded
 rw [hd]
 simp only [Option.bind_some]
 by_cases hq : Eng.Holds a q
 have : a.tmps.getD g undef = .bool b := Rd.exact (h.yes g q _ hfd hq)
 rw [Eng.getD_of_size this (by simp [undef])]
 simp only [beq_iff_eq,oIQ]
 constructor
 intro hb x hx
 simp only [mc] at hx
 rcases hx with rfl | hx
 simp only []; rw [this,hb]
 exact hq x hx
 intro hh
 have h0 := hh (g,want) (by simp)
 simp only [] at h0
 rw [this] at h0
 injection h0
 have := h.no g q _ hfd hq
 constructor
 intro hw
 exfalso
 rw [Array.getD_eq_getD_getElem?] at this
 cases hh : a.tmps[g]? with
 | none => rw [hh] at hw; simp at hw
 | some x =>
  rw [hh] at this hw
  simp only [Option.getD_some] at this
  subst this
  simp [undef] at hw
 intro hh; exact absurd (fun x hx => hh x (by simp [hx])) hq
 cases hp
def closed (env : Env) (p : Path) : Bool := p.all fun x => match env x.1 with
 | some (q,.c (.d (.v (.bool _)))) => Eng.sub q p
 | _ => false
def imp (env : Env) : Path -> Prop -> Prop
 | [],c => c
 | x :: r,c => match env x.1 with
  | some (_,.c (.d (.v (.bool b)))) => b = x.2 -> imp env r c
  | _ => imp env r c
theorem aAO (h : Ok fr n env own a w pl) (hp : Eng.Holds a p) (hc : closed env p = true) {c : Prop} : ∀ q : Path,(∀ x ∈ q,x ∈ p) -> imp env q c -> c
 | [],_,h => h
 | x :: r,hq,hi => by
  have hx : x ∈ p := hq x (by simp)
  have hr := aAO h hp hc (c := c) r (fun y hy => hq y (by simp [hy]))
  simp only [closed,at1] at hc
  have h1 := hc x hx
  unfold imp at hi
  split at hi
  rename_i q b hfd
  rw [hfd] at h1
  simp only [] at h1
  have h2 : a.tmps.getD x.1 undef = .bool b := Rd.exact (h.yes x.1 q _ hfd (Eng.sub_holds h1 hp))
  rw [hp x hx] at h2
  simp only [Value.bool.injEq] at h2
  exact hr (hi h2.symm)
  exact hr hi
theorem n0 {env' : Env} : ∀ (q : Path) {c : Prop},(∀ x ∈ q,env' x.1 = env x.1) -> imp env' q c = imp env q c
 | [],c,_ => rfl
 | x :: r,c,h => by
  unfold imp
  rw [h x (by simp),n0 r (fun y hy => h y (by simp [hy]))]
def gW (env : Env) (p : Path) : Lk := fun q x => match x with
 | .tmp t => match env t with
  | some (r,sv) => if Eng.sub r (q ++ p) then some sv else none
  | none => none
 | .const v => ofV v
 | .global g => some (.c (.pg g 0))
 | .func f => some (.c (.d (.v (.func (.func f) #[] #[]))))
theorem gN (h : Ok fr n env own a w pl) (p : Path) : aX a w pl own p (gW env p) := by
 intro q x sv hs hq hp
 unfold gW at hs
 split at hs
 rename_i t
 split at hs
 rename_i r sv' hfd
 split at hs
 rename_i hsub
 simp only [oIQ] at hs
 subst hs
 refine h.yes t r _ hfd (Eng.sub_holds hsub ?_)
 intro y hy
 rcases List.mem_append.1 hy with hy | hy
 exact hq y hy
 exact hp y hy
 cases hs
 cases hs
 exact lM hs
 simp only [oIQ] at hs; subst hs; rfl
 simp only [oIQ] at hs; subst hs; exact Rd.v _ rfl
end
end Go.V
