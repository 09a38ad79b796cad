/- Part 4 of the proof. -/
import Derived.Test.YtgpedhfdniigoaaGreatDoorP3
import Derived.RangeFuncRecord
import Derived.OrdersIn
set_option linter.all false
namespace Go.V
open Go.RowKit
structure Obl where
 p : Prop
 b : Bool
 h : b = true -> p
 k : Bool
def Obl.of (p : Prop) [Decidable p] : Obl := ⟨p,decide p,of_decide_eq_true,false⟩
def Obl.un (p : Prop) : Obl := ⟨p,false,fun h => (by cases h),false⟩
def Obl.call (p : Prop) : Obl := ⟨p,false,fun h => (by cases h),true⟩
instance (p : Prop) [Decidable p] : CoeDep Prop p Obl := ⟨.of p⟩
instance (x : Int) : Decidable (Eng.inR x) := by unfold Eng.inR; infer_instance
def pOf (l : List Obl) : List Prop := l.map (·.p)
structure Eff where
 sv : SV
 upd : List (Nat × Ob)
 touch : List Nat
 obs : List Obl
def Eff.obl (e : Eff) : List Prop := pOf e.obs
def aY (own : Own) : List (Nat × Ob) -> Own
 | [] => own
 | (i,o) :: r => aY (upd own i o) r
abbrev Lk := Path -> Operand -> Option SV
def aX (a : Act) (w : World) (pl : Pl) (own : Own) (p : Path) (lk : Lk) : Prop := ∀ q x sv,lk q x = some sv -> Eng.Holds a q -> Eng.Holds a p -> aV w pl own sv (a.eval x)
def Does (P : Program) (fr : Fr) (own : Own) (a : Act) (w : World) (pl : Pl) (o : Oper) (e : Eff) : Prop :=
 ∀ (K : Act -> World -> Prop) (Q : Exit -> Act -> World -> Prop),(∀ v w' pl',Mem fr (aY own e.upd) w' pl' -> Later w pl own w' pl' (aY own e.upd) -> (o.dst = none \/ aV w' pl' (aY own e.upd) e.sv v) -> K (a.put o.dst v) w') -> o.wp P a w K Q
def OpW (P : Program) (o : Oper) (a : Act) (w : World) (K : Act -> World -> Prop) : Prop :=
 (∀ Q : Exit -> Act -> World -> Prop,o.wp P a w K Q) \/
 ∃ (l : Nat) (f : FuncId) (tmps : Array Value) (assign body : Code),(execOp a.eval o).run P w = .ok (.round l f tmps assign body) w /\ RoundIn Fence.wide 0 P l f tmps assign body w (fun e w' => ∃ v,e = .returned v /\ K (a.put o.dst v) w')
def fN (P : Program) (fr : Fr) (own : Own) (a : Act) (w : World) (pl : Pl) (o : Oper) (e : Eff) : Prop :=
 ∀ (K : Act -> World -> Prop),(∀ v w' pl',Mem fr (aY own e.upd) w' pl' -> Later w pl own w' pl' (aY own e.upd) -> (o.dst = none \/ aV w' pl' (aY own e.upd) e.sv v) -> K (a.put o.dst v) w') -> OpW P o a w K
theorem Does.x {P : Program} {fr : Fr} {own : Own} {a : Act} {w : World} {pl : Pl} {o : Oper} {e : Eff} (h : Does P fr own a w pl o e) : fN P fr own a w pl o e := fun K hK => .inl fun Q => h K Q hK
theorem OpW.mono {P : Program} {o : Oper} {a : Act} {w : World} {K K' : Act -> World -> Prop} (hk : ∀ a w,K a w -> K' a w) (h : OpW P o a w K) : OpW P o a w K' := by
 rcases h with h | ⟨l,f,tmps,assign,body,h1,h2⟩
 refine .inl fun Q => ?_
 have := h Q
 unfold Oper.wp Oper.upon at this ⊢
 split at this
 exact hk _ _ this
 exact hk _ _ this
 exact hk _ _ this
 refine Calls.mono this fun e w' he => ?_
 cases e with
 | returned v => exact hk _ _ he
 | panicked c => exact he
 | outgrown => exact he
 exact Rows.mono this fun v w' he => hk _ _ he
 exact this
 exact this.elim
 exact .inr ⟨l,f,tmps,assign,body,h1,h2.mono fun e w' ⟨v,he,hK⟩ => ⟨v,he,hk _ _ hK⟩⟩
def fK (P : Program) (ops : Array Oper) (i : Nat) (K : Act -> World -> Prop) (a : Act) (w : World) : Prop :=
 match ops[i]? with
 | none => K a w
 | some o => if Region.wanted o (yielded ops a.tmps) then OpW P o a w K else K (a.put o.dst undef) w
def dR (P : Program) (ops : Array Oper) (K : Act -> World -> Prop) : List Nat -> Act -> World -> Prop
 | [],a,w => K a w
 | i :: r,a,w => fK P ops i (dR P ops K r) a w
theorem aEF {P : Program} {ops : Array Oper} {i : Nat} {K K' : Act -> World -> Prop} {a : Act} {w : World} (hk : ∀ a w,K a w -> K' a w) (h : fK P ops i K a w) : fK P ops i K' a w := by
 unfold fK at h ⊢
 cases ho : ops[i]? with
 | none => simp only [ho] at h ⊢; exact hk _ _ h
 | some o =>
  simp only [ho] at h ⊢
  by_cases hw : Region.wanted o (yielded ops a.tmps) = true
  rw [if_pos hw] at h ⊢; exact h.mono hk
  rw [if_neg hw] at h ⊢; exact hk _ _ h
def rA (P : Program) (md : Region.Mode) (ops : Array Oper) (K : Act -> World -> Prop) : Nat -> Array Bool -> Act -> World -> Prop
 | 0,listed,a,w => Region.ready md ops listed = [] /\ K a w
 | fuel + 1,listed,a,w => (Region.ready md ops listed = [] -> K a w) /\ ∀ i ∈ Region.ready md ops listed,fK P ops i (rA P md ops K fuel (listed.setIfInBounds i true)) a w
theorem lX {P : Program} {md : Region.Mode} {ops : Array Oper} {K : Act -> World -> Prop} : ∀ (fuel t : Nat) (listed : Array Bool) (a : Act) (w : World),rA P md ops K fuel listed a w -> dR P ops K (Region.linearise.go md ops fuel t listed []) a w := by
 intro fuel
 induction fuel with
 | zero => intro t listed a w h; simpa [Region.linearise.go,dR] using h.2
 | succ fuel ih =>
  intro t listed a w h
  obtain ⟨h0,h1⟩ := h
  simp only [Region.linearise.go]
  change dR P ops K (match (Region.ready md ops listed)[t % (Region.ready md ops listed).length]? with
   | some i => Region.linearise.go md ops fuel (t / (Region.ready md ops listed).length) (listed.setIfInBounds i true) [i]
   | none => [].reverse) a w
  cases hi : (Region.ready md ops listed)[t % (Region.ready md ops listed).length]? with
  | none =>
   have hnil : Region.ready md ops listed = [] := by
    cases hr : Region.ready md ops listed with
    | nil => rfl
    | cons x xs =>
     rw [hr] at hi
     have hlt : t % (x :: xs).length < (x :: xs).length := Nat.mod_lt _ (by simp)
     simp at hi
     simp at hlt
     omega
   simpa [dR] using h0 hnil
  | some i =>
   simp only []
   rw [linearise_go_acc,List.reverse_singleton,List.singleton_append]
   exact aEF (fun a w => ih _ _ a w) (h1 i (List.mem_of_getElem? hi))
def qV : Op -> Bool
 | .defer _ => true
 | _ => false
def d3 (ops : Array Oper) : Bool := ops.toList.all fun o => !qV o.op
def onlyN (K : Act -> World -> Prop) : Exit -> Act -> World -> Prop
 | .normal,a,w => K a w
 | _,_,_ => False
theorem mR {Q : Exit -> Act -> World -> Prop} (e : Exit) (a : Act) (w : World) (h : onlyN (Q .normal) e a w) : Q e a w := by
 cases e with
 | normal => exact h
 | _ => exact h.elim
def dV : Option Nat -> Fence
 | none => Fence.wide
 | some l => Fence.wide.inRound l
theorem gY (q : Option Nat) : (dV q).round = q := by cases q <;> rfl
theorem sX (q : Option Nat) (f : FuncId) : (dV q).fn f := by cases q <;> trivial
theorem aDQ (q : Option Nat) : (dV q).depth = none := by cases q <;> rfl
theorem aDR {P : Program} (q : Option Nat) {n : Nat} {f : FuncId} {args : Array Value} {w : World} {R : Ending -> World -> Prop} (h : Calls P f args w R) : CallsIn (dV q) n P f args w R := by
 cases q with
 | none => exact callsIn_wide.2 h
 | some l => exact callsIn_wide (n := n).2 h
theorem aFW {P : Program} (q : Option Nat) {n : Nat} {row : String} {args : Array Value} {w : World} {R : Value -> World -> Prop} (h : Rows P row args w R) : RowsIn (dV q) n P row args w R := by
 have : RowsIn Fence.wide n P row args w R := fun c cs _ => let ⟨v,w',h1,h2⟩ := h c cs; ⟨v,w',h1,stepsIn_wide.2 h2⟩
 cases q with
 | none => exact this
 | some l => exact this
theorem aAS {P : Program} (q : Option Nat) {n l : Nat} {f : FuncId} {tmps : Array Value} {assign body : Code} {w : World} {R : Ending -> World -> Prop} (h : RoundIn Fence.wide 0 P l f tmps assign body w R) : RoundIn (dV q) n P l f tmps assign body w R := by
 have : RoundIn Fence.wide n P l f tmps assign body w R := ⟨h.1,fun c cs _ => h.2 c cs (room_wide _)⟩
 cases q with
 | none => exact this
 | some l => exact this
theorem aK3 {P : Program} (q : Option Nat) {o : Oper} {a : Act} {w : World} {K : Act -> World -> Prop} (hnd : qV o.op = false) (h : OpW P o a w K) {Q : Exit -> Act -> World -> Prop} : o.wpIn (dV q) 0 P a w K Q := by
 refine ⟨fun f _ => sX q f,?_⟩
 have hsem : Oper.semAt (dV q).round a.eval o = execOp a.eval o := by
  rw [gY]
  cases q with
  | none => rfl
  | some l =>
   unfold Oper.semAt
   split
   rename_i h1; rw [h1] at hnd; cases hnd
   rfl
 rw [hsem]
 have hd : ∀ m : Nat,((dV q).depth.isSome = true -> 1 <= m) := fun m h => by rw [aDQ] at h; cases h
 rcases h with h | ⟨l,f,tmps,assign,body,h1,h2⟩
 have := h Q
 unfold Oper.wp at this
 generalize (execOp a.eval o).run P w = r at this ⊢
 unfold Oper.upon at this
 split at this
 exact this
 exact this
 exact this
 exact ⟨hd _,aDR q this⟩
 exact ⟨hd _,aFW q this⟩
 exact this
 exact this.elim
 rw [h1]
 refine ⟨hd _,(aAS q h2).mono fun e w' ⟨v,he,hK⟩ => ?_⟩
 subst he
 exact hK
theorem iW {P : Program} (q : Option Nat) {ops : Array Oper} {K : Act -> World -> Prop} (hnd : d3 ops = true) : ∀ {l : List Nat} {a : Act} {w : World},dR P ops K l a w -> wpOpsIn (dV q) 0 P ops (onlyN K) l a w
 | [],a,w,h => h
 | i :: r,a,w,h => by
  simp only [dR,fK] at h
  simp only [wpOpsIn]
  cases ho : ops[i]? with
  | none => simp only [ho] at h; exact iW q hnd h
  | some o =>
   simp only [ho] at h
   have hmem : o ∈ ops.toList := by
    rw [List.mem_iff_getElem?]
    exact ⟨i,by simpa using ho⟩
   have hdo : qV o.op = false := by
    have := at1.1 hnd o hmem
    simpa using this
   by_cases hw : Region.wanted o (yielded ops a.tmps) = true
   rw [if_pos hw] at h
   simp only [if_pos hw]
   exact aK3 q hdo (h.mono fun a w h => iW q hnd h)
   rw [if_neg hw] at h
   simp only [if_neg hw]
   exact ⟨fun f _ => sX q f,iW q hnd h⟩
def conj : List Prop -> Prop
 | [] => True
 | [c] => c
 | c :: r => c /\ conj r
theorem eZ {c : Prop} {r : List Prop} (h : conj (c :: r)) : c /\ conj r := by
 cases r with
 | nil => exact ⟨h,trivial⟩
 | cons d r => exact h
def exC : C -> Option Value
 | .d (.v x) => some x
 | .pg g off => some (.pointer (some ⟨g,off,none⟩))
 | _ => none
def exL : List C -> Option (List Value)
 | [] => some []
 | c :: r => match exC c,exL r with
  | some x,some l => some (x :: l)
  | _,_ => none
def exS : SV -> Option Value
 | .c c => exC c
 | .agg cs => match exL cs with
  | some l => some (.agg l.toArray)
  | none => none
 | .tup _ => none
def eF : List Value -> Option (List C)
 | [] => some []
 | x :: r => if x.oneCell' then match eF r with
   | some l => some (.d (.v x) :: l)
   | none => none
  else none
def ofV : Value -> Option SV
 | .agg cs => match eF cs.toList with
  | some l => some (.agg l)
  | none => none
 | .tuple _ => none
 | v => some (.c (.d (.v v)))
section
variable {P : Program} {fr : Fr} {own : Own} {a : Act} {w w' : World} {pl : Pl} {o : Oper} {p : Path} {lk : Lk}
theorem aMA {c : C} {x v : Value} (h : exC c = some x) (hv : COk w pl own c v) : v = x := by
 unfold exC at h
 split at h
 simp only [oIQ] at h; subst h; exact Rd.exact hv
 simp only [oIQ] at h; subst h; exact hv
 cases h
theorem aL9 : ∀ {cs : List C} {l vs : List Value},exL cs = some l -> All2 (COk w pl own) cs vs -> vs = l
 | [],l,vs,h,hv => by simp only [exL,oIQ] at h; subst h; exact hv.unnil
 | c :: r,l,vs,h,hv => by
  simp only [exL] at h
  split at h
  rename_i x l' hx hl
  simp only [oIQ] at h
  subst h
  obtain ⟨y,r',rfl,h1,h2⟩ := hv.uncons
  rw [aMA hx h1,aL9 hl h2]
  cases h
theorem aL7 {s : SV} {x v : Value} (h : exS s = some x) (hv : aV w pl own s v) : v = x := by
 cases s with
 | c c => exact aMA h hv
 | agg cs =>
  simp only [exS] at h
  split at h
  rename_i l hl
  simp only [oIQ] at h
  subst h
  obtain ⟨vs,rfl,h2⟩ := hv
  rw [aL9 hl h2]
  cases h
 | tup => simp [exS] at h
theorem c9 : ∀ {vs : List Value} {l : List C},eF vs = some l -> All2 (COk w pl own) l vs
 | [],l,h => by simp only [eF,oIQ] at h; subst h; exact All2.nil
 | x :: r,l,h => by
  simp only [eF] at h
  split at h
  rename_i hx
  split at h
  rename_i l' hl
  simp only [oIQ] at h
  subst h
  exact All2.cons (Rd.v x hx) (c9 hl)
  cases h
  cases h
theorem lM {v : Value} {s : SV} (h : ofV v = some s) : aV w pl own s v := by
 unfold ofV at h
 split at h
 rename_i cs
 split at h
 rename_i l hl
 simp only [oIQ] at h
 subst h
 exact ⟨cs.toList,by simp,c9 hl⟩
 cases h
 cases h
 rename_i h1 h2
 simp only [oIQ] at h
 subst h
 refine Rd.v v ?_
 cases v <;> first | rfl | (exfalso; first | exact h1 _ rfl | exact h2 _ rfl)
theorem aJ {v : Value} {s : SV} {t : List Nat} {c : List Obl} (m : Mem fr own w pl) (hr : (execOp a.eval o).run P w = .ok (.value v) w) (hs : aV w pl own s v) : Does P fr own a w pl o ⟨s,[],t,c⟩ := by
 intro K Q hK
 unfold Oper.wp
 rw [hr,Oper.upon_value]
 exact hK v w pl m (Later.refl _ _ _) (.inr hs)
def exO (lk : Lk) (q : Path) (x : Operand) : Option Value := match lk q x with
 | some s => exS s
 | none => none
theorem bD (hl : aX a w pl own p lk) (hp : Eng.Holds a p) {q : Path} (hq : Eng.Holds a q) {x : Operand} {v : Value} (h : exO lk q x = some v) : a.eval x = v := by
 unfold exO at h
 split at h
 rename_i s hs; exact aL7 h (hl q x s hs hq hp)
 cases h
theorem holds_nil {a : Act} : Eng.Holds a [] := by simp [Eng.Holds]
def aAR (P : Program) (lk : Lk) (o : Oper) : Option Eff :=
 if Eng.noSel o.op && o.op.operands.toList.all (fun x => (exO lk [] x).isSome) then
  match Eng.red P (execOp (fun x => (exO lk [] x).getD undef) o) with
  | some (.value v) => match ofV v with
   | some s => some ⟨s,[],[],[]⟩
   | none => none
  | _ => none
 else none
theorem gen_run (hl : aX a w pl own p lk) (hp : Eng.Holds a p) (hb : (Eng.noSel o.op && o.op.operands.toList.all (fun x => (exO lk [] x).isSome)) = true) : execOp (fun x => (exO lk [] x).getD undef) o = execOp a.eval o := by
 simp only [bIQ,at1,Array.mem_toList_iff] at hb
 refine execOp_congr o (fun cs b hs => by rw [hs] at hb; simp [Eng.noSel] at hb) (fun x hx => ?_)
 have := hb.2 x hx
 cases he : exO lk [] x with
 | none => rw [he] at this; cases this
 | some v => rw [bD hl hp holds_nil he]; rfl
theorem i7 (m : Mem fr own w pl) (hl : aX a w pl own p lk) (hp : Eng.Holds a p) {e : Eff} (h : aAR P lk o = some e) : Does P fr own a w pl o e := by
 unfold aAR at h
 split at h
 rename_i hb
 rw [gen_run hl hp hb] at h
 split at h
 rename_i v hr
 split at h
 rename_i s hs
 simp only [oIQ] at h
 subst h
 exact aJ m (Eng.red_run hr) (lM hs)
 cases h
 cases h
 cases h
def aI9 (P : Program) (t : TypeId) : Bool := match P.underlying t with
 | some (.struct ⟨[f, g]⟩) => f.offset == 0 && g.offset == 1 && !(f.name == "_") && !(g.name == "_") && !P.stoodInHeld t && !P.eqGuardType P.depth t &&
  (match P.underlying f.type,P.underlying g.type with
   | some (.int _),some (.int _) => true
   | _,_ => false)
 | _ => false
theorem iB {d : Nat} {t : TypeId} {u : IntKind} (h : P.underlying t = some (.int u)) (i k : Int) : (Op.equalIn (d + 1) t (.int .i64 i) (.int .i64 k)).run P w = .ok (i == k) w := by
 simp [Op.equalIn,run_underlying h]
theorem aJ8 {d : Nat} {t : TypeId} (h : aI9 P t = true) (i j k l : Int) : (Op.equalIn (d + 1 + 1) t (.agg #[.int .i64 i,.int .i64 j]) (.agg #[.int .i64 k,.int .i64 l])).run P w = .ok (i == k && j == l) w := by
 unfold aI9 at h
 split at h
 rename_i f g hu
 simp only [bIQ,Bool.not_eq_true',beq_iff_eq] at h
 obtain ⟨⟨⟨⟨⟨⟨h1,h2⟩,h3⟩,h4⟩,h5⟩,h6⟩,h7⟩ := h
 split at h7
 rename_i u v hf hg
 have n3 : f.name ≠ "_" := by simpa using h3
 have n4 : g.name ≠ "_" := by simpa using h4
 have af : (isAgg f.type).run P w = .ok false w := by simp [isAgg,run_underlying hf]
 have ag : (isAgg g.type).run P w = .ok false w := by simp [isAgg,run_underlying hg]
 have pr : program.run P w = .ok P w := rfl
 have q1 := iB (d := d) (w := w) hf i k
 have q2 := iB (d := d) (w := w) hg j l
 rw [Op.equalIn]
 simp only [Sem.run_bind,run_underlying hu,an,pr,h5,Bool.false_eq_true,if_false]
 by_cases e1 : i = k
 subst e1
 by_cases e2 : j = l
 subst e2
 simp [n3,n4,part,h1,h2,af,ag,q1,q2]
 have : (j == l) = false := by simpa using e2
 rw [this] at q2 ⊢
 simp [n3,n4,part,h1,h2,af,ag,q1,q2]
 have : (i == k) = false := by simpa using e1
 rw [this] at q1 ⊢
 simp [n3,n4,part,h1,h2,af,ag,q1]
 cases h7
 cases h
theorem run_eq2 {t : TypeId} (h : aI9 P t = true) (i j k l : Int) : (Op.equal t (.agg #[.int .i64 i,.int .i64 j]) (.agg #[.int .i64 k,.int .i64 l])).run P w = .ok (i == k && j == l) w := aJ8 (d := 9998) h i j k l
def binE (P : Program) (lk : Lk) (o : Oper) (op : BinOp) (t : TypeId) (x y : Operand) : Option Eff :=
 match op,exO lk [] x,exO lk [] y with
 | .eql,some (.agg ⟨[.int .i64 i,.int .i64 j]⟩),some (.agg ⟨[.int .i64 k,.int .i64 l]⟩) => if aI9 P t then some ⟨.c (.d (.v (.bool (i == k && j == l)))),[],[],[]⟩ else none
 | .neq,some (.agg ⟨[.int .i64 i,.int .i64 j]⟩),some (.agg ⟨[.int .i64 k,.int .i64 l]⟩) => if aI9 P t then some ⟨.c (.d (.v (.bool (!(i == k && j == l))))),[],[],[]⟩ else none
 | .add,some (.int .i64 a),some (.int .i64 b) => some ⟨.c (.d (.v (.int .i64 (a + b)))),[],[],[Eng.inR (a + b)]⟩
 | .sub,some (.int .i64 a),some (.int .i64 b) => some ⟨.c (.d (.v (.int .i64 (a - b)))),[],[],[Eng.inR (a - b)]⟩
 | .mul,some (.int .i64 a),some (.int .i64 b) => some ⟨.c (.d (.v (.int .i64 (a * b)))),[],[],[Eng.inR (a * b)]⟩
 | .quo,some (.int .i64 a),some (.int .i64 b) => some ⟨.c (.d (.v (.int .i64 (a.tdiv b)))),[],[],[b ≠ 0 /\ Eng.inR (a.tdiv b)]⟩
 | .rem,some (.int .i64 a),some (.int .i64 b) => some ⟨.c (.d (.v (.int .i64 (a.tmod b)))),[],[],[b ≠ 0]⟩
 | .shr,some (.int .i64 a),some (.int _ b) => some ⟨.c (.d (.v (.int .i64 (Int.fdiv a (2 ^ min b.toNat 64))))),[],[],[0 <= b]⟩
 | .add,some (.string a),some (.string b) => some ⟨.c (.d (.v (.string (a ++ b)))),[],[],[a.size + b.size <= maxLen]⟩
 | .eql,some (.agg ⟨.string _ :: _⟩),some (.agg _) => none
 | .neq,some (.agg ⟨.string _ :: _⟩),some (.agg _) => none
 | _,_,_ => aAR P lk o
theorem binE_ok (m : Mem fr own w pl) (hl : aX a w pl own p lk) (hp : Eng.Holds a p) {op : BinOp} {t : TypeId} {x y : Operand} {ty : TypeId} (hop : o.op = .binOp op t x y ty) {e : Eff} (h : binE P lk o op t x y = some e) (ho : conj e.obl) : Does P fr own a w pl o e := by
 unfold binE at h
 split at h
 case h_1 | h_2 =>
  rename_i i j k l hx hy
  split at h
  ·rename_i hd
   simp only [oIQ] at h
   subst h
   refine aJ (v := .bool _) m ?_ (Rd.v _ rfl)
   have hg : P.eqGuardType P.depth t = false := by
    unfold aI9 at hd
    split at hd
    ·simp only [bIQ,Bool.not_eq_true'] at hd; exact hd.1.2
    ·cases hd
   have pr : program.run P w = .ok P w := rfl
   unfold execOp
   simp only [hop,bD hl hp holds_nil hx,bD hl hp holds_nil hy]
   simp only [eqGuard,binOp,Sem.run_bind,pr,an,hg]
   have := run_eq2 (w := w) hd i j k l
   simp [this]
   exact fun hh => absurd (hg.symm.trans hh) (by simp)
  ·cases h
 case h_3 | h_4 | h_5 =>
  rename_i i k hx hy
  simp only [oIQ] at h
  subst h
  have ho : Eng.inR _ := ho
  refine aJ (v := .int .i64 _) m ?_ (Rd.v _ rfl)
  unfold execOp
  simp only [hop,bD hl hp holds_nil hx,bD hl hp holds_nil hy]
  simp [eqGuard,binOp,Op.intArith,Eng.wrap64_of_inR ho]
 case h_6 =>
  rename_i i k hx hy
  simp only [oIQ] at h
  subst h
  have ho : k ≠ 0 /\ Eng.inR (i.tdiv k) := ho
  refine aJ (v := .int .i64 _) m ?_ (Rd.v _ rfl)
  unfold execOp
  simp only [hop,bD hl hp holds_nil hx,bD hl hp holds_nil hy]
  simp [eqGuard,binOp,Op.intDiv,Eng.wrap64_of_inR ho.2,ho.1]
 case h_7 =>
  rename_i i k hx hy
  simp only [oIQ] at h
  subst h
  have ho : k ≠ 0 := ho
  refine aJ (v := .int .i64 _) m ?_ (Rd.v _ rfl)
  unfold execOp
  simp only [hop,bD hl hp holds_nil hx,bD hl hp holds_nil hy]
  simp [eqGuard,binOp,Op.intDiv,ho]
 case h_8 =>
  rename_i i kd k hx hy
  simp only [oIQ] at h
  subst h
  have ho : 0 <= k := ho
  have hneg : ¬ k < 0 := by omega
  refine aJ (v := .int .i64 _) m ?_ (Rd.v _ rfl)
  unfold execOp
  simp only [hop,bD hl hp holds_nil hx,bD hl hp holds_nil hy]
  simp [eqGuard,binOp,Op.shift,hneg,IntKind.bits]
 case h_9 =>
  rename_i i k hx hy
  simp only [oIQ] at h
  subst h
  have ho : i.size + k.size <= maxLen := ho
  have : ¬ ((i.size + k.size : Nat) : Int) > IntKind.i64.max := by
   have hm : IntKind.i64.max = 9223372036854775807 := by decide
   rw [hm]; unfold maxLen at ho; omega
  refine aJ (v := .string _) m ?_ (Rd.v _ rfl)
  unfold execOp
  simp only [hop,bD hl hp holds_nil hx,bD hl hp holds_nil hy]
  simp only [Sem.run_bind,eqGuard,binOp,Op.stringOp,if_neg this]
  simp
 case h_10 | h_11 => cases h
 case h_12 => exact i7 m hl hp h
theorem aG7 (m : Mem fr own w pl) (hl : aX a w pl own p lk) (hp : Eng.Holds a p) {x : Operand} (hop : o.op = .move x \/ o.op = .assign x) {s : SV} (h : lk [] x = some s) : Does P fr own a w pl o ⟨s,[],[],[]⟩ := by
 refine aJ (v := a.eval x) m ?_ (hl [] x s h holds_nil hp)
 unfold execOp
 rcases hop with h | h <;> simp only [h] <;> rfl
def aKW (lk : Lk) (c : Tmp) (x y : Operand) : Option Eff :=
 match exO lk [] (.tmp c),exO lk [(c,true)] x,exO lk [(c,false)] y with
 | some (.bool k),some (.bool x),some (.bool y) => some ⟨.c (.d (.v (.bool (bif k then x else y)))),[],[],[]⟩
 | _,_,_ => none
theorem aKV (m : Mem fr own w pl) (hl : aX a w pl own p lk) (hp : Eng.Holds a p) {c : Tmp} {x y : Operand} (hop : o.op = .pick (.tmp c) x y) {e : Eff} (h : aKW lk c x y = some e) : Does P fr own a w pl o e := by
 unfold aKW at h
 split at h
 rename_i k bx b_y hk hx hy
 simp only [oIQ] at h
 subst h
 have hc : a.eval (.tmp c) = .bool k := bD hl hp holds_nil hk
 refine aJ (v := .bool _) m ?_ (Rd.v _ rfl)
 unfold execOp
 simp only [hop,hc]
 cases k with
 | true => simp [asBool,bD hl hp (q := [(c,true)]) (by intro z hz; simp only [List.mem_singleton] at hz; subst hz; exact hc) hx]
 | false => simp [asBool,bD hl hp (q := [(c,false)]) (by intro z hz; simp only [List.mem_singleton] at hz; subst hz; exact hc) hy]
 cases h
def aKY : Bool × List C -> Option SV
 | (true,cs) => some (.agg cs)
 | (false,[c]) => some (.c c)
 | _ => none
theorem aKX {x : Bool × List C} {s : SV} {v : Value} (h : aKY x = some s) (hv : cZ w pl own x v) : aV w pl own s v := by
 unfold aKY at h
 split at h
 simp only [oIQ] at h; subst h; exact hv
 simp only [oIQ] at h; subst h; exact hv
 cases h
def aL6 (lk : Lk) (x : Operand) (k : Nat) : Option Eff :=
 match lk [] x with
 | some (.tup ps) => match ps[k]? with
  | some q => match aKY q with
   | some s => some ⟨s,[],[],[]⟩
   | none => none
  | none => none
 | _ => none
theorem aL5 (m : Mem fr own w pl) (hl : aX a w pl own p lk) (hp : Eng.Holds a p) {x : Operand} {k : Nat} (hop : o.op = .extract x k) {e : Eff} (h : aL6 lk x k = some e) : Does P fr own a w pl o e := by
 unfold aL6 at h
 split at h
 rename_i ps hps
 split at h
 rename_i q hq
 split at h
 rename_i s hs
 simp only [oIQ] at h
 subst h
 obtain ⟨vs,hv,h2⟩ := hl [] x _ hps holds_nil hp
 obtain ⟨y,hy,hyok⟩ := h2.get hq
 refine aJ (v := y) m ?_ (aKX hs hyok)
 unfold execOp
 simp only [hop,hv]
 simp [Instr.extract,hy]
 cases h
 cases h
 cases h
def j0 (P : Program) (t : TypeId) (cells : List C) (off : Nat) : Option SV :=
 match Eng.isAggB P t with
 | some true => match P.info? t with
  | some i => if 0 < i.size /\ off + i.size <= cells.length then some (.agg ((cells.drop off).take i.size)) else none
  | none => none
 | some false => match cells[off]? with
  | some c => some (.c c)
  | none => none
 | none => none
def aNC (w : World) (pl : Pl) (own : Own) (cells : List C) (L : List Value) (o : Nat) : Prop := ∀ (j : Nat) (c : C),cells[j]? = some c -> ∃ u,L[o + j]? = some u /\ COk w pl own c u
theorem fG {t : TypeId} {cells : List C} {off : Nat} {s : SV} {L : List Value} {o : Nat} (h : j0 P t cells off = some s) (hL : aNC w pl own cells L o) : ∃ v,Eng.loadB P t L (o + off) = some v /\ aV w pl own s v := by
 unfold j0 at h
 unfold Eng.loadB
 split at h
 rename_i ht
 split at h
 rename_i i hi
 split at h
 rename_i hle
 simp only [oIQ] at h
 subst h
 have hlen : o + off + i.size <= L.length := by
  obtain ⟨u,hu,_⟩ := hL (off + i.size - 1) _ (ge (by omega))
  have := (gsQ.1 hu).1
  omega
 simp only [ht,hi]
 rw [if_pos hlen]
 refine ⟨_,rfl,((L.drop (o + off)).take i.size),rfl,?_,fun j c u hc hu => ?_⟩
 simp; omega
 rw [List.getElem?_take] at hc hu
 split at hc
 rename_i hj
 rw [if_pos hj,List.getElem?_drop] at hu
 rw [List.getElem?_drop] at hc
 obtain ⟨u',hu',hok⟩ := hL _ c hc
 have : o + off + j = o + (off + j) := by omega
 rw [this,hu'] at hu
 injection hu with hu
 rw [<- hu]; exact hok
 cases hc
 cases h
 cases h
 rename_i ht
 split at h
 rename_i c hc
 simp only [oIQ] at h
 subst h
 obtain ⟨u,hu,hok⟩ := hL off c hc
 simp only [ht]
 exact ⟨u,hu,hok⟩
 cases h
 cases h
end
end Go.V
