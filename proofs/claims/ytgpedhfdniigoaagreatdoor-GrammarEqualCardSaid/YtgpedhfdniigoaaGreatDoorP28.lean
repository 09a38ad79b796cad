/- Part 28 of the proof. -/
import Derived.Test.YtgpedhfdniigoaaGreatDoorP27
set_option linter.all false
namespace Go.V
open Go.RowKit
def D.i (n : Int) : D := .v (.int .i64 n)
def D.b (b : Bool) : D := .v (.bool b)
def D.s (s : ByteArray) : D := .v (.string s)
def D.y (n : Int) : D := .v (.int .u8 n)
def D.nil : D := .v (.slice none 0 0)
theorem aE : conj [] := trivial
theorem aG {c : Prop} (h : c) : conj [c] := h
theorem aD {c d : Prop} {r : List Prop} (h : c) (h' : conj (d :: r)) : conj (c :: d :: r) := ⟨h,h'⟩
def tK (fn : Func) : Code := fn.body.getD .skip
section
variable {P : Program} {R : Wp P} {fr : Fr} {n : Nat} {root : Code} {Q : Exit -> Act -> World -> Prop} {G : List (Nat × List Value)} {pids : List Nat}
theorem aQ {f : FuncId} {fn : Func} {ins : List SV} {refs : bR} {out : SV} {post : bR} (n : Nat) (hf : P.funcs[f]? = some fn) (h : ∀ fr : Fr,FrIs fr G [] -> W (bB P) fr n (tK fn) (bodyPost P fn (uS fr out post)) (.code []) ⟨aIP 0 ins,refs⟩) (hb : (fn.body.isSome && fn.ntmps == n && decide (ins.length <= n)) = true := by kernel_rfl) : Spec P G f ins refs out post := by
 simp only [bIQ,beq_iff_eq] at hb
 refine enterS n hf (c := tK fn) ?_ hb.1.2 hb.2 h
 unfold tK
 cases hh : fn.body with
 | none => rw [hh] at hb; simp at hb
 | some c => rfl
theorem aEN (hG : FrIs fr G []) (hm : P.follows .mixedOrders = true) {now : Now} {st : St} {fn : Func} {out : SV} {post : bR} (hs : dM) (ids : List Nat) (out' : SV) (post' : bR) {cs : List Prop} (h : goR P G n root hs 1000 now st fn ids = some (out',post',cs)) (hc : conj cs) (ho : out' = out) (hp : post' = post) :
  W R fr n root (bodyPost P fn (uS fr out post)) now st := by
 subst ho; subst hp; exact stepR hG hm hs ids cs h hc
def aHB (pids : List Nat) (st st' : St) : Option (Stop × List (Option (Path × SV)) × List (Option Ob) × Bool × List Prop) :=
 let st2 := eL (st'.own.map (·.1)) st
 some (.loop [],st'.env.map (fun e => aL st2.env e.1),st'.own.map (fun e => lookO st2.own e.1),aF5 st2.own st'.own && pids.all (fW (st'.own.map (·.1))),[])
theorem kZ (hG : FrIs fr G pids) {now : Now} {st : St} (st' : St) (h : aHB pids st st' = told (.loop []) st' []) (hk : W R fr n root Q now st') : W R fr n root Q now st := by
 unfold aHB told at h
 simp only [oIQ,pIQ,and_true,true_and] at h
 obtain ⟨h1,h2,h3⟩ := h
 rw [bIQ] at h3
 obtain ⟨h3,h4⟩ := h3
 have hsel : ∀ a w,OkS fr n st a w -> OkS fr n st' a w := fun a w hok => aER h1 h2 (oH h3) (nZ _ hG.lat hok)
 cases now with
 | code pos => exact fun c hc a w hok => hk c hc a w (hsel a w hok)
 | exit pos e => exact fun a w hok => hk a w (hsel a w hok)
theorem dN {now : Now} {st : St} (t : Nat) {sz : Nat} {es : LD} (h : aL st.env t = some ([],.c (.d (.sl sz es)))) (hk : es.length <= maxLen -> W R fr n root Q now st) : W R fr n root Q now st := by
 have : ∀ a w,OkS fr n st a w -> es.length <= maxLen := by
  rintro a w ⟨pl,hok⟩
  have hv : Rd _ _ _ _ := hok.yes t [] _ h holds_nil
  obtain ⟨_,_,_,_,hl⟩ := mG hv
  exact hl
 cases now with
 | code pos => exact fun c hc a w hok => hk (this a w hok) c hc a w hok
 | exit pos e => exact fun a w hok => hk (this a w hok) a w hok
def exP : Bool × List C -> Option Value
 | (true,cs) => match exL cs with
  | some l => some (.agg l.toArray)
  | none => none
 | (false,[c]) => exC c
 | _ => none
def aL8 : List (Bool × List C) -> Option (List Value)
 | [] => some []
 | p :: r => match exP p,aL8 r with
  | some v,some l => some (v :: l)
  | _,_ => none
def exT : SV -> Option Value
 | .tup ps => match aL8 ps with
  | some l => some (.tuple l.toArray)
  | none => none
 | s => exS s
def okC : C -> Bool
 | .d (.v x) => x.oneCell'
 | .pg _ _ => true
 | _ => false
def okS : SV -> Bool
 | .c c => okC c
 | .agg cs => cs.all okC
 | .tup ps => ps.all fun p => p.2.all okC
theorem aFF {own : Own} {w : World} {pl : Pl} {c : C} {v : Value} (h : okC c = true) (hv : exC c = some v) : COk w pl own c v := by
 cases c with
 | d x => cases x with
  | v x => simp only [exC,oIQ] at hv; subst hv; exact Rd.v _ h
  | sl => simp [okC] at h
 | pg g off => simp only [exC,oIQ] at hv; subst hv; rfl
 | _ => simp [okC] at h
theorem aFE {own : Own} {w : World} {pl : Pl} : ∀ {cs : List C} {l : List Value},cs.all okC = true -> exL cs = some l -> All2 (COk w pl own) cs l
 | [],l,_,h => by simp only [exL,oIQ] at h; subst h; exact All2.nil
 | c :: r,l,ha,h => by
  simp only [List.all_cons,bIQ] at ha
  simp only [exL] at h
  split at h
  rename_i x l' hx hl
  simp only [oIQ] at h
  subst h
  exact All2.cons (aFF ha.1 hx) (aFE ha.2 hl)
  cases h
theorem aK6 {own : Own} {w : World} {pl : Pl} : ∀ {ps : List (Bool × List C)} {l : List Value},(ps.all fun p => p.2.all okC) = true -> aL8 ps = some l -> All2 (cZ w pl own) ps l
 | [],l,_,h => by simp only [aL8,oIQ] at h; subst h; exact All2.nil
 | (b,cs) :: r,l,ha,h => by
  simp only [List.all_cons,bIQ] at ha
  simp only [aL8] at h
  split at h
  rename_i x l' hx hl
  simp only [oIQ] at h
  subst h
  refine All2.cons ?_ (aK6 ha.2 hl)
  cases b with
  | true =>
   simp only [exP] at hx
   split at hx
   rename_i l2 hl2; simp only [oIQ] at hx; subst hx; exact ⟨l2,rfl,aFE ha.1 hl2⟩
   cases hx
  | false =>
   match cs,hx,ha with
   | [c],hx,ha =>
    simp only [exP] at hx
    simp only [List.all_cons,List.all_nil,Bool.and_true] at ha
    exact aFF ha.1 hx
  cases h
theorem okS_ok {own : Own} {w : World} {pl : Pl} {s : SV} {v : Value} (h : okS s = true) (hv : exT s = some v) : aV w pl own s v := by
 cases s with
 | c c => exact aFF h hv
 | agg cs =>
  simp only [exT,exS] at hv
  split at hv
  rename_i l hl; simp only [oIQ] at hv; subst hv; exact ⟨l,rfl,aFE h hl⟩
  cases hv
 | tup ps =>
  simp only [exT] at hv
  split at hv
  rename_i l hl; simp only [oIQ] at hv; subst hv; exact ⟨l,rfl,aK6 h hl⟩
  cases hv
def s6 : List SV -> Option (List Value)
 | [] => some []
 | s :: r => match exS s,s6 r with
  | some v,some l => some (v :: l)
  | _,_ => none
theorem s5 {own : Own} {w : World} {pl : Pl} : ∀ {ins : List SV} {l args : List Value},s6 ins = some l -> All2 (aV w pl own) ins args -> args = l
 | [],l,args,h,ha => by simp only [s6,oIQ] at h; subst h; exact ha.unnil
 | s :: r,l,args,h,ha => by
  simp only [s6] at h
  split at h
  rename_i v l' hv hl
  simp only [oIQ] at h
  subst h
  obtain ⟨y,r',rfl,h1,h2⟩ := ha.uncons
  rw [aL7 hv h1,s5 hl h2]
  cases h
theorem qS {f : FuncId} {ins : List SV} {out : SV} {args : List Value} {v : Value} (hi : s6 ins = some args) (ho : exT out = some v) (hk : okS out = true)
  (h : ∀ w : World,(∀ g cs,(g,cs) ∈ G -> ∃ ty fz,w.heap[g]? = some (.cells cs.toArray ty fz)) -> Calls P f args.toArray w fun e w' => e = .returned v /\ Below w.heap.size w w') : Spec P G f ins [] out [] := by
 intro fr w pl as hw hG m ha
 obtain ⟨rfl,_,_⟩ := hG
 rw [s5 hi ha]
 refine Calls.mono (h w fun g cs hg => by rw [<- hw]; exact (m.frOk.glob g cs hg).1) ?_
 rintro e w' ⟨rfl,hb⟩
 obtain ⟨m',L⟩ := m.ext (w' := w') ⟨hb.os,hb.tape,hb.output,hb.size,fun k hk _ => hb.block k hk⟩
 exact ⟨v,pl,rfl,m',okS_ok hk ho⟩
def aLH : List (Option Nat) -> SV -> SV
 | [m],.c c => .c (aDI m c)
 | ms,.agg cs => .agg (jY ms cs)
 | _,s => s
def aLI : List (List (Option Nat)) -> List SV -> List SV
 | m :: ms,s :: ss => aLH m s :: aLI ms ss
 | _,ss => ss
theorem aLG {own : Own} {w : World} {pl : Pl} {ms : List (Option Nat)} {s : SV} {v : Value} (h : aV w pl own s v) : aV w pl own (aLH ms s) v := by
 unfold aLH
 split
 exact sP h
 obtain ⟨vs,rfl,h2⟩ := h; exact ⟨vs,rfl,iF h2⟩
 exact h
theorem aDJ {own : Own} {w : World} {pl : Pl} : ∀ {ms : List (List (Option Nat))} {ss : List SV} {vs : List Value},All2 (aV w pl own) ss vs -> All2 (aV w pl own) (aLI ms ss) vs
 | [],ss,vs,h => by cases ss <;> exact h
 | m :: ms,[],vs,h => h
 | m :: ms,s :: ss,vs,h => by
  obtain ⟨y,r,rfl,h1,h2⟩ := h.uncons
  exact All2.cons (aLG h1) (aDJ h2)
theorem kL {f : FuncId} {ins : List SV} {refs : bR} {out : SV} {post : bR} (ms : List (List (Option Nat))) (h : Spec P G f (aLI ms ins) refs out post) : Spec P G f ins refs out post :=
 fun fr w pl args hw hG m ha => h fr w pl args hw hG m (aDJ ha)
end
end Go.V
