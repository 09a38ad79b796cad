/- Part 47 of the proof. -/
import Derived.Test.YtclaplngjmgnoaaGreatDoorP29
import Derived.Test.YtclaplngjmgnoaaGreatDoorP32
import Derived.Test.YtclaplngjmgnoaaGreatDoorP33
import Derived.Test.YtclaplngjmgnoaaGreatDoorP44
import Derived.Test.YtclaplngjmgnoaaGreatDoorP46
set_option linter.all false
namespace Go.Proofs.YtclaplngjmgnoaaGreatDoor
open Go.RowKit Go.V
section
variable {g : Gv}
def mdL (n m : Int) : Int := (n.tmod m + m).tmod m
theorem o7 (n : Int) {m : Int} (h : 0 < m) : 0 <= mdL n m /\ mdL n m < m := by
 unfold mdL
 have h1 := Int.tmod_lt_of_pos n h
 have h2 : -m < n.tmod m := by
  have := Int.lt_tmod_of_pos n h
  omega
 exact ⟨Int.tmod_nonneg _ (by omega),Int.tmod_lt_of_pos _ h⟩
theorem bN (n m : Int) (h : 0 < m) (hm : m <= 1000000) : SpM g n m (mdL n m) := by
 have h1 := Int.tmod_lt_of_pos n h
 have h2 : -m < n.tmod m := by
  have := Int.lt_tmod_of_pos n h
  omega
 exact lmodX n m ⟨(show m ≠ 0 by omega),(by unfold Go.Eng.inR; omega),(show m ≠ 0 by omega)⟩
theorem dA {n m v : Int} (h : 0 < m) (hm : m <= 1000000) (e : mdL n m = v) : SpM g n m v := e ▸ bN n m h hm
theorem aP0 : V.Spec Tryz.prog (Gl g) 11 [] [] (.tup [(false,[.bx 100 0]),(false,[cB true])]) bO := beginX ⟨mW 3 3 (by decide),mW 2 3 (by decide),mW 1 3 (by decide)⟩
theorem iA (a b : List Ms) : cY (a ++ b) = cY a ++ cY b := by simp [cY]
theorem mY (a : List Ms) : (cY a).length = a.length := by simp [cY]
def rpL (a f : Int) (es ms : RS) : List Ms := bif dY es ms then [⟨a,f,jnV es ms⟩] else []
theorem rM (a f : Int) (es ms : RS) (hes : RsOk 3 es) (hms : RsOk 3 ms) (hl : es.length + ms.length <= 4000) (hf1 : 1 <= f) (hf2 : f <= 3) (hfa : ¬ f = a) : SpR g 19 a [.agg [cI f,cI a,cS (S (aJ ms))]] es (.c (cM 3 (cY (rpL a f es ms)))) (jnV es ms) := by
 unfold rpL
 cases h : dY es ms with
 | true => exact uS a 3 f es ms hes hms hl hf1 hf2 hfa h
 | false => exact aBL [some 3] (uT a 3 f es ms hes hms hl hf1 hf2 hfa h)
theorem wD {k : Nat} {ms : List Ms} (hk : k <= 60) (h : ms.length <= 2 * k) {c : Nat} (hc : c <= 10) : ((cY ms).length + c) * (32 + 1) <= 140737488355328 := by rw [mY]; omega
theorem do_give (what who n : Int) (l : List Int) (hl : NumOk l 0) {k : Nat} {U : List (List UInt8)} {e1 e2 e3 : RS} {ms : List Ms} (h : WOk k U e1 e2 e3 ms) (hk : k <= 60) (hw : mdL what 8 < 2) : ∃ U' f1 f2 f3 ns,WOk (k + 1) U' f1 f2 f3 ns /\ Gr e1 f1 /\ Gr e2 f2 /\ Gr e3 f3 /\ DoS g what who n l e1 e2 e3 (cY ms) f1 f2 f3 (cY ns) := by
 have hp := o7 who (m := 3) (by decide)
 have hU := h.ul
 have hq : mdL who 3 = 0 \/ mdL who 3 = 1 \/ mdL who 3 = 2 := by omega
 rcases hq with hq | hq | hq
 obtain ⟨it,hit,-,hau,hs⟩ := l6 (g := g) what who n 1 l hl ⟨by decide,by decide⟩
 obtain ⟨a1,a2⟩ := aFY h.k1 (by omega) hit hau (by decide) (by decide)
 exact ⟨itT it :: U,eN 1 e1 it,e2,e3,ms,⟨by simp; omega,a1,h.k2.up _,h.k3.up _,fun m hm => (h.mo m hm).up _,by have := h.ml; omega⟩,a2,bB _,bB _,doG0 what who n l e1 e2 e3 (cY ms) _ _ it _ ⟨hs,qW 1 3 e1 it h.k1.rs hit,decide_eq_true hw,bN what 8 (by decide) (by decide),dA (by decide) (by decide) hq⟩⟩
 obtain ⟨it,hit,-,hau,hs⟩ := l6 (g := g) what who n 2 l hl ⟨by decide,by decide⟩
 obtain ⟨a1,a2⟩ := aFY h.k2 (by omega) hit hau (by decide) (by decide)
 exact ⟨itT it :: U,e1,eN 2 e2 it,e3,ms,⟨by simp; omega,h.k1.up _,a1,h.k3.up _,fun m hm => (h.mo m hm).up _,by have := h.ml; omega⟩,bB _,a2,bB _,doG1 what who n l e1 e2 e3 (cY ms) _ _ it _ ⟨hs,qW 2 3 e2 it h.k2.rs hit,decide_eq_true hw,bN what 8 (by decide) (by decide),dA (by decide) (by decide) hq⟩⟩
 obtain ⟨it,hit,-,hau,hs⟩ := l6 (g := g) what who n 3 l hl ⟨by decide,by decide⟩
 obtain ⟨a1,a2⟩ := aFY h.k3 (by omega) hit hau (by decide) (by decide)
 exact ⟨itT it :: U,e1,e2,eN 3 e3 it,ms,⟨by simp; omega,h.k1.up _,h.k2.up _,a1,fun m hm => (h.mo m hm).up _,by have := h.ml; omega⟩,bB _,bB _,a2,doG2 what who n l e1 e2 e3 (cY ms) _ _ it _ ⟨hs,qW 3 3 e3 it h.k3.rs hit,decide_eq_true hw,bN what 8 (by decide) (by decide),dA (by decide) (by decide) hq⟩⟩
theorem aC6 (what who n : Int) (l : List Int) {k : Nat} {U : List (List UInt8)} {e1 e2 e3 : RS} {ms : List Ms} (h : WOk k U e1 e2 e3 ms) (hk : k <= 60) (hw : mdL what 8 = 2) : ∃ U' f1 f2 f3 ns,WOk (k + 1) U' f1 f2 f3 ns /\ Gr e1 f1 /\ Gr e2 f2 /\ Gr e3 f3 /\ DoS g what who n l e1 e2 e3 (cY ms) f1 f2 f3 (cY ns) := by
 have hp := o7 who (m := 3) (by decide)
 have hv := o7 n (m := 4) (by decide)
 have hU := h.ul
 have hq : mdL who 3 = 0 \/ mdL who 3 = 1 \/ mdL who 3 = 2 := by omega
 rcases hq with hq | hq | hq
 obtain ⟨a1,a2⟩ := wd_k h.k1 (1 + mdL n 4)
 exact ⟨U,_,e2,e3,ms,⟨by omega,a1,h.k2,h.k3,h.mo,by have := h.ml; omega⟩,a2,bB _,bB _,doW0 what who n l e1 e2 e3 (cY ms) _ _ _ ⟨bN n 4 (by decide) (by decide),(by unfold Go.Eng.inR; omega),gM 1 3 _ e1 h.k1.rs,dA (by decide) (by decide) hw,dA (by decide) (by decide) hq⟩⟩
 obtain ⟨a1,a2⟩ := wd_k h.k2 (1 + mdL n 4)
 exact ⟨U,e1,_,e3,ms,⟨by omega,h.k1,a1,h.k3,h.mo,by have := h.ml; omega⟩,bB _,a2,bB _,doW1 what who n l e1 e2 e3 (cY ms) _ _ _ ⟨bN n 4 (by decide) (by decide),(by unfold Go.Eng.inR; omega),gM 2 3 _ e2 h.k2.rs,dA (by decide) (by decide) hw,dA (by decide) (by decide) hq⟩⟩
 obtain ⟨a1,a2⟩ := wd_k h.k3 (1 + mdL n 4)
 exact ⟨U,e1,e2,_,ms,⟨by omega,h.k1,h.k2,a1,h.mo,by have := h.ml; omega⟩,bB _,bB _,a2,doW2 what who n l e1 e2 e3 (cY ms) _ _ _ ⟨bN n 4 (by decide) (by decide),(by unfold Go.Eng.inR; omega),gM 3 3 _ e3 h.k3.rs,dA (by decide) (by decide) hw,dA (by decide) (by decide) hq⟩⟩
theorem do_tick (what who n : Int) (l : List Int) {k : Nat} {U : List (List UInt8)} {e1 e2 e3 : RS} {ms : List Ms} (h : WOk k U e1 e2 e3 ms) (hk : k <= 60) (hw : mdL what 8 = 3) : ∃ U' f1 f2 f3 ns,WOk (k + 1) U' f1 f2 f3 ns /\ Gr e1 f1 /\ Gr e2 f2 /\ Gr e3 f3 /\ DoS g what who n l e1 e2 e3 (cY ms) f1 f2 f3 (cY ns) := by
 have hp := o7 who (m := 3) (by decide)
 have hU := h.ul
 have hm := h.ml
 have hq : mdL who 3 = 0 \/ mdL who 3 = 1 \/ mdL who 3 = 2 := by omega
 have two : ∀ (a b c : Int) (e : RS),KOk U e -> 1 <= a -> a <= 3 -> 1 <= b -> b <= 3 -> 1 <= c -> c <= 3 -> ¬ a = b -> ¬ a = c -> ∀ m,m ∈ ms ++ [⟨a,b,e⟩,⟨a,c,e⟩] -> MsOk U m := by
  intro a b c e he h1 h2 h3 h4 h5 h6 h7 h8 m hm
  simp only [List.mem_append,mc,List.not_mem_nil,or_false] at hm
  rcases hm with hm | rfl | rfl
  exact h.mo m hm
  exact ⟨he,h1,h2,h3,h4,h7⟩
  exact ⟨he,h1,h2,h5,h6,h8⟩
 rcases hq with hq | hq | hq
 refine ⟨U,e1,e2,e3,ms ++ [⟨1,2,e1⟩,⟨1,3,e1⟩],⟨by omega,h.k1,h.k2,h.k3,two 1 2 3 e1 h.k1 (by decide) (by decide) (by decide) (by decide) (by decide) (by decide) (by decide) (by decide),by simp; omega⟩,bB _,bB _,bB _,?_⟩
 rw [iA]
 exact doT0 what who n l e1 e2 e3 (cY ms) _ ⟨oB 1 3 e1 _ h.k1.rs (by decide) (by decide) rfl,wD hk hm (by decide),dA (by decide) (by decide) hw,dA (by decide) (by decide) hq⟩
 refine ⟨U,e1,e2,e3,ms ++ [⟨2,1,e2⟩,⟨2,3,e2⟩],⟨by omega,h.k1,h.k2,h.k3,two 2 1 3 e2 h.k2 (by decide) (by decide) (by decide) (by decide) (by decide) (by decide) (by decide) (by decide),by simp; omega⟩,bB _,bB _,bB _,?_⟩
 rw [iA]
 exact doT1 what who n l e1 e2 e3 (cY ms) _ ⟨oB 2 3 e2 _ h.k2.rs (by decide) (by decide) rfl,wD hk hm (by decide),dA (by decide) (by decide) hw,dA (by decide) (by decide) hq⟩
 refine ⟨U,e1,e2,e3,ms ++ [⟨3,1,e3⟩,⟨3,2,e3⟩],⟨by omega,h.k1,h.k2,h.k3,two 3 1 2 e3 h.k3 (by decide) (by decide) (by decide) (by decide) (by decide) (by decide) (by decide) (by decide),by simp; omega⟩,bB _,bB _,bB _,?_⟩
 rw [iA]
 exact doT2 what who n l e1 e2 e3 (cY ms) _ ⟨oB 3 3 e3 _ h.k3.rs (by decide) (by decide) rfl,wD hk hm (by decide),dA (by decide) (by decide) hw,dA (by decide) (by decide) hq⟩
theorem do_take (what who n : Int) (l : List Int) {k : Nat} {U : List (List UInt8)} {e1 e2 e3 : RS} {ms : List Ms} (h : WOk k U e1 e2 e3 ms) (hk : k <= 60) (hw : 3 < mdL what 8) : ∃ U' f1 f2 f3 ns,WOk (k + 1) U' f1 f2 f3 ns /\ Gr e1 f1 /\ Gr e2 f2 /\ Gr e3 f3 /\ DoS g what who n l e1 e2 e3 (cY ms) f1 f2 f3 (cY ns) := by
 have hU := h.ul
 have hm := h.ml
 by_cases h0 : ms = []
 ·subst h0
  exact ⟨U,e1,e2,e3,[],h.next,bB _,bB _,bB _,doN what who n l e1 e2 e3 _ _ ⟨decide_eq_false (by omega),decide_eq_false (by omega),decide_eq_false (by omega),bN what 8 (by decide) (by decide),bN who 3 (by decide) (by decide)⟩⟩
 ·have hlen : 0 < ms.length := List.length_pos_iff.2 h0
  have hv := o7 n (m := (ms.length : Int)) (by omega)
  have hat : ms[(mdL n ms.length).toNat]? = some (ms.getD (mdL n ms.length).toNat Ms.z) := by
   rw [gd,ge (by omega)]; rfl
  have hmm := h.mo _ (aQ (l := ms) (k := (mdL n ms.length).toNat) (z := Ms.z) (by omega))
  generalize ms.getD (mdL n ms.length).toNat Ms.z = m at hat hmm
  obtain ⟨f,t,M⟩ := m
  have hd : (cY ms)[(mdL n (ms.length : Int)).toNat]? = some (MsD ⟨f,t,M⟩) := by rw [cY,List.getElem?_map,hat]; rfl
  rw [<- mY ms] at hd hv
  have hmd : SpM g n ((cY ms).length : Int) (mdL n ((cY ms).length : Int)) := bN n _ (by omega) (by rw [mY]; omega)
  have ht : t = 1 \/ t = 2 \/ t = 3 := by have := hmm.t1; have := hmm.t3; simp only at *; omega
  have hpos : decide (((cY ms).length : Int) > 0) = true := decide_eq_true (by rw [mY]; omega)
  have hno : ∀ c : Int,c <= 3 -> decide (mdL what 8 = c) = false := fun c hc => decide_eq_false (by omega)
  have hf := hmm.f1
  have hf3 := hmm.f3
  have hne := hmm.ne
  have hkm := hmm.k
  simp only at hf hf3 hne hkm
  have hlm := hkm.len
  rcases ht with rfl | rfl | rfl
  ·have hl := h.k1.len
   obtain ⟨a1,a2⟩ := jn_k h.k1 hkm (by omega)
   have hs := rM (g := g) 1 f e1 M h.k1.rs hkm.rs (by omega) hf hf3 hne
   refine ⟨U,jnV e1 M,e2,e3,ms ++ rpL 1 f e1 M,⟨by omega,a1,h.k2,h.k3,?_,?_⟩,a2,bB _,bB _,?_⟩
   ·intro m hm
    rcases List.mem_append.1 hm with hm | hm
    ·exact h.mo m hm
    ·unfold rpL at hm
     cases hb : dY e1 M <;> rw [hb] at hm <;> simp only [cond_true,cond_false,mc,List.not_mem_nil,or_false] at hm
     subst hm
     exact ⟨a1,show (1 : Int) <= 1 by decide,show (1 : Int) <= 3 by decide,hf,hf3,fun e => hne e.symm⟩
   ·unfold rpL; cases dY e1 M <;> simp <;> omega
   ·rw [iA]
    unfold rpL at hs ⊢
    cases hb : dY e1 M <;> rw [hb] at hs <;> simp only [cond_true,cond_false] at hs ⊢
    ·exact doMA0 what who n l e1 e2 e3 (cY ms) _ _ _ _ _ _ ⟨hs,wD hk hm (by decide),hmd,hv,hd,hpos,hno 3 (by decide),hno 2 (by decide),decide_eq_false (by omega),bN what 8 (by decide) (by decide),bN who 3 (by decide) (by decide)⟩
    ·exact doMB0 what who n l e1 e2 e3 (cY ms) _ _ _ _ _ _ _ ⟨hs,wD hk hm (by decide),hmd,hv,hd,hpos,hno 3 (by decide),hno 2 (by decide),decide_eq_false (by omega),bN what 8 (by decide) (by decide),bN who 3 (by decide) (by decide)⟩
  ·have hl := h.k2.len
   obtain ⟨a1,a2⟩ := jn_k h.k2 hkm (by omega)
   have hs := rM (g := g) 2 f e2 M h.k2.rs hkm.rs (by omega) hf hf3 hne
   refine ⟨U,e1,jnV e2 M,e3,ms ++ rpL 2 f e2 M,⟨by omega,h.k1,a1,h.k3,?_,?_⟩,bB _,a2,bB _,?_⟩
   ·intro m hm
    rcases List.mem_append.1 hm with hm | hm
    ·exact h.mo m hm
    ·unfold rpL at hm
     cases hb : dY e2 M <;> rw [hb] at hm <;> simp only [cond_true,cond_false,mc,List.not_mem_nil,or_false] at hm
     subst hm
     exact ⟨a1,show (1 : Int) <= 2 by decide,show (2 : Int) <= 3 by decide,hf,hf3,fun e => hne e.symm⟩
   ·unfold rpL; cases dY e2 M <;> simp <;> omega
   ·rw [iA]
    unfold rpL at hs ⊢
    cases hb : dY e2 M <;> rw [hb] at hs <;> simp only [cond_true,cond_false] at hs ⊢
    ·exact doMA1 what who n l e1 e2 e3 (cY ms) _ _ _ _ _ _ ⟨hs,wD hk hm (by decide),hmd,hv,hd,hpos,hno 3 (by decide),hno 2 (by decide),decide_eq_false (by omega),bN what 8 (by decide) (by decide),bN who 3 (by decide) (by decide)⟩
    ·exact doMB1 what who n l e1 e2 e3 (cY ms) _ _ _ _ _ _ _ ⟨hs,wD hk hm (by decide),hmd,hv,hd,hpos,hno 3 (by decide),hno 2 (by decide),decide_eq_false (by omega),bN what 8 (by decide) (by decide),bN who 3 (by decide) (by decide)⟩
  ·have hl := h.k3.len
   obtain ⟨a1,a2⟩ := jn_k h.k3 hkm (by omega)
   have hs := rM (g := g) 3 f e3 M h.k3.rs hkm.rs (by omega) hf hf3 hne
   refine ⟨U,e1,e2,jnV e3 M,ms ++ rpL 3 f e3 M,⟨by omega,h.k1,h.k2,a1,?_,?_⟩,bB _,bB _,a2,?_⟩
   ·intro m hm
    rcases List.mem_append.1 hm with hm | hm
    ·exact h.mo m hm
    ·unfold rpL at hm
     cases hb : dY e3 M <;> rw [hb] at hm <;> simp only [cond_true,cond_false,mc,List.not_mem_nil,or_false] at hm
     subst hm
     exact ⟨a1,show (1 : Int) <= 3 by decide,show (3 : Int) <= 3 by decide,hf,hf3,fun e => hne e.symm⟩
   ·unfold rpL; cases dY e3 M <;> simp <;> omega
   ·rw [iA]
    unfold rpL at hs ⊢
    cases hb : dY e3 M <;> rw [hb] at hs <;> simp only [cond_true,cond_false] at hs ⊢
    ·exact doMA2 what who n l e1 e2 e3 (cY ms) _ _ _ _ _ _ ⟨hs,wD hk hm (by decide),hmd,hv,hd,hpos,hno 3 (by decide),hno 2 (by decide),decide_eq_false (by omega),bN what 8 (by decide) (by decide),bN who 3 (by decide) (by decide)⟩
    ·exact doMB2 what who n l e1 e2 e3 (cY ms) _ _ _ _ _ _ _ ⟨hs,wD hk hm (by decide),hmd,hv,hd,hpos,hno 3 (by decide),hno 2 (by decide),decide_eq_false (by omega),bN what 8 (by decide) (by decide),bN who 3 (by decide) (by decide)⟩
theorem do_ok (what who n : Int) (l : List Int) (hl : NumOk l 0) {k : Nat} {U : List (List UInt8)} {e1 e2 e3 : RS} {ms : List Ms} (h : WOk k U e1 e2 e3 ms) (hk : k <= 60) : ∃ U' f1 f2 f3 ns,WOk (k + 1) U' f1 f2 f3 ns /\ Gr e1 f1 /\ Gr e2 f2 /\ Gr e3 f3 /\ DoS g what who n l e1 e2 e3 (cY ms) f1 f2 f3 (cY ns) := by
 have hb := o7 what (m := 8) (by decide)
 by_cases h1 : mdL what 8 < 2
 exact do_give what who n l hl h hk h1
 by_cases h2 : mdL what 8 = 2
 exact aC6 what who n l h hk h2
 by_cases h3 : mdL what 8 = 3
 exact do_tick what who n l h hk h3
 exact do_take what who n l h hk (by omega)
end
section
open Go.Eng (inR byteAt u8 cK)
variable {g : Gv}
def dgs : List UInt8 := [48,49,50,51,52,53,54,55,56,57]
theorem aAB {d : Int} (h0 : 0 <= d) (h1 : d < 10) : (S [48,49,50,51,52,53,54,55,56,57]).extract d.toNat (d + 1).toNat = S [UInt8.ofNat (48 + d.toNat)] := by
 have h : ∀ j : Fin 10,((dgs.take (j.val + 1)).drop j.val) = [UInt8.ofNat (48 + j.val)] := by decide
 have e : (d + 1).toNat = d.toNat + 1 := by omega
 rw [dJ,e]
 exact congrArg S (h ⟨d.toNat,by omega⟩)
theorem p9 {k : Nat} (h : k < 10) : ((UInt8.ofNat (48 + k)).toNat : Int) = 48 + k := by
 have : ∀ j : Fin 10,((UInt8.ofNat (48 + j.val)).toNat : Int) = 48 + (j.val : Int) := by decide
 exact this ⟨k,h⟩
theorem aFN {n : Int} (h0 : 0 <= n) (h1 : n < 10) : Lib.itoa n = [UInt8.ofNat (48 + n.toNat)] := by
 rw [Lib.itoa,if_neg (by omega),Lib.decDigits,dif_pos (by omega)]
theorem aOB {n : Int} (h1 : ¬ n < 10) : Lib.itoa n = Lib.itoa (Int.tdiv n 10) ++ [UInt8.ofNat (48 + (Int.tmod n 10).toNat)] := by
 have e1 : (Int.tdiv n 10).toNat = n.toNat / 10 := by
  rw [Int.tdiv_eq_ediv_of_nonneg (by omega)]; omega
 have e2 : (Int.tmod n 10).toNat = n.toNat % 10 := by
  rw [Int.tmod_eq_emod_of_nonneg (by omega)]; omega
 have e3 : ¬ Int.tdiv n 10 < 0 := by
  rw [Int.tdiv_eq_ediv_of_nonneg (by omega)]; omega
 rw [Lib.itoa,if_neg (by omega),Lib.decDigits,dif_neg (by omega),Lib.itoa,if_neg e3,e1,e2]
theorem aKO {n : Int} (h0 : n < 0) (h1 : ¬ n <= -10) : Lib.itoa n = 45 :: [UInt8.ofNat (48 + (-Int.tmod n 10).toNat)] := by
 have e2 : (-Int.tmod n 10).toNat = n.natAbs := by
  have := Int.neg_tmod n 10
  have h2 := Int.tmod_eq_emod_of_nonneg (a := -n) (b := 10) (by omega)
  omega
 rw [Lib.itoa,if_pos (by omega),Lib.decDigits,dif_pos (by omega),e2]
theorem aKN {n : Int} (h1 : n <= -10) : Lib.itoa n = 45 :: (Lib.itoa (-Int.tdiv n 10) ++ [UInt8.ofNat (48 + (-Int.tmod n 10).toNat)]) := by
 have h2 := Int.tmod_eq_emod_of_nonneg (a := -n) (b := 10) (by omega)
 have h3 := Int.neg_tmod n 10
 have h4 := Int.neg_tdiv n 10
 have h5 := Int.tdiv_eq_ediv_of_nonneg (a := -n) (b := 10) (by omega)
 have e1 : (-Int.tdiv n 10).toNat = n.natAbs / 10 := by omega
 have e2 : (-Int.tmod n 10).toNat = n.natAbs % 10 := by omega
 have e3 : ¬ -Int.tdiv n 10 < 0 := by omega
 rw [Lib.itoa,if_pos (by omega),Lib.decDigits,dif_neg (by omega),Lib.itoa,if_neg e3,e1,e2]
theorem sO {n : Int} (h : n < 0) : 0 <= -Int.tmod n 10 /\ -Int.tmod n 10 < 10 /\ 0 <= -Int.tdiv n 10 /\ -Int.tdiv n 10 <= -n /\ (n <= -10 -> -Int.tdiv n 10 < -n) /\ -10 < Int.tmod n 10 /\ Int.tmod n 10 <= 0 := by
 have h2 := Int.tmod_eq_emod_of_nonneg (a := -n) (b := 10) (by omega)
 have h3 := Int.neg_tmod n 10
 have h4 := Int.neg_tdiv n 10
 have h5 := Int.tdiv_eq_ediv_of_nonneg (a := -n) (b := 10) (by omega)
 omega
theorem sI {n : Int} (h : 0 <= n) : 0 <= Int.tmod n 10 /\ Int.tmod n 10 < 10 /\ 0 <= Int.tdiv n 10 /\ Int.tdiv n 10 <= n /\ (10 <= n -> Int.tdiv n 10 < n) := by
 have h2 := Int.tmod_eq_emod_of_nonneg (a := n) (b := 10) (by omega)
 have h5 := Int.tdiv_eq_ediv_of_nonneg (a := n) (b := 10) (by omega)
 omega
def vI (l : List UInt8) : Int := l.foldl (fun v x => if x = 45 then v else 10 * v - ((x.toNat : Int) - 48)) 0
theorem qS (l : List UInt8) (x : UInt8) : vI (l ++ [x]) = if x = 45 then vI l else 10 * vI l - ((x.toNat : Int) - 48) := by simp [vI,List.foldl_append]
theorem aLN (u : Nat) : vI (Lib.decDigits u) = -(u : Int) := by
 induction u using Nat.strongRecOn with
 | ind u ih =>
  rw [Lib.decDigits]
  have hd : ∀ k,k < 10 -> ¬ UInt8.ofNat (48 + k) = 45 := by
   intro k hk
   have : ∀ j : Fin 10,¬ UInt8.ofNat (48 + j.val) = 45 := by decide
   exact this ⟨k,hk⟩
  by_cases h : u < 10
  rw [dif_pos h]
  have := qS [] (UInt8.ofNat (48 + u))
  rw [if_neg (hd u h),p9 h] at this
  rw [List.nil_append] at this
  rw [this]; simp [vI]; omega
  rw [dif_neg h,qS,if_neg (hd _ (by omega)),ih _ (by omega),p9 (by omega)]
  omega
theorem vI_min (l : List UInt8) : vI (45 :: l) = vI l := by simp [vI]
theorem vI_itoa (n : Int) : vI (Lib.itoa n) = if n < 0 then n else -n := by
 unfold Lib.itoa
 split
 rw [vI_min,aLN]; omega
 rw [aLN]; omega
theorem vI_bd : ∀ (l : List UInt8),(∀ x,x ∈ l -> x = 45 \/ s4 x = true) -> vI l <= 0 /\ -(10 ^ l.length : Int) < vI l := by
 intro l
 refine aG2 (p := fun l => (∀ x,x ∈ l -> x = 45 \/ s4 x = true) -> vI l <= 0 /\ -(10 ^ l.length : Int) < vI l) ?_ ?_ l
 intro _; simp [vI]
 intro l x ih h
 obtain ⟨h1,h2⟩ := ih fun y hy => h y (by simp [hy])
 have hx := h x (by simp)
 have e : (10 : Int) ^ (l ++ [x]).length = 10 * 10 ^ l.length := by rw [la,List.length_singleton,Int.pow_succ,Int.mul_comm]
 have hp : (0 : Int) < 10 ^ l.length := Int.pow_pos (by decide)
 rw [qS,e]
 split
 omega
 rename_i hn
 rcases hx with hx | hx
 exact absurd hx hn
 simp only [s4,bIQ,decide_eq_true_eq] at hx
 omega
theorem aH8 (n : Int) : ∀ x,x ∈ Lib.itoa n -> x = 45 \/ s4 x = true := by
 intro x hx
 unfold Lib.itoa at hx
 split at hx
 rcases mc.1 hx with rfl | hx
 exact .inl rfl
 exact .inr (at1.1 (jA _).1 x hx)
 exact .inr (at1.1 (jA _).1 x hx)
theorem int_bd {n : Int} (hn : nOk n) (k : Nat) : vI ((Lib.itoa n).take k) <= 0 /\ -100000000000000 < vI ((Lib.itoa n).take k) := by
 obtain ⟨h1,h2⟩ := vI_bd ((Lib.itoa n).take k) fun x hx => aH8 n x (List.mem_of_mem_take hx)
 have hl := bI hn
 have h3 : ((Lib.itoa n).take k).length <= 14 := by rw [lt1]; omega
 have h4 : (10 : Int) ^ ((Lib.itoa n).take k).length <= 10 ^ 14 := by
  have := Nat.pow_le_pow_right (n := 10) (by decide) h3
  exact_mod_cast this
 refine ⟨h1,?_⟩
 have e : (10 : Int) ^ 14 = 100000000000000 := by decide
 omega
theorem aMP {n : Int} {k : Nat} (hk : k < (Lib.itoa n).length) : ((Lib.itoa n).getD k 0 = 45 -> k = 0 /\ n < 0) /\ (k = 0 -> n < 0 -> (Lib.itoa n).getD k 0 = 45) := by
 constructor
 intro h
 have hm := aQ (z := (0 : UInt8)) hk
 have hno : ∀ u,¬ (45 : UInt8) ∈ Lib.decDigits u := fun u hu => (yY (at1.1 (jA u).1 _ hu)).1 rfl
 by_cases hn : n < 0
 refine ⟨?_,hn⟩
 rcases Nat.eq_zero_or_pos k with h0 | h0
 exact h0
 obtain ⟨j,rfl⟩ : ∃ j,k = j + 1 := ⟨k - 1,by omega⟩
 rw [Lib.itoa,if_pos hn] at h hk
 rw [List.getD_cons_succ] at h
 have := aQ (z := (0 : UInt8)) (l := Lib.decDigits n.natAbs) (k := j) (by simpa using hk)
 rw [h] at this
 exact absurd this (hno _)
 rw [h,Lib.itoa,if_neg hn] at hm
 exact absurd hm (hno _)
 rintro rfl hn
 rw [Lib.itoa,if_pos hn]; rfl
theorem aGI {n : Int} {k : Nat} (hk : k < (Lib.itoa n).length) : vI ((Lib.itoa n).take (k + 1)) = if (Lib.itoa n).getD k 0 = 45 then vI ((Lib.itoa n).take k) else 10 * vI ((Lib.itoa n).take k) - ((((Lib.itoa n).getD k 0).toNat : Int) - 48) := by
 rw [a7 (0 : UInt8) hk,qS]
theorem aOA (n : Int) : 0 < (Lib.itoa n).length := List.length_pos_iff.2 (yU n)
theorem aAI (l : List UInt8) (i : Int) : 0 <= byteAt (S l) i /\ byteAt (S l) i < 256 := by
 rw [dS]; have := (l.getD i.toNat 0).toNat_lt; omega
theorem dg_rng {x : UInt8} (h : x = 45 \/ s4 x = true) (hn : ¬ x = 45) : 48 <= x.toNat /\ x.toNat <= 57 := by
 rcases h with h | h
 exact absurd h hn
 simpa [s4] using h
theorem aCM {l : List UInt8} {k : Nat} (h : 48 <= (l.getD k 0).toNat /\ (l.getD k 0).toNat <= 57) : IntKind.wrap .i64 (IntKind.wrap .u8 (byteAt (S l) (k : Int) - 48)) = ((l.getD k 0).toNat : Int) - 48 := by
 rw [dS,Int.toNat_natCast]
 have h2 : ∀ j : Fin 10,IntKind.wrap .i64 (IntKind.wrap .u8 (j.val : Int)) = (j.val : Int) := by decide
 have h3 := h2 ⟨(l.getD k 0).toNat - 48,by omega⟩
 have e : (((l.getD k 0).toNat - 48 : Nat) : Int) = ((l.getD k 0).toNat : Int) - 48 := by omega
 simp only [e] at h3
 exact h3
theorem is45 {x : UInt8} (h : (x.toNat : Int) = 45) : x = 45 := UInt8.toNat_inj.1 (by have e : (45 : UInt8).toNat = 45 := rfl; rw [e]; omega)
theorem un_in {a r : List UInt8} {c : UInt8} {k : Nat} (hk : k <= a.length) (h : (k : Int) < ((a ++ c :: r).length : Int) /\ ¬ (((a ++ c :: r).getD k 0).toNat : Int) = (c.toNat : Int)) : k < a.length := by
 rcases Nat.lt_or_ge k a.length with h1 | h1
 exact h1
 have : k = a.length := by omega
 subst this
 exact absurd (by simp) h.2
theorem aLQ {a r : List UInt8} {c : UInt8} {k : Nat} (hno : ∀ x,x ∈ a -> ¬ x = c) (hk : k <= a.length) (h : ¬ (k : Int) < ((a ++ c :: r).length : Int) \/ (((a ++ c :: r).getD k 0).toNat : Int) = (c.toNat : Int)) : k = a.length := by
 rcases Nat.lt_or_ge k a.length with h1 | h1
 rcases h with h | h
 simp only [zq0] at h; omega
 have e : (a ++ c :: r).getD k 0 = a.getD k 0 := by simp [List.getElem?_append_left h1]
 rw [e] at h
 have h2 : a.getD k 0 = c := UInt8.toNat_inj.1 (by omega)
 exact absurd h2 (hno _ (aQ h1))
 omega
theorem un_a {a r : List UInt8} {c : UInt8} {k : Nat} (h : k = a.length) : (S (a ++ c :: r)).extract 0 k = S a := by
 subst h; rw [dJ]; simp
theorem un_b {a r : List UInt8} {c : UInt8} {k : Nat} (h : k = a.length) : (S (a ++ c :: r)).extract (if ((S (a ++ c :: r)).size : Int) < (k : Int) + 1 then ((S (a ++ c :: r)).size : Int) else (k : Int) + 1).toNat (S (a ++ c :: r)).size = S r := by
 subst h
 have e : (if ((S (a ++ c :: r)).size : Int) < (a.length : Int) + 1 then ((S (a ++ c :: r)).size : Int) else (a.length : Int) + 1).toNat = a.length + 1 := by
  rw [aH]; simp only [zq0]; split <;> omega
 rw [e,fK,<- List.drop_drop,List.drop_left]; rfl
theorem un_c {a r : List UInt8} {c : UInt8} {k : Nat} {ok : Bool} (h : k = a.length) : (ok && decide ((k : Int) < ((S (a ++ c :: r)).size : Int))) = ok := by
 subst h
 have e : decide ((a.length : Int) < ((S (a ++ c :: r)).size : Int)) = true := by
  rw [aH]; simp only [la,lc,decide_eq_true_eq]; omega
 rw [e,Bool.and_true]
theorem un_in2 {a : List UInt8} {c : UInt8} {k : Nat} (h : (k : Int) < (a.length : Int) /\ ¬ ((a.getD k 0).toNat : Int) = (c.toNat : Int)) : k < a.length := by omega
theorem un_out2 {a : List UInt8} {c : UInt8} {k : Nat} (hno : ∀ x,x ∈ a -> ¬ x = c) (hk : k <= a.length) (h : ¬ (k : Int) < (a.length : Int) \/ ((a.getD k 0).toNat : Int) = (c.toNat : Int)) : k = a.length := by
 rcases Nat.lt_or_ge k a.length with h1 | h1
 rcases h with h | h
 omega
 have h2 : a.getD k 0 = c := UInt8.toNat_inj.1 (by omega)
 exact absurd h2 (hno _ (aQ h1))
 omega
theorem un_a2 {a : List UInt8} {k : Nat} (h : k = a.length) : (S a).extract 0 k = S a := by
 subst h; rw [dJ]; simp
theorem un_b2 {a : List UInt8} {k : Nat} (h : k = a.length) : (S a).extract (if ((S a).size : Int) < (k : Int) + 1 then ((S a).size : Int) else (k : Int) + 1).toNat (S a).size = S [] := by
 subst h
 have e : (if ((S a).size : Int) < (a.length : Int) + 1 then ((S a).size : Int) else (a.length : Int) + 1).toNat = a.length := by
  rw [aH]; split <;> omega
 rw [e,fK,List.drop_length]
theorem un_c2 {a : List UInt8} {k : Nat} {ok : Bool} (h : k = a.length) : (ok && decide ((k : Int) < ((S a).size : Int))) = false := by
 subst h
 have e : decide ((a.length : Int) < ((S a).size : Int)) = false := by
  rw [aH]; simp
 rw [e,Bool.and_false]
theorem aAZ (t r : List UInt8) : wdT t ++ 32 :: r = Lib.itoa (t.length : Int) ++ 58 :: (t ++ 32 :: r) := by simp [wdT]
theorem wd_take (t r : List UInt8) : (S (t ++ 32 :: r)).extract 0 t.length = S t := by rw [dJ]; simp
theorem wd_drop (t r : List UInt8) : (S (t ++ 32 :: r)).extract ((t.length : Int) + 1).toNat (S (t ++ 32 :: r)).size = S r := by
 have e : ((t.length : Int) + 1).toNat = t.length + 1 := by omega
 rw [e,fK,<- List.drop_drop,List.drop_left]; rfl
def g5 := And.intro @lc.{0} (And.intro @ln.{0} (And.intro @aH (And.intro @decide_eq_true_eq (And.intro @Go.Eng.inR.eq_1 (@maxLen.eq_1)))))
theorem aPA (n : Int) (hn : nOk n) (ih : ∀ m : Int,nOk m -> m.natAbs < n.natAbs -> SpG g 73 [.c (cI m)] [] (.c (cS (S (Lib.itoa m)))) []) :
  SpG g 73 [.c (cI n)] [] (.c (cS (S (Lib.itoa n)))) [] := by
 have q1 := hn.1
 have q2 := hn.2
 have q3 := sO (n := n)
 have q4 := sI (n := n)
 have hw1 : n < 0 -> IntKind.i64.wrap (0 - Int.tdiv n 10) = -Int.tdiv n 10 := fun h => by rw [wrap64 (by unfold inR; omega)]; omega
 have hw2 : n < 0 -> IntKind.i64.wrap (0 - Int.tmod n 10) = -Int.tmod n 10 := fun h => by rw [wrap64 (by unfold inR; omega)]; omega
 have hl1 : n < 0 -> (Lib.itoa (-Int.tdiv n 10)).length <= 14 := fun h => bI ⟨by omega,by omega⟩
 have hl2 : 0 <= n -> (Lib.itoa (Int.tdiv n 10)).length <= 14 := fun h => bI ⟨by omega,by omega⟩
 refine aK 43 Tryz.func73 fun fr hG => ?_
 refine zC hG [] [1,0,1] ((decide ((n : Int) >= 0)) && (decide ((n : Int) < 10))) (⟨[zI 0 n,zS 2 (S [])],[]⟩) aB (fun hc1 => ?_) (fun hc1 => ?_)
 (try simp only [blS] at hc1)
 refine zR hG [] [] (.c (cS ((S [48,49,50,51,52,53,54,55,56,57]).extract (n : Int).toNat (n + 1 : Int).toNat))) [] (aA (by intros; (try rw [hw2 (by omega)]); (try simp only [g5,sa,ByteArray.size_extract] at *); omega : inR (n + 1)) (aC (by intros; (try rw [hw2 (by omega)]); (try simp only [g5,sa,ByteArray.size_extract] at *); omega : (0 : Int) <= n /\ (n : Int) <= (n + 1) /\ (n + 1) <= ((S [48,49,50,51,52,53,54,55,56,57]).size : Int)))) ?_ ?_
 rw [aAB (by omega) (by omega),aFN (n := n) (by omega) (by omega)]
 rfl
 (try simp only [blS] at hc1)
 refine zp hG [] [1,0,1,1] ((n : Int) < 0) aB (fun hc2 => ?_) (fun hc2 => ?_)
 skip
 refine zP hG [] [1,0,1,0,1,0,1,1] ((n : Int) <= (-10)) (⟨[zI 0 n,zS 2 (S []),zS 3 (S [])],[]⟩) aB (fun hc3 => ?_) (fun hc3 => ?_)
 skip
 refine zR hG [(6,3,kS (S (Lib.itoa (-Int.tdiv n 10))))] [] (.c (cS (((S [45]) ++ (S (Lib.itoa (-Int.tdiv n 10)))) ++ ((S [48,49,50,51,52,53,54,55,56,57]).extract (IntKind.wrap .i64 (0 - (Int.tmod n 10)) : Int).toNat ((IntKind.wrap .i64 (0 - (Int.tmod n 10))) + 1 : Int).toNat)))) [] (aA (by intros; (try rw [hw2 (by omega)]); (try simp only [g5,sa,ByteArray.size_extract] at *); omega : 10 ≠ (0 : Int) /\ inR (Int.tdiv n 10)) (cS2 g ((show SpG g 73 [.c (cI (IntKind.wrap .i64 (0 - (Int.tdiv n 10))))] [] (.c (cS (S (Lib.itoa (-Int.tdiv n 10))))) [] from by rw [hw1 (by omega)]; exact ih (-Int.tdiv n 10) (by obtain ⟨q1,q2⟩ := hn; have q3 := sO (n := n); have q4 := sI (n := n); constructor <;> omega) (by have q3 := sO (n := n); have q4 := sI (n := n); omega))) (aA (by intros; (try rw [hw2 (by omega)]); (try simp only [g5,sa,ByteArray.size_extract] at *); omega : 10 ≠ (0 : Int)) (aA (by intros; (try rw [hw2 (by omega)]); (try simp only [g5,sa,ByteArray.size_extract] at *); omega : (S [45]).size + (S (Lib.itoa (-Int.tdiv n 10))).size <= maxLen) (aA (by intros; (try rw [hw2 (by omega)]); (try simp only [g5,sa,ByteArray.size_extract] at *); omega : inR ((IntKind.wrap .i64 (0 - (Int.tmod n 10))) + 1)) (aA (by intros; (try rw [hw2 (by omega)]); (try simp only [g5,sa,ByteArray.size_extract] at *); omega : (0 : Int) <= (IntKind.wrap .i64 (0 - (Int.tmod n 10))) /\ (IntKind.wrap .i64 (0 - (Int.tmod n 10)) : Int) <= ((IntKind.wrap .i64 (0 - (Int.tmod n 10))) + 1) /\ ((IntKind.wrap .i64 (0 - (Int.tmod n 10))) + 1) <= ((S [48,49,50,51,52,53,54,55,56,57]).size : Int)) (aC (by intros; (try rw [hw2 (by omega)]); (try simp only [g5,sa,ByteArray.size_extract] at *); omega : ((S [45]) ++ (S (Lib.itoa (-Int.tdiv n 10)))).size + ((S [48,49,50,51,52,53,54,55,56,57]).extract (IntKind.wrap .i64 (0 - (Int.tmod n 10)) : Int).toNat ((IntKind.wrap .i64 (0 - (Int.tmod n 10))) + 1 : Int).toNat).size <= maxLen)))))))) ?_ ?_
 rw [hw2 (by omega),aAB (d := -Int.tmod n 10) (by omega) (by omega),aKN (n := n) (by omega)]; simp [bZ]
 rfl
 skip
 refine zR hG [] [] (.c (cS ((S [45]) ++ ((S [48,49,50,51,52,53,54,55,56,57]).extract (IntKind.wrap .i64 (0 - (Int.tmod n 10)) : Int).toNat ((IntKind.wrap .i64 (0 - (Int.tmod n 10))) + 1 : Int).toNat)))) [] (aA (by intros; (try rw [hw2 (by omega)]); (try simp only [g5,sa,ByteArray.size_extract] at *); omega : 10 ≠ (0 : Int)) (aA (by decide : (S [45]).size + (S []).size <= maxLen) (aA (by intros; (try rw [hw2 (by omega)]); (try simp only [g5,sa,ByteArray.size_extract] at *); omega : inR ((IntKind.wrap .i64 (0 - (Int.tmod n 10))) + 1)) (aA (by intros; (try rw [hw2 (by omega)]); (try simp only [g5,sa,ByteArray.size_extract] at *); omega : (0 : Int) <= (IntKind.wrap .i64 (0 - (Int.tmod n 10))) /\ (IntKind.wrap .i64 (0 - (Int.tmod n 10)) : Int) <= ((IntKind.wrap .i64 (0 - (Int.tmod n 10))) + 1) /\ ((IntKind.wrap .i64 (0 - (Int.tmod n 10))) + 1) <= ((S [48,49,50,51,52,53,54,55,56,57]).size : Int)) (aC (by intros; (try rw [hw2 (by omega)]); (try simp only [g5,sa,ByteArray.size_extract] at *); omega : (S [45]).size + ((S [48,49,50,51,52,53,54,55,56,57]).extract (IntKind.wrap .i64 (0 - (Int.tmod n 10)) : Int).toNat ((IntKind.wrap .i64 (0 - (Int.tmod n 10))) + 1 : Int).toNat).size <= maxLen)))))) ?_ ?_
 rw [hw2 (by omega),aAB (d := -Int.tmod n 10) (by omega) (by omega),aKO (n := n) (by omega) (by omega)]; simp [bZ]
 rfl
 skip
 refine zR hG [(9,2,kS (S (Lib.itoa (Int.tdiv n 10))))] [] (.c (cS ((S (Lib.itoa (Int.tdiv n 10))) ++ ((S [48,49,50,51,52,53,54,55,56,57]).extract (Int.tmod n 10 : Int).toNat ((Int.tmod n 10) + 1 : Int).toNat)))) [] (aA (by intros; (try rw [hw2 (by omega)]); (try simp only [g5,sa,ByteArray.size_extract] at *); omega : 10 ≠ (0 : Int) /\ inR (Int.tdiv n 10)) (cS2 g (ih (Int.tdiv n 10) (by obtain ⟨q1,q2⟩ := hn; have q3 := sO (n := n); have q4 := sI (n := n); constructor <;> omega) (by have q3 := sO (n := n); have q4 := sI (n := n); omega)) (aA (by intros; (try rw [hw2 (by omega)]); (try simp only [g5,sa,ByteArray.size_extract] at *); omega : 10 ≠ (0 : Int)) (aA (by intros; (try rw [hw2 (by omega)]); (try simp only [g5,sa,ByteArray.size_extract] at *); omega : 10 ≠ (0 : Int)) (aA (by intros; (try rw [hw2 (by omega)]); (try simp only [g5,sa,ByteArray.size_extract] at *); omega : inR ((Int.tmod n 10) + 1)) (aA (by intros; (try rw [hw2 (by omega)]); (try simp only [g5,sa,ByteArray.size_extract] at *); omega : (0 : Int) <= (Int.tmod n 10) /\ (Int.tmod n 10 : Int) <= ((Int.tmod n 10) + 1) /\ ((Int.tmod n 10) + 1) <= ((S [48,49,50,51,52,53,54,55,56,57]).size : Int)) (aC (by intros; (try rw [hw2 (by omega)]); (try simp only [g5,sa,ByteArray.size_extract] at *); omega : (S (Lib.itoa (Int.tdiv n 10))).size + ((S [48,49,50,51,52,53,54,55,56,57]).extract (Int.tmod n 10 : Int).toNat ((Int.tmod n 10) + 1 : Int).toNat).size <= maxLen)))))))) ?_ ?_
 rw [aAB (by omega) (by omega),aOB (n := n) (by omega)]; simp [bZ]
 rfl
theorem pM (n : Int) (hn : nOk n) : SpG g 73 [.c (cI n)] [] (.c (cS (S (Lib.itoa n)))) [] := by
 have go : ∀ k : Nat,∀ n : Int,n.natAbs = k -> nOk n -> SpG g 73 [.c (cI n)] [] (.c (cS (S (Lib.itoa n)))) [] := by
  intro k
  induction k using Nat.strongRecOn with
  | ind k ih =>
   intro n hk hn
   exact aPA n hn fun m hm hl => ih m.natAbs (by omega) m rfl hm
 exact go _ n rfl hn
theorem kA (s : List UInt8) (hs : s.length <= 1000000) :
  SpG g 128 [.c (cS (S s))] [] (.c (cS (S (wdT s)))) [] := by
 have hl := bI (n := ((S s).size : Int)) (by rw [aH]; exact dW hs)
 refine aK 9 Tryz.func128 fun fr hG => ?_
 refine zR hG [(1,2,kS (S (Lib.itoa ((S s).size : Int))))] [] (.c (cS (((S (Lib.itoa ((S s).size : Int))) ++ (S [58])) ++ (S s)))) [] (cS2 g (pM ((S s).size : Int) (by rw [aH]; exact dW hs)) (aA (by intros; (try simp only [g5,sa] at *); omega : (S (Lib.itoa ((S s).size : Int))).size + (S [58]).size <= maxLen) (aC (by intros; (try simp only [g5,sa] at *); omega : ((S (Lib.itoa ((S s).size : Int))) ++ (S [58])).size + (S s).size <= maxLen)))) ?_ ?_
 rw [aH]; simp [wdT,bZ]
 rfl
def aAV := And.intro @aH (And.intro @decide_eq_true_eq (And.intro @Go.Eng.inR.eq_1 (@maxLen.eq_1)))
abbrev y42 (a0 : Int) : SV := .tup [(false,[cI a0]),(false,[cB true])]
theorem zF (n : Int) (hn : nOk n) :
  SpG g 40 [.c (cS (S (Lib.itoa n)))] [] (y42 n) [] := by
 have hlen := bI hn
 have hpos := aOA n
 refine aK 57 Tryz.func40 fun fr hG => ?_
 refine zL hG [] [0,1,0,1,1] (fun (zz : Nat × Int) => match zz with | (k,v) => ((Lib.itoa n).length - k,⟨[zS 0 (S (Lib.itoa n)),zI 2 0,zB 3 false,zI 4 v,zI 5 (k : Int)],[]⟩,k <= (Lib.itoa n).length /\ v = vI ((Lib.itoa n).take k))) (0,0) aB ?_ ?_
 exact ⟨zl _,rfl⟩
 rintro ⟨k,v⟩ ⟨hk,hv⟩
 have hbd := int_bd hn k
 rw [<- hv] at hbd
 have hb := aAI (Lib.itoa n) (k : Int)
 refine zc hG [] [1,0] (decide ((k : Int) < ((S (Lib.itoa n)).size : Int))) aB (fun hc2 => ?_) (fun hc2 => ?_)
 (try simp only [d2] at hc2)
 have hkl : k < (Lib.itoa n).length := by omega
 have hsg := aMP hkl
 have hdg := aH8 n _ (aQ (z := (0 : UInt8)) hkl)
 refine zc hG [] [1,0,0,0,1] ((decide ((byteAt (S (Lib.itoa n)) (k : Int) : Int) = 45)) && (decide ((k : Int) = 0))) (aC (by intros; (try simp only [aAV] at *); omega : (0 : Int) <= (k : Int) /\ (k : Int) < ((S (Lib.itoa n)).size : Int))) (fun hc3 => ?_) (fun hc3 => ?_)
 (try simp only [d2] at hc3)
 refine zD hG [] (k + 1,v) (aC (by intros; (try simp only [aAV] at *); omega : inR ((k : Int) + 1))) ?_ ?_
 (try dsimp only); omega
 refine ⟨by omega,?_⟩
 rw [aGI hkl,if_pos (is45 (by simpa only [Int.toNat_natCast] using hc3.1))]; exact hv
 (try simp only [d2] at hc3)
 simp only [Int.toNat_natCast] at hc3
 have hno : ¬ (Lib.itoa n).getD k 0 = 45 := by
  intro e
  have := hsg.1 e
  rcases hc3 with h | h
  exact h (by rw [e]; rfl)
  omega
 have hd := dg_rng hdg hno
 refine zc hG [] [1,0,1,0,0,1] (((decide ((byteAt (S (Lib.itoa n)) (k : Int) : Int) < 48)) || (decide ((byteAt (S (Lib.itoa n)) (k : Int) : Int) > 57))) || (decide ((k : Int) > 19))) (aA (by intros; (try simp only [aAV] at *); omega : (0 : Int) <= (k : Int) /\ (k : Int) < ((S (Lib.itoa n)).size : Int)) (aC (by intros; (try simp only [aAV] at *); omega : (decide ((byteAt (S (Lib.itoa n)) (k : Int) : Int) < 48)) = false -> (0 : Int) <= (k : Int) /\ (k : Int) < ((S (Lib.itoa n)).size : Int)))) (fun hc4 => ?_) (fun hc4 => ?_)
 (try simp only [d2] at hc4)
 simp only [Int.toNat_natCast] at hc4; exfalso; omega
 (try simp only [d2] at hc4)
 refine zD hG [] (k + 1,(10 * v) - (IntKind.wrap .i64 (IntKind.wrap .u8 ((byteAt (S (Lib.itoa n)) (k : Int)) - 48)))) (aA (by intros; (try simp only [aAV] at *); omega : inR (10 * v)) (aA (by intros; (try simp only [aAV] at *); omega : (0 : Int) <= (k : Int) /\ (k : Int) < ((S (Lib.itoa n)).size : Int)) (aA (by rw [aCM hd]; unfold inR; omega : inR ((10 * v) - (IntKind.wrap .i64 (IntKind.wrap .u8 ((byteAt (S (Lib.itoa n)) (k : Int)) - 48))))) (aC (by intros; (try simp only [aAV] at *); omega : inR ((k : Int) + 1)))))) ?_ ?_
 (try dsimp only); omega
 refine ⟨by omega,?_⟩
 rw [aGI hkl,if_neg hno,hv,aCM hd]
 (try simp only [d2] at hc2)
 have hkl : k = (Lib.itoa n).length := by omega
 rw [hkl,List.take_length,vI_itoa] at hv
 have hsg := aMP hpos
 refine zE hG [] (.exit 0) (⟨[zS 0 (S (Lib.itoa n)),zI 2 0,zB 3 false,zI 4 v],[]⟩) aB rfl ?_
 refine zc hG [] [1,0,1,1,1] ((decide ((((S (Lib.itoa n)).size : Int) : Int) > 0)) && (!decide ((byteAt (S (Lib.itoa n)) 0 : Int) = 45))) (aC (by intros; (try simp only [aAV] at *); omega : (decide ((((S (Lib.itoa n)).size : Int) : Int) > 0)) = true -> (0 : Int) <= 0 /\ 0 < ((S (Lib.itoa n)).size : Int))) (fun hc5 => ?_) (fun hc5 => ?_)
 (try simp only [d2] at hc5)
 have hn0 : ¬ n < 0 := fun e => hc5.2 (by rw [show Int.toNat 0 = 0 from rfl,hsg.2 rfl e]; rfl)
 rw [if_neg hn0] at hv
 have hw : IntKind.wrap .i64 (0 - v) = n := by
  rw [wrap64 (by unfold inR; have := hn.1; have := hn.2; omega)]; omega
 refine zR hG [(11,2,kS (S (Lib.itoa (IntKind.wrap .i64 (0 - v)))))] [] (.tup [(false,[cI (IntKind.wrap .i64 (0 - v))]),(false,[cB ((S (Lib.itoa (IntKind.wrap .i64 (0 - v)))).toList == (S (Lib.itoa n)).toList)])]) [] (cS1 g (pM (IntKind.wrap .i64 (0 - v)) (by first | exact hn | (rw [hw]; exact hn)))) ?_ ?_
 rw [hw]; simp
 rfl
 (try simp only [d2] at hc5)
 have hn0 : n < 0 := by
  rcases hc5 with h | h
  omega
  exact (hsg.1 (is45 h)).2
 rw [if_pos hn0] at hv
 have hw := hv
 refine zR hG [(11,2,kS (S (Lib.itoa v)))] [] (.tup [(false,[cI v]),(false,[cB ((S (Lib.itoa v)).toList == (S (Lib.itoa n)).toList)])]) [] (cS1 g (pM v (by first | exact hn | (rw [hw]; exact hn)))) ?_ ?_
 rw [hw]; simp
 rfl
def nY := And.intro @la.{0} (And.intro @lc.{0} (And.intro @ln.{0} (And.intro @aH (And.intro @decide_eq_true_eq (And.intro @Go.Eng.inR.eq_1 (@maxLen.eq_1))))))
theorem aBG (a r : List UInt8) (c : UInt8) (ok : Bool) (hno : ∀ x,x ∈ a -> ¬ x = c) (hl : (a ++ c :: r).length <= 1000000000) :
  SpG g 74 [.c (.bx 0 0),.c (.d (.y (c.toNat : Int)))] [(0,.box 158 [cS (S (a ++ c :: r)),cB ok])] (.c (cS (S a))) [(0,.box 158 [cS (S r),cB ok])] := by
 refine aK 65 Tryz.func74 fun fr hG => ?_
 refine zL hG [] [0,0,1,1] (fun (zz : Nat) => match zz with | k => (a.length - k,⟨[zX 0 0 0,(1,[],.c (.d (.y (c.toNat : Int)))),zS 4 (S []),zI 5 (k : Int)],[(0,.box 158 [cS (S (a ++ c :: r)),cB ok])]⟩,k <= a.length)) 0 aB ?_ ?_
 exact zl _
 rintro k hk
 have hb := aAI (a ++ c :: r) (k : Int)
 refine zc hG [] [1,0] ((decide ((k : Int) < ((S (a ++ c :: r)).size : Int))) && (!decide ((byteAt (S (a ++ c :: r)) (k : Int) : Int) = (c.toNat : Int)))) (aC (by intros; (try simp only [nY] at *); omega : (decide ((k : Int) < ((S (a ++ c :: r)).size : Int))) = true -> (0 : Int) <= (k : Int) /\ (k : Int) < ((S (a ++ c :: r)).size : Int))) (fun hc2 => ?_) (fun hc2 => ?_)
 (try simp only [d2] at hc2)
 have hka : k < a.length := un_in (r := r) hk (by simpa only [Int.toNat_natCast] using hc2)
 refine zD hG [] (k + 1) (aC (by intros; (try simp only [nY] at *); omega : inR ((k : Int) + 1))) ?_ ?_
 (try dsimp only); omega
 omega
 (try simp only [d2] at hc2)
 have hka : k = a.length := aLQ (r := r) hno hk (by simpa only [Int.toNat_natCast] using hc2)
 refine zE hG [] (.exit 0) (⟨[zX 0 0 0,zS 4 (S []),zI 5 (k : Int)],[(0,.box 158 [cS (S (a ++ c :: r)),cB ok])]⟩) aB rfl ?_
 refine zR hG [] [] (.c (cS ((S (a ++ c :: r)).extract 0 k))) [(0,.box 158 [cS ((S (a ++ c :: r)).extract (if (((S (a ++ c :: r)).size : Int) : Int) < ((k : Int) + 1) then ((S (a ++ c :: r)).size : Int) else ((k : Int) + 1) : Int).toNat (S (a ++ c :: r)).size),cB (ok && (decide ((k : Int) < ((S (a ++ c :: r)).size : Int))))])] (aA (by intros; (try simp only [nY] at *); omega : (0 : Int) <= 0 /\ (0 : Int) <= (k : Int) /\ (k : Int) <= ((S (a ++ c :: r)).size : Int)) (aA (by intros; (try simp only [nY] at *); omega : inR ((k : Int) + 1)) (aC (by intros; (try simp only [nY] at *); omega : (0 : Int) <= (if (((S (a ++ c :: r)).size : Int) : Int) < ((k : Int) + 1) then ((S (a ++ c :: r)).size : Int) else ((k : Int) + 1)) /\ ((if (((S (a ++ c :: r)).size : Int) : Int) < ((k : Int) + 1) then ((S (a ++ c :: r)).size : Int) else ((k : Int) + 1)) : Int) <= ((S (a ++ c :: r)).size : Int) /\ ((S (a ++ c :: r)).size : Int) <= ((S (a ++ c :: r)).size : Int))))) ?_ ?_
 rw [un_a hka]
 rw [un_b hka,un_c hka]
theorem aIU (a : List UInt8) (c : UInt8) (ok : Bool) (hno : ∀ x,x ∈ a -> ¬ x = c) (hl : a.length <= 1000000000) :
  SpG g 74 [.c (.bx 0 0),.c (.d (.y (c.toNat : Int)))] [(0,.box 158 [cS (S a),cB ok])] (.c (cS (S a))) [(0,.box 158 [cS (S ([])),cB false])] := by
 refine aK 65 Tryz.func74 fun fr hG => ?_
 refine zL hG [] [0,0,1,1] (fun (zz : Nat) => match zz with | k => (a.length - k,⟨[zX 0 0 0,(1,[],.c (.d (.y (c.toNat : Int)))),zS 4 (S []),zI 5 (k : Int)],[(0,.box 158 [cS (S a),cB ok])]⟩,k <= a.length)) 0 aB ?_ ?_
 exact zl _
 rintro k hk
 have hb := aAI a (k : Int)
 refine zc hG [] [1,0] ((decide ((k : Int) < ((S a).size : Int))) && (!decide ((byteAt (S a) (k : Int) : Int) = (c.toNat : Int)))) (aC (by intros; (try simp only [nY] at *); omega : (decide ((k : Int) < ((S a).size : Int))) = true -> (0 : Int) <= (k : Int) /\ (k : Int) < ((S a).size : Int))) (fun hc2 => ?_) (fun hc2 => ?_)
 (try simp only [d2] at hc2)
 have hka : k < a.length := un_in2 (c := c) (by simpa only [Int.toNat_natCast] using hc2)
 refine zD hG [] (k + 1) (aC (by intros; (try simp only [nY] at *); omega : inR ((k : Int) + 1))) ?_ ?_
 (try dsimp only); omega
 omega
 (try simp only [d2] at hc2)
 have hka : k = a.length := un_out2 hno hk (by simpa only [Int.toNat_natCast] using hc2)
 refine zE hG [] (.exit 0) (⟨[zX 0 0 0,zS 4 (S []),zI 5 (k : Int)],[(0,.box 158 [cS (S a),cB ok])]⟩) aB rfl ?_
 refine zR hG [] [] (.c (cS ((S a).extract 0 k))) [(0,.box 158 [cS ((S a).extract (if (((S a).size : Int) : Int) < ((k : Int) + 1) then ((S a).size : Int) else ((k : Int) + 1) : Int).toNat (S a).size),cB (ok && (decide ((k : Int) < ((S a).size : Int))))])] (aA (by intros; (try simp only [nY] at *); omega : (0 : Int) <= 0 /\ (0 : Int) <= (k : Int) /\ (k : Int) <= ((S a).size : Int)) (aA (by intros; (try simp only [nY] at *); omega : inR ((k : Int) + 1)) (aC (by intros; (try simp only [nY] at *); omega : (0 : Int) <= (if (((S a).size : Int) : Int) < ((k : Int) + 1) then ((S a).size : Int) else ((k : Int) + 1)) /\ ((if (((S a).size : Int) : Int) < ((k : Int) + 1) then ((S a).size : Int) else ((k : Int) + 1)) : Int) <= ((S a).size : Int) /\ ((S a).size : Int) <= ((S a).size : Int))))) ?_ ?_
 rw [un_a2 hka]
 rw [un_b2 hka,un_c2 hka]
abbrev y43 (a0 : ByteArray) : Ob := .box 158 [cS a0,cB true]
theorem o3 (n : Int) (hn : nOk n) (c : UInt8) (r : List UInt8) (hc : ∀ x,x ∈ Lib.itoa n -> ¬ x = c) (hl : (Lib.itoa n ++ c :: r).length <= 1000000000) :
  SpG g 75 [.c (.bx 0 0),.c (.d (.y (c.toNat : Int)))] [(0,y43 (S (Lib.itoa n ++ c :: r)))] (.c (cI n)) [(0,y43 (S r))] := by
 refine aK 25 Tryz.func75 fun fr hG => ?_
 exact zr hG [(1,2,.call (.c (cS (S (Lib.itoa n)))) [] [[.s (S r),.b true]]),(1,3,kC (y42 n))] [] (cS2 g (aBG (Lib.itoa n) r c true hc hl) (cS1 g (zF n hn)))
theorem aFG (n : Int) (hn : nOk n) :
  SpG g 75 [.c (.bx 0 0),.c (.d (.y 44))] [(0,y43 (S (Lib.itoa n)))] (.c (cI n)) [(0,.box 158 [cS (S ([])),cB false])] := by
 refine aK 25 Tryz.func75 fun fr hG => ?_
 exact zr hG [(1,2,.call (.c (cS (S (Lib.itoa n)))) [] [[.s (S []),.b false]]),(1,3,kC (y42 n))] [] (cS2 g (aIU (Lib.itoa n) 44 true (cQ (.inr (.inr rfl))) (by have := bI hn; omega)) (cS1 g (zF n hn)))
theorem word_at (t r : List UInt8) (ht : t.length <= 1000000) (hl : (wdT t ++ 32 :: r).length <= 1000000000) :
  SpG g 77 [.c (.bx 0 0)] [(0,y43 (S (Lib.itoa (t.length : Int) ++ 58 :: (t ++ 32 :: r))))] (.c (cS (S t))) [(0,y43 (S r))] := by
 refine aK 45 Tryz.func77 fun fr hG => ?_
 refine zC hG [(1,1,.call (.c (cI (t.length : Int))) [] [[.s (S (t ++ 32 :: r)),.b true]])] [1,0,1,1] ((decide (((t.length : Int) : Int) < 0)) || (decide (((t.length : Int) : Int) >= ((S (t ++ 32 :: r)).size : Int)))) (⟨[zX 0 0 0,zS 2 (S []),zI 3 (t.length : Int)],[(0,y43 (S (t ++ 32 :: r)))]⟩) (cS1 g (o3 (t.length : Int) (dW ht) 58 (t ++ 32 :: r) (cQ (.inr (.inl rfl))) (by rw [<- aAZ]; exact hl))) (fun hc1 => ?_) (fun hc1 => ?_)
 (try simp only [blS,aH] at hc1)
 exfalso; simp only [zq0,Bool.false_eq_true,false_or] at hc1; omega
 (try simp only [blS,aH] at hc1)
 refine zR hG [] [] (.c (cS ((S (t ++ 32 :: r)).extract 0 t.length))) [(0,y43 ((S (t ++ 32 :: r)).extract ((t.length : Int) + 1 : Int).toNat (S (t ++ 32 :: r)).size))] (aA (by intros; (try simp only [nY] at *); omega : (0 : Int) <= 0 /\ (0 : Int) <= (t.length : Int) /\ (t.length : Int) <= ((S (t ++ 32 :: r)).size : Int)) (aA (by intros; (try simp only [nY] at *); omega : inR ((t.length : Int) + 1)) (aC (by intros; (try simp only [nY] at *); omega : (0 : Int) <= ((t.length : Int) + 1) /\ ((t.length : Int) + 1 : Int) <= ((S (t ++ 32 :: r)).size : Int) /\ ((S (t ++ 32 :: r)).size : Int) <= ((S (t ++ 32 :: r)).size : Int))))) ?_ ?_
 rw [wd_take]
 rw [wd_drop]
end
section
open Go.Eng (inR byteAt u8 cK)
variable {g : Gv}
def ttx (i : It) (k : Nat) : List UInt8 := [105,116,101,109] ++ ((bG i).take k).flatMap fun n => 32 :: Lib.itoa n
theorem aLV (i : It) {k : Nat} (h : k < 5) : ttx i (k + 1) = ttx i k ++ 32 :: Lib.itoa ((bG i).getD k 0) := by
 unfold ttx
 rw [a7 0 (show k < (bG i).length from h)]; simp
def ttw (i : It) : List UInt8 := ttx i 5 ++ [32] ++ wdT (rwT i.input) ++ [32] ++ wdT (tvT i.output) ++ [32] ++ wdT i.prop ++ [32] ++ wdT i.param ++ [32]
def prK (i : It) (k : Nat) : List UInt8 := joinL [44] ((i.program.take k).map Lib.itoa)
theorem prK_all (i : It) {k : Nat} (h : i.program.length <= k) : prK i k = prT i := by rw [prK,tlQ h]; rfl
theorem aBZ (i : It) {k : Nat} (h : k < i.program.length) : prK i (k + 1) = if k = 0 then Lib.itoa (i.program.getD 0 0) else prK i k ++ [44] ++ Lib.itoa (i.program.getD k 0) := by
 unfold prK
 rw [a7 0 h,List.map_append,List.map_singleton]
 split
 rename_i h0; subst h0; simp [joinL]
 rename_i h0
 rw [lR]
 intro e
 have := congrArg List.length e
 rw [lm,lt1,ln] at this; omega
theorem aHR (i : It) : itT i = ttw i ++ prT i := by
 simp [itT,ttw,itP,bG,wsL,ttx,joinL]
theorem ttx_len {i : It} (h : ItOk i) (k : Nat) : (ttx i k).length <= 80 := by
 have := qX (f := fun n => 32 :: Lib.itoa n) (l := (bG i).take k) (c := 15) fun x hx => by
  have := bI (jT h x (List.mem_of_mem_take hx))
  simp only [lc]; omega
 have h2 : ((bG i).take k).length <= 5 := by rw [lt1]; exact Nat.le_trans (Nat.min_le_right _ _) (lr _)
 unfold ttx
 simp only [zq1]; omega
theorem prK_len {i : It} (h : ItOk i) (k : Nat) : (prK i k).length <= 15000 := by
 have h1 := dH [44] ((i.program.take k).map Lib.itoa)
 have h2 := rN (c := 14) (l := (i.program.take k).map Lib.itoa) (k := 1) fun x hx => by
  obtain ⟨n,hn,rfl⟩ := mm.1 hx
  exact bI (h.prog n (List.mem_of_mem_take hn))
 have h3 := h.plen
 rw [lm,lt1] at h2
 unfold prK
 have e : ([44] : List UInt8).length = 1 := rfl
 rw [e] at h1
 omega
theorem ttw_len {i : It} (h : ItOk i) : (ttw i).length <= 200000 := by
 have := gQ h
 rw [aHR,la] at this; omega
def prR (i : It) (k : Nat) : List UInt8 := joinL [44] ((i.program.drop k).map Lib.itoa)
theorem prR_len {i : It} (h : ItOk i) (k : Nat) : (prR i k).length <= 15000 := by
 have h1 := dH [44] ((i.program.drop k).map Lib.itoa)
 have h2 := rN (c := 14) (l := (i.program.drop k).map Lib.itoa) (k := 1) fun x hx => by
  obtain ⟨n,hn,rfl⟩ := mm.1 hx
  exact bI (h.prog n (List.mem_of_mem_drop hn))
 have h3 := h.plen
 rw [lm,List.length_drop] at h2
 unfold prR
 have e : ([44] : List UInt8).length = 1 := rfl
 rw [e] at h1
 omega
theorem aHB (i : It) {k : Nat} (h : i.program.length <= k) : prR i k = [] := by rw [prR,List.drop_of_length_le h]; rfl
theorem sH (i : It) {k : Nat} (h : k + 1 = i.program.length) : prR i k = Lib.itoa (i.program.getD k 0) := by
 have e : i.program.drop k = [i.program.getD k 0] := by
  rw [List.drop_eq_getElem_cons (by omega),List.drop_of_length_le (by omega),gd,ge (by omega)]; rfl
 rw [prR,e]; rfl
theorem aBY (i : It) {k : Nat} (h : k + 1 < i.program.length) : prR i k = Lib.itoa (i.program.getD k 0) ++ 44 :: prR i (k + 1) := by
 have e : i.program.drop k = i.program.getD k 0 :: i.program.drop (k + 1) := by
  rw [gd,ge (by omega)]; exact List.drop_eq_getElem_cons (by omega)
 obtain ⟨x,r,hx⟩ : ∃ x r,i.program.drop (k + 1) = x :: r := by
  cases hd : i.program.drop (k + 1) with
  | nil => have := congrArg List.length hd; rw [List.length_drop,ln] at this; omega
  | cons x r => exact ⟨x,r,rfl⟩
 rw [prR,e,prR,hx]; simp [joinL]
theorem aM9 (i : It) {k : Nat} (h : k < i.program.length) : prR i k ≠ [] := by
 intro e
 rcases Nat.lt_or_ge (k + 1) i.program.length with h1 | h1
 rw [aBY i h1] at e; simp at e
 rw [sH i (by omega)] at e; exact yU _ e
theorem noTxt15 {i : It} (hi : ItOk i) (h : ((i.input.length : Int) > 0 /\ rwT i.input = []) \/ tvT i.output = []) : False := by
 rcases h with h | h
 exact noTxt hi (.inr h)
 cases hv : i.output <;> rw [hv] at h <;> simp [tvT] at h
theorem aBF {i : It} (hi : ItOk i) : SpG g 74 [.c (.bx 0 0),.c (.d (.y 32))] [(0,y43 (S (itT i)))] (.c (cS (S [105,116,101,109]))) [(0,y43 (S (rsT i 1)))] := by
 have h := aBG (g := g) [105,116,101,109] (rsT i 1) 32 true (by decide) (by
  have := gQ hi
  rw [fF] at this
  simp only [zq1] at this ⊢; omega)
 have e : itT i = [105,116,101,109] ++ 32 :: rsT i 1 := by rw [fF]; rfl
 rw [e]; exact h
theorem lA {i : It} (hi : ItOk i) (k : Nat) (hk : k < 5) : SpG g 75 [.c (.bx 0 0),.c (.d (.y 32))] [(0,y43 (S (rsT i (k + 1))))] (.c (cI ((bG i).getD k 0))) [(0,y43 (S (rsT i (k + 2))))] := by
 have e : rsT i (k + 1) = Lib.itoa ((bG i).getD k 0) ++ 32 :: rsT i (k + 2) := by
  have h := d3 i (k := k + 1) (by omega)
  have e : (itP i).getD (k + 1) [] = Lib.itoa ((bG i).getD k 0) := by
   match k,hk with
   | 0,_ => rfl
   | 1,_ => rfl
   | 2,_ => rfl
   | 3,_ => rfl
   | 4,_ => rfl
  rw [e] at h; exact h
 have hl := oM i (k + 1) (by omega)
 have hl2 := gQ hi
 rw [e] at hl ⊢
 exact o3 ((bG i).getD k 0) (jT hi _ (aQ hk)) 32 (rsT i (k + 2)) (cQ (.inl rfl)) (by omega)
theorem pR {i : It} (hi : ItOk i) (k : Nat) (hk : k < 4) : SpG g 77 [.c (.bx 0 0)] [(0,y43 (S (rsT i (k + 6))))] (.c (cS (S ((wsL i).getD k [])))) [(0,y43 (S (rsT i (k + 7))))] := by
 have e : rsT i (k + 6) = wdT ((wsL i).getD k []) ++ 32 :: rsT i (k + 7) := by
  have h := d3 i (k := k + 6) (by omega)
  have e : (itP i).getD (k + 6) [] = wdT ((wsL i).getD k []) := by
   match k,hk with
   | 0,_ => rfl
   | 1,_ => rfl
   | 2,_ => rfl
   | 3,_ => rfl
  rw [e] at h; exact h
 have hl := oM i (k + 6) (by omega)
 have hl2 := gQ hi
 have hw := gV hi hk
 rw [e] at hl ⊢
 have h := word_at (g := g) ((wsL i).getD k []) (rsT i (k + 7)) (by omega) (by omega)
 rw [<- aAZ] at h
 exact h
theorem numR {i : It} (hi : ItOk i) {k : Nat} {r : List UInt8} (hr : r = prR i k) (hk : k + 1 < i.program.length) : SpG g 75 [.c (.bx 0 0),.c (.d (.y 44))] [(0,y43 (S r))] (.c (cI (i.program.getD k 0))) [(0,y43 (S (prR i (k + 1))))] := by
 have hl := prR_len hi k
 rw [hr]
 rw [aBY i hk] at hl ⊢
 exact o3 (i.program.getD k 0) (hi.prog _ (aQ (by omega))) 44 (prR i (k + 1)) (cQ (.inr (.inr rfl))) (by omega)
theorem numE {i : It} (hi : ItOk i) {k : Nat} {r : List UInt8} (hr : r = prR i k) (hk : k + 1 = i.program.length) : SpG g 75 [.c (.bx 0 0),.c (.d (.y 44))] [(0,y43 (S r))] (.c (cI (i.program.getD k 0))) [(0,.box 158 [cS (S []),cB false])] := by
 rw [hr,sH i hk]
 exact aFG (i.program.getD k 0) (hi.prog _ (aQ (by omega)))
theorem intE {i : It} (hi : ItOk i) {k : Nat} {r : List UInt8} (hr : r = prR i k) (hk : k + 1 = i.program.length) : SpG g 40 [.c (cS (S r))] [] (y42 (i.program.getD k 0)) [] := by
 rw [hr,sH i hk]
 exact zF (i.program.getD k 0) (hi.prog _ (aQ (by omega)))
theorem S_none {r : List UInt8} (h : S r = ByteArray.empty) : r = [] := by
 have := congrArg (fun b : ByteArray => b.data.toList) h
 simpa [S] using this
def aAU := And.intro @lm.{0,0} (And.intro @j9 (And.intro @uA (And.intro @blS (@intsD.eq_1))))
def g0 := And.intro @la.{0} (And.intro @lc.{0} (And.intro @lm.{0,0} (And.intro @ln.{0} (And.intro @aH (And.intro @decide_eq_true_eq (And.intro @Go.Eng.inR.eq_1 (And.intro @intsD.eq_1 (@maxLen.eq_1))))))))
theorem aIY (i : It) (hi : ItOk i) (hR : SpG g 125 [.c (cM 7 (aD i.input))] [] (.c (cS (S (rwT i.input)))) []) (hT : SpG g 92 [y0 (tvK i.output) (S (tvS i.output)) ([] : LD)] [] (.c (cS (S (tvT i.output)))) []) :
  SpG g 79 [.agg (zTQ i)] [] (.c (cS (S (itT i)))) [] := by
 have hlen := hi.len
 have hpl := hi.plen
 have hid : (bG i).length = 5 := rfl
 have hw0 := gV hi (k := 0) (by decide)
 have hw1 := gV hi (k := 1) (by decide)
 have hw2 := gV hi (k := 2) (by decide)
 have hw3 := gV hi (k := 3) (by decide)
 have hv0 : (wdT (rwT i.input)).length <= 3320 := rF hi _ (by simp [wsL])
 have hv1 : (wdT (tvT i.output)).length <= 3320 := rF hi _ (by simp [wsL])
 have hv2 : (wdT i.prop).length <= 3320 := rF hi _ (by simp [wsL])
 have hv3 : (wdT i.param).length <= 3320 := rF hi _ (by simp [wsL])
 refine aK 92 Tryz.func79 fun fr hG => ?_
 refine zC hG [(1,2,kS (S (rwT i.input))),(2,2,kS (S (tvT i.output)))] [1,0,1,1,1] (((decide ((((aD (i.input)).length : Int) : Int) > 0)) && ((S (rwT i.input)).toList == (S []).toList)) || ((S (tvT i.output)).toList == (S []).toList)) (⟨[zX 1 100 0,zS 2 (S []),zS 3 (S (rwT i.input)),zS 4 (S (tvT i.output))],[(100,.box 63 (zTQ i))]⟩) (cS2 g hR (cS1 g hT)) (fun hc1 => ?_) (fun hc1 => ?_)
 (try simp only [aAU,aD] at hc1)
 exact (noTxt15 hi (by simpa using hc1)).elim
 (try simp only [aAU,aD] at hc1)
 refine zL hG [] [0,1,0,1,1,1,1,1,1] (fun (zz : Nat × ByteArray) => match zz with | (k,s) => (5 - k,⟨[zX 1 100 0,zS 2 (S []),zS 3 (S (rwT i.input)),zS 4 (S (tvT i.output)),zY 5 610 0,zS 6 s,zI 7 (k : Int)],[(100,.box 63 (zTQ i)),(610,.arr 0 3 1 (intsD (bG i)))]⟩,k <= 5 /\ s = S (ttx i k))) (0,S [105,116,101,109]) aB ?_ ?_
 exact ⟨zl _,rfl⟩
 rintro ⟨k,s⟩ ⟨hk,hs⟩
 have hsl : s.size <= 80 := by rw [hs,aH]; exact ttx_len hi k
 have hn : k < 5 -> nOk ((bG i).getD k 0) := fun h => jT hi _ (aQ h)
 have hnl : k < 5 -> (Lib.itoa ((bG i).getD k 0)).length <= 14 := fun h => bI (hn h)
 refine zc hG [] [1,0] (decide ((k : Int) < ((intsD (bG i)).length : Int))) aB (fun hc3 => ?_) (fun hc3 => ?_)
 (try simp only [aAU,aD] at hc3)
 refine zD hG [(10,5,.elem (intD ((bG i).getD k 0))),(10,6,kS (S (Lib.itoa ((bG i).getD k 0))))] (k + 1,(s ++ (S [32])) ++ (S (Lib.itoa ((bG i).getD k 0)))) (aA (by intros; (try simp only [g0,sa] at *); omega : s.size + (S [32]).size <= maxLen) (aA (by intros; (try simp only [g0,sa] at *); omega : (0 : Int) <= (k : Int) /\ (k : Int) < ((intsD (bG i)).length : Int)) (aA (by intros; exact kM (f := intD) (l := bG i) 0 (by (try simp only [zq5,bG]); omega) : (intsD (bG i))[k]? = some (intD ((bG i).getD k 0))) (cS2 g (pM ((bG i).getD k 0) (hn (by omega))) (aA (by intros; (try simp only [g0,sa] at *); omega : (s ++ (S [32])).size + (S (Lib.itoa ((bG i).getD k 0))).size <= maxLen) (aC (by intros; (try simp only [g0,sa] at *); omega : inR ((k : Int) + 1)))))))) ?_ ?_
 (try dsimp only); omega
 refine ⟨by omega,?_⟩
 rw [hs,aLV i (by omega)]; simp [bZ]
 (try simp only [aAU,aD] at hc3)
 refine zE hG [] (.exit 0) (⟨[zX 1 100 0,zS 2 (S []),zS 3 (S (rwT i.input)),zS 4 (S (tvT i.output)),zS 6 s],[(100,.box 63 (zTQ i))]⟩) aB rfl ?_
 refine zL hG [(11,3,kS (S (wdT (rwT i.input)))),(11,7,kS (S (wdT (tvT i.output)))),(11,12,kS (S (wdT (i.prop)))),(11,17,kS (S (wdT (i.param))))] [0,1,0,1,1,1,1,1,1,1,1] (fun (zz : Nat × ByteArray) => match zz with | (k,s) => (i.program.length - k,⟨[zX 1 100 0,zS 2 (S []),zS 6 s,zI 8 (k : Int)],[(100,.box 63 (zTQ i))]⟩,k <= i.program.length /\ s = S (ttw i ++ prK i k))) (0,((((((((s ++ (S [32])) ++ (S (wdT (rwT i.input)))) ++ (S [32])) ++ (S (wdT (tvT i.output)))) ++ (S [32])) ++ (S (wdT (i.prop)))) ++ (S [32])) ++ (S (wdT (i.param)))) ++ (S [32])) (aA (by intros; (try simp only [g0,sa] at *); omega : s.size + (S [32]).size <= maxLen) (cS2 g (kA (rwT i.input) (by first | exact Nat.le_trans hw0 (by decide) | exact Nat.le_trans hw1 (by decide) | exact Nat.le_trans hw2 (by decide) | exact Nat.le_trans hw3 (by decide))) (aA (by intros; (try simp only [g0,sa] at *); omega : (s ++ (S [32])).size + (S (wdT (rwT i.input))).size <= maxLen) (aA (by intros; (try simp only [g0,sa] at *); omega : ((s ++ (S [32])) ++ (S (wdT (rwT i.input)))).size + (S [32]).size <= maxLen) (cS2 g (kA (tvT i.output) (by first | exact Nat.le_trans hw0 (by decide) | exact Nat.le_trans hw1 (by decide) | exact Nat.le_trans hw2 (by decide) | exact Nat.le_trans hw3 (by decide))) (aA (by intros; (try simp only [g0,sa] at *); omega : (((s ++ (S [32])) ++ (S (wdT (rwT i.input)))) ++ (S [32])).size + (S (wdT (tvT i.output))).size <= maxLen) (aA (by intros; (try simp only [g0,sa] at *); omega : ((((s ++ (S [32])) ++ (S (wdT (rwT i.input)))) ++ (S [32])) ++ (S (wdT (tvT i.output)))).size + (S [32]).size <= maxLen) (cS2 g (kA (i.prop) (by first | exact Nat.le_trans hw0 (by decide) | exact Nat.le_trans hw1 (by decide) | exact Nat.le_trans hw2 (by decide) | exact Nat.le_trans hw3 (by decide))) (aA (by intros; (try simp only [g0,sa] at *); omega : (((((s ++ (S [32])) ++ (S (wdT (rwT i.input)))) ++ (S [32])) ++ (S (wdT (tvT i.output)))) ++ (S [32])).size + (S (wdT (i.prop))).size <= maxLen) (aA (by intros; (try simp only [g0,sa] at *); omega : ((((((s ++ (S [32])) ++ (S (wdT (rwT i.input)))) ++ (S [32])) ++ (S (wdT (tvT i.output)))) ++ (S [32])) ++ (S (wdT (i.prop)))).size + (S [32]).size <= maxLen) (cS2 g (kA (i.param) (by first | exact Nat.le_trans hw0 (by decide) | exact Nat.le_trans hw1 (by decide) | exact Nat.le_trans hw2 (by decide) | exact Nat.le_trans hw3 (by decide))) (aA (by intros; (try simp only [g0,sa] at *); omega : (((((((s ++ (S [32])) ++ (S (wdT (rwT i.input)))) ++ (S [32])) ++ (S (wdT (tvT i.output)))) ++ (S [32])) ++ (S (wdT (i.prop)))) ++ (S [32])).size + (S (wdT (i.param))).size <= maxLen) (aC (by intros; (try simp only [g0,sa] at *); omega : ((((((((s ++ (S [32])) ++ (S (wdT (rwT i.input)))) ++ (S [32])) ++ (S (wdT (tvT i.output)))) ++ (S [32])) ++ (S (wdT (i.prop)))) ++ (S [32])) ++ (S (wdT (i.param)))).size + (S [32]).size <= maxLen)))))))))))))) ?_ ?_
 refine ⟨zl _,?_⟩
 have hk5 : k = 5 := by omega
 rw [hs,hk5]; simp [bZ,ttw,prK,joinL]
 rintro ⟨k,s⟩ ⟨hk,hs⟩
 have hsl : s.size <= 215000 := by rw [hs,aH,la]; have := ttw_len hi; have := prK_len hi k; omega
 have hn : k < i.program.length -> nOk (i.program.getD k 0) := fun h => hi.prog _ (aQ h)
 have hnl : k < i.program.length -> (Lib.itoa (i.program.getD k 0)).length <= 14 := fun h => bI (hn h)
 refine zc hG [] [1,0] (decide ((k : Int) < ((intsD (i.program)).length : Int))) aB (fun hc5 => ?_) (fun hc5 => ?_)
 (try simp only [aAU,aD] at hc5)
 refine zc hG [] [1,0,0,0,1] (decide ((k : Int) > 0)) aB (fun hc6 => ?_) (fun hc6 => ?_)
 (try simp only [aAU,aD] at hc6)
 refine zD hG [(17,4,.elem (intD ((i.program).getD k 0))),(17,6,kS (S (Lib.itoa ((i.program).getD k 0))))] (k + 1,(s ++ (S [44])) ++ (S (Lib.itoa ((i.program).getD k 0)))) (aA (by intros; (try simp only [g0,sa] at *); omega : s.size + (S [44]).size <= maxLen) (aA (by intros; exact bR _ (by omega) (by (try simp only [intsD,lm] at *); omega) : (0 : Int) <= (k : Int) /\ (intsD (i.program))[k]? = some (intD ((i.program).getD k 0))) (cS2 g (pM ((i.program).getD k 0) (hn (by omega))) (aA (by intros; (try simp only [g0,sa] at *); omega : (s ++ (S [44])).size + (S (Lib.itoa ((i.program).getD k 0))).size <= maxLen) (aC (by intros; (try simp only [g0,sa] at *); omega : inR ((k : Int) + 1))))))) ?_ ?_
 (try dsimp only); omega
 refine ⟨by omega,?_⟩
 rw [hs,aBZ i (by omega),if_neg (by omega)]; simp [bZ]
 (try simp only [aAU,aD] at hc6)
 refine zD hG [(17,4,.elem (intD ((i.program).getD k 0))),(17,6,kS (S (Lib.itoa ((i.program).getD k 0))))] (k + 1,s ++ (S (Lib.itoa ((i.program).getD k 0)))) (aA (by intros; exact bR _ (by omega) (by (try simp only [intsD,lm] at *); omega) : (0 : Int) <= (k : Int) /\ (intsD (i.program))[k]? = some (intD ((i.program).getD k 0))) (cS2 g (pM ((i.program).getD k 0) (hn (by omega))) (aA (by intros; (try simp only [g0,sa] at *); omega : s.size + (S (Lib.itoa ((i.program).getD k 0))).size <= maxLen) (aC (by intros; (try simp only [g0,sa] at *); omega : inR ((k : Int) + 1)))))) ?_ ?_
 (try dsimp only); omega
 refine ⟨by omega,?_⟩
 have hk0 : k = 0 := by omega
 subst hk0
 rw [hs,aBZ i (by omega),if_pos rfl]; simp [bZ,prK,joinL]
 (try simp only [aAU,aD] at hc5)
 refine zE hG [] (.exit 2) (⟨[zS 2 (S []),zS 6 s],[]⟩) aB rfl ?_
 refine zR hG [] [] (.c (cS s)) [] aB ?_ ?_
 rw [hs,prK_all i (by omega),aHR]
 rfl
theorem uR {i : It} (hi : ItOk i) (hR : SpG g 125 [.c (cM 7 (aD i.input))] [] (.c (cS (S (rwT i.input)))) []) (hT : SpG g 92 [y0 (tvK i.output) (S (tvS i.output)) ([] : LD)] [] (.c (cS (S (tvT i.output)))) []) {es : LD} (h : es = intsD i.program) : SpG g 79 [.agg [cI ((i).id),cI ((i).author),cI ((i).rank),cI ((i).time),cI ((i).kind),cM 7 (aD ((i).input)),cI (tvK ((i).output)),cS (S (tvS ((i).output))),cI 0,cI 0,cI 0,cM 1 ([] : LD),cM 1 ([] : LD),cS (S (i).prop),cS (S (i).param),cM 1 (es)]] [] (.c (cS (S (itT i)))) [] := by subst h; exact aIY i hi hR hT
abbrev e7z (a0 : ByteArray) : bK := [zS 0 a0,zX 2 100 0,zB 3 false,zX 4 202 0,zX 5 400 0]
abbrev e9z (a0 : ByteArray) (a1 : Int) (a2 : Int) (a3 : Int) (a4 : Int) (a5 : Int) (a6 : LD) (a7 : Int) (a8 : ByteArray) (a9 : LD) (a10 : ByteArray) (a11 : ByteArray) : aV := [(100,y13),(202,y43 a0),(400,.box 63 [cI a1,cI a2,cI a3,cI a4,cI a5,cM 7 a6,cI a7,cS a8,cI 0,cI 0,cI 0,cM 1 a9,cM 1 a9,cS a10,cS a11,cN])]
theorem aJP (i : It) (hi : ItOk i) (hR : SpG g 125 [.c (cM 7 (aD i.input))] [] (.c (cS (S (rwT i.input)))) []) (hT : SpG g 92 [y0 (tvK i.output) (S (tvS i.output)) ([] : LD)] [] (.c (cS (S (tvT i.output)))) []) (hRR : SpG g 76 [.c (cS (S (rwT i.input)))] [] (y11 (aD i.input)) []) (hRV : SpG g 78 [.c (cS (S (tvT i.output)))] [] (y10 (tvK i.output) (S (tvS i.output)) ([] : LD)) []) (hp : i.program = []) :
  SpG g 41 [.c (cS (S (itT i)))] [] (.tup [(true,[cI (i.id),cI (i.author),cI (i.rank),cI (i.time),cI (i.kind),cM 7 (aD (i.input)),cI (tvK (i.output)),cS (S (tvS (i.output))),cI 0,cI 0,cI 0,cM 1 ([] : LD),cM 1 ([] : LD),cS (S i.prop),cS (S i.param),cN]),(false,[cB true])]) [] := by
 refine aK 119 Tryz.func41 fun fr hG => ?_
 refine zC hG [(2,1,.call (.c (cS (S [105,116,101,109]))) [] [[.s (S (rsT i 1)),.b true]]),(4,1,.call (.c (cI (i.id))) [] [[.s (S (rsT i 2)),.b true]]),(5,1,.call (.c (cI (i.author))) [] [[.s (S (rsT i 3)),.b true]]),(6,1,.call (.c (cI (i.rank))) [] [[.s (S (rsT i 4)),.b true]]),(7,1,.call (.c (cI (i.time))) [] [[.s (S (rsT i 5)),.b true]]),(8,1,.call (.c (cI (i.kind))) [] [[.s (S (rsT i 6)),.b true]]),(9,1,.call (.c (cS (S (rwT i.input)))) [] [[.s (S (rsT i 7)),.b true]]),(9,2,kC (y11 (aD (i.input)))),(10,1,.call (.c (cS (S (tvT i.output)))) [] [[.s (S (rsT i 8)),.b true]]),(10,2,kC (y10 (tvK (i.output)) (S (tvS (i.output))) ([] : LD))),(13,1,.call (.c (cS (S i.prop))) [] [[.s (S (rsT i 9)),.b true]]),(14,1,.call (.c (cS (S i.param))) [] [[.s (S (rsT i 10)),.b true]])] [1,0,1,1,1,1,1,1,1,1,1,1,1,1,1,1,1] false (⟨e7z (S (itT i)),e9z (S (rsT i 10)) (i.id) (i.author) (i.rank) (i.time) (i.kind) (aD (i.input)) (tvK (i.output)) (S (tvS (i.output))) ([] : LD) (S i.prop) (S i.param)⟩) (cS2 g (aBF hi) (cS2 g (lA hi 0 (by decide)) (cS2 g (lA hi 1 (by decide)) (cS2 g (lA hi 2 (by decide)) (cS2 g (lA hi 3 (by decide)) (cS2 g (lA hi 4 (by decide)) (cS2 g (pR hi 0 (by decide)) (cS2 g hRR (cS2 g (pR hi 1 (by decide)) (cS2 g hRV (cS2 g (pR hi 2 (by decide)) (cS1 g (pR hi 3 (by decide)))))))))))))) (fun hc1 => absurd hc1 (by decide)) (fun _ => ?_)
 refine zL hG [] [0,0,1,1,1,1,1,1,1,1,1,1,1,1,1,1,1,1] (fun (zz : Nat) => match zz with | k => (0,⟨e7z (S (itT i)),e9z (S (rsT i 10)) (i.id) (i.author) (i.rank) (i.time) (i.kind) (aD (i.input)) (tvK (i.output)) (S (tvS (i.output))) ([] : LD) (S i.prop) (S i.param)⟩,k = 0)) 0 aB ?_ ?_
 exact rfl
 rintro k hk
 refine zc hG [] [1,0] (!((S (rsT i 10)).toList == (S []).toList)) aB (fun hc3 => ?_) (fun hc3 => ?_)
 (try simp only [zq8] at hc3)
 simp [aGZ,prT,hp,joinL] at hc3
 (try simp only [zq8] at hc3)
 refine zE hG [] (.exit 0) (⟨e7z (S (itT i)),e9z (S (rsT i 10)) (i.id) (i.author) (i.rank) (i.time) (i.kind) (aD (i.input)) (tvK (i.output)) (S (tvS (i.output))) ([] : LD) (S i.prop) (S i.param)⟩) aB rfl ?_
 refine zC hG [(24,7,kS (S (itT i)))] [1,0,1,1,1,1,1,1,1,1,1,1,1,1,1,1,1,1,1] (!((S (itT i)).toList == (S (itT i)).toList)) (⟨[zX 2 100 0,zB 3 false,zX 5 400 0],[(100,y13),(400,.box 63 [cI (i.id),cI (i.author),cI (i.rank),cI (i.time),cI (i.kind),cM 7 (aD (i.input)),cI (tvK (i.output)),cS (S (tvS (i.output))),cI 0,cI 0,cI 0,cM 1 ([] : LD),cM 1 ([] : LD),cS (S i.prop),cS (S i.param),cN])]⟩) (aC (fun (hg1 : false = false) => (kF (ins := [.agg [cI (i.id),cI (i.author),cI (i.rank),cI (i.time),cI (i.kind),cM 7 (aD (i.input)),cI (tvK (i.output)),cS (S (tvS (i.output))),cI 0,cI 0,cI 0,cM 1 ([] : LD),cM 1 ([] : LD),cS (S i.prop),cS (S i.param),cN]]) [[none,none,none,none,none,none,none,none,none,none,none,none,none,none,none,some 1]] (uR hi hR hT (es := []) (by rw [hp]; rfl)) : SpG g _ _ _ _ _))) (fun hc4 => ?_) (fun hc4 => ?_)
 (try simp only [zq8] at hc4)
 simp at hc4
 (try simp only [zq8] at hc4)
 exact zr hG [] [] aB
abbrev e8z (a0 : Int) (a1 : Int) (a2 : Int) (a3 : Int) (a4 : Int) (a5 : LD) (a6 : Int) (a7 : ByteArray) (a8 : LD) (a9 : ByteArray) (a10 : ByteArray) (a11 : LD) : aV := [(400,.box 63 [cI a0,cI a1,cI a2,cI a3,cI a4,cM 7 a5,cI a6,cS a7,cI 0,cI 0,cI 0,cM 1 a8,cM 1 a8,cS a9,cS a10,.ar 9003 0]),(9003,.arr 0 3 1 a11)]
theorem aEC (i : It) (hi : ItOk i) (hR : SpG g 125 [.c (cM 7 (aD i.input))] [] (.c (cS (S (rwT i.input)))) []) (hT : SpG g 92 [y0 (tvK i.output) (S (tvS i.output)) ([] : LD)] [] (.c (cS (S (tvT i.output)))) []) (hRR : SpG g 76 [.c (cS (S (rwT i.input)))] [] (y11 (aD i.input)) []) (hRV : SpG g 78 [.c (cS (S (tvT i.output)))] [] (y10 (tvK i.output) (S (tvS i.output)) ([] : LD)) []) (hp : i.program ≠ []) :
  SpG g 41 [.c (cS (S (itT i)))] [] (.tup [(true,(zTQ i)),(false,[cB true])]) [] := by
 refine aK 119 Tryz.func41 fun fr hG => ?_
 refine zC hG [(2,1,.call (.c (cS (S [105,116,101,109]))) [] [[.s (S (rsT i 1)),.b true]]),(4,1,.call (.c (cI (i.id))) [] [[.s (S (rsT i 2)),.b true]]),(5,1,.call (.c (cI (i.author))) [] [[.s (S (rsT i 3)),.b true]]),(6,1,.call (.c (cI (i.rank))) [] [[.s (S (rsT i 4)),.b true]]),(7,1,.call (.c (cI (i.time))) [] [[.s (S (rsT i 5)),.b true]]),(8,1,.call (.c (cI (i.kind))) [] [[.s (S (rsT i 6)),.b true]]),(9,1,.call (.c (cS (S (rwT i.input)))) [] [[.s (S (rsT i 7)),.b true]]),(9,2,kC (y11 (aD (i.input)))),(10,1,.call (.c (cS (S (tvT i.output)))) [] [[.s (S (rsT i 8)),.b true]]),(10,2,kC (y10 (tvK (i.output)) (S (tvS (i.output))) ([] : LD))),(13,1,.call (.c (cS (S i.prop))) [] [[.s (S (rsT i 9)),.b true]]),(14,1,.call (.c (cS (S i.param))) [] [[.s (S (rsT i 10)),.b true]])] [1,0,1,1,1,1,1,1,1,1,1,1,1,1,1,1,1] false (⟨e7z (S (itT i)),e9z (S (rsT i 10)) (i.id) (i.author) (i.rank) (i.time) (i.kind) (aD (i.input)) (tvK (i.output)) (S (tvS (i.output))) ([] : LD) (S i.prop) (S i.param)⟩) (cS2 g (aBF hi) (cS2 g (lA hi 0 (by decide)) (cS2 g (lA hi 1 (by decide)) (cS2 g (lA hi 2 (by decide)) (cS2 g (lA hi 3 (by decide)) (cS2 g (lA hi 4 (by decide)) (cS2 g (pR hi 0 (by decide)) (cS2 g hRR (cS2 g (pR hi 1 (by decide)) (cS2 g hRV (cS2 g (pR hi 2 (by decide)) (cS1 g (pR hi 3 (by decide)))))))))))))) (fun hc1 => absurd hc1 (by decide)) (fun _ => ?_)
 refine zA hG [] [0,0,1,1,1,1,1,1,1,1,1,1,1,1,1,1,1,1] (⟨e7z (S (itT i)),e9z (S (rsT i 10)) (i.id) (i.author) (i.rank) (i.time) (i.kind) (aD (i.input)) (tvK (i.output)) (S (tvS (i.output))) ([] : LD) (S i.prop) (S i.param)⟩) [] [(400,15,9003,3,1)] (fun (zz : Nat × List UInt8 × LD) => match zz with | (k,r,es) => (i.program.length - k,⟨e7z (S (itT i)),[(100,y13),(202,y43 (S r))] ++ e8z (i.id) (i.author) (i.rank) (i.time) (i.kind) (aD (i.input)) (tvK (i.output)) (S (tvS (i.output))) ([] : LD) (S i.prop) (S i.param) es⟩,k <= i.program.length /\ r = prR i k /\ es = intsD (i.program.take k))) (0,rsT i 10,[]) aB ?_ ?_
 exact ⟨zl _,rfl,rfl⟩
 rintro ⟨k,r,es⟩ ⟨hk,hr,hes⟩
 have hel : es.length = k := by rw [hes,intsD,lm,lt1]; omega
 have hpl := hi.plen
 refine zc hG [] [1,0] (!((S r).toList == (S []).toList)) aB (fun hc3 => ?_) (fun hc3 => ?_)
 (try simp only [zq8] at hc3)
 have hkl : k < i.program.length := by
  rcases Nat.lt_or_ge k i.program.length with h | h
  exact h
  exact absurd (by rw [hr,aHB i h]) hc3
 rcases (by omega : k + 1 < i.program.length \/ k + 1 = i.program.length) with hkq | hkq
 skip
 refine zC hG [(19,1,.call (.c (cI (i.program.getD k 0))) [] [[.s (S (prR i (k + 1))),.b true]])] [1,0,1,1,0,1] ((decide ((((S r).size : Int) : Int) > 0)) && false) (⟨e7z (S (itT i)) ++ [zS 10 (S r),zI 11 (i.program.getD k 0)],[(100,y13),(202,y43 (S (prR i (k + 1))))] ++ e8z (i.id) (i.author) (i.rank) (i.time) (i.kind) (aD (i.input)) (tvK (i.output)) (S (tvS (i.output))) ([] : LD) (S i.prop) (S i.param) es⟩) (cS1 g (numR hi hr hkq)) (fun hc4 => ?_) (fun hc4 => ?_)
 (try simp only [zq8] at hc4)
 simp at hc4
 (try simp only [zq8] at hc4)
 refine zD hG [] (k + 1,prR i (k + 1),es ++ [[V.D.i (i.program.getD k 0)]]) (aC (by intros; (try simp only [g0,sa] at *); omega : (es.length + (([[.i (i.program.getD k 0)]] : LD)).length) * (8 + 1) <= 140737488355328)) ?_ ?_
 (try dsimp only); omega
 refine ⟨by omega,rfl,?_⟩
 rw [hes,a7 0 (by omega),intsD,intsD,List.map_append]; rfl
 skip
 refine zC hG [(19,1,.call (.c (cI (i.program.getD k 0))) [] [[.s (S []),.b false]])] [1,0,1,1,0,1] ((decide ((((S r).size : Int) : Int) > 0)) && true) (⟨e7z (S (itT i)) ++ [zS 10 (S r),zI 11 (i.program.getD k 0)],[(100,y13),(202,.box 158 [cS (S []),cB false])] ++ e8z (i.id) (i.author) (i.rank) (i.time) (i.kind) (aD (i.input)) (tvK (i.output)) (S (tvS (i.output))) ([] : LD) (S i.prop) (S i.param) es⟩) (cS1 g (numE hi hr hkq)) (fun hc5 => ?_) (fun hc5 => ?_)
 (try simp only [zq8] at hc5)
 refine zD hG [(21,2,kC (y42 (i.program.getD k 0)))] (k + 1,[],es ++ [[V.D.i (i.program.getD k 0)]]) (cS2 g (intE hi hr hkq) (aC (by intros; (try simp only [g0,sa] at *); omega : (es.length + ([[.i (i.program.getD k 0)]] : LD).length) * (8 + 1) <= 140737488355328))) ?_ ?_
 (try dsimp only); omega
 refine ⟨by omega,(aHB i (by omega)).symm,?_⟩
 rw [hes,a7 0 (by omega),intsD,intsD,List.map_append]; rfl
 (try simp only [zq8] at hc5)
 exfalso; exact aM9 i hkl (by rw [<- hr]; exact S_none (by simpa using hc5))
 (try simp only [zq8] at hc3)
 have hkl : k = i.program.length := by
  rcases Nat.lt_or_ge k i.program.length with h | h
  exact absurd (by rw [<- hr]; simpa using hc3) (aM9 i h)
  omega
 refine zE hG [] (.exit 0) (⟨e7z (S (itT i)),[(100,y13),(202,y43 (S r))] ++ e8z (i.id) (i.author) (i.rank) (i.time) (i.kind) (aD (i.input)) (tvK (i.output)) (S (tvS (i.output))) ([] : LD) (S i.prop) (S i.param) es⟩) aB rfl ?_
 refine zC hG [(24,7,kS (S (itT i)))] [1,0,1,1,1,1,1,1,1,1,1,1,1,1,1,1,1,1,1] (!((S (itT i)).toList == (S (itT i)).toList)) (⟨[zX 2 100 0,zB 3 false,zX 5 400 0],[(100,y13)] ++ e8z (i.id) (i.author) (i.rank) (i.time) (i.kind) (aD (i.input)) (tvK (i.output)) (S (tvS (i.output))) ([] : LD) (S i.prop) (S i.param) es⟩) (aC (fun (hg1 : false = false) => (uR hi hR hT (es := es) (by rw [hes,tlQ (by omega)]) : SpG g _ _ _ _ _))) (fun hc6 => ?_) (fun hc6 => ?_)
 (try simp only [zq8] at hc6)
 simp at hc6
 (try simp only [zq8] at hc6)
 refine zR hG [] [] (.tup [(true,[cI (i.id),cI (i.author),cI (i.rank),cI (i.time),cI (i.kind),cM 7 (aD (i.input)),cI (tvK (i.output)),cS (S (tvS (i.output))),cI 0,cI 0,cI 0,cM 1 ([] : LD),cM 1 ([] : LD),cS (S i.prop),cS (S i.param),cM 1 es]),(false,[cB true])]) [] aB ?_ ?_
 rw [hes,tlQ (by omega)]
 rfl
theorem aJO (i : It) (hi : ItOk i) (hR : SpG g 125 [.c (cM 7 (aD i.input))] [] (.c (cS (S (rwT i.input)))) []) (hT : SpG g 92 [y0 (tvK i.output) (S (tvS i.output)) ([] : LD)] [] (.c (cS (S (tvT i.output)))) []) (hRR : SpG g 76 [.c (cS (S (rwT i.input)))] [] (y11 (aD i.input)) []) (hRV : SpG g 78 [.c (cS (S (tvT i.output)))] [] (y10 (tvK i.output) (S (tvS i.output)) ([] : LD)) []) : SpG g 41 [.c (cS (S (itT i)))] [] (.tup [(true,[cI ((i).id),cI ((i).author),cI ((i).rank),cI ((i).time),cI ((i).kind),cM 7 (aD ((i).input)),cI (tvK ((i).output)),cS (S (tvS ((i).output))),cI 0,cI 0,cI 0,cM 1 ([] : LD),cM 1 ([] : LD),cS (S (i).prop),cS (S (i).param),cM 1 (intsD ((i).program))]),(false,[cB true])]) [] := by
 by_cases h : i.program = []
 have := fQ [[none,none,none,none,none,none,none,none,none,none,none,none,none,none,none,some 1],[]] (aJP (g := g) i hi hR hT hRR hRV h)
 rw [show intsD i.program = [] by rw [h]; rfl]
 exact this
 exact aEC i hi hR hT hRR hRV h
end
section
variable {g : Gv}
theorem aOL : Tryz.prog.follows .mixedOrders = true := by kernel_rfl
theorem val0T : SpG g 92 [y22] [] (.c (cS (S [33,48]))) [] :=
 aS nFQ nFQ (T := []) (ne := []) (df := []) (F := 10000) (d := 20) (cs := []) aOL (by kernel_rfl) trivial
theorem row0R_ : SpG g 76 [.c (cS (S []))] [] (.tup [(false,[.d .nil]),(false,[cB true])]) [] :=
 aS nFQ nFQ (T := []) (ne := []) (df := []) (F := 10000) (d := 20) (cs := []) aOL (by kernel_rfl) trivial
theorem val0R_ : SpG g 78 [.c (cS (S [33,48]))] [] (.tup [(true,[cI 0,cS (S []),cI 0,cI 0,cI 0,.d .nil,.d .nil]),(false,[cB true])]) [] :=
 aS nFQ nFQ (T := []) (ne := []) (df := []) (F := 10000) (d := 20) (cs := []) aOL (by kernel_rfl) trivial
theorem row0R : SpG g 76 [.c (cS (S []))] [] (.tup [(false,[cM 7 []]),(false,[cB true])]) [] := fQ [[some 7],[]] row0R_
theorem val0R : SpG g 78 [.c (cS (S [33,48]))] [] (.tup [(true,[cI 0,cS (S []),cI 0,cI 0,cI 0,cM 1 [],cM 1 []]),(false,[cB true])]) [] := fQ [[none,none,none,none,none,some 1,some 1],[]] val0R_
end
section
open Go.Eng (inR byteAt u8 cK)
variable {g : Gv}
theorem quo_tv (s : List UInt8) : aED s = tvT (some s) := by
 have : jX s = aX s := rfl
 rw [aED,this]; simp [tvT]
theorem aD9 (v : Tv) (h : bE v) : SX g 145 [.agg ((TvD v).map .d)] (.c (cB true)) := by
 cases v with
 | none => exact rY
 | some s => exact gW s h
theorem oD (v : Tv) (h : bE v) : SX g 92 [.agg ((TvD v).map .d)] (.c (cS (S (tvT v)))) := by
 cases v with
 | none => exact val0T
 | some s => rw [<- quo_tv]; exact textX (S s) (S (aED s)) ⟨vB s (by have := fA h; simp only [tvS] at this; omega),gW s h⟩
theorem tx_snoc {l : List Tv} {k : Nat} (h : k < l.length) : strs ((l.take k).map tvT) ++ [cV (tvT (l.getD k none))] = strs ((l.take (k + 1)).map tvT) := by rw [a7 none h]; simp [strs]
theorem aCY {s : List UInt8} {j : Nat} (h : j < s.length) : aX (s.take (j + 1)) = aX (s.take j) ++ jY (s.getD j 0) := by rw [a7 0 h]; simp [aX]
theorem wF {s : List UInt8} {j : Nat} (h : j < s.length) : aX s = aX (s.take j) ++ (jY (s.getD j 0) ++ aX (s.drop (j + 1))) := by
 have e : s = s.take j ++ (s.getD j 0 :: s.drop (j + 1)) := by
  rw [gd,ge h]
  simp
 conv => lhs; rw [e]
 simp [aX]
theorem aO2 {s : List UInt8} {j : Nat} (h : j < s.length) : (aX s ++ [39]).getD (aX (s.take j)).length 0 = s.getD j 0 := by
 obtain ⟨r,hr⟩ : ∃ r,jY (s.getD j 0) = s.getD j 0 :: r := by unfold jY; split <;> simp_all
 conv => lhs; rw [wF h,hr]
 have key : ∀ (A R : List UInt8) (b : UInt8),(A ++ b :: R).getD A.length 0 = b := by intro A R b; simp
 rw [List.append_assoc,List.append_assoc]
 exact key _ _ _
theorem z7 {s : List UInt8} {j : Nat} (h : j < s.length) : (aX (s.take (j + 1))).length = (aX (s.take j)).length + (if s.getD j 0 = 39 then 2 else 1) /\ (aX (s.take (j + 1))).length <= (aX s).length := by
 refine ⟨by rw [aCY h,la,jY]; split <;> rfl,?_⟩
 have := congrArg List.length (wF h)
 rw [la,la] at this
 rw [aCY h,la]; omega
structure CutS where
 out : List (List UInt8)
 from_ : Nat
 quote : Bool
 deep : Int
def sub (s : List UInt8) (a b : Nat) : List UInt8 := (s.take b).drop a
def gT (s : List UInt8) (sep : Int) (k : Nat) (c : CutS) : CutS :=
 if ((s.getD k 0).toNat : Int) = 39 then { c with quote := !c.quote }
 else if c.quote = true then c
 else if ((s.getD k 0).toNat : Int) = 91 then { c with deep := c.deep + 1 }
 else if ((s.getD k 0).toNat : Int) = 93 then { c with deep := c.deep - 1 }
 else if ((s.getD k 0).toNat : Int) = sep /\ c.deep = 0 then { c with out := c.out ++ [sub s c.from_ k],from_ := k + 1 }
 else c
def gK (s : List UInt8) (sep : Int) : Nat -> CutS
 | 0 => ⟨[],0,false,0⟩
 | k + 1 => gT s sep k (gK s sep k)
def cutB (s : List UInt8) (sep : Int) : List (List UInt8) := (gK s sep s.length).out ++ [sub s (gK s sep s.length).from_ s.length]
def aIB (s : List UInt8) (sep : Int) : Bool := !(gK s sep s.length).quote && decide ((gK s sep s.length).deep = 0)
def f4 : List UInt8 -> List (List UInt8) × List UInt8 × Bool -> Option (List (List UInt8) × List UInt8 × Bool)
 | [],z => some z
 | b :: r,(o,c,q) => if b = 39 then f4 r (o,c ++ [b],!q) else if q = true then f4 r (o,c ++ [b],q) else if b = 91 \/ b = 93 then none else if b = 124 then f4 r (o ++ [c],[],q) else f4 r (o,c ++ [b],q)
theorem fZ (a b : List UInt8) : ∀ z,f4 (a ++ b) z = (f4 a z).bind (f4 b) := by
 induction a with
 | nil => intro z; rfl
 | cons x r ih =>
  rintro ⟨o,c,q⟩
  simp only [List.cons_append,f4]
  split
  exact ih _
  split
  exact ih _
  split
  rfl
  split <;> exact ih _
theorem aMA {s : List UInt8} {f k : Nat} (hf : f <= k) (hk : k < s.length) : sub s f (k + 1) = sub s f k ++ [s.getD k 0] := by
 unfold sub
 rw [a7 0 hk,List.drop_append_of_le_length (by rw [lt1]; omega)]
theorem aBO {s : List UInt8} {z : List (List UInt8) × List UInt8 × Bool} (hz : f4 s ([],[],false) = some z) : ∀ k,k <= s.length -> (gK s 124 k).deep = 0 /\ (gK s 124 k).from_ <= k /\ f4 (s.take k) ([],[],false) = some ((gK s 124 k).out,sub s (gK s 124 k).from_ k,(gK s 124 k).quote)
 | 0,_ => ⟨rfl,lr _,by simp [f4,gK,sub]⟩
 | k + 1,h => by
  obtain ⟨h1,h2,h3⟩ := aBO hz k (by omega)
  have hk : k < s.length := by omega
  have hs := aMA h2 hk
  have hsome : ∃ y,f4 [s.getD k 0] ((gK s 124 k).out,sub s (gK s 124 k).from_ k,(gK s 124 k).quote) = some y := by
   have e : s = s.take k ++ ([s.getD k 0] ++ s.drop (k + 1)) := by
    rw [gd,ge hk]
    simp
   rw [e,fZ,h3] at hz
   simp only [Option.bind_some] at hz
   rw [fZ] at hz
   obtain ⟨y,hy,_⟩ := Option.bind_eq_some_iff.1 hz
   exact ⟨y,hy⟩
  rw [a7 0 hk,fZ,h3]
  simp only [Option.bind_some,gK,gT,f4] at hsome ⊢
  generalize s.getD k 0 = b at *
  have e : ∀ c : UInt8,((b.toNat : Int) = (c.toNat : Int)) = (b = c) := fun c => propext ⟨fun h => UInt8.toNat_inj.1 (by omega),fun h => by rw [h]⟩
  have e39 : ((b.toNat : Int) = 39) = (b = 39) := e 39
  have e91 : ((b.toNat : Int) = 91) = (b = 91) := e 91
  have e93 : ((b.toNat : Int) = 93) = (b = 93) := e 93
  have e124 : ((b.toNat : Int) = 124) = (b = 124) := e 124
  simp only [e39,e91,e93,e124]
  by_cases c1 : b = 39
  rw [if_pos c1,if_pos c1]; exact ⟨h1,Nat.le_succ_of_le h2,by rw [hs]⟩
  rw [if_neg c1] at hsome
  rw [if_neg c1,if_neg c1]
  by_cases c2 : (gK s 124 k).quote = true
  rw [if_pos c2,if_pos c2]; exact ⟨h1,Nat.le_succ_of_le h2,by rw [hs]⟩
  rw [if_neg c2] at hsome
  rw [if_neg c2,if_neg c2]
  by_cases c4 : b = 91 \/ b = 93
  rw [if_pos c4] at hsome; obtain ⟨_,hy⟩ := hsome; cases hy
  rw [if_neg c4,if_neg (fun hh => c4 (.inl hh)),if_neg (fun hh => c4 (.inr hh))]
  by_cases c3 : b = 124
  rw [if_pos ⟨c3,h1⟩,if_pos c3]
  exact ⟨h1,lr _,by simp [sub]⟩
  rw [if_neg (fun hh => c3 hh.1),if_neg c3]
  exact ⟨h1,Nat.le_succ_of_le h2,by rw [hs]⟩
theorem scan_q (x : List UInt8) : ∀ o c,f4 (aX x) (o,c,true) = some (o,c ++ aX x,true) := by
 induction x with
 | nil => intro o c; simp [aX,f4]
 | cons b r ih =>
  intro o c
  have e : aX (b :: r) = jY b ++ aX r := by simp [aX]
  rw [e,fZ]
  by_cases hb : b = 39
  simp only [jY,if_pos hb,f4,if_true,Bool.not_true,Bool.not_false,Option.bind_some]
  rw [ih]; simp
  simp only [jY,if_neg hb,f4,if_true,Option.bind_some]
  rw [ih]; simp
theorem aGU (v : Tv) (o : List (List UInt8)) (c : List UInt8) : f4 (tvT v) (o,c,false) = some (o,c ++ tvT v,false) := by
 cases v with
 | none => simp [tvT,f4]
 | some s =>
  have e : tvT (some s) = [39] ++ (aX s ++ [39]) := rfl
  rw [e,fZ]
  simp only [f4,if_true,Bool.not_false,Option.bind_some]
  rw [fZ,scan_q]
  simp [f4]
theorem aGV : ∀ (l : List Tv) (v : Tv) (o : List (List UInt8)),∃ o' c,f4 (rwT (v :: l)) (o,[],false) = some (o',c,false) /\ o' ++ [c] = o ++ (v :: l).map tvT
 | [],v,o => ⟨o,tvT v,by rw [jJ,if_pos rfl,List.append_nil,aGU]; rfl,by simp⟩
 | w :: l,v,o => by
  obtain ⟨o',c,h1,h2⟩ := aGV l w (o ++ [tvT v])
  refine ⟨o',c,?_,by rw [h2]; simp⟩
  rw [jJ,if_neg (by simp),fZ,aGU]
  simp only [f4,List.nil_append,Option.bind_some]
  rw [if_neg (by decide),if_neg (by decide),if_neg (by decide),if_pos (by decide)]
  exact h1
theorem cut_rw {l : List Tv} (h : l ≠ []) : cutB (rwT l) 124 = l.map tvT /\ aIB (rwT l) 124 = true := by
 cases l with
 | nil => exact absurd rfl h
 | cons v r =>
  obtain ⟨o,c,h1,h2⟩ := aGV r v []
  obtain ⟨h3,h4,h5⟩ := aBO h1 _ (lr _)
  rw [List.take_length,h1] at h5
  simp only [oIQ,pIQ] at h5
  obtain ⟨rfl,rfl,h6⟩ := h5
  exact ⟨by rw [cutB,h2]; rfl,by rw [aIB,h3,<- h6]; rfl⟩
theorem cEq39 {b : UInt8} (h : (b.toNat : Int) = 39) : b = 39 := UInt8.toNat_inj.1 (by have e : (39 : UInt8).toNat = 39 := rfl; omega)
theorem cNe39 {b : UInt8} (h : ¬ (b.toNat : Int) = 39) : ¬ b = 39 := fun e => h (by rw [e]; rfl)
def kY := And.intro @la.{0} (And.intro @lc.{0} (And.intro @lm.{0,0} (And.intro @ln.{0} (And.intro @bZ (And.intro @aH (And.intro @Go.Eng.inR.eq_1 (And.intro @maxLen.eq_1 (@strs.eq_1))))))))
theorem aDU (l : List Tv) (hl : l.length <= 100) (hT : ∀ v,v ∈ l -> bE v) :
  SpG g 151 [.c (cM 7 (aD l))] [] (.c (cM 1 (strs (l.map tvT)))) [] := by
 refine aK 20 Tryz.func151 fun fr hG => ?_
 refine zA hG [] [0,1,0,1,1] (⟨[zM 0 7 (aD l),zN 2,zN 3,zI 4 0],[]⟩) [(3,9002,9,1)] [] (fun (zz : Nat × LD) => match zz with | (k,es) => (l.length - k,⟨[zM 0 7 (aD l),zN 2,zY 3 9002 0,zI 4 (k : Int)],[(9002,.arr 0 9 1 es)]⟩,k <= l.length /\ es = strs ((l.take k).map tvT))) (0,[]) aB ?_ ?_
 exact ⟨zl _,rfl⟩
 rintro ⟨k,es⟩ ⟨hk,hes⟩
 have hel : es.length = k := by rw [hes,strs,lm,lm,lt1]; omega
 refine zc hG [] [1,0] (decide ((k : Int) < ((aD l).length : Int))) aB (fun hc2 => ?_) (fun hc2 => ?_)
 (try simp only [gL,aD] at hc2)
 refine zD hG [(5,3,.elem (TvD (l.getD k none))),(5,5,kS (S (tvT (l.getD k none))))] (k + 1,es ++ ([[.s (S (tvT (l.getD k none)))]] : LD)) (aA (by intros; exact bR _ (by omega) (by (try simp only [zq4,aD] at *); omega) : (0 : Int) <= (k : Int) /\ (aD l)[k]? = some (TvD (l.getD k none))) (cS2 g (oD (l.getD k none) (hT _ (aQ (by (try simp only [aD,lm] at *); omega)))) (aA (by intros; (try rw [ho]); (try simp only [kY,aD] at *); omega : (es.length + ([[.s (S (tvT (l.getD k none)))]] : LD).length) * (16 + 1) <= 140737488355328) (aC (by intros; (try rw [ho]); (try simp only [kY,aD] at *); omega : inR ((k : Int) + 1)))))) ?_ ?_
 (try dsimp only); (try simp only [aD,lm] at *); omega
 exact ⟨by (try simp only [aD,lm] at *); omega,by rw [hes]; exact tx_snoc (by (try simp only [aD,lm] at *); omega)⟩
 (try simp only [gL,aD] at hc2)
 refine zE hG [] (.exit 0) (⟨[zN 2,zY 3 9002 0],[(9002,.arr 0 9 1 es)]⟩) aB rfl ?_
 refine zR hG [] [] (.c (cM 1 es)) [] aB ?_ ?_
 have hk2 : k = l.length := by (try simp only [aD,lm] at *); omega
 rw [hes,hk2,List.take_length]
 rfl
theorem aCL (l : List (List UInt8)) (sep : List UInt8) (h : g7 sep.length l <= 1000000000) :
  SpG g 150 [.c (cM 1 (strs l)),.c (cS (S sep))] [] (.c (cS (S (joinL sep l)))) [] := by
 refine aK 25 Tryz.func150 fun fr hG => ?_
 refine qT 0 rfl fun hl0 => ?_
 refine zL hG [] [0,1,0,1,1] (fun (zz : ByteArray × Nat) => match zz with | (o,k) => (l.length - k,⟨[zM 0 1 (strs l),zS 1 (S sep),zS 4 (S []),zS 5 o,zI 6 (k : Int)],[]⟩,k <= l.length /\ o = S (joinL sep (l.take k)))) (S [],0) aB ?_ ?_
 exact ⟨zl _,rfl⟩
 rintro ⟨o,k⟩ ⟨hk,ho⟩
 have hj := dH sep (l.take k)
 have hj2 := dH sep (l.take (k + 1))
 have ht := oG (n := sep.length) l k
 have ht2 := oG (n := sep.length) l (k + 1)
 refine zc hG [] [1,0] (decide ((k : Int) < ((strs l).length : Int))) aB (fun hc2 => ?_) (fun hc2 => ?_)
 (try simp only [gL] at hc2)
 refine zc hG [] [1,0,0,0,1] (decide ((k : Int) > 0)) aB (fun hc3 => ?_) (fun hc3 => ?_)
 (try simp only [gL] at hc3)
 have hjj := i7 (sep := sep) (l := l) (k := k) (by omega)
 have hjl := congrArg List.length hjj
 rw [if_neg (by omega)] at hjl
 simp only [la,ln] at hjl
 refine zD hG [(7,3,.elem (cV (l.getD k [])))] ((o ++ (S sep)) ++ (S (l.getD k [])),k + 1) (aA (by intros; (try rw [ho]); (try simp only [kY,aD] at *); omega : o.size + (S sep).size <= maxLen) (aA (by intros; exact bR (f := cV) [] (by omega) (by (try simp only [zq4] at *); omega) : (0 : Int) <= (k : Int) /\ (strs l)[k]? = some (cV (l.getD k []))) (aA (by intros; (try rw [ho]); (try simp only [kY,aD] at *); omega : (o ++ (S sep)).size + (S (l.getD k [])).size <= maxLen) (aC (by intros; (try rw [ho]); (try simp only [kY,aD] at *); omega : inR ((k : Int) + 1)))))) ?_ ?_
 (try simp only [zq4] at *); (try dsimp only); omega
 refine ⟨by omega,?_⟩
 rw [ho,bZ,bZ,i7 (by omega),if_neg (by omega)]
 (try simp only [gL] at hc3)
 have hjj := i7 (sep := sep) (l := l) (k := k) (by omega)
 have hjl := congrArg List.length hjj
 rw [if_pos (by omega)] at hjl
 simp only [la,ln] at hjl
 refine zD hG [(7,3,.elem (cV (l.getD k [])))] (o ++ (S (l.getD k [])),k + 1) (aA (by intros; exact bR (f := cV) [] (by omega) (by (try simp only [zq4] at *); omega) : (0 : Int) <= (k : Int) /\ (strs l)[k]? = some (cV (l.getD k []))) (aA (by intros; (try rw [ho]); (try simp only [kY,aD] at *); omega : o.size + (S (l.getD k [])).size <= maxLen) (aC (by intros; (try rw [ho]); (try simp only [kY,aD] at *); omega : inR ((k : Int) + 1))))) ?_ ?_
 (try simp only [zq4] at *); (try dsimp only); omega
 refine ⟨by omega,?_⟩
 rw [ho,bZ,i7 (by omega),if_pos (by omega)]
 simp
 (try simp only [gL] at hc2)
 refine zE hG [] (.exit 0) (⟨[zS 4 (S []),zS 5 o],[]⟩) aB rfl ?_
 refine zR hG [] [] (.c (cS o)) [] aB ?_ ?_
 have : l.take k = l := tlQ (by omega)
 rw [ho,this]
 rfl
theorem mD (l : List Tv) (hl : l.length <= 8) (hT : ∀ v,v ∈ l -> bE v) :
  SpG g 125 [.c (cM 7 (aD l))] [] (.c (cS (S (rwT l)))) [] := by
 refine aK 24 Tryz.func125 fun fr hG => ?_
 refine zC hG [] [1,0,1] (decide ((((aD l).length : Int) : Int) > 8)) (⟨[zM 0 7 (aD l),zS 2 (S [])],[]⟩) aB (fun hc1 => ?_) (fun hc1 => ?_)
 (try simp only [gL,aD] at hc1)
 exfalso; omega
 (try simp only [gL,aD] at hc1)
 refine zL hG [] [0,1,0,1,1] (fun (zz : Nat) => match zz with | k => (l.length - k,⟨[zM 0 7 (aD l),zS 2 (S []),zI 3 (k : Int)],[]⟩,k <= l.length)) 0 aB ?_ ?_
 exact zl _
 rintro k hk
 refine zc hG [] [1,0] (decide ((k : Int) < ((aD l).length : Int))) aB (fun hc3 => ?_) (fun hc3 => ?_)
 (try simp only [gL,aD] at hc3)
 refine zc hG [(6,2,.elem (TvD (l.getD k none))),(6,4,kB true)] [1,1,0,0,1] false (aA (by intros; exact bR _ (by omega) (by (try simp only [zq4,aD] at *); omega) : (0 : Int) <= (k : Int) /\ (aD l)[k]? = some (TvD (l.getD k none))) (cS1 g (aD9 (l.getD k none) (hT _ (aQ (by (try simp only [aD,lm] at *); omega)))))) (fun hc4 => absurd hc4 (by decide)) (fun _ => ?_)
 refine zD hG [] (k + 1) (aC (by intros; (try rw [ho]); (try simp only [kY,aD] at *); omega : inR ((k : Int) + 1))) ?_ ?_
 (try dsimp only); (try simp only [aD,lm] at *); omega
 (try simp only [aD,lm] at *); omega
 (try simp only [gL,aD] at hc3)
 refine zE hG [] (.exit 0) (⟨[zM 0 7 (aD l),zS 2 (S [])],[]⟩) aB rfl ?_
 exact zr hG [(9,1,kC (.c (cM 1 (strs (l.map tvT))))),(9,2,kS (S (joinL [124] (l.map tvT))))] [] (cS2 g (aDU l (by omega) hT) (cS1 g (aCL (l.map tvT) [124] (Nat.le_trans (mA l hT) (by omega)))))
theorem aNA (s : List UInt8) (hs : s.length <= 200) :
  SpG g 127 [.c (.d (.y 39)),.c (cS (S (aX s ++ [39])))] [] (.agg [cI 1,cS (S s),cI 0,cI 0,cI 0,cN,cN]) [] := by
 have hel := iE s
 refine aK 77 Tryz.func127 fun fr hG => ?_
 refine zC hG [] [1,0,0,1,0,1] false (⟨[(0,[],.c (.d (.y 39))),zS 1 (S (aX s ++ [39])),zX 4 100 0,(13,[],.c (.d (.y 39))),zB 14 false],[(100,y8)]⟩) aB (fun hc1 => absurd hc1 (by decide)) (fun _ => ?_)
 refine zC hG [] [1,0,1,0,1] false (⟨[(0,[],.c (.d (.y 39))),zS 1 (S (aX s ++ [39])),zX 4 100 0,(13,[],.c (.d (.y 39)))],[(100,y8)]⟩) aB (fun hc2 => absurd hc2 (by decide)) (fun _ => ?_)
 refine zC hG [] [1,1,1,0,1,0,1] false (⟨[zS 1 (S (aX s ++ [39])),zX 4 100 0,(13,[],.c (.d (.y 39)))],[(100,y8)]⟩) aB (fun hc3 => absurd hc3 (by decide)) (fun _ => ?_)
 refine zc hG [] [1,1,1,1,1,0,1,0,1] false aB (fun hc4 => absurd hc4 (by decide)) (fun _ => ?_)
 refine zC hG [] [1,1,1,1,1,1,1,0,1,0,1] true (⟨[zS 1 (S (aX s ++ [39])),zX 4 100 0],[(100,y8)]⟩) aB (fun _ => ?_) (fun hc5 => absurd hc5 (by decide))
 refine zL hG [] [0,1,0,1,0,1,1,1,1,1,1,1,0,1,0,1] (fun (zz : Nat × ByteArray × Nat) => match zz with | (j,o,k) => (s.length - j,⟨[zS 1 (S (aX s ++ [39])),zX 4 100 0,zS 11 o,zI 12 (k : Int)],[(100,y8)]⟩,j <= s.length /\ k = (aX (s.take j)).length /\ k <= (aX s).length /\ o = S (s.take j))) (0,S [],0) aB ?_ ?_
 exact ⟨zl _,by simp [aX],zl _,by simp⟩
 rintro ⟨j,o,k⟩ ⟨hj,hk,hke,ho⟩
 have hjs : j = s.length -> k = (aX s).length := fun e => by rw [hk,e,List.take_length]
 have htk : (s.take j).length = j := by rw [lt1]; omega
 refine zc hG [] [1,0] (decide (((k : Int) + 1 : Int) < ((S (aX s ++ [39])).size : Int))) (aC (by intros; (try rw [ho]); (try simp only [kY,aD] at *); omega : inR ((k : Int) + 1))) (fun hc7 => ?_) (fun hc7 => ?_)
 (try simp only [d2,Int.toNat_natCast] at hc7)
 have hjl : j < s.length := by
  rcases Nat.lt_or_ge j s.length with h | h
  exact h
  have := hjs (by omega); simp only [zq1] at hc7; omega
 have hx1 : ((S (aX s ++ [39])).extract k ((k : Int) + 1).toNat).size = 1 := by rw [iN (by simp only [zq1]; omega),aH]; rfl
 refine zC hG [] [1,1,0,0,1] (decide ((byteAt (S (aX s ++ [39])) (k : Int) : Int) = 39)) (⟨[zS 1 (S (aX s ++ [39])),zX 4 100 0,zS 11 (o ++ ((S (aX s ++ [39])).extract k ((k : Int) + 1 : Int).toNat)),zI 12 (k : Int)],[(100,y8)]⟩) (aA (by intros; (try rw [ho]); (try simp only [kY,aD] at *); omega : inR ((k : Int) + 1)) (aA (by intros; (try rw [ho]); (try simp only [kY,aD] at *); omega : (0 : Int) <= (k : Int) /\ (k : Int) <= ((k : Int) + 1) /\ ((k : Int) + 1) <= ((S (aX s ++ [39])).size : Int)) (aA (by intros; (try rw [ho]); (try simp only [kY,aD] at *); omega : o.size + ((S (aX s ++ [39])).extract k ((k : Int) + 1 : Int).toNat).size <= maxLen) (aC (by intros; (try rw [ho]); (try simp only [kY,aD] at *); omega : (0 : Int) <= (k : Int) /\ (k : Int) < ((S (aX s ++ [39])).size : Int)))))) (fun hc8 => ?_) (fun hc8 => ?_)
 (try simp only [d2,Int.toNat_natCast] at hc8)
 refine zD hG [] (j + 1,o ++ ((S (aX s ++ [39])).extract k ((k : Int) + 1 : Int).toNat),k + 2) (aA (by intros; (try rw [ho]); (try simp only [kY,aD] at *); omega : inR ((k : Int) + 1)) (aC (by intros; (try rw [ho]); (try simp only [kY,aD] at *); omega : inR (((k : Int) + 1) + 1)))) ?_ ?_
 (try dsimp only); omega
 have he := aO2 hjl
 obtain ⟨e1,e2⟩ := z7 hjl
 rw [<- hk] at he e1
 have hc9 := hc8
 rw [he] at hc9
 rw [if_pos (cEq39 hc9)] at e1
 refine ⟨by omega,by omega,by omega,?_⟩
 rw [ho,iN (by rw [la]; simp; omega),he,bZ,a7 0 hjl]
 (try simp only [d2,Int.toNat_natCast] at hc8)
 refine zD hG [] (j + 1,o ++ ((S (aX s ++ [39])).extract k ((k : Int) + 1 : Int).toNat),k + 1) (aC (by intros; (try rw [ho]); (try simp only [kY,aD] at *); omega : inR ((k : Int) + 1))) ?_ ?_
 (try dsimp only); omega
 have he := aO2 hjl
 obtain ⟨e1,e2⟩ := z7 hjl
 rw [<- hk] at he e1
 have hc9 := hc8
 rw [he] at hc9
 rw [if_neg (cNe39 hc9)] at e1
 refine ⟨by omega,by omega,by omega,?_⟩
 rw [ho,iN (by rw [la]; simp; omega),he,bZ,a7 0 hjl]
 (try simp only [d2,Int.toNat_natCast] at hc7)
 refine zE hG [] (.exit 3) (⟨[zX 4 100 0,zS 11 o],[(100,y8)]⟩) aB rfl ?_
 refine zR hG [] [] (.agg [cI 1,cS o,cI 0,cI 0,cI 0,cN,cN]) [] aB ?_ ?_
 have hje : j = s.length := by
  rcases Nat.lt_or_ge j s.length with h | h
  have := z7 h; rw [<- hk] at this; simp only [zq1] at *; split at this <;> omega
  omega
 rw [ho,hje,List.take_length]
 rfl
end
section
variable {g : Gv}
set_option maxRecDepth 100000 in
theorem readX (s u v : ByteArray) (h : conj [SX g 92 [y15 u] (.c (cS v)),Value.bool (!(v.toList == s.toList)) = .bool false,Value.int .u8 (Go.Eng.byteAt s 0) = .int .u8 39,(0 : Int) <= 0 /\ (0 : Int) < (s.size : Int),(0 : Int) <= 1 /\ (1 : Int) <= (s.size : Int) /\ (s.size : Int) <= (s.size : Int),SX g 127 [.c (.d (.y 39)),.c (cS (s.extract 1 s.size))] (y15 u),Value.int .u8 (Go.Eng.byteAt s 0) = .int .u8 39,(0 : Int) <= 0 /\ (0 : Int) < (s.size : Int),decide ((s.size : Int) = 0) = false]) : SX g 78 [.c (cS s)] (.tup [(true,[cI 1,cS u,cI 0,cI 0,cI 0,cM 1 [],cM 1 []]),(false,[cB true])]) :=
 sX (tlO [(105,false),(112,true)]) (fun k => bif Nat.beq k 107 || Nat.beq k 110 then some (.int .u8 39) else bif Nat.beq k 118 then some (.bool false) else none) nFQ (T := [aU 127 (y15 u),aU 92 (.c (cS v))]) (by kernel_rfl) h
end
section
open Go.Eng (inR byteAt u8 cK)
variable {g : Gv}
theorem vA (v : Tv) (h : bE v) : SX g 78 [.c (cS (S (tvT v)))] (.tup [(true,(TvD v).map .d),(false,[cB true])]) := by
 cases v with
 | none => exact val0R
 | some s =>
  have hl := fA h
  have hel := iE s
  have e : (S (tvT (some s))).extract 1 (S (tvT (some s))).size = S (aX s ++ [39]) := by
   rw [dJ,aH,List.take_length]; rfl
  have hsz : (S (tvT (some s))).size = (aX s).length + 2 := by rw [aH]; simp [tvT]
  have hp : SX g 127 [.c (.d (.y 39)),.c (cS ((S (tvT (some s))).extract 1 (S (tvT (some s))).size))] (.agg ((TvD (some s)).map .d)) := by
   rw [e]; exact aBL [none,none,none,none,none,some 1,some 1] (aNA s hl)
  have hb : Value.int .u8 (byteAt (S (tvT (some s))) 0) = .int .u8 39 := by rw [dS]; rfl
  exact readX (S (tvT (some s))) (S s) (S (tvT (some s))) ⟨oD (some s) h,by simp,hb,by omega,by omega,hp,hb,by omega,decide_eq_false (by omega)⟩
theorem aLS {l : List Tv} {k : Nat} (h : k < l.length) : aD (l.take k) ++ [TvD (l.getD k none)] = aD (l.take (k + 1)) := by rw [a7 none h]; simp [aD]
theorem rw_len {l : List Tv} (hl : l.length <= 8) (hT : ∀ v,v ∈ l -> bE v) : (rwT l).length <= 4000 := by
 have h1 := mA l hT
 have h2 := dH [124] (l.map tvT)
 simp only [zq5,Nat.zero_add] at h2
 unfold rwT; omega
theorem rw_nil {l : List Tv} (h : rwT l = []) : l = [] := by
 cases l with
 | nil => rfl
 | cons v r => rw [jJ] at h; cases v <;> simp [tvT] at h
def iQ := And.intro @la.{0} (And.intro @lc.{0} (And.intro @lm.{0,0} (And.intro @ln.{0} (And.intro @aH (And.intro @Go.Eng.inR.eq_1 (And.intro @maxLen.eq_1 (@strs.eq_1)))))))
theorem aPD (s : List UInt8) (sep : Int) (h : s.length <= 100000000) :
  SpG g 124 [.c (cS (S s)),.c (.d (.y sep))] [] (.tup [(false,[cM 1 (strs (cutB s sep))]),(false,[cB (aIB s sep)])]) [] := by
 refine aK 71 Tryz.func124 fun fr hG => ?_
 refine zA hG [] [0,1,0,1,1,1,1,1] (⟨[zS 0 (S s),(1,[],.c (.d (.y sep))),zN 4,zB 5 false,zN 6,zI 7 0,zB 8 false,zI 9 0,zI 10 0],[]⟩) [(6,9001,9,1)] [] (fun (zz : Nat × LD × List (List UInt8) × Nat × Bool × Int) => match zz with | (k,es,acc,f,q,d) => (s.length - k,⟨[zS 0 (S s),(1,[],.c (.d (.y sep))),zN 4,zB 5 false,zY 6 9001 0,zI 7 (f : Int),zB 8 q,zI 9 d,zI 10 (k : Int)],[(9001,.arr 0 9 1 es)]⟩,k <= s.length /\ gK s sep k = ⟨acc,f,q,d⟩ /\ es = strs acc /\ f <= k /\ -(k : Int) <= d /\ d <= k /\ acc.length <= k)) (0,[],[],0,false,0) aB ?_ ?_
 ·exact ⟨zl _,rfl,rfl,by omega,by omega,by omega,by simp⟩
 rintro ⟨k,es,acc,f,q,d⟩ ⟨hk,hC,hes,hf,hd,hd2,ha⟩
 have hlen : es.length = acc.length := by rw [hes,strs,lm]
 refine zc hG [] [1,0] (decide ((k : Int) < ((S s).size : Int))) aB (fun hc2 => ?_) (fun hc2 => ?_)
 ·(try simp only [d2,Int.toNat_natCast] at hc2)
  refine zc hG [] [1,0,0,0,1] (decide ((byteAt (S s) (k : Int) : Int) = 39)) (aC (by intros; (try simp only [iQ] at *); omega : (0 : Int) <= (k : Int) /\ (k : Int) < ((S s).size : Int))) (fun hc3 => ?_) (fun hc3 => ?_)
  ·(try simp only [d2,Int.toNat_natCast] at hc3)
   refine zD hG [] (k + 1,es,acc,f,!q,d) (aC (by intros; (try simp only [iQ] at *); omega : inR ((k : Int) + 1))) ?_ ?_
   ·(try dsimp only); omega
   ·refine ⟨by omega,?_,hes,by omega,by omega,by omega,by omega⟩
    rw [gK,hC,gT]; simp [-List.getD_eq_getElem?_getD, *]
  ·(try simp only [d2,Int.toNat_natCast] at hc3)
   refine zc hG [] [1,1,1,0,0,0,1] q aB (fun hc4 => ?_) (fun hc4 => ?_)
   ·(try simp only [d2,Int.toNat_natCast] at hc4)
    refine zD hG [] (k + 1,es,acc,f,q,d) (aC (by intros; (try simp only [iQ] at *); omega : inR ((k : Int) + 1))) ?_ ?_
    ·(try dsimp only); omega
    ·refine ⟨by omega,?_,hes,by omega,by omega,by omega,by omega⟩
     rw [gK,hC,gT]; simp [-List.getD_eq_getElem?_getD, *]
   ·(try simp only [d2,Int.toNat_natCast] at hc4)
    refine zc hG [] [1,1,1,1,1,0,0,0,1] (decide ((byteAt (S s) (k : Int) : Int) = 91)) (aC (by intros; (try simp only [iQ] at *); omega : (0 : Int) <= (k : Int) /\ (k : Int) < ((S s).size : Int))) (fun hc5 => ?_) (fun hc5 => ?_)
    ·(try simp only [d2,Int.toNat_natCast] at hc5)
     refine zD hG [] (k + 1,es,acc,f,q,d + 1) (aA (by intros; (try simp only [iQ] at *); omega : inR (d + 1)) (aC (by intros; (try simp only [iQ] at *); omega : inR ((k : Int) + 1)))) ?_ ?_
     ·(try dsimp only); omega
     ·refine ⟨by omega,?_,hes,by omega,by omega,by omega,by omega⟩
      rw [gK,hC,gT]; simp [-List.getD_eq_getElem?_getD, *]
    ·(try simp only [d2,Int.toNat_natCast] at hc5)
     refine zc hG [] [1,1,1,1,1,1,1,0,0,0,1] (decide ((byteAt (S s) (k : Int) : Int) = 93)) (aC (by intros; (try simp only [iQ] at *); omega : (0 : Int) <= (k : Int) /\ (k : Int) < ((S s).size : Int))) (fun hc6 => ?_) (fun hc6 => ?_)
     ·(try simp only [d2,Int.toNat_natCast] at hc6)
      refine zD hG [] (k + 1,es,acc,f,q,d - 1) (aA (by intros; (try simp only [iQ] at *); omega : inR (d - 1)) (aC (by intros; (try simp only [iQ] at *); omega : inR ((k : Int) + 1)))) ?_ ?_
      ·(try dsimp only); omega
      ·refine ⟨by omega,?_,hes,by omega,by omega,by omega,by omega⟩
       rw [gK,hC,gT]; simp [-List.getD_eq_getElem?_getD, *]
     ·(try simp only [d2,Int.toNat_natCast] at hc6)
      refine zc hG [] [1,1,1,1,1,1,1,1,1,0,0,0,1] ((decide ((byteAt (S s) (k : Int) : Int) = sep)) && (decide ((d : Int) = 0))) (aC (by intros; (try simp only [iQ] at *); omega : (0 : Int) <= (k : Int) /\ (k : Int) < ((S s).size : Int))) (fun hc7 => ?_) (fun hc7 => ?_)
      ·(try simp only [d2,Int.toNat_natCast] at hc7)
       refine zD hG [] (k + 1,es ++ [[V.D.s ((S s).extract f k)]],acc ++ [sub s f k],k + 1,q,d) (aA (by intros; (try simp only [iQ] at *); omega : (0 : Int) <= (f : Int) /\ (f : Int) <= (k : Int) /\ (k : Int) <= ((S s).size : Int)) (aA (by intros; (try simp only [iQ] at *); omega : (es.length + (([[.s ((S s).extract f k)]] : LD)).length) * (16 + 1) <= 140737488355328) (aA (by intros; (try simp only [iQ] at *); omega : inR ((k : Int) + 1)) (aC (by intros; (try simp only [iQ] at *); omega : inR ((k : Int) + 1)))))) ?_ ?_
       ·(try dsimp only); omega
       ·refine ⟨by omega,?_,by rw [hes,g8,dJ]; rfl,by omega,by omega,by omega,by simp only [zq1]; omega⟩
        rw [gK,hC,gT,if_neg hc3,if_neg (by simp [hc4]),if_neg hc5,if_neg hc6,if_pos hc7]
      ·(try simp only [d2,Int.toNat_natCast] at hc7)
       refine zD hG [] (k + 1,es,acc,f,q,d) (aC (by intros; (try simp only [iQ] at *); omega : inR ((k : Int) + 1))) ?_ ?_
       ·(try dsimp only); omega
       ·refine ⟨by omega,?_,hes,by omega,by omega,by omega,by omega⟩
        rw [gK,hC,gT,if_neg hc3,if_neg (by simp [hc4]),if_neg hc5,if_neg hc6,if_neg (fun hh => by rcases hc7 with h7 | h7; (· exact h7 hh.1); exact h7 hh.2)]
 ·(try simp only [d2,Int.toNat_natCast] at hc2)
  refine zE hG [] (.exit 0) (⟨[zS 0 (S s),zN 4,zB 5 false,zY 6 9001 0,zI 7 (f : Int),zB 8 q,zI 9 d],[(9001,.arr 0 9 1 es)]⟩) aB rfl ?_
  refine zR hG [] [] (.tup [(false,[cM 1 (es ++ ([[.s ((S s).extract f (S s).size)]] : LD))]),(false,[cB (!q && (decide ((d : Int) = 0)))])]) [] (aA (by intros; (try simp only [iQ] at *); omega : (0 : Int) <= (f : Int) /\ (f : Int) <= ((S s).size : Int) /\ ((S s).size : Int) <= ((S s).size : Int)) (aC (by intros; (try simp only [iQ] at *); omega : (es.length + ([[.s ((S s).extract f (S s).size)]] : LD).length) * (16 + 1) <= 140737488355328))) ?_ ?_
  ·have e : k = s.length := by omega
   subst e
   rw [cutB,aIB,hC,hes,dJ,g8]; rfl
  ·rfl
theorem read_at {l : List Tv} {k : Nat} (h : k < l.length) (hT : ∀ v,v ∈ l -> bE v) : SX g 78 [.c (cS (S ((l.map tvT).getD k [])))] (.tup [(true,(TvD (l.getD k none)).map .d),(false,[cB true])]) := by
 have e : (l.map tvT).getD k [] = tvT (l.getD k none) := by simp [ge h]
 rw [e]; exact vA _ (hT _ (aQ h))
theorem aBQ {l : List Tv} {k : Nat} {es : LD} (hk : k = l.length) (he : es = aD (l.take k)) (hl : l.length <= 8) (hT : ∀ v,v ∈ l -> bE v) : SX g 125 [.c (cM 7 es)] (.c (cS (S (rwT l)))) := by
 subst he hk; rw [List.take_length]; exact mD l hl hT
theorem aEB (l : List Tv) (hne : ¬ l = []) (hl : l.length <= 8) (hT : ∀ v,v ∈ l -> bE v) :
  SpG g 76 [.c (cS (S (rwT l)))] [] (y11 (aD l)) [] := by
 have hrl := rw_len hl hT
 obtain ⟨hcu,hco⟩ := cut_rw hne
 refine aK 44 Tryz.func76 fun fr hG => ?_
 refine zC hG [] [1,0,1] ((S (rwT l)).toList == (S []).toList) (⟨[zS 0 (S (rwT l)),zN 2,zB 3 false],[]⟩) aB (fun hc1 => ?_) (fun hc1 => ?_)
 (try simp only [zq3] at hc1)
 exact absurd (rw_nil (by simpa [uA] using hc1)) hne
 (try simp only [zq3] at hc1)
 refine zC hG [(3,1,kC (y20 (strs (l.map tvT))))] [1,0,1,1,1] false (⟨[zS 0 (S (rwT l)),zN 2,zB 3 false,zM 4 1 (strs (l.map tvT))],[]⟩) (cS1 g ((show SX g 124 [.c (cS (S (rwT l))),.c (.d (.y 124))] (y20 (strs (l.map tvT))) from by have := aPD (g := g) (rwT l) 124 (by omega); rw [hcu,hco] at this; exact this))) (fun hc2 => absurd hc2 (by decide)) (fun _ => ?_)
 refine zA hG [] [0,1,0,1,1,1,1,1] (⟨[zS 0 (S (rwT l)),zN 2,zB 3 false,zM 4 1 (strs (l.map tvT)),zN 6,zI 7 0],[]⟩) [(6,9005,61,7)] [] (fun (zz : Nat × LD) => match zz with | (k,es) => (l.length - k,⟨[zS 0 (S (rwT l)),zN 2,zB 3 false,zM 4 1 (strs (l.map tvT)),zY 6 9005 0,zI 7 (k : Int)],[(9005,.arr 0 61 7 es)]⟩,k <= l.length /\ es = aD (l.take k))) (0,[]) aB ?_ ?_
 exact ⟨zl _,rfl⟩
 rintro ⟨k,es⟩ ⟨hk,hes⟩
 have hel : es.length = k := by rw [hes,aD,lm,lt1]; omega
 refine zc hG [] [1,0] (decide ((k : Int) < ((strs (l.map tvT)).length : Int))) aB (fun hc4 => ?_) (fun hc4 => ?_)
 (try simp only [zq3] at hc4)
 refine zC hG [(10,2,.elem (cV ((l.map tvT).getD k []))),(10,4,kC (y10 (tvK (l.getD k none)) (S (tvS (l.getD k none))) ([] : LD)))] [1,0,1,0,0,1] false (⟨[zS 0 (S (rwT l)),zN 2,zB 3 false,zM 4 1 (strs (l.map tvT)),zY 6 9005 0,zI 7 (k : Int),zX 8 1108 0],[(1108,y1 (tvK (l.getD k none)) (S (tvS (l.getD k none))) ([] : LD)),(9005,.arr 0 61 7 es)]⟩) (aA (by intros; exact bR (f := cV) [] (by omega) (by (try simp only [zq4] at *); omega) : (0 : Int) <= (k : Int) /\ (strs (l.map tvT))[k]? = some (cV ((l.map tvT).getD k []))) (cS1 g (read_at (l := l) (k := k) (by (try simp only [zq4] at *); omega) hT))) (fun hc5 => absurd hc5 (by decide)) (fun _ => ?_)
 refine zD hG [] (k + 1,es ++ ([[.i (tvK (l.getD k none)),.s (S (tvS (l.getD k none))),.i 0,.i 0,.i 0,.sl 1 (([] : LD)),.sl 1 (([] : LD))]] : LD)) (aA (by intros; (try simp only [iQ] at *); omega : (es.length + (([[.i (tvK (l.getD k none)),.s (S (tvS (l.getD k none))),.i 0,.i 0,.i 0,.sl 1 (([] : LD)),.sl 1 (([] : LD))]] : LD)).length) * (96 + 1) <= 140737488355328) (aC (by intros; (try simp only [iQ] at *); omega : inR ((k : Int) + 1)))) ?_ ?_
 (try dsimp only); (try simp only [zq4] at *); omega
 exact ⟨by (try simp only [zq4] at *); omega,by rw [hes]; exact aLS (by (try simp only [zq4] at *); omega)⟩
 (try simp only [zq3] at hc4)
 refine zE hG [] (.exit 0) (⟨[zS 0 (S (rwT l)),zN 2,zB 3 false,zY 6 9005 0],[(9005,.arr 0 61 7 es)]⟩) aB rfl ?_
 refine zC hG [(14,1,kS (S (rwT l)))] [1,0,1,1,1,1,1,1] (!((S (rwT l)).toList == (S (rwT l)).toList)) (⟨[zN 2,zB 3 false,zY 6 9005 0],[(9005,.arr 0 61 7 es)]⟩) (cS1 g (aBQ (by (try simp only [zq4] at *); omega) hes hl hT)) (fun hc6 => ?_) (fun hc6 => ?_)
 (try simp only [zq3] at hc6)
 exfalso; simp at hc6
 (try simp only [zq3] at hc6)
 refine zR hG [] [] (y11 es) [] aB ?_ ?_
 have hk2 : k = l.length := by (try simp only [zq4] at *); omega
 rw [hes,hk2,List.take_length]
 rfl
end
section
open Go.Eng (inR byteAt u8 cK)
variable {g : Gv}
def rG (x : List UInt8 × Bool) : List D := [.s (S x.1),.b x.2]
def aM (es : RS) : LD := es.map rG
theorem aLL (es : RS) : (aM es).length = es.length := lm _
theorem aIR {es : RS} {k : Nat} (h : k < es.length) : aM (es.take (k + 1)) = aM (es.take k) ++ [[.s (S (es.getD k ([],false)).1),.b (es.getD k ([],false)).2]] := by
 rw [a7 ([],false) h]; simp [aM,rG]
theorem ln_in {s : ByteArray} {a r : List UInt8} {q : Nat} (hs : s = S (a ++ 58 :: r)) (hq : q <= a.length) (h : (q : Int) < (s.size : Int) /\ ¬ byteAt s (q : Int) = 58) : q < a.length := by
 subst hs
 rw [aH,dS,Int.toNat_natCast] at h
 exact un_in (c := 58) hq h
theorem hd_no (t : List UInt8) (b : Bool) : ∀ x,x ∈ hdT t b -> ¬ x = 58 := by
 intro x hx
 rcases mc.1 hx with rfl | hx
 unfold sgn; split <;> decide
 exact cQ (.inr (.inl rfl)) x hx
theorem ln_out {s : ByteArray} {t r : List UInt8} {b : Bool} {q : Nat} (hs : s = S (hdT t b ++ 58 :: r)) (hq : q <= (hdT t b).length) (h : ¬ (q : Int) < (s.size : Int) \/ byteAt s (q : Int) = 58) : q = (hdT t b).length := by
 subst hs
 rw [aH,dS,Int.toNat_natCast] at h
 exact aLQ (c := 58) (hd_no t b) hq h
theorem ln_b0 {s : ByteArray} {t r : List UInt8} {b : Bool} (hs : s = S (hdT t b ++ 58 :: r)) : byteAt s 0 = if b then 45 else 43 := by
 subst hs
 rw [dS]
 cases b <;> rfl
theorem ln_dec {s : ByteArray} {t r : List UInt8} {b : Bool} (hs : s = S (hdT t b ++ 58 :: r)) : decide (byteAt s 0 = 45) = b := by
 rw [ln_b0 hs]; cases b <;> rfl
theorem ln_num {s : ByteArray} {t r : List UInt8} {b : Bool} {q : Nat} (hs : s = S (hdT t b ++ 58 :: r)) (hq : q = (hdT t b).length) : s.extract 1 q = S (Lib.itoa (t.length : Int)) := by
 subst hs hq
 rw [dJ,List.take_left]; rfl
theorem aN1 {s : ByteArray} {t r : List UInt8} {b : Bool} {q : Nat} (hs : s = S (hdT t b ++ 58 :: (t ++ 10 :: r))) (hq : q = (hdT t b).length) : s.extract ((q : Int) + 1).toNat (((q : Int) + 1) + (t.length : Int)).toNat = S t := by
 subst hs hq
 have e1 : (((hdT t b).length : Int) + 1).toNat = (hdT t b).length + 1 := by omega
 have e2 : ((((hdT t b).length : Int) + 1) + (t.length : Int)).toNat = (hdT t b).length + 1 + t.length := by omega
 rw [e1,e2,dJ]
 have e3 : hdT t b ++ 58 :: (t ++ 10 :: r) = (hdT t b ++ [58]) ++ (t ++ 10 :: r) := by simp
 have e4 : (hdT t b).length + 1 = (hdT t b ++ [58]).length := by simp
 rw [e3,e4,List.take_append,tlQ (by omega),List.drop_left]
 simp
theorem ln_end {s : ByteArray} {t r : List UInt8} {b : Bool} {q : Nat} (hs : s = S (hdT t b ++ 58 :: (t ++ 10 :: r))) (hq : q = (hdT t b).length) : byteAt s (((q : Int) + 1) + (t.length : Int)) = 10 := by
 subst hs hq
 have e2 : ((((hdT t b).length : Int) + 1) + (t.length : Int)).toNat = (hdT t b).length + (1 + t.length) := by omega
 rw [dS,e2]
 simp [List.getElem?_append,Nat.add_comm 1]
theorem ln_rest {s : ByteArray} {t r : List UInt8} {b : Bool} {q : Nat} (hs : s = S (hdT t b ++ 58 :: (t ++ 10 :: r))) (hq : q = (hdT t b).length) : s.extract (((q : Int) + (t.length : Int)) + 2).toNat s.size = S r := by
 subst hs hq
 have e2 : ((((hdT t b).length : Int) + (t.length : Int)) + 2).toNat = (hdT t b).length + (1 + (t.length + 1)) := by omega
 rw [e2,fK,<- List.drop_drop,List.drop_left,<- List.drop_drop]
 have e3 : List.drop 1 (58 :: (t ++ 10 :: r)) = t ++ 10 :: r := rfl
 rw [e3,<- List.drop_drop,List.drop_left]; rfl
theorem ln_size {s : ByteArray} {t r : List UInt8} {b : Bool} (hs : s = S (hdT t b ++ 58 :: (t ++ 10 :: r))) : s.size = (hdT t b).length + 2 + t.length + r.length := by
 subst hs
 rw [aH]; simp only [zq0]; omega
theorem hd_len {t : List UInt8} (b : Bool) (h : t.length <= 200000) : (hdT t b).length <= 15 /\ 1 <= (hdT t b).length := by
 have := bI (dW (n := t.length) (by omega))
 simp only [hdT,lc]; omega
theorem aN2 {es : RS} {k : Nat} {s : ByteArray} (hk : k < es.length) (hs : s = S (aJ (es.drop k))) : s = S (hdT (es.getD k ([],false)).1 (es.getD k ([],false)).2 ++ 58 :: ((es.getD k ([],false)).1 ++ 10 :: aJ (es.drop (k + 1)))) := by
 rw [hs,tN hk,aCJ]
theorem ln_ne {es : RS} {k : Nat} {s : ByteArray} (hk : k < es.length) (hs : s = S (aJ (es.drop k))) : ¬ s = S [] := by
 intro e
 rw [hs] at e
 have := congrArg (fun b : ByteArray => b.data.toList) e
 simp only [cC] at this
 rw [tN hk] at this
 exact line_ne _ _ _ this
def iP := And.intro @la.{0} (And.intro @lc.{0} (And.intro @lm.{0,0} (And.intro @ln.{0} (And.intro @decide_eq_true_eq (@Go.Eng.inR.eq_1)))))
abbrev y44 (a0 : LD) : SV := .tup [(false,[cM 2 a0]),(false,[cB true])]
theorem aFL (n : Int) (es : RS) (hes : RsOk n es) (hrd : ∀ x,x ∈ es -> SpG g 41 [.c (cS (S x.1))] [] (.tup [(true,(zTQ (aE x.1))),(false,[cB true])]) []) :
  SpG g 20 [.c (cS (S (aJ es))),.c (cI n)] [] (y44 (aM es)) [] := by
 have hle0 := hes.len
 refine aK 108 Tryz.func20 fun fr hG => ?_
 refine zA hG [] [0,0,1,1] (⟨[zS 0 (S (aJ es)),zI 1 n,zN 4,zB 5 false,zN 6],[]⟩) [(6,9003,53,2)] [] (fun (zz : Nat × ByteArray × LD) => match zz with | (k,s,eb) => (es.length - k,⟨[zS 0 s,zI 1 n,zN 4,zB 5 false,zY 6 9003 0],[(9003,.arr 0 53 2 eb)]⟩,k <= es.length /\ s = S (aJ (es.drop k)) /\ eb = aM (es.take k))) (0,S (aJ es),[]) aB ?_ ?_
 exact ⟨zl _,rfl,rfl⟩
 rintro ⟨k,s,eb⟩ ⟨hk,hs,heb⟩
 have hel : eb.length = k := by rw [heb,aLL,lt1]; omega
 have hle := hes.len
 have hen := aC2 hes k
 refine zc hG [] [1,0] (!(s.toList == (S []).toList)) aB (fun hc2 => ?_) (fun hc2 => ?_)
 (try simp only [zq8] at hc2)
 have hkl : k < es.length := by
  rcases Nat.lt_or_ge k es.length with h | h
  exact h
  exact absurd hc2 (by rw [hs,List.drop_of_length_le h]; simp [aJ])
 have hs2 := aN2 hkl hs
 have hm := aQ (z := (([],false) : List UInt8 × Bool)) hkl
 have htl := hes.tlen hm
 have hau := hes.au _ hm
 have hhl := hd_len (es.getD k ([],false)).2 htl
 have hsz := ln_size hs2
 have hb0 := ln_b0 hs2
 have hss : s.size <= 800400000 := by rw [hs,aH]; exact hen
 refine zc hG [] [1,0,0,1] ((!decide ((byteAt s 0 : Int) = 43)) && (!decide ((byteAt s 0 : Int) = 45))) (aA (by intros; (try simp only [iP,aM] at *); omega : (0 : Int) <= 0 /\ 0 < (s.size : Int)) (aC (by intros; (try simp only [iP,aM] at *); omega : (!decide ((byteAt s 0 : Int) = 43)) = true -> (0 : Int) <= 0 /\ 0 < (s.size : Int)))) (fun hc3 => ?_) (fun hc3 => ?_)
 (try simp only [zq8] at hc3)
 exfalso; rw [hb0] at hc3; revert hc3; cases (es.getD k ([],false)).2 <;> simp
 (try simp only [zq8] at hc3)
 refine zL hG [] [0,0,1,1,0,1] (fun (zz : Nat) => match zz with | q => ((hdT (es.getD k ([],false)).1 (es.getD k ([],false)).2).length - q,⟨[zS 0 s,zI 1 n,zN 4,zB 5 false,zY 6 9003 0,zI 7 (q : Int)],[(9003,.arr 0 53 2 eb)]⟩,1 <= q /\ q <= (hdT (es.getD k ([],false)).1 (es.getD k ([],false)).2).length)) 1 aB ?_ ?_
 exact ⟨lr _,hhl.2⟩
 rintro q ⟨hq1,hq⟩
 refine zc hG [] [1,0] ((decide ((q : Int) < (s.size : Int))) && (!decide ((byteAt s (q : Int) : Int) = 58))) (aC (by intros; (try simp only [iP,aM] at *); omega : (decide ((q : Int) < (s.size : Int))) = true -> (0 : Int) <= (q : Int) /\ (q : Int) < (s.size : Int))) (fun hc5 => ?_) (fun hc5 => ?_)
 (try simp only [zq8] at hc5)
 have hql := ln_in hs2 hq (by simpa using hc5)
 refine zD hG [] (q + 1) (aC (by intros; (try simp only [iP,aM] at *); omega : inR ((q : Int) + 1))) ?_ ?_
 (try dsimp only); omega
 omega
 (try simp only [zq8] at hc5)
 have hqe := ln_out hs2 hq (by simpa using hc5)
 refine zE hG [] (.exit 2) (⟨[zS 0 s,zI 1 n,zN 4,zB 5 false,zY 6 9003 0,zI 7 (q : Int)],[(9003,.arr 0 53 2 eb)]⟩) aB rfl ?_
 refine zC hG [(8,3,kC (y42 (((es.getD k ([],false)).1).length : Int)))] [1,0,1,1,1,1,0,1] ((decide (((((es.getD k ([],false)).1).length : Int) : Int) < 0)) || (decide (((((es.getD k ([],false)).1).length : Int) : Int) > (((s.size : Int) - (q : Int)) - 2)))) (⟨[zS 0 s,zI 1 n,zN 4,zB 5 false,zY 6 9003 0,zI 7 (q : Int),zI 8 (((es.getD k ([],false)).1).length : Int)],[(9003,.arr 0 53 2 eb)]⟩) (aA (by intros; (try simp only [iP,aM] at *); omega : (0 : Int) <= 1 /\ (1 : Int) <= (q : Int) /\ (q : Int) <= (s.size : Int)) (cS2 g ((show SpG g 40 [.c (cS (s.extract 1 q))] [] (y42 (((es.getD k ([],false)).1).length : Int)) [] from by rw [ln_num hs2 hqe]; exact zF _ (dW (by omega)))) (aA (by intros; (try simp only [iP,aM] at *); omega : (decide (((((es.getD k ([],false)).1).length : Int) : Int) < 0)) = false -> inR ((s.size : Int) - (q : Int))) (aC (by intros; (try simp only [iP,aM] at *); omega : (decide (((((es.getD k ([],false)).1).length : Int) : Int) < 0)) = false -> inR (((s.size : Int) - (q : Int)) - 2)))))) (fun hc6 => ?_) (fun hc6 => ?_)
 (try simp only [zq8] at hc6)
 exfalso; omega
 (try simp only [zq8] at hc6)
 refine zC hG [(12,2,kC (.tup [(true,(zTQ (aE (es.getD k ([],false)).1))),(false,[cB true])]))] [1,0,1,1,1,1,1,1,1,0,1] (((decide (((aE (es.getD k ([],false)).1).author : Int) < 1)) || (decide (((aE (es.getD k ([],false)).1).author : Int) > n))) || (!decide ((byteAt s (((q : Int) + 1) + (((es.getD k ([],false)).1).length : Int)) : Int) = 10))) (⟨[zS 0 s,zI 1 n,zN 4,zB 5 false,zY 6 9003 0,zI 7 (q : Int),zI 8 (((es.getD k ([],false)).1).length : Int),zX 10 1212 0],[(1212,.box 53 [cS (s.extract ((q : Int) + 1 : Int).toNat (((q : Int) + 1) + (((es.getD k ([],false)).1).length : Int) : Int).toNat),cB (decide ((byteAt s 0 : Int) = 45))]),(9003,.arr 0 53 2 eb)]⟩) (aA (by intros; (try simp only [iP,aM] at *); omega : inR ((q : Int) + 1)) (aA (by intros; (try simp only [iP,aM] at *); omega : inR ((q : Int) + 1)) (aA (by intros; (try simp only [iP,aM] at *); omega : inR (((q : Int) + 1) + (((es.getD k ([],false)).1).length : Int))) (aA (by intros; (try simp only [iP,aM] at *); omega : (0 : Int) <= ((q : Int) + 1) /\ ((q : Int) + 1 : Int) <= (((q : Int) + 1) + (((es.getD k ([],false)).1).length : Int)) /\ (((q : Int) + 1) + (((es.getD k ([],false)).1).length : Int)) <= (s.size : Int)) (aA (by intros; (try simp only [iP,aM] at *); omega : (0 : Int) <= 0 /\ 0 < (s.size : Int)) (cS2 g ((show SpG g 41 [.c (cS (s.extract ((q : Int) + 1 : Int).toNat (((q : Int) + 1) + (((es.getD k ([],false)).1).length : Int) : Int).toNat))] [] (.tup [(true,(zTQ (aE (es.getD k ([],false)).1))),(false,[cB true])]) [] from by rw [aN1 hs2 hqe]; exact hrd _ hm)) (aA (by intros; (try simp only [iP,aM] at *); omega : ((decide (((aE (es.getD k ([],false)).1).author : Int) < 1)) || (decide (((aE (es.getD k ([],false)).1).author : Int) > n))) = false -> inR ((q : Int) + 1)) (aA (by intros; (try simp only [iP,aM] at *); omega : ((decide (((aE (es.getD k ([],false)).1).author : Int) < 1)) || (decide (((aE (es.getD k ([],false)).1).author : Int) > n))) = false -> inR (((q : Int) + 1) + (((es.getD k ([],false)).1).length : Int))) (aC (by intros; (try simp only [iP,aM] at *); omega : ((decide (((aE (es.getD k ([],false)).1).author : Int) < 1)) || (decide (((aE (es.getD k ([],false)).1).author : Int) > n))) = false -> (0 : Int) <= (((q : Int) + 1) + (((es.getD k ([],false)).1).length : Int)) /\ (((q : Int) + 1) + (((es.getD k ([],false)).1).length : Int)) < (s.size : Int))))))))))) (fun hc7 => ?_) (fun hc7 => ?_)
 (try simp only [zq8] at hc7)
 exfalso; rw [ln_end hs2 hqe] at hc7; simp [-List.getD_eq_getElem?_getD] at hc7; omega
 (try simp only [zq8] at hc7)
 refine zD hG [] (k + 1,s.extract (((q : Int) + (((es.getD k ([],false)).1).length : Int)) + 2 : Int).toNat s.size,eb ++ ([[.s (s.extract ((q : Int) + 1 : Int).toNat (((q : Int) + 1) + (((es.getD k ([],false)).1).length : Int) : Int).toNat),.b (decide ((byteAt s 0 : Int) = 45))]] : LD)) (aA (by intros; (try simp only [iP,aM] at *); omega : (eb.length + (([[.s (s.extract ((q : Int) + 1 : Int).toNat (((q : Int) + 1) + (((es.getD k ([],false)).1).length : Int) : Int).toNat),.b (decide ((byteAt s 0 : Int) = 45))]] : LD)).length) * (24 + 1) <= 140737488355328) (aA (by intros; (try simp only [iP,aM] at *); omega : inR ((q : Int) + (((es.getD k ([],false)).1).length : Int))) (aA (by intros; (try simp only [iP,aM] at *); omega : inR (((q : Int) + (((es.getD k ([],false)).1).length : Int)) + 2)) (aC (by intros; (try simp only [iP,aM] at *); omega : (0 : Int) <= (((q : Int) + (((es.getD k ([],false)).1).length : Int)) + 2) /\ (((q : Int) + (((es.getD k ([],false)).1).length : Int)) + 2 : Int) <= (s.size : Int) /\ (s.size : Int) <= (s.size : Int)))))) ?_ ?_
 (try dsimp only); omega
 refine ⟨by omega,ln_rest hs2 hqe,?_⟩
 rw [heb,aIR hkl,aN1 hs2 hqe,ln_dec hs2]
 (try simp only [zq8] at hc2)
 have hkl : k = es.length := by
  rcases Nat.lt_or_ge k es.length with h | h
  exact absurd (by have h9 := hc2; rw [hs,uA] at h9; rw [hs,h9]) (ln_ne h hs)
  omega
 refine zE hG [] (.exit 0) (⟨[zN 4,zB 5 false,zY 6 9003 0],[(9003,.arr 0 53 2 eb)]⟩) aB rfl ?_
 refine iS hG bS [] [] (y44 eb) [] (by kernel_rfl) aB ?_ ?_
 rw [heb,tlQ (by omega)]
 first | rfl | (funext i; simp only [aO,upd]; ((repeat' split) <;> first | rfl | (exfalso; omega)))
end
section
open Go.Eng (inR byteAt u8 cK)
variable {g : Gv}
theorem yD (l : List Tv) (hl : l.length <= 8) (hT : ∀ v,v ∈ l -> bE v) : SX g 76 [.c (cS (S (rwT l)))] (y11 (aD l)) := by
 by_cases h : l = []
 subst h; exact row0R
 exact aEB l h hl hT
theorem mem_lk {es : RS} (hs : kSort es) {x : List UInt8 × Bool} (h : x ∈ es) : lkM x.1 es = some x.2 := by
 obtain ⟨k,hk,rfl⟩ := List.mem_iff_getElem.1 h
 have := aCG hs hk
 rwa [show es.getD k ([],false) = es[k] by rw [gd,ge hk]; rfl] at this
theorem aON {a b : RS} (h : Gr a b) (hs : kSort a) {t : List UInt8} {w : Bool} (hm : (t,w) ∈ a) : (lkM t b).isSome = true /\ (w = true -> (lkM t b).getD false = true) := by
 obtain ⟨w',h1,h2⟩ := h t w (mem_lk hs hm)
 rw [h1]
 exact ⟨rfl,h2⟩
theorem sN {n : Int} {es : RS} (h : RsOk n es) {q : Nat} (hq : q < es.length) {nm : RS} (e : nm = es.take q) : bV ltS (es.getD q ([],false)).1 (es.getD q ([],false)).2 nm = es.take (q + 1) := e ▸ (s9 h.sort hq).2
theorem o8 (n : Int) (es : RS) (hes : RsOk n es) : SpG g 20 [.c (cS (S (aJ es))),.c (cI n)] [] (y44 (aM es)) [] :=
 aFL n es hes fun x hx => by
  obtain ⟨h1,h2⟩ := nF (hes.it x hx)
  have := aJO (g := g) (aE x.1) h1 (mD _ h1.len h1.cells) (oD _ h1.output) (yD _ h1.len h1.cells) (vA _ h1.output)
  rw [h2] at this
  exact this
end
section
open Go.Eng (inR byteAt u8 cK)
variable {g : Gv}
theorem aDZ {P : Program} {R : Wp P} {fr : Fr} {n : Nat} {root : Code} {Q : Exit -> Act -> World -> Prop} {pos : List Nat} {st : V.St} (h : dI root pos = some .skip) (hk : W R fr n root Q (.exit pos .normal) st) : W R fr n root Q (.code pos) st := by
 intro c hc a w hok
 rw [h] at hc
 simp only [oIQ] at hc
 subst hc
 exact R.skip (hk a w hok)
def u3 : LD := [[.v undef],[.v undef],[.v undef]]
def gE (acts : List Ac) (k : Nat) (c : Int) (x : bK) : bK := [zM 0 4 (bJ acts),zB 2 false,zB 3 true,zX 4 300 0,zY 6 603 0,zI 7 (k : Int),zY 49 301 0,zI 50 ((u3).length : Int),zI 51 c] ++ x
abbrev y45 : Ob := .arr 0 ⟨35,[(0,.bx 302 0),(1,.bx 303 0),(2,.bx 304 0)]⟩ 1 (u3)
abbrev y46 : Ob := .box 73 [cI 1,cI 3,.mp 305]
abbrev y47 : Ob := .box 73 [cI 2,cI 3,.mp 306]
abbrev y48 : Ob := .box 73 [cI 3,cI 3,.mp 307]
def gO (f1 f2 f3 : RS) (ns : List Ms) (k1 k2 k3 : Nat) (x : aV) : aV := [(300,.box 34 [.ar 301 0,.ar 9008 0]),(301,y45),(302,y46),(303,y47),(304,y48),(305,mBQ f1),(306,mBQ f2),(307,mBQ f3),(603,.arr 0 ⟨47,[(0,.mp k1),(1,.mp k2),(2,.mp k3)]⟩ 1 (u3)),(9008,.arr 0 43 3 (cY ns))] ++ x
def eR := And.intro @lm.{0,0} (@blS)
def kX := And.intro @lc.{0} (And.intro @lm.{0,0} (And.intro @ln.{0} (@Go.Eng.inR.eq_1)))
abbrev y49 : Ob := .arr 0 ⟨47,[(0,.mp 600),(1,.mp 601),(2,.mp 602)]⟩ 1 (u3)
theorem grows_ok (acts : List Ac) (hN : ∀ k,NumOk (acts.getD k Ac.z).l 0) (hL : acts.length <= 9223372036854775807) :
  SpG g 5 [.c (cM 4 (bJ acts))] [] (.c (cB true)) [] := by
 refine aK 115 Tryz.func5 fun fr hG => ?_
 refine zC hG [(1,0,kB true),(2,0,.callG (.tup [(false,[.bx 100 0]),(false,[cB true])]) [] [(100,.box 34 [.ar 101 0,cN]),(101,.arr 0 ⟨35,[(0,.bx 102 0),(1,.bx 103 0),(2,.bx 104 0)]⟩ 1 u3),(102,.box 73 [cI 1,cI 3,.mp 105]),(103,.box 73 [cI 2,cI 3,.mp 106]),(104,.box 73 [cI 3,cI 3,.mp 107]),(105,y33),(106,y33),(107,y33)])] [1,0,1,1,1] false (⟨[zM 0 4 (bJ acts),zB 2 false,zB 3 true,zX 4 300 0],[(300,.box 34 [.ar 301 0,cN]),(301,y45),(302,y46),(303,y47),(304,y48),(305,y33),(306,y33),(307,y33)]⟩) (cS2 g aJG (cS1 g aP0)) (fun hc1 => absurd hc1 (by decide)) (fun _ => ?_)
 refine zA hG [(5,0,.mask []),(5,1,.mask []),(5,2,.mask []),(5,3,kC (.tup []))] [0,1,0,1,1,1,1,1] (⟨[zM 0 4 (bJ acts),zB 2 false,zB 3 true,zX 4 300 0,zY 6 603 0,zI 7 0],[(300,.box 34 [.ar 301 0,cN]),(301,y45),(302,y46),(303,y47),(304,y48),(305,y33),(306,y33),(307,y33),(600,y33),(601,y33),(602,y33),(603,y49)]⟩) [] [(300,1,9008,43,3)] (fun (zz : Nat × List (List UInt8) × RS × RS × RS × List Ms) => match zz with | (k,U,e1,e2,e3,ms) => (acts.length - k,⟨[zM 0 4 (bJ acts),zB 2 false,zB 3 true,zX 4 300 0,zY 6 603 0,zI 7 (k : Int)],[(300,.box 34 [.ar 301 0,.ar 9008 0]),(301,y45),(302,y46),(303,y47),(304,y48),(305,(mBQ e1)),(306,mBQ e2),(307,mBQ e3),(600,(mBQ e1)),(601,mBQ e2),(602,mBQ e3),(603,y49),(9008,.arr 0 43 3 (cY ms))]⟩,k <= acts.length /\ k <= 40 /\ WOk k U e1 e2 e3 ms)) (0,[],[],[],[],[]) aB ?_ ?_
 exact ⟨zl _,zl _,w_0⟩
 rintro ⟨k,U,e1,e2,e3,ms⟩ ⟨hka,hk3,hw⟩
 obtain ⟨U',f1,f2,f3,ns,hw2,hg1,hg2,hg3,hs⟩ := do_ok (g := g) (acts.getD k Ac.z).what (acts.getD k Ac.z).who (acts.getD k Ac.z).n (acts.getD k Ac.z).l (hN k) hw (by omega)
 refine zc hG [] [1,0] ((decide ((k : Int) < ((bJ acts).length : Int))) && (decide ((k : Int) < 40))) aB (fun hc3 => ?_) (fun hc3 => ?_)
 (try simp only [eR,bJ] at hc3)
 refine mB hG bS [(9,3,.elem (AcD (acts.getD k Ac.z))),(9,5,.callG (.tup []) [300,301,302,305,303,306,304,307,9008] [(0,.box 34 [.ar 1 0,.ar 8 0]),(1,.arr 0 ⟨35,[(0,.bx 2 0),(1,.bx 4 0),(2,.bx 6 0)]⟩ 1 u3),(2,.box 73 [cI 1,cI 3,.mp 3]),(3,mBQ f1),(4,.box 73 [cI 2,cI 3,.mp 5]),(5,mBQ f2),(6,.box 73 [cI 3,cI 3,.mp 7]),(7,mBQ f3),(8,.arr 0 43 3 (cY ns))])] [0,1,1,0,0,1] ((fun (zz : Nat) => match zz with | 0 => ⟨gE acts k 0 [],gO f1 f2 f3 ns 600 601 602 [(600,(mBQ e1)),(601,mBQ e2),(602,mBQ e3)]⟩ | 1 => ⟨gE acts k 1 [],gO f1 f2 f3 ns 600 601 602 [(600,mBQ f1),(601,mBQ e2),(602,mBQ e3)]⟩ | 2 => ⟨gE acts k 2 [],gO f1 f2 f3 ns 600 601 602 [(600,mBQ f1),(601,mBQ f2),(602,mBQ e3)]⟩ | _ => ⟨gE acts k 3 [],gO f1 f2 f3 ns 600 601 602 [(600,mBQ f1),(601,mBQ f2),(602,mBQ f3)]⟩) 0) _ (by kernel_rfl) (aA (by intros; exact bR (f := AcD) Ac.z (by omega) (by (try simp only [bJ,lm] at *); omega) : (0 : Int) <= (k : Int) /\ (bJ acts)[k]? = some (AcD (acts.getD k Ac.z))) (cS1 g hs)) ?_
 refine aHK (σ := Nat) (fun (zz : Nat) => match zz with | k => 4 - k) (fun (zz : Nat) => match zz with | 0 => ⟨gE acts k 0 [],gO f1 f2 f3 ns 600 601 602 [(600,(mBQ e1)),(601,mBQ e2),(602,mBQ e3)]⟩ | 1 => ⟨gE acts k 1 [],gO f1 f2 f3 ns 600 601 602 [(600,mBQ f1),(601,mBQ e2),(602,mBQ e3)]⟩ | 2 => ⟨gE acts k 2 [],gO f1 f2 f3 ns 600 601 602 [(600,mBQ f1),(601,mBQ f2),(602,mBQ e3)]⟩ | _ => ⟨gE acts k 3 [],gO f1 f2 f3 ns 600 601 602 [(600,mBQ f1),(601,mBQ f2),(602,mBQ f3)]⟩) (fun (zz : Nat) => match zz with | k => k <= 3) 0 (by kernel_rfl) ?_ ?_
 exact zl _
 rintro k hI
 rcases (by omega : k = 0 \/ k = 1 \/ k = 2 \/ k = 3) with rfl | rfl | rfl | rfl
 skip
 refine zc hG [] [0,1] (decide ((0 : Int) < (u3.length : Int))) aB (fun hc5 => ?_) (fun hc5 => ?_)
 (try simp only [eR,bJ] at hc5)
 refine zL hG [(13,1,.callG (.c (cS (S (aJ f1)))) [302,305] ((99999,.box 0 []) :: [(0,.box 73 [cI 1,cI 3,.mp 1]),(1,mBQ f1)])),(13,2,kC (y44 (aM f1))),(14,0,.mask [])] [0,1,0,1,1,1,0,0,1,1] (fun (zz : Nat × RS) => match zz with | (q,nm) => (f1.length - q,⟨gE acts k 0 [zI 8 0,zM 10 2 (aM f1),zB 11 true,(12,[],.c (.mp 1500)),zM 63 2 (aM f1),zI 64 ((aM f1).length : Int),zI 65 (q : Int)],gO f1 f2 f3 ns 600 601 602 [(600,(mBQ e1)),(601,mBQ e2),(602,mBQ e3),(1500,mBQ nm)]⟩,q <= f1.length /\ nm = f1.take q)) (0,[]) (aA (by intros; first | decide | skip; (try simp only [kX,bJ,aM] at *); omega : (0 : Int) <= 0 /\ 0 < (u3.length : Int)) (aA (by intros; first | decide | skip; (try simp only [kX,bJ,aM] at *); omega : (0 : Nat) = 0 /\ 0 < u3.length) (aA (And.intro (And.intro (rfl : (some y46 : Option Ob) = some y46) (And.intro (rfl : (some (mBQ f1) : Option Ob) = some (mBQ f1)) trivial)) (rfl : true = true)) (cS2 g (eE 1 3 f1 hw2.k1.rs) (cS1 g (o8 3 f1 hw2.k1.rs)))))) ?_ ?_
 exact ⟨zl _,rfl⟩
 rintro ⟨q,nm⟩ ⟨hq,hnm⟩
 have hfl := hw2.k1.rs.len
 refine zc hG [] [0,1] (decide ((q : Int) < ((aM f1).length : Int))) aB (fun hc7 => ?_) (fun hc7 => ?_)
 (try simp only [eR,bJ] at hc7)
 refine zD hG [(17,0,.elem (rG (f1.getD q ([],false))))] (q + 1,bV ltS ((f1.getD q ([],false)).1) ((f1.getD q ([],false)).2) nm) (aA (by intros; exact bR (f := rG) ([],false) (by omega) (by (try simp only [aM,lm] at *); omega) : (0 : Int) <= (q : Int) /\ (aM f1)[q]? = some (rG (f1.getD q ([],false)))) (aC (by intros; first | decide | skip; (try simp only [kX,bJ,aM] at *); omega : inR ((q : Int) + 1)))) ?_ ?_
 (try dsimp only); (try simp only [aM,lm] at *); omega
 have hqf : q < f1.length := by (try simp only [aM,lm] at *); omega
 exact ⟨by omega,sN hw2.k1.rs hqf hnm⟩
 (try simp only [eR,bJ] at hc7)
 obtain rfl : q = f1.length := by (try simp only [aM,lm] at *); omega
 rw [List.take_length] at hnm
 have hnm2 := hnm.symm
 subst hnm2
 refine zE hG [] (.exit 4) (⟨gE acts k 0 [zI 8 0,zM 10 2 (aM f1),zB 11 true,(12,[],.c (.mp 1500))],gO f1 f2 f3 ns 600 601 602 [(600,(mBQ e1)),(601,mBQ e2),(602,mBQ e3),(1500,mBQ f1)]⟩) aB rfl ?_
 refine vG (i := 600) rfl fun ents clock hM => ?_
 refine zL hG [] [0,1,0,1,1,1,1,0,0,1,1] (fun (zz : RS × Array Nat) => match zz with | (vis,seen) => (e1.length - vis.length,⟨gE acts k 0 [zI 8 0,zM 10 2 (aM f1),zB 11 true,(12,[],.c (.mp 1500)),zX 79 2104 0],gO f1 f2 f3 ns 600 601 602 [(600,.box ⟨.raw (.map ents clock),none⟩ []),(601,mBQ e2),(602,mBQ e3),(1500,mBQ f1),(2104,.box ⟨.itr clock seen clock,none⟩ [.mp 600])]⟩,RngB ents vis seen /\ vis.length <= e1.length)) ([],#[]) (aA (by intros; first | decide | skip; (try simp only [kX,bJ,aM] at *); omega : (0 : Int) <= 0 /\ 0 < (u3.length : Int)) (aC (by intros; first | decide | skip; (try simp only [kX,bJ,aM] at *); omega : (0 : Nat) = 0 /\ 0 < u3.length))) ?_ ?_
 exact ⟨RngB.nil ents,zl _⟩
 rintro ⟨vis,seen⟩ ⟨hrg,hvl⟩
 refine pV bS 1 (pos' := [0]) (by kernel_rfl) ?_
 refine vO (it := 79) (nx := 80) (more := 81) (i := 600) (j := 2104) (ents := ents) (clock := clock) (by kernel_rfl) (by kernel_rfl) (by kernel_rfl) (by kernel_rfl) rfl rfl (fun x hx => hM.lt x hx) (lr _) (fun hall => ?_) (fun ev hev hnew => ?_)
 have hful := RngB.full hM hrg hall
 skip
 refine uV (i := 600) (q := none) (cells := []) (ents := ents) (clock := clock) (es := e1) rfl hM ?_
 refine zC hG [] [0,1] false (⟨gE acts k 0 [zI 8 0,zM 10 2 (aM f1),zB 11 true,(12,[],.c (.mp 1500)),zX 79 2104 0],gO f1 f2 f3 ns 600 601 602 [(600,(mBQ e1)),(601,mBQ e2),(602,mBQ e3),(1500,mBQ f1),(2104,.box ⟨.itr clock seen clock,none⟩ [.mp 600])]⟩) aB (fun hc9 => absurd hc9 (by decide)) (fun _ => ?_)
 refine zE hG [] (.exit 6) (⟨gE acts k 0 [zI 8 0,zM 10 2 (aM f1),zB 11 true,(12,[],.c (.mp 1500))],gO f1 f2 f3 ns 600 601 602 [(600,(mBQ e1)),(601,mBQ e2),(602,mBQ e3),(1500,mBQ f1)]⟩) aB rfl ?_
 refine zC hG [] [1,0,1,1,1,1,1,0,0,1,1] (!decide (((f1.length : Int) : Int) = ((aM f1).length : Int))) (⟨gE acts k 0 [zI 8 0,(12,[],.c (.mp 1500))],gO f1 f2 f3 ns 600 601 602 [(600,(mBQ e1)),(601,mBQ e2),(602,mBQ e3),(1500,mBQ f1)]⟩) aB (fun hc10 => ?_) (fun hc10 => ?_)
 (try simp only [eR,bJ] at hc10)
 exfalso; simp [aM] at hc10
 (try simp only [eR,bJ] at hc10)
 refine aDZ (by kernel_rfl) ?_
 refine lG (f := 100) (pos := [1,1,1,1,1,1,0,0,1,1]) (by kernel_rfl) ?_
 refine aDY hG bS [] nFQ nFQ nFQ 100 .normal (⟨gE acts k 0 [],gO f1 f2 f3 ns 1500 601 602 [(601,mBQ e2),(602,mBQ e3),(1500,mBQ f1)]⟩) (cs := []) (by kernel_rfl) trivial ?_
 refine aD1 hG 1500 600 (⟨gE acts k 0 [],gO f1 f2 f3 ns 600 601 602 [(601,mBQ e2),(602,mBQ e3),(600,mBQ f1)]⟩) (by kernel_rfl) ?_
 refine g9 hG (⟨gE acts k 0 [],gO f1 f2 f3 ns 600 601 602 [(600,mBQ f1),(601,mBQ e2),(602,mBQ e3)]⟩) (by kernel_rfl) ?_
 refine zD hG [] 1 (aC (by unfold inR; decide : inR (0 + 1))) ?_ ?_
 (try dsimp only); decide
 (try dsimp only); decide
 obtain ⟨ek,eb,hek,hev2,hin,hrg2,hln2,hent⟩ := RngB.step hM hrg hev hnew
 refine zC hG [] [0,1] true (⟨gE acts k 0 [zI 8 0,zM 10 2 (aM f1),zB 11 true,(12,[],.c (.mp 1500)),zX 79 2104 0],gO f1 f2 f3 ns 600 601 602 [(600,.box ⟨.raw (.map ents clock),none⟩ []),(601,mBQ e2),(602,mBQ e3),(1500,mBQ f1),(2104,.box ⟨.itr clock (seen.push ev.born) clock,none⟩ [.mp 600])]⟩) aB (fun _ => ?_) (fun hc11 => absurd hc11 (by decide))
 refine zc hG [(22,0,.elem [.v (.string (S ek)),.v (.bool eb)])] [1,1,1,0,1,1] ((!((lkM ek f1).isSome)) || (eb && (!((lkM ek f1).getD false)))) (aC hent) (fun hc12 => ?_) (fun hc12 => ?_)
 (try simp only [eR,bJ] at hc12)
 obtain ⟨h8,h9⟩ := aON hg1 hw.k1.rs.sort hin
 rcases hc12 with h7 | ⟨h6,h7⟩
 rw [h8] at h7; cases h7
 rw [h9 h6] at h7; cases h7
 (try simp only [eR,bJ] at hc12)
 refine zD hG [] (vis ++ [(ek,eb)],seen.push ev.born) aB ?_ ?_
 (try dsimp only); rw [la,lc,ln] at *; omega
 exact ⟨hrg2,hln2⟩
 (try simp only [eR,bJ] at hc5)
 exfalso; simp [u3] at hc5
 skip
 refine zc hG [] [0,1] (decide ((1 : Int) < (u3.length : Int))) aB (fun hc13 => ?_) (fun hc13 => ?_)
 (try simp only [eR,bJ] at hc13)
 refine zL hG [(13,1,.callG (.c (cS (S (aJ f2)))) [303,306] ((99999,.box 0 []) :: [(0,.box 73 [cI 2,cI 3,.mp 1]),(1,mBQ f2)])),(13,2,kC (y44 (aM f2))),(14,0,.mask [])] [0,1,0,1,1,1,0,0,1,1] (fun (zz : Nat × RS) => match zz with | (q,nm) => (f2.length - q,⟨gE acts k 1 [zI 8 1,zM 10 2 (aM f2),zB 11 true,(12,[],.c (.mp 1500)),zM 63 2 (aM f2),zI 64 ((aM f2).length : Int),zI 65 (q : Int)],gO f1 f2 f3 ns 600 601 602 [(600,mBQ f1),(601,mBQ e2),(602,mBQ e3),(1500,mBQ nm)]⟩,q <= f2.length /\ nm = f2.take q)) (0,[]) (aA (by intros; first | decide | skip; (try simp only [kX,bJ,aM] at *); omega : (0 : Int) <= 1 /\ 1 < (u3.length : Int)) (aA (by intros; first | decide | skip; (try simp only [kX,bJ,aM] at *); omega : (0 : Nat) = 0 /\ 1 < u3.length) (aA (And.intro (And.intro (rfl : (some y47 : Option Ob) = some y47) (And.intro (rfl : (some (mBQ f2) : Option Ob) = some (mBQ f2)) trivial)) (rfl : true = true)) (cS2 g (eE 2 3 f2 hw2.k2.rs) (cS1 g (o8 3 f2 hw2.k2.rs)))))) ?_ ?_
 exact ⟨zl _,rfl⟩
 rintro ⟨q,nm⟩ ⟨hq,hnm⟩
 have hfl := hw2.k2.rs.len
 refine zc hG [] [0,1] (decide ((q : Int) < ((aM f2).length : Int))) aB (fun hc15 => ?_) (fun hc15 => ?_)
 (try simp only [eR,bJ] at hc15)
 refine zD hG [(17,0,.elem (rG (f2.getD q ([],false))))] (q + 1,bV ltS ((f2.getD q ([],false)).1) ((f2.getD q ([],false)).2) nm) (aA (by intros; exact bR (f := rG) ([],false) (by omega) (by (try simp only [aM,lm] at *); omega) : (0 : Int) <= (q : Int) /\ (aM f2)[q]? = some (rG (f2.getD q ([],false)))) (aC (by intros; first | decide | skip; (try simp only [kX,bJ,aM] at *); omega : inR ((q : Int) + 1)))) ?_ ?_
 (try dsimp only); (try simp only [aM,lm] at *); omega
 have hqf : q < f2.length := by (try simp only [aM,lm] at *); omega
 exact ⟨by omega,sN hw2.k2.rs hqf hnm⟩
 (try simp only [eR,bJ] at hc15)
 obtain rfl : q = f2.length := by (try simp only [aM,lm] at *); omega
 rw [List.take_length] at hnm
 have hnm2 := hnm.symm
 subst hnm2
 refine zE hG [] (.exit 4) (⟨gE acts k 1 [zI 8 1,zM 10 2 (aM f2),zB 11 true,(12,[],.c (.mp 1500))],gO f1 f2 f3 ns 600 601 602 [(600,mBQ f1),(601,mBQ e2),(602,mBQ e3),(1500,mBQ f2)]⟩) aB rfl ?_
 refine vG (i := 601) rfl fun ents clock hM => ?_
 refine zL hG [] [0,1,0,1,1,1,1,0,0,1,1] (fun (zz : RS × Array Nat) => match zz with | (vis,seen) => (e2.length - vis.length,⟨gE acts k 1 [zI 8 1,zM 10 2 (aM f2),zB 11 true,(12,[],.c (.mp 1500)),zX 79 2104 0],gO f1 f2 f3 ns 600 601 602 [(600,mBQ f1),(601,.box ⟨.raw (.map ents clock),none⟩ []),(602,mBQ e3),(1500,mBQ f2),(2104,.box ⟨.itr clock seen clock,none⟩ [.mp 601])]⟩,RngB ents vis seen /\ vis.length <= e2.length)) ([],#[]) (aA (by intros; first | decide | skip; (try simp only [kX,bJ,aM] at *); omega : (0 : Int) <= 1 /\ 1 < (u3.length : Int)) (aC (by intros; first | decide | skip; (try simp only [kX,bJ,aM] at *); omega : (0 : Nat) = 0 /\ 1 < u3.length))) ?_ ?_
 exact ⟨RngB.nil ents,zl _⟩
 rintro ⟨vis,seen⟩ ⟨hrg,hvl⟩
 refine pV bS 1 (pos' := [0]) (by kernel_rfl) ?_
 refine vO (it := 79) (nx := 80) (more := 81) (i := 601) (j := 2104) (ents := ents) (clock := clock) (by kernel_rfl) (by kernel_rfl) (by kernel_rfl) (by kernel_rfl) rfl rfl (fun x hx => hM.lt x hx) (lr _) (fun hall => ?_) (fun ev hev hnew => ?_)
 have hful := RngB.full hM hrg hall
 skip
 refine uV (i := 601) (q := none) (cells := []) (ents := ents) (clock := clock) (es := e2) rfl hM ?_
 refine zC hG [] [0,1] false (⟨gE acts k 1 [zI 8 1,zM 10 2 (aM f2),zB 11 true,(12,[],.c (.mp 1500)),zX 79 2104 0],gO f1 f2 f3 ns 600 601 602 [(600,mBQ f1),(601,mBQ e2),(602,mBQ e3),(1500,mBQ f2),(2104,.box ⟨.itr clock seen clock,none⟩ [.mp 601])]⟩) aB (fun hc17 => absurd hc17 (by decide)) (fun _ => ?_)
 refine zE hG [] (.exit 6) (⟨gE acts k 1 [zI 8 1,zM 10 2 (aM f2),zB 11 true,(12,[],.c (.mp 1500))],gO f1 f2 f3 ns 600 601 602 [(600,mBQ f1),(601,mBQ e2),(602,mBQ e3),(1500,mBQ f2)]⟩) aB rfl ?_
 refine zC hG [] [1,0,1,1,1,1,1,0,0,1,1] (!decide (((f2.length : Int) : Int) = ((aM f2).length : Int))) (⟨gE acts k 1 [zI 8 1,(12,[],.c (.mp 1500))],gO f1 f2 f3 ns 600 601 602 [(600,mBQ f1),(601,mBQ e2),(602,mBQ e3),(1500,mBQ f2)]⟩) aB (fun hc18 => ?_) (fun hc18 => ?_)
 (try simp only [eR,bJ] at hc18)
 exfalso; simp [aM] at hc18
 (try simp only [eR,bJ] at hc18)
 refine aDZ (by kernel_rfl) ?_
 refine lG (f := 100) (pos := [1,1,1,1,1,1,0,0,1,1]) (by kernel_rfl) ?_
 refine aDY hG bS [] nFQ nFQ nFQ 100 .normal (⟨gE acts k 1 [],gO f1 f2 f3 ns 600 1500 602 [(600,mBQ f1),(602,mBQ e3),(1500,mBQ f2)]⟩) (cs := []) (by kernel_rfl) trivial ?_
 refine aD1 hG 1500 601 (⟨gE acts k 1 [],gO f1 f2 f3 ns 600 601 602 [(600,mBQ f1),(602,mBQ e3),(601,mBQ f2)]⟩) (by kernel_rfl) ?_
 refine g9 hG (⟨gE acts k 1 [],gO f1 f2 f3 ns 600 601 602 [(600,mBQ f1),(601,mBQ f2),(602,mBQ e3)]⟩) (by kernel_rfl) ?_
 refine zD hG [] 2 (aC (by unfold inR; decide : inR (1 + 1))) ?_ ?_
 (try dsimp only); decide
 (try dsimp only); decide
 obtain ⟨ek,eb,hek,hev2,hin,hrg2,hln2,hent⟩ := RngB.step hM hrg hev hnew
 refine zC hG [] [0,1] true (⟨gE acts k 1 [zI 8 1,zM 10 2 (aM f2),zB 11 true,(12,[],.c (.mp 1500)),zX 79 2104 0],gO f1 f2 f3 ns 600 601 602 [(600,mBQ f1),(601,.box ⟨.raw (.map ents clock),none⟩ []),(602,mBQ e3),(1500,mBQ f2),(2104,.box ⟨.itr clock (seen.push ev.born) clock,none⟩ [.mp 601])]⟩) aB (fun _ => ?_) (fun hc19 => absurd hc19 (by decide))
 refine zc hG [(22,0,.elem [.v (.string (S ek)),.v (.bool eb)])] [1,1,1,0,1,1] ((!((lkM ek f2).isSome)) || (eb && (!((lkM ek f2).getD false)))) (aC hent) (fun hc20 => ?_) (fun hc20 => ?_)
 (try simp only [eR,bJ] at hc20)
 obtain ⟨h8,h9⟩ := aON hg2 hw.k2.rs.sort hin
 rcases hc20 with h7 | ⟨h6,h7⟩
 rw [h8] at h7; cases h7
 rw [h9 h6] at h7; cases h7
 (try simp only [eR,bJ] at hc20)
 refine zD hG [] (vis ++ [(ek,eb)],seen.push ev.born) aB ?_ ?_
 (try dsimp only); rw [la,lc,ln] at *; omega
 exact ⟨hrg2,hln2⟩
 (try simp only [eR,bJ] at hc13)
 exfalso; simp [u3] at hc13
 skip
 refine zc hG [] [0,1] (decide ((2 : Int) < (u3.length : Int))) aB (fun hc21 => ?_) (fun hc21 => ?_)
 (try simp only [eR,bJ] at hc21)
 refine zL hG [(13,1,.callG (.c (cS (S (aJ f3)))) [304,307] ((99999,.box 0 []) :: [(0,.box 73 [cI 3,cI 3,.mp 1]),(1,mBQ f3)])),(13,2,kC (y44 (aM f3))),(14,0,.mask [])] [0,1,0,1,1,1,0,0,1,1] (fun (zz : Nat × RS) => match zz with | (q,nm) => (f3.length - q,⟨gE acts k 2 [zI 8 2,zM 10 2 (aM f3),zB 11 true,(12,[],.c (.mp 1500)),zM 63 2 (aM f3),zI 64 ((aM f3).length : Int),zI 65 (q : Int)],gO f1 f2 f3 ns 600 601 602 [(600,mBQ f1),(601,mBQ f2),(602,mBQ e3),(1500,mBQ nm)]⟩,q <= f3.length /\ nm = f3.take q)) (0,[]) (aA (by intros; first | decide | skip; (try simp only [kX,bJ,aM] at *); omega : (0 : Int) <= 2 /\ 2 < (u3.length : Int)) (aA (by intros; first | decide | skip; (try simp only [kX,bJ,aM] at *); omega : (0 : Nat) = 0 /\ 2 < u3.length) (aA (And.intro (And.intro (rfl : (some y48 : Option Ob) = some y48) (And.intro (rfl : (some (mBQ f3) : Option Ob) = some (mBQ f3)) trivial)) (rfl : true = true)) (cS2 g (eE 3 3 f3 hw2.k3.rs) (cS1 g (o8 3 f3 hw2.k3.rs)))))) ?_ ?_
 exact ⟨zl _,rfl⟩
 rintro ⟨q,nm⟩ ⟨hq,hnm⟩
 have hfl := hw2.k3.rs.len
 refine zc hG [] [0,1] (decide ((q : Int) < ((aM f3).length : Int))) aB (fun hc23 => ?_) (fun hc23 => ?_)
 (try simp only [eR,bJ] at hc23)
 refine zD hG [(17,0,.elem (rG (f3.getD q ([],false))))] (q + 1,bV ltS ((f3.getD q ([],false)).1) ((f3.getD q ([],false)).2) nm) (aA (by intros; exact bR (f := rG) ([],false) (by omega) (by (try simp only [aM,lm] at *); omega) : (0 : Int) <= (q : Int) /\ (aM f3)[q]? = some (rG (f3.getD q ([],false)))) (aC (by intros; first | decide | skip; (try simp only [kX,bJ,aM] at *); omega : inR ((q : Int) + 1)))) ?_ ?_
 (try dsimp only); (try simp only [aM,lm] at *); omega
 have hqf : q < f3.length := by (try simp only [aM,lm] at *); omega
 exact ⟨by omega,sN hw2.k3.rs hqf hnm⟩
 (try simp only [eR,bJ] at hc23)
 obtain rfl : q = f3.length := by (try simp only [aM,lm] at *); omega
 rw [List.take_length] at hnm
 have hnm2 := hnm.symm
 subst hnm2
 refine zE hG [] (.exit 4) (⟨gE acts k 2 [zI 8 2,zM 10 2 (aM f3),zB 11 true,(12,[],.c (.mp 1500))],gO f1 f2 f3 ns 600 601 602 [(600,mBQ f1),(601,mBQ f2),(602,mBQ e3),(1500,mBQ f3)]⟩) aB rfl ?_
 refine vG (i := 602) rfl fun ents clock hM => ?_
 refine zL hG [] [0,1,0,1,1,1,1,0,0,1,1] (fun (zz : RS × Array Nat) => match zz with | (vis,seen) => (e3.length - vis.length,⟨gE acts k 2 [zI 8 2,zM 10 2 (aM f3),zB 11 true,(12,[],.c (.mp 1500)),zX 79 2104 0],gO f1 f2 f3 ns 600 601 602 [(600,mBQ f1),(601,mBQ f2),(602,.box ⟨.raw (.map ents clock),none⟩ []),(1500,mBQ f3),(2104,.box ⟨.itr clock seen clock,none⟩ [.mp 602])]⟩,RngB ents vis seen /\ vis.length <= e3.length)) ([],#[]) (aA (by intros; first | decide | skip; (try simp only [kX,bJ,aM] at *); omega : (0 : Int) <= 2 /\ 2 < (u3.length : Int)) (aC (by intros; first | decide | skip; (try simp only [kX,bJ,aM] at *); omega : (0 : Nat) = 0 /\ 2 < u3.length))) ?_ ?_
 exact ⟨RngB.nil ents,zl _⟩
 rintro ⟨vis,seen⟩ ⟨hrg,hvl⟩
 refine pV bS 1 (pos' := [0]) (by kernel_rfl) ?_
 refine vO (it := 79) (nx := 80) (more := 81) (i := 602) (j := 2104) (ents := ents) (clock := clock) (by kernel_rfl) (by kernel_rfl) (by kernel_rfl) (by kernel_rfl) rfl rfl (fun x hx => hM.lt x hx) (lr _) (fun hall => ?_) (fun ev hev hnew => ?_)
 have hful := RngB.full hM hrg hall
 skip
 refine uV (i := 602) (q := none) (cells := []) (ents := ents) (clock := clock) (es := e3) rfl hM ?_
 refine zC hG [] [0,1] false (⟨gE acts k 2 [zI 8 2,zM 10 2 (aM f3),zB 11 true,(12,[],.c (.mp 1500)),zX 79 2104 0],gO f1 f2 f3 ns 600 601 602 [(600,mBQ f1),(601,mBQ f2),(602,mBQ e3),(1500,mBQ f3),(2104,.box ⟨.itr clock seen clock,none⟩ [.mp 602])]⟩) aB (fun hc25 => absurd hc25 (by decide)) (fun _ => ?_)
 refine zE hG [] (.exit 6) (⟨gE acts k 2 [zI 8 2,zM 10 2 (aM f3),zB 11 true,(12,[],.c (.mp 1500))],gO f1 f2 f3 ns 600 601 602 [(600,mBQ f1),(601,mBQ f2),(602,mBQ e3),(1500,mBQ f3)]⟩) aB rfl ?_
 refine zC hG [] [1,0,1,1,1,1,1,0,0,1,1] (!decide (((f3.length : Int) : Int) = ((aM f3).length : Int))) (⟨gE acts k 2 [zI 8 2,(12,[],.c (.mp 1500))],gO f1 f2 f3 ns 600 601 602 [(600,mBQ f1),(601,mBQ f2),(602,mBQ e3),(1500,mBQ f3)]⟩) aB (fun hc26 => ?_) (fun hc26 => ?_)
 (try simp only [eR,bJ] at hc26)
 exfalso; simp [aM] at hc26
 (try simp only [eR,bJ] at hc26)
 refine aDZ (by kernel_rfl) ?_
 refine lG (f := 100) (pos := [1,1,1,1,1,1,0,0,1,1]) (by kernel_rfl) ?_
 refine aDY hG bS [] nFQ nFQ nFQ 100 .normal (⟨gE acts k 2 [],gO f1 f2 f3 ns 600 601 1500 [(600,mBQ f1),(601,mBQ f2),(1500,mBQ f3)]⟩) (cs := []) (by kernel_rfl) trivial ?_
 refine aD1 hG 1500 602 (⟨gE acts k 2 [],gO f1 f2 f3 ns 600 601 602 [(600,mBQ f1),(601,mBQ f2),(602,mBQ f3)]⟩) (by kernel_rfl) ?_
 refine g9 hG (⟨gE acts k 2 [],gO f1 f2 f3 ns 600 601 602 [(600,mBQ f1),(601,mBQ f2),(602,mBQ f3)]⟩) (by kernel_rfl) ?_
 refine zD hG [] 3 (aC (by unfold inR; decide : inR (2 + 1))) ?_ ?_
 (try dsimp only); decide
 (try dsimp only); decide
 obtain ⟨ek,eb,hek,hev2,hin,hrg2,hln2,hent⟩ := RngB.step hM hrg hev hnew
 refine zC hG [] [0,1] true (⟨gE acts k 2 [zI 8 2,zM 10 2 (aM f3),zB 11 true,(12,[],.c (.mp 1500)),zX 79 2104 0],gO f1 f2 f3 ns 600 601 602 [(600,mBQ f1),(601,mBQ f2),(602,.box ⟨.raw (.map ents clock),none⟩ []),(1500,mBQ f3),(2104,.box ⟨.itr clock (seen.push ev.born) clock,none⟩ [.mp 602])]⟩) aB (fun _ => ?_) (fun hc27 => absurd hc27 (by decide))
 refine zc hG [(22,0,.elem [.v (.string (S ek)),.v (.bool eb)])] [1,1,1,0,1,1] ((!((lkM ek f3).isSome)) || (eb && (!((lkM ek f3).getD false)))) (aC hent) (fun hc28 => ?_) (fun hc28 => ?_)
 (try simp only [eR,bJ] at hc28)
 obtain ⟨h8,h9⟩ := aON hg3 hw.k3.rs.sort hin
 rcases hc28 with h7 | ⟨h6,h7⟩
 rw [h8] at h7; cases h7
 rw [h9 h6] at h7; cases h7
 (try simp only [eR,bJ] at hc28)
 refine zD hG [] (vis ++ [(ek,eb)],seen.push ev.born) aB ?_ ?_
 (try dsimp only); rw [la,lc,ln] at *; omega
 exact ⟨hrg2,hln2⟩
 (try simp only [eR,bJ] at hc21)
 exfalso; simp [u3] at hc21
 skip
 refine zc hG [] [0,1] (decide ((3 : Int) < (u3.length : Int))) aB (fun hc29 => ?_) (fun hc29 => ?_)
 (try simp only [eR,bJ] at hc29)
 exfalso; simp [u3] at hc29
 (try simp only [eR,bJ] at hc29)
 refine zE hG [] (.exit 2) (⟨[zM 0 4 (bJ acts),zB 2 false,zB 3 true,zX 4 300 0,zY 6 603 0,zI 7 (k : Int)],[(300,.box 34 [.ar 301 0,.ar 9008 0]),(301,y45),(302,y46),(303,y47),(304,y48),(305,mBQ f1),(306,mBQ f2),(307,mBQ f3),(600,mBQ f1),(601,mBQ f2),(602,mBQ f3),(603,y49),(9008,.arr 0 43 3 (cY ns))]⟩) aB rfl ?_
 refine zD hG [] (k + 1,U',f1,f2,f3,ns) (aC (by intros; first | decide | skip; (try simp only [kX,bJ,aM] at *); omega : inR ((k : Int) + 1))) ?_ ?_
 (try dsimp only); omega
 exact ⟨by omega,by omega,hw2⟩
 (try simp only [eR,bJ] at hc3)
 refine zE hG [] (.exit 0) (⟨[zB 2 false,zB 3 true],[]⟩) aB rfl ?_
 refine iS hG bS [] [] (.c (cB true)) [] (by kernel_rfl) aB ?_ ?_
 rfl
 first | rfl | (funext i; simp only [aO,upd]; ((repeat' split) <;> first | rfl | (exfalso; omega)))
end
end Go.Proofs.YtclaplngjmgnoaaGreatDoor
