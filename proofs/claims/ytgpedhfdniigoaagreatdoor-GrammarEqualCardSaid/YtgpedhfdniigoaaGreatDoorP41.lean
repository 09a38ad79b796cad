/- Part 41 of the proof. -/
import Derived.Test.YtgpedhfdniigoaaGreatDoorP38
import Derived.Test.YtgpedhfdniigoaaGreatDoorP39
import Derived.Test.YtgpedhfdniigoaaGreatDoorP40
set_option linter.all false
namespace Go.Proofs.YtgpedhfdniigoaaGreatDoor
set_option maxRecDepth 100000
open Go.RowKit Go.V
open Go.Eng (inR byteAt u8 dD)
variable {g : Gv}
def aAF : List (List (Option Nat)) -> List (Bool × List C) -> List (Bool × List C)
 | m :: ms,p :: ps => (p.1,jY m p.2) :: aAF ms ps
 | _,ps => ps
theorem aDH {m : List (Option Nat)} {c : C} : jY m [c] = [c] \/ ∃ q,jY m [c] = [aDI q c] := by
 cases m with
 | nil => exact .inl rfl
 | cons q m =>
  right
  refine ⟨q,?_⟩
  cases m <;> rfl
theorem sO {own : V.Own} {w : World} {pl : Pl} : ∀ {ms : List (List (Option Nat))} {ps : List (Bool × List C)} {vs : List Value},All2 (cZ w pl own) ps vs -> All2 (cZ w pl own) (aAF ms ps) vs
 | [],ps,vs,h => by cases ps <;> exact h
 | m :: ms,[],vs,h => h
 | m :: ms,p :: ps,vs,h => by
  obtain ⟨y,r,rfl,h1,h2⟩ := h.uncons
  refine All2.cons ?_ (sO h2)
  obtain ⟨b,cs⟩ := p
  cases b with
  | true =>
   obtain ⟨us,rfl,h3⟩ := h1
   exact ⟨us,rfl,iF h3⟩
  | false =>
   cases cs with
   | nil => exact h1.elim
   | cons c cs =>
    cases cs with
    | cons _ _ => exact h1.elim
    | nil =>
     rcases aDH (m := m) (c := c) with e | ⟨q,e⟩
     show cZ w pl own (false,jY m [c]) y
     rw [e]; exact h1
     show cZ w pl own (false,jY m [c]) y
     rw [e]; exact sP h1
theorem aS {f : FuncId} {ins : List SV} {refs : bR} {ps : List (Bool × List C)} {post : bR} (ms : List (List (Option Nat))) (h : SpG g f ins refs (.tup ps) post) : SpG g f ins refs (.tup (aAF ms ps)) post := by
 intro fr w pl args hw hG m ha
 refine (h fr w pl args hw hG m ha).mono ?_
 rintro e w' ⟨v,pl',rfl,m',hv⟩
 obtain ⟨vs,rfl,h2⟩ := hv
 exact ⟨_,pl',rfl,m',vs,rfl,sO h2⟩
def sm0 : Gr := ⟨[116,101,120,116,115],1,[⟨[97],1⟩,⟨[98],1⟩],[⟨[84],1,4⟩,⟨[85],1,2⟩],[⟨0,[99,111,108],[97],[]⟩,⟨0,[99,111,108],[98],[]⟩,⟨0,[99,111,110,99,97,116],[],[1,0]⟩,⟨0,[117,112,112,101,114],[],[1]⟩,⟨1,[99,111,108],[97],[]⟩,⟨1,[116,101,120,116],[45],[]⟩,⟨1,[101,120,116,114,97,99,116],[92,100,43,35,49],[1]⟩],0⟩
def tx0 : List UInt8 := [103,114,97,109,109,97,114,32,116,101,120,116,115,32,49,10,99,111,108,117,109,110,32,97,32,116,101,120,116,10,99,111,108,117,109,110,32,98,32,116,101,120,116,10,115,121,109,98,111,108,32,84,32,116,101,120,116,32,52,10,115,121,109,98,111,108,32,85,32,116,101,120,116,32,50,10,114,117,108,101,32,84,32,99,111,108,32,39,97,39,10,114,117,108,101,32,84,32,99,111,108,32,39,98,39,10,114,117,108,101,32,84,32,99,111,110,99,97,116,32,39,39,32,85,32,84,10,114,117,108,101,32,84,32,117,112,112,101,114,32,39,39,32,85,10,114,117,108,101,32,85,32,99,111,108,32,39,97,39,10,114,117,108,101,32,85,32,116,101,120,116,32,39,45,39,10,114,117,108,101,32,85,32,101,120,116,114,97,99,116,32,39,92,100,43,35,49,39,32,85,10,115,116,97,114,116,32,84,10]
def sm1 : Gr := ⟨[110,117,109,98,101,114,115],1,[⟨[110],2⟩,⟨[109],2⟩],[⟨[78],2,4⟩,⟨[77],2,2⟩],[⟨0,[99,111,108],[110],[]⟩,⟨0,[99,111,108],[109],[]⟩,⟨0,[97,100,100],[],[1,0]⟩,⟨0,[109,117,108],[],[0,1]⟩,⟨1,[110,117,109,98,101,114],[50],[]⟩,⟨1,[99,111,108],[109],[]⟩,⟨1,[114,111,117,110,100],[49],[1]⟩],0⟩
def tx1 : List UInt8 := [103,114,97,109,109,97,114,32,110,117,109,98,101,114,115,32,49,10,99,111,108,117,109,110,32,110,32,110,117,109,98,101,114,10,99,111,108,117,109,110,32,109,32,110,117,109,98,101,114,10,115,121,109,98,111,108,32,78,32,110,117,109,98,101,114,32,52,10,115,121,109,98,111,108,32,77,32,110,117,109,98,101,114,32,50,10,114,117,108,101,32,78,32,99,111,108,32,39,110,39,10,114,117,108,101,32,78,32,99,111,108,32,39,109,39,10,114,117,108,101,32,78,32,97,100,100,32,39,39,32,77,32,78,10,114,117,108,101,32,78,32,109,117,108,32,39,39,32,78,32,77,10,114,117,108,101,32,77,32,110,117,109,98,101,114,32,39,50,39,10,114,117,108,101,32,77,32,99,111,108,32,39,109,39,10,114,117,108,101,32,77,32,114,111,117,110,100,32,39,49,39,32,77,10,115,116,97,114,116,32,78,10]
def sm2 : Gr := ⟨[100,97,116,101,115],1,[⟨[100],3⟩,⟨[101],3⟩,⟨[110],2⟩],[⟨[68],3,4⟩,⟨[78],2,3⟩,⟨[69],3,1⟩],[⟨0,[99,111,108],[100],[]⟩,⟨0,[100,97,121,115],[],[0,1]⟩,⟨1,[99,111,108],[110],[]⟩,⟨1,[110,117,109,98,101,114],[55],[]⟩,⟨1,[98,101,116,119,101,101,110],[],[2,2]⟩,⟨2,[99,111,108],[100],[]⟩,⟨2,[99,111,108],[101],[]⟩],0⟩
def tx2 : List UInt8 := [103,114,97,109,109,97,114,32,100,97,116,101,115,32,49,10,99,111,108,117,109,110,32,100,32,100,97,116,101,10,99,111,108,117,109,110,32,101,32,100,97,116,101,10,99,111,108,117,109,110,32,110,32,110,117,109,98,101,114,10,115,121,109,98,111,108,32,68,32,100,97,116,101,32,52,10,115,121,109,98,111,108,32,78,32,110,117,109,98,101,114,32,51,10,115,121,109,98,111,108,32,69,32,100,97,116,101,32,49,10,114,117,108,101,32,68,32,99,111,108,32,39,100,39,10,114,117,108,101,32,68,32,100,97,121,115,32,39,39,32,68,32,78,10,114,117,108,101,32,78,32,99,111,108,32,39,110,39,10,114,117,108,101,32,78,32,110,117,109,98,101,114,32,39,55,39,10,114,117,108,101,32,78,32,98,101,116,119,101,101,110,32,39,39,32,69,32,69,10,114,117,108,101,32,69,32,99,111,108,32,39,100,39,10,114,117,108,101,32,69,32,99,111,108,32,39,101,39,10,115,116,97,114,116,32,68,10]
def sm3 : Gr := ⟨[108,111,111,107,117,112,115],1,[⟨[99,111,100,101],1⟩,⟨[110],2⟩],[⟨[78],2,4⟩,⟨[84],1,2⟩],[⟨0,[108,111,111,107,117,112],[112,114,105,99,101,115,46,99,111,100,101,46,112,114,105,99,101,58,110,117,109,98,101,114],[1]⟩,⟨0,[99,111,108],[110],[]⟩,⟨0,[109,117,108],[],[0,0]⟩,⟨1,[99,111,108],[99,111,100,101],[]⟩,⟨1,[117,112,112,101,114],[],[1]⟩,⟨1,[116,101,120,116],[65],[]⟩],0⟩
def tx3 : List UInt8 := [103,114,97,109,109,97,114,32,108,111,111,107,117,112,115,32,49,10,99,111,108,117,109,110,32,99,111,100,101,32,116,101,120,116,10,99,111,108,117,109,110,32,110,32,110,117,109,98,101,114,10,115,121,109,98,111,108,32,78,32,110,117,109,98,101,114,32,52,10,115,121,109,98,111,108,32,84,32,116,101,120,116,32,50,10,114,117,108,101,32,78,32,108,111,111,107,117,112,32,39,112,114,105,99,101,115,46,99,111,100,101,46,112,114,105,99,101,58,110,117,109,98,101,114,39,32,84,10,114,117,108,101,32,78,32,99,111,108,32,39,110,39,10,114,117,108,101,32,78,32,109,117,108,32,39,39,32,78,32,78,10,114,117,108,101,32,84,32,99,111,108,32,39,99,111,100,101,39,10,114,117,108,101,32,84,32,117,112,112,101,114,32,39,39,32,84,10,114,117,108,101,32,84,32,116,101,120,116,32,39,65,39,10,115,116,97,114,116,32,78,10]
def sm4 : Gr := ⟨[99,104,111,105,99,101,115],1,[⟨[115],1⟩,⟨[110],2⟩],[⟨[84],1,5⟩,⟨[66],4,3⟩,⟨[78],2,1⟩,⟨[67],1,1⟩],[⟨0,[99,111,108],[115],[]⟩,⟨0,[116,101,120,116],[108,111,119],[]⟩,⟨0,[105,102],[116,101,120,116],[1,3,0]⟩,⟨1,[108,101,115,115],[],[2,2]⟩,⟨1,[109,97,116,99,104],[92,117,43],[3]⟩,⟨2,[99,111,108],[110],[]⟩,⟨2,[110,117,109,98,101,114],[49,48],[]⟩,⟨3,[99,111,108],[115],[]⟩,⟨3,[116,101,120,116],[104,105,103,104],[]⟩],0⟩
def tx4 : List UInt8 := [103,114,97,109,109,97,114,32,99,104,111,105,99,101,115,32,49,10,99,111,108,117,109,110,32,115,32,116,101,120,116,10,99,111,108,117,109,110,32,110,32,110,117,109,98,101,114,10,115,121,109,98,111,108,32,84,32,116,101,120,116,32,53,10,115,121,109,98,111,108,32,66,32,98,111,111,108,32,51,10,115,121,109,98,111,108,32,78,32,110,117,109,98,101,114,32,49,10,115,121,109,98,111,108,32,67,32,116,101,120,116,32,49,10,114,117,108,101,32,84,32,99,111,108,32,39,115,39,10,114,117,108,101,32,84,32,116,101,120,116,32,39,108,111,119,39,10,114,117,108,101,32,84,32,105,102,32,39,116,101,120,116,39,32,66,32,67,32,84,10,114,117,108,101,32,66,32,108,101,115,115,32,39,39,32,78,32,78,10,114,117,108,101,32,66,32,109,97,116,99,104,32,39,92,117,43,39,32,67,10,114,117,108,101,32,78,32,99,111,108,32,39,110,39,10,114,117,108,101,32,78,32,110,117,109,98,101,114,32,39,49,48,39,10,114,117,108,101,32,67,32,99,111,108,32,39,115,39,10,114,117,108,101,32,67,32,116,101,120,116,32,39,104,105,103,104,39,10,115,116,97,114,116,32,84,10]
def sm5 : Gr := ⟨[116,97,98,108,101,115],1,[⟨[105,116,101,109,115],5⟩,⟨[107],1⟩],[⟨[78],2,4⟩,⟨[88],5,3⟩,⟨[84],1,1⟩],[⟨0,[115,117,109],[97,109,111,117,110,116,62,61,48],[1]⟩,⟨0,[99,111,117,110,116],[],[1]⟩,⟨0,[97,100,100],[],[0,0]⟩,⟨1,[99,111,108],[105,116,101,109,115],[]⟩,⟨1,[119,104,101,114,101],[107,105,110,100],[1,2]⟩,⟨2,[99,111,108],[107],[]⟩,⟨2,[116,101,120,116],[97],[]⟩],0⟩
def tx5 : List UInt8 := [103,114,97,109,109,97,114,32,116,97,98,108,101,115,32,49,10,99,111,108,117,109,110,32,105,116,101,109,115,32,116,97,98,108,101,10,99,111,108,117,109,110,32,107,32,116,101,120,116,10,115,121,109,98,111,108,32,78,32,110,117,109,98,101,114,32,52,10,115,121,109,98,111,108,32,88,32,116,97,98,108,101,32,51,10,115,121,109,98,111,108,32,84,32,116,101,120,116,32,49,10,114,117,108,101,32,78,32,115,117,109,32,39,97,109,111,117,110,116,62,61,48,39,32,88,10,114,117,108,101,32,78,32,99,111,117,110,116,32,39,39,32,88,10,114,117,108,101,32,78,32,97,100,100,32,39,39,32,78,32,78,10,114,117,108,101,32,88,32,99,111,108,32,39,105,116,101,109,115,39,10,114,117,108,101,32,88,32,119,104,101,114,101,32,39,107,105,110,100,39,32,88,32,84,10,114,117,108,101,32,84,32,99,111,108,32,39,107,39,10,114,117,108,101,32,84,32,116,101,120,116,32,39,97,39,10,115,116,97,114,116,32,78,10]
def smG (s : Int) : Gr := if s = 0 then sm0 else if s = 1 then sm1 else if s = 2 then sm2 else if s = 3 then sm3 else if s = 4 then sm4 else sm5
def smT (s : Int) : List UInt8 := if s = 0 then tx0 else if s = 1 then tx1 else if s = 2 then tx2 else if s = 3 then tx3 else if s = 4 then tx4 else tx5
theorem six {s : Int} (h : 0 <= s /\ s < 6) : s = 0 \/ s = 1 \/ s = 2 \/ s = 3 \/ s = 4 \/ s = 5 := by omega
structure Fam (b a : Gr) : Prop where
 nm : a.nm = b.nm
 ve : a.ve = b.ve
 cs : a.cs = b.cs
 st : a.st = b.st
 sk : a.ss.map (fun x => (x.nm,x.kd)) = b.ss.map (fun x => (x.nm,x.kd))
 mx : ∀ x ∈ a.ss,1 <= x.mx /\ x.mx <= 5
 rs : a.rs.Sublist b.rs
structure Base (b : Gr) : Prop where
 ri : bQ b = true
 sn : b.ss.length <= 4 /\ 2 <= b.ss.length
 mx : ∀ x ∈ b.ss,1 <= x.mx /\ x.mx <= 5
 ne : b.rs ≠ []
 sm : b.nm.length <= 100 /\ ∀ r ∈ b.rs,r.op.length <= 100 /\ r.pa.length <= 100
 cn : ∀ c ∈ b.cs,c.nm.length <= 100
 sa : ∀ s ∈ b.ss,s.nm.length <= 100
theorem base_of {s : Int} (h : 0 <= s /\ s < 6) : Base (smG s) := by
 rcases six h with rfl | rfl | rfl | rfl | rfl | rfl
 exact ⟨by decide +kernel,by decide,by decide,by decide,by decide,by decide,by decide⟩
 exact ⟨by decide +kernel,by decide,by decide,by decide,by decide,by decide,by decide⟩
 exact ⟨by decide +kernel,by decide,by decide,by decide,by decide,by decide,by decide⟩
 exact ⟨by decide +kernel,by decide,by decide,by decide,by decide,by decide,by decide⟩
 exact ⟨by decide +kernel,by decide,by decide,by decide,by decide,by decide,by decide⟩
 exact ⟨by decide +kernel,by decide,by decide,by decide,by decide,by decide,by decide⟩
theorem Fam.self {b : Gr} (h : Base b) : Fam b b := ⟨rfl,rfl,rfl,rfl,rfl,h.mx,List.Sublist.refl _⟩
theorem Fam.len {b a : Gr} (h : Fam b a) : a.ss.length = b.ss.length := by have := congrArg List.length h.sk; simpa using this
theorem Fam.at {b a : Gr} (h : Fam b a) (i : Nat) : (a.ss.getD i Sy.z).nm = (b.ss.getD i Sy.z).nm /\ (a.ss.getD i Sy.z).kd = (b.ss.getD i Sy.z).kd := by
 have hl := h.len
 by_cases hi : i < a.ss.length
 have := congrArg (fun l => l[i]?) h.sk
 simp only [List.getElem?_map,ge hi,ge (show i < b.ss.length by omega),Option.map_some,oIQ,pIQ] at this
 simpa [gd,hi,show i < b.ss.length by omega] using this
 rw [gd,gd,List.getElem?_eq_none (by omega),List.getElem?_eq_none (by omega)]; exact ⟨rfl,rfl⟩
theorem Fam.names {b a : Gr} (h : Fam b a) : a.ss.map (·.nm) = b.ss.map (·.nm) := by
 have := congrArg (List.map Prod.fst) h.sk
 simpa [List.map_map,Function.comp_def] using this
theorem aKA {b a : Gr} (h : a.ss.length = b.ss.length) (r : Rl) : d5 a r = d5 b r := by
 unfold d5 gA; rw [h]
theorem Fam.right {b a : Gr} (h : Fam b a) (hb : Base b) : RightG a := by
 have B := right_iff.1 hb.ri
 have hl := h.len
 refine ⟨by rw [h.nm]; exact B.nm,by rw [h.ve]; exact B.ve,by rw [h.cs]; exact B.cl,by rw [hl]; exact B.sl,Nat.le_trans h.rs.length_le B.rl,by rw [h.st,hl]; exact B.st,by rw [h.cs]; exact B.ck,fun s hs => ?_,by rw [h.cs]; exact B.cu,by rw [h.names]; exact B.su,fun r hr => by rw [aKA hl]; exact B.rk r (h.rs.subset hr),h.rs.nodup B.rn⟩
 obtain ⟨i,hi,rfl⟩ := List.mem_iff_getElem.1 hs
 have h1 := (h.at i).2
 have h2 := (B.sk _ (bG (z := Sy.z) (show i < b.ss.length by omega))).1
 have h3 := h.mx _ hs
 rw [gd (l := a.ss),ge hi,Option.getD_some] at h1
 exact ⟨by rw [h1]; exact h2,by omega⟩
theorem Fam.small {b a : Gr} (h : Fam b a) (hb : Base b) : a.small := by
 have R := h.right hb
 have h1 := R.cl; have h2 := R.sl; have h3 := R.rl
 refine ⟨by rw [h.nm]; have := hb.sm.1; omega,by omega,by omega,by omega,fun r hr => ?_⟩
 have h4 := hb.sm.2 r (h.rs.subset hr)
 have h5 := R.rk r hr
 simp only [d5,bIQ,decide_eq_true_eq] at h5
 exact ⟨by omega,by omega,by omega⟩
theorem Fam.cn {b a : Gr} (h : Fam b a) (hb : Base b) : ∀ t,t ∈ a.cs.map (·.nm) -> t.length <= maxLen := by
 intro t ht
 rw [h.cs] at ht
 obtain ⟨c,hc,rfl⟩ := mmQ.1 ht
 have := hb.cn c hc
 simp only [maxLen]; omega
theorem Fam.sa {b a : Gr} (h : Fam b a) (hb : Base b) : ∀ t,t ∈ a.ss.map (·.nm) -> t.length <= maxLen := by
 intro t ht
 rw [h.names] at ht
 obtain ⟨c,hc,rfl⟩ := mmQ.1 ht
 have := hb.sa c hc
 simp only [maxLen]; omega
theorem TB.rules {ss : List Sy} {m : Nat} {a : Gr} (hs : a.ss = ss) (hR : RightG a) (hm : m <= 8) {T : List (List Nat)} (h : TB ss m 0 T) : ∀ k,k <= a.rs.length -> TB ss m k ((a.rs.take k).foldl (stepR ss (m + 1)) T)
 | 0,_ => h
 | k + 1,hk => by
  have hr := hR.rule (k := k) (by omega)
  rw [cC _ _ _ _ _ (by omega)]
  exact (TB.rules hs hR hm h k (by omega)).step hm hr.2.1 (by rw [<- hs]; exact hr.1)
theorem kQ {a : Gr} (hR : RightG a) : ∀ m,m <= 9 -> TB a.ss m 0 (dO a.ss a.rs m)
 | 0,_ => TB.zero _
 | m + 1,hm => by
  have := TB.rules rfl hR (by omega) (kQ hR m (by omega)) a.rs.length (lr _)
  rw [List.take_length] at this
  exact this.next hR.rl
theorem aAY {a : Gr} (hR : RightG a) (i : Nat) : Go.Proofs.YtgpedhfdniigoaaGreatDoor.small 50000 ((dO a.ss a.rs 9).getD i []) := by
 have := TB.rules rfl hR (by omega) (kQ hR 8 (by omega)) a.rs.length (lr _)
 rw [List.take_length] at this
 exact this.small (by omega) hR.rl i
theorem aF6 {a : Gr} (hR : RightG a) (i : Nat) : ((dO a.ss a.rs 9).getD i []).length <= 10 := by
 have h := kQ hR 9 (by omega)
 by_cases hi : i < a.ss.length
 rw [h.rl i hi]; have := hR.max hi; omega
 rw [gd,List.getElem?_eq_none (by rw [h.ln]; omega)]; simp
theorem aDA {ss : List Sy} : ∀ m,dO ss [] m = eM ss
 | 0 => rfl
 | m + 1 => by rw [dO,List.foldl_nil,aDA m]
theorem sum_rep : ∀ n,kU (List.replicate n 0) = 0 := fun n => by
 have : ∀ n a,(List.replicate n 0).foldl (· + ·) a = a := by
  intro n
  induction n with
  | zero => intro a; rfl
  | succ n ih => intro a; rw [List.replicate_succ,List.foldl_cons,ih]; rfl
 exact this n 0
theorem aMM {a : Gr} (hs : a.ss ≠ []) (h : (bU a).2 = 0) : a.rs ≠ [] := by
 intro e
 have h1 : dO a.ss a.rs 9 = eM a.ss := by rw [e,aDA]
 have h2 : (eM a.ss).findIdx (fun l => kU l == 0) = 0 := by
  cases hss : a.ss with
  | nil => exact absurd hss hs
  | cons x r => simp [eM,List.findIdx_cons,sum_rep]
 have h3 : 0 < (eM a.ss).length := by
  have := List.length_pos_iff.2 hs
  simpa [eM] using this
 have : bU a = (0,16) := by simp only [bU,h1,h2]; rw [if_pos h3]; rfl
 rw [this] at h
 exact absurd h (by decide)
theorem fits_s0 (a : Gr) (h : Fam sm0 a) : ∀ r,r ∈ sm0.rs -> SpG g 75 [.agg (grC a),.agg (rlC r),.c (cM 3 aN)] [] (.c (cI 0)) [] := by
 have hl : a.ss.length = 2 := h.len
 have hc := h.cs
 intro r hr
 simp only [sm0,mc,List.not_mem_nil,or_false] at hr
 rcases hr with rfl | rfl | rfl | rfl | rfl | rfl | rfl
 exact aT a _ aN [] 1 (by decide) (by rw [hl]; decide) (by rw [hl]; decide) (by rw [hc]; exact aS [[some 1],[none],[none]] ty0_0) rfl (by rw [(h.at _).2]; rfl) (fun j hj => by rw [(h.at _).2]; revert j; decide)
 exact aT a _ aN [] 1 (by decide) (by rw [hl]; decide) (by rw [hl]; decide) (by rw [hc]; exact aS [[some 1],[none],[none]] ty0_1) rfl (by rw [(h.at _).2]; rfl) (fun j hj => by rw [(h.at _).2]; revert j; decide)
 exact aT a _ aN [1,1] 1 (by decide) (by rw [hl]; decide) (by rw [hl]; decide) (by rw [hc]; exact ty0_2) rfl (by rw [(h.at _).2]; rfl) (fun j hj => by rw [(h.at _).2]; revert j; decide)
 exact aT a _ aN [1] 1 (by decide) (by rw [hl]; decide) (by rw [hl]; decide) (by rw [hc]; exact ty0_3) rfl (by rw [(h.at _).2]; rfl) (fun j hj => by rw [(h.at _).2]; revert j; decide)
 exact aT a _ aN [] 1 (by decide) (by rw [hl]; decide) (by rw [hl]; decide) (by rw [hc]; exact aS [[some 1],[none],[none]] ty0_0) rfl (by rw [(h.at _).2]; rfl) (fun j hj => by rw [(h.at _).2]; revert j; decide)
 exact aT a _ aN [] 1 (by decide) (by rw [hl]; decide) (by rw [hl]; decide) (by rw [hc]; exact aS [[some 1],[none],[none]] ty0_5) rfl (by rw [(h.at _).2]; rfl) (fun j hj => by rw [(h.at _).2]; revert j; decide)
 exact aT a _ aN [1] 1 (by decide) (by rw [hl]; decide) (by rw [hl]; decide) (by rw [hc]; exact ty0_6) rfl (by rw [(h.at _).2]; rfl) (fun j hj => by rw [(h.at _).2]; revert j; decide)
theorem fits_s1 (a : Gr) (h : Fam sm1 a) : ∀ r,r ∈ sm1.rs -> SpG g 75 [.agg (grC a),.agg (rlC r),.c (cM 3 aN)] [] (.c (cI 0)) [] := by
 have hl : a.ss.length = 2 := h.len
 have hc := h.cs
 intro r hr
 simp only [sm1,mc,List.not_mem_nil,or_false] at hr
 rcases hr with rfl | rfl | rfl | rfl | rfl | rfl | rfl
 exact aT a _ aN [] 2 (by decide) (by rw [hl]; decide) (by rw [hl]; decide) (by rw [hc]; exact aS [[some 1],[none],[none]] ty1_0) rfl (by rw [(h.at _).2]; rfl) (fun j hj => by rw [(h.at _).2]; revert j; decide)
 exact aT a _ aN [] 2 (by decide) (by rw [hl]; decide) (by rw [hl]; decide) (by rw [hc]; exact aS [[some 1],[none],[none]] ty1_1) rfl (by rw [(h.at _).2]; rfl) (fun j hj => by rw [(h.at _).2]; revert j; decide)
 exact aT a _ aN [2,2] 2 (by decide) (by rw [hl]; decide) (by rw [hl]; decide) (by rw [hc]; exact ty1_2) rfl (by rw [(h.at _).2]; rfl) (fun j hj => by rw [(h.at _).2]; revert j; decide)
 exact aT a _ aN [2,2] 2 (by decide) (by rw [hl]; decide) (by rw [hl]; decide) (by rw [hc]; exact ty1_3) rfl (by rw [(h.at _).2]; rfl) (fun j hj => by rw [(h.at _).2]; revert j; decide)
 exact aT a _ aN [] 2 (by decide) (by rw [hl]; decide) (by rw [hl]; decide) (by rw [hc]; exact aS [[some 1],[none],[none]] ty1_4) rfl (by rw [(h.at _).2]; rfl) (fun j hj => by rw [(h.at _).2]; revert j; decide)
 exact aT a _ aN [] 2 (by decide) (by rw [hl]; decide) (by rw [hl]; decide) (by rw [hc]; exact aS [[some 1],[none],[none]] ty1_1) rfl (by rw [(h.at _).2]; rfl) (fun j hj => by rw [(h.at _).2]; revert j; decide)
 exact aT a _ aN [2] 2 (by decide) (by rw [hl]; decide) (by rw [hl]; decide) (by rw [hc]; exact ty1_6) rfl (by rw [(h.at _).2]; rfl) (fun j hj => by rw [(h.at _).2]; revert j; decide)
theorem fits_s2 (a : Gr) (h : Fam sm2 a) : ∀ r,r ∈ sm2.rs -> SpG g 75 [.agg (grC a),.agg (rlC r),.c (cM 3 aN)] [] (.c (cI 0)) [] := by
 have hl : a.ss.length = 3 := h.len
 have hc := h.cs
 intro r hr
 simp only [sm2,mc,List.not_mem_nil,or_false] at hr
 rcases hr with rfl | rfl | rfl | rfl | rfl | rfl | rfl
 exact aT a _ aN [] 3 (by decide) (by rw [hl]; decide) (by rw [hl]; decide) (by rw [hc]; exact aS [[some 1],[none],[none]] ty2_0) rfl (by rw [(h.at _).2]; rfl) (fun j hj => by rw [(h.at _).2]; revert j; decide)
 exact aT a _ aN [3,2] 3 (by decide) (by rw [hl]; decide) (by rw [hl]; decide) (by rw [hc]; exact ty2_1) rfl (by rw [(h.at _).2]; rfl) (fun j hj => by rw [(h.at _).2]; revert j; decide)
 exact aT a _ aN [] 2 (by decide) (by rw [hl]; decide) (by rw [hl]; decide) (by rw [hc]; exact aS [[some 1],[none],[none]] ty2_2) rfl (by rw [(h.at _).2]; rfl) (fun j hj => by rw [(h.at _).2]; revert j; decide)
 exact aT a _ aN [] 2 (by decide) (by rw [hl]; decide) (by rw [hl]; decide) (by rw [hc]; exact aS [[some 1],[none],[none]] ty2_3) rfl (by rw [(h.at _).2]; rfl) (fun j hj => by rw [(h.at _).2]; revert j; decide)
 exact aT a _ aN [3,3] 2 (by decide) (by rw [hl]; decide) (by rw [hl]; decide) (by rw [hc]; exact ty2_4) rfl (by rw [(h.at _).2]; rfl) (fun j hj => by rw [(h.at _).2]; revert j; decide)
 exact aT a _ aN [] 3 (by decide) (by rw [hl]; decide) (by rw [hl]; decide) (by rw [hc]; exact aS [[some 1],[none],[none]] ty2_0) rfl (by rw [(h.at _).2]; rfl) (fun j hj => by rw [(h.at _).2]; revert j; decide)
 exact aT a _ aN [] 3 (by decide) (by rw [hl]; decide) (by rw [hl]; decide) (by rw [hc]; exact aS [[some 1],[none],[none]] ty2_6) rfl (by rw [(h.at _).2]; rfl) (fun j hj => by rw [(h.at _).2]; revert j; decide)
theorem fits_s3 (a : Gr) (h : Fam sm3 a) : ∀ r,r ∈ sm3.rs -> SpG g 75 [.agg (grC a),.agg (rlC r),.c (cM 3 aN)] [] (.c (cI 0)) [] := by
 have hl : a.ss.length = 2 := h.len
 have hc := h.cs
 intro r hr
 simp only [sm3,mc,List.not_mem_nil,or_false] at hr
 rcases hr with rfl | rfl | rfl | rfl | rfl | rfl
 exact aT a _ aN [1] 2 (by decide) (by rw [hl]; decide) (by rw [hl]; decide) (by rw [hc]; exact ty3_0) rfl (by rw [(h.at _).2]; rfl) (fun j hj => by rw [(h.at _).2]; revert j; decide)
 exact aT a _ aN [] 2 (by decide) (by rw [hl]; decide) (by rw [hl]; decide) (by rw [hc]; exact aS [[some 1],[none],[none]] ty3_1) rfl (by rw [(h.at _).2]; rfl) (fun j hj => by rw [(h.at _).2]; revert j; decide)
 exact aT a _ aN [2,2] 2 (by decide) (by rw [hl]; decide) (by rw [hl]; decide) (by rw [hc]; exact ty3_2) rfl (by rw [(h.at _).2]; rfl) (fun j hj => by rw [(h.at _).2]; revert j; decide)
 exact aT a _ aN [] 1 (by decide) (by rw [hl]; decide) (by rw [hl]; decide) (by rw [hc]; exact aS [[some 1],[none],[none]] ty3_3) rfl (by rw [(h.at _).2]; rfl) (fun j hj => by rw [(h.at _).2]; revert j; decide)
 exact aT a _ aN [1] 1 (by decide) (by rw [hl]; decide) (by rw [hl]; decide) (by rw [hc]; exact ty3_4) rfl (by rw [(h.at _).2]; rfl) (fun j hj => by rw [(h.at _).2]; revert j; decide)
 exact aT a _ aN [] 1 (by decide) (by rw [hl]; decide) (by rw [hl]; decide) (by rw [hc]; exact aS [[some 1],[none],[none]] ty3_5) rfl (by rw [(h.at _).2]; rfl) (fun j hj => by rw [(h.at _).2]; revert j; decide)
theorem fits_s4 (a : Gr) (h : Fam sm4 a) : ∀ r,r ∈ sm4.rs -> SpG g 75 [.agg (grC a),.agg (rlC r),.c (cM 3 aN)] [] (.c (cI 0)) [] := by
 have hl : a.ss.length = 4 := h.len
 have hc := h.cs
 intro r hr
 simp only [sm4,mc,List.not_mem_nil,or_false] at hr
 rcases hr with rfl | rfl | rfl | rfl | rfl | rfl | rfl | rfl | rfl
 exact aT a _ aN [] 1 (by decide) (by rw [hl]; decide) (by rw [hl]; decide) (by rw [hc]; exact aS [[some 1],[none],[none]] ty4_0) rfl (by rw [(h.at _).2]; rfl) (fun j hj => by rw [(h.at _).2]; revert j; decide)
 exact aT a _ aN [] 1 (by decide) (by rw [hl]; decide) (by rw [hl]; decide) (by rw [hc]; exact aS [[some 1],[none],[none]] ty4_1) rfl (by rw [(h.at _).2]; rfl) (fun j hj => by rw [(h.at _).2]; revert j; decide)
 exact aT a _ aN [4,1,1] 1 (by decide) (by rw [hl]; decide) (by rw [hl]; decide) (by rw [hc]; exact ty4_2) rfl (by rw [(h.at _).2]; rfl) (fun j hj => by rw [(h.at _).2]; revert j; decide)
 exact aT a _ aN [2,2] 4 (by decide) (by rw [hl]; decide) (by rw [hl]; decide) (by rw [hc]; exact ty4_3) rfl (by rw [(h.at _).2]; rfl) (fun j hj => by rw [(h.at _).2]; revert j; decide)
 exact aT a _ aN [1] 4 (by decide) (by rw [hl]; decide) (by rw [hl]; decide) (by rw [hc]; exact ty4_4) rfl (by rw [(h.at _).2]; rfl) (fun j hj => by rw [(h.at _).2]; revert j; decide)
 exact aT a _ aN [] 2 (by decide) (by rw [hl]; decide) (by rw [hl]; decide) (by rw [hc]; exact aS [[some 1],[none],[none]] ty4_5) rfl (by rw [(h.at _).2]; rfl) (fun j hj => by rw [(h.at _).2]; revert j; decide)
 exact aT a _ aN [] 2 (by decide) (by rw [hl]; decide) (by rw [hl]; decide) (by rw [hc]; exact aS [[some 1],[none],[none]] ty4_6) rfl (by rw [(h.at _).2]; rfl) (fun j hj => by rw [(h.at _).2]; revert j; decide)
 exact aT a _ aN [] 1 (by decide) (by rw [hl]; decide) (by rw [hl]; decide) (by rw [hc]; exact aS [[some 1],[none],[none]] ty4_0) rfl (by rw [(h.at _).2]; rfl) (fun j hj => by rw [(h.at _).2]; revert j; decide)
 exact aT a _ aN [] 1 (by decide) (by rw [hl]; decide) (by rw [hl]; decide) (by rw [hc]; exact aS [[some 1],[none],[none]] ty4_8) rfl (by rw [(h.at _).2]; rfl) (fun j hj => by rw [(h.at _).2]; revert j; decide)
theorem fits_s5 (a : Gr) (h : Fam sm5 a) : ∀ r,r ∈ sm5.rs -> SpG g 75 [.agg (grC a),.agg (rlC r),.c (cM 3 aN)] [] (.c (cI 0)) [] := by
 have hl : a.ss.length = 3 := h.len
 have hc := h.cs
 intro r hr
 simp only [sm5,mc,List.not_mem_nil,or_false] at hr
 rcases hr with rfl | rfl | rfl | rfl | rfl | rfl | rfl
 exact aT a _ aN [5] 2 (by decide) (by rw [hl]; decide) (by rw [hl]; decide) (by rw [hc]; exact ty5_0) rfl (by rw [(h.at _).2]; rfl) (fun j hj => by rw [(h.at _).2]; revert j; decide)
 exact aT a _ aN [5] 2 (by decide) (by rw [hl]; decide) (by rw [hl]; decide) (by rw [hc]; exact ty5_1) rfl (by rw [(h.at _).2]; rfl) (fun j hj => by rw [(h.at _).2]; revert j; decide)
 exact aT a _ aN [2,2] 2 (by decide) (by rw [hl]; decide) (by rw [hl]; decide) (by rw [hc]; exact ty5_2) rfl (by rw [(h.at _).2]; rfl) (fun j hj => by rw [(h.at _).2]; revert j; decide)
 exact aT a _ aN [] 5 (by decide) (by rw [hl]; decide) (by rw [hl]; decide) (by rw [hc]; exact aS [[some 1],[none],[none]] ty5_3) rfl (by rw [(h.at _).2]; rfl) (fun j hj => by rw [(h.at _).2]; revert j; decide)
 exact aT a _ aN [5,1] 5 (by decide) (by rw [hl]; decide) (by rw [hl]; decide) (by rw [hc]; exact ty5_4) rfl (by rw [(h.at _).2]; rfl) (fun j hj => by rw [(h.at _).2]; revert j; decide)
 exact aT a _ aN [] 1 (by decide) (by rw [hl]; decide) (by rw [hl]; decide) (by rw [hc]; exact aS [[some 1],[none],[none]] ty5_5) rfl (by rw [(h.at _).2]; rfl) (fun j hj => by rw [(h.at _).2]; revert j; decide)
 exact aT a _ aN [] 1 (by decide) (by rw [hl]; decide) (by rw [hl]; decide) (by rw [hc]; exact aS [[some 1],[none],[none]] ty5_6) rfl (by rw [(h.at _).2]; rfl) (fun j hj => by rw [(h.at _).2]; revert j; decide)
theorem aL4 {s : Int} (hs : 0 <= s /\ s < 6) {a : Gr} (h : Fam (smG s) a) {k : Nat} (hk : k < a.rs.length) : SpG g 75 [.agg (grC a),.agg (rlC (a.rs.getD k Rl.z)),.c (cM 3 aN)] [] (.c (cI 0)) [] := by
 have hm := h.rs.subset (bG (z := Rl.z) hk)
 rcases six hs with rfl | rfl | rfl | rfl | rfl | rfl
 exact fits_s0 a h _ hm
 exact fits_s1 a h _ hm
 exact fits_s2 a h _ hm
 exact fits_s3 a h _ hm
 exact fits_s4 a h _ hm
 exact fits_s5 a h _ hm
theorem aJB {s : Int} (hs : 0 <= s /\ s < 6) {a : Gr} (h : Fam (smG s) a) : SpG g 34 [.agg (grC a),.c (cM 3 aN)] [] (.tup [(false,[.d (.i (bU a).1)]),(false,[.d (.i (bU a).2)])]) [] := by
 have hb := base_of hs
 have hR := h.right hb
 have hr := right_iff.2 hR
 have hsm := h.small hb
 refine aML a aN (dO a.ss a.rs 9) hsm (h.cn hb) (h.sa hb) hr (fun k hk => aL4 hs h hk) ?_ rfl (aF6 hR) (aAY hR) (by rw [(kQ hR 9 (by omega)).ln]; exact hR.sl.2)
 have hl := h.len
 have hn := hb.sn
 rcases (by omega : a.ss.length = 2 \/ a.ss.length = 3 \/ a.ss.length = 4) with e | e | e
 exact aF9 a hsm (h.cn hb) (h.sa hb) hr e
 exact aF8 a hsm (h.cn hb) (h.sa hb) hr e
 exact aF7 a hsm (h.cn hb) (h.sa hb) hr e
end Go.Proofs.YtgpedhfdniigoaaGreatDoor
namespace Go.Proofs.YtgpedhfdniigoaaGreatDoor
open Go.RowKit Go.V
variable {g : Gv}
theorem base_nil : V.Spec Tryz.prog (Gl g) 28 [.c (cM 1 [])] [] (.c (cM 3 [[.s (S [112,114,105,99,101,115]),.sl 1 [[.s (S [99,111,100,101])],[.s (S [112,114,105,99,101])],[.s (S [110,97,109,101])]],.sl 1 [[.sl 7 [[.i 1,.s (S [65]),.i 0,.i 0,.i 0,nlD,nlD],[.i 2,.s (S []),.i 25,.i 1,.i 0,nlD,nlD],[.i 1,.s (S [97,112,112,108,101]),.i 0,.i 0,.i 0,nlD,nlD]]],[.sl 7 [[.i 1,.s (S [66]),.i 0,.i 0,.i 0,nlD,nlD],[.i 2,.s (S []),.i 3,.i 0,.i 0,nlD,nlD],[.i 1,.s (S [98,114,101,97,100]),.i 0,.i 0,.i 0,nlD,nlD]]]]]])) [] :=
 aF nFQ (fun k => mkL [188] [] k) (T := [] ++ T0) (ne := N0e) (df := D0e) (F := 100000) (d := 60) (cs := []) aH (by kernel_rfl) trivial
theorem sample0 : V.Spec Tryz.prog (Gl g) 32 [.c (cI 0)] [] (.c (cS (S [103,114,97,109,109,97,114,32,116,101,120,116,115,32,49,10,99,111,108,117,109,110,32,97,32,116,101,120,116,10,99,111,108,117,109,110,32,98,32,116,101,120,116,10,115,121,109,98,111,108,32,84,32,116,101,120,116,32,52,10,115,121,109,98,111,108,32,85,32,116,101,120,116,32,50,10,114,117,108,101,32,84,32,99,111,108,32,39,97,39,10,114,117,108,101,32,84,32,99,111,108,32,39,98,39,10,114,117,108,101,32,84,32,99,111,110,99,97,116,32,39,39,32,85,32,84,10,114,117,108,101,32,84,32,117,112,112,101,114,32,39,39,32,85,10,114,117,108,101,32,85,32,99,111,108,32,39,97,39,10,114,117,108,101,32,85,32,116,101,120,116,32,39,45,39,10,114,117,108,101,32,85,32,101,120,116,114,97,99,116,32,39,92,100,43,35,49,39,32,85,10,115,116,97,114,116,32,84,10]))) [] :=
 aF nFQ nFQ (T := [] ++ T0) (ne := N0e) (df := D0e) (F := 100000) (d := 60) (cs := []) aH (by kernel_rfl) trivial
theorem sample1 : V.Spec Tryz.prog (Gl g) 32 [.c (cI 1)] [] (.c (cS (S [103,114,97,109,109,97,114,32,110,117,109,98,101,114,115,32,49,10,99,111,108,117,109,110,32,110,32,110,117,109,98,101,114,10,99,111,108,117,109,110,32,109,32,110,117,109,98,101,114,10,115,121,109,98,111,108,32,78,32,110,117,109,98,101,114,32,52,10,115,121,109,98,111,108,32,77,32,110,117,109,98,101,114,32,50,10,114,117,108,101,32,78,32,99,111,108,32,39,110,39,10,114,117,108,101,32,78,32,99,111,108,32,39,109,39,10,114,117,108,101,32,78,32,97,100,100,32,39,39,32,77,32,78,10,114,117,108,101,32,78,32,109,117,108,32,39,39,32,78,32,77,10,114,117,108,101,32,77,32,110,117,109,98,101,114,32,39,50,39,10,114,117,108,101,32,77,32,99,111,108,32,39,109,39,10,114,117,108,101,32,77,32,114,111,117,110,100,32,39,49,39,32,77,10,115,116,97,114,116,32,78,10]))) [] :=
 aF nFQ nFQ (T := [] ++ T0) (ne := N0e) (df := D0e) (F := 100000) (d := 60) (cs := []) aH (by kernel_rfl) trivial
theorem sample2 : V.Spec Tryz.prog (Gl g) 32 [.c (cI 2)] [] (.c (cS (S [103,114,97,109,109,97,114,32,100,97,116,101,115,32,49,10,99,111,108,117,109,110,32,100,32,100,97,116,101,10,99,111,108,117,109,110,32,101,32,100,97,116,101,10,99,111,108,117,109,110,32,110,32,110,117,109,98,101,114,10,115,121,109,98,111,108,32,68,32,100,97,116,101,32,52,10,115,121,109,98,111,108,32,78,32,110,117,109,98,101,114,32,51,10,115,121,109,98,111,108,32,69,32,100,97,116,101,32,49,10,114,117,108,101,32,68,32,99,111,108,32,39,100,39,10,114,117,108,101,32,68,32,100,97,121,115,32,39,39,32,68,32,78,10,114,117,108,101,32,78,32,99,111,108,32,39,110,39,10,114,117,108,101,32,78,32,110,117,109,98,101,114,32,39,55,39,10,114,117,108,101,32,78,32,98,101,116,119,101,101,110,32,39,39,32,69,32,69,10,114,117,108,101,32,69,32,99,111,108,32,39,100,39,10,114,117,108,101,32,69,32,99,111,108,32,39,101,39,10,115,116,97,114,116,32,68,10]))) [] :=
 aF nFQ nFQ (T := [] ++ T0) (ne := N0e) (df := D0e) (F := 100000) (d := 60) (cs := []) aH (by kernel_rfl) trivial
theorem sample3 : V.Spec Tryz.prog (Gl g) 32 [.c (cI 3)] [] (.c (cS (S [103,114,97,109,109,97,114,32,108,111,111,107,117,112,115,32,49,10,99,111,108,117,109,110,32,99,111,100,101,32,116,101,120,116,10,99,111,108,117,109,110,32,110,32,110,117,109,98,101,114,10,115,121,109,98,111,108,32,78,32,110,117,109,98,101,114,32,52,10,115,121,109,98,111,108,32,84,32,116,101,120,116,32,50,10,114,117,108,101,32,78,32,108,111,111,107,117,112,32,39,112,114,105,99,101,115,46,99,111,100,101,46,112,114,105,99,101,58,110,117,109,98,101,114,39,32,84,10,114,117,108,101,32,78,32,99,111,108,32,39,110,39,10,114,117,108,101,32,78,32,109,117,108,32,39,39,32,78,32,78,10,114,117,108,101,32,84,32,99,111,108,32,39,99,111,100,101,39,10,114,117,108,101,32,84,32,117,112,112,101,114,32,39,39,32,84,10,114,117,108,101,32,84,32,116,101,120,116,32,39,65,39,10,115,116,97,114,116,32,78,10]))) [] :=
 aF nFQ nFQ (T := [] ++ T0) (ne := N0e) (df := D0e) (F := 100000) (d := 60) (cs := []) aH (by kernel_rfl) trivial
theorem sample4 : V.Spec Tryz.prog (Gl g) 32 [.c (cI 4)] [] (.c (cS (S [103,114,97,109,109,97,114,32,99,104,111,105,99,101,115,32,49,10,99,111,108,117,109,110,32,115,32,116,101,120,116,10,99,111,108,117,109,110,32,110,32,110,117,109,98,101,114,10,115,121,109,98,111,108,32,84,32,116,101,120,116,32,53,10,115,121,109,98,111,108,32,66,32,98,111,111,108,32,51,10,115,121,109,98,111,108,32,78,32,110,117,109,98,101,114,32,49,10,115,121,109,98,111,108,32,67,32,116,101,120,116,32,49,10,114,117,108,101,32,84,32,99,111,108,32,39,115,39,10,114,117,108,101,32,84,32,116,101,120,116,32,39,108,111,119,39,10,114,117,108,101,32,84,32,105,102,32,39,116,101,120,116,39,32,66,32,67,32,84,10,114,117,108,101,32,66,32,108,101,115,115,32,39,39,32,78,32,78,10,114,117,108,101,32,66,32,109,97,116,99,104,32,39,92,117,43,39,32,67,10,114,117,108,101,32,78,32,99,111,108,32,39,110,39,10,114,117,108,101,32,78,32,110,117,109,98,101,114,32,39,49,48,39,10,114,117,108,101,32,67,32,99,111,108,32,39,115,39,10,114,117,108,101,32,67,32,116,101,120,116,32,39,104,105,103,104,39,10,115,116,97,114,116,32,84,10]))) [] :=
 aF nFQ nFQ (T := [] ++ T0) (ne := N0e) (df := D0e) (F := 100000) (d := 60) (cs := []) aH (by kernel_rfl) trivial
theorem sample5 : V.Spec Tryz.prog (Gl g) 32 [.c (cI 5)] [] (.c (cS (S [103,114,97,109,109,97,114,32,116,97,98,108,101,115,32,49,10,99,111,108,117,109,110,32,105,116,101,109,115,32,116,97,98,108,101,10,99,111,108,117,109,110,32,107,32,116,101,120,116,10,115,121,109,98,111,108,32,78,32,110,117,109,98,101,114,32,52,10,115,121,109,98,111,108,32,88,32,116,97,98,108,101,32,51,10,115,121,109,98,111,108,32,84,32,116,101,120,116,32,49,10,114,117,108,101,32,78,32,115,117,109,32,39,97,109,111,117,110,116,62,61,48,39,32,88,10,114,117,108,101,32,78,32,99,111,117,110,116,32,39,39,32,88,10,114,117,108,101,32,78,32,97,100,100,32,39,39,32,78,32,78,10,114,117,108,101,32,88,32,99,111,108,32,39,105,116,101,109,115,39,10,114,117,108,101,32,88,32,119,104,101,114,101,32,39,107,105,110,100,39,32,88,32,84,10,114,117,108,101,32,84,32,99,111,108,32,39,107,39,10,114,117,108,101,32,84,32,116,101,120,116,32,39,97,39,10,115,116,97,114,116,32,78,10]))) [] :=
 aF nFQ nFQ (T := [] ++ T0) (ne := N0e) (df := D0e) (F := 100000) (d := 60) (cs := []) aH (by kernel_rfl) trivial
end Go.Proofs.YtgpedhfdniigoaaGreatDoor
