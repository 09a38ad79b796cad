/- Part 36 of the proof. -/
import Derived.Test.YtclaplngjmgnoaaGreatDoorP30
import Derived.Test.YtclaplngjmgnoaaGreatDoorP35
set_option linter.all false
namespace Go.Proofs.YtclaplngjmgnoaaGreatDoor
set_option maxRecDepth 100000
open Go.RowKit Go.V
section
section
variable {g : Gv}
theorem aIC (s : ByteArray) : (⟨s.data.toList.toArray⟩ : ByteArray) = s := by cases s; simp
def eqL : List UInt8 -> List UInt8 -> Bool
 | [],[] => true
 | x :: a,y :: b => bif Nat.beq x.toNat y.toNat then eqL a b else false
 | _,_ => false
theorem aO6 : ∀ {a b : List UInt8},eqL a b = true -> a = b
 | [],[],_ => rfl
 | [],_ :: _,h => by cases h
 | _ :: _,[],h => by cases h
 | x :: a,y :: b,h => by
  unfold eqL at h;cases hb : Nat.beq x.toNat y.toNat with
  | false => rw [hb] at h; cases h
  | true =>
   rw [hb] at h;rw [UInt8.toNat_inj.1 (Nat.eq_of_beq_eq_true hb),aO6 h]
def allEq {α : Type} (r : α -> α -> Bool) : List α -> List α -> Bool
 | [],[] => true
 | x :: a,y :: b => bif r x y then allEq r a b else false
 | _,_ => false
theorem iW {α : Type} {r : α -> α -> Bool} (hr : ∀ x y,r x y = true -> x = y) : ∀ {a b : List α},allEq r a b = true -> a = b
 | [],[],_ => rfl
 | [],_ :: _,h => by cases h
 | _ :: _,[],h => by cases h
 | x :: a,y :: b,h => by
  unfold allEq at h;cases hb : r x y with
  | false => rw [hb] at h; cases h
  | true => rw [hb] at h; rw [hr _ _ hb,iW hr h]
def vEq : Value -> Value -> Bool
 | .int .i64 a,.int .i64 b => decide (a = b)
 | .int .u8 a,.int .u8 b => decide (a = b)
 | .bool a,.bool b => decide (a = b)
 | .string a,.string b => eqL a.data.toList b.data.toList
 | .slice none 0 0,.slice none 0 0 => true
 | _,_ => false
theorem vEq_eq {a b : Value} (h : vEq a b = true) : a = b := by
 unfold vEq at h;split at h;rw [of_decide_eq_true h];rw [of_decide_eq_true h];rw [of_decide_eq_true h];rename_i s p;have := aO6 h;rw [<- aIC s,<- aIC p,this];rfl;cases h
def dEq : Nat -> D -> D -> Bool
 | f + 1,.v a,.v b => vEq a b
 | f + 1,.sl n a,.sl m b => Nat.beq n m && allEq (allEq (dEq f)) a b
 | _,_,_ => false
theorem aPH : ∀ {f : Nat} {a b : D},dEq f a b = true -> a = b
 | 0,a,b,h => by cases a <;> cases b <;> cases h
 | f + 1,.v a,.v b,h => by rw [vEq_eq (a := a) (b := b) h]
 | f + 1,.sl n a,.sl m b,h => by
  have h : (Nat.beq n m && allEq (allEq (dEq f)) a b) = true := h;simp only [bIQ] at h;rw [Nat.eq_of_beq_eq_true h.1,iW (fun x y hxy => iW (fun _ _ => aPH) hxy) h.2]
 | f + 1,.v _,.sl _ _,h => by cases h
 | f + 1,.sl _ _,.v _,h => by cases h
def cEq : C -> C -> Bool
 | .d a,.d b => dEq 20 a b
 | _,_ => false
theorem aP3 {a b : C} (h : cEq a b = true) : a = b := by
 unfold cEq at h;split at h;rw [aPH h];cases h
def aIT : SV -> SV -> Bool
 | .c a,.c b => cEq a b
 | .agg a,.agg b => allEq cEq a b
 | _,_ => false
theorem aGL {a b : SV} (h : aIT a b = true) : a = b := by
 unfold aIT at h;split at h;rw [aP3 h];rw [iW (fun _ _ => aP3) h];cases h
structure Lit (g : Gv) (f : FuncId) where
 ins : List SV
 out : SV
 ok : V.Spec Tryz.prog (Gl g) f ins [] out []
def aHH {f : FuncId} : List (Lit g f) -> List SV -> Option (Lit g f)
 | [],_ => none
 | e :: r,ins => bif allEq aIT e.ins ins then some e else aHH r ins
theorem aCK {f : FuncId} : ∀ {T : List (Lit g f)} {ins : List SV} {e : Lit g f},aHH T ins = some e -> e.ins = ins
 | [],ins,e,h => by cases h
 | x :: r,ins,e,h => by
  unfold aHH at h;cases hb : allEq aIT x.ins ins with
  | false => rw [hb] at h; exact aCK h
  | true =>
   rw [hb] at h;simp only [cond_true,oIQ] at h;subst h;exact iW (fun _ _ => aGL) hb
def aR (f : FuncId) (T : List (Lit g f)) : Ent Tryz.prog (Gl g) where
 f := f
 ask := fun _ ins refs => match refs with
  | [] => match aHH T ins with
   | some e => some (e.out,[],[])
   | none => none
  | _ => none
 ok := by
  intro k ins refs post out cs h _;split at h;split at h;rename_i e he;simp only [oIQ,pIQ] at h;obtain ⟨rfl,rfl,_⟩ := h;rw [<- aCK he];exact e.ok;cases h;cases h
def a7 (f : FuncId) (out : SV) : Ent Tryz.prog (Gl g) where
 f := f
 ask := fun _ ins refs => match refs with
  | [] => some (out,[],[V.Spec Tryz.prog (Gl g) f ins [] out []])
  | _ => none
 ok := by
  intro k ins refs post out' cs h hc;split at h;cases h; exact hc;cases h
def iS (f : FuncId) (tell : Nat -> Option SV) : Ent Tryz.prog (Gl g) where
 f := f
 ask := fun k ins refs => match refs with
  | [] => match tell k with
   | some out => some (out,[],[V.Spec Tryz.prog (Gl g) f ins [] out []])
   | none => none
  | _ => none
 ok := by
  intro k ins refs post out' cs h hc;split at h;split at h;cases h; exact hc;cases h;cases h
end
def mkL (l : List Nat) (sl : List (Nat × Nat)) (k : Nat) : Option Value := bif l.any (Nat.beq k) then some .nilIface else match sl with
 | [] => none
 | x :: r => bif Nat.beq k x.1 then some (.agg #[.int .i64 (Int.ofNat x.2)]) else mkL [] r k
theorem hmx : Tryz.prog.follows .mixedOrders = true := by kernel_rfl
theorem kRQ {g : Gv} {f : FuncId} {ins : List SV} {out : SV} (h : V.xW ([] : List (V.Ent Tryz.prog (Gl g))) [] [] nFQ nFQ 100000 60 f ins = some (out,[]) := by kernel_rfl) : V.Spec Tryz.prog (Gl g) f ins [] out [] := V.a8 nFQ nFQ hmx h trivial
def ruD (h : Int) (op p : List UInt8) (a : List Int) : List D := [.i h,.s (S op),.s (S p),.sl 1 (intsD a)]
def rules0 : LD := [ruD 0 [99,111,108] [97] [],ruD 0 [99,111,108] [98] [],ruD 0 [99,111,110,99,97,116] [] [1,0],ruD 0 [117,112,112,101,114] [] [1],ruD 1 [99,111,108] [97] [],ruD 1 [116,101,120,116] [45] [],ruD 1 [101,120,116,114,97,99,116] [92,100,43,35,49] [1]]
def g0C : List C := [cS (S [116,101,120,116,115]),cI 1,cM 2 [[.s (S [97]),.i 1],[.s (S [98]),.i 1]],cM 3 [[.s (S [84]),.i 1,.i 4],[.s (S [85]),.i 1,.i 2]],cM 4 rules0,cI 0]
def nlD : D := .v (.slice none 0 0)
def txD (s : List UInt8) : List D := [.i 1,.s (S s),.i 0,.i 0,.i 0,nlD,nlD]
def nuD (n k : Int) : List D := [.i 2,.s (S []),.i n,.i k,.i 0,nlD,nlD]
def fZ : LD := [[.s (S [112,114,105,99,101,115]),.sl 1 [[.s (S [99,111,100,101])],[.s (S [112,114,105,99,101])],[.s (S [110,97,109,101])]],.sl 1 [[.sl 7 [txD [65],nuD 25 1,txD [97,112,112,108,101]]],[.sl 7 [txD [66],nuD 3 0,txD [98,114,101,97,100]]]]]]
def nbS (n : Nat) : ByteArray := bif Nat.beq n 0 then S [] else S [UInt8.ofNat n]
variable {g : Gv}
theorem kN : V.Spec Tryz.prog (Gl g) 133 [.c (cS (nbS 0)),.c (cS (nbS 0))] [] (.c (cS (nbS 0))) [] :=
 kRQ
theorem ad_0_1 : V.Spec Tryz.prog (Gl g) 133 [.c (cS (nbS 0)),.c (cS (nbS 1))] [] (.c (cS (nbS 1))) [] :=
 kRQ
theorem ad_0_12 : V.Spec Tryz.prog (Gl g) 133 [.c (cS (nbS 0)),.c (cS (nbS 12))] [] (.c (cS (nbS 12))) [] :=
 kRQ
theorem aGD : V.Spec Tryz.prog (Gl g) 133 [.c (cS (nbS 0)),.c (cS (nbS 2))] [] (.c (cS (nbS 2))) [] :=
 kRQ
theorem aA0 : V.Spec Tryz.prog (Gl g) 133 [.c (cS (nbS 0)),.c (cS (nbS 4))] [] (.c (cS (nbS 4))) [] :=
 kRQ
theorem ad_0_8 : V.Spec Tryz.prog (Gl g) 133 [.c (cS (nbS 0)),.c (cS (nbS 8))] [] (.c (cS (nbS 8))) [] :=
 kRQ
theorem ad_1_1 : V.Spec Tryz.prog (Gl g) 133 [.c (cS (nbS 1)),.c (cS (nbS 1))] [] (.c (cS (nbS 2))) [] :=
 kRQ
theorem ad_10_8 : V.Spec Tryz.prog (Gl g) 133 [.c (cS (nbS 10)),.c (cS (nbS 8))] [] (.c (cS (nbS 18))) [] :=
 kRQ
theorem ad_12_0 : V.Spec Tryz.prog (Gl g) 133 [.c (cS (nbS 12)),.c (cS (nbS 0))] [] (.c (cS (nbS 12))) [] :=
 kRQ
theorem ad_12_4 : V.Spec Tryz.prog (Gl g) 133 [.c (cS (nbS 12)),.c (cS (nbS 4))] [] (.c (cS (nbS 16))) [] :=
 kRQ
theorem ad_16_0 : V.Spec Tryz.prog (Gl g) 133 [.c (cS (nbS 16)),.c (cS (nbS 0))] [] (.c (cS (nbS 16))) [] :=
 kRQ
theorem aQD : V.Spec Tryz.prog (Gl g) 133 [.c (cS (nbS 2)),.c (cS (nbS 0))] [] (.c (cS (nbS 2))) [] :=
 kRQ
theorem ad_2_2 : V.Spec Tryz.prog (Gl g) 133 [.c (cS (nbS 2)),.c (cS (nbS 2))] [] (.c (cS (nbS 4))) [] :=
 kRQ
theorem ad_4_0 : V.Spec Tryz.prog (Gl g) 133 [.c (cS (nbS 4)),.c (cS (nbS 0))] [] (.c (cS (nbS 4))) [] :=
 kRQ
theorem ad_4_2 : V.Spec Tryz.prog (Gl g) 133 [.c (cS (nbS 4)),.c (cS (nbS 2))] [] (.c (cS (nbS 6))) [] :=
 kRQ
theorem aQC : V.Spec Tryz.prog (Gl g) 133 [.c (cS (nbS 4)),.c (cS (nbS 4))] [] (.c (cS (nbS 8))) [] :=
 kRQ
theorem ad_4_6 : V.Spec Tryz.prog (Gl g) 133 [.c (cS (nbS 4)),.c (cS (nbS 6))] [] (.c (cS (nbS 10))) [] :=
 kRQ
theorem ad_8_0 : V.Spec Tryz.prog (Gl g) 133 [.c (cS (nbS 8)),.c (cS (nbS 0))] [] (.c (cS (nbS 8))) [] :=
 kRQ
theorem pE : V.Spec Tryz.prog (Gl g) 267 [.c (cS (nbS 0)),.c (cS (nbS 0))] [] (.c (cS (nbS 0))) [] :=
 kRQ
theorem pD : V.Spec Tryz.prog (Gl g) 267 [.c (cS (nbS 0)),.c (cS (nbS 2))] [] (.c (cS (nbS 0))) [] :=
 kRQ
theorem mu_0_6 : V.Spec Tryz.prog (Gl g) 267 [.c (cS (nbS 0)),.c (cS (nbS 6))] [] (.c (cS (nbS 0))) [] :=
 kRQ
theorem aNX : V.Spec Tryz.prog (Gl g) 267 [.c (cS (nbS 1)),.c (cS (nbS 0))] [] (.c (cS (nbS 0))) [] :=
 kRQ
theorem aNW : V.Spec Tryz.prog (Gl g) 267 [.c (cS (nbS 1)),.c (cS (nbS 2))] [] (.c (cS (nbS 2))) [] :=
 kRQ
theorem aFI : V.Spec Tryz.prog (Gl g) 267 [.c (cS (nbS 2)),.c (cS (nbS 0))] [] (.c (cS (nbS 0))) [] :=
 kRQ
theorem aFH : V.Spec Tryz.prog (Gl g) 267 [.c (cS (nbS 2)),.c (cS (nbS 2))] [] (.c (cS (nbS 4))) [] :=
 kRQ
theorem mu_2_6 : V.Spec Tryz.prog (Gl g) 267 [.c (cS (nbS 2)),.c (cS (nbS 6))] [] (.c (cS (nbS 12))) [] :=
 kRQ
theorem yL : V.Spec Tryz.prog (Gl g) 130 [.agg g0C] [] (.c (cB true)) [] :=
 kRQ
theorem gfit0 : V.Spec Tryz.prog (Gl g) 131 [.agg g0C,.agg ((ruD 0 [99,111,108] [97] []).map C.d),.c (cM 3 fZ)] [] (.c (cI 0)) [] :=
 kRQ
theorem gfit1 : V.Spec Tryz.prog (Gl g) 131 [.agg g0C,.agg ((ruD 0 [99,111,108] [98] []).map C.d),.c (cM 3 fZ)] [] (.c (cI 0)) [] :=
 kRQ
theorem gfit2 : V.Spec Tryz.prog (Gl g) 131 [.agg g0C,.agg ((ruD 0 [99,111,110,99,97,116] [] [1,0]).map C.d),.c (cM 3 fZ)] [] (.c (cI 0)) [] :=
 kRQ
theorem gfit3 : V.Spec Tryz.prog (Gl g) 131 [.agg g0C,.agg ((ruD 0 [117,112,112,101,114] [] [1]).map C.d),.c (cM 3 fZ)] [] (.c (cI 0)) [] :=
 kRQ
theorem gfit4 : V.Spec Tryz.prog (Gl g) 131 [.agg g0C,.agg ((ruD 1 [99,111,108] [97] []).map C.d),.c (cM 3 fZ)] [] (.c (cI 0)) [] :=
 kRQ
theorem gfit5 : V.Spec Tryz.prog (Gl g) 131 [.agg g0C,.agg ((ruD 1 [116,101,120,116] [45] []).map C.d),.c (cM 3 fZ)] [] (.c (cI 0)) [] :=
 kRQ
theorem gfit6 : V.Spec Tryz.prog (Gl g) 131 [.agg g0C,.agg ((ruD 1 [101,120,116,114,97,99,116] [92,100,43,35,49] [1]).map C.d),.c (cM 3 fZ)] [] (.c (cI 0)) [] :=
 kRQ
end
section
section
variable {g : Gv}
def wR (tell : Nat -> Option (Int × Int)) : Ent Tryz.prog (Gl g) where
 f := 82
 ask := fun k ins refs => match refs with
  | [(0,.box ty [c0,_])] => match tell k with
   | some (v,q) => some (.c (cI v),[(0,.box ty [c0,cI q])],[V.Spec Tryz.prog (Gl g) 82 ins refs (.c (cI v)) [(0,.box ty [c0,cI q])]])
   | none => none
  | _ => none
 ok := by
  intro k ins refs post out cs h hc;split at h;split at h;cases h; exact hc;cases h;cases h
def Nx (g : Gv) (l : List Int) (k n v q : Int) : Prop := V.Spec Tryz.prog (Gl g) 82 [.c (.bx 0 0),.c (cI n)] [(0,y14 (intsD l) k)] (.c (cI v)) [(0,y14 (intsD l) q)]
end
def tl2 : List (Nat × Int × Int) -> Nat -> Option (Int × Int)
 | [],_ => none
 | (i,x) :: r,k => bif Nat.beq i k then some x else tl2 r k
def tlH : List (Nat × List D) -> Nat -> Option (List D)
 | [],_ => none
 | (i,x) :: r,k => bif Nat.beq i k then some x else tlH r k
def tlO : List (Nat × Bool) -> Nat -> Option Bool
 | [],_ => none
 | (i,x) :: r,k => bif Nat.beq i k then some x else tlO r k
def tlS : List (Nat × SV) -> Nat -> Option SV
 | [],_ => none
 | (i,x) :: r,k => bif Nat.beq i k then some x else tlS r k
def SX (g : Gv) (f : FuncId) (ins : List SV) (out : SV) : Prop := V.Spec Tryz.prog (Gl g) f ins [] out []
theorem sX {g : Gv} (orc : Nat -> Option Bool) (lit : Nat -> Option Value) (hnt : Nat -> Option (List D)) {T : List (Ent Tryz.prog (Gl g))} {f : FuncId} {ins : List SV} {out : SV} {cs : List Prop} (h : xW T [] [] orc lit 100000 60 f ins hnt = some (out,cs)) (hc : conj cs) : SX g f ins out := oY orc lit hnt hmx h hc
theorem kS1 {g : Gv} (T : List (Ent Tryz.prog (Gl g))) {f : FuncId} {ins : List SV} {out : SV} (h : xW T [] [] nFQ nFQ 100000 60 f ins nFQ = some (out,[]) := by kernel_rfl) : SX g f ins out := sX nFQ nFQ nFQ h trivial
theorem kT1 {g : Gv} (T : List (Ent Tryz.prog (Gl g))) {f : FuncId} {ins : List SV} {out : SV} {cs : List Prop} (hc : conj cs) (h : xW T [] [] nFQ nFQ 100000 60 f ins nFQ = some (out,cs) := by kernel_rfl) : SX g f ins out := sX nFQ nFQ nFQ h hc
def oM : SV := .c (cM 3 fZ)
def lQ : SV := .c (cM 2 [[.s (S [97]),.i 1],[.s (S [98]),.i 1]])
def apI (op pa : List UInt8) (args row : SV) : List SV := [.c (cS (S op)),.c (cS (S pa)),args,oM,lQ,row]
def evI (p row : D) : List SV := [.agg g0C,oM,.c (.d p),.c (.d row)]
def tL (s : ByteArray) : List D := [.i 1,.s s,.i 0,.i 0,.i 0,.sl 1 [],.sl 1 []]
def fL (e : Int) : List D := [.i 0,.s (S []),.i 0,.i 0,.i e,.sl 1 [],.sl 1 []]
def oN (s : ByteArray) : SV := .tup [(true,[cI 1,cS s,cI 0,cI 0,cI 0,.d nlD,.d nlD]),(false,[cI 0])]
def oL (s : ByteArray) : SV := .tup [(true,[cI 1,cS s,cI 0,cI 0,cI 0,cM 1 [],cM 1 []]),(false,[cI 0])]
def oC (s : ByteArray) : SV := .tup [(true,[cI 1,cS s,cI 0,cI 0,cI 0,cM 1 [],.d nlD]),(false,[cI 0])]
def oE (e : Int) : SV := .tup [(true,[cI 0,cS (S []),cI 0,cI 0,cI 0,.d nlD,.d nlD]),(false,[cI e])]
def oF (e : Int) : SV := .agg [cI 0,cS (S []),cI 0,cI 0,cI e,cM 1 [],cM 1 []]
def aT (s : ByteArray) : SV := .agg [cI 1,cS s,cI 0,cI 0,cI 0,cM 1 [],cM 1 []]
def RgT (g : Gv) (s : ByteArray) : Prop := SX g 145 [aT s] (.c (cB true))
end
section
inductive DLe : D -> D -> Prop where
 | refl (d : D) : DLe d d
 | nil (sz : Nat) : DLe nlD (.sl sz [])
 | sl (sz : Nat) {es es' : LD} (hl : es.length = es'.length) (hd : ∀ (i : Nat) (ds ds' : List D),es[i]? = some ds -> es'[i]? = some ds' -> ds.length = ds'.length)
   (hr : ∀ (i j : Nat) (ds ds' : List D) (d d' : D),es[i]? = some ds -> es'[i]? = some ds' -> ds[j]? = some d -> ds'[j]? = some d' -> DLe d d') : DLe (.sl sz es) (.sl sz es')
theorem rd_le {w : World} {F : Nat -> Prop} {d d' : D} (h : DLe d d') : ∀ {v : Value},Rd w F d v -> Rd w F d' v := by
 induction h with
 | refl d => exact fun h => h
 | nil sz =>
  intro v h;cases h with
  | v x hx => exact .nil sz
 | @sl sz es es' hl hd hr ih =>
  intro v h;have same : ∀ (i : Nat) (ds' : List D),es'[i]? = some ds' -> ∃ ds,es[i]? = some ds := by
   intro i ds' hi;have hlt := (gsQ.1 hi).1;exact ⟨es[i]'(by omega),ge (by omega)⟩
  have same2 : ∀ (i j : Nat) (ds ds' : List D) (d' : D),es[i]? = some ds -> es'[i]? = some ds' -> ds'[j]? = some d' -> ∃ d,ds[j]? = some d := by
   intro i j ds ds' d' hi hi' hj;have hlt := (gsQ.1 hj).1;have := hd i ds ds' hi hi';exact ⟨ds[j]'(by omega),ge (by omega)⟩
  cases h with
  | nil sz =>
   have : es' = [] := List.eq_nil_of_length_eq_zero (by simpa using hl.symm);subst this; exact .nil sz
  | far sz a =>
   have : es' = [] := List.eq_nil_of_length_eq_zero (by simpa using hl.symm);subst this; exact .far sz a
  | sl us hF hb hc hm hs hu hr' =>
   rw [hl];refine .sl us hF hb (by omega) hm (fun ds' hds => ?_) (fun i j ds' d' hi hj => ?_) (fun i j ds' d' hi hj => ?_);obtain ⟨i,hi⟩ := List.getElem?_of_mem hds;obtain ⟨ds,hi0⟩ := same i ds' hi;rw [<- hd i ds ds' hi0 hi];exact hs ds (List.mem_of_getElem? hi0);obtain ⟨ds,hi0⟩ := same i ds' hi;obtain ⟨d,hj0⟩ := same2 i j ds ds' d' hi0 hi hj;exact hu i j ds d hi0 hj0;obtain ⟨ds,hi0⟩ := same i ds' hi;obtain ⟨d,hj0⟩ := same2 i j ds ds' d' hi0 hi hj;exact ih i j ds ds' d d' hi0 hi hj0 hj (hr' i j ds d hi0 hj0)
inductive LLe : List D -> List D -> Prop where
 | nil : LLe [] []
 | cons {d d' : D} {l l' : List D} (h : DLe d d') (t : LLe l l') : LLe (d :: l) (d' :: l')
theorem LLe.len {l l' : List D} (h : LLe l l') : l.length = l'.length := by
 induction h with
 | nil => rfl
 | cons _ _ ih => simp [ih]
theorem LLe.get {l l' : List D} (h : LLe l l') : ∀ (j : Nat) (d d' : D),l[j]? = some d -> l'[j]? = some d' -> DLe d d' := by
 induction h with
 | nil => intro j d d' h; simp at h
 | cons h t ih =>
  intro j d d' h1 h2;cases j with
  | zero =>
   simp only [cz,oIQ] at h1 h2;subst h1; subst h2; exact h
  | succ j => exact ih j d d' (by simpa using h1) (by simpa using h2)
theorem DLe.two {sz : Nat} {a b a' b' : List D} (h1 : LLe a a') (h2 : LLe b b') : DLe (.sl sz [a,b]) (.sl sz [a',b']) :=
 .sl sz rfl (fun i ds ds' h h' => by
  match i,h,h' with
  | 0,h,h' => cases h; cases h'; exact h1.len
  | 1,h,h' => cases h; cases h'; exact h2.len
  | i + 2,h,h' => simp at h) (fun i j ds ds' d d' h h' hd hd' => by
  match i,h,h' with
  | 0,h,h' => cases h; cases h'; exact h1.get j d d' hd hd'
  | 1,h,h' => cases h; cases h'; exact h2.get j d d' hd hd'
  | i + 2,h,h' => simp at h)
theorem aII {w : World} {pl : Pl} {own : V.Own} {l l' : List D} (h : LLe l l') : ∀ {vs : List Value},All2 (COk w pl own) (l.map .d) vs -> All2 (COk w pl own) (l'.map .d) vs := by
 intro vs hv;have hl := h.len;refine ⟨by simpa [hl] using hv.1,fun j x y hx hy => ?_⟩;rw [List.getElem?_map] at hx;cases hj : l'[j]? with
 | none => rw [hj] at hx; cases hx
 | some d' =>
  rw [hj] at hx;simp only [Option.map_some,oIQ] at hx;subst hx;have hlt := (gsQ.1 hj).1;have hj0 : l[j]? = some (l[j]'(by omega)) := ge (by omega);have := hv.2 j (.d (l[j]'(by omega))) y (by rw [List.getElem?_map,hj0]; rfl) hy;exact rd_le (h.get j _ d' hj0 hj) this
variable {g : Gv} {f : FuncId} {ins : List SV} {refs post : aZ}
theorem aFK {out out' : SV} (h : V.Spec Tryz.prog (Gl g) f ins refs out post) (hw : ∀ (w : World) (pl : Pl) (own : V.Own) (v : Value),bD w pl own out v -> bD w pl own out' v) : V.Spec Tryz.prog (Gl g) f ins refs out' post := by
 intro fr w pl args h0 hG m ha;refine (h fr w pl args h0 hG m ha).mono ?_;rintro e w' ⟨v,pl',rfl,m',hs⟩;exact ⟨v,pl',rfl,m',hw _ _ _ _ hs⟩
theorem le_c {d d' : D} (h : V.Spec Tryz.prog (Gl g) f ins refs (.c (.d d)) post) (hd : DLe d d') : V.Spec Tryz.prog (Gl g) f ins refs (.c (.d d')) post :=
 aFK h fun w pl own v hv => rd_le hd hv
theorem eB {l l' : List D} (h : V.Spec Tryz.prog (Gl g) f ins refs (.agg (l.map .d)) post) (hd : LLe l l') : V.Spec Tryz.prog (Gl g) f ins refs (.agg (l'.map .d)) post :=
 aFK h fun w pl own v hv => by
  obtain ⟨vs,rfl,h2⟩ := hv;exact ⟨vs,rfl,aII hd h2⟩
theorem aN9 {l l' : List D} {b : Bool} {e : Bool × List C} (h : V.Spec Tryz.prog (Gl g) f ins refs (.tup [(b,l.map .d),e]) post) (hd : LLe l l') (hb : b = true) : V.Spec Tryz.prog (Gl g) f ins refs (.tup [(b,l'.map .d),e]) post :=
 aFK h fun w pl own v hv => by
  subst hb;obtain ⟨vs,rfl,h2⟩ := hv;obtain ⟨y,ys,rfl,h3,h4⟩ := h2.uncons;obtain ⟨us,rfl,h5⟩ := h3;exact ⟨_,rfl,All2.cons ⟨us,rfl,aII hd h5⟩ h4⟩
theorem v6 (s : ByteArray) : LLe [.i 1,.s s,.i 0,.i 0,.i 0,nlD,nlD] [.i 1,.s s,.i 0,.i 0,.i 0,.sl 1 [],.sl 1 []] := .cons (.refl _) (.cons (.refl _) (.cons (.refl _) (.cons (.refl _) (.cons (.refl _) (.cons (.nil 1) (.cons (.nil 1) .nil))))))
theorem le_tx' (s : ByteArray) : LLe [.i 1,.s s,.i 0,.i 0,.i 0,.sl 1 [],nlD] [.i 1,.s s,.i 0,.i 0,.i 0,.sl 1 [],.sl 1 []] := .cons (.refl _) (.cons (.refl _) (.cons (.refl _) (.cons (.refl _) (.cons (.refl _) (.cons (.refl _) (.cons (.nil 1) .nil))))))
theorem v7 (e : Int) : LLe [.i 0,.s (S []),.i 0,.i 0,.i e,nlD,nlD] [.i 0,.s (S []),.i 0,.i 0,.i e,.sl 1 [],.sl 1 []] := .cons (.refl _) (.cons (.refl _) (.cons (.refl _) (.cons (.refl _) (.cons (.refl _) (.cons (.nil 1) (.cons (.nil 1) .nil))))))
end
section
variable {g : Gv}
theorem eqX (s : ByteArray) (h : conj [Value.bool (s.toList == s.toList) = .bool true]) : SX g 63 [aT s,.agg [cI 1,cS s,cI 0,cI 0,cI 0,.d nlD,.d nlD]] (.c (cB true)) :=
 sX nFQ (fun k => bif Nat.beq k 113 then some (.bool true) else none) nFQ (T := []) (by kernel_rfl) h
theorem rightX2 (s : ByteArray) (h : conj [SX g 63 [aT s,.agg [cI 1,cS s,cI 0,cI 0,cI 0,.d nlD,.d nlD]] (.c (cB true)),SX g 214 [.c (cS s)] (.c (cB true))]) : SX g 145 [aT s] (.c (cB true)) :=
 kT1 [a7 214 (.c (cB true)),a7 63 (.c (cB true))] h
theorem textX (s q : ByteArray) (h : conj [SX g 147 [.c (cS s)] (.c (cS q)),SX g 145 [aT s] (.c (cB true))]) : SX g 92 [aT s] (.c (cS q)) :=
 kT1 [a7 145 (.c (cB true)),a7 147 (.c (cS q))] h
end
section
variable {g : Gv}
def rowTx : List (List UInt8) := [[65],[66],[97],[97,49],[49,50,45,120],[],[72,73,71,72],[88,49]]
def zeD : List D := [.i 0,.s (S []),.i 0,.i 0,.i 0,nlD,nlD]
theorem rowX00 (l : List Int) (v1 q1 w1 q2 v2 q3 w2 q4 : Int) (t1 t2 : List UInt8) (h : conj [decide (w2 = 11) = false,Nx g l q3 12 w2 q4,Nx g l q2 8 v2 q3,0 <= v2 /\ (rowTx.map fun t => [D.s (S t)])[v2.toNat]? = some [.s (S t2)],decide (w1 = 11) = false,Nx g l q1 12 w1 q2,Nx g l 0 8 v1 q1,0 <= v1 /\ (rowTx.map fun t => [D.s (S t)])[v1.toNat]? = some [.s (S t1)]]) : SX g 88 [.agg g0C,.c (cM 1 (intsD l))] (.c (cM 7 [txD t1,txD t2])) :=
 sX (tlO [(133,true),(140,false),(173,true),(180,false)]) nFQ (tlH [(133,[.s (S t1)]),(173,[.s (S t2)])]) (T := [wR (tl2 [(131,v1,q1),(137,w1,q2),(171,v2,q3),(177,w2,q4)])]) (by kernel_rfl) h
theorem rowX01 (l : List Int) (v1 q1 w1 q2 v2 q3 w2 q4 : Int) (t1 t2 : List UInt8) (h : conj [decide (w2 = 11) = true,Nx g l q3 12 w2 q4,Nx g l q2 8 v2 q3,0 <= v2 /\ (rowTx.map fun t => [D.s (S t)])[v2.toNat]? = some [.s (S t2)],decide (w1 = 11) = false,Nx g l q1 12 w1 q2,Nx g l 0 8 v1 q1,0 <= v1 /\ (rowTx.map fun t => [D.s (S t)])[v1.toNat]? = some [.s (S t1)]]) : SX g 88 [.agg g0C,.c (cM 1 (intsD l))] (.c (cM 7 [txD t1,zeD])) :=
 sX (tlO [(133,true),(140,false),(173,true),(180,true)]) nFQ (tlH [(133,[.s (S t1)]),(173,[.s (S t2)])]) (T := [wR (tl2 [(131,v1,q1),(137,w1,q2),(171,v2,q3),(177,w2,q4)])]) (by kernel_rfl) h
theorem rowX10 (l : List Int) (v1 q1 w1 q2 v2 q3 w2 q4 : Int) (t1 t2 : List UInt8) (h : conj [decide (w2 = 11) = false,Nx g l q3 12 w2 q4,Nx g l q2 8 v2 q3,0 <= v2 /\ (rowTx.map fun t => [D.s (S t)])[v2.toNat]? = some [.s (S t2)],decide (w1 = 11) = true,Nx g l q1 12 w1 q2,Nx g l 0 8 v1 q1,0 <= v1 /\ (rowTx.map fun t => [D.s (S t)])[v1.toNat]? = some [.s (S t1)]]) : SX g 88 [.agg g0C,.c (cM 1 (intsD l))] (.c (cM 7 [zeD,txD t2])) :=
 sX (tlO [(133,true),(140,true),(175,true),(182,false)]) nFQ (tlH [(133,[.s (S t1)]),(175,[.s (S t2)])]) (T := [wR (tl2 [(131,v1,q1),(137,w1,q2),(173,v2,q3),(179,w2,q4)])]) (by kernel_rfl) h
theorem rowX11 (l : List Int) (v1 q1 w1 q2 v2 q3 w2 q4 : Int) (t1 t2 : List UInt8) (h : conj [decide (w2 = 11) = true,Nx g l q3 12 w2 q4,Nx g l q2 8 v2 q3,0 <= v2 /\ (rowTx.map fun t => [D.s (S t)])[v2.toNat]? = some [.s (S t2)],decide (w1 = 11) = true,Nx g l q1 12 w1 q2,Nx g l 0 8 v1 q1,0 <= v1 /\ (rowTx.map fun t => [D.s (S t)])[v1.toNat]? = some [.s (S t1)]]) : SX g 88 [.agg g0C,.c (cM 1 (intsD l))] (.c (cM 7 [zeD,zeD])) :=
 sX (tlO [(133,true),(140,true),(175,true),(182,true)]) nFQ (tlH [(133,[.s (S t1)]),(175,[.s (S t2)])]) (T := [wR (tl2 [(131,v1,q1),(137,w1,q2),(173,v2,q3),(179,w2,q4)])]) (by kernel_rfl) h
abbrev y39 : SV := .tup [(true,[.d (nlD),cI 0,cI 0,cI 0,cI 0,.d (nlD)]),(false,[cB true])]
abbrev y40 : SV := .tup [(false,[.d (nlD)]),(false,[cI 1]),(false,[cI 0])]
abbrev y41 (a0 : LD) : SV := .tup [(false,[cM 1 a0]),(false,[cI 1]),(false,[cI 0])]
abbrev y43 (a0 : LD) : SV := .tup [(false,[cM 1 a0]),(false,[cB true])]
end
end Go.Proofs.YtclaplngjmgnoaaGreatDoor
