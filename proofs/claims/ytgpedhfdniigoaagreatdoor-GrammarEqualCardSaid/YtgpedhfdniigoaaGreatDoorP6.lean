/- Part 6 of the proof. -/
import Derived.Test.YtgpedhfdniigoaaGreatDoorP5
set_option linter.all false
namespace Go.V
open Go.RowKit
section
variable {P : Program} {fr : Fr} {own : Own} {a : Act} {w w' : World} {pl : Pl} {o : Oper} {p : Path} {lk : Lk}
def aFN (P : Program) (lk : Lk) (o : Oper) (t : TypeId) (x i : Operand) : Option Eff :=
 match P.underlying t,exO lk [] x,exO lk [] i with
 | some .string,some (.string s),some (.int _ n) => some ⟨.c (.d (.v (.int .u8 (Eng.byteAt s n)))),[],[],[0 <= n /\ n < (s.size : Int)]⟩
 | _,_,_ => aAR P lk o
theorem aIX (m : Mem fr own w pl) (hl : aX a w pl own p lk) (hp : Eng.Holds a p) {t : TypeId} {x ix : Operand} (hop : o.op = .index t x ix) {e : Eff} (h : aFN P lk o t x ix = some e) (ho : conj e.obl) : Does P fr own a w pl o e := by
 unfold aFN at h
 split at h
 rename_i s kd n hu hx hi
 simp only [oIQ] at h
 subst h
 have ho : 0 <= n /\ n < (s.size : Int) := ho
 have hlt : n.toNat < s.size := by omega
 refine aJ (v := .int .u8 (Eng.byteAt s n)) m ?_ (Rd.v _ rfl)
 unfold execOp
 simp only [hop,bD hl hp holds_nil hx,bD hl hp holds_nil hi]
 simp [Instr.index,asIntOf,run_underlying hu,ho.1,hlt,Eng.byteAt]
 rfl
 exact i7 m hl hp h
def kF (lk : Lk) (x : Option Operand) (dflt : Int) : Option (Option Value × Int) := match x with
 | none => some (none,dflt)
 | some y => match exO lk [] y with
  | some (.int k n) => some (some (.int k n),n)
  | _ => none
theorem gJ (hl : aX a w pl own p lk) (hp : Eng.Holds a p) {x : Option Operand} {d : Int} {v : Option Value} {n : Int} (h : kF lk x d = some (v,n)) : x.map a.eval = v /\ ((v = none /\ n = d) \/ ∃ k,v = some (.int k n)) := by
 unfold kF at h
 split at h
 simp only [oIQ,pIQ] at h; obtain ⟨rfl,rfl⟩ := h; exact ⟨rfl,.inl ⟨rfl,rfl⟩⟩
 split at h
 rename_i k n' hx
 simp only [oIQ,pIQ] at h
 obtain ⟨rfl,rfl⟩ := h
 exact ⟨by simp [bD hl hp holds_nil hx],.inr ⟨k,rfl⟩⟩
 cases h
theorem lF {isS : Bool} {len cap : Nat} {lo hi : Option Value} {l h : Int} (h1 : (lo = none /\ l = 0) \/ ∃ k,lo = some (.int k l)) (h2 : (hi = none /\ h = (len : Int)) \/ ∃ k,hi = some (.int k h)) (hb : 0 <= l /\ l <= h /\ h <= (cap : Int)) :
  (Instr.sliceBounds isS len cap lo hi none).run P w = .ok (l.toNat,h.toNat,cap) w := by
 obtain ⟨b1,b2,b3⟩ := hb
 have b4 : 0 <= h := by omega
 have b5 : l <= (h.toNat : Int) := by omega
 rcases h1 with ⟨rfl,rfl⟩ | ⟨k1,rfl⟩ <;> rcases h2 with ⟨rfl,rfl⟩ | ⟨k2,rfl⟩
 simp [Instr.sliceBounds]
 simp [Instr.sliceBounds,Instr.sliceBound,asIntOf,b3,b4]
 simp [Instr.sliceBounds,Instr.sliceBound,asIntOf,b1,b2]
 simp [Instr.sliceBounds,Instr.sliceBound,asIntOf,b1,b3,b4]
 omega
def aEQ (P : Program) (lk : Lk) (t : TypeId) (x : Operand) (lo hi : Option Operand) : Option Eff :=
 match P.underlying t,lk [] x with
 | some .string,some (.c (.d (.v (.string s)))) => match kF lk lo 0,kF lk hi s.size with
  | some (_,l),some (_,h) => some ⟨.c (.d (.v (.string (s.extract l.toNat h.toNat)))),[],[],[0 <= l /\ l <= h /\ h <= (s.size : Int)]⟩
  | _,_ => none
 | some (.slice e),some (.c (.d (.sl sz es))) => match kF lk lo 0,kF lk hi es.length,P.info? e with
  | some (_,l),some (_,h),some ti => if ti.size == sz then some ⟨.c (.d (.sl sz ((es.take h.toNat).drop l.toNat))),[],[],[0 <= l /\ l <= h /\ h <= (es.length : Int)]⟩ else none
  | _,_,_ => none
 | _,_ => none
theorem rd_part {F : Nat -> Prop} {sz : Nat} {es : LD} {A : Option Addr} {n c : Nat} (h : Rd w F (.sl sz es) (.slice A n c)) {l k : Nat} (h1 : l <= k) (h2 : k <= es.length) :
  Rd w F (.sl sz ((es.take k).drop l)) (.slice (if c = l then A else A.map (·.add (l * sz))) (k - l) (c - l)) /\ n = es.length /\ es.length <= c := by
 cases h with
 | nil =>
  simp only [lnQ,Nat.le_zero] at h2
  subst h2
  obtain rfl : l = 0 := by omega
  simp only [List.take_nil,List.drop_nil,lnQ,if_true,and_self,and_true,Nat.sub_self,lr]
  exact .nil sz
 | far sz ad =>
  simp only [lnQ,Nat.le_zero] at h2
  subst h2
  obtain rfl : l = 0 := by omega
  simp only [List.take_nil,List.drop_nil,lnQ,if_true,and_self,and_true,Nat.sub_self,lr]
  exact .far sz ad
 | sl us hF hb hc hm hs hu hr =>
  refine ⟨?_,rfl,hc⟩
  have hlen : ((es.take k).drop l).length = k - l := by simp; omega
  have hget : ∀ {i : Nat} {ds : List D},((es.take k).drop l)[i]? = some ds -> es[l + i]? = some ds := by
   intro i ds hi
   rw [List.getElem?_drop,List.getElem?_take] at hi
   split at hi
   ·exact hi
   ·cases hi
  rename_i b off cs e fz
  by_cases hcl : c = l
  ·subst hcl
   have hk : k = c := by omega
   subst hk
   have hnil : (es.take k).drop k = [] := List.eq_nil_of_length_eq_zero (by simp)
   rw [if_pos rfl,hnil]
   have := Rd.sl (w := w) (F := F) (sz := sz) (es := []) (c := k - k) (off := off) us hF hb (by simp) (by omega) (by simp) (by simp) (by simp)
   simpa using this
  ·rw [if_neg hcl]
   have := Rd.sl (w := w) (F := F) (sz := sz) (es := (es.take k).drop l) (c := c - l) (b := b) (off := off + l * sz) (cs := cs) (e := e) (fz := fz) (fun i j => us (l + i) j) hF hb (by rw [hlen]; omega) (by omega)
    (fun ds hd => hs ds (List.mem_of_mem_take (List.mem_of_mem_drop hd)))
    (fun i j ds d hi hj => by
     have := hu (l + i) j ds d (hget hi) hj
     rw [Nat.add_mul,<- Nat.add_assoc] at this
     exact this)
    (fun i j ds d hi hj => hr (l + i) j ds d (hget hi) hj)
   rw [hlen] at this
   simpa [addr_add] using this
theorem aID (m : Mem fr own w pl) (hl : aX a w pl own p lk) (hp : Eng.Holds a p) {t : TypeId} {x : Operand} {lo hi : Option Operand} (hop : o.op = .slice t x lo hi none) {e : Eff} (h : aEQ P lk t x lo hi = some e) (ho : conj e.obl) : Does P fr own a w pl o e := by
 unfold aEQ at h
 split at h
 rename_i s hu hx
 split at h
 rename_i v1 l v2 hh hb1 hb2
 simp only [oIQ] at h
 subst h
 have ho : 0 <= l /\ l <= hh /\ hh <= (s.size : Int) := ho
 have hv : a.eval x = .string s := Rd.exact (hl [] x _ hx holds_nil hp)
 obtain ⟨e1,k1⟩ := gJ hl hp hb1
 obtain ⟨e2,k2⟩ := gJ hl hp hb2
 refine aJ (v := .string (s.extract l.toNat hh.toNat)) m ?_ (Rd.v _ rfl)
 unfold execOp
 simp only [hop,hv,e1,e2,Option.map_none]
 have := lF (P := P) (w := w) (isS := false) (len := s.size) (cap := s.size) k1 k2 ho
 simp [Instr.sliceAt,run_underlying hu,Instr.slice,this]
 cases h
 rename_i el sz es hu hx
 split at h
 rename_i v1 l v2 hh ti hb1 hb2 hti
 split at h
 rename_i hsz
 simp only [beq_iff_eq] at hsz
 simp only [oIQ] at h
 subst h
 have ho : 0 <= l /\ l <= hh /\ hh <= (es.length : Int) := ho
 have hv : Rd _ _ _ _ := hl [] x _ hx holds_nil hp
 obtain ⟨A,c,hA,_,_⟩ := mG hv
 rw [hA] at hv
 obtain ⟨hr,_,hc⟩ := rd_part hv (l := l.toNat) (k := hh.toNat) (by omega) (by omega)
 obtain ⟨e1,k1⟩ := gJ hl hp hb1
 obtain ⟨e2,k2⟩ := gJ hl hp hb2
 refine aJ m ?_ hr
 unfold execOp
 simp only [hop,hA,e1,e2,Option.map_none]
 have := lF (P := P) (w := w) (isS := true) (len := es.length) (cap := c) k1 k2 ⟨ho.1,ho.2.1,by omega⟩
 simp [Instr.sliceAt,run_underlying hu,Instr.slice,this,sizeOf,typeInfo,hti,hsz]
 cases h
 cases h
 cases h
def lenE (P : Program) (lk : Lk) (ob : Own) (o : Oper) (t : TypeId) (x : Operand) : Option Eff :=
 match P.underlying t,lk [] x with
 | some (.slice _),some (.c (.d (.sl _ es))) => some ⟨.c (.d (.v (.int .i64 (es.length : Int)))),[],[],[]⟩
 | some (.slice _),some (.c (.ar i k)) => match ob i with
  | some (.arr k' _ _ es) => if k' == k then some ⟨.c (.d (.v (.int .i64 (es.length : Int)))),[],[i],[]⟩ else none
  | _ => none
 | _,_ => aAR P lk o
theorem lenE_ok (m : Mem fr own w pl) (hl : aX a w pl own p lk) (hp : Eng.Holds a p) {t : TypeId} {x : Operand} (hop : o.op = .call { callee := .builtin .len,args := #[x],argTypes := #[t] }) {ob : Own} {e : Eff} (h : lenE P lk ob o t x = some e) (hob : ∀ i ∈ e.touch,own i = ob i) : Does P fr own a w pl o e := by
 unfold lenE at h
 have fin : ∀ (el : TypeId) (A : Option Addr) (n c : Nat),P.underlying t = some (.slice el) -> a.eval x = .slice A n c -> (execOp a.eval o).run P w = .ok (.value (.int .i64 (n : Int))) w := by
  intro el A n c hu hv
  unfold execOp
  simp only [hop,resolve,invoke,builtin,Sem.run_bind,Sem.run_pure,an,List.map_toArray,mp1,List.map_nil,hv]
  simp [Builtin.len_,run_underlying hu,goInt]
 split at h
 rename_i el sz es hu hx
 simp only [oIQ] at h
 subst h
 have hv : Rd _ _ _ _ := hl [] x _ hx holds_nil hp
 obtain ⟨A,c,hA,_,_⟩ := mG hv
 exact aJ m (fin _ _ _ _ hu hA) (Rd.v _ rfl)
 rename_i el i k hu hx
 split at h
 rename_i k' e' sz es hbx
 split at h
 rename_i hk
 simp only [beq_iff_eq] at hk
 subst hk
 simp only [oIQ] at h
 subst h
 have hj : own i = some (.arr k' e' sz es) := by rw [hob i (by simp),hbx]
 have hv := cD (w := w) (hl [] x _ hx holds_nil hp) hj
 exact aJ m (fin _ _ _ _ hu hv) (Rd.v _ rfl)
 cases h
 cases h
 exact i7 m hl hp h
def bytesD (l : List UInt8) : LD := l.map fun b => [.v (.int .u8 (b.toNat : Int))]
def eqBy : LD -> List UInt8 -> Bool
 | [],[] => true
 | [.v (.int .u8 n)] :: r,b :: t => (n == (b.toNat : Int)) && eqBy r t
 | _,_ => false
theorem aHJ : ∀ {es : LD} {l : List UInt8},eqBy es l = true -> es = bytesD l
 | [],[],_ => rfl
 | [.v (.int .u8 n)] :: r,b :: t,h => by
  simp only [eqBy,bIQ,beq_iff_eq] at h
  rw [h.1,aHJ h.2]; rfl
def Obl.bytes (es : LD) (r : ByteArray) : Obl := ⟨es = bytesD r.data.toList,eqBy es r.data.toList,aHJ,false⟩
def aMJ (P : Program) (lk : Lk) (ob : Own) (o : Oper) (s d : TypeId) (x : Operand) (hint : Hint) : Option Eff :=
 match hint with
 | .call (.c (.d (.v (.string r)))) _ _ => match P.underlying s,P.underlying d,lk [] x with
  | some (.slice e),some .string,some (.c (.d (.sl 1 es))) => match P.underlying e with
   | some (.int .u8) => some ⟨.c (.d (.v (.string r))),[],[],[.bytes es r]⟩
   | _ => none
  | some (.slice e),some .string,some (.c (.ar i k)) => match P.underlying e,ob i with
   | some (.int .u8),some (.arr k' ⟨_,[]⟩ 1 es) => if k' == k then some ⟨.c (.d (.v (.string r))),[],[i],[.bytes es r]⟩ else none
   | _,_ => none
  | _,_,_ => none
 | _ => aAR P lk o
theorem eD (l : List UInt8) : (bytesD l).length = l.length := by simp [bytesD]
theorem mk_data (r : ByteArray) : (⟨r.data.toList.toArray⟩ : ByteArray) = r := by cases r; simp
theorem aIG {s d e : TypeId} {A : Option Addr} {c : Nat} {r : ByteArray} (hs : P.underlying s = some (.slice e)) (he : P.underlying e = some (.int .u8)) (hd : P.underlying d = some .string)
  (hA : ∀ (j : Nat) (b : UInt8),r.data.toList[j]? = some b -> ∃ ad,A = some ad /\ ad.spot = none /\ w.cell? ⟨ad.block,ad.off + j,none⟩ = some (.int .u8 (b.toNat : Int))) :
  (convert s d (.slice A r.data.toList.length c)).run P w = .ok (.string r) w := by
 rcases A with _ | ad
 have hn : r.data.toList = [] := by
  cases h : r.data.toList with
  | nil => rfl
  | cons x l => obtain ⟨ad,h1,_⟩ := hA 0 x (by rw [h]; rfl); cases h1
 have hr : r = ⟨#[]⟩ := by rw [<- mk_data r,hn]
 rw [hr]
 exact run_convert_bytes_nil w s e hs he 0 c d hd
 cases h : r.data.toList with
 | nil =>
  have hr : r = ⟨#[]⟩ := by rw [<- mk_data r,h]
  rw [hr,run_convert_bytes_string w s d e _ _ c hs he hd]
  simp [Conv.bytesToString,loadCells,loadCellsFrom]
  rfl
 | cons x l =>
  obtain ⟨ad',h1,h2,_⟩ := hA 0 x (by rw [h]; rfl)
  injection h1 with h1
  subst h1
  obtain ⟨g,off,spot⟩ := ad
  simp only at h2
  subst h2
  rw [<- h,run_convert_bytes_arg w s e hs he g off _ c (r.data.toList.map fun b => (b.toNat : Int)) (by simp) (fun i hi => ?_) d hd,Eng.strOfNums_bytes,mk_data]
  obtain ⟨ad',h3,_,h4⟩ := hA i (r.data.toList[i]) (ge hi)
  injection h3 with h3
  subst h3
  rw [h4]
  have hi' : i < r.data.size := by simpa using hi
  simp
  rw [Array.getElem?_eq_getElem hi']
  rfl
theorem aMI (m : Mem fr own w pl) (hl : aX a w pl own p lk) (hp : Eng.Holds a p) {s d : TypeId} {x : Operand} (hop : o.op = .convert s d x) {ob : Own} {hint : Hint} {e : Eff} (h : aMJ P lk ob o s d x hint = some e) (hob : ∀ i ∈ e.touch,own i = ob i) (ho : conj e.obl) : Does P fr own a w pl o e := by
 unfold aMJ at h
 have fin : ∀ (r : ByteArray) (el : TypeId) (A : Option Addr) (c : Nat),P.underlying s = some (.slice el) -> P.underlying el = some (.int .u8) -> P.underlying d = some .string -> a.eval x = .slice A r.data.toList.length c ->
   (∀ (j : Nat) (b : UInt8),r.data.toList[j]? = some b -> ∃ ad,A = some ad /\ ad.spot = none /\ w.cell? ⟨ad.block,ad.off + j,none⟩ = some (.int .u8 (b.toNat : Int))) -> (execOp a.eval o).run P w = .ok (.value (.string r)) w := by
  intro r el A c h1 h2 h3 hv hA
  unfold execOp
  simp only [hop,hv]
  simp only [Sem.run_bind,aIG h1 h2 h3 hA]
  rfl
 split at h
 rename_i r _ _
 split at h
 rename_i el es hs hd hx
 split at h
 rename_i he
 simp only [oIQ] at h
 subst h
 have ho : es = bytesD r.data.toList := ho
 subst ho
 have hv : Rd _ _ _ _ := hl [] x _ hx holds_nil hp
 obtain ⟨A,c,hA,_,_⟩ := mG hv
 rw [eD] at hA
 refine aJ m (fin r el A c hs he hd hA fun j b hj => ?_) (Rd.v _ rfl)
 obtain ⟨g,off,c',cs,e',fz,us,hv',hF,hb,hcell⟩ := wV hv (k := j) (ds := [.v (.int .u8 (b.toNat : Int))]) (by simp [bytesD,hj])
 rw [hA] at hv'
 injection hv' with h1 h2 h3
 obtain ⟨h4,h5⟩ := hcell 0 _ rfl
 refine ⟨⟨g,off,none⟩,h1,rfl,?_⟩
 rw [Rd.exact h5] at h4
 rw [cell_of_row w g (off + j) cs e' fz hb]
 simpa using h4
 cases h
 rename_i el i k hs hd hx
 split at h
 rename_i k' e' es he hbx
 split at h
 rename_i hk
 simp only [beq_iff_eq] at hk
 subst hk
 simp only [oIQ] at h
 subst h
 have ho : es = bytesD r.data.toList := ho
 subst ho
 have hj : own i = some (.arr k' ⟨e',[]⟩ 1 (bytesD r.data.toList)) := by rw [hob i (by simp),hbx]
 have hv := cD (w := w) (hl [] x _ hx holds_nil hp) hj
 rw [eD] at hv
 refine aJ m (fin r el _ _ hs he hd hv fun j b hjj => ?_) (Rd.v _ rfl)
 obtain ⟨g,cur,hA,hb,_,hL⟩ := tO (m.obj i _ hj) (idx := j) (ds := [.v (.int .u8 (b.toNat : Int))]) (by simp [bytesD,hjj])
 obtain ⟨u,hu,hok⟩ := hL 0 _ rfl
 refine ⟨⟨g,0,none⟩,hA,rfl,?_⟩
 rw [Rd.exact hok] at hu
 rw [cell_of_row w g _ cur e' (0,0) hb]
 simpa using hu
 cases h
 cases h
 cases h
 exact i7 m hl hp h
end
end Go.V
