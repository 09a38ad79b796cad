/- Part 5 of the proof. -/
import Derived.Test.YtgpedhfdniigoaaGreatDoorP4
set_option linter.all false
namespace Go.V
open Go.RowKit
section
variable {P : Program} {fr : Fr} {own : Own} {a : Act} {w w' : World} {pl : Pl} {o : Oper} {p : Path} {lk : Lk}
theorem addr_add (g off k : Nat) : (⟨g,off,none⟩ : Addr).add k = ⟨g,off + k,none⟩ := Eng.addr_add g off k
theorem u6 {t : TypeId} {b : Bool} (h : Eng.isAggB P t = some b) : (isAgg t).run P w = .ok b w := by
 unfold Eng.isAggB at h
 split at h
 rename_i hu; simp only [oIQ] at h; subst h; simp [isAgg,run_underlying hu]
 rename_i hu; simp only [oIQ] at h; subst h; simp [isAgg,run_underlying hu]
 rename_i dd h1 h2 hu
 simp only [oIQ] at h; subst h
 cases dd <;> simp_all [isAgg,run_underlying hu]
 cases h
def aF1 (P : Program) (lk : Lk) (o : Oper) (t : TypeId) (x : Operand) (f : Nat) : Option Eff :=
 match lk [] x with
 | some (.agg cs) => match P.underlying t with
  | some (.struct fs) => match fs[f]? with
   | some fd => match j0 P fd.type cs fd.offset with
    | some s => some ⟨s,[],[],[]⟩
    | none => none
   | none => none
  | _ => none
 | _ => aAR P lk o
theorem iH {cells : List C} {vs : List Value} (h : All2 (COk w pl own) cells vs) : aNC w pl own cells vs 0 := fun j c hc => by
 obtain ⟨u,hu,hok⟩ := h.get hc
 exact ⟨u,by simpa using hu,hok⟩
theorem aJ2 {t : TypeId} {L : List Value} {off : Nat} {v : Value} (h : Eng.loadB P t L off = some v) : (part t L.toArray off).run P w = .ok v w := by
 unfold Eng.loadB at h
 split at h
 rename_i ht
 split at h
 rename_i i hi
 split at h
 simp only [oIQ] at h
 subst h
 simp [part,u6 ht,sizeOf,typeInfo,hi,List.take_drop]
 cases h
 cases h
 rename_i ht; simp [part,u6 ht,h]
 cases h
theorem aI4 (m : Mem fr own w pl) (hl : aX a w pl own p lk) (hp : Eng.Holds a p) {t : TypeId} {x : Operand} {f : Nat} (hop : o.op = .field t x f) {e : Eff} (h : aF1 P lk o t x f = some e) : Does P fr own a w pl o e := by
 unfold aF1 at h
 split at h
 rename_i cs hcs
 split at h
 rename_i fs hu
 split at h
 rename_i fd hfd
 split at h
 rename_i s hs
 simp only [oIQ] at h
 subst h
 obtain ⟨vs,hv,h2⟩ := hl [] x _ hcs holds_nil hp
 obtain ⟨v,hv2,hok⟩ := fG hs (iH h2)
 rw [Nat.zero_add] at hv2
 refine aJ (v := v) m ?_ hok
 unfold execOp
 simp only [hop,hv]
 simp [Instr.field,run_underlying hu,hfd,asAgg,aJ2 hv2]
 cases h
 cases h
 cases h
 exact i7 m hl hp h
inductive Hint where
 | none
 | elem (ds : List D)
 | call (out : SV) (fo : List (Nat × Ob)) (ro : LD)
 | callG (out : SV) (rs : List Nat) (post : List (Nat × Ob))
 | mask (ms : List (Option Nat))
 | dead (sv : SV)
 | auto
def Hint.ms : Hint -> List (Option Nat)
 | .mask ms => ms
 | .elem ds => ds.map fun d => match d with
  | .sl n _ => some n
  | .v _ => Option.none
 | _ => []
def Hint.fz : Hint -> Bool
 | .elem _ => true
 | _ => false
def aLO (P : Program) (G : List (Nat × List Value)) (lk : Lk) (ob : Own) (t : TypeId) (x : Operand) (hint : Hint) : Option Eff :=
 match lk [] x with
 | some (.c (.bx i off)) => match ob i with
  | some (.box ⟨.c _,_⟩ cells) => match j0 P t cells off with
   | some s => some ⟨s,[],[i],[]⟩
   | none => none
  | _ => none
 | some (.c (.pe ds off)) => match j0 P t (ds.map .d) off with
  | some s => some ⟨s,[],[],[]⟩
  | none => none
 | some (.c (.pg g off)) => match G.find? (fun x => x.1 == g),hint with
  | some (_,cells),.elem [.v u] => match Eng.isAggB P t with
   | some false => if u.oneCell' then some ⟨.c (.d (.v u)),[],[],[.un (cells[off]? = some u)]⟩ else none
   | _ => none
  | some (_,cells),.auto => match Eng.isAggB P t,cells[off]? with
   | some false,some u => if u.oneCell' then some ⟨.c (.d (.v u)),[],[],[]⟩ else none
   | _,_ => none
  | _,_ => none
 | some (.c (.ea i k idx off)) => match ob i,hint with
  | some (.arr k' ⟨_,[]⟩ sz es),.elem ds => if k' == k && ds.length == sz then match j0 P t (ds.map .d) off with
    | some s => some ⟨s,[],[i],[.un (es[idx]? = some ds)]⟩
    | none => none
   else none
  | some (.arr k' ⟨_,[]⟩ sz es),.auto => match es[idx]? with
   | some ds => if k' == k && ds.length == sz then match j0 P t (ds.map .d) off with
     | some s => some ⟨s,[],[i],[]⟩
     | none => none
    else none
   | none => none
  | some (.arr k' ⟨_,x :: ov⟩ 1 es),.none => if k' == k && (Eng.isAggB P t == some false) then match (x :: ov).lookup (idx + off) with
    | some c => some ⟨.c c,[],[i],[off = 0 /\ idx < es.length]⟩
    | none => none
   else none
  | _,_ => none
 | _ => none
theorem eJ {t : TypeId} {x : Operand} (hop : o.op = .load t x) (m : Mem fr own w pl) {b off : Nat} {L : List Value} {e : TypeId} {fz : Nat × Nat} {v : Value} {s : SV} {tc : List Nat} {c : List Obl} (hx : a.eval x = .pointer (some ⟨b,off,none⟩))
  (hb : w.heap[b]? = some (.cells L.toArray e fz)) (hv : Eng.loadB P t L off = some v) (hs : aV w pl own s v) : Does P fr own a w pl o ⟨s,[],tc,c⟩ := by
 refine aJ (v := v) m ?_ hs
 unfold execOp
 simp only [hop,hx]
 simp [Eng.run_loadB hv hb]
theorem dK {α : Type} {sz : Nat} : ∀ {es : List (List α)} (_ : ∀ ds,ds ∈ es -> ds.length = sz) {i j : Nat} {ds : List α} {d : α},es[i]? = some ds -> ds[j]? = some d -> es.flatten[i * sz + j]? = some d
 | [],_,i,j,ds,d,h,_ => by simp at h
 | x :: r,hs,0,j,ds,d,h,hj => by
  simp only [cz,oIQ] at h
  subst h
  simp only [Nat.zero_mul,Nat.zero_add,List.flatten_cons]
  rw [List.getElem?_append_left (gsQ.1 hj).1]
  exact hj
 | x :: r,hs,i + 1,j,ds,d,h,hj => by
  simp only [List.getElem?_cons_succ] at h
  have hx := hs x (by simp)
  have ih := dK (sz := sz) (es := r) (fun ds hd => hs ds (by simp [hd])) h hj
  simp only [List.flatten_cons]
  rw [List.getElem?_append_right (by rw [hx,Nat.succ_mul]; omega),hx]
  have : (i + 1) * sz + j - sz = i * sz + j := by rw [Nat.succ_mul]; omega
  rw [this]; exact ih
theorem a8 {α : Type} {sz : Nat} : ∀ {es : List (List α)} (_ : ∀ ds,ds ∈ es -> ds.length = sz),es.flatten.length = es.length * sz
 | [],_ => by simp
 | x :: r,hs => by
  simp only [List.flatten_cons,la,lc,hs x (by simp),a8 (es := r) (fun ds hd => hs ds (by simp [hd])),Nat.succ_mul]
  omega
theorem tO {B i k : Nat} {e : TypeId} {sz : Nat} {es : LD} (h : ObOk B w pl own i (.arr k ⟨e,[]⟩ sz es)) {idx : Nat} {ds : List D} (hd : es[idx]? = some ds) :
  ∃ b cur,(pl.sl i).1 = some ⟨b,0,none⟩ /\ w.heap[b]? = some (.cells cur e (0,0)) /\ B <= b /\ aNC w pl own (ds.map .d) cur.toList (idx * sz) := by
 obtain ⟨xs,hx,hr,hs⟩ := h
 have hlt := (gsQ.1 hd).1
 rcases hx.2 with ⟨_,h0⟩ | ⟨g,cap,cur,hv,hB,hg,hn,hc,hsz,htk⟩
 omega
 injection hv with hA _ hcap
 refine ⟨g,cur,hA,hg,hB,fun j c hc => ?_⟩
 simp only [List.getElem?_map,me] at hc
 obtain ⟨d,hj,rfl⟩ := hc
 obtain ⟨u,hu,hru⟩ := (AllO.pure hr).get (dK hs hd hj)
 refine ⟨u,?_,hru⟩
 rw [<- htk,List.getElem?_take] at hu
 split at hu
 exact hu
 cases hu
theorem aMZ {B i k : Nat} {e : TypeId} {ov : List (Nat × C)} {es : LD} (h : ObOk B w pl own i (.arr k ⟨e,ov⟩ 1 es)) {idx b : Nat} (hlt : idx < es.length) (hA : (pl.sl i).1 = some ⟨b,0,none⟩) {c : C} (hl : ov.lookup (idx + 0) = some c) :
  ∃ u cur fz,w.heap[b]? = some (.cells cur e fz) /\ cur.toList[idx * 1 + 0]? = some u /\ COk w pl own c u := by
 obtain ⟨xs,hx,hr,hs⟩ := h
 have hfl := a8 hs
 have hj : idx < es.flatten.length := by rw [hfl]; omega
 have hj2 : idx < xs.length := by rw [<- hr.1]; exact hj
 have hok := hr.2 idx _ _ (ge hj) (ge hj2)
 rw [Nat.add_zero] at hl
 rw [show (AT.mk e ov).ov = ov from rfl,hl] at hok
 rcases hx.all.2 with ⟨_,h0⟩ | ⟨g,cap,cur,fz,hv,hB,hg,hn,hsz,htk⟩
 omega
 injection hv with hA' _ hcap
 rw [hA] at hA'
 simp only [oIQ,Addr.mk.injEq,and_true] at hA'
 subst hA'
 refine ⟨xs[idx],cur,fz,hg,?_,hok⟩
 have : ∃ u,xs[idx]? = some u /\ u = xs[idx] := ⟨_,ge hj2,rfl⟩
 obtain ⟨u,hu,hue⟩ := this
 rw [<- hue]
 rw [<- htk,List.getElem?_take] at hu
 split at hu
 simpa using hu
 cases hu
theorem aLN (m : Mem fr own w pl) (hl : aX a w pl own p lk) (hp : Eng.Holds a p) {t : TypeId} {x : Operand} (hop : o.op = .load t x) {ob : Own} {hint : Hint} {e : Eff} (h : aLO P fr.G lk ob t x hint = some e) (hob : ∀ i ∈ e.touch,own i = ob i) (ho : conj e.obl) : Does P fr own a w pl o e := by
 unfold aLO at h
 split at h
 rename_i i off hx
 split at h
 rename_i ty q cells hbx
 split at h
 rename_i s hs
 simp only [oIQ] at h
 subst h
 have hi : own i = some (.box ⟨.c ty,q⟩ cells) := by rw [hob i (by simp),hbx]
 obtain ⟨_,hv⟩ := hl [] x _ hx holds_nil hp
 obtain ⟨vs,hb,h2⟩ := m.obj i _ hi
 obtain ⟨v,hv2,hok⟩ := fG hs (iH h2)
 rw [Nat.zero_add] at hv2
 exact eJ hop m hv hb hv2 hok
 cases h
 cases h
 rename_i ds off hx
 split at h
 rename_i s hs
 simp only [oIQ] at h
 subst h
 obtain ⟨b,o',cs,e',fz,us,hv,hF,hb,hd⟩ := hl [] x _ hx holds_nil hp
 have hL : aNC w pl own (ds.map .d) cs.toList o' := fun j c hc => by
  simp only [List.getElem?_map,me] at hc
  obtain ⟨d,hj,rfl⟩ := hc
  exact ⟨us j,by simpa using (hd j d hj).1,(hd j d hj).2⟩
 obtain ⟨v,hv2,hok⟩ := fG hs hL
 exact eJ (L := cs.toList) hop m hv (by simpa using hb) hv2 hok
 cases h
 rename_i g off hx
 split at h
 rename_i g' cells u hg
 split at h
 rename_i ht
 split at h
 rename_i hone
 simp only [oIQ] at h
 subst h
 have hmem := List.mem_of_find?_eq_some hg
 have hgg := List.find?_some hg
 simp only [beq_iff_eq] at hgg
 subst hgg
 obtain ⟨⟨ty,fz,hG⟩,hX⟩ := m.frOk.glob _ _ hmem
 have hv := hl [] x _ hx holds_nil hp
 have ho : cells[off]? = some u := ho
 have hkeep := m.keep g' (Array.getElem?_eq_some_iff.1 hG).1 hX
 exact eJ (L := cells) (v := u) hop m hv (by rw [hkeep]; exact hG) (by simp [Eng.loadB,ht,ho]) (Rd.v u hone)
 cases h
 cases h
 rename_i g' cells hg
 split at h
 rename_i u ht hoe
 split at h
 rename_i hone
 simp only [oIQ] at h
 subst h
 have hmem := List.mem_of_find?_eq_some hg
 have hgg := List.find?_some hg
 simp only [beq_iff_eq] at hgg
 subst hgg
 obtain ⟨⟨ty,fz,hG⟩,hX⟩ := m.frOk.glob _ _ hmem
 have hv := hl [] x _ hx holds_nil hp
 have hkeep := m.keep g' (Array.getElem?_eq_some_iff.1 hG).1 hX
 exact eJ (L := cells) (v := u) hop m hv (by rw [hkeep]; exact hG) (by simp [Eng.loadB,ht,hoe]) (Rd.v u hone)
 cases h
 cases h
 cases h
 rename_i i k idx off hx
 split at h
 rename_i k' e' sz es ds hbx
 split at h
 rename_i hc
 simp only [bIQ,beq_iff_eq] at hc
 obtain ⟨rfl,hds⟩ := hc
 split at h
 rename_i s hs
 simp only [oIQ] at h
 subst h
 have ho : es[idx]? = some ds := ho
 have hi : own i = some (.arr k' ⟨e',[]⟩ sz es) := by rw [hob i (by simp),hbx]
 obtain ⟨k2,e2,sz2,es2,hi2,_,hv,_⟩ := hl [] x _ hx holds_nil hp
 rw [hi] at hi2
 injection hi2 with hi2
 injection hi2 with h1 h2 h3 h4
 subst h1; subst h2; subst h3; subst h4
 obtain ⟨hlt,b,hA,hv⟩ := hv rfl
 obtain ⟨b',cur,hA',hb,_,hL⟩ := tO (m.obj i _ hi) ho
 rw [hA] at hA'
 simp only [oIQ,Addr.mk.injEq,and_true] at hA'
 subst hA'
 obtain ⟨v,hv2,hok⟩ := fG hs hL
 exact eJ (L := cur.toList) hop m hv (by simpa using hb) hv2 hok
 cases h
 cases h
 rename_i k' e' sz es hbx
 split at h
 rename_i ds hoe
 split at h
 rename_i hc
 simp only [bIQ,beq_iff_eq] at hc
 obtain ⟨rfl,hds⟩ := hc
 split at h
 rename_i s hs
 simp only [oIQ] at h
 subst h
 have hi : own i = some (.arr k' ⟨e',[]⟩ sz es) := by rw [hob i (by simp),hbx]
 obtain ⟨k2,e2,sz2,es2,hi2,_,hv,_⟩ := hl [] x _ hx holds_nil hp
 rw [hi] at hi2
 injection hi2 with hi2
 injection hi2 with h1 h2 h3 h4
 subst h1; subst h2; subst h3; subst h4
 obtain ⟨hlt,b,hA,hv⟩ := hv rfl
 obtain ⟨b',cur,hA',hb,_,hL⟩ := tO (m.obj i _ hi) hoe
 rw [hA] at hA'
 simp only [oIQ,Addr.mk.injEq,and_true] at hA'
 subst hA'
 obtain ⟨v,hv2,hok⟩ := fG hs hL
 exact eJ (L := cur.toList) hop m hv (by simpa using hb) hv2 hok
 cases h
 cases h
 cases h
 rename_i k' e' y ov es hbx
 split at h
 rename_i hc
 simp only [bIQ,beq_iff_eq] at hc
 obtain ⟨rfl,hag⟩ := hc
 split at h
 rename_i c hlk
 simp only [oIQ] at h
 subst h
 have ho : off = 0 /\ idx < es.length := ho
 obtain ⟨rfl,hlt⟩ := ho
 have hi : own i = some (.arr k' ⟨e',y :: ov⟩ 1 es) := by rw [hob i (by simp),hbx]
 obtain ⟨k2,e2,sz2,es2,hi2,_,hv,_⟩ := hl [] x _ hx holds_nil hp
 rw [hi] at hi2
 injection hi2 with hi2
 injection hi2 with h1 h2 h3 h4
 subst h1; subst h2; subst h3; subst h4
 obtain ⟨_,b,hA,hv⟩ := hv rfl
 obtain ⟨u,cur,fz,hb,hu,hok⟩ := aMZ (m.obj i _ hi) hlt hA hlk
 exact eJ (L := cur.toList) hop m hv (by simpa using hb) (by unfold Eng.loadB; rw [hag]; exact hu) hok
 cases h
 cases h
 cases h
 cases h
def nilE (P : Program) (lk : Lk) (o : Oper) (x : Operand) : Option Eff :=
 match lk [] x with
 | some (.c (.bx i off)) => some ⟨.c (.bx i off),[],[],[]⟩
 | some (.c (.pe ds off)) => some ⟨.c (.pe ds off),[],[],[]⟩
 | some (.c (.pg g off)) => some ⟨.c (.pg g off),[],[],[]⟩
 | _ => aAR P lk o
theorem nilE_ok (m : Mem fr own w pl) (hl : aX a w pl own p lk) (hp : Eng.Holds a p) {x : Operand} (hop : o.op = .nilCheck x) {e : Eff} (h : nilE P lk o x = some e) : Does P fr own a w pl o e := by
 unfold nilE at h
 have fin : ∀ (c : C) (ad : Addr),COk w pl own c (a.eval x) -> a.eval x = .pointer (some ad) -> e = ⟨.c c,[],[],[]⟩ -> Does P fr own a w pl o e := by
  rintro c ad h1 h2 rfl
  refine aJ (v := a.eval x) m ?_ h1
  unfold execOp
  simp only [hop,h2]
  rfl
 split at h
 rename_i i off hx
 simp only [oIQ] at h
 have hv := hl [] x _ hx holds_nil hp
 exact fin (.bx i off) _ hv hv.2 h.symm
 rename_i ds off hx
 simp only [oIQ] at h
 have hv := hl [] x _ hx holds_nil hp
 obtain ⟨b,o',_,_,_,_,hv',_⟩ := id hv
 exact fin (.pe ds off) _ hv hv' h.symm
 rename_i g off hx
 simp only [oIQ] at h
 have hv := hl [] x _ hx holds_nil hp
 exact fin (.pg g off) _ hv hv h.symm
 exact i7 m hl hp h
def aF2 (P : Program) (lk : Lk) (ob : Own) (s : TypeId) (x : Operand) (f : Nat) : Option Eff :=
 match lk [] x,Eng.fieldOff P s f with
 | some (.c (.bx i off)),some k => some ⟨.c (.bx i (off + k)),[],[],[]⟩
 | some (.c (.pe ds off)),some k => some ⟨.c (.pe ds (off + k)),[],[],[]⟩
 | some (.c (.pg g off)),some k => some ⟨.c (.pg g (off + k)),[],[],[]⟩
 | some (.c (.ea i j idx off)),some k => match ob i with
  | some (.arr j' _ _ _) => if j' == j then some ⟨.c (.ea i j idx (off + k)),[],[i],[]⟩ else none
  | _ => none
 | _,_ => none
theorem aI5 (m : Mem fr own w pl) (hl : aX a w pl own p lk) (hp : Eng.Holds a p) {s : TypeId} {x : Operand} {f : Nat} (hop : o.op = .fieldAddr s x f) {ob : Own} {e : Eff} (h : aF2 P lk ob s x f = some e) (hob : ∀ i ∈ e.touch,own i = ob i) : Does P fr own a w pl o e := by
 unfold aF2 at h
 have fin : ∀ (c : C) (g off k : Nat),Eng.fieldOff P s f = some k -> a.eval x = .pointer (some ⟨g,off,none⟩) -> COk w pl own c (.pointer (some ⟨g,off + k,none⟩)) -> ∀ t,e = ⟨.c c,[],t,[]⟩ -> Does P fr own a w pl o e := by
  rintro c g off k hk h2 h1 t rfl
  refine aJ (v := .pointer (some ⟨g,off + k,none⟩)) m ?_ h1
  unfold execOp
  simp only [hop,h2]
  simp [Eng.run_fieldAt hk,addr_add]
 split at h
 rename_i i off k hx hk
 simp only [oIQ] at h
 have hv := hl [] x _ hx holds_nil hp
 exact fin (.bx i (off + k)) _ _ k hk hv.2 ⟨hv.1,rfl⟩ _ h.symm
 rename_i ds off k hx hk
 simp only [oIQ] at h
 obtain ⟨b,o',cs,e',fz,us,hv,hr⟩ := hl [] x _ hx holds_nil hp
 exact fin (.pe ds (off + k)) _ _ k hk hv ⟨b,o',cs,e',fz,us,by rw [Nat.add_assoc],hr⟩ _ h.symm
 rename_i g off k hx hk
 simp only [oIQ] at h
 exact fin (.pg g (off + k)) _ _ k hk (hl [] x _ hx holds_nil hp) rfl _ h.symm
 rename_i i j idx off k hx hko
 split at h
 rename_i j' e3 sz3 es3 h3
 split at h
 rename_i hj
 simp only [beq_iff_eq] at hj
 subst hj
 simp only [oIQ] at h
 have hi : own i = some (.arr j' e3 sz3 es3) := by rw [hob i (by rw [<- h]; simp),h3]
 obtain ⟨k2,e2,sz2,es2,hi2,_,hv,_⟩ := hl [] x _ hx holds_nil hp
 rw [hi] at hi2
 injection hi2 with hi2
 injection hi2 with h4 h5 h6 h7
 subst h4; subst h5; subst h6; subst h7
 obtain ⟨hlt,b,hA,hv⟩ := hv rfl
 exact fin (.ea i j' idx (off + k)) _ _ k hko hv ⟨j',e3,sz3,es3,hi,lr _,fun _ => ⟨hlt,b,hA,by rw [Nat.add_assoc]⟩,rfl⟩ _ h.symm
 cases h
 cases h
 cases h
def aFR (P : Program) (lk : Lk) (ob : Own) (t : TypeId) (x i : Operand) (hint : Hint) : Option Eff :=
 match lk [] x,exO lk [] i,P.underlying t with
 | some (.c (.bx j off)),some (.int _ m),some (.array _ _) => match Eng.idxOff P t m with
  | some k => some ⟨.c (.bx j (off + k)),[],[],[]⟩
  | none => none
 | some (.c (.pg g off)),some (.int _ m),some (.array len e) => match P.info? e with
  | some ti => some ⟨.c (.pg g (off + m.toNat * ti.size)),[],[],[0 <= m /\ m < (len : Int)]⟩
  | none => none
 | some (.c (.d (.sl sz es))),some (.int _ m),some (.slice e) => match P.info? e,hint with
  | some ti,.elem ds => if ti.size == sz then some ⟨.c (.pe ds 0),[],[],[.un (0 <= m /\ es[m.toNat]? = some ds)]⟩ else none
  | some ti,.auto => match es[m.toNat]? with
   | some ds => if ti.size == sz then some ⟨.c (.pe ds 0),[],[],[0 <= m]⟩ else none
   | none => none
  | _,_ => none
 | some (.c (.ar j k)),some (.int _ m),some (.slice e) => match ob j,P.info? e with
  | some (.arr k' _ sz es),some ti => if ti.size == sz && k' == k then some ⟨.c (.ea j k m.toNat 0),[],[j],[0 <= m /\ m < (es.length : Int)]⟩ else none
  | _,_ => none
 | _,_,_ => none
theorem mG {F : Nat -> Prop} {sz : Nat} {es : LD} {v : Value} (h : Rd w F (.sl sz es) v) : ∃ A c,v = .slice A es.length c /\ (A = none -> es = []) /\ es.length <= maxLen := by
 cases h with
 | nil => exact ⟨none,0,rfl,fun _ => rfl,by simp⟩
 | far _ a => exact ⟨some a,0,rfl,fun _ => rfl,by simp⟩
 | sl us hF hb hc hm hs hu hr => exact ⟨_,_,rfl,(fun h => by cases h),by omega⟩
theorem wV {F : Nat -> Prop} {sz : Nat} {es : LD} {v : Value} (h : Rd w F (.sl sz es) v) {k : Nat} {ds : List D} (hk : es[k]? = some ds) :
  ∃ (b off c : Nat) (cs : Array Value) (e : TypeId) (fz : Nat × Nat) (us : Nat -> Value),v = .slice (some ⟨b,off,none⟩) es.length c /\ F b /\ w.heap[b]? = some (.cells cs e fz) /\ ∀ (j : Nat) (d : D),ds[j]? = some d -> cs[off + k * sz + j]? = some (us j) /\ Rd w F d (us j) := by
 cases h with
 | nil => simp at hk
 | far => simp at hk
 | sl us hF hb hc hm hs hu hr => exact ⟨_,_,_,_,_,_,us k,rfl,hF,hb,fun j d hj => ⟨hu k j ds d hk hj,hr k j ds d hk hj⟩⟩
theorem cD {j k : Nat} {e : AT} {sz : Nat} {es : LD} {v : Value} (h : COk w pl own (.ar j k) v) (hi : own j = some (.arr k e sz es)) : v = .slice (pl.sl j).1 es.length (pl.sl j).2 := by
 obtain ⟨k2,e2,sz2,es2,hi2,_,hv,_⟩ := h
 rw [hi] at hi2
 injection hi2 with hi2
 injection hi2 with h4 h5 h6 h7
 subst h4; subst h5; subst h6; subst h7
 exact hv rfl
theorem tP {B j k : Nat} {e : AT} {sz : Nat} {es : LD} (h : ObOk B w pl own j (.arr k e sz es)) : (es = [] /\ pl.sl j = (none,0)) \/ ∃ b,(pl.sl j).1 = some ⟨b,0,none⟩ := by
 obtain ⟨xs,hx,hr,hs⟩ := h
 rcases hx.all.2 with ⟨hv,h0⟩ | ⟨g,cap,cur,fz,hv,_⟩
 injection hv with h1 h2 h3
 exact .inl ⟨List.eq_nil_of_length_eq_zero h0,Prod.ext h1 h3⟩
 injection hv with h1 h2 h3
 exact .inr ⟨g,h1⟩
theorem aIY (m : Mem fr own w pl) (hl : aX a w pl own p lk) (hp : Eng.Holds a p) {t : TypeId} {x ix : Operand} (hop : o.op = .indexAddr t x ix) {ob : Own} {hint : Hint} {e : Eff} (h : aFR P lk ob t x ix hint = some e) (hob : ∀ i ∈ e.touch,own i = ob i) (ho : conj e.obl) : Does P fr own a w pl o e := by
 unfold aFR at h
 split at h
 rename_i j off kd n len el hx hi hu
 split at h
 rename_i k hk
 simp only [oIQ] at h
 subst h
 have hv := hl [] x _ hx holds_nil hp
 have hi' := bD hl hp holds_nil hi
 refine aJ (v := .pointer (some ⟨pl.blk j,off + k,none⟩)) (s := .c (.bx j (off + k))) m ?_ ⟨hv.1,rfl⟩
 unfold execOp
 simp only [hop,hv.2,hi']
 simp [Eng.run_indexAt hk,addr_add]
 cases h
 rename_i g off kd n len el hx hi hu
 split at h
 rename_i ti hti
 simp only [oIQ] at h
 subst h
 have ho : 0 <= n /\ n < (len : Int) := ho
 have hv : a.eval x = _ := hl [] x _ hx holds_nil hp
 have hi' := bD hl hp holds_nil hi
 refine aJ (v := .pointer (some ⟨g,off + n.toNat * ti.size,none⟩)) (s := .c (.pg g _)) m ?_ rfl
 unfold execOp
 simp only [hop,hv,hi']
 simp [Instr.indexAt,run_underlying hu,asIntOf,Instr.sureAddr,sizeOf,typeInfo,hti,ho,addr_add]
 cases h
 rename_i sz es kd n el hx hi hu
 split at h
 rename_i ti ds hti
 split at h
 rename_i hsz
 simp only [beq_iff_eq] at hsz
 simp only [oIQ] at h
 subst h
 have ho : 0 <= n /\ es[n.toNat]? = some ds := ho
 have hv : Rd _ _ _ _ := hl [] x _ hx holds_nil hp
 have hi' := bD hl hp holds_nil hi
 have hlt := (gsQ.1 ho.2).1
 obtain ⟨b,off,c,cs,e',fz,us,hv,hF,hb,hd⟩ := wV hv ho.2
 refine aJ (v := .pointer (some ⟨b,off + n.toNat * sz,none⟩)) (s := .c (.pe ds 0)) m ?_ ⟨b,off + n.toNat * sz,cs,e',fz,us,rfl,hF,hb,hd⟩
 have hlt2 : n < (es.length : Int) := by omega
 unfold execOp
 simp only [hop,hv,hi']
 simp [Instr.indexAt,run_underlying hu,asIntOf,sizeOf,typeInfo,hti,ho.1,hlt2,addr_add,hsz]
 cases h
 rename_i ti hti
 split at h
 rename_i ds ho2
 split at h
 rename_i hsz
 simp only [beq_iff_eq] at hsz
 simp only [oIQ] at h
 subst h
 have ho : 0 <= n /\ es[n.toNat]? = some ds := ⟨ho,ho2⟩
 have hv : Rd _ _ _ _ := hl [] x _ hx holds_nil hp
 have hi' := bD hl hp holds_nil hi
 have hlt := (gsQ.1 ho.2).1
 obtain ⟨b,off,c,cs,e',fz,us,hv,hF,hb,hd⟩ := wV hv ho.2
 refine aJ (v := .pointer (some ⟨b,off + n.toNat * sz,none⟩)) (s := .c (.pe ds 0)) m ?_ ⟨b,off + n.toNat * sz,cs,e',fz,us,rfl,hF,hb,hd⟩
 have hlt2 : n < (es.length : Int) := by omega
 unfold execOp
 simp only [hop,hv,hi']
 simp [Instr.indexAt,run_underlying hu,asIntOf,sizeOf,typeInfo,hti,ho.1,hlt2,addr_add,hsz]
 cases h
 cases h
 cases h
 rename_i j k kd n el hx hi hu
 split at h
 rename_i k' e' sz es ti hbx hti
 split at h
 rename_i hc
 simp only [bIQ,beq_iff_eq] at hc
 obtain ⟨hsz,rfl⟩ := hc
 simp only [oIQ] at h
 subst h
 have ho : 0 <= n /\ n < (es.length : Int) := ho
 have hj : own j = some (.arr k' e' sz es) := by rw [hob j (by simp),hbx]
 have hv := cD (w := w) (hl [] x _ hx holds_nil hp) hj
 have hi' := bD hl hp holds_nil hi
 rcases tP (m.obj j _ hj) with ⟨rfl,_⟩ | ⟨b,hA⟩
 simp at ho; omega
 refine aJ (v := .pointer (some ⟨b,n.toNat * sz,none⟩)) (s := .c (.ea j k' n.toNat 0)) m ?_ ⟨k',e',sz,es,hj,lr _,fun _ => ⟨by omega,b,hA,rfl⟩,rfl⟩
 unfold execOp
 simp only [hop,hv,hi',hA]
 simp [Instr.indexAt,run_underlying hu,asIntOf,sizeOf,typeInfo,hti,ho,addr_add,hsz]
 cases h
 cases h
 cases h
end
end Go.V
