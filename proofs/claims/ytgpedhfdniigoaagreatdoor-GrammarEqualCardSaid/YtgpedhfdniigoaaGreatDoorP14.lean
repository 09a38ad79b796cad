/- Part 14 of the proof. -/
import Derived.Test.YtgpedhfdniigoaaGreatDoorP13
import Derived.Lib.Builder
import Derived.Lib.AppendStr
import Derived.Lib.UnsafeStr
import Derived.Laws.Externs
import Derived.Laws.MakeOwn
set_option linter.all false
namespace Go.V
open Go.RowKit Go.Lib
def ptrT (P : Program) (t : TypeId) : Bool := match P.underlying t with
 | some (.pointer te) => (P.info? te).isSome && !(P.eqGuardType P.depth t)
 | _ => false
def ptrE (P : Program) (lk : Lk) (op : BinOp) (t : TypeId) (x y : Operand) : Option Eff :=
 if ptrT P t then
  match op,lk [] x,lk [] y with
  | .eql,some (.c (.bx _ _)),some (.c (.d (.v (.pointer none)))) => some ⟨.c (.d (.v (.bool false))),[],[],[]⟩
  | .neq,some (.c (.bx _ _)),some (.c (.d (.v (.pointer none)))) => some ⟨.c (.d (.v (.bool true))),[],[],[]⟩
  | .eql,some (.c (.bx i k)),some (.c (.bx j l)) => if i == j && k == l then some ⟨.c (.d (.v (.bool true))),[],[],[]⟩ else none
  | .neq,some (.c (.bx i k)),some (.c (.bx j l)) => if i == j && k == l then some ⟨.c (.d (.v (.bool false))),[],[],[]⟩ else none
  | _,_,_ => none
 else none
section
variable {P : Program} {fr : Fr} {own : Own} {a : Act} {w w' : World} {pl : Pl} {o : Oper} {p : Path} {lk : Lk}
theorem aIK {t : TypeId} (h : ptrT P t = true) : ∃ te j,P.underlying t = some (.pointer te) /\ P.info? te = some j /\ P.eqGuardType P.depth t = false := by
 unfold ptrT at h
 split at h
 rename_i te hu
 simp only [bIQ,Bool.not_eq_true'] at h
 cases hi : P.info? te with
 | none => rw [hi] at h; simp at h
 | some j => exact ⟨te,j,hu,hi,h.2⟩
 cases h
theorem oS {t te : TypeId} {j : TypeInfo} (ad : Addr) (hp : P.underlying t = some (.pointer te)) (hte : P.info? te = some j) : (Op.equal t (.pointer (some ad)) (.pointer none)).run P w = .ok false w := by
 have h : ∀ d : Nat,(Op.equalIn (d + 1) t (.pointer (some ad)) (.pointer none)).run P w = .ok false w := fun d => by
  simp [Op.equalIn,run_underlying hp,sizeOf,typeInfo,hte]
 simp [Op.equal,Op.maxDepth,h 9999]
theorem l8 {t te : TypeId} {j : TypeInfo} (ad : Addr) (hp : P.underlying t = some (.pointer te)) (hte : P.info? te = some j) : (Op.equal t (.pointer (some ad)) (.pointer (some ad))).run P w = .ok true w := by
 have h : ∀ d : Nat,(Op.equalIn (d + 1) t (.pointer (some ad)) (.pointer (some ad))).run P w = .ok true w := fun d => by
  simp [Op.equalIn,run_underlying hp,sizeOf,typeInfo,hte,run_sameAddr_same]
 simp [Op.equal,Op.maxDepth,h 9999]
theorem qY (m : Mem fr own w pl) {t : TypeId} {x y : Operand} {ty : TypeId} {b : Bool} {ad : Addr} {q : Option Addr} (hx : a.eval x = .pointer (some ad)) (hy : a.eval y = .pointer q) (hr : (Op.equal t (.pointer (some ad)) (.pointer q)).run P w = .ok b w) :
  (o.op = .binOp .eql t x y ty -> Does P fr own a w pl o ⟨.c (.d (.v (.bool b))),[],[],[]⟩) /\ (o.op = .binOp .neq t x y ty -> Does P fr own a w pl o ⟨.c (.d (.v (.bool (!b)))),[],[],[]⟩) := by
 refine ⟨fun hop => aJ (v := .bool _) m ?_ (Rd.v _ rfl),fun hop => aJ (v := .bool _) m ?_ (Rd.v _ rfl)⟩
 unfold execOp
 simp only [hop,hx,hy]
 simp [eqGuard,binOp,hr]
 unfold execOp
 simp only [hop,hx,hy]
 simp [eqGuard,binOp,hr]
theorem ptrE_ok (m : Mem fr own w pl) (hl : aX a w pl own p lk) (hp : Eng.Holds a p) {op : BinOp} {t : TypeId} {x y : Operand} {ty : TypeId} (hop : o.op = .binOp op t x y ty) {e : Eff} (h : ptrE P lk op t x y = some e) : Does P fr own a w pl o e := by
 unfold ptrE at h
 split at h
 rename_i hT
 obtain ⟨te,j,h1,h2,h3⟩ := aIK hT
 split at h
 rename_i hx hy
 simp only [oIQ] at h
 subst h
 obtain ⟨_,hvx⟩ := hl [] x _ hx holds_nil hp
 have hvy : a.eval y = .pointer none := Rd.exact (hl [] y _ hy holds_nil hp)
 exact (qY (b := false) m hvx hvy (oS _ h1 h2)).1 hop
 rename_i hx hy
 simp only [oIQ] at h
 subst h
 obtain ⟨_,hvx⟩ := hl [] x _ hx holds_nil hp
 have hvy : a.eval y = .pointer none := Rd.exact (hl [] y _ hy holds_nil hp)
 exact (qY (b := false) m hvx hvy (oS _ h1 h2)).2 hop
 rename_i hx hy
 split at h
 rename_i hc
 simp only [bIQ,beq_iff_eq] at hc
 simp only [oIQ] at h
 subst h
 obtain ⟨_,hvx⟩ := hl [] x _ hx holds_nil hp
 obtain ⟨_,hvy⟩ := hl [] y _ hy holds_nil hp
 exact (qY (b := true) m hvx (by rw [hvy,<- hc.1,<- hc.2]) (l8 _ h1 h2)).1 hop
 cases h
 rename_i hx hy
 split at h
 rename_i hc
 simp only [bIQ,beq_iff_eq] at hc
 simp only [oIQ] at h
 subst h
 obtain ⟨_,hvx⟩ := hl [] x _ hx holds_nil hp
 obtain ⟨_,hvy⟩ := hl [] y _ hy holds_nil hp
 exact (qY (b := true) m hvx (by rw [hvy,<- hc.1,<- hc.2]) (l8 _ h1 h2)).2 hop
 cases h
 cases h
 cases h
def ucvE (P : Program) (lk : Lk) (ob : Own) (s d : TypeId) (x : Operand) : Option Eff :=
 match lk [] x with
 | some (.c (.bx i off)) => match ob i with
  | some (.box ⟨.c ty,q⟩ cells) => match P.underlying s,P.underlying d with
   | some (.pointer t),some .unsafePointer => match P.info? t with
    | some j => if !(j.size == 0) && decide (off < cells.length) then some ⟨.c (.bx i off),[],[i],[]⟩ else none
    | none => none
   | some .unsafePointer,some (.pointer t) => match P.info? t with
    | some _ => if liesAt P P.depth ty (cells.length / P.cellsOf ty) off t 1 then some ⟨.c (.bx i off),[],[i],[]⟩ else none
    | none => none
   | _,_ => none
  | _ => none
 | _ => none
theorem wE {B i : Nat} {ty : TypeId} {q : Option Nat} {cells : List C} (h : ObOk B w pl own i (.box ⟨.c ty,q⟩ cells)) : w.shape? (pl.blk i) = some (ty,cells.length) := by
 obtain ⟨vs,hv,hc⟩ := h
 have hv : w.heap[pl.blk i]? = some (.cells vs.toArray ty (0,0)) := hv
 simp [World.shape?,hv,hc.1]
theorem ucvE_ok (m : Mem fr own w pl) (hl : aX a w pl own p lk) (hp : Eng.Holds a p) {s d : TypeId} {x : Operand} (hop : o.op = .convert s d x) {ob : Own} {e : Eff} (h : ucvE P lk ob s d x = some e) (hob : ∀ i ∈ e.touch,own i = ob i) : Does P fr own a w pl o e := by
 unfold ucvE at h
 split at h
 rename_i i off hx
 obtain ⟨hbx,hvx⟩ := hl [] x _ hx holds_nil hp
 split at h
 rename_i ty q cells hbo
 split at h
 rename_i t hs hd
 split at h
 rename_i j hj
 split at h
 rename_i hc
 simp only [bIQ,Bool.not_eq_true',decide_eq_true_eq,beq_eq_false_iff_ne] at hc
 simp only [oIQ] at h
 subst h
 have ho : own i = some (.box ⟨.c ty,q⟩ cells) := by rw [hob i (by simp)]; exact hbo
 refine aJ (v := .pointer (some ⟨pl.blk i,off,none⟩)) m ?_ ⟨hbx,rfl⟩
 unfold execOp
 simp only [hop,hvx,Sem.run_bind]
 rw [Lib.run_to_unsafe w ⟨pl.blk i,off,none⟩ hs hd hj hc.1 (wE (m.obj i _ ho)) hc.2]
 rfl
 cases h
 cases h
 rename_i t hs hd
 split at h
 rename_i j hj
 split at h
 rename_i hc
 simp only [oIQ] at h
 subst h
 have ho : own i = some (.box ⟨.c ty,q⟩ cells) := by rw [hob i (by simp)]; exact hbo
 refine aJ (v := .pointer (some ⟨pl.blk i,off,none⟩)) m ?_ ⟨hbx,rfl⟩
 unfold execOp
 simp only [hop,hvx,Sem.run_bind]
 rw [Lib.run_from_unsafe w ⟨pl.blk i,off,none⟩ hs hd hj (wE (m.obj i _ ho)) hc]
 rfl
 cases h
 cases h
 cases h
 cases h
 cases h
def nK (P : Program) (f : FuncId) : Prop := ∃ fn, P.funcs[f]? = some fn /\ (fn.name == "runtime.NumGoroutine") = false /\ fn.body.isNone = true /\ Extern.findNext fn = none /\ Extern.find fn = some Extern.AbiNoEscape.same
def aAM (P : Program) (f : FuncId) : Bool := match P.funcs[f]? with
 | some fn => fn.name == "internal/abi.NoEscape"
 | none => false
def aDE (P : Program) (lk : Lk) (f : FuncId) (x : Operand) : Option Eff :=
 if aAM P f then match lk [] x with
  | some (.c c) => some ⟨.c c,[],[],[.un (nK P f)]⟩
  | _ => none
 else none
theorem aDD (m : Mem fr own w pl) (hl : aX a w pl own p lk) (hp : Eng.Holds a p) {f : FuncId} {x : Operand} {ats : Array TypeId} (hop : o.op = .call { callee := .value (.func f),args := #[x],argTypes := ats }) {e : Eff} (h : aDE P lk f x = some e) (ho : conj e.obl) : Does P fr own a w pl o e := by
 unfold aDE at h
 split at h
 split at h
 rename_i c hx
 simp only [oIQ] at h
 subst h
 obtain ⟨fn,h1,h2,h3,h4,h5⟩ : nK P f := ho
 refine aJ (v := a.eval x) m ?_ (hl [] x _ hx holds_nil hp)
 unfold execOp
 simp only [hop,resolve,Act.eval,Deferred.ofValue,Sem.run_bind,Sem.run_pure,an,invoke]
 rw [run_callFunc_extern h1 h2 h3 h4 h5]
 simp only [Array.empty_append,Array.append_empty,List.map_toArray,mp1,List.map_nil]
 rfl
 cases h
 cases h
def apsE (P : Program) (lk : Lk) (ob : Own) (T U : TypeId) (s x : Operand) (nid : Nat) : Option Eff :=
 match P.underlying T,P.underlying U,exO lk [] x with
 | some (.slice e),some .string,some (.string r) => match P.info? e with
  | some i => match i.zero with
   | some (.int .u8 0) => if i.size == 1 && i.bytes == 1 then
     match lk [] s with
     | some (.c (.ar j k)) => match ob j with
      | some (.arr k' ⟨e',[]⟩ sz es) => if k' == k && e' == e && sz == 1 then some ⟨.c (.ar j (k + 1)),[(j,.arr (k + 1) ⟨e,[]⟩ 1 (es ++ bytesD r.data.toList))],[j],[es.length + r.size <= 1000000000000]⟩ else none
      | _ => none
     | some (.c (.d (.v (.slice none 0 0)))) => match ob nid with
      | none => some ⟨.c (.ar nid 0),[(nid,.arr 0 e 1 (bytesD r.data.toList))],[nid],[r.size <= 1000000000000]⟩
      | some _ => none
     | _ => none
    else none
   | _ => none
  | none => none
 | _,_,_ => none
theorem oU (T U ty e : TypeId) (i : TypeInfo) (ht : P.underlying T = some (.slice e)) (hu : P.underlying U = some .string) (hi : P.info? e = some i) (hz : i.zero = some (.int .u8 0)) (hsz : i.size = 1) (hby : i.bytes = 1)
  {A : Option Addr} {n c : Nat} {xs : List Value} (hown : w.ownsRow 0 e 1 (.slice A n c) n xs) (s : ByteArray) (hb : n + s.size <= 1000000000000) :
  ∃ A' c' w',(Builtin.append_ #[T,U] ty #[.slice A n c,.string s]).run P w = .ok (.slice A' (n + s.size) c') w' /\ w'.ownsRow 0 e 1 (.slice A' (n + s.size) c') (n + s.size) (xs ++ strCells s) /\ w.grownBy w' (A.map (·.block)) /\
   (A'.map (·.block) = A.map (·.block) \/ A'.map (·.block) = some w.heap.size) := by
 have ob : ∀ (A : Option Addr) (n c : Nat),(Value.slice A n c).ownBlock = A.map (·.block) := fun A n c => by cases A <;> rfl
 have hxl : xs.length = n := by simpa using hown.1
 obtain ⟨v',w',hrun,h2,h3,_⟩ := run_append_own_string (P := P) w 0 T U ty e i ht hu hi hz hsz hby _ n xs hown s (by unfold maxLen; omega) (by omega) (zl _)
 obtain ⟨A',c',rfl⟩ : ∃ A' c',v' = .slice A' (n + s.size) c' := by
  rcases h2.2 with ⟨rfl,h0⟩ | ⟨g,cap,_,rfl,_⟩
  ·exact ⟨_,_,by rw [h0]⟩
  ·exact ⟨_,_,rfl⟩
 rw [ob] at h3
 refine ⟨A',c',w',hrun,h2,h3,?_⟩
 rcases hown.2 with ⟨hv,h0⟩ | ⟨g,cap,cur,hv,hbg,hg,hnc,hcm,hcs,htake⟩
 ·injection hv with e1 e2 e3
  subst e1; subst e3; subst e2
  by_cases hm : s.size = 0
  ·rcases h2.2 with ⟨hv2,_⟩ | ⟨g,cap,cur,hv2,_⟩
   ·injection hv2 with e4; subst e4; exact .inl rfl
   ·have hf := run_firstCells_string (P := P) w 1 s
    rw [hm] at hf
    have : (Builtin.append_ #[T,U] ty #[.slice none 0 0,.string s]).run P w = .ok (.slice none 0 0) w := by
     simp [Builtin.append_,run_underlying ht,run_underlying hu,sizeOf,typeInfo,hi,hsz,Builtin.lenOf,hm,hf]
    rw [this] at hrun
    injection hrun with e5
    injection e5 with e6
    rw [<- e6]; exact .inl rfl
  ·have hr := run_append_nil_string (P := P) w T U ty e i (.int .u8 0) ht hu hi hz s (by omega) (by omega) (by rw [hby]; omega)
   rw [hr] at hrun
   injection hrun with e5
   injection e5 with e6
   rw [<- e6]; exact .inr rfl
 ·injection hv with e1 e2 e3
  subst e1; subst e3
  by_cases hroom : n + s.size <= c
  ·have hr := run_append_room_string (P := P) w T U ty e i ht hu hi hsz g n c cur hg s hroom (by omega)
   rw [hr] at hrun
   injection hrun with e5
   injection e5 with e6
   rw [<- e6]; exact .inl rfl
  ·have holds : ∀ j u,xs[j]? = some u -> w.cell? ((⟨g,0,none⟩ : Addr).add j) = some u := hown.cells (g := g) rfl
   have hr := run_append_grow_string (P := P) w T U ty e i (.int .u8 0) ht hu hi hz ⟨g,0,none⟩ n c xs (by rw [hsz]; simpa using hxl) holds s (by omega) (by omega) (by rw [hby]; exact growslice_fits (by omega) (by omega))
   rw [hr] at hrun
   injection hrun with e5
   injection e5 with e6
   rw [<- e6]; exact .inr rfl
theorem oN {F : Nat -> Prop} (r : ByteArray) : All2 (Rd w F) (bytesD r.data.toList).flatten (strCells r) := by
 rw [strCells_eq]
 generalize r.data.toList = l
 induction l with
 | nil => exact All2.nil
 | cons c l ih => exact All2.cons (Rd.v _ rfl) ih
theorem apsE_ok (m : Mem fr own w pl) (hl : aX a w pl own p lk) (hp : Eng.Holds a p) {T U : TypeId} {s x : Operand} (hop : o.op = .call { callee := .builtin .append,args := #[s,x],argTypes := #[T,U] }) {ob : Own} {nid : Nat} {e : Eff} (h : apsE P lk ob T U s x nid = some e) (hob : ∀ i ∈ e.touch,own i = ob i) (ho : conj e.obl) : Does P fr own a w pl o e := by
 unfold apsE at h
 have hrun : ∀ {v w'},(Builtin.append_ #[T,U] o.type #[a.eval s,a.eval x]).run P w = .ok v w' -> (execOp a.eval o).run P w = .ok (.value v) w' := by
  intro v w' hr
  unfold execOp
  simp only [hop,resolve,invoke,builtin,Sem.run_bind,Sem.run_pure,an,List.map_toArray,mp1,List.map_nil,hr]
 split at h
 rename_i el r hu1 hu2 hx
 split at h
 rename_i i hi
 split at h
 rename_i hz
 split at h
 rename_i hc
 simp only [bIQ,beq_iff_eq] at hc
 split at h
 rename_i j k hs
 split at h
 rename_i k' e' sz es hbx
 split at h
 rename_i hk
 simp only [bIQ,beq_iff_eq] at hk
 obtain ⟨⟨rfl,rfl⟩,rfl⟩ := hk
 simp only [oIQ] at h
 subst h
 have ho : es.length + r.size <= 1000000000000 := ho
 have hj : own j = some (.arr k' ⟨e',[]⟩ 1 es) := by rw [hob j (by simp),hbx]
 have hv := cD (w := w) (hl [] s _ hs holds_nil hp) hj
 have hxv := bD hl hp holds_nil hx
 obtain ⟨xs,hxs,hr,hss⟩ := m.obj j _ hj
 obtain ⟨A',c',w',h1,h2,h3,h4⟩ := oU (P := P) (w := w) T U o.type e' i hu1 hu2 hi hz hc.1 hc.2 hxs r ho
 intro K Q hK
 have hlen : (es ++ bytesD r.data.toList).length = es.length + r.size := by rw [la,eD]; rfl
 obtain ⟨pl',m',L,hA⟩ := m.turnArr (k' := k' + 1) (es' := es ++ bytesD r.data.toList) (A := A') (cap := c') (xs := xs ++ strCells r) hj h3 (by rw [hlen]; exact h2)
  (h4.imp id (fun h ad had => by rw [had] at h; simp only [Option.map_some,oIQ] at h; omega))
  (by rw [List.flatten_append]; exact AllO.of (All2.append (AllO.pure hr) (oN r))) (fun ds hd => by
   rcases List.mem_append.1 hd with h | h
   exact hss ds h
   obtain ⟨_,_,rfl⟩ := mmQ.1 h; rfl) (.inl (by omega))
 have := hrun (v := .slice A' (es.length + r.size) c') (w' := w') (by rw [hv,hxv]; exact h1)
 unfold Oper.wp
 rw [this,Oper.upon_value]
 exact hK _ _ pl' m' L (.inr ⟨k' + 1,e',1,es ++ bytesD r.data.toList,upd_same _ _ _,lr _,fun _ => by rw [hA,hlen],rfl⟩)
 cases h
 cases h
 rename_i hs
 split at h
 rename_i hnone
 simp only [oIQ] at h
 subst h
 have ho : r.size <= 1000000000000 := ho
 have hv : a.eval s = .slice none 0 0 := Rd.exact (hl [] s _ hs holds_nil hp)
 have hxv := bD hl hp holds_nil hx
 obtain ⟨A',c',w',h1,h2,h3,h4⟩ := oU (P := P) (w := w) T U o.type el i hu1 hu2 hi hz hc.1 hc.2 (World.ownsRow_nil w _ _ _) r (by omega)
 rw [Nat.zero_add] at h1 h2
 intro K Q hK
 have hlen : (bytesD r.data.toList).length = r.size := by rw [eD]; rfl
 obtain ⟨pl',m',L,hA⟩ := m.newArr (i := nid) (e := el) (sz := 1) (es := bytesD r.data.toList) (xs := strCells r) (A := A') (cap := c') (by rw [hob nid (by simp),hnone]) h3 (by show w'.ownsRow 0 _ _ _ _ _; rw [hlen]; simpa using h2)
  (fun ad had => by
   rw [had] at h4
   rcases h4 with h | h
   simp at h
   simp only [Option.map_some,oIQ] at h; omega) (oN r) (fun ds hd => by obtain ⟨_,_,rfl⟩ := mmQ.1 hd; rfl)
 have := hrun (v := .slice A' r.size c') (w' := w') (by rw [hv,hxv]; exact h1)
 unfold Oper.wp
 rw [this,Oper.upon_value]
 exact hK _ _ pl' m' L (.inr ⟨0,el,1,bytesD r.data.toList,upd_same _ _ _,lr _,fun _ => by rw [hA,hlen],rfl⟩)
 cases h
 cases h
 cases h
 cases h
 cases h
 cases h
def sdE (P : Program) (lk : Lk) (ob : Own) (ty : TypeId) (x : Operand) : Option Eff :=
 match lk [] x with
 | some (.c (.ar j k)) => match ob j,P.underlying ty with
  | some (.arr k' _ _ _),some (.pointer _) => if k' == k then some ⟨.c (.sd j k),[],[j],[]⟩ else none
  | _,_ => none
 | _ => none
theorem sdE_ok (m : Mem fr own w pl) (hl : aX a w pl own p lk) (hp : Eng.Holds a p) {x : Operand} {ats : Array TypeId} (hop : o.op = .call { callee := .builtin .unsafeSliceData,args := #[x],argTypes := ats }) {ob : Own} {e : Eff} (h : sdE P lk ob o.type x = some e) (hob : ∀ i ∈ e.touch,own i = ob i) : Does P fr own a w pl o e := by
 unfold sdE at h
 have hrun : ∀ {v w'},(Builtin.unsafeSliceData_ ats o.type #[a.eval x]).run P w = .ok v w' -> (execOp a.eval o).run P w = .ok (.value v) w' := by
  intro v w' hr
  unfold execOp
  simp only [hop,resolve,invoke,builtin,Sem.run_bind,Sem.run_pure,an,List.map_toArray,mp1,List.map_nil,hr]
 split at h
 rename_i j k hx
 split at h
 rename_i k' el sz es e2 hbx hty
 split at h
 rename_i hk
 simp only [beq_iff_eq] at hk
 subst hk
 simp only [oIQ] at h
 subst h
 have hj : own j = some (.arr k' el sz es) := by rw [hob j (by simp),hbx]
 have hv := cD (w := w) (hl [] x _ hx holds_nil hp) hj
 obtain ⟨xs,hxs,hr,hss⟩ := m.obj j _ hj
 intro K Q hK
 have fin : ∀ {q : Option Addr} {w' : World},(Builtin.unsafeSliceData_ ats o.type #[.slice (pl.sl j).1 es.length (pl.sl j).2]).run P w = .ok (.pointer q) w' -> w.grownBy w' none -> (es ≠ [] -> q = (pl.sl j).1) -> o.wp P a w K Q := by
  intro q w' h1 hg hq
  have := hrun (v := .pointer q) (w' := w') (by rw [hv]; exact h1)
  unfold Oper.wp
  rw [this,Oper.upon_value]
  obtain ⟨m',L⟩ := m.ext hg
  exact hK _ _ pl m' L (.inr ⟨k',el,sz,es,hj,lr _,q,rfl,fun _ => hq⟩)
 rcases hxs.all.2 with ⟨hv2,h0⟩ | ⟨g,cap,cur,fz,hv2,_,hg,hnc,_⟩
 injection hv2 with e1 e2 e3
 rw [e1] at fin
 exact fin (run_unsafeSliceData_nil (P := P) w _ _ _ _) ⟨rfl,rfl,rfl,lr _,fun _ _ _ => rfl⟩ (fun _ => rfl)
 injection hv2 with e1 e2 e3
 rw [e1] at fin
 by_cases hc : (pl.sl j).2 = 0
 rw [hc] at fin
 have hes : es = [] := List.eq_nil_of_length_eq_zero (by omega)
 exact fin (run_unsafeSliceData_zero (P := P) w _ _ _ hty ⟨g,0,none⟩ _ (el.e,cur.size) (by simp [World.shape?,hg])) ⟨rfl,rfl,rfl,by simp,fun b hb _ => alloc_old w _ b hb⟩ (fun h => absurd hes h)
 exact fin (run_unsafeSliceData_row (P := P) w _ _ _ _ _ hc) ⟨rfl,rfl,rfl,lr _,fun _ _ _ => rfl⟩ (fun _ => rfl)
 cases h
 cases h
 cases h
def ustE (P : Program) (lk : Lk) (ob : Own) (pt : TypeId) (x y : Operand) (hint : Hint) : Option Eff :=
 match hint,lk [] x,exO lk [] y with
 | .call (.c (.d (.v (.string r)))) _ _,some (.c (.sd j k)),some (.int .i64 n) => match ob j,P.underlying pt with
  | some (.arr k' ⟨e,[]⟩ sz es),some (.pointer e2) => if k' == k && sz == 1 && e2 == e && P.cellsOf e == 1 then some ⟨.c (.d (.v (.string r))),[(j,.arr (k + 1) ⟨e,[]⟩ 1 [])],[j],[.bytes es r,n = (r.size : Int)]⟩ else none
  | _,_ => none
 | _,_,_ => none
theorem aAQ (w : World) (g n : Nat) : w.grownBy (w.freeze ⟨g,0,none⟩ n) (some g) := by
 unfold World.freeze
 split
 exact ⟨rfl,rfl,rfl,lr _,fun _ _ _ => rfl⟩
 refine ⟨rfl,rfl,rfl,by simp,fun k hk hne => ?_⟩
 simp only [Array.getElem?_modify]
 rw [if_neg (fun h => hne (by rw [h]))]
theorem ustE_ok (m : Mem fr own w pl) (hl : aX a w pl own p lk) (hp : Eng.Holds a p) {x y : Operand} {pt it : TypeId} (hop : o.op = .call { callee := .builtin .unsafeString,args := #[x,y],argTypes := #[pt,it] }) {ob : Own} {hint : Hint} {e : Eff} (h : ustE P lk ob pt x y hint = some e) (hob : ∀ i ∈ e.touch,own i = ob i) (ho : conj e.obl) : Does P fr own a w pl o e := by
 unfold ustE at h
 have hrun : ∀ {v w'},(Builtin.unsafeString_ #[pt,it] o.type #[a.eval x,a.eval y]).run P w = .ok v w' -> (execOp a.eval o).run P w = .ok (.value v) w' := by
  intro v w' hr
  unfold execOp
  simp only [hop,resolve,invoke,builtin,Sem.run_bind,Sem.run_pure,an,List.map_toArray,mp1,List.map_nil,hr]
 split at h
 ·rename_i r _ _ j k n hx hy
  split at h
  ·rename_i k' el sz es e2 hbx hty
   split at h
   ·rename_i hk
    simp only [bIQ,beq_iff_eq] at hk
    obtain ⟨⟨⟨rfl,rfl⟩,rfl⟩,hcell⟩ := hk
    simp only [oIQ] at h
    subst h
    obtain ⟨hes,hn⟩ : es = bytesD r.data.toList /\ n = (r.size : Int) := ho
    have hj : own j = some (.arr k' ⟨e2,[]⟩ 1 es) := by rw [hob j (by simp),hbx]
    obtain ⟨k2,e3,sz3,es3,ho3,_,q,hq,hqe⟩ := hl [] x _ hx holds_nil hp
    rw [hj] at ho3
    simp only [oIQ,Ob.arr.injEq] at ho3
    obtain ⟨rfl,rfl,rfl,rfl⟩ := ho3
    have hyv := bD hl hp holds_nil hy
    obtain ⟨xs,hxs,hr,hss⟩ := m.obj j _ hj
    intro K Q hK
    have fin : ∀ {w' : World},(Builtin.unsafeString_ #[pt,it] o.type #[.pointer q,.int .i64 (r.size : Int)]).run P w = .ok (.string r) w' -> w.grownBy w' ((pl.sl j).1.map (·.block)) -> o.wp P a w K Q := by
     intro w' h1 hg
     have := hrun (v := .string r) (w' := w') (by rw [hq,hyv,hn]; exact h1)
     unfold Oper.wp
     rw [this,Oper.upon_value]
     obtain ⟨pl',m',L,hA⟩ := m.turnArr (k' := k' + 1) (es' := []) (A := none) (cap := 0) (xs := []) hj hg (World.ownsRow_nil w' _ _ _) (.inr (fun ad h => by cases h)) All2.nil (fun ds h => by cases h) (.inl (by omega))
     exact hK _ _ pl' m' L (.inr (Rd.v _ rfl))
    have hlen : es.length = r.size := by rw [hes,eD]; rfl
    by_cases h0 : r.size = 0
    ·have hr0 : r = ByteArray.empty := by
      obtain ⟨d⟩ := r
      have : d.size = 0 := h0
      have := Array.eq_empty_of_size_eq_zero this
      subst this; rfl
     have h1 := run_unsafeString_none (P := P) w pt it o.type q
     have e0 : ((r.size : Nat) : Int) = 0 := by omega
     refine fin (w' := w) ?_ ⟨rfl,rfl,rfl,lr _,fun _ _ _ => rfl⟩
     rw [e0,h1,hr0]
    ·have hne : es ≠ [] := fun h => h0 (by rw [<- hlen,h]; rfl)
     have hq2 := hqe rfl hne
     rcases hxs.2 with ⟨hv2,h00⟩ | ⟨g,cap,cur,hv2,_,hg,hnc,hcm,hcs,htk⟩
     ·omega
     ·injection hv2 with e1 e2' e3'
      rw [e1] at hq2
      subst hq2
      have hcells : ∀ (j2 : Nat) (x2 : UInt8),r.data.toList[j2]? = some x2 -> w.cell? ((⟨g,0,none⟩ : Addr).add j2) = some (.int .u8 x2.toNat) := by
       intro j2 x2 hx2
       have hb : (bytesD r.data.toList)[j2]? = some [.v (.int .u8 (x2.toNat : Int))] := by simp [bytesD,hx2]
       rw [<- hes] at hb
       obtain ⟨u,hu,hru⟩ := (AllO.pure hr).get (dK hss hb (j := 0) rfl)
       have := Rd.exact hru
       subst this
       rw [Nat.mul_one,Nat.add_zero] at hu
       exact hxs.cells (g := g) (by rw [e1]; rfl) j2 _ hu
      have h1 := run_unsafeString_row (P := P) w pt it o.type e2 hty hcell g cur.size (by simp [World.shape?,hg]) r.data.toList (fun h => h0 (by have := congrArg List.length h; simpa using this)) (by
        have : r.data.toList.length = r.size := rfl
        omega) (by
        have : r.data.toList.length = r.size := rfl
        have : maxLen = 9223372036854775807 := rfl
        omega) hcells
      refine fin (w' := w.freeze ⟨g,0,none⟩ r.data.toList.length) ?_ (by rw [e1]; exact aAQ w g _)
      have e5 : (r.data.toList.length : Int) = (r.size : Int) := rfl
      rw [<- e5,h1,mk_data]
   ·cases h
  ·cases h
 ·cases h
def mkE (P : Program) (lk : Lk) (ob : Own) (T : TypeId) (x y : Operand) (nid : Nat) : Option Eff :=
 match P.underlying T,exO lk [] x,exO lk [] y with
 | some (.slice e),some (.int _ 0),some (.int _ c) => match P.info? e,ob nid with
  | some i,none => match i.zero with
   | some _ => some ⟨.c (.ar nid 0),[(nid,.arr 0 e i.size [])],[nid],[0 <= c /\ (i.bytes : Int) * c <= 281474976710656 /\ c <= 9223372036854775807]⟩
   | none => none
  | _,_ => none
 | _,_,_ => none
theorem mkE_ok (m : Mem fr own w pl) (hl : aX a w pl own p lk) (hp : Eng.Holds a p) {T : TypeId} {x y : Operand} (hop : o.op = .makeSlice T x y) {ob : Own} {nid : Nat} {e : Eff} (h : mkE P lk ob T x y nid = some e) (hob : ∀ i ∈ e.touch,own i = ob i) (ho : conj e.obl) : Does P fr own a w pl o e := by
 unfold mkE at h
 split at h
 rename_i el kl kc c hu hx hy
 split at h
 rename_i i hi hnone
 split at h
 rename_i z hz
 simp only [oIQ] at h
 subst h
 obtain ⟨h0,h1,h2⟩ : 0 <= c /\ (i.bytes : Int) * c <= 281474976710656 /\ c <= 9223372036854775807 := ho
 obtain ⟨n,rfl⟩ : ∃ n : Nat,c = (n : Int) := ⟨c.toNat,by omega⟩
 have hb : i.bytes * n <= 281474976710656 := by
  have : ((i.bytes * n : Nat) : Int) = (i.bytes : Int) * (n : Int) := by simp
  omega
 obtain ⟨w',hr,hown,hg⟩ := run_make_own (P := P) w 0 T el i z i.size hu hi hz rfl kl kc n hb (by unfold maxLen; omega) (zl _)
 intro K Q hK
 obtain ⟨pl',m',L,hA⟩ := m.newArr (i := nid) (e := el) (sz := i.size) (es := []) (xs := []) (A := some ⟨w.heap.size,0,none⟩) (cap := n) (by rw [hob nid (by simp),hnone]) hg hown (fun ad had => by injection had with had; rw [<- had]; exact lr _) All2.nil (fun ds h => by cases h)
 have : (execOp a.eval o).run P w = .ok (.value (.slice (some ⟨w.heap.size,0,none⟩) 0 n)) w' := by
  unfold execOp
  simp only [hop,bD hl hp holds_nil hx,bD hl hp holds_nil hy,Sem.run_bind,hr,an]
  rfl
 unfold Oper.wp
 rw [this,Oper.upon_value]
 exact hK _ _ pl' m' L (.inr ⟨0,el,i.size,[],upd_same _ _ _,lr _,fun _ => by rw [hA]; rfl,rfl⟩)
 cases h
 cases h
 cases h
theorem nS {B : Nat} {e : TypeId} {sz : Nat} {es : LD} {A : Option Addr} {c : Nat} {xs : List Value} (hx : w.ownsRow B e sz (.slice A es.length c) es.length xs) {F : Nat -> Prop} (hF : ∀ b,A.map (·.block) = some b -> F b) (hr : All2 (Rd w F) es.flatten xs) (hs : ∀ ds,ds ∈ es -> ds.length = sz) : Rd w F (.sl sz es) (.slice A es.length c) := by
 rcases hx.2 with ⟨hv,h0⟩ | ⟨g,cap,cur,hv,hB,hg,hn,hc,hsz,htk⟩
 ·have : es = [] := List.eq_nil_of_length_eq_zero h0
  subst this
  injection hv with h1 h2 h3
  rw [h1,h3]
  exact .nil sz
 ·injection hv with h1 h2 h3
  have hget : ∀ (i j : Nat) (ds : List D) (d : D),es[i]? = some ds -> ds[j]? = some d -> ∃ u,cur[0 + i * sz + j]? = some u /\ Rd w F d u := by
   intro i j ds d hi hj
   obtain ⟨u,hu,hru⟩ := hr.get (dK hs hi hj)
   refine ⟨u,?_,hru⟩
   rw [<- htk,List.getElem?_take] at hu
   split at hu
   ·rw [Nat.zero_add]; simpa using hu
   ·cases hu
  rw [h1,h3]
  refine Rd.sl (cs := cur) (e := e) (fz := (0,0)) (fun i j => cur[0 + i * sz + j]?.getD undef) (hF g (by rw [h1]; rfl)) hg hn hc hs (fun i j ds d hi hj => ?_) (fun i j ds d hi hj => ?_)
  ·obtain ⟨u,hu,_⟩ := hget i j ds d hi hj; rw [hu]; rfl
  ·obtain ⟨u,hu,h⟩ := hget i j ds d hi hj; simp only [hu,Option.getD_some]; exact h
theorem aGY {α : Type} {ds : List α} {sz : Nat} (hd : ds.length = sz) : ∀ (n j : Nat) (d : α),(List.replicate n ds).flatten[j]? = some d -> j < n * sz /\ ds[j % sz]? = some d
 | 0,j,d,h => by simp at h
 | n + 1,j,d,h => by
  rw [List.replicate_succ,List.flatten_cons,List.getElem?_append] at h
  split at h
  rename_i hj
  have hlt : j < sz := by omega
  refine ⟨?_,by rw [Nat.mod_eq_of_lt hlt]; exact h⟩
  rw [Nat.succ_mul]; omega
  rename_i hj
  obtain ⟨h1,h2⟩ := aGY hd n (j - ds.length) d h
  rw [hd] at h1 h2 hj
  refine ⟨by rw [Nat.succ_mul]; omega,?_⟩
  rw [show j = j - sz + sz by omega,Nat.add_mod_right]
  exact h2
def mkN (P : Program) (lk : Lk) (ob : Own) (T : TypeId) (x y : Operand) (nid : Nat) (hint : Hint) : Option Eff :=
 match P.underlying T,exO lk [] x,exO lk [] y with
 | some (.slice e),some (.int _ n),some (.int _ c) => match P.info? e,ob nid with
  | some i,none => match i.zero with
   | some z => match eF z.cells.toList with
    | some cs => match hV (jY hint.ms cs) with
     | some ds => if ds.length == i.size && z.cells.size == i.size && decide (0 < i.size) then some (if hint.fz then ⟨.c (.d (.sl i.size (List.replicate n.toNat ds))),[],[],[0 <= n /\ n = c /\ (i.bytes : Int) * n <= 281474976710656 /\ n <= 9223372036854775807]⟩ else ⟨.c (.ar nid 0),[(nid,.arr 0 e i.size (List.replicate n.toNat ds))],[nid],[0 <= n /\ n = c /\ (i.bytes : Int) * n <= 281474976710656 /\ n <= 9223372036854775807]⟩) else none
     | none => none
    | none => none
   | none => none
  | _,_ => none
 | _,_,_ => none
theorem aLE (m : Mem fr own w pl) (hl : aX a w pl own p lk) (hp : Eng.Holds a p) {T : TypeId} {x y : Operand} (hop : o.op = .makeSlice T x y) {ob : Own} {nid : Nat} {hint : Hint} {e : Eff} (h : mkN P lk ob T x y nid hint = some e) (hob : ∀ i ∈ e.touch,own i = ob i) (ho : conj e.obl) : Does P fr own a w pl o e := by
 unfold mkN at h
 split at h
 rename_i el kl n kc c hu hx hy
 split at h
 rename_i i hi hnone
 split at h
 rename_i z hz
 split at h
 rename_i cs hcs
 split at h
 rename_i ds hds
 split at h
 rename_i hc
 simp only [bIQ,beq_iff_eq,decide_eq_true_eq] at hc
 obtain ⟨⟨hc1,hc2⟩,hc3⟩ := hc
 simp only [oIQ] at h
 have ho' : 0 <= n /\ n = c /\ (i.bytes : Int) * n <= 281474976710656 /\ n <= 9223372036854775807 := by
  rw [<- h] at ho
  cases hfz : hint.fz <;> rw [hfz] at ho <;> exact ho
 obtain ⟨h0,rfl,h1,h2⟩ := ho'
 have hr := run_make (P := P) w T el i z hu hi hz kl kc n n h0 (Int.le_refl _) h1 h2
 have hrd := i8 hds (iF (c9 (own := own) (w := w) (pl := pl) hcs))
 obtain ⟨k,rfl⟩ : ∃ k : Nat,n = (k : Int) := ⟨n.toNat,by omega⟩
 simp only [Int.toNat_natCast] at hr h
 have hlen : (List.replicate k ds).length = k := List.length_replicate
 have hss : ∀ dd,dd ∈ List.replicate k ds -> dd.length = i.size := fun dd hdd => by rw [(List.mem_replicate.1 hdd).2]; exact hc1
 have hfl := a8 hss
 rw [hlen] at hfl
 have hk : k <= maxLen := by unfold maxLen; omega
 have hall : All2 (Rd w (Sh pl own)) (List.replicate k ds).flatten (madeCells z.cells (k * i.size)).toList := ⟨by rw [hfl]; simp [size_madeCells],fun j d u hd hu => by
   obtain ⟨hj,hdj⟩ := aGY hc1 k j d hd
   have hjm : j % i.size < i.size := Nat.mod_lt _ hc3
   have hu' : z.cells.toList[j % i.size]? = some u := by
    simp only [madeCells,Array.getElem?_toList,Array.getElem?_map,Array.getElem?_range,hj,if_true,Option.map_some,oIQ] at hu
    rw [hc2] at hu
    rw [<- hu,Array.getElem?_toList,getElem!_pos z.cells _ (by omega)]
    exact Array.getElem?_eq_getElem (by omega)
   exact hrd.2 _ d u hdj hu'⟩
 have hrun : (execOp a.eval o).run P w = .ok (.value (.slice (some ⟨w.heap.size,0,none⟩) k k)) (w.alloc (.cells (madeCells z.cells (k * i.size)) el)) := by
  unfold execOp
  simp only [hop,bD hl hp holds_nil hx,bD hl hp holds_nil hy,Sem.run_bind,hr,an]
  rfl
 have hown : (w.alloc (.cells (madeCells z.cells (k * i.size)) el)).ownsRow 0 el i.size (.slice (some ⟨w.heap.size,0,none⟩) (List.replicate k ds).length k) (List.replicate k ds).length (madeCells z.cells (k * i.size)).toList :=
  ⟨by rw [hlen]; simp [size_madeCells],.inr ⟨w.heap.size,k,_,by rw [hlen],zl _,heap_alloc_new w _,by rw [hlen]; exact lr _,hk,size_madeCells _ _,by rw [hlen,tl (by simp [size_madeCells])]⟩⟩
 cases hfz : hint.fz with
 | true =>
  rw [hfz,if_pos rfl] at h
  subst h
  intro K Q hK
  obtain ⟨m',L⟩ := m.ext (World.grownBy_alloc w (.cells (madeCells z.cells (k * i.size)) el) none)
  unfold Oper.wp
  rw [hrun,Oper.upon_value]
  have hRd := nS (F := Sh pl own) hown (fun b hb => by
   simp only [Option.map_some,oIQ] at hb
   subst hb
   exact ⟨(m.hS _).2 (.inr m.grow),fun j hj => absurd (m.blk_lt hj) (Nat.lt_irrefl _)⟩) (hall.mono fun _ _ h => L.rd h) hss
  rw [hlen] at hRd
  exact hK _ _ pl m' L (.inr hRd)
 | false =>
  rw [hfz,if_neg (by decide)] at h
  subst h
  intro K Q hK
  obtain ⟨pl',m',L,hA⟩ := m.newArr (i := nid) (e := el) (sz := i.size) (es := List.replicate k ds) (xs := (madeCells z.cells (k * i.size)).toList) (A := some ⟨w.heap.size,0,none⟩) (cap := k) (by rw [hob nid (by simp),hnone]) (World.grownBy_alloc w _ none)
   hown (fun ad had => by injection had with had; rw [<- had]; exact lr _) (AllO.of hall) hss
  unfold Oper.wp
  rw [hrun,Oper.upon_value]
  exact hK _ _ pl' m' L (.inr ⟨0,el,i.size,_,upd_same _ _ _,lr _,fun _ => by rw [hA,hlen],rfl⟩)
 cases h
 cases h
 cases h
 cases h
 cases h
 cases h
def ifT (P : Program) (t : TypeId) : Bool := match P.underlying t with
 | some (.interface _) => true
 | _ => false
def ifE (P : Program) (lk : Lk) (op : BinOp) (t : TypeId) (x y : Operand) : Option Eff :=
 if ifT P t then
  match op,lk [] x,lk [] y with
  | .eql,some (.c .nn),some (.c (.d (.v .nilIface))) => some ⟨.c (.d (.v (.bool false))),[],[],[]⟩
  | .neq,some (.c .nn),some (.c (.d (.v .nilIface))) => some ⟨.c (.d (.v (.bool true))),[],[],[]⟩
  | _,_,_ => none
 else none
theorem iR {t ty : TypeId} {x : Value} {ms : Array (String × TypeId)} (h : P.underlying t = some (.interface ms)) : (Op.equal t (.iface ty x) .nilIface).run P w = .ok false w := by
 have h : ∀ d : Nat,(Op.equalIn (d + 1) t (.iface ty x) .nilIface).run P w = .ok false w := fun d => by
  simp [Op.equalIn,run_underlying h]
 simp [Op.equal,Op.maxDepth,h 9999]
theorem ifE_ok (m : Mem fr own w pl) (hl : aX a w pl own p lk) (hp : Eng.Holds a p) {op : BinOp} {t : TypeId} {x y : Operand} {ty : TypeId} (hop : o.op = .binOp op t x y ty) {e : Eff} (h : ifE P lk op t x y = some e) : Does P fr own a w pl o e := by
 unfold ifE at h
 split at h
 rename_i hT
 unfold ifT at hT
 split at hT
 rename_i ms hu
 split at h
 rename_i hx hy
 simp only [oIQ] at h
 subst h
 obtain ⟨t1,v1,hvx⟩ := hl [] x _ hx holds_nil hp
 have hvy : a.eval y = .nilIface := Rd.exact (hl [] y _ hy holds_nil hp)
 refine aJ (v := .bool _) m ?_ (Rd.v _ rfl)
 unfold execOp
 simp only [hop,hvx,hvy]
 simp [eqGuard,binOp,iR hu]
 rename_i hx hy
 simp only [oIQ] at h
 subst h
 obtain ⟨t1,v1,hvx⟩ := hl [] x _ hx holds_nil hp
 have hvy : a.eval y = .nilIface := Rd.exact (hl [] y _ hy holds_nil hp)
 refine aJ (v := .bool _) m ?_ (Rd.v _ rfl)
 unfold execOp
 simp only [hop,hvx,hvy]
 simp [eqGuard,binOp,iR hu]
 cases h
 cases hT
 cases h
def opX (P : Program) (lk : Lk) (ob : Own) (o : Oper) (nid : Nat) (hint : Hint) : Option Eff := match o.op with
 | .binOp op t x y _ => match ptrE P lk op t x y with
  | some e => some e
  | none => ifE P lk op t x y
 | .convert s d x => ucvE P lk ob s d x
 | .makeSlice T x y => match hint with
  | .mask _ => mkN P lk ob T x y nid hint
  | .elem _ => mkN P lk ob T x y nid hint
  | _ => mkE P lk ob T x y nid
 | .call { callee := .value (.func f),args := ⟨[x]⟩,argTypes := _ } => aDE P lk f x
 | .call { callee := .builtin .append,args := ⟨[s,x]⟩,argTypes := ⟨[T,U]⟩ } => apsE P lk ob T U s x nid
 | .call { callee := .builtin .unsafeSliceData,args := ⟨[x]⟩,argTypes := _ } => sdE P lk ob o.type x
 | .call { callee := .builtin .unsafeString,args := ⟨[x,y]⟩,argTypes := ⟨[pt,_]⟩ } => ustE P lk ob pt x y hint
 | _ => none
theorem opX_ok (m : Mem fr own w pl) (hl : aX a w pl own p lk) (hp : Eng.Holds a p) {ob : Own} {nid : Nat} {hint : Hint} {e : Eff} (h : opX P lk ob o nid hint = some e) (hob : ∀ i ∈ e.touch,own i = ob i) (ho : conj e.obl) : Does P fr own a w pl o e := by
 unfold opX at h
 split at h
 case h_1 =>
  rename_i hop
  split at h
  ·rename_i he
   simp only [oIQ] at h
   subst h
   exact ptrE_ok m hl hp hop he
  ·exact ifE_ok m hl hp hop h
 case h_2 => rename_i hop; exact ucvE_ok m hl hp hop h hob
 case h_3 =>
  rename_i hop
  split at h
  ·exact aLE m hl hp hop h hob ho
  ·exact aLE m hl hp hop h hob ho
  ·exact mkE_ok m hl hp hop h hob ho
 case h_4 => rename_i hop; exact aDD m hl hp hop h ho
 case h_5 => rename_i hop; exact apsE_ok m hl hp hop h hob ho
 case h_6 => rename_i hop; exact sdE_ok m hl hp hop h hob
 case h_7 => rename_i hop; exact ustE_ok m hl hp hop h hob ho
 case h_8 => cases h
end
end Go.V
