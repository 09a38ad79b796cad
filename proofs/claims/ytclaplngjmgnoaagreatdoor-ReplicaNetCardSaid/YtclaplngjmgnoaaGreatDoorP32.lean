/- Part 32 of the proof. -/
import Derived.Test.YtclaplngjmgnoaaGreatDoorP30
import Derived.Test.YtclaplngjmgnoaaGreatDoorP31
import Derived.Shelf.SlIter.Nil
import Derived.Shelf.SortM.Plain
import Derived.Shelf.SortM.SortNone
import Derived.Ground.GgzProg
import Derived.Ground.SlgmProg
import Derived.Maps.Own
set_option linter.all false
namespace Go.Proofs.YtclaplngjmgnoaaGreatDoor
open Go.RowKit Go.V
open Go.Eng (inR byteAt u8 dN)
variable {g : Gv}
theorem aGV {fr : Fr} {own : V.Own} {w w' : World} {pl : Pl} {e : TypeId} {v : Value} {xs : List Value} (m : Mem fr own w pl) (hw : fr.w0 = w) (hown : w'.ownsRow w.heap.size e 1 v xs.length xs) (h1 : ∀ x ∈ xs,x.oneCell' = true) : COk w' pl own (cM 1 (xs.map fun x => [.v x])) v := by
 have hfl : ∀ xs : List Value,(xs.map fun x => [D.v x]).flatten = xs.map D.v := by
  intro xs
  induction xs with
  | nil => rfl
  | cons x r ih => simp only [mp1,List.flatten_cons,ih]; rfl
 have hr : ∀ {F : Nat -> Prop} (xs : List Value),(∀ x ∈ xs,x.oneCell' = true) -> All2 (Rd w' F) (xs.map D.v) xs := by
  intro F xs
  induction xs with
  | nil => intro _; exact All2.nil
  | cons x r ih => intro h; exact All2.cons (.v _ (h x (by simp))) (ih fun y hy => h y (by simp [hy]))
 have hs : ∀ ds,ds ∈ (xs.map fun x => [D.v x]) -> ds.length = 1 := by
  intro ds hd;obtain ⟨x,_,rfl⟩ := mm.1 hd;rfl
 obtain ⟨A,c,rfl⟩ : ∃ A c,v = .slice A xs.length c := by
  rcases hown.2 with ⟨rfl,h0⟩ | ⟨q,cap,cur,rfl,_⟩
  exact ⟨_,_,by rw [h0]⟩;exact ⟨_,_,rfl⟩
 have := o0 (w := w') (B := w.heap.size) (e := e) (sz := 1) (es := xs.map fun x => [.v x]) (A := A) (c := c) (xs := xs) (by rw [lm]; exact hown) (F := Sh pl own) (fun b hb => by
  rcases hown.2 with ⟨hv,h0⟩ | ⟨q,cap,cur,hv,hB,_⟩
  injection hv with h2; rw [h2] at hb; cases hb;injection hv with h2;rw [h2] at hb;simp only [Option.map_some,oIQ] at hb;subst hb;refine ⟨(m.hS _).2 (.inr (by rw [hw]; exact hB)),fun i hi => ?_⟩;have := m.blk_lt hi;have hB : w.heap.size <= q := hB;omega) (by rw [hfl]; exact hr xs h1) hs
 rw [lm] at this;exact this
theorem rV {f : FuncId} {xs : List Value} {e : TypeId} (h1 : ∀ x ∈ xs,x.oneCell' = true) (hl : xs.length <= 1000000)
  (hnil : ∀ w : World,Calls Tryz.prog f #[.slice none 0 0] w fun e' w' => e' = .returned (.slice none 0 0) /\ w' = w)
  (hfar : ∀ (a : Addr) (w : World),Calls Tryz.prog f #[.slice (some a) 0 0] w fun e' w' => ∃ v',e' = .returned v' /\ w'.ownsRow w.heap.size e 1 v' 0 [] /\ v' ≠ .slice none 0 0 /\ Below w.heap.size w w')
  (hsl : ∀ (b off c : Nat) (w : World),(∀ (j : Nat) (x : Value),xs[j]? = some x -> w.cell? ⟨b,off + j,none⟩ = some x) -> Calls Tryz.prog f #[.slice (some ⟨b,off,none⟩) xs.length c] w fun e' w' => ∃ v',e' = .returned v' /\ w'.ownsRow w.heap.size e 1 v' xs.length xs /\ v' ≠ .slice none 0 0 /\ Below w.heap.size w w') :
  SpG g f [.c (cM 1 (xs.map fun x => [.v x]))] [] (.c (cM 1 (xs.map fun x => [.v x]))) [] := by
 intro fr w pl args hw hG m ha;obtain ⟨v,r,rfl,h2,h3⟩ := ha.uncons;rw [h3.unnil];have fin : ∀ {e' : Ending} {w' : World},(∃ v',e' = .returned v' /\ w'.ownsRow w.heap.size e 1 v' xs.length xs /\ Below w.heap.size w w') -> ∃ v' pl',e' = .returned v' /\ Mem fr (lookO []) w' pl' /\ bD w' pl' (lookO []) (.c (cM 1 (xs.map fun x => [.v x]))) v' := by
  rintro e' w' ⟨v',rfl,ho,hb⟩;obtain ⟨m',L⟩ := m.ext (w' := w') ⟨hb.os,hb.tape,hb.output,hb.size,fun k hk _ => hb.block k hk⟩;exact ⟨_,pl,rfl,m',aGV m hw ho h1⟩
 have h2 : Rd w (Sh pl (lookO [])) (.sl 1 (xs.map fun x => [.v x])) v := h2;generalize hes : (xs.map fun x => [D.v x]) = es at h2;cases h2 with
 | nil =>
  have : xs = [] := by simpa using hes
  subst this;refine (hnil w).mono ?_;rintro e' w' ⟨rfl,rfl⟩;obtain ⟨v',pl',h4,h5,h6⟩ := fin (e' := .returned (.slice none 0 0)) ⟨_,rfl,World.ownsRow_nil _ _ _ _,Below.refl _ _⟩;rw [<- hes]; exact ⟨v',pl',h4,h5,h6⟩
 | far _ ad =>
  have : xs = [] := by simpa using hes
  subst this;refine (hfar ad w).mono ?_;rintro e' w' ⟨v',rfl,ho,_,hb⟩;rw [<- hes];exact fin ⟨_,rfl,ho,hb⟩
 | sl us hF hb hc hm hs hu hr =>
  rename_i b off c cs e0 fz;subst hes;have hlen : (xs.map fun x => [D.v x]).length = xs.length := by simp
  rw [hlen];refine (hsl b off c w fun j x hx => ?_).mono ?_;have a1 : (xs.map fun x => [D.v x])[j]? = some [.v x] := by simp [hx]
  have a2 := hu j 0 _ _ a1 rfl;have a3 := Rd.exact (hr j 0 _ _ a1 rfl);rw [a3] at a2;rw [Lib.cell_of_heap hb];simpa using a2;rintro e' w' ⟨v',rfl,ho,_,hbl⟩;exact fin ⟨_,rfl,ho,hbl⟩
theorem aKK (l : List Int) : (l.map (Value.int .i64)).map (fun x => [D.v x]) = intsD l := by rw [List.map_map]; rfl
theorem aK1 (l : List Int) (hl : l.length <= 1000000) : SpG g 98 [.c (cM 1 (intsD l))] [] (.c (cM 1 (intsD l))) [] := by
 rw [<- aKK];refine rV (e := 3) (fun x hx => by obtain ⟨z,_,rfl⟩ := mm.1 hx; rfl) (by rw [lm]; exact hl) (fun w => Tryz.slices_Clone_int_nil 0 0 w) (fun a w => Tryz.slices_Clone_int_zero a 0 w) fun b off c w h => ?_;have := Tryz.slices_Clone_int b off l.length c l w (lr _) (by omega) fun j hj => by
  have := h j (.int .i64 (l.getD j 0)) (by simp [hj]);exact this
 rw [List.take_length] at this;rw [lm];exact this
theorem aGA : SpG g 163 [.c (cM 1 [])] [] (.c (cM 1 [])) [] := by
 have := rV (g := g) (f := 163) (xs := []) (e := 9) (by simp) (by simp) (fun w => Tryz.slices_Clone_string_nil 0 0 w) (fun a w => Tryz.slices_Clone_string_zero a 0 w) fun b off c w h => Tryz.slices_Clone_string_zero ⟨b,off,none⟩ c w;exact this
theorem sortC : aQJ Tryz.prog 46 := ⟨fun p cap w => Tryz.slices_Sort_int_none p cap w,fun blk off cap zs w hH hb hz => Tryz.slices_Sort_int blk off cap zs w hH hb hz⟩
theorem aLN {l : List Tv} {k : Nat} (h : k < l.length) : aS (l.take k) ++ [[D.i (tvK (l.getD k none)),.s (S (tvS (l.getD k none))),.i 0,.i 0,.i 0,.sl 1 [],.sl 1 []]] = aS (l.take (k + 1)) := mP h
def gU (a b : It) : Bool := if a.time = b.time then decide (a.author > b.author) else decide (a.time > b.time)
def inS (l : List It) : Nat -> List (Int × Int) × List Int
  | 0 => ([],[])
  | k + 1 =>
    let r := inS l k
    let i := l.getD k It.z
    (if (lkM i.id r.1).isSome = true /\ gU (l.getD ((lkM i.id r.1).getD 0).toNat It.z) i = true then r.1 else cG ltI i.id (k : Int) r.1,
     if (lkM i.id r.1).isSome = true then r.2 else r.2 ++ [i.id])
def bO (l : List It) : List Int := (inS l l.length).2.mergeSort fun x y => decide (x <= y)
def inP (l : List It) (id : Int) : It := l.getD ((lkM id (inS l l.length).1).getD 0).toNat It.z
def inF (l : List It) : List It := (bO l).map (inP l)
theorem aHF {α β : Type} [DecidableEq α] {k n : α} {v : β} : ∀ (es : List (α × β)),lkM n (es.map fun x => if x.1 = k then (k,v) else x) = if n = k then (if (lkM k es).isSome = true then some v else none) else lkM n es
 | [] => by simp [lkM]
 | x :: r => by
  have ih := aHF (k := k) (n := n) (v := v) r;simp only [mp1,lkM];by_cases hx : x.1 = k;by_cases hn : n = k;subst hn; simp [hx];have : ¬ k = n := fun h => hn h.symm;have h2 : ¬ x.1 = n := by rw [hx]; exact this
  simp only [if_pos hx,if_neg this,ih,if_neg hn,if_neg h2];by_cases hn : n = k;subst hn; simp only [if_neg hx,ih,if_pos rfl];simp only [if_neg hx,ih,if_neg hn]
theorem aHG {α β : Type} [DecidableEq α] {lt : α -> α -> Bool} {k n : α} {v : β} : ∀ (es : List (α × β)),lkM k es = none -> lkM n (mA lt k v es) = if n = k then some v else lkM n es
 | [],_ => by
  simp only [mA,lkM];by_cases hn : n = k;subst hn; simp;have : ¬ k = n := fun h => hn h.symm;simp [hn,this]
 | x :: r,h => by
  simp only [lkM] at h;split at h;cases h;rename_i hx;have ih := aHG (lt := lt) (n := n) (v := v) r h;simp only [mA];split;simp only [lkM];by_cases hn : n = k;subst hn; simp;have : ¬ k = n := fun h => hn h.symm;simp [hn,this];simp only [lkM,ih];by_cases hn : n = k;subst hn; simp [hx];simp [hn]
theorem nN {α β : Type} [DecidableEq α] {lt : α -> α -> Bool} {es : List (α × β)} {k n : α} {v : β} : lkM n (cG lt k v es) = if n = k then some v else lkM n es := by
 unfold cG;split;rename_i hs;rw [aHF,if_pos hs];rename_i hs;refine aHG es ?_;cases h : lkM k es with
 | none => rfl
 | some y => rw [h] at hs; exact absurd rfl hs
theorem mB (l : List It) : ∀ (k : Nat),(∀ n o,lkM n (inS l k).1 = some o -> 0 <= o /\ o < (k : Int) /\ (l.getD o.toNat It.z).id = n) /\ (∀ n,n ∈ (inS l k).2 ↔ (lkM n (inS l k).1).isSome = true) /\ (inS l k).2.length <= k /\ (inS l k).2.Nodup
 | 0 => ⟨fun n o h => by simp [inS,lkM] at h,fun n => by simp [inS,lkM],lr _,List.nodup_nil⟩
 | k + 1 => by
  obtain ⟨h1,h2,h3,h4⟩ := mB l k;have hl : ∀ n,lkM n (inS l (k + 1)).1 = if (lkM (l.getD k It.z).id (inS l k).1).isSome = true /\ gU (l.getD ((lkM (l.getD k It.z).id (inS l k).1).getD 0).toNat It.z) (l.getD k It.z) = true then lkM n (inS l k).1 else if n = (l.getD k It.z).id then some (k : Int) else lkM n (inS l k).1 := by
   intro n;simp only [inS];split;rfl;exact nN
  have hi : (inS l (k + 1)).2 = if (lkM (l.getD k It.z).id (inS l k).1).isSome = true then (inS l k).2 else (inS l k).2 ++ [(l.getD k It.z).id] := rfl
  refine ⟨fun n o h => ?_,fun n => ?_,?_,?_⟩;rw [hl n] at h;split at h;have := h1 n o h; omega;split at h;rename_i hn;simp only [oIQ] at h;subst h; subst hn;exact ⟨by omega,by omega,by rw [Int.toNat_natCast]⟩;have := h1 n o h; omega;rw [hl n,hi];by_cases hs : (lkM (l.getD k It.z).id (inS l k).1).isSome = true;rw [if_pos hs,h2 n];split;rfl;split;rename_i hn; rw [hn]; exact ⟨fun _ => rfl,fun _ => hs⟩;rfl;rw [if_neg hs,if_neg (fun h => hs h.1)];simp only [List.mem_append,List.mem_singleton,h2 n];by_cases hn : n = (l.getD k It.z).id;rw [if_pos hn]; exact ⟨fun _ => rfl,fun _ => .inr hn⟩;rw [if_neg hn]; exact ⟨fun h => h.resolve_right hn,.inl⟩;rw [hi]; split;omega;simp only [zq1]; omega;rw [hi]; split;exact h4;rename_i hs;rw [List.nodup_append];refine ⟨h4,by simp,fun a ha b hb => ?_⟩;simp only [List.mem_singleton] at hb;subst hb;rintro rfl;exact hs ((h2 _).1 ha)
theorem srt_mem {l : List It} {n : Int} : n ∈ bO l ↔ (lkM n (inS l l.length).1).isSome = true := by
 rw [bO,List.mem_mergeSort]; exact (mB l l.length).2.1 n
theorem srt_len (l : List It) : (bO l).length <= l.length := by
 rw [bO,List.length_mergeSort]; exact (mB l l.length).2.2.1
theorem in_idx {l : List It} {k : Nat} (n : Int) (h : k < l.length) : 0 <= (lkM n (inS l k).1).getD 0 /\ (lkM n (inS l k).1).getD 0 < (l.length : Int) := by
 cases hn : lkM n (inS l k).1 with
 | none => simp; omega
 | some o => have := (mB l k).1 n o hn; simp; omega
theorem srt_idx {l : List It} {q : Nat} (h : q < (bO l).length) : 0 <= (lkM ((bO l).getD q 0) (inS l l.length).1).getD 0 /\ (lkM ((bO l).getD q 0) (inS l l.length).1).getD 0 < (l.length : Int) := by
 have hm := srt_mem.1 (bF (z := 0) h);obtain ⟨o,ho⟩ := Option.isSome_iff_exists.1 hm;have := (mB l l.length).1 _ o ho;rw [ho]; simp; omega
theorem aOM {l : List It} {q : Nat} (h : q < (bO l).length) : bI (((bO l).take q).map (inP l)) ++ [ItD (inP l ((bO l).getD q 0))] = bI (((bO l).take (q + 1)).map (inP l)) := by
 rw [dG 0 h]; simp [bI]
theorem in_new {l : List It} {k : Nat} {em : List (Int × Int)} {es : LD} (hk : k < l.length) (h1 : em = (inS l k).1) (h2 : es = intsD (inS l k).2) (hn : (lkM (l.getD k It.z).id em).isSome = false) {em' : List (Int × Int)} {es' : LD}
  (h3 : em' = cG ltI (l.getD k It.z).id (k : Int) em) (h4 : es' = es ++ [[D.i (l.getD k It.z).id]]) : k + 1 <= l.length /\ em' = (inS l (k + 1)).1 /\ es' = intsD (inS l (k + 1)).2 := by
 subst h1;have hn' : ¬ (lkM (l.getD k It.z).id (inS l k).1).isSome = true := by rw [hn]; decide
 refine ⟨by omega,?_,?_⟩;rw [h3]; simp only [inS]; rw [if_neg (fun h => hn' h.1)];rw [h4,h2]; simp only [inS]; rw [if_neg hn']; simp [intsD,intD]
theorem in_old {l : List It} {k : Nat} {em : List (Int × Int)} {es : LD} (hk : k < l.length) (h1 : em = (inS l k).1) (h2 : es = intsD (inS l k).2) (hn : (lkM (l.getD k It.z).id em).isSome = true) (hla : ¬ ((lkM (l.getD k It.z).id em).isSome = true /\ gU (l.getD ((lkM (l.getD k It.z).id em).getD 0).toNat It.z) (l.getD k It.z) = true)) {em' : List (Int × Int)} {es' : LD}
  (h3 : em' = cG ltI (l.getD k It.z).id (k : Int) em) (h4 : es' = es) : k + 1 <= l.length /\ em' = (inS l (k + 1)).1 /\ es' = intsD (inS l (k + 1)).2 := by
 subst h1;refine ⟨by omega,?_,?_⟩;rw [h3]; simp only [inS]; rw [if_neg hla];rw [h4,h2]; simp only [inS]; rw [if_pos hn]
theorem in_keep {l : List It} {k : Nat} {em : List (Int × Int)} {es : LD} (hk : k < l.length) (h1 : em = (inS l k).1) (h2 : es = intsD (inS l k).2) (hn : (lkM (l.getD k It.z).id em).isSome = true) (hla : (lkM (l.getD k It.z).id em).isSome = true /\ gU (l.getD ((lkM (l.getD k It.z).id em).getD 0).toNat It.z) (l.getD k It.z) = true) {em' : List (Int × Int)} {es' : LD}
  (h3 : em' = em) (h4 : es' = es) : k + 1 <= l.length /\ em' = (inS l (k + 1)).1 /\ es' = intsD (inS l (k + 1)).2 := by
 subst h1;refine ⟨by omega,?_,?_⟩;rw [h3]; simp only [inS]; rw [if_pos hla];rw [h4,h2]; simp only [inS]; rw [if_pos hn]
theorem aH5 (v : Tv) :
  SpG g 97 [y0 (tvK v) (S (tvS v)) ([] : LD)] [] (y0 (tvK v) (S (tvS v)) ([] : LD)) [] := by
 refine aP 47 Tryz.func97 fun fr hG => ?_;refine zL hG [(1,2,kC (.c (cM 1 ([] : LD))))] [0,1,0,1,1,1] (fun (zz : Nat) => match zz with | k => (0,⟨[zX 1 100 0,zX 2 101 0,zY 3 303 0,zM 18 1 ([] : LD),zI 19 (([] : LD).length : Int),zI 20 (k : Int)],[(100,y1 (tvK v) (S (tvS v)) ([] : LD)),(101,y8),(303,.arr 0 55 1 ([] : LD))]⟩,k = 0)) 0 (cS2 g aGA (aC (by intros; (try simp only [ln,inR]); omega : (0 : Int) <= (([] : LD).length : Int) /\ ((24 : Nat) : Int) * (([] : LD).length : Int) <= 281474976710656 /\ (([] : LD).length : Int) <= 9223372036854775807))) ?_ ?_;exact rfl;rintro k hk;refine zp hG [] [0,1] ((k : Int) < ((([] : LD)).length : Int)) aB (fun hc2 => ?_) (fun hc2 => ?_);skip;simp at hc2; omega;skip;refine zE hG [] (.exit 0) (⟨[zX 1 100 0,zX 2 101 0,zY 3 303 0],[(100,y1 (tvK v) (S (tvS v)) ([] : LD)),(101,y8),(303,.arr 0 55 1 ([] : LD))]⟩) aB rfl ?_;exact zr hG [] [] aB
theorem aAT (l : List Tv) (hl : l.length <= 1000) :
  SpG g 96 [.c (cM 7 (aS l))] [] (.c (cM 7 (aS l))) [] := by
 refine aP 19 Tryz.func96 fun fr hG => ?_;refine zA hG [] [0,1,0,1,1] (⟨[zN 2,zN 3,zM 6 7 (aS l),zI 7 ((aS l).length : Int),zI 8 0],[]⟩) [(3,9001,61,7)] [] (fun (zz : Nat × LD) => match zz with | (k,es) => (l.length - k,⟨[zN 2,zY 3 9001 0,zM 6 7 (aS l),zI 7 ((aS l).length : Int),zI 8 (k : Int)],[(9001,.arr 0 61 7 es)]⟩,k <= l.length /\ es = aS (l.take k))) (0,[]) aB ?_ ?_;exact ⟨zl _,rfl⟩;rintro ⟨k,es⟩ ⟨hk,hes⟩;have hel : es.length = k := by rw [hes,aS,lm,lt1]; omega
 refine zc hG [] [0,1] (decide ((k : Int) < ((aS l).length : Int))) aB (fun hc2 => ?_) (fun hc2 => ?_)
 (try simp only [iD,aS] at hc2)
 refine zD hG [(4,0,.elem (TvD (l.getD k none))),(5,2,kC (y0 (tvK (l.getD k none)) (S (tvS (l.getD k none))) ([] : LD)))] (k + 1,es ++ ([[.i (tvK (l.getD k none)),.s (S (tvS (l.getD k none))),.i 0,.i 0,.i 0,.sl 1 ([] : LD),.sl 1 ([] : LD)]] : LD)) (aA (by intros; exact cE _ (by omega) (by (try simp only [zq4,aS] at *); omega) : (0 : Int) <= (k : Int) /\ (aS l)[k]? = some (TvD (l.getD k none))) (cS2 g (aH5 (l.getD k none)) (aA (by intros; (try simp only [zq9,aS] at *); omega : (es.length + ([[.i (tvK (l.getD k none)),.s (S (tvS (l.getD k none))),.i 0,.i 0,.i 0,.sl 1 ([] : LD),.sl 1 ([] : LD)]] : LD).length) * (96 + 1) <= 140737488355328) (aC (by intros; (try simp only [zq9,aS] at *); omega : inR ((k : Int) + 1)))))) ?_ ?_
 (try dsimp only); omega
 exact ⟨by omega,by rw [hes]; exact aLN (by omega)⟩
 (try simp only [iD,aS] at hc2)
 refine zE hG [] (.exit 0) (⟨[zN 2,zY 3 9001 0],[(9001,.arr 0 61 7 es)]⟩) aB rfl ?_;refine zR hG [] [] (.c (cM 7 es)) [] aB ?_ ?_;rw [hes,tlQ (by omega)];rfl
theorem aKZ (i : It) (hi : i.input.length <= 1000) (hp : i.program.length <= 1000000) :
  SpG g 47 [.agg (zTQ i)] [] (.agg (zTQ i)) [] := by
 refine aP 16 Tryz.func47 fun fr hG => ?_;exact zr hG [(1,2,kC (.c (cM 7 (aS (i.input))))),(2,2,kC (y0 (tvK (i.output)) (S (tvS (i.output))) ([] : LD))),(3,2,kC (.c (cM 1 (intsD (i.program)))))] [] (cS2 g (aAT (i.input) (by assumption)) (cS2 g (aH5 (i.output)) (cS1 g (aK1 (i.program) (by assumption)))))
theorem aCL (a b : It) :
  SpG g 45 [.agg (zTQ a),.agg (zTQ b)] [] (.c (cB (gU a b))) [] := by
 refine aP 20 Tryz.func45 fun fr hG => ?_;refine zC hG [] [1,0,1] (!decide ((a.time : Int) = (b.time))) (⟨[zX 2 100 0,zX 3 101 0,zB 4 false],[(100,.box 63 (zTQ a)),(101,.box 63 (zTQ b))]⟩) aB (fun hc1 => ?_) (fun hc1 => ?_)
 (try simp only [blS] at hc1)
 refine zR hG [] [] (.c (cB (decide ((a.time : Int) > (b.time))))) [] aB ?_ ?_;rw [gU,if_neg (by simpa using hc1)];rfl
 (try simp only [blS] at hc1)
 refine zR hG [] [] (.c (cB (decide ((a.author : Int) > (b.author))))) [] aB ?_ ?_;rw [gU,if_pos (by simpa using hc1)];rfl
def aA8 := And.intro @la.{0} (And.intro @lc.{0} (And.intro @lm.{0,0} (And.intro @ln.{0} (And.intro @Go.Eng.inR.eq_1 (@intsD.eq_1)))))
abbrev e6z (a0 : LD) : bR := [zM 0 16 a0,zN 2,(3,[],.c (.mp 200))]
theorem aFP (l : List It) (hl : l.length <= 100000) (hI : ∀ i,i ∈ l -> ItOk i) :
  SpG g 24 [.c (cM 16 (bI l))] [] (.c (cM 16 (bI (inF l)))) [] := by
 refine aP 70 Tryz.func24 fun fr hG => ?_;refine yB 0 rfl fun hl0 => ?_;refine zA hG [(1,0,.mask [])] [0,1,0,1,1,1] (⟨e6z (bI l) ++ [zN 4,zM 13 16 (bI l),zI 14 ((bI l).length : Int),zI 15 0],[(200,.box ⟨.mpi ([]),none⟩ [])]⟩) [(4,9001,3,1)] [] (fun (zz : Nat × List (Int × Int) × LD) => match zz with | (k,em,es) => (l.length - k,⟨e6z (bI l) ++ [zY 4 9001 0,zM 13 16 (bI l),zI 14 ((bI l).length : Int),zI 15 (k : Int)],[(200,.box ⟨.mpi em,none⟩ []),(9001,.arr 0 3 1 es)]⟩,k <= l.length /\ em = (inS l k).1 /\ es = intsD (inS l k).2)) (0,[],[]) aB ?_ ?_
 ·exact ⟨zl _,rfl,rfl⟩
 rintro ⟨k,em,es⟩ ⟨hk,hem,hes⟩;have hel : es.length = (inS l k).2.length := by rw [hes,intsD,lm]
 have hel2 := (mB l k).2.2.1;refine zc hG [] [0,1] (decide ((k : Int) < ((bI l).length : Int))) aB (fun hc2 => ?_) (fun hc2 => ?_)
 ·(try simp only [iD,aS,bI] at hc2)
  have hix := in_idx (l.getD k It.z).id (l := l) (k := k) (by simpa [bI] using hc2);rw [<- hem] at hix;refine zC hG [(5,1,.elem (ItD (l.getD k It.z)))] [1,0,1,1,0,0,1,1] (!((lkM ((l.getD k It.z).id) em).isSome)) (⟨e6z (bI l) ++ [zY 4 9001 0,zI 5 (k : Int),zX 6 603 0,zI 7 ((lkM ((l.getD k It.z).id) em).getD 0),zB 8 ((lkM ((l.getD k It.z).id) em).isSome),zM 13 16 (bI l),zI 14 ((bI l).length : Int),zI 15 (k : Int)],[(200,.box ⟨.mpi em,none⟩ []),(603,.box 63 (zTQ (l.getD k It.z))),(9001,.arr 0 3 1 es)]⟩) (aC (by intros; exact cE (f := ItD) It.z (by omega) (by (try simp only [bI,lm] at *); omega) : (0 : Int) <= (k : Int) /\ (bI l)[k]? = some (ItD (l.getD k It.z)))) (fun hc3 => ?_) (fun hc3 => ?_)
  ·(try simp only [iD,aS,bI] at hc3)
   refine zC hG [(9,5,.elem (ItD (l.getD ((lkM ((l.getD k It.z).id) em).getD 0 : Int).toNat It.z))),(9,8,kB (gU (l.getD ((lkM ((l.getD k It.z).id) em).getD 0 : Int).toNat It.z) (l.getD k It.z)))] [1,1,1,1,0,0,1,1] ((!((lkM ((l.getD k It.z).id) em).isSome)) || (!(gU (l.getD ((lkM ((l.getD k It.z).id) em).getD 0 : Int).toNat It.z) (l.getD k It.z)))) (⟨e6z (bI l) ++ [zY 4 9001 0,zI 5 (k : Int),zX 6 603 0,zM 13 16 (bI l),zI 14 ((bI l).length : Int),zI 15 (k : Int)],[(200,.box ⟨.mpi em,none⟩ []),(603,.box 63 (zTQ (l.getD k It.z))),(9001,.arr 0 3 1 (es ++ ([[.i ((l.getD k It.z).id)]] : LD)))]⟩) (aA (by intros; (try simp only [aA8,bI] at *); omega : (es.length + ([[.i ((l.getD k It.z).id)]] : LD).length) * (8 + 1) <= 140737488355328) (aA (by intros; exact cE (f := ItD) It.z (by omega) (by (try simp only [bI,lm] at *); omega) : (!((lkM ((l.getD k It.z).id) em).isSome)) = false -> (0 : Int) <= ((lkM ((l.getD k It.z).id) em).getD 0) /\ (bI l)[((lkM ((l.getD k It.z).id) em).getD 0 : Int).toNat]? = some (ItD (l.getD ((lkM ((l.getD k It.z).id) em).getD 0 : Int).toNat It.z))) (aC (fun (hg1 : (!((lkM ((l.getD k It.z).id) em).isSome)) = false) => (aCL (l.getD ((lkM ((l.getD k It.z).id) em).getD 0 : Int).toNat It.z) (l.getD k It.z) : SpG g _ _ _ _ _))))) (fun hc4 => ?_) (fun hc4 => ?_)
   ·(try simp only [iD,aS,bI] at hc4)
    refine zD hG [] (k + 1,cG ltI ((l.getD k It.z).id) (k : Int) em,es ++ ([[.i ((l.getD k It.z).id)]] : LD)) (aC (by intros; (try simp only [aA8,bI] at *); omega : inR ((k : Int) + 1))) ?_ ?_
    ·(try dsimp only); omega
    ·exact in_new (by omega) hem hes hc3 rfl rfl
   ·(try simp only [iD,aS,bI] at hc4)
    refine zD hG [] (k + 1,em,es ++ ([[.i ((l.getD k It.z).id)]] : LD)) (aC (by intros; (try simp only [aA8,bI] at *); omega : inR ((k : Int) + 1))) ?_ ?_
    ·(try dsimp only); omega
    ·exact absurd (hc3.symm.trans hc4.1) (by decide)
  ·(try simp only [iD,aS,bI] at hc3)
   refine zC hG [(9,5,.elem (ItD (l.getD ((lkM ((l.getD k It.z).id) em).getD 0 : Int).toNat It.z))),(9,8,kB (gU (l.getD ((lkM ((l.getD k It.z).id) em).getD 0 : Int).toNat It.z) (l.getD k It.z)))] [1,1,1,1,0,0,1,1] ((!((lkM ((l.getD k It.z).id) em).isSome)) || (!(gU (l.getD ((lkM ((l.getD k It.z).id) em).getD 0 : Int).toNat It.z) (l.getD k It.z)))) (⟨e6z (bI l) ++ [zY 4 9001 0,zI 5 (k : Int),zX 6 603 0,zM 13 16 (bI l),zI 14 ((bI l).length : Int),zI 15 (k : Int)],[(200,.box ⟨.mpi em,none⟩ []),(603,.box 63 (zTQ (l.getD k It.z))),(9001,.arr 0 3 1 es)]⟩) (aA (by intros; exact cE (f := ItD) It.z (by omega) (by (try simp only [bI,lm] at *); omega) : (!((lkM ((l.getD k It.z).id) em).isSome)) = false -> (0 : Int) <= ((lkM ((l.getD k It.z).id) em).getD 0) /\ (bI l)[((lkM ((l.getD k It.z).id) em).getD 0 : Int).toNat]? = some (ItD (l.getD ((lkM ((l.getD k It.z).id) em).getD 0 : Int).toNat It.z))) (aC (fun (hg1 : (!((lkM ((l.getD k It.z).id) em).isSome)) = false) => (aCL (l.getD ((lkM ((l.getD k It.z).id) em).getD 0 : Int).toNat It.z) (l.getD k It.z) : SpG g _ _ _ _ _)))) (fun hc5 => ?_) (fun hc5 => ?_)
   ·(try simp only [iD,aS,bI] at hc5)
    refine zD hG [] (k + 1,cG ltI ((l.getD k It.z).id) (k : Int) em,es) (aC (by intros; (try simp only [aA8,bI] at *); omega : inR ((k : Int) + 1))) ?_ ?_
    ·(try dsimp only); omega
    ·exact in_old (by omega) hem hes hc3 (fun hh => by rcases hc5 with h | h; (· rw [hh.1] at h; cases h); rw [hh.2] at h; cases h) rfl rfl
   ·(try simp only [iD,aS,bI] at hc5)
    refine zD hG [] (k + 1,em,es) (aC (by intros; (try simp only [aA8,bI] at *); omega : inR ((k : Int) + 1))) ?_ ?_
    ·(try dsimp only); omega
    ·exact in_keep (by omega) hem hes hc3 hc5 rfl rfl
 ·(try simp only [iD,aS,bI] at hc2)
  have hkl : k = l.length := by omega
  subst hkl;have hes2 := hes;have hem2 := hem;refine zE hG [] (.exit 0) (⟨e6z (bI l) ++ [zY 4 9001 0],[(200,.box ⟨.mpi em,none⟩ []),(9001,.arr 0 3 1 es)]⟩) aB rfl ?_;refine zA hG [(12,1,.callG (.tup []) [9001,0] [(0,.arr 0 3 1 (intsD (bO l)))])] [0,1,0,1,1,1,1,1,1] (⟨e6z (bI l) ++ [zN 9,zY 52 9001 0,zI 53 ((intsD (bO l)).length : Int),zI 54 0],[(200,.box ⟨.mpi em,none⟩ []),(9001,.arr 0 3 1 (intsD (bO l)))]⟩) [(9,9002,63,16)] [] (fun (zz : Nat × LD) => match zz with | (q,et) => ((bO l).length - q,⟨e6z (bI l) ++ [zY 9 9002 0,zY 52 9001 0,zI 53 ((intsD (bO l)).length : Int),zI 54 (q : Int)],[(200,.box ⟨.mpi em,none⟩ []),(9001,.arr 0 3 1 (intsD (bO l))),(9002,.arr 0 63 16 et)]⟩,q <= (bO l).length /\ et = bI (((bO l).take q).map (inP l)))) (0,[]) (aA sortC (aC (show aQI es (intsD (bO l)) from ⟨(inS l l.length).2,hes2,rfl,by have := (mB l l.length).2.2.1; omega⟩))) ?_ ?_
  ·exact ⟨zl _,rfl⟩
  rintro ⟨q,et⟩ ⟨hq,het⟩;have htl : et.length = q := by rw [het,bI,lm,lm,lt1]; omega
  have hsl := srt_len l;have hsd : (intsD (bO l)).length = (bO l).length := by rw [intsD,lm]
  refine zc hG [] [0,1] (decide ((q : Int) < ((intsD (bO l)).length : Int))) aB (fun hc7 => ?_) (fun hc7 => ?_)
  ·(try simp only [iD,aS,bI] at hc7)
   have hix2 := srt_idx (l := l) (q := q) (by omega);rw [<- hem2] at hix2;refine zD hG [(16,1,.elem (intD ((bO l).getD q 0))),(17,5,.elem (ItD (l.getD ((lkM ((bO l).getD q 0) em).getD 0 : Int).toNat It.z))),(17,7,kC (.agg (zTQ (l.getD ((lkM ((bO l).getD q 0) em).getD 0 : Int).toNat It.z))))] (q + 1,et ++ ([[.i ((l.getD ((lkM ((bO l).getD q 0) em).getD 0 : Int).toNat It.z).id),.i ((l.getD ((lkM ((bO l).getD q 0) em).getD 0 : Int).toNat It.z).author),.i ((l.getD ((lkM ((bO l).getD q 0) em).getD 0 : Int).toNat It.z).rank),.i ((l.getD ((lkM ((bO l).getD q 0) em).getD 0 : Int).toNat It.z).time),.i ((l.getD ((lkM ((bO l).getD q 0) em).getD 0 : Int).toNat It.z).kind),.sl 7 (aS ((l.getD ((lkM ((bO l).getD q 0) em).getD 0 : Int).toNat It.z).input)),.i (tvK ((l.getD ((lkM ((bO l).getD q 0) em).getD 0 : Int).toNat It.z).output)),.s (S (tvS ((l.getD ((lkM ((bO l).getD q 0) em).getD 0 : Int).toNat It.z).output))),.i 0,.i 0,.i 0,.sl 1 ([] : LD),.sl 1 ([] : LD),.s (S (l.getD ((lkM ((bO l).getD q 0) em).getD 0 : Int).toNat It.z).prop),.s (S (l.getD ((lkM ((bO l).getD q 0) em).getD 0 : Int).toNat It.z).param),.sl 1 (intsD ((l.getD ((lkM ((bO l).getD q 0) em).getD 0 : Int).toNat It.z).program))]] : LD)) (aA (by intros; (try simp only [aA8,bI] at *); omega : (0 : Int) <= (q : Int) /\ (q : Int) < ((intsD (bO l)).length : Int)) (aA (by intros; exact fN (f := intD) (l := bO l) 0 (by omega) : (intsD (bO l))[q]? = some (intD ((bO l).getD q 0))) (aA (by intros; exact cE (f := ItD) It.z (by omega) (by (try simp only [bI,lm] at *); omega) : (0 : Int) <= ((lkM ((bO l).getD q 0) em).getD 0) /\ (bI l)[((lkM ((bO l).getD q 0) em).getD 0 : Int).toNat]? = some (ItD (l.getD ((lkM ((bO l).getD q 0) em).getD 0 : Int).toNat It.z))) (cS2 g (aKZ (l.getD ((lkM ((bO l).getD q 0) em).getD 0 : Int).toNat It.z) (by (first | exact Nat.le_trans (hI _ (bF (by omega))).len (by decide) | exact Nat.le_trans (hI _ (bF (by omega))).plen (by decide))) (by (first | exact Nat.le_trans (hI _ (bF (by omega))).len (by decide) | exact Nat.le_trans (hI _ (bF (by omega))).plen (by decide)))) (aA (by intros; (try simp only [aA8,bI] at *); omega : (et.length + ([[.i ((l.getD ((lkM ((bO l).getD q 0) em).getD 0 : Int).toNat It.z).id),.i ((l.getD ((lkM ((bO l).getD q 0) em).getD 0 : Int).toNat It.z).author),.i ((l.getD ((lkM ((bO l).getD q 0) em).getD 0 : Int).toNat It.z).rank),.i ((l.getD ((lkM ((bO l).getD q 0) em).getD 0 : Int).toNat It.z).time),.i ((l.getD ((lkM ((bO l).getD q 0) em).getD 0 : Int).toNat It.z).kind),.sl 7 (aS ((l.getD ((lkM ((bO l).getD q 0) em).getD 0 : Int).toNat It.z).input)),.i (tvK ((l.getD ((lkM ((bO l).getD q 0) em).getD 0 : Int).toNat It.z).output)),.s (S (tvS ((l.getD ((lkM ((bO l).getD q 0) em).getD 0 : Int).toNat It.z).output))),.i 0,.i 0,.i 0,.sl 1 ([] : LD),.sl 1 ([] : LD),.s (S (l.getD ((lkM ((bO l).getD q 0) em).getD 0 : Int).toNat It.z).prop),.s (S (l.getD ((lkM ((bO l).getD q 0) em).getD 0 : Int).toNat It.z).param),.sl 1 (intsD ((l.getD ((lkM ((bO l).getD q 0) em).getD 0 : Int).toNat It.z).program))]] : LD).length) * (216 + 1) <= 140737488355328) (aC (by intros; (try simp only [aA8,bI] at *); omega : inR ((q : Int) + 1)))))))) ?_ ?_
   ·(try dsimp only); omega
   ·refine ⟨by omega,?_⟩
    rw [het,<- aOM (by omega)]; subst hem2; rfl
  ·(try simp only [iD,aS,bI] at hc7)
   refine zE hG [] (.exit 2) (⟨[zN 2,zY 9 9002 0],[(9002,.arr 0 63 16 et)]⟩) aB rfl ?_;refine zR hG [] [] (.c (cM 16 et)) [] aB ?_ ?_
   ·rw [het,tlQ (by omega)]; rfl
   ·rfl
end Go.Proofs.YtclaplngjmgnoaaGreatDoor
namespace Go.Proofs
open Go.RowKit Go.Maps Go.Sort Go.Shelf
shelf_lay_g SlLaysZ.n7 Ggz 7 at Tryz 60 as Tryz.keysK
shelf_lay_g SlLaysZ.n6 Ggz 6 at Tryz 59 as Tryz.sortedK
shelf_lay_g SlLaysM.n6 Slgm 6 at Tryz 112 as Tryz.sortK
theorem Tryz.sortsK (m : Nat) : AnyZ.SortsIn Tryz.prog Tryz.sortedK_ren Fence.wide m :=
  ⟨fun blk off cap ss W hH hblk hsz => callsIn_wide.2 (AnyM.slices_Sort_string Tryz.sortK blk off cap ss W hH hblk hsz),
   fun p cap W => callsIn_wide.2 (AnyM.slices_Sort_string_none Tryz.sortK p cap W)⟩
set_option maxHeartbeats 1000000 in
theorem Tryz.sorted_keysK {H : Type} (Bm b nn : Nat) (D0 : DataW H) (R : Value -> Option (DataW H × List MemPlace)) (w : World) (hBm : Bm < w.heap.size) (hm : w.cell? ⟨Bm,0,none⟩ = some (.map (some b))) (hown : w.ownsMap Tryz.prog 9 R b nn D0) (hmax : Maps.size D0 <= maxLen) (hbytes : Maps.size D0 * 16 <= 140737488355328) :
  CallsIn Fence.wide 5 Tryz.prog 59 #[.func (.func 113) #[] #[.pointer (some ⟨Bm,0,none⟩)]] w fun e w' => ∃ (v : Value) (ss : List (List UInt8)),e = .returned v /\ ss.Perm (strKeys D0) /\
   w'.ownsRow w.heap.size 9 1 v ss.length ((ss.mergeSort (fun x y => decide (x <= y))).map encStr) /\ (v = .slice none 0 0 ↔ ss = []) /\ Below w.heap.size w w' := by
 have hseq : SeqGives Fence.wide 2 Tryz.prog 113 #[.pointer (some ⟨Bm,0,none⟩)] encStr (fun ss => ss.Perm (strKeys D0)) (Maps.size D0) w :=
  AnyZ.keys_gives (ρ := Tryz.keysK_ren) { Tryz.keysK with } Fence.wide _ trivial rfl (by omega) Bm b nn D0 _ hBm hm hown
 exact AnyZ.sorted_in Tryz.sortedK Fence.wide 5 trivial trivial trivial trivial rfl (by omega) (Tryz.sortsK _) (enters_of Tryz.func112 (by kernel_rfl) rfl) 113 #[.pointer (some ⟨Bm,0,none⟩)] trivial (enters_of Tryz.func113 (by kernel_rfl) rfl) _ _ hmax hbytes _ hseq
end Go.Proofs
namespace Go.Proofs.YtclaplngjmgnoaaGreatDoor
open Go.RowKit Go.V
open Go.Eng (inR byteAt u8 dN)
variable {g : Gv}
theorem aLO {v v' : Tv} {r r' : List UInt8} (hr : iY r) (hr' : iY r') (h : tvT v ++ r = tvT v' ++ r') : v = v' /\ r = r' := by
 cases v with
 | none => cases v' with
  | none => simp only [tvT,List.cons_append,List.nil_append,List.cons.injEq,true_and] at h; exact ⟨rfl,h⟩
  | some s => simp [tvT] at h
 | some s => cases v' with
  | none => simp [tvT] at h
  | some s' =>
   have e : cQ s ++ 39 :: r = cQ s' ++ 39 :: r' := by simpa [tvT] using h
   have h1 := aLQ s hr;have h2 := aLQ s' hr';rw [e,h2] at h1;simp only [pIQ,true_and] at h1;exact ⟨by rw [h1.1],h1.2.symm⟩
theorem aBU (v : Tv) (r : List Tv) : rwT (v :: r) = tvT v ++ (if r = [] then [] else 124 :: rwT r) := by
 cases r with
 | nil => simp [rwT,joinL]
 | cons x s => simp [rwT,joinL]
theorem aGT : ∀ {a b : List Tv},rwT a = rwT b -> a = b
 | [],[],_ => rfl
 | [],v :: r,h => absurd h.symm (yI (by simp))
 | v :: r,[],h => absurd h (yI (by simp))
 | v :: r,v' :: r',h => by
  have hE : ∀ s : List Tv,iY (if s = [] then [] else 124 :: rwT s) := by
   intro s;split;exact .inl rfl;exact .inr ⟨124,_,rfl,rfl⟩
  rw [aBU,aBU] at h;obtain ⟨h1,h2⟩ := aLO (hE r) (hE r') h;have h3 : r = r' := by
   by_cases e : r = [];rw [if_pos e] at h2;by_cases e' : r' = [];rw [e,e'];rw [if_neg e'] at h2; cases h2;rw [if_neg e] at h2;by_cases e' : r' = [];rw [if_pos e'] at h2; cases h2;rw [if_neg e'] at h2;injection h2 with _ h4;exact aGT h4
  rw [h1,h3]
theorem tA {n m : Int} (hn : nOk n) (hm : nOk m) (h : Lib.itoa n = Lib.itoa m) : n = m := by
 have := pV hn;rw [h,pV hm] at this;injection this with h;exact h.symm
theorem nJ : ∀ {a b : List Int},(∀ n,n ∈ a -> nOk n) -> (∀ n,n ∈ b -> nOk n) -> a.map Lib.itoa = b.map Lib.itoa -> a = b
 | [],[],_,_,_ => rfl
 | [],y :: r,_,_,h => by simp at h
 | y :: r,[],_,_,h => by simp at h
 | x :: a,y :: b,ha,hb,h => by
  simp only [mp1,List.cons.injEq] at h;rw [tA (ha x (by simp)) (hb y (by simp)) h.1,nJ (fun n hn => ha n (by simp [hn])) (fun n hn => hb n (by simp [hn])) h.2]
theorem w4 : ∀ {a b : List (List UInt8)},a.map S = b.map S -> a = b
 | [],[],_ => rfl
 | [],y :: r,h => by simp at h
 | y :: r,[],h => by simp at h
 | x :: a,y :: b,h => by
  simp only [mp1,List.cons.injEq] at h;rw [S_inj.1 h.1,w4 h.2]
theorem prT_inj {i j : It} (hi : ItOk i) (hj : ItOk j) (h : prT i = prT j) : i.program = j.program := by
 by_cases h1 : i.program = [];by_cases h2 : j.program = [];rw [h1,h2];exact (aEC (h ▸ (by rw [prT,h1]; rfl)) h2).elim;by_cases h2 : j.program = [];exact (aEC (h.trans (by rw [prT,h2]; rfl)) h1).elim;have key : ∀ {i : It},ItOk i -> i.program ≠ [] -> ∃ n,(prT i).count 44 = n /\ Lib.splitB (S [44]) 0 n (S (prT i)) = (i.program.map Lib.itoa).map S := by
  intro i hi h1;obtain ⟨x,r,hx⟩ : ∃ x r,i.program.map Lib.itoa = x :: r := by
   cases he : i.program with
   | nil => exact absurd he h1
   | cons y s => exact ⟨_,_,rfl⟩
  have hno : ∀ y,y ∈ x :: r -> ∀ b,b ∈ y -> ¬ b = 44 := by
   intro y hy b hb;rw [<- hx] at hy;obtain ⟨n,_,rfl⟩ := mm.1 hy;exact fA (.inr (.inr rfl)) b hb
  exact ⟨r.length,by rw [prT,hx]; exact kH r x hno,by rw [prT,hx]; exact jU r x hno⟩
 obtain ⟨n,a1,a2⟩ := key hi h1;obtain ⟨m,b1,b2⟩ := key hj h2;rw [<- h] at b1 b2;have : n = m := a1.symm.trans b1;subst this;rw [a2] at b2;exact nJ hi.prog hj.prog (w4 b2)
theorem itT_inj {i j : It} (hi : ItOk i) (hj : ItOk j) (h : itT i = itT j) : i = j := by
 have h1 : rsT i 1 = rsT j 1 := by rw [iR,iR] at h; exact List.append_cancel_left h
 have num : ∀ {k : Nat},k < 5 -> rsT i (k + 1) = rsT j (k + 1) -> (dP i).getD k 0 = (dP j).getD k 0 /\ rsT i (k + 2) = rsT j (k + 2) := by
  intro k hk h;have e : ∀ i : It,(itP i).getD (k + 1) [] = Lib.itoa ((dP i).getD k 0) := by
   intro i
   match k,hk with
   | 0,_ => rfl
   | 1,_ => rfl
   | 2,_ => rfl
   | 3,_ => rfl
   | 4,_ => rfl
  rw [fQ i (by omega),fQ j (by omega),e,e] at h;have a := mH (a := Lib.itoa ((dP i).getD k 0)) (r := rsT i (k + 1 + 1)) (fA (.inl rfl));rw [h,mH (fA (.inl rfl))] at a;simp only [pIQ,and_true] at a;have hm : ∀ i : It,(dP i).getD k 0 ∈ dP i := fun i => bF (by simpa [dP] using hk);exact ⟨(tA (tC hj _ (hm j)) (tC hi _ (hm i)) a.1).symm,a.2.symm⟩
 have word : ∀ {k : Nat},k < 4 -> rsT i (k + 6) = rsT j (k + 6) -> (wsL i).getD k [] = (wsL j).getD k [] /\ rsT i (k + 7) = rsT j (k + 7) := by
  intro k hk h;have e : ∀ i : It,(itP i).getD (k + 6) [] = wdT ((wsL i).getD k []) := by
   intro i
   match k,hk with
   | 0,_ => rfl
   | 1,_ => rfl
   | 2,_ => rfl
   | 3,_ => rfl
  rw [fQ i (by omega),fQ j (by omega),e,e] at h;have e2 : ∀ i : It,wdT ((wsL i).getD k []) ++ 32 :: rsT i (k + 6 + 1) = Lib.itoa (((wsL i).getD k []).length : Int) ++ 58 :: wrT i k := by intro i; simp [wdT,wrT]
  rw [e2,e2] at h;have a := mH (a := Lib.itoa (((wsL i).getD k []).length : Int)) (r := wrT i k) (fA (.inr (.inl rfl)));rw [h,mH (fA (.inr (.inl rfl)))] at a;simp only [pIQ,and_true] at a;have l1 := rL hi hk;have l2 := rL hj hk;have hlen := tA (hJ (by omega)) (hJ (by omega)) a.1;have hlen : ((wsL j).getD k []).length = ((wsL i).getD k []).length := by omega
  have hw := a.2;unfold wrT at hw;obtain ⟨b1,b2⟩ := List.append_inj hw hlen;injection b2 with _ b3;exact ⟨b1.symm,b3.symm⟩
 obtain ⟨n0,h2⟩ := num (k := 0) (by decide) h1;obtain ⟨n1,h3⟩ := num (k := 1) (by decide) h2;obtain ⟨n2,h4⟩ := num (k := 2) (by decide) h3;obtain ⟨n3,h5⟩ := num (k := 3) (by decide) h4;obtain ⟨n4,h6⟩ := num (k := 4) (by decide) h5;obtain ⟨w0,h7⟩ := word (k := 0) (by decide) h6;obtain ⟨w1,h8⟩ := word (k := 1) (by decide) h7;obtain ⟨w2,h9⟩ := word (k := 2) (by decide) h8;obtain ⟨w3,h10⟩ := word (k := 3) (by decide) h9;have w0 := aGT w0;have w1 : i.output = j.output := (aLO (.inl rfl) (.inl rfl) (by rw [List.append_nil,List.append_nil]; exact w1)).1;have hp := prT_inj hi hj h10;cases i; cases j;simp only [It.mk.injEq];exact ⟨n0,n1,n2,n3,n4,w0,w1,w2,w3,hp⟩
noncomputable def aJ (t : List UInt8) : It := @dite It (∃ i,ItOk i /\ itT i = t) (Classical.propDecidable _) (fun h => Classical.choose h) (fun _ => It.z)
def lL (t : List UInt8) : Prop := ∃ i,ItOk i /\ itT i = t
theorem rC {t : List UInt8} (h : lL t) : ItOk (aJ t) /\ itT (aJ t) = t := by
 have : aJ t = Classical.choose h := by unfold aJ; exact dif_pos h
 rw [this]; exact Classical.choose_spec h
theorem zU {i : It} (h : ItOk i) : aJ (itT i) = i := by
 have h2 : lL (itT i) := ⟨i,h,rfl⟩
 obtain ⟨h3,h4⟩ := rC h2;exact itT_inj h3 h h4
def kSort (es : List (List UInt8 × Bool)) : Prop := (es.map (·.1)).Pairwise (· < ·)
theorem aI7 {es : List (List UInt8 × Bool)} (h : kSort es) {ss : List (List UInt8)} (hp : ss.Perm (es.map (·.1))) : ss.mergeSort (fun x y => decide (x <= y)) = es.map (·.1) := by
 have h1 : (ss.mergeSort (fun x y => decide (x <= y))).Pairwise (fun a b => a <= b) := by
  have := List.pairwise_mergeSort (le := fun x y : List UInt8 => decide (x <= y)) (fun a b c h1 h2 => by simp only [decide_eq_true_eq] at *; exact List.le_trans h1 h2) (fun a b => by simp only [Bool.or_eq_true,decide_eq_true_eq]; exact List.le_total a b) ss;exact this.imp fun h => by simpa using h
 have h2 : (es.map (·.1)).Pairwise (fun a b => a <= b) := h.imp fun h => List.le_of_lt h
 exact List.Perm.eq_of_pairwise (fun a b _ _ h1 h2 => List.le_antisymm h1 h2) h1 h2 ((List.mergeSort_perm _ _).trans hp)
theorem aOA {w : World} {b : Nat} {es : List (List UInt8 × Bool)} {ents : Array MapEntry} {clock : Nat} (hb : w.heap[b]? = some (.map ents clock)) (hM : MapIs (kvB es) ents clock) (hl : es.length <= 1000000) (hk : ∀ x,x ∈ es -> x.1.length <= 1000000) :
  ∃ D0 : DataW Unit,w.ownsMap Tryz.prog 9 (fun _ => some (.nil,[])) b ents.size D0 /\ (Go.strKeys D0).Perm (es.map (·.1)) /\ Maps.size D0 = es.length := by
 have hsz : ents.toList.length = es.length := by have := hM.kv.length_eq; simpa [kvB] using this
 have hst : Tryz.prog.underlying 9 = some .string := by kernel_rfl
 have hin : ∀ e ∈ ents.toList,∃ x : List UInt8,∃ c,(x,c) ∈ es /\ e.key = .string ⟨x.toArray⟩ := by
  intro e he;have : (e.key,e.val) ∈ kvB es := hM.kv.mem_iff.1 (mm.2 ⟨e,he,rfl⟩);obtain ⟨⟨x,c⟩,hx,hxe⟩ := mm.1 this;simp only [pIQ] at hxe;exact ⟨x,c,hx,hxe.1.symm⟩
 have hrd : ∀ e ∈ ents.toList,∃ x : List UInt8,e.key = .string ⟨x.toArray⟩ /\ WideElems.rd Tryz.prog 9 (fun _ => some ((DataW.nil : DataW Unit),[])) e = some (.string x,.nil) := by
  intro e he;obtain ⟨x,c,hx,hke⟩ := hin e he;refine ⟨x,hke,?_⟩;have hxl := hk _ hx;have hxs : (⟨x.toArray⟩ : ByteArray).size = x.length := by simp [ByteArray.size]
  have h2 : x.length <= maxLen := by unfold maxLen; simp only at hxl; omega
  unfold WideElems.rd;rw [keyOf_string hst,hke];simp [mapKey,hst,hxs,h2]
 refine ⟨.map ((ents.toList.map (WideElems.rg Tryz.prog 9 (fun _ => some ((DataW.nil : DataW Unit),[])))).foldr DataW.insert []),⟨ents,clock,hb,⟨?_,⟨hM.lt,hM.nd,?_⟩,fun x hx => ?_⟩,lr _,rfl⟩,?_,?_⟩
 ·have : ents.size = es.length := by rw [<- hsz]; simp
  unfold maxLen; omega
 ·have h1 : (ents.toList.map (·.key)) = (ents.toList.map fun e => (e.key,e.val)).map (·.1) := by rw [List.map_map]; rfl
  rw [h1];exact ((hM.kv.map (·.1)).nodup_iff).2 hM.kn
 ·obtain ⟨t,_,h⟩ := hrd x hx
  exact ⟨_,h⟩
 ·have hp := WideShapes.sorted_perm (ents.toList.map (WideElems.rg Tryz.prog 9 (fun _ => some ((DataW.nil : DataW Unit),[]))))
  have hp2 := hp.map fun p => Go.strOf p.1;refine hp2.trans ?_;rw [List.map_map];have e1 : ents.toList.map ((fun p : Go.Lit × DataW Unit => Go.strOf p.1) ∘ WideElems.rg Tryz.prog 9 (fun _ => some ((DataW.nil : DataW Unit),[]))) = (ents.toList.map fun e => (e.key,e.val)).map fun y => match y.1 with
    | .string s => s.data.toList
    | _ => [] := by
   rw [List.map_map];refine List.map_congr_left fun e he => ?_;obtain ⟨t,h1,h2⟩ := hrd e he;simp only [Function.comp,WideElems.rg,h2,h1,Option.getD_some,Go.strOf]
  rw [e1];have hp3 := hM.kv.map fun y : Value × Value => match y.1 with
   | .string s => s.data.toList
   | _ => []
  refine hp3.trans ?_;have e2 : (kvB es).map (fun y : Value × Value => match y.1 with
   | .string s => s.data.toList
   | _ => []) = es.map (·.1) := by
   rw [kvB,List.map_map];exact List.map_congr_left fun x _ => by simp
  rw [e2]
 ·have hp := WideShapes.sorted_perm (ents.toList.map (WideElems.rg Tryz.prog 9 (fun _ => some ((DataW.nil : DataW Unit),[]))))
  have := hp.length_eq;simp only [Maps.size,this,lm,hsz]
theorem dS (es : List (List UInt8 × Bool)) (hs : kSort es) (hl : es.length <= 1000000) (hk : ∀ x,x ∈ es -> x.1.length <= 1000000) :
  SpG g 59 [.c (.fn 113 [] [(0,0)])] [(0,.box 47 [.mp 1]),(1,.box ⟨.mpb es,none⟩ [])] (.c (cM 1 (strs (es.map (·.1))))) [(0,.box 47 [.mp 1]),(1,.box ⟨.mpb es,none⟩ [])] := by
 intro fr w pl args hw hG m ha;obtain ⟨v,r,rfl,h1,h2⟩ := ha.uncons;rw [h2.unnil];obtain ⟨_,rfl⟩ := h1;obtain ⟨vs,hv,hc⟩ := m.obj 0 _ rfl;obtain ⟨y,r',rfl,hy,hr'⟩ := hc.uncons;rw [hr'.unnil] at hv;obtain ⟨_,rfl⟩ := hy;obtain ⟨vs1,⟨ents,clock,hb,hM⟩,_⟩ := m.obj 1 _ rfl;have hv : w.heap[pl.blk 0]? = some (.cells #[.map (some (pl.blk 1))] 47 (0,0)) := hv;obtain ⟨D0,hown,hperm,hsize⟩ := aOA hb hM hl hk;have hcall := callsIn_wide.1 (Tryz.sorted_keysK (pl.blk 0) (pl.blk 1) ents.size D0 _ w (Array.getElem?_eq_some_iff.1 hv).1 (by rw [Lib.cell_of_heap hv]; rfl) hown (by rw [hsize]; unfold maxLen; omega) (by rw [hsize]; omega));refine Calls.mono hcall ?_;rintro e w' ⟨v,ss,rfl,hp,hrow,_,hbl⟩;obtain ⟨m',L⟩ := m.ext (w' := w') ⟨hbl.os,hbl.tape,hbl.output,hbl.size,fun k hk _ => hbl.block k hk⟩;have hpe := hp.trans hperm;rw [aI7 hs hpe] at hrow;have hlen : ss.length = ((es.map (·.1)).map encStr).length := by have := hpe.length_eq; simp only [lm] at this ⊢; exact this
 rw [hlen] at hrow;have := aGV m hw hrow (fun x hx => by obtain ⟨z,_,rfl⟩ := mm.1 hx; rfl);refine ⟨_,pl,rfl,m',?_⟩;have e : ((es.map (·.1)).map encStr).map (fun x => [D.v x]) = strs (es.map (·.1)) := by
  rw [List.map_map]; rfl
 rw [e] at this;exact this
end Go.Proofs.YtclaplngjmgnoaaGreatDoor
namespace Go.Proofs.YtclaplngjmgnoaaGreatDoor
open Go.RowKit Go.V
open Go.Eng (inR byteAt u8 dN)
variable {g : Gv}
abbrev RS := List (List UInt8 × Bool)
def aNF (a n : Int) : Bool := decide (1 <= n) && decide (n <= 8) && decide (1 <= a) && decide (a <= n)
def aW (t : List UInt8) (b : Bool) : List UInt8 := (if b then 45 else 43) :: (Lib.itoa (t.length : Int) ++ 58 :: (t ++ [10]))
def aE (es : RS) : List UInt8 := es.flatMap fun x => aW x.1 x.2
structure RsOk (n : Int) (es : RS) : Prop where
 sort : kSort es
 len : es.length <= 4000
 it : ∀ x,x ∈ es -> lL x.1
 au : ∀ x,x ∈ es -> 1 <= (aJ x.1).author /\ (aJ x.1).author <= n
theorem aOF {t : List UInt8} (h : lL t) : t.length <= 200000 := by
 obtain ⟨h1,h2⟩ := rC h;have := rA h1;rw [h2] at this; exact this
theorem RsOk.tlen {n : Int} {es : RS} (h : RsOk n es) {x : List UInt8 × Bool} (hx : x ∈ es) : x.1.length <= 200000 := aOF (h.it x hx)
theorem nP {t : List UInt8} (h : t.length <= 200000) (b : Bool) : (aW t b).length <= 200100 := by
 have := fT (hJ (n := t.length) (by omega));simp only [zq1,aW];omega
theorem aAH {α : Type} {f : α -> List UInt8} {c : Nat} : ∀ {l : List α},(∀ x,x ∈ l -> (f x).length <= c) -> (l.flatMap f).length <= c * l.length
 | [],_ => by simp
 | x :: l,h => by
  have h1 := h x (by simp);have h2 := aAH (f := f) (l := l) fun y hy => h y (by simp [hy]);simp only [zq0,List.flatMap_cons,Nat.mul_add,Nat.mul_one];omega
theorem aO9 {n : Int} {es : RS} (h : RsOk n es) (k : Nat) : (aE (es.take k)).length <= 800400000 := by
 have := aAH (f := fun x : List UInt8 × Bool => aW x.1 x.2) (l := es.take k) (c := 200100) fun x hx => nP (h.tlen (List.mem_of_mem_take hx)) x.2;have h2 := h.len;have h3 : (es.take k).length <= es.length := by rw [lt1]; omega
 unfold aE;omega
theorem aPA {es : RS} {k : Nat} (h : k < es.length) : aE (es.take (k + 1)) = aE (es.take k) ++ aW (es.getD k ([],false)).1 (es.getD k ([],false)).2 := by
 rw [dG ([],false) h]; simp [aE]
theorem pG {es : RS} {k : Nat} (h : k < es.length) : (es.map (·.1)).getD k [] = (es.getD k ([],false)).1 := by simp [h]
theorem aHE {es : RS} (hs : kSort es) {k : Nat} (h : k < es.length) : lkM (es.getD k ([],false)).1 es = some (es.getD k ([],false)).2 := by
 refine eH ?_ ?_
 ·have h2 : (es.map (·.1)).Pairwise (· < ·) := hs
  exact h2.imp fun {a b} h e => by rw [e] at h; exact List.lt_irrefl _ h
 ·exact bF h
theorem aHL (t : List UInt8) (h : t.length <= 200000) : SpG g 55 [.c (cI ((S t).size : Int))] [] (.c (cS (S (Lib.itoa (t.length : Int))))) [] := by
 have := nR (g := g) (t.length : Int) (by omega) (by omega);rw [aQ]; exact this
theorem o7 {t : List UInt8} (h : lL t) : SpG g 38 [.c (cS (S t))] [] (.tup [(true,(zTQ (aJ t))),(false,[cB true])]) [] := by
 obtain ⟨h1,h2⟩ := rC h;have := aKJ (g := g) (aJ t) h1;rw [h2] at this;exact this
theorem nQ {n : Int} {es : RS} (h : RsOk n es) {k : Nat} (hk : k < es.length) : ((es.map (·.1)).getD k []).length <= 200000 := by
 rw [pG hk]; exact h.tlen (bF hk)
theorem aOC {n : Int} {es : RS} (h : RsOk n es) {k : Nat} (hk : k < es.length) : lL ((es.map (·.1)).getD k []) := by
 rw [pG hk]; exact h.it _ (bF hk)
theorem aC1 {es : RS} (hs : kSort es) {k : Nat} (h : k < es.length) : bytesD (aE (es.take k)) ++ bytesD (S (aW ((es.map (·.1)).getD k []) ((lkM ((es.map (·.1)).getD k []) es).getD false))).data.toList = bytesD (aE (es.take (k + 1))) := by
 rw [pG h,aHE hs h,aPA h,mJ,cP]; rfl
abbrev y15 (a0 : Int) (a1 : Int) : Ob := .box 73 [cI a0,cI a1,.mp 1]
theorem fG (a n : Int) (es : RS) :
  SpG g 32 [.c (.bx 0 0)] [(0,y15 a n),(1,mBQ es)] (.c (cB false)) [(0,y15 a n),(1,mBQ es)] := by
 refine aP 12 Tryz.func32 fun fr hG => ?_;exact zr hG [] [] aB
def aA7 := And.intro @lc.{0} (And.intro @ln.{0} (And.intro @aQ (@maxLen.eq_1)))
theorem jE (t : List UInt8) (b : Bool) (h : t.length <= 200000) :
  SpG g 35 [.c (cS (S t)),.c (cB b)] [] (.c (cS (S (aW t b)))) [] := by
 have hl := fT (hJ (n := t.length) (by omega));refine aP 16 Tryz.func35 fun fr hG => ?_;refine zC hG [] [1,0,1,1] b (⟨[zS 0 (S t),zS 4 (S []),zS 5 (S [43])],[]⟩) aB (fun hc1 => ?_) (fun hc1 => ?_)
 (try simp only [blS] at hc1)
 refine zR hG [(4,3,kS (S (Lib.itoa (t.length : Int))))] [] (.c (cS (((((S [45]) ++ (S (Lib.itoa (t.length : Int)))) ++ (S [58])) ++ (S t)) ++ (S [10])))) [] (cS2 g (aHL t h) (aA (by intros; (try simp only [aA7,sa] at *); omega : (S [45]).size + (S (Lib.itoa (t.length : Int))).size <= maxLen) (aA (by intros; (try simp only [aA7,sa] at *); omega : ((S [45]) ++ (S (Lib.itoa (t.length : Int)))).size + (S [58]).size <= maxLen) (aA (by intros; (try simp only [aA7,sa] at *); omega : (((S [45]) ++ (S (Lib.itoa (t.length : Int)))) ++ (S [58])).size + (S t).size <= maxLen) (aC (by intros; (try simp only [aA7,sa] at *); omega : ((((S [45]) ++ (S (Lib.itoa (t.length : Int)))) ++ (S [58])) ++ (S t)).size + (S [10]).size <= maxLen)))))) ?_ ?_
 ·cases b <;> first | (exfalso; cases hc1; done) | (rw [eU,eU,eU,eU]; simp [aW]; done) | (exfalso; simp at hc1; done)
 rfl
 (try simp only [blS] at hc1)
 refine zR hG [(4,3,kS (S (Lib.itoa (t.length : Int))))] [] (.c (cS (((((S [43]) ++ (S (Lib.itoa (t.length : Int)))) ++ (S [58])) ++ (S t)) ++ (S [10])))) [] (cS2 g (aHL t h) (aA (by intros; (try simp only [aA7,sa] at *); omega : (S [43]).size + (S (Lib.itoa (t.length : Int))).size <= maxLen) (aA (by intros; (try simp only [aA7,sa] at *); omega : ((S [43]) ++ (S (Lib.itoa (t.length : Int)))).size + (S [58]).size <= maxLen) (aA (by intros; (try simp only [aA7,sa] at *); omega : (((S [43]) ++ (S (Lib.itoa (t.length : Int)))) ++ (S [58])).size + (S t).size <= maxLen) (aC (by intros; (try simp only [aA7,sa] at *); omega : ((((S [43]) ++ (S (Lib.itoa (t.length : Int)))) ++ (S [58])) ++ (S t)).size + (S [10]).size <= maxLen)))))) ?_ ?_
 ·cases b <;> first | (exfalso; cases hc1; done) | (rw [eU,eU,eU,eU]; simp [aW]; done) | (exfalso; simp at hc1; done)
 rfl
theorem aOB (es : RS) :
  SpG g 60 [.c (.mp 0)] [(0,mBQ es)] (.c (.fn 113 [] [(100,0)])) [(100,.box 47 [.mp 0]),(0,mBQ es)] := by
 refine aP 4 Tryz.func60 fun fr hG => ?_;exact zr hG [] [100] aB
theorem lA (es : RS) :
  SpG g 60 [.c (.mp 0)] [(0,mBQ es)] (.c (.fn 113 [] [(100,0)])) [(0,mBQ es),(100,.box 47 [.mp 0])] := by
 refine bX (aOB es) ?_
 first | rfl | (funext i; simp only [aF,upd]; ((repeat' split) <;> first | rfl | (exfalso; omega)))
theorem aB5 (a n : Int) (es : RS) :
  SpG g 33 [.c (.bx 0 0)] [(0,y15 a n),(1,mBQ es)] (.c (.fn 58 [] [(100,0)])) [(100,.box 35 [.bx 0 0]),(0,y15 a n),(1,mBQ es)] := by
 refine aP 4 Tryz.func33 fun fr hG => ?_;exact zr hG [] [100] aB
theorem gT (a n : Int) (es : RS) :
  SpG g 33 [.c (.bx 0 0)] [(0,y15 a n),(1,mBQ es)] (.c (.fn 58 [] [(100,0)])) [(0,y15 a n),(1,mBQ es),(100,.box 35 [.bx 0 0])] := by
 refine bX (aB5 a n es) ?_
 first | rfl | (funext i; simp only [aF,upd]; ((repeat' split) <;> first | rfl | (exfalso; omega)))
theorem aDB (q : Option Nat) (es : LD) :
  SpG g 61 [.c (.bx 0 0)] [(0,.box ⟨.c 89,q⟩ [.d (.v (.pointer none)),.ar 1 0]),(1,.arr 0 5 1 es)] (.tup []) [(0,.box ⟨.c 89,q⟩ [.bx 0 0,.ar 1 0]),(1,.arr 0 5 1 es)] := by
 refine aP 20 Tryz.func61 fun fr hG => ?_;refine zc hG [] [1] true aB (fun _ => ?_) (fun hc1 => absurd hc1 (by decide));exact zr hG [] [] (aC (show oR Tryz.prog 114 from vV))
theorem aDA (q : Option Nat) (es : LD) :
  SpG g 61 [.c (.bx 0 0)] [(0,.box ⟨.c 89,q⟩ [.bx 0 0,.ar 1 0]),(1,.arr 0 5 1 es)] (.tup []) [(0,.box ⟨.c 89,q⟩ [.bx 0 0,.ar 1 0]),(1,.arr 0 5 1 es)] := by
 refine aP 20 Tryz.func61 fun fr hG => ?_;refine zc hG [] [1] false aB (fun hc1 => absurd hc1 (by decide)) (fun _ => ?_);refine zC hG [] [1,1,1] false (⟨[],[(0,.box ⟨.c 89,q⟩ [.bx 0 0,.ar 1 0]),(1,.arr 0 5 1 es)]⟩) aB (fun hc2 => absurd hc2 (by decide)) (fun _ => ?_);exact zr hG [] [] aB
theorem uK (q : Option Nat) (es : LD) (s : ByteArray) (h : es.length + s.size <= 1000000000000) :
  SpG g 34 [.c (.bx 0 0),.c (cS s)] [(0,.box ⟨.c 89,q⟩ [.d (.v (.pointer none)),.ar 1 0]),(1,.arr 0 5 1 es)] (y4 (s.size : Int)) [(0,.box ⟨.c 89,q⟩ [.bx 0 0,.ar 1 0]),(1,y5 (es ++ bytesD s.data.toList))] := by
 refine aP 19 Tryz.func34 fun fr hG => ?_;exact zr hG [(1,1,.callG (.tup []) [0,1] [(0,.box ⟨.c 89,q⟩ [.bx 0 0,.ar 1 0]),(1,.arr 0 5 1 es)])] [] (cS2 g (aDB q es) (aC (by intros; first | assumption | omega : es.length + s.size <= 1000000000000)))
theorem uJ (q : Option Nat) (es : LD) (s : ByteArray) (h : es.length + s.size <= 1000000000000) :
  SpG g 34 [.c (.bx 0 0),.c (cS s)] [(0,.box ⟨.c 89,q⟩ [.bx 0 0,.ar 1 0]),(1,.arr 0 5 1 es)] (y4 (s.size : Int)) [(0,.box ⟨.c 89,q⟩ [.bx 0 0,.ar 1 0]),(1,y5 (es ++ bytesD s.data.toList))] := by
 refine aP 19 Tryz.func34 fun fr hG => ?_;exact zr hG [(1,1,.callG (.tup []) [0,1] [(0,.box ⟨.c 89,q⟩ [.bx 0 0,.ar 1 0]),(1,.arr 0 5 1 es)])] [] (cS2 g (aDA q es) (aC (by intros; first | assumption | omega : es.length + s.size <= 1000000000000)))
theorem encY0 (b3 D l : Nat) (fn : FuncId) (tm : Array Value) (h3 : tm.getD 3 undef = .pointer (some ⟨b3,0,none⟩)) (hn : tm.size = 17) (es : LD) (t : List UInt8) (w : Bool) (ht : t.length <= 200000) (he : es.length <= 900000000) :
  eS Tryz.prog (Gl g) l [.c (cS (S t)),.c (cB w)] [(0,zK Tryz.f14 [0,1,0,1,1,1] fn tm D l),(1,.box ⟨.c 89,some b3⟩ [.d (.v (.pointer none)),.ar 2 0]),(2,.arr 0 5 1 es)] (.c (cB true)) [(0,zK Tryz.f14 [0,1,0,1,1,1] fn tm D l),(1,.box ⟨.c 89,some b3⟩ [.bx 1 0,.ar 2 0]),(2,y5 (es ++ bytesD (S (aW t w)).data.toList))] := by
 have hll := nP ht w;refine hO (iL := 0) (p := 10) (p2 := 11) (env0 := [zX 3 1 0]) (n := 17) (r := (bM (aV Tryz.f14) [0,1,0,1,1,1] fn tm D)) rfl (by kernel_rfl) hn (by decide) (by decide) (by decide) ⟨rfl,⟨_,_,_,rfl,rfl,h3⟩,trivial⟩ fun fr hG => ?_;refine pZ hG aY [] (⟨[zX 3 1 0,zS 4 (S t),zB 5 w],[(0,zK Tryz.f14 [0,1,0,1,1,1] fn tm D l),(1,.box ⟨.c 89,some b3⟩ [.d (.v (.pointer none)),.ar 2 0]),(2,.arr 0 5 1 es)]⟩) 0 (r := (bM (aV Tryz.f14) [0,1,0,1,1,1] fn tm D)) (by kernel_rfl) aB rfl rfl ?_;refine jT hG (⟨[zX 3 1 0,zS 4 (S t),zB 5 w],[(0,.box ⟨.raw (.loop { (bM (aV Tryz.f14) [0,1,0,1,1,1] fn tm D) with state := .busy }),some l⟩ []),(1,.box ⟨.c 89,some b3⟩ [.d (.v (.pointer none)),.ar 2 0]),(2,.arr 0 5 1 es)]⟩) (by kernel_rfl) ?_;refine pY hG aY [(7,2,kS (S (aW t w))),(7,3,.callG (y4 ((S (aW t w)).size : Int)) [1,2] [(0,.box ⟨.c 89,some b3⟩ [.bx 0 0,.ar 1 0]),(1,y5 (es ++ bytesD (S (aW t w)).data.toList))])] [] 0 .normal [(0,.box ⟨.raw (oB { (bM (aV Tryz.f14) [0,1,0,1,1,1] fn tm D) with state := .busy } .normal),some l⟩ []),(2,y5 (es ++ bytesD (S (aW t w)).data.toList)),(1,.box ⟨.c 89,some b3⟩ [.bx 1 0,.ar 2 0])] (by kernel_rfl) (cS2 g (jE t w (by exact ht)) (cS1 g (uK (some b3) es (S (aW t w)) (by rw [aQ]; omega)))) ?_ ?_;rfl;funext i; simp only [aF,upd]; (repeat' split) <;> first | rfl | (exfalso; omega)
theorem encY1 (b3 D l : Nat) (fn : FuncId) (tm : Array Value) (h3 : tm.getD 3 undef = .pointer (some ⟨b3,0,none⟩)) (hn : tm.size = 17) (es : LD) (t : List UInt8) (w : Bool) (ht : t.length <= 200000) (he : es.length <= 900000000) :
  eS Tryz.prog (Gl g) l [.c (cS (S t)),.c (cB w)] [(0,zK Tryz.f14 [0,1,0,1,1,1] fn tm D l),(1,.box ⟨.c 89,some b3⟩ [.bx 1 0,.ar 2 0]),(2,.arr 0 5 1 es)] (.c (cB true)) [(0,zK Tryz.f14 [0,1,0,1,1,1] fn tm D l),(1,.box ⟨.c 89,some b3⟩ [.bx 1 0,.ar 2 0]),(2,y5 (es ++ bytesD (S (aW t w)).data.toList))] := by
 have hll := nP ht w;refine hO (iL := 0) (p := 10) (p2 := 11) (env0 := [zX 3 1 0]) (n := 17) (r := (bM (aV Tryz.f14) [0,1,0,1,1,1] fn tm D)) rfl (by kernel_rfl) hn (by decide) (by decide) (by decide) ⟨rfl,⟨_,_,_,rfl,rfl,h3⟩,trivial⟩ fun fr hG => ?_;refine pZ hG aY [] (⟨[zX 3 1 0,zS 4 (S t),zB 5 w],[(0,zK Tryz.f14 [0,1,0,1,1,1] fn tm D l),(1,.box ⟨.c 89,some b3⟩ [.bx 1 0,.ar 2 0]),(2,.arr 0 5 1 es)]⟩) 0 (r := (bM (aV Tryz.f14) [0,1,0,1,1,1] fn tm D)) (by kernel_rfl) aB rfl rfl ?_;refine jT hG (⟨[zX 3 1 0,zS 4 (S t),zB 5 w],[(0,.box ⟨.raw (.loop { (bM (aV Tryz.f14) [0,1,0,1,1,1] fn tm D) with state := .busy }),some l⟩ []),(1,.box ⟨.c 89,some b3⟩ [.bx 1 0,.ar 2 0]),(2,.arr 0 5 1 es)]⟩) (by kernel_rfl) ?_;refine pY hG aY [(7,2,kS (S (aW t w))),(7,3,.callG (y4 ((S (aW t w)).size : Int)) [1,2] [(0,.box ⟨.c 89,some b3⟩ [.bx 0 0,.ar 1 0]),(1,y5 (es ++ bytesD (S (aW t w)).data.toList))])] [] 0 .normal [(0,.box ⟨.raw (oB { (bM (aV Tryz.f14) [0,1,0,1,1,1] fn tm D) with state := .busy } .normal),some l⟩ []),(2,y5 (es ++ bytesD (S (aW t w)).data.toList)),(1,.box ⟨.c 89,some b3⟩ [.bx 1 0,.ar 2 0])] (by kernel_rfl) (cS2 g (jE t w (by exact ht)) (cS1 g (uJ (some b3) es (S (aW t w)) (by rw [aQ]; omega)))) ?_ ?_;rfl;funext i; simp only [aF,upd]; (repeat' split) <;> first | rfl | (exfalso; omega)
def qM := And.intro @lm.{0,0} (And.intro @blS (@strs.eq_1))
def aLB := And.intro @lm.{0,0} (And.intro @Go.Eng.inR.eq_1 (@strs.eq_1))
abbrev y16 (a0 : Int) (a1 : Int) : Ob := .box 73 [cI a0,cI a1,.mp 5]
theorem encIt_ (b0 b4 b5 : Nat) (b3 D l : Nat) (fn : FuncId) (tm : Array Value) (h3 : tm.getD 3 undef = .pointer (some ⟨b3,0,none⟩)) (hn : tm.size = 17) (a n : Int) (es : RS) (hes : RsOk n es) (hne : es ≠ []) :
  SpG g 58 [.c (.d (.v (.func (.yield l) #[] #[]))),.c (.bx 0 0)] [(0,.box ⟨.c 35,some b0⟩ [.bx 4 0]),(1,zK Tryz.f14 [0,1,0,1,1,1] fn tm D l),(2,.box ⟨.c 89,some b3⟩ [.d (.v (.pointer none)),.ar 3 0]),(3,y5 ([] : LD)),(4,.box ⟨.c 73,some b4⟩ [cI a,cI n,.mp 5]),(5,.box ⟨.mpb es,some b5⟩ [])] (.tup []) [(0,.box ⟨.c 35,some b0⟩ [.bx 4 0]),(1,zK Tryz.f14 [0,1,0,1,1,1] fn tm D l),(2,.box ⟨.c 89,some b3⟩ [.bx 2 0,.ar 3 0]),(3,y5 (bytesD (aE es))),(4,y16 a n),(5,mBQ es)] := by
 have hle := hes.len;have hpos := List.length_pos_iff.2 hne;have hsl : (strs (es.map (·.1))).length = es.length := by rw [strs,lm,lm]
 refine aP 27 Tryz.func58 fun fr hG => ?_;refine jJ [4,5] (⟨[(0,[],.c (.d (.v (.func (.yield l) #[] #[])))),zX 1 0 0],[(0,.box ⟨.c 35,some b0⟩ [.bx 4 0]),(1,zK Tryz.f14 [0,1,0,1,1,1] fn tm D l),(2,.box ⟨.c 89,some b3⟩ [.d (.v (.pointer none)),.ar 3 0]),(3,y5 ([] : LD)),(4,y16 a n),(5,mBQ es)]⟩) (by kernel_rfl) ?_;refine g8 hG aY [(0,4,.callG (.c (.fn 113 [] [(100,0)])) [5] [(0,mBQ es),(100,.box 47 [.mp 0])]),(0,5,.callG (.c (cM 1 (strs (es.map (·.1))))) [104,5] [(0,.box 47 [.mp 1]),(1,mBQ es)])] [0,1] ((fun (zz : Nat × LD) => match zz with | (0,eb) => ⟨[(0,[],.c (.d (.v (.func (.yield l) #[] #[])))),zX 1 0 0,zM 10 1 (strs (es.map (·.1))),zI 11 ((strs (es.map (·.1))).length : Int),zI 12 0],[(0,.box ⟨.c 35,some b0⟩ [.bx 4 0]),(1,zK Tryz.f14 [0,1,0,1,1,1] fn tm D l),(2,.box ⟨.c 89,some b3⟩ [.d (.v (.pointer none)),.ar 3 0]),(3,.arr 0 5 1 eb),(4,y16 a n),(5,mBQ es)]⟩ | (k + 1,eb) => ⟨[(0,[],.c (.d (.v (.func (.yield l) #[] #[])))),zX 1 0 0,zM 10 1 (strs (es.map (·.1))),zI 11 ((strs (es.map (·.1))).length : Int),zI 12 ((k + 1 : Nat) : Int)],[(0,.box ⟨.c 35,some b0⟩ [.bx 4 0]),(1,zK Tryz.f14 [0,1,0,1,1,1] fn tm D l),(2,.box ⟨.c 89,some b3⟩ [.bx 2 0,.ar 3 0]),(3,.arr 0 5 1 eb),(4,y16 a n),(5,mBQ es)]⟩) (0,[])) _ (by kernel_rfl) (cS2 g (lA es) (cS1 g (dS es (by exact hes.sort) (by have := hes.len; omega) (by intro x hx; have := hes.tlen hx; omega)))) ?_
 refine aN2 (σ := Nat × LD) (fun (zz : Nat × LD) => match zz with | (k,eb) => es.length - k) (fun (zz : Nat × LD) => match zz with | (0,eb) => ⟨[(0,[],.c (.d (.v (.func (.yield l) #[] #[])))),zX 1 0 0,zM 10 1 (strs (es.map (·.1))),zI 11 ((strs (es.map (·.1))).length : Int),zI 12 0],[(0,.box ⟨.c 35,some b0⟩ [.bx 4 0]),(1,zK Tryz.f14 [0,1,0,1,1,1] fn tm D l),(2,.box ⟨.c 89,some b3⟩ [.d (.v (.pointer none)),.ar 3 0]),(3,.arr 0 5 1 eb),(4,y16 a n),(5,mBQ es)]⟩ | (k + 1,eb) => ⟨[(0,[],.c (.d (.v (.func (.yield l) #[] #[])))),zX 1 0 0,zM 10 1 (strs (es.map (·.1))),zI 11 ((strs (es.map (·.1))).length : Int),zI 12 ((k + 1 : Nat) : Int)],[(0,.box ⟨.c 35,some b0⟩ [.bx 4 0]),(1,zK Tryz.f14 [0,1,0,1,1,1] fn tm D l),(2,.box ⟨.c 89,some b3⟩ [.bx 2 0,.ar 3 0]),(3,.arr 0 5 1 eb),(4,y16 a n),(5,mBQ es)]⟩) (fun (zz : Nat × LD) => match zz with | (k,eb) => k <= es.length /\ eb = bytesD (aE (es.take k))) (0,[]) (by kernel_rfl) ?_ ?_
 ·exact ⟨zl _,rfl⟩
 rintro ⟨k,eb⟩ ⟨hk,heb⟩;have hel : eb.length <= 800400000 := by rw [heb,bC]; exact aO9 hes k
 rcases k with _ | k <;> (try dsimp only at hk heb)
 ·skip
  refine zc hG [] [0,1] (decide ((0 : Int) < ((strs (es.map (·.1))).length : Int))) aB (fun hc2 => ?_) (fun hc2 => ?_)
  ·(try simp only [qM] at hc2)
   refine zC hG [(2,0,.elem (d9 ((es.map (·.1)).getD 0 []))),(3,8,.callG (.c (cB true)) [1,2,3] [(0,zK Tryz.f14 [0,1,0,1,1,1] fn tm D l),(1,.box ⟨.c 89,some b3⟩ [.bx 1 0,.ar 2 0]),(2,y5 (eb ++ bytesD (S (aW ((es.map (·.1)).getD 0 []) ((lkM ((es.map (·.1)).getD 0 []) es).getD false))).data.toList))])] [1,1,0,0,1,1] false (⟨[(0,[],.c (.d (.v (.func (.yield l) #[] #[])))),zX 1 0 0,zM 10 1 (strs (es.map (·.1))),zI 11 ((strs (es.map (·.1))).length : Int),zI 12 0],[(0,.box ⟨.c 35,some b0⟩ [.bx 4 0]),(1,zK Tryz.f14 [0,1,0,1,1,1] fn tm D l),(2,.box ⟨.c 89,some b3⟩ [.bx 2 0,.ar 3 0]),(3,y5 (eb ++ bytesD (S (aW ((es.map (·.1)).getD 0 []) ((lkM ((es.map (·.1)).getD 0 []) es).getD false))).data.toList)),(4,y16 a n),(5,mBQ es)]⟩) (aA (by intros; exact cE (f := d9) [] (by omega) (by (try simp only [zq4] at *); omega) : (0 : Int) <= 0 /\ (strs (es.map (·.1)))[0]? = some (d9 ((es.map (·.1)).getD 0 []))) (aC (encY0 b3 D l fn tm h3 hn eb ((es.map (·.1)).getD 0 []) ((lkM ((es.map (·.1)).getD 0 []) es).getD false) (by exact nQ hes (by omega)) (by omega) : eS Tryz.prog (Gl g) _ _ _ _ _))) (fun hc3 => absurd hc3 (by decide)) (fun _ => ?_)
   refine zD hG [] (1,eb ++ bytesD (S (aW (((es.map (·.1))).getD 0 []) ((lkM (((es.map (·.1))).getD 0 []) es).getD false))).data.toList) (aC (by unfold inR; decide : inR (0 + 1))) ?_ ?_
   ·(try dsimp only); omega
   ·exact ⟨by omega,by rw [heb]; exact aC1 hes.sort (k := 0) (by omega)⟩
  ·(try simp only [qM] at hc2)
   refine zE hG [] (.exit 0) (⟨[],[(0,.box ⟨.c 35,some b0⟩ [.bx 4 0]),(1,zK Tryz.f14 [0,1,0,1,1,1] fn tm D l),(2,.box ⟨.c 89,some b3⟩ [.d (.v (.pointer none)),.ar 3 0]),(3,.arr 0 5 1 eb),(4,y16 a n),(5,mBQ es)]⟩) aB rfl ?_;refine zR hG [] [] (.tup []) [(0,.box ⟨.c 35,some b0⟩ [.bx 4 0]),(1,zK Tryz.f14 [0,1,0,1,1,1] fn tm D l),(2,.box ⟨.c 89,some b3⟩ [.d (.v (.pointer none)),.ar 3 0]),(3,.arr 0 5 1 eb),(4,y16 a n),(5,mBQ es)] aB ?_ ?_
   ·exfalso; omega
   ·exfalso; omega
 ·skip
  refine zc hG [] [0,1] (decide ((((k + 1 : Nat) : Int) : Int) < ((strs (es.map (·.1))).length : Int))) aB (fun hc4 => ?_) (fun hc4 => ?_)
  ·(try simp only [qM] at hc4)
   refine zC hG [(2,0,.elem (d9 ((es.map (·.1)).getD (k + 1 : Nat) []))),(3,8,.callG (.c (cB true)) [1,2,3] [(0,zK Tryz.f14 [0,1,0,1,1,1] fn tm D l),(1,.box ⟨.c 89,some b3⟩ [.bx 1 0,.ar 2 0]),(2,y5 (eb ++ bytesD (S (aW ((es.map (·.1)).getD (k + 1 : Nat) []) ((lkM ((es.map (·.1)).getD (k + 1 : Nat) []) es).getD false))).data.toList))])] [1,1,0,0,1,1] false (⟨[(0,[],.c (.d (.v (.func (.yield l) #[] #[])))),zX 1 0 0,zM 10 1 (strs (es.map (·.1))),zI 11 ((strs (es.map (·.1))).length : Int),zI 12 ((k + 1 : Nat) : Int)],[(0,.box ⟨.c 35,some b0⟩ [.bx 4 0]),(1,zK Tryz.f14 [0,1,0,1,1,1] fn tm D l),(2,.box ⟨.c 89,some b3⟩ [.bx 2 0,.ar 3 0]),(3,y5 (eb ++ bytesD (S (aW ((es.map (·.1)).getD (k + 1 : Nat) []) ((lkM ((es.map (·.1)).getD (k + 1 : Nat) []) es).getD false))).data.toList)),(4,y16 a n),(5,mBQ es)]⟩) (aA (by intros; exact cE (f := d9) [] (by omega) (by (try simp only [zq4] at *); omega) : (0 : Int) <= ((k + 1 : Nat) : Int) /\ (strs (es.map (·.1)))[(k + 1 : Nat)]? = some (d9 ((es.map (·.1)).getD (k + 1 : Nat) []))) (aC (encY1 b3 D l fn tm h3 hn eb ((es.map (·.1)).getD (k + 1 : Nat) []) ((lkM ((es.map (·.1)).getD (k + 1 : Nat) []) es).getD false) (by exact nQ hes (by omega)) (by omega) : eS Tryz.prog (Gl g) _ _ _ _ _))) (fun hc5 => absurd hc5 (by decide)) (fun _ => ?_)
   refine zD hG [] (k + 1 + 1,eb ++ bytesD (S (aW (((es.map (·.1))).getD (k + 1 : Nat) []) ((lkM (((es.map (·.1))).getD (k + 1 : Nat) []) es).getD false))).data.toList) (aC (by intros; (try simp only [aLB] at *); omega : inR (((k + 1 : Nat) : Int) + 1))) ?_ ?_
   ·(try dsimp only); omega
   ·exact ⟨by omega,by rw [heb]; exact aC1 hes.sort (k := k + 1) (by omega)⟩
  ·(try simp only [qM] at hc4)
   refine zE hG [] (.exit 0) (⟨[],[(0,.box ⟨.c 35,some b0⟩ [.bx 4 0]),(1,zK Tryz.f14 [0,1,0,1,1,1] fn tm D l),(2,.box ⟨.c 89,some b3⟩ [.bx 2 0,.ar 3 0]),(3,.arr 0 5 1 eb),(4,y16 a n),(5,mBQ es)]⟩) aB rfl ?_;refine zR hG [] [] (.tup []) [(0,.box ⟨.c 35,some b0⟩ [.bx 4 0]),(1,zK Tryz.f14 [0,1,0,1,1,1] fn tm D l),(2,.box ⟨.c 89,some b3⟩ [.bx 2 0,.ar 3 0]),(3,.arr 0 5 1 eb),(4,y16 a n),(5,mBQ es)] aB ?_ ?_
   ·rfl
   ·have hk2 : k + 1 = es.length := by omega
    rw [hk2,List.take_length] at heb;rw [heb]
theorem encIt (b0 b4 b5 : Nat) (b3 D l : Nat) (fn : FuncId) (tm : Array Value) (h3 : tm.getD 3 undef = .pointer (some ⟨b3,0,none⟩)) (hn : tm.size = 17) (a n : Int) (es : RS) (hes : RsOk n es) (hne : es ≠ []) :
  SpG g 58 [.c (.d (.v (.func (.yield l) #[] #[]))),.c (.bx 0 0)] [(0,.box ⟨.c 35,some b0⟩ [.bx 4 0]),(1,zK Tryz.f14 [0,1,0,1,1,1] fn tm D l),(2,.box ⟨.c 89,some b3⟩ [.d (.v (.pointer none)),.ar 3 0]),(3,y5 ([] : LD)),(4,.box ⟨.c 73,some b4⟩ [cI a,cI n,.mp 5]),(5,.box ⟨.mpb es,some b5⟩ [])] (.tup []) [(0,.box ⟨.c 35,some b0⟩ [.bx 4 0]),(1,zK Tryz.f14 [0,1,0,1,1,1] fn tm D l),(2,.box ⟨.c 89,some b3⟩ [.bx 2 0,.ar 3 0]),(3,y5 (bytesD (aE es))),(4,y16 a n),(5,mBQ es)] := by
 refine bX (encIt_ b0 b4 b5 b3 D l fn tm h3 hn a n es hes hne) ?_
 first | rfl | (funext i; simp only [aF,upd]; ((repeat' split) <;> first | rfl | (exfalso; omega)))
theorem encIt0_ (b0 b4 b5 : Nat) (b3 D l : Nat) (fn : FuncId) (tm : Array Value) (h3 : tm.getD 3 undef = .pointer (some ⟨b3,0,none⟩)) (hn : tm.size = 17) (a n : Int) (es : RS) (hes : RsOk n es) (hz : es = []) :
  SpG g 58 [.c (.d (.v (.func (.yield l) #[] #[]))),.c (.bx 0 0)] [(0,.box ⟨.c 35,some b0⟩ [.bx 4 0]),(1,zK Tryz.f14 [0,1,0,1,1,1] fn tm D l),(2,.box ⟨.c 89,some b3⟩ [.d (.v (.pointer none)),.ar 3 0]),(3,y5 ([] : LD)),(4,.box ⟨.c 73,some b4⟩ [cI a,cI n,.mp 5]),(5,.box ⟨.mpb es,some b5⟩ [])] (.tup []) [(0,.box ⟨.c 35,some b0⟩ [.bx 4 0]),(1,zK Tryz.f14 [0,1,0,1,1,1] fn tm D l),(2,.box ⟨.c 89,some b3⟩ [.d (.v (.pointer none)),.ar 3 0]),(3,y5 ([] : LD)),(4,y16 a n),(5,mBQ es)] := by
 have hsl : (strs (es.map (·.1))).length = 0 := by rw [hz]; rfl
 refine aP 27 Tryz.func58 fun fr hG => ?_;refine jJ [4,5] (⟨[(0,[],.c (.d (.v (.func (.yield l) #[] #[])))),zX 1 0 0],[(0,.box ⟨.c 35,some b0⟩ [.bx 4 0]),(1,zK Tryz.f14 [0,1,0,1,1,1] fn tm D l),(2,.box ⟨.c 89,some b3⟩ [.d (.v (.pointer none)),.ar 3 0]),(3,y5 ([] : LD)),(4,y16 a n),(5,mBQ es)]⟩) (by kernel_rfl) ?_;refine zL hG [(0,4,.callG (.c (.fn 113 [] [(100,0)])) [5] [(0,mBQ es),(100,.box 47 [.mp 0])]),(0,5,.callG (.c (cM 1 (strs (es.map (·.1))))) [104,5] [(0,.box 47 [.mp 1]),(1,mBQ es)])] [0,1] (fun (zz : Nat) => match zz with | k => (0,⟨[(0,[],.c (.d (.v (.func (.yield l) #[] #[])))),zX 1 0 0,zM 10 1 (strs (es.map (·.1))),zI 11 ((strs (es.map (·.1))).length : Int),zI 12 (k : Int)],[(0,.box ⟨.c 35,some b0⟩ [.bx 4 0]),(1,zK Tryz.f14 [0,1,0,1,1,1] fn tm D l),(2,.box ⟨.c 89,some b3⟩ [.d (.v (.pointer none)),.ar 3 0]),(3,y5 ([] : LD)),(4,y16 a n),(5,mBQ es)]⟩,k = 0)) 0 (cS2 g (lA es) (cS1 g (dS es (by exact hes.sort) (by have := hes.len; omega) (by intro x hx; have := hes.tlen hx; omega)))) ?_ ?_
 ·exact rfl
 rintro k hk;refine zp hG [] [0,1] ((k : Int) < ((strs (es.map (·.1))).length : Int)) aB (fun hc2 => ?_) (fun hc2 => ?_)
 ·skip
  omega
 ·skip
  refine zE hG [] (.exit 0) (⟨[],[(0,.box ⟨.c 35,some b0⟩ [.bx 4 0]),(1,zK Tryz.f14 [0,1,0,1,1,1] fn tm D l),(2,.box ⟨.c 89,some b3⟩ [.d (.v (.pointer none)),.ar 3 0]),(3,y5 ([] : LD)),(4,y16 a n),(5,mBQ es)]⟩) aB rfl ?_;exact zr hG [] [] aB
theorem encIt0 (b0 b4 b5 : Nat) (b3 D l : Nat) (fn : FuncId) (tm : Array Value) (h3 : tm.getD 3 undef = .pointer (some ⟨b3,0,none⟩)) (hn : tm.size = 17) (a n : Int) (es : RS) (hes : RsOk n es) (hz : es = []) :
  SpG g 58 [.c (.d (.v (.func (.yield l) #[] #[]))),.c (.bx 0 0)] [(0,.box ⟨.c 35,some b0⟩ [.bx 4 0]),(1,zK Tryz.f14 [0,1,0,1,1,1] fn tm D l),(2,.box ⟨.c 89,some b3⟩ [.d (.v (.pointer none)),.ar 3 0]),(3,y5 ([] : LD)),(4,.box ⟨.c 73,some b4⟩ [cI a,cI n,.mp 5]),(5,.box ⟨.mpb es,some b5⟩ [])] (.tup []) [(0,.box ⟨.c 35,some b0⟩ [.bx 4 0]),(1,zK Tryz.f14 [0,1,0,1,1,1] fn tm D l),(2,.box ⟨.c 89,some b3⟩ [.d (.v (.pointer none)),.ar 3 0]),(3,y5 ([] : LD)),(4,y16 a n),(5,mBQ es)] := by
 refine bX (encIt0_ b0 b4 b5 b3 D l fn tm h3 hn a n es hes hz) ?_
 first | rfl | (funext i; simp only [aF,upd]; ((repeat' split) <;> first | rfl | (exfalso; omega)))
theorem qY (es : LD) (r : ByteArray) (h : es = bytesD r.data.toList) :
  SpG g 36 [.c (.bx 0 0)] [(0,.box 89 [.d (.v (.pointer none)),.ar 1 0]),(1,.arr 0 5 1 es)] (.c (cS r)) [(1,.arr 0 5 1 []),(0,.box 89 [.d (.v (.pointer none)),.any])] := by
 refine aP 14 Tryz.func36 fun fr hG => ?_;exact zr hG [(1,10,kS r)] [] (aA (show es = bytesD r.data.toList from h) (aC (by intros; first | assumption | (rw [h,bC]; rfl) : ((es.length : Int) : Int) = (r.size : Int))))
theorem t6 (es : LD) (r : ByteArray) (h : es = bytesD r.data.toList) :
  SpG g 36 [.c (.bx 0 0)] [(0,.box 89 [.d (.v (.pointer none)),.ar 1 0]),(1,.arr 0 5 1 es)] (.c (cS r)) [(0,.box 89 [.d (.v (.pointer none)),.any]),(1,.arr 0 5 1 [])] :=
 bX (qY es r h) (by funext i; match i with | 0 => rfl | 1 => rfl | i + 2 => rfl)
abbrev e4z (a0 : Int) (a1 : Int) (a2 : List (List UInt8 × Bool)) : aZ := [(0,y15 a0 a1),(1,mBQ a2)]
theorem aF8 (a n : Int) (es : RS) (hes : RsOk n es) :
  SpG g 14 [.c (.bx 0 0)] [(0,y15 a n),(1,mBQ es)] (.c (cS (S (aE es)))) [(0,y15 a n),(1,mBQ es)] := by
 refine tS 17 Tryz.func14 (by kernel_rfl) fun fr hG => ?_;refine zC hG [(1,1,.callG (.c (cB false)) [0,1] [(0,y15 a n),(1,mBQ es)])] [1,0,1] false (⟨[zX 0 0 0,zS 2 (S [])],e4z a n es⟩) (cS1 g (fG a n es)) (fun hc1 => absurd hc1 (by decide)) (fun _ => ?_);refine g8 hG aY [(4,1,.callG (.c (.fn 58 [] [(100,0)])) [0,1] [(0,y15 a n),(1,mBQ es),(100,.box 35 [.bx 0 0])])] [0,1,0,1,1,1] (⟨[zS 2 (S []),zX 3 400 0,(9,[],.c (.fn 58 [] [(501,0)]))],e4z a n es ++ [(400,y3),(501,.box 35 [.bx 0 0])]⟩) _ (by kernel_rfl) (cS1 g (gT a n es)) ?_;refine aL7 hG [] [(400,1,9003,5,1)] (⟨[zS 2 (S []),zX 3 400 0,(9,[],.c (.fn 58 [] [(501,0)]))],e4z a n es ++ [(400,.box 89 [.d (.v (.pointer none)),.ar 9003 0]),(501,.box 35 [.bx 0 0]),(9003,y5 ([] : LD))]⟩) (by kernel_rfl) ?_;refine sR (g := 9) (ps := rgP (aV Tryz.f14) [0,1,0,1,1,1]) (assign := rgA (aV Tryz.f14) [0,1,0,1,1,1]) (body := rgB (aV Tryz.f14) [0,1,0,1,1,1]) hG (by kernel_rfl) 9900 9901 9910 (by kernel_rfl) rfl (by kernel_rfl) fun b D l fn tm hT hn => ?_;rcases Classical.em (es = []) with hz | hz;skip;refine ⟨.tup [],[501,9901,400,9003,0,1],[(0,.box ⟨.c 35,some (b 501)⟩ [.bx 4 0]),(1,zK Tryz.f14 [0,1,0,1,1,1] fn tm D l),(2,.box ⟨.c 89,some (b 400)⟩ [.d (.v (.pointer none)),.ar 3 0]),(3,y5 ([] : LD)),(4,y16 a n),(5,mBQ es)],none,⟨[zS 2 (S []),zX 3 400 0],e4z a n es ++ [(400,.box ⟨.c 89,some (b 400)⟩ [.d (.v (.pointer none)),.ar 9003 0]),(9003,y5 ([] : LD)),(9900,.box ⟨.raw (.deferred (some [])),some D⟩ [])]⟩,_,.normal,by kernel_rfl,cS1 g (encIt0 (b 501) (b 0) (b 1) (b 400) D l fn tm (hT.bx 3 400 0 rfl) hn a n es hes hz),rfl,?_⟩;have hG0 := hG
 replace hG := gH (D := D) hG
 refine jJ [0,1,400] (⟨[zS 2 (S []),zX 3 400 0],e4z a n es ++ [(400,.box 89 [.d (.v (.pointer none)),.ar 9003 0]),(9003,y5 ([] : LD)),(9900,.box ⟨.raw (.deferred (some [])),some D⟩ [])]⟩) (by kernel_rfl) ?_;refine oV hG0 aY [(8,0,.callG (.c (cS (S (aE es)))) [400,9003] [(0,.box 89 [.d (.v (.pointer none)),.any]),(1,y5 ([] : LD))])] [] 9900 (.c (cS (S (aE es)))) [(0,y15 a n),(1,mBQ es)] (by kernel_rfl) (cS1 g (t6 ([] : LD) (S (aE es)) (by first | (rw [cP]; done) | (rw [hz]; rfl)))) ?_ ?_;rfl;rfl;skip;refine ⟨.tup [],[501,9901,400,9003,0,1],[(0,.box ⟨.c 35,some (b 501)⟩ [.bx 4 0]),(1,zK Tryz.f14 [0,1,0,1,1,1] fn tm D l),(2,.box ⟨.c 89,some (b 400)⟩ [.bx 2 0,.ar 3 0]),(3,y5 (bytesD (aE es))),(4,y16 a n),(5,mBQ es)],none,⟨[zS 2 (S []),zX 3 400 0],e4z a n es ++ [(400,.box ⟨.c 89,some (b 400)⟩ [.bx 400 0,.ar 9003 0]),(9003,y5 (bytesD (aE es))),(9900,.box ⟨.raw (.deferred (some [])),some D⟩ [])]⟩,_,.normal,by kernel_rfl,cS1 g (encIt (b 501) (b 0) (b 1) (b 400) D l fn tm (hT.bx 3 400 0 rfl) hn a n es hes hz),rfl,?_⟩;have hG0 := hG
 replace hG := gH (D := D) hG
 refine jJ [0,1,400] (⟨[zS 2 (S []),zX 3 400 0],e4z a n es ++ [(400,.box 89 [.bx 400 0,.ar 9003 0]),(9003,y5 (bytesD (aE es))),(9900,.box ⟨.raw (.deferred (some [])),some D⟩ [])]⟩) (by kernel_rfl) ?_;refine oV hG0 aY [(8,0,.callG (.c (cS (S (aE es)))) [400,9003] [(0,.box 89 [.bx 0 0,.any]),(1,y5 ([] : LD))])] [] 9900 (.c (cS (S (aE es)))) [(0,y15 a n),(1,mBQ es)] (by kernel_rfl) (cS1 g (iC (bytesD (aE es)) (S (aE es)) (by first | (rw [cP]; done) | (rw [hz]; rfl)))) ?_ ?_;rfl;rfl
theorem cK (a n : Int) (es : RS) (hes : RsOk n es) :
  SpG g 14 [.c (.bx 0 0)] [(0,y15 a n),(1,mBQ es)] (.c (cS (S (aE es)))) [(0,y15 a n),(1,mBQ es)] := by
 refine bX (aF8 a n es hes) ?_
 first | rfl | (funext i; simp only [aF,upd]; ((repeat' split) <;> first | rfl | (exfalso; omega)))
end Go.Proofs.YtclaplngjmgnoaaGreatDoor
namespace Go.Proofs.YtclaplngjmgnoaaGreatDoor
open Go.RowKit Go.V
open Go.Eng (inR byteAt u8 dN)
variable {g : Gv}
theorem kSort.nodup {es : RS} (h : kSort es) : (es.map (·.1)).Nodup := by
 have h2 : (es.map (·.1)).Pairwise (· < ·) := h
 exact h2.imp fun {a b} h e => by rw [e] at h; exact List.lt_irrefl _ h
theorem aCO {k : List UInt8} {v : Bool} : ∀ {es : RS},kSort es -> lkM k es = none -> kSort (mA ltS k v es) /\ (∀ x,x ∈ (mA ltS k v es).map (·.1) ↔ x = k \/ x ∈ es.map (·.1)) /\ (mA ltS k v es).length = es.length + 1
 | [],_,_ => ⟨List.pairwise_singleton _ _,fun x => by simp [mA],rfl⟩
 | y :: r,h,hn => by
  have h' : ((y :: r).map (·.1)).Pairwise (· < ·) := h
  rw [mp1,List.pairwise_cons] at h';simp only [lkM] at hn;split at hn
  ·cases hn
  ·rename_i hy
   obtain ⟨h1,h2,h3⟩ := aCO (k := k) (v := v) (es := r) h'.2 hn;simp only [mA];by_cases hlt : ltS k y.1 = true
   ·rw [if_pos hlt]
    have hlt2 : k < y.1 := by simpa [ltS] using hlt
    refine ⟨?_,fun x => by simp,by simp⟩;show (((k,v) :: y :: r).map (·.1)).Pairwise (· < ·)
    rw [mp1,List.pairwise_cons];refine ⟨fun z hz => ?_,by rw [mp1,List.pairwise_cons]; exact h'⟩;rw [mp1] at hz;rcases mc.1 hz with rfl | hz
    ·exact hlt2
    ·exact List.lt_trans hlt2 (h'.1 z hz)
   ·rw [if_neg hlt]
    have hle : y.1 < k := by
     have h5 : ¬ k < y.1 := by simpa [ltS] using hlt
     rcases List.le_iff_lt_or_eq.1 (show y.1 <= k from h5) with h6 | h6
     ·exact h6
     ·exact absurd h6 hy
    refine ⟨?_,fun x => ?_,by simp only [lc,h3]⟩
    ·show ((y :: mA ltS k v r).map (·.1)).Pairwise (· < ·)
     rw [mp1,List.pairwise_cons];refine ⟨fun z hz => ?_,h1⟩;rcases (h2 z).1 hz with rfl | hz
     ·exact hle
     ·exact h'.1 z hz
    ·simp only [mp1,mc,h2 x]
     constructor
     ·rintro (h | h | h)
      ·exact .inr (.inl h)
      ·exact .inl h
      ·exact .inr (.inr h)
     ·rintro (h | h | h)
      ·exact .inr (.inl h)
      ·exact .inl h
      ·exact .inr (.inr h)
theorem lk_some_mem {k : List UInt8} {es : RS} : (lkM k es).isSome = true ↔ k ∈ es.map (·.1) := by
 induction es with
 | nil => simp [lkM]
 | cons y r ih =>
  simp only [lkM,mp1,mc];by_cases h : y.1 = k
  ·simp [h]
  ·have h2 : ¬ k = y.1 := fun e => h e.symm
   simp only [if_neg h,ih,h2,false_or]
theorem rP {k : List UInt8} {v : Bool} {es : RS} (h : kSort es) : kSort (cG ltS k v es) /\ (∀ x,x ∈ (cG ltS k v es).map (·.1) ↔ x = k \/ x ∈ es.map (·.1)) /\ (cG ltS k v es).length <= es.length + 1 /\ es.length <= (cG ltS k v es).length := by
 unfold cG;split
 ·rename_i hs
  have e : (es.map fun x => if x.1 = k then (k,v) else x).map (·.1) = es.map (·.1) := by
   rw [List.map_map];refine List.map_congr_left fun x _ => ?_;simp only [Function.comp];split
   ·rename_i hx; exact hx.symm
   ·rfl
  refine ⟨by unfold kSort; rw [e]; exact h,fun x => ?_,by simp,by simp⟩;rw [e];have := lk_some_mem.1 hs;constructor
  ·exact .inr
  ·rintro (rfl | h)
   ·exact this
   ·exact h
 ·rename_i hs
  have hn : lkM k es = none := by
   cases hh : lkM k es with
   | none => rfl
   | some y => rw [hh] at hs; exact absurd rfl hs
  obtain ⟨h1,h2,h3⟩ := aCO (v := v) h hn;exact ⟨h1,h2,by omega,by omega⟩
theorem aHI {a b : RS} (ha : kSort a) (hb : kSort b) (h : ∀ n,lkM n a = lkM n b) : a = b := by
 have hk : a.map (·.1) = b.map (·.1) := by
  have hp : (a.map (·.1)).Perm (b.map (·.1)) := l6 ha.nodup hb.nodup fun x => by rw [<- lk_some_mem,<- lk_some_mem,h x]
  have h1 : (a.map (·.1)).Pairwise (· < ·) := ha
  have h2 : (b.map (·.1)).Pairwise (· < ·) := hb
  exact List.Perm.eq_of_pairwise (fun x y _ _ h3 h4 => absurd (List.lt_trans h3 h4) (List.lt_irrefl _)) h1 h2 hp
 have hl : a.length = b.length := by have := congrArg List.length hk; simpa using this
 refine List.ext_getElem hl fun i h1 h2 => ?_;have e1 : a[i].1 = b[i].1 := by
  have := congrArg (fun l => l[i]?) hk;simpa [h1,h2] using this
 have e2 : lkM (a[i]).1 a = some (a[i]).2 := eH ha.nodup (List.getElem_mem h1);have e3 : lkM (b[i]).1 b = some (b[i]).2 := eH hb.nodup (List.getElem_mem h2);rw [h,e1,e3] at e2;simp only [oIQ] at e2;exact Prod.ext e1 e2.symm
noncomputable def cY (es : RS) : List It := (es.filter fun x => !x.2).map fun x => aJ x.1
theorem aKI {es : RS} {k : Nat} (h : k < es.length) : cY (es.take (k + 1)) = cY (es.take k) ++ (bif (es.getD k ([],false)).2 then [] else [aJ (es.getD k ([],false)).1]) := by
 rw [dG ([],false) h];simp only [cY,List.filter_append,List.map_append];cases hw : (es.getD k ([],false)).2 <;> simp [List.filter,hw,-List.getD_eq_getElem?_getD]
theorem aCJ (es : RS) : (cY es).length <= es.length := by
 rw [cY,lm]; exact List.length_filter_le _ _
theorem live_ok {n : Int} {es : RS} (h : RsOk n es) : ∀ i,i ∈ cY es -> ItOk i := by
 intro i hi;obtain ⟨x,hx,rfl⟩ := mm.1 hi;exact (rC (h.it x (List.mem_filter.1 hx).1)).1
theorem aKH {n : Int} {es : RS} (hes : RsOk n es) {k : Nat} (h : k < es.length) : (bif (lkM ((es.map (·.1)).getD k []) es).getD false then bI (cY (es.take k)) else bI (cY (es.take k)) ++ [ItD (aJ ((es.map (·.1)).getD k []))]) = bI (cY (es.take (k + 1))) := by
 rw [pG h,aHE hes.sort h,aKI h];cases hw : (es.getD k ([],false)).2 <;> simp [bI,hw,-List.getD_eq_getElem?_getD]
theorem aFQ {l : List It} (hl : l.length <= 100000) (hI : ∀ i,i ∈ l -> ItOk i) {es : LD} (h : es = bI l) : SpG g 24 [.c (cM 16 es)] [] (.c (cM 16 (bI (inF l)))) [] := by subst h; exact aFP l hl hI
noncomputable def wdS (id : Int) (es : RS) : Nat -> RS × Bool
 | 0 => (es,false)
 | k + 1 =>
  let r := wdS id es k
  let t := (es.map (·.1)).getD k []
  bif decide ((aJ t).id = id) && !((lkM t r.1).getD false) then (cG ltS t true r.1,true) else r
noncomputable def wdR (id : Int) (es : RS) : RS := (wdS id es es.length).1
noncomputable def wdE (id : Int) (es : RS) : Int := bif (wdS id es es.length).2 then 0 else 34
theorem aLH {n : Int} {es : RS} (hes : RsOk n es) (id : Int) : ∀ k,k <= es.length -> kSort (wdS id es k).1 /\ (∀ x,x ∈ (wdS id es k).1.map (·.1) ↔ x ∈ es.map (·.1)) /\ (wdS id es k).1.length <= es.length
 | 0,_ => ⟨hes.sort,fun x => Iff.rfl,lr _⟩
 | k + 1,h => by
  obtain ⟨h1,h2,h3⟩ := aLH hes id k (by omega);simp only [wdS];cases hc : (decide ((aJ ((es.map (·.1)).getD k [])).id = id) && !((lkM ((es.map (·.1)).getD k []) (wdS id es k).1).getD false)) with
  | false => exact ⟨h1,h2,h3⟩
  | true =>
   have hm : (es.map (·.1)).getD k [] ∈ es.map (·.1) := bF (by rw [lm]; omega)
   obtain ⟨g1,g2,g3⟩ := rP (k := (es.map (·.1)).getD k []) (v := true) h1
   have g4 : ∀ x,x ∈ (cG ltS ((es.map (·.1)).getD k []) true (wdS id es k).1).map (·.1) ↔ x ∈ es.map (·.1) := fun x => by
    rw [g2 x,h2 x];constructor
    ·rintro (rfl | h)
     ·exact hm
     ·exact h
    ·exact .inr
   refine ⟨g1,g4,?_⟩;have := pC g1.nodup fun x hx => (g4 x).1 hx;simpa using this
theorem rs_keys {n : Int} {es fs : RS} (hes : RsOk n es) (hs : kSort fs) (hk : ∀ x,x ∈ fs.map (·.1) -> x ∈ es.map (·.1)) (hl : fs.length <= 4000) : RsOk n fs := by
 have go : ∀ x,x ∈ fs -> ∃ y,y ∈ es /\ y.1 = x.1 := by
  intro x hx;obtain ⟨y,hy,hxy⟩ := mm.1 (hk x.1 (List.mem_map_of_mem hx));exact ⟨y,hy,hxy⟩
 refine ⟨hs,hl,fun x hx => ?_,fun x hx => ?_⟩
 ·obtain ⟨y,hy,hxy⟩ := go x hx
  rw [<- hxy]; exact hes.it y hy
 ·obtain ⟨y,hy,hxy⟩ := go x hx
  rw [<- hxy]; exact hes.au y hy
theorem wdR_ok {n : Int} {es : RS} (hes : RsOk n es) (id : Int) : RsOk n (wdR id es) := by
 obtain ⟨h1,h2,h3⟩ := aLH hes id es.length (lr _);exact rs_keys hes h1 (fun x hx => (h2 x).1 hx) (by have := hes.len; unfold wdR; omega)
noncomputable def pA (a : Int) (es : RS) : Nat := (es.filter fun x => decide ((aJ x.1).author = a)).length
noncomputable def fC (a : Int) (es : RS) (i : It) : Int := if i.author = a then (if (lkM (itT i) es).isSome = true then 33 else if pA a es >= 30 then 2 else 0) else 35
noncomputable def fB (a : Int) (es : RS) (i : It) : RS := if fC a es i = 0 then cG ltS (itT i) false es else es
theorem nB {a : Int} {es fs : RS} (h : es.Perm fs) : pA a es = pA a fs := (h.filter _).length_eq
theorem aB3 {a : Int} {es : RS} {x : List UInt8 × Bool} : (pA a (es ++ [x]) : Int) = if (aJ x.1).author = a then (pA a es : Int) + 1 else (pA a es : Int) := by
 unfold pA;rw [List.filter_append,la];by_cases h : (aJ x.1).author = a <;> simp [List.filter,h]
theorem own_le (a : Int) (es : RS) : pA a es <= es.length := List.length_filter_le _ _
theorem infYf (b3 D l : Nat) (fn : FuncId) (tm : Array Value) (h3 : tm.getD 3 undef = .pointer (some ⟨b3,0,none⟩)) (hn : tm.size = 30) (es : LD) (t : List UInt8) (ht : lL t) (he : es.length <= 1000000) :
  eS Tryz.prog (Gl g) l [.c (cS (S t)),.c (cB false)] [(0,zK Tryz.f16 [0,1,0,1,1,1] fn tm D l),(1,.box ⟨.c 38,some b3⟩ [.ar 2 0]),(2,.arr 0 63 16 es)] (.c (cB true)) [(0,zK Tryz.f16 [0,1,0,1,1,1] fn tm D l),(1,.box ⟨.c 38,some b3⟩ [.ar 2 0]),(2,.arr 0 63 16 (es ++ [[.i ((aJ t).id),.i ((aJ t).author),.i ((aJ t).rank),.i ((aJ t).time),.i ((aJ t).kind),.sl 7 (aS ((aJ t).input)),.i (tvK ((aJ t).output)),.s (S (tvS ((aJ t).output))),.i 0,.i 0,.i 0,.sl 1 ([] : LD),.sl 1 ([] : LD),.s (S (aJ t).prop),.s (S (aJ t).param),.sl 1 (intsD ((aJ t).program))]]))] := by
 refine hO (iL := 0) (p := 12) (p2 := 13) (env0 := [zX 3 1 0]) (n := 30) (r := (bM (aV Tryz.f16) [0,1,0,1,1,1] fn tm D)) rfl (by kernel_rfl) hn (by decide) (by decide) (by decide) ⟨rfl,⟨_,_,_,rfl,rfl,h3⟩,trivial⟩ fun fr hG => ?_;refine pZ hG aY [] (⟨[zX 3 1 0,zS 4 (S t),zB 5 false],[(0,zK Tryz.f16 [0,1,0,1,1,1] fn tm D l),(1,.box ⟨.c 38,some b3⟩ [.ar 2 0]),(2,.arr 0 63 16 es)]⟩) 0 (r := (bM (aV Tryz.f16) [0,1,0,1,1,1] fn tm D)) (by kernel_rfl) aB rfl rfl ?_;refine jT hG (⟨[zX 3 1 0,zS 4 (S t),zB 5 false],[(0,.box ⟨.raw (.loop { (bM (aV Tryz.f16) [0,1,0,1,1,1] fn tm D) with state := .busy }),some l⟩ []),(1,.box ⟨.c 38,some b3⟩ [.ar 2 0]),(2,.arr 0 63 16 es)]⟩) (by kernel_rfl) ?_;refine zC hG [(7,1,kC (.tup [(true,(zTQ (aJ t))),(false,[cB true])]))] [1,1,0] true (⟨[zX 3 1 0,zX 6 805 0],[(0,.box ⟨.raw (.loop { (bM (aV Tryz.f16) [0,1,0,1,1,1] fn tm D) with state := .busy }),some l⟩ []),(1,.box ⟨.c 38,some b3⟩ [.ar 2 0]),(2,.arr 0 63 16 es),(805,.box 63 (zTQ (aJ t)))]⟩) (cS1 g (o7 (t := t) (by exact ht))) (fun _ => ?_) (fun hc1 => absurd hc1 (by decide));refine pY hG aY [] [] 0 .normal [(0,.box ⟨.raw (oB { (bM (aV Tryz.f16) [0,1,0,1,1,1] fn tm D) with state := .busy } .normal),some l⟩ []),(1,.box ⟨.c 38,some b3⟩ [.ar 2 0]),(2,.arr 0 63 16 (es ++ ([[.i ((aJ t).id),.i ((aJ t).author),.i ((aJ t).rank),.i ((aJ t).time),.i ((aJ t).kind),.sl 7 (aS ((aJ t).input)),.i (tvK ((aJ t).output)),.s (S (tvS ((aJ t).output))),.i 0,.i 0,.i 0,.sl 1 ([] : LD),.sl 1 ([] : LD),.s (S (aJ t).prop),.s (S (aJ t).param),.sl 1 (intsD ((aJ t).program))]] : LD)))] (by kernel_rfl) (aC (by intros; (try simp only [zq5]); omega : (es.length + ([[.i ((aJ t).id),.i ((aJ t).author),.i ((aJ t).rank),.i ((aJ t).time),.i ((aJ t).kind),.sl 7 (aS ((aJ t).input)),.i (tvK ((aJ t).output)),.s (S (tvS ((aJ t).output))),.i 0,.i 0,.i 0,.sl 1 ([] : LD),.sl 1 ([] : LD),.s (S (aJ t).prop),.s (S (aJ t).param),.sl 1 (intsD ((aJ t).program))]] : LD).length) * (216 + 1) <= 140737488355328)) ?_ ?_;rfl;rfl
theorem infYt (b3 D l : Nat) (fn : FuncId) (tm : Array Value) (h3 : tm.getD 3 undef = .pointer (some ⟨b3,0,none⟩)) (hn : tm.size = 30) (es : LD) (t : List UInt8) (ht : lL t) (he : es.length <= 1000000) :
  eS Tryz.prog (Gl g) l [.c (cS (S t)),.c (cB true)] [(0,zK Tryz.f16 [0,1,0,1,1,1] fn tm D l),(1,.box ⟨.c 38,some b3⟩ [.ar 2 0]),(2,.arr 0 63 16 es)] (.c (cB true)) [(0,zK Tryz.f16 [0,1,0,1,1,1] fn tm D l),(1,.box ⟨.c 38,some b3⟩ [.ar 2 0]),(2,.arr 0 63 16 es)] := by
 refine hO (iL := 0) (p := 12) (p2 := 13) (env0 := [zX 3 1 0]) (n := 30) (r := (bM (aV Tryz.f16) [0,1,0,1,1,1] fn tm D)) rfl (by kernel_rfl) hn (by decide) (by decide) (by decide) ⟨rfl,⟨_,_,_,rfl,rfl,h3⟩,trivial⟩ fun fr hG => ?_;refine pZ hG aY [] (⟨[zX 3 1 0,zS 4 (S t),zB 5 true],[(0,zK Tryz.f16 [0,1,0,1,1,1] fn tm D l),(1,.box ⟨.c 38,some b3⟩ [.ar 2 0]),(2,.arr 0 63 16 es)]⟩) 0 (r := (bM (aV Tryz.f16) [0,1,0,1,1,1] fn tm D)) (by kernel_rfl) aB rfl rfl ?_;refine jT hG (⟨[zX 3 1 0,zS 4 (S t),zB 5 true],[(0,.box ⟨.raw (.loop { (bM (aV Tryz.f16) [0,1,0,1,1,1] fn tm D) with state := .busy }),some l⟩ []),(1,.box ⟨.c 38,some b3⟩ [.ar 2 0]),(2,.arr 0 63 16 es)]⟩) (by kernel_rfl) ?_;refine zC hG [(7,1,kC (.tup [(true,(zTQ (aJ t))),(false,[cB true])]))] [1,1,0] false (⟨[zX 3 1 0,zX 6 805 0],[(0,.box ⟨.raw (.loop { (bM (aV Tryz.f16) [0,1,0,1,1,1] fn tm D) with state := .busy }),some l⟩ []),(1,.box ⟨.c 38,some b3⟩ [.ar 2 0]),(2,.arr 0 63 16 es),(805,.box 63 (zTQ (aJ t)))]⟩) (cS1 g (o7 (t := t) (by exact ht))) (fun hc1 => absurd hc1 (by decide)) (fun _ => ?_);refine pY hG aY [] [] 0 .normal [(0,.box ⟨.raw (oB { (bM (aV Tryz.f16) [0,1,0,1,1,1] fn tm D) with state := .busy } .normal),some l⟩ []),(1,.box ⟨.c 38,some b3⟩ [.ar 2 0]),(2,.arr 0 63 16 es)] (by kernel_rfl) aB ?_ ?_;rfl;rfl
theorem infY (b3 D l : Nat) (fn : FuncId) (tm : Array Value) (h3 : tm.getD 3 undef = .pointer (some ⟨b3,0,none⟩)) (hn : tm.size = 30) (es : LD) (t : List UInt8) (ht : lL t) (he : es.length <= 1000000) (w : Bool) :
  eS Tryz.prog (Gl g) l [.c (cS (S t)),.c (cB w)] [(0,zK Tryz.f16 [0,1,0,1,1,1] fn tm D l),(1,.box ⟨.c 38,some b3⟩ [.ar 2 0]),(2,.arr 0 63 16 es)] (.c (cB true)) [(0,zK Tryz.f16 [0,1,0,1,1,1] fn tm D l),(1,.box ⟨.c 38,some b3⟩ [.ar 2 0]),(2,.arr 0 63 16 (bif w then es else es ++ [ItD (aJ t)]))] := by
 cases w with
 | false => exact infYf b3 D l fn tm h3 hn es t ht he
 | true => exact infYt b3 D l fn tm h3 hn es t ht he
theorem infIt_ (b0 b4 b5 : Nat) (b3 D l : Nat) (fn : FuncId) (tm : Array Value) (h3 : tm.getD 3 undef = .pointer (some ⟨b3,0,none⟩)) (hn : tm.size = 30) (a n : Int) (es : RS) (hes : RsOk n es) :
  SpG g 58 [.c (.d (.v (.func (.yield l) #[] #[]))),.c (.bx 0 0)] [(0,.box ⟨.c 35,some b0⟩ [.bx 4 0]),(1,zK Tryz.f16 [0,1,0,1,1,1] fn tm D l),(2,.box ⟨.c 38,some b3⟩ [.ar 3 0]),(3,.arr 0 63 16 ([] : LD)),(4,.box ⟨.c 73,some b4⟩ [cI a,cI n,.mp 5]),(5,.box ⟨.mpb es,some b5⟩ [])] (.tup []) [(0,.box ⟨.c 35,some b0⟩ [.bx 4 0]),(1,zK Tryz.f16 [0,1,0,1,1,1] fn tm D l),(2,.box ⟨.c 38,some b3⟩ [.ar 3 0]),(3,.arr 0 63 16 (bI (cY es))),(4,y16 a n),(5,mBQ es)] := by
 have hle := hes.len;have hsl : (strs (es.map (·.1))).length = es.length := by rw [strs,lm,lm]
 refine aP 27 Tryz.func58 fun fr hG => ?_;refine jJ [4,5] (⟨[(0,[],.c (.d (.v (.func (.yield l) #[] #[])))),zX 1 0 0],[(0,.box ⟨.c 35,some b0⟩ [.bx 4 0]),(1,zK Tryz.f16 [0,1,0,1,1,1] fn tm D l),(2,.box ⟨.c 38,some b3⟩ [.ar 3 0]),(3,.arr 0 63 16 ([] : LD)),(4,y16 a n),(5,mBQ es)]⟩) (by kernel_rfl) ?_;refine zL hG [(0,4,.callG (.c (.fn 113 [] [(100,0)])) [5] [(0,mBQ es),(100,.box 47 [.mp 0])]),(0,5,.callG (.c (cM 1 (strs (es.map (·.1))))) [104,5] [(0,.box 47 [.mp 1]),(1,mBQ es)])] [0,1] (fun (zz : Nat × LD) => match zz with | (k,eb) => (es.length - k,⟨[(0,[],.c (.d (.v (.func (.yield l) #[] #[])))),zX 1 0 0,zM 10 1 (strs (es.map (·.1))),zI 11 ((strs (es.map (·.1))).length : Int),zI 12 (k : Int)],[(0,.box ⟨.c 35,some b0⟩ [.bx 4 0]),(1,zK Tryz.f16 [0,1,0,1,1,1] fn tm D l),(2,.box ⟨.c 38,some b3⟩ [.ar 3 0]),(3,.arr 0 63 16 eb),(4,y16 a n),(5,mBQ es)]⟩,k <= es.length /\ eb = bI (cY (es.take k)))) (0,[]) (cS2 g (lA es) (cS1 g (dS es (by exact hes.sort) (by have := hes.len; omega) (by intro x hx; have := hes.tlen hx; omega)))) ?_ ?_
 ·exact ⟨zl _,rfl⟩
 rintro ⟨k,eb⟩ ⟨hk,heb⟩;have hel : eb.length <= es.length := by rw [heb,bI,lm]; have := aCJ (es.take k); rw [lt1] at this; omega
 refine zc hG [] [0,1] (decide ((k : Int) < ((strs (es.map (·.1))).length : Int))) aB (fun hc2 => ?_) (fun hc2 => ?_)
 ·(try simp only [qM] at hc2)
  refine zC hG [(2,0,.elem (d9 ((es.map (·.1)).getD k []))),(3,8,.callG (.c (cB true)) [1,2,3] [(0,zK Tryz.f16 [0,1,0,1,1,1] fn tm D l),(1,.box ⟨.c 38,some b3⟩ [.ar 2 0]),(2,.arr 0 63 16 (bif (lkM ((es.map (·.1)).getD k []) es).getD false then eb else eb ++ [ItD (aJ ((es.map (·.1)).getD k []))]))])] [1,1,0,0,1,1] false (⟨[(0,[],.c (.d (.v (.func (.yield l) #[] #[])))),zX 1 0 0,zM 10 1 (strs (es.map (·.1))),zI 11 ((strs (es.map (·.1))).length : Int),zI 12 (k : Int)],[(0,.box ⟨.c 35,some b0⟩ [.bx 4 0]),(1,zK Tryz.f16 [0,1,0,1,1,1] fn tm D l),(2,.box ⟨.c 38,some b3⟩ [.ar 3 0]),(3,.arr 0 63 16 (bif (lkM ((es.map (·.1)).getD k []) es).getD false then eb else eb ++ [ItD (aJ ((es.map (·.1)).getD k []))])),(4,y16 a n),(5,mBQ es)]⟩) (aA (by intros; exact cE (f := d9) [] (by omega) (by (try simp only [zq4] at *); omega) : (0 : Int) <= (k : Int) /\ (strs (es.map (·.1)))[k]? = some (d9 ((es.map (·.1)).getD k []))) (aC (infY b3 D l fn tm h3 hn eb ((es.map (·.1)).getD k []) (by exact aOC hes (by omega)) (by omega) ((lkM ((es.map (·.1)).getD k []) es).getD false) : eS Tryz.prog (Gl g) _ _ _ _ _))) (fun hc3 => absurd hc3 (by decide)) (fun _ => ?_)
  refine zD hG [] (k + 1,bif (lkM (((es.map (·.1))).getD k []) es).getD false then eb else eb ++ [ItD (aJ (((es.map (·.1))).getD k []))]) (aC (by intros; (try simp only [aLB] at *); omega : inR ((k : Int) + 1))) ?_ ?_
  ·(try dsimp only); omega
  ·exact ⟨by omega,by rw [heb]; exact aKH hes (by omega)⟩
 ·(try simp only [qM] at hc2)
  refine zE hG [] (.exit 0) (⟨[],[(0,.box ⟨.c 35,some b0⟩ [.bx 4 0]),(1,zK Tryz.f16 [0,1,0,1,1,1] fn tm D l),(2,.box ⟨.c 38,some b3⟩ [.ar 3 0]),(3,.arr 0 63 16 eb),(4,y16 a n),(5,mBQ es)]⟩) aB rfl ?_;refine zR hG [] [] (.tup []) [(0,.box ⟨.c 35,some b0⟩ [.bx 4 0]),(1,zK Tryz.f16 [0,1,0,1,1,1] fn tm D l),(2,.box ⟨.c 38,some b3⟩ [.ar 3 0]),(3,.arr 0 63 16 eb),(4,y16 a n),(5,mBQ es)] aB ?_ ?_
  ·rfl
  ·have hk2 : k = es.length := by omega
   rw [hk2,List.take_length] at heb;rw [heb]
theorem infIt (b0 b4 b5 : Nat) (b3 D l : Nat) (fn : FuncId) (tm : Array Value) (h3 : tm.getD 3 undef = .pointer (some ⟨b3,0,none⟩)) (hn : tm.size = 30) (a n : Int) (es : RS) (hes : RsOk n es) :
  SpG g 58 [.c (.d (.v (.func (.yield l) #[] #[]))),.c (.bx 0 0)] [(0,.box ⟨.c 35,some b0⟩ [.bx 4 0]),(1,zK Tryz.f16 [0,1,0,1,1,1] fn tm D l),(2,.box ⟨.c 38,some b3⟩ [.ar 3 0]),(3,.arr 0 63 16 ([] : LD)),(4,.box ⟨.c 73,some b4⟩ [cI a,cI n,.mp 5]),(5,.box ⟨.mpb es,some b5⟩ [])] (.tup []) [(0,.box ⟨.c 35,some b0⟩ [.bx 4 0]),(1,zK Tryz.f16 [0,1,0,1,1,1] fn tm D l),(2,.box ⟨.c 38,some b3⟩ [.ar 3 0]),(3,.arr 0 63 16 (bI (cY es))),(4,y16 a n),(5,mBQ es)] := by
 refine bX (infIt_ b0 b4 b5 b3 D l fn tm h3 hn a n es hes) ?_
 first | rfl | (funext i; simp only [aF,upd]; ((repeat' split) <;> first | rfl | (exfalso; omega)))
theorem aCP (a n : Int) (es : RS) (hes : RsOk n es) :
  SpG g 16 [.c (.bx 0 0)] [(0,y15 a n),(1,mBQ es)] (.c (cM 16 (bI (inF (cY es))))) [(0,y15 a n),(1,mBQ es)] := by
 refine tS 30 Tryz.func16 (by kernel_rfl) fun fr hG => ?_;refine zC hG [(1,1,.callG (.c (cB false)) [0,1] [(0,y15 a n),(1,mBQ es)])] [1,0,1] false (⟨[zX 0 0 0,zN 2],e4z a n es⟩) (cS1 g (fG a n es)) (fun hc1 => absurd hc1 (by decide)) (fun _ => ?_);refine g8 hG aY [(4,1,.callG (.c (.fn 58 [] [(100,0)])) [0,1] [(0,y15 a n),(1,mBQ es),(100,.box 35 [.bx 0 0])])] [0,1,0,1,1,1] (⟨[zN 2,zX 3 400 0,(11,[],.c (.fn 58 [] [(501,0)]))],e4z a n es ++ [(400,.box 38 [cN]),(501,.box 35 [.bx 0 0])]⟩) _ (by kernel_rfl) (cS1 g (gT a n es)) ?_;refine aL7 hG [] [(400,0,9003,63,16)] (⟨[zN 2,zX 3 400 0,(11,[],.c (.fn 58 [] [(501,0)]))],e4z a n es ++ [(400,.box 38 [.ar 9003 0]),(501,.box 35 [.bx 0 0]),(9003,.arr 0 63 16 ([] : LD))]⟩) (by kernel_rfl) ?_;refine sR (g := 11) (ps := rgP (aV Tryz.f16) [0,1,0,1,1,1]) (assign := rgA (aV Tryz.f16) [0,1,0,1,1,1]) (body := rgB (aV Tryz.f16) [0,1,0,1,1,1]) hG (by kernel_rfl) 9900 9901 9910 (by kernel_rfl) rfl (by kernel_rfl) fun b D l fn tm hT hn => ?_;refine ⟨.tup [],[501,9901,400,9003,0,1],[(0,.box ⟨.c 35,some (b 501)⟩ [.bx 4 0]),(1,zK Tryz.f16 [0,1,0,1,1,1] fn tm D l),(2,.box ⟨.c 38,some (b 400)⟩ [.ar 3 0]),(3,.arr 0 63 16 (bI (cY es))),(4,y16 a n),(5,mBQ es)],none,⟨[zN 2,zX 3 400 0],e4z a n es ++ [(400,.box ⟨.c 38,some (b 400)⟩ [.ar 9003 0]),(9003,.arr 0 63 16 (bI (cY es))),(9900,.box ⟨.raw (.deferred (some [])),some D⟩ [])]⟩,_,.normal,by kernel_rfl,cS1 g (infIt (b 501) (b 0) (b 1) (b 400) D l fn tm (hT.bx 3 400 0 rfl) hn a n es hes),rfl,?_⟩;have hG0 := hG
 replace hG := gH (D := D) hG
 refine jJ [0,1,400] (⟨[zN 2,zX 3 400 0],e4z a n es ++ [(400,.box 38 [.ar 9003 0]),(9003,.arr 0 63 16 (bI (cY es))),(9900,.box ⟨.raw (.deferred (some [])),some D⟩ [])]⟩) (by kernel_rfl) ?_;refine jT hG (⟨[zN 2,zX 3 400 0],e4z a n es ++ [(400,.box 38 [cM 16 (bI (cY es))]),(9900,.box ⟨.raw (.deferred (some [])),some D⟩ [])]⟩) (by kernel_rfl) ?_;refine oV hG0 aY [(10,1,kC (.c (cM 16 (bI (inF (cY es))))))] [] 9900 (.c (cM 16 (bI (inF (cY es))))) [(0,y15 a n),(1,mBQ es)] (by kernel_rfl) (cS1 g (aFQ (l := cY es) (by have := aCJ es; have := hes.len; omega) (live_ok hes) (es := bI (cY es)) rfl)) ?_ ?_;rfl;rfl
theorem aFN (a n : Int) (es : RS) (hes : RsOk n es) :
  SpG g 16 [.c (.bx 0 0)] [(0,y15 a n),(1,mBQ es)] (.c (cM 16 (bI (inF (cY es))))) [(0,y15 a n),(1,mBQ es)] := by
 refine bX (aCP a n es hes) ?_
 first | rfl | (funext i; simp only [aF,upd]; ((repeat' split) <;> first | rfl | (exfalso; omega)))
end Go.Proofs.YtclaplngjmgnoaaGreatDoor
namespace Go.Proofs.YtclaplngjmgnoaaGreatDoor
open Go.RowKit Go.V
open Go.Eng (inR byteAt u8 dN)
variable {g : Gv}
def tkL (a : Int) (k : Nat) : List Int := (((List.range k).map fun j : Nat => (j : Int) + 1)).filter fun x => !decide (x = a)
def msD (a : Int) (t : List UInt8) (x : Int) : List D := [.i a,.i x,.s (S t)]
def aFJ (a : Int) (t : List UInt8) (l : List Int) : LD := l.map (msD a t)
theorem aGJ (a : Int) (k : Nat) : tkL a (k + 1) = if ((k : Int) + 1) = a then tkL a k else tkL a k ++ [(k : Int) + 1] := by
 unfold tkL;rw [List.range_succ,List.map_append,List.filter_append];by_cases h : ((k : Int) + 1) = a <;> simp [List.filter,h]
theorem tk_len (a : Int) (k : Nat) : (tkL a k).length <= k := by
 unfold tkL;have := List.length_filter_le (fun x : Int => !decide (x = a)) ((List.range k).map fun j : Nat => (j : Int) + 1);rw [lm,List.length_range] at this;exact this
theorem wd_step {id : Int} {es em : RS} {e : Int} {k : Nat} (hk : k < es.length) (h1 : em = (wdS id es k).1) (h2 : e = (bif (wdS id es k).2 then 0 else 34)) :
  k + 1 <= es.length /\ (bif (decide ((aJ ((es.map (·.1)).getD k [])).id = id) && !((lkM ((es.map (·.1)).getD k []) em).getD false)) then cG ltS ((es.map (·.1)).getD k []) true em else em) = (wdS id es (k + 1)).1 /\
   (bif (decide ((aJ ((es.map (·.1)).getD k [])).id = id) && !((lkM ((es.map (·.1)).getD k []) em).getD false)) then 0 else e) = (bif (wdS id es (k + 1)).2 then 0 else 34) := by
 subst h1;refine ⟨by omega,?_,?_⟩
 ·simp only [wdS]
  cases (decide ((aJ ((es.map (·.1)).getD k [])).id = id) && !((lkM ((es.map (·.1)).getD k []) (wdS id es k).1).getD false)) <;> rfl
 ·simp only [wdS]
  cases (decide ((aJ ((es.map (·.1)).getD k [])).id = id) && !((lkM ((es.map (·.1)).getD k []) (wdS id es k).1).getD false))
  ·exact h2
  ·rfl
theorem aCS {a : Int} {es : RS} {i : It} (h : ¬ i.author = a) : fC a es i = 35 /\ fB a es i = es := by
 have e : fC a es i = 35 := by rw [fC,if_neg h]
 exact ⟨e,by rw [fB,e,if_neg (by decide)]⟩
theorem mC {a : Int} {es : RS} {i : It} (h : i.author = a) (h2 : (lkM (itT i) es).isSome = true) : fC a es i = 33 /\ fB a es i = es := by
 have e : fC a es i = 33 := by rw [fC,if_pos h,if_pos h2]
 exact ⟨e,by rw [fB,e,if_neg (by decide)]⟩
theorem wF {a : Int} {es : RS} {i : It} (h : i.author = a) (h2 : (lkM (itT i) es).isSome = false) (h3 : (pA a es : Int) >= 30) : fC a es i = 2 /\ fB a es i = es := by
 have e : fC a es i = 2 := by rw [fC,if_pos h,if_neg (by rw [h2]; decide),if_pos (by omega)]
 exact ⟨e,by rw [fB,e,if_neg (by decide)]⟩
theorem nX {a : Int} {es : RS} {i : It} (h : i.author = a) (h2 : (lkM (itT i) es).isSome = false) (h3 : ¬ (pA a es : Int) >= 30) : fC a es i = 0 /\ fB a es i = cG ltS (itT i) false es := by
 have e : fC a es i = 0 := by rw [fC,if_pos h,if_neg (by rw [h2]; decide),if_neg (by omega)]
 exact ⟨e,by rw [fB,e,if_pos rfl]⟩
theorem wdYt (b2 b3 b5 D l : Nat) (fn : FuncId) (tm : Array Value) (h2 : tm.getD 2 undef = .pointer (some ⟨b2,0,none⟩)) (h3 : tm.getD 3 undef = .pointer (some ⟨b3,0,none⟩)) (h5 : tm.getD 5 undef = .pointer (some ⟨b5,0,none⟩)) (hn : tm.size = 38) (a n id e : Int) (em : RS) (t : List UInt8) (w : Bool) (ht : lL t) (hc : (decide ((aJ t).id = id) && !w) = true) :
  eS Tryz.prog (Gl g) l [.c (cS (S t)),.c (cB w)] [(0,zK Tryz.f23 [0,1,0,1,1,1] fn tm D l),(1,.box ⟨.c 35,some b2⟩ [.bx 4 0]),(2,.box ⟨.c 3,some b3⟩ [cI id]),(3,.box ⟨.c 65,some b5⟩ [cI e]),(4,y16 a n),(5,mBQ em)] (.c (cB true)) [(0,zK Tryz.f23 [0,1,0,1,1,1] fn tm D l),(1,.box ⟨.c 35,some b2⟩ [.bx 4 0]),(2,.box ⟨.c 3,some b3⟩ [cI id]),(3,.box ⟨.c 65,some b5⟩ [cI 0]),(4,y16 a n),(5,mBQ (cG ltS t true em))] := by
 refine hO (iL := 0) (p := 14) (p2 := 15) (env0 := [zX 2 1 0,zX 3 2 0,zX 5 3 0]) (n := 38) (r := (bM (aV Tryz.f23) [0,1,0,1,1,1] fn tm D)) rfl (by kernel_rfl) hn (by decide) (by decide) (by decide) ⟨rfl,⟨_,_,_,rfl,rfl,h2⟩,⟨rfl,⟨_,_,_,rfl,rfl,h3⟩,⟨rfl,⟨_,_,_,rfl,rfl,h5⟩,trivial⟩⟩⟩ fun fr hG => ?_;refine pZ hG aY [] (⟨[zX 2 1 0,zX 3 2 0,zX 5 3 0,zS 6 (S t),zB 7 w],[(0,zK Tryz.f23 [0,1,0,1,1,1] fn tm D l),(1,.box ⟨.c 35,some b2⟩ [.bx 4 0]),(2,.box ⟨.c 3,some b3⟩ [cI id]),(3,.box ⟨.c 65,some b5⟩ [cI e]),(4,y16 a n),(5,mBQ em)]⟩) 0 (r := (bM (aV Tryz.f23) [0,1,0,1,1,1] fn tm D)) (by kernel_rfl) aB rfl rfl ?_;refine jT hG (⟨[zX 2 1 0,zX 3 2 0,zX 5 3 0,zS 6 (S t),zB 7 w],[(0,.box ⟨.raw (.loop { (bM (aV Tryz.f23) [0,1,0,1,1,1] fn tm D) with state := .busy }),some l⟩ []),(1,.box ⟨.c 35,some b2⟩ [.bx 4 0]),(2,.box ⟨.c 3,some b3⟩ [cI id]),(3,.box ⟨.c 65,some b5⟩ [cI e]),(4,y16 a n),(5,mBQ em)]⟩) (by kernel_rfl) ?_;refine zC hG [(7,1,kC (.tup [(true,(zTQ (aJ t))),(false,[cB true])]))] [1,1,0] ((decide (((aJ t).id : Int) = id)) && !w) (⟨[zX 2 1 0,zX 5 3 0,zS 6 (S t)],[(0,.box ⟨.raw (.loop { (bM (aV Tryz.f23) [0,1,0,1,1,1] fn tm D) with state := .busy }),some l⟩ []),(1,.box ⟨.c 35,some b2⟩ [.bx 4 0]),(2,.box ⟨.c 3,some b3⟩ [cI id]),(3,.box ⟨.c 65,some b5⟩ [cI e]),(4,y16 a n),(5,mBQ em)]⟩) (cS1 g (o7 (t := t) (by exact ht))) (fun hc1 => ?_) (fun hc1 => ?_)
 (try simp only [blS] at hc1)
 refine pY hG aY [] [] 0 .normal [(0,.box ⟨.raw (oB { (bM (aV Tryz.f23) [0,1,0,1,1,1] fn tm D) with state := .busy } .normal),some l⟩ []),(3,.box ⟨.c 65,some b5⟩ [cI 0]),(5,mBQ (cG ltS t true em)),(1,.box ⟨.c 35,some b2⟩ [.bx 4 0]),(2,.box ⟨.c 3,some b3⟩ [cI id]),(4,y16 a n)] (by kernel_rfl) aB ?_ ?_;rfl;funext i; simp only [aF,upd]; (repeat' split) <;> first | rfl | (exfalso; omega)
 (try simp only [blS] at hc1)
 simp_all
theorem wdYf (b2 b3 b5 D l : Nat) (fn : FuncId) (tm : Array Value) (h2 : tm.getD 2 undef = .pointer (some ⟨b2,0,none⟩)) (h3 : tm.getD 3 undef = .pointer (some ⟨b3,0,none⟩)) (h5 : tm.getD 5 undef = .pointer (some ⟨b5,0,none⟩)) (hn : tm.size = 38) (a n id e : Int) (em : RS) (t : List UInt8) (w : Bool) (ht : lL t) (hc : (decide ((aJ t).id = id) && !w) = false) :
  eS Tryz.prog (Gl g) l [.c (cS (S t)),.c (cB w)] [(0,zK Tryz.f23 [0,1,0,1,1,1] fn tm D l),(1,.box ⟨.c 35,some b2⟩ [.bx 4 0]),(2,.box ⟨.c 3,some b3⟩ [cI id]),(3,.box ⟨.c 65,some b5⟩ [cI e]),(4,y16 a n),(5,mBQ em)] (.c (cB true)) [(0,zK Tryz.f23 [0,1,0,1,1,1] fn tm D l),(1,.box ⟨.c 35,some b2⟩ [.bx 4 0]),(2,.box ⟨.c 3,some b3⟩ [cI id]),(3,.box ⟨.c 65,some b5⟩ [cI e]),(4,y16 a n),(5,mBQ em)] := by
 refine hO (iL := 0) (p := 14) (p2 := 15) (env0 := [zX 2 1 0,zX 3 2 0,zX 5 3 0]) (n := 38) (r := (bM (aV Tryz.f23) [0,1,0,1,1,1] fn tm D)) rfl (by kernel_rfl) hn (by decide) (by decide) (by decide) ⟨rfl,⟨_,_,_,rfl,rfl,h2⟩,⟨rfl,⟨_,_,_,rfl,rfl,h3⟩,⟨rfl,⟨_,_,_,rfl,rfl,h5⟩,trivial⟩⟩⟩ fun fr hG => ?_;refine pZ hG aY [] (⟨[zX 2 1 0,zX 3 2 0,zX 5 3 0,zS 6 (S t),zB 7 w],[(0,zK Tryz.f23 [0,1,0,1,1,1] fn tm D l),(1,.box ⟨.c 35,some b2⟩ [.bx 4 0]),(2,.box ⟨.c 3,some b3⟩ [cI id]),(3,.box ⟨.c 65,some b5⟩ [cI e]),(4,y16 a n),(5,mBQ em)]⟩) 0 (r := (bM (aV Tryz.f23) [0,1,0,1,1,1] fn tm D)) (by kernel_rfl) aB rfl rfl ?_;refine jT hG (⟨[zX 2 1 0,zX 3 2 0,zX 5 3 0,zS 6 (S t),zB 7 w],[(0,.box ⟨.raw (.loop { (bM (aV Tryz.f23) [0,1,0,1,1,1] fn tm D) with state := .busy }),some l⟩ []),(1,.box ⟨.c 35,some b2⟩ [.bx 4 0]),(2,.box ⟨.c 3,some b3⟩ [cI id]),(3,.box ⟨.c 65,some b5⟩ [cI e]),(4,y16 a n),(5,mBQ em)]⟩) (by kernel_rfl) ?_;refine zC hG [(7,1,kC (.tup [(true,(zTQ (aJ t))),(false,[cB true])]))] [1,1,0] ((decide (((aJ t).id : Int) = id)) && !w) (⟨[zX 2 1 0,zX 5 3 0,zS 6 (S t)],[(0,.box ⟨.raw (.loop { (bM (aV Tryz.f23) [0,1,0,1,1,1] fn tm D) with state := .busy }),some l⟩ []),(1,.box ⟨.c 35,some b2⟩ [.bx 4 0]),(2,.box ⟨.c 3,some b3⟩ [cI id]),(3,.box ⟨.c 65,some b5⟩ [cI e]),(4,y16 a n),(5,mBQ em)]⟩) (cS1 g (o7 (t := t) (by exact ht))) (fun hc1 => ?_) (fun hc1 => ?_)
 (try simp only [blS] at hc1)
 simp_all
 (try simp only [blS] at hc1)
 refine pY hG aY [] [] 0 .normal [(0,.box ⟨.raw (oB { (bM (aV Tryz.f23) [0,1,0,1,1,1] fn tm D) with state := .busy } .normal),some l⟩ []),(1,.box ⟨.c 35,some b2⟩ [.bx 4 0]),(2,.box ⟨.c 3,some b3⟩ [cI id]),(3,.box ⟨.c 65,some b5⟩ [cI e]),(4,y16 a n),(5,mBQ em)] (by kernel_rfl) aB ?_ ?_;rfl;rfl
theorem wdY (b2 b3 b5 D l : Nat) (fn : FuncId) (tm : Array Value) (h2 : tm.getD 2 undef = .pointer (some ⟨b2,0,none⟩)) (h3 : tm.getD 3 undef = .pointer (some ⟨b3,0,none⟩)) (h5 : tm.getD 5 undef = .pointer (some ⟨b5,0,none⟩)) (hn : tm.size = 38) (a n id e : Int) (em : RS) (t : List UInt8) (w : Bool) (ht : lL t) :
  eS Tryz.prog (Gl g) l [.c (cS (S t)),.c (cB w)] [(0,zK Tryz.f23 [0,1,0,1,1,1] fn tm D l),(1,.box ⟨.c 35,some b2⟩ [.bx 4 0]),(2,.box ⟨.c 3,some b3⟩ [cI id]),(3,.box ⟨.c 65,some b5⟩ [cI e]),(4,y16 a n),(5,mBQ em)] (.c (cB true)) [(0,zK Tryz.f23 [0,1,0,1,1,1] fn tm D l),(1,.box ⟨.c 35,some b2⟩ [.bx 4 0]),(2,.box ⟨.c 3,some b3⟩ [cI id]),(3,.box ⟨.c 65,some b5⟩ [cI (bif (decide ((aJ t).id = id) && !w) then 0 else e)]),(4,y16 a n),(5,mBQ (bif (decide ((aJ t).id = id) && !w) then cG ltS t true em else em))] := by
 cases hc : (decide ((aJ t).id = id) && !w) with
 | true => exact wdYt b2 b3 b5 D l fn tm h2 h3 h5 hn a n id e em t w ht hc
 | false => exact wdYf b2 b3 b5 D l fn tm h2 h3 h5 hn a n id e em t w ht hc
abbrev y17 (a0 : Int) (a1 : Int) : Ob := .box 73 [cI a0,cI a1,.mp 6]
theorem wdIt_ (b0 b6 b7 : Nat) (b2 b3 b5 D l : Nat) (fn : FuncId) (tm : Array Value) (h2 : tm.getD 2 undef = .pointer (some ⟨b2,0,none⟩)) (h3 : tm.getD 3 undef = .pointer (some ⟨b3,0,none⟩)) (h5 : tm.getD 5 undef = .pointer (some ⟨b5,0,none⟩)) (hn : tm.size = 38) (a n id : Int) (es : RS) (hes : RsOk n es) :
  SpG g 58 [.c (.d (.v (.func (.yield l) #[] #[]))),.c (.bx 0 0)] [(0,.box ⟨.c 35,some b0⟩ [.bx 5 0]),(1,zK Tryz.f23 [0,1,0,1,1,1] fn tm D l),(2,.box ⟨.c 35,some b2⟩ [.bx 5 0]),(3,.box ⟨.c 3,some b3⟩ [cI id]),(4,.box ⟨.c 65,some b5⟩ [cI 34]),(5,.box ⟨.c 73,some b6⟩ [cI a,cI n,.mp 6]),(6,.box ⟨.mpb es,some b7⟩ [])] (.tup []) [(0,.box ⟨.c 35,some b0⟩ [.bx 5 0]),(1,zK Tryz.f23 [0,1,0,1,1,1] fn tm D l),(2,.box ⟨.c 35,some b2⟩ [.bx 5 0]),(3,.box ⟨.c 3,some b3⟩ [cI id]),(4,.box ⟨.c 65,some b5⟩ [cI (wdE id es)]),(5,y17 a n),(6,mBQ (wdR id es))] := by
 have hle := hes.len;have hsl : (strs (es.map (·.1))).length = es.length := by rw [strs,lm,lm]
 refine aP 27 Tryz.func58 fun fr hG => ?_;refine jJ [5,6] (⟨[(0,[],.c (.d (.v (.func (.yield l) #[] #[])))),zX 1 0 0],[(0,.box ⟨.c 35,some b0⟩ [.bx 5 0]),(1,zK Tryz.f23 [0,1,0,1,1,1] fn tm D l),(2,.box ⟨.c 35,some b2⟩ [.bx 5 0]),(3,.box ⟨.c 3,some b3⟩ [cI id]),(4,.box ⟨.c 65,some b5⟩ [cI 34]),(5,y17 a n),(6,mBQ es)]⟩) (by kernel_rfl) ?_;refine zL hG [(0,4,.callG (.c (.fn 113 [] [(100,0)])) [6] [(0,mBQ es),(100,.box 47 [.mp 0])]),(0,5,.callG (.c (cM 1 (strs (es.map (·.1))))) [104,6] [(0,.box 47 [.mp 1]),(1,mBQ es)])] [0,1] (fun (zz : Nat × RS × Int) => match zz with | (k,em,e) => (es.length - k,⟨[(0,[],.c (.d (.v (.func (.yield l) #[] #[])))),zX 1 0 0,zM 10 1 (strs (es.map (·.1))),zI 11 ((strs (es.map (·.1))).length : Int),zI 12 (k : Int)],[(0,.box ⟨.c 35,some b0⟩ [.bx 5 0]),(1,zK Tryz.f23 [0,1,0,1,1,1] fn tm D l),(2,.box ⟨.c 35,some b2⟩ [.bx 5 0]),(3,.box ⟨.c 3,some b3⟩ [cI id]),(4,.box ⟨.c 65,some b5⟩ [cI e]),(5,y17 a n),(6,mBQ em)]⟩,k <= es.length /\ em = (wdS id es k).1 /\ e = (bif (wdS id es k).2 then 0 else 34))) (0,es,34) (cS2 g (lA es) (cS1 g (dS es (by exact hes.sort) (by have := hes.len; omega) (by intro x hx; have := hes.tlen hx; omega)))) ?_ ?_
 ·exact ⟨zl _,rfl,rfl⟩
 rintro ⟨k,em,e⟩ ⟨hk,hem,he⟩;refine zc hG [] [0,1] (decide ((k : Int) < ((strs (es.map (·.1))).length : Int))) aB (fun hc2 => ?_) (fun hc2 => ?_)
 ·(try simp only [qM] at hc2)
  refine zC hG [(2,0,.elem (d9 ((es.map (·.1)).getD k []))),(3,8,.callG (.c (cB true)) [1,2,3,4,5,6] [(0,zK Tryz.f23 [0,1,0,1,1,1] fn tm D l),(1,.box ⟨.c 35,some b2⟩ [.bx 4 0]),(2,.box ⟨.c 3,some b3⟩ [cI id]),(3,.box ⟨.c 65,some b5⟩ [cI (bif (decide ((aJ ((es.map (·.1)).getD k [])).id = id) && !((lkM ((es.map (·.1)).getD k []) em).getD false)) then 0 else e)]),(4,y16 a n),(5,mBQ (bif (decide ((aJ ((es.map (·.1)).getD k [])).id = id) && !((lkM ((es.map (·.1)).getD k []) em).getD false)) then cG ltS ((es.map (·.1)).getD k []) true em else em))])] [1,1,0,0,1,1] false (⟨[(0,[],.c (.d (.v (.func (.yield l) #[] #[])))),zX 1 0 0,zM 10 1 (strs (es.map (·.1))),zI 11 ((strs (es.map (·.1))).length : Int),zI 12 (k : Int)],[(0,.box ⟨.c 35,some b0⟩ [.bx 5 0]),(1,zK Tryz.f23 [0,1,0,1,1,1] fn tm D l),(2,.box ⟨.c 35,some b2⟩ [.bx 5 0]),(3,.box ⟨.c 3,some b3⟩ [cI id]),(4,.box ⟨.c 65,some b5⟩ [cI (bif (decide ((aJ ((es.map (·.1)).getD k [])).id = id) && !((lkM ((es.map (·.1)).getD k []) em).getD false)) then 0 else e)]),(5,y17 a n),(6,mBQ (bif (decide ((aJ ((es.map (·.1)).getD k [])).id = id) && !((lkM ((es.map (·.1)).getD k []) em).getD false)) then cG ltS ((es.map (·.1)).getD k []) true em else em))]⟩) (aA (by intros; exact cE (f := d9) [] (by omega) (by (try simp only [zq4] at *); omega) : (0 : Int) <= (k : Int) /\ (strs (es.map (·.1)))[k]? = some (d9 ((es.map (·.1)).getD k []))) (aC (wdY b2 b3 b5 D l fn tm h2 h3 h5 hn a n id e em ((es.map (·.1)).getD k []) ((lkM ((es.map (·.1)).getD k []) em).getD false) (by exact aOC hes (by omega)) : eS Tryz.prog (Gl g) _ _ _ _ _))) (fun hc3 => absurd hc3 (by decide)) (fun _ => ?_)
  refine zD hG [] (k + 1,bif (decide ((aJ (((es.map (·.1))).getD k [])).id = id) && !((lkM (((es.map (·.1))).getD k []) em).getD false)) then cG ltS (((es.map (·.1))).getD k []) true em else em,bif (decide ((aJ (((es.map (·.1))).getD k [])).id = id) && !((lkM (((es.map (·.1))).getD k []) em).getD false)) then 0 else e) (aC (by intros; (try simp only [aLB] at *); omega : inR ((k : Int) + 1))) ?_ ?_
  ·(try dsimp only); omega
  ·exact wd_step (by omega) hem he
 ·(try simp only [qM] at hc2)
  refine zE hG [] (.exit 0) (⟨[],[(0,.box ⟨.c 35,some b0⟩ [.bx 5 0]),(1,zK Tryz.f23 [0,1,0,1,1,1] fn tm D l),(2,.box ⟨.c 35,some b2⟩ [.bx 5 0]),(3,.box ⟨.c 3,some b3⟩ [cI id]),(4,.box ⟨.c 65,some b5⟩ [cI e]),(5,y17 a n),(6,mBQ em)]⟩) aB rfl ?_;refine zR hG [] [] (.tup []) [(0,.box ⟨.c 35,some b0⟩ [.bx 5 0]),(1,zK Tryz.f23 [0,1,0,1,1,1] fn tm D l),(2,.box ⟨.c 35,some b2⟩ [.bx 5 0]),(3,.box ⟨.c 3,some b3⟩ [cI id]),(4,.box ⟨.c 65,some b5⟩ [cI e]),(5,y17 a n),(6,mBQ em)] aB ?_ ?_
  ·rfl
  ·have hk2 : k = es.length := by omega
   subst hk2;rw [hem,he]; rfl
theorem wdIt (b0 b6 b7 : Nat) (b2 b3 b5 D l : Nat) (fn : FuncId) (tm : Array Value) (h2 : tm.getD 2 undef = .pointer (some ⟨b2,0,none⟩)) (h3 : tm.getD 3 undef = .pointer (some ⟨b3,0,none⟩)) (h5 : tm.getD 5 undef = .pointer (some ⟨b5,0,none⟩)) (hn : tm.size = 38) (a n id : Int) (es : RS) (hes : RsOk n es) :
  SpG g 58 [.c (.d (.v (.func (.yield l) #[] #[]))),.c (.bx 0 0)] [(0,.box ⟨.c 35,some b0⟩ [.bx 5 0]),(1,zK Tryz.f23 [0,1,0,1,1,1] fn tm D l),(2,.box ⟨.c 35,some b2⟩ [.bx 5 0]),(3,.box ⟨.c 3,some b3⟩ [cI id]),(4,.box ⟨.c 65,some b5⟩ [cI 34]),(5,.box ⟨.c 73,some b6⟩ [cI a,cI n,.mp 6]),(6,.box ⟨.mpb es,some b7⟩ [])] (.tup []) [(0,.box ⟨.c 35,some b0⟩ [.bx 5 0]),(1,zK Tryz.f23 [0,1,0,1,1,1] fn tm D l),(2,.box ⟨.c 35,some b2⟩ [.bx 5 0]),(3,.box ⟨.c 3,some b3⟩ [cI id]),(4,.box ⟨.c 65,some b5⟩ [cI (wdE id es)]),(5,y17 a n),(6,mBQ (wdR id es))] := by
 refine bX (wdIt_ b0 b6 b7 b2 b3 b5 D l fn tm h2 h3 h5 hn a n id es hes) ?_
 first | rfl | (funext i; simp only [aF,upd]; ((repeat' split) <;> first | rfl | (exfalso; omega)))
theorem w7 (a n id : Int) (es : RS) (hes : RsOk n es) :
  SpG g 23 [.c (.bx 0 0),.c (cI id)] [(0,y15 a n),(1,mBQ es)] (.c (cI (wdE id es))) [(0,y15 a n),(1,mBQ (wdR id es))] := by
 refine tS 38 Tryz.func23 (by kernel_rfl) fun fr hG => ?_;refine zC hG [(1,1,.callG (.c (cB false)) [0,1] [(0,y15 a n),(1,mBQ es)])] [1,0,1] false (⟨[zX 2 100 0,zX 3 101 0,zI 4 0],e4z a n es ++ [(100,.box 35 [.bx 0 0]),(101,.box 3 [cI id])]⟩) (cS1 g (fG a n es)) (fun hc1 => absurd hc1 (by decide)) (fun _ => ?_);refine g8 hG aY [(4,1,.callG (.c (.fn 58 [] [(100,0)])) [0,1] [(0,y15 a n),(1,mBQ es),(100,.box 35 [.bx 0 0])])] [0,1,0,1,1,1] (⟨[zX 2 100 0,zX 3 101 0,zI 4 0,zX 5 400 0,(13,[],.c (.fn 58 [] [(501,0)]))],e4z a n es ++ [(100,.box 35 [.bx 0 0]),(101,.box 3 [cI id]),(400,.box 65 [cI 34]),(501,.box 35 [.bx 0 0])]⟩) _ (by kernel_rfl) (cS1 g (gT a n es)) ?_;refine sR (g := 13) (ps := rgP (aV Tryz.f23) [0,1,0,1,1,1]) (assign := rgA (aV Tryz.f23) [0,1,0,1,1,1]) (body := rgB (aV Tryz.f23) [0,1,0,1,1,1]) hG (by kernel_rfl) 9900 9901 9910 (by kernel_rfl) rfl (by kernel_rfl) fun b D l fn tm hT hn => ?_;refine ⟨.tup [],[501,9901,100,101,400,0,1],[(0,.box ⟨.c 35,some (b 501)⟩ [.bx 5 0]),(1,zK Tryz.f23 [0,1,0,1,1,1] fn tm D l),(2,.box ⟨.c 35,some (b 100)⟩ [.bx 5 0]),(3,.box ⟨.c 3,some (b 101)⟩ [cI id]),(4,.box ⟨.c 65,some (b 400)⟩ [cI (wdE id es)]),(5,y17 a n),(6,mBQ (wdR id es))],none,⟨[zI 4 0,zX 5 400 0],e4z a n (wdR id es) ++ [(400,.box ⟨.c 65,some (b 400)⟩ [cI (wdE id es)]),(9900,.box ⟨.raw (.deferred (some [])),some D⟩ [])]⟩,_,.normal,by kernel_rfl,cS1 g (wdIt (b 501) (b 0) (b 1) (b 100) (b 101) (b 400) D l fn tm (hT.bx 2 100 0 rfl) (hT.bx 3 101 0 rfl) (hT.bx 5 400 0 rfl) hn a n id es hes),rfl,?_⟩;have hG0 := hG
 replace hG := gH (D := D) hG
 refine jJ [0,1,400] (⟨[zI 4 0,zX 5 400 0],e4z a n (wdR id es) ++ [(400,.box 65 [cI (wdE id es)]),(9900,.box ⟨.raw (.deferred (some [])),some D⟩ [])]⟩) (by kernel_rfl) ?_;refine oV hG0 aY [] [] 9900 (.c (cI (wdE id es))) [(0,y15 a n),(1,mBQ (wdR id es))] (by kernel_rfl) aB ?_ ?_;rfl;rfl
theorem g6 (a n id : Int) (es : RS) (hes : RsOk n es) :
  SpG g 23 [.c (.bx 0 0),.c (cI id)] [(0,y15 a n),(1,mBQ es)] (.c (cI (wdE id es))) [(0,y15 a n),(1,mBQ (wdR id es))] := by
 refine bX (w7 a n id es hes) ?_
 first | rfl | (funext i; simp only [aF,upd]; ((repeat' split) <;> first | rfl | (exfalso; omega)))
theorem aLT (a n : Int) (es : RS) (hes : RsOk n es) (hn0 : 0 <= n) (hn8 : n <= 8) :
  SpG g 25 [.c (.bx 0 0)] [(0,y15 a n),(1,mBQ es)] (.c (cM 3 (aFJ a (aE es) (tkL a n.toNat)))) [(0,y15 a n),(1,mBQ es)] := by
 refine aP 35 Tryz.func25 fun fr hG => ?_;refine zC hG [(1,1,.callG (.c (cB false)) [0,1] [(0,y15 a n),(1,mBQ es)])] [1,0,1] false (⟨[zX 0 0 0,zN 2],e4z a n es⟩) (cS1 g (fG a n es)) (fun hc1 => absurd hc1 (by decide)) (fun _ => ?_);refine zA hG [(4,1,.callG (.c (cS (S (aE es)))) [0,1] [(0,y15 a n),(1,mBQ es)])] [0,1,0,1,1,1,1] (⟨[zX 0 0 0,zN 2,zN 3,zS 4 (S (aE es)),zI 5 1],e4z a n es⟩) [(3,9003,43,3)] [] (fun (zz : Nat × LD) => match zz with | (k,eb) => (n.toNat - k,⟨[zX 0 0 0,zN 2,zY 3 9003 0,zS 4 (S (aE es)),zI 5 ((k : Int) + 1)],e4z a n es ++ [(9003,.arr 0 43 3 eb)]⟩,(k : Int) <= n /\ eb = aFJ a (aE es) (tkL a k))) (0,[]) (cS1 g (cK a n es (by exact hes))) ?_ ?_;exact ⟨by omega,rfl⟩;rintro ⟨k,eb⟩ ⟨hk,heb⟩;have hel : eb.length <= k := by rw [heb,aFJ,lm]; exact tk_len a k
 refine zp hG [] [1,0] ((((k : Int) + 1) : Int) <= n) aB (fun hc3 => ?_) (fun hc3 => ?_);skip;refine zc hG [] [1,0,0,1] (!decide ((((k : Int) + 1) : Int) = a)) aB (fun hc4 => ?_) (fun hc4 => ?_)
 (try simp only [blS] at hc4)
 refine zD hG [] (k + 1,eb ++ ([[.i a,.i ((k : Int) + 1),.s (S (aE es))]] : LD)) (aA (by intros; (try simp only [inR,lc,ln]); omega : (eb.length + (([[.i a,.i ((k : Int) + 1),.s (S (aE es))]] : LD)).length) * (32 + 1) <= 140737488355328) (aC (by intros; (try simp only [inR,lc,ln]); omega : inR (((k : Int) + 1) + 1)))) ?_ ?_
 (try dsimp only); omega
 refine ⟨by push_cast; omega,?_⟩;rw [aGJ,if_neg (by omega),heb]; simp [aFJ,msD]
 (try simp only [blS] at hc4)
 refine zD hG [] (k + 1,eb) (aC (by intros; (try simp only [inR,lc,ln]); omega : inR (((k : Int) + 1) + 1))) ?_ ?_
 (try dsimp only); omega
 refine ⟨by push_cast; omega,?_⟩;rw [aGJ,if_pos (by omega),heb];skip;refine zE hG [] (.exit 0) (⟨[zN 2,zY 3 9003 0],e4z a n es ++ [(9003,.arr 0 43 3 eb)]⟩) aB rfl ?_;refine zR hG [] [] (.c (cM 3 eb)) [(0,y15 a n),(1,mBQ es)] aB ?_ ?_;have hk2 : k = n.toNat := by omega
 rw [heb,hk2];rfl
theorem tick_ok (a n : Int) (es : RS) (hes : RsOk n es) (hn0 : 0 <= n) (hn8 : n <= 8) :
  SpG g 25 [.c (.bx 0 0)] [(0,y15 a n),(1,mBQ es)] (.c (cM 3 (aFJ a (aE es) (tkL a n.toNat)))) [(0,y15 a n),(1,mBQ es)] := by
 refine bX (aLT a n es hes hn0 hn8) ?_
 first | rfl | (funext i; simp only [aF,upd]; ((repeat' split) <;> first | rfl | (exfalso; omega)))
theorem rD (a n : Int) (es : RS) (i : It) (hes : RsOk n es) (hi : ItOk i) :
  SpG g 22 [.c (.bx 0 0),.agg (zTQ i)] [(0,y15 a n),(1,mBQ es)] (.c (cI (fC a es i))) [(0,y15 a n),(1,mBQ (fB a es i))] := by
 refine aP 68 Tryz.func22 fun fr hG => ?_;refine zC hG [(1,1,.callG (.c (cB false)) [0,1] [(0,y15 a n),(1,mBQ es)])] [1,0,1] false (⟨[zX 0 0 0,zX 3 100 0,zI 4 0],e4z a n es ++ [(100,.box 63 (zTQ i))]⟩) (cS1 g (fG a n es)) (fun hc1 => absurd hc1 (by decide)) (fun _ => ?_);refine zC hG [(3,1,kS (S (itT i)))] [1,0,1,1,1] ((S (itT i)).toList == (S []).toList) (⟨[zX 0 0 0,zX 3 100 0,zI 4 0,zS 5 (S (itT i))],e4z a n es ++ [(100,.box 63 (zTQ i))]⟩) (cS1 g (pH i (by exact hi))) (fun hc2 => ?_) (fun hc2 => ?_)
 ·(try simp only [zq8] at hc2)
  exact absurd hc2 (itT_ne i)
 ·(try simp only [zq8] at hc2)
  refine zC hG [] [1,0,1,1,1,1] (!decide ((i.author : Int) = a)) (⟨[zX 0 0 0,zI 4 0,zS 5 (S (itT i))],e4z a n es⟩) aB (fun hc3 => ?_) (fun hc3 => ?_)
  ·(try simp only [zq8] at hc3)
   refine bJ hG aY [] [] (.c (cI 35)) [(0,y15 a n),(1,mBQ es)] (by kernel_rfl) aB ?_ ?_
   ·rw [(aCS (by simpa using hc3)).1]
   ·rw [(aCS (by simpa using hc3)).2]
    all_goals (first | rfl | (funext i; simp only [aF,upd]; ((repeat' split) <;> first | rfl | (exfalso; omega))))
  ·(try simp only [zq8] at hc3)
   refine zc hG [] [1,1,0,1,1,1,1,1] ((lkM (itT i) es).isSome) aB (fun hc4 => ?_) (fun hc4 => ?_)
   ·(try simp only [zq8] at hc4)
    refine bJ hG aY [] [] (.c (cI 33)) [(0,y15 a n),(1,mBQ es)] (by kernel_rfl) aB ?_ ?_
    ·rw [(mC (by simpa using hc3) hc4).1]
    ·rw [(mC (by simpa using hc3) hc4).2]
     all_goals (first | rfl | (funext i; simp only [aF,upd]; ((repeat' split) <;> first | rfl | (exfalso; omega))))
   ·(try simp only [zq8] at hc4)
    refine aNK (i := 1) rfl fun ents clock hM => ?_;refine zL hG [] [0,1,0,1,1,1,1,1,1,1] (fun (zz : RS × Array Nat × Int) => match zz with | (vis,seen,c) => (es.length - vis.length,⟨[zX 0 0 0,zI 4 0,zS 5 (S (itT i)),zI 8 c,zX 39 1304 0],[(0,y15 a n),(1,.box ⟨.raw (.map ents clock),none⟩ []),(1304,.box ⟨.itr clock seen clock,none⟩ [.mp 1])]⟩,RngB ents vis seen /\ c = (pA a vis : Int) /\ vis.length <= es.length)) ([],#[],0) aB ?_ ?_
    ·exact ⟨RngB.nil ents,rfl,zl _⟩
    rintro ⟨vis,seen,c⟩ ⟨hrg,hc,hvl⟩;have hco := own_le a vis;have hle := hes.len;refine iF aY 1 (pos' := [0]) (by kernel_rfl) ?_;refine aNR (it := 39) (nx := 40) (more := 41) (i := 1) (j := 1304) (ents := ents) (clock := clock) (by kernel_rfl) (by kernel_rfl) (by kernel_rfl) (by kernel_rfl) rfl rfl (fun x hx => hM.lt x hx) (lr _) (fun hall => ?_) (fun ev hev hnew => ?_)
    ·have hful := RngB.full hM hrg hall
     refine aML (i := 1) (q := none) (cells := []) (ents := ents) (clock := clock) (es := es) rfl hM ?_;refine zC hG [] [0,1] false (⟨[zX 0 0 0,zI 4 0,zS 5 (S (itT i)),zI 8 c,zX 39 1304 0],e4z a n es ++ [(1304,.box ⟨.itr clock seen clock,none⟩ [.mp 1])]⟩) aB (fun hc6 => absurd hc6 (by decide)) (fun _ => ?_);refine zE hG [] (.exit 0) (⟨[zX 0 0 0,zI 4 0,zS 5 (S (itT i)),zI 8 c],e4z a n es⟩) aB rfl ?_;refine zC hG [] [1,0,1,1,1,1,1,1,1,1] (decide ((c : Int) >= 30)) (⟨[zX 0 0 0,zI 4 0,zS 5 (S (itT i))],e4z a n es⟩) aB (fun hc7 => ?_) (fun hc7 => ?_)
     ·(try simp only [zq8] at hc7)
      refine bJ hG aY [] [] (.c (cI 2)) [(0,y15 a n),(1,mBQ es)] (by kernel_rfl) aB ?_ ?_
      ·rw [(wF (by simpa using hc3) (by simpa using hc4) (by rw [<- nB hful,<- hc]; omega)).1]
      ·rw [(wF (by simpa using hc3) (by simpa using hc4) (by rw [<- nB hful,<- hc]; omega)).2]
       all_goals (first | rfl | (funext i; simp only [aF,upd]; ((repeat' split) <;> first | rfl | (exfalso; omega))))
     ·(try simp only [zq8] at hc7)
      refine bJ hG aY [] [] (.c (cI 0)) [(1,mBQ (cG ltS (itT i) false es)),(0,y15 a n)] (by kernel_rfl) aB ?_ ?_
      ·rw [(nX (by simpa using hc3) (by simpa using hc4) (by rw [<- nB hful,<- hc]; omega)).1]
      ·rw [(nX (by simpa using hc3) (by simpa using hc4) (by rw [<- nB hful,<- hc]; omega)).2]
       all_goals (first | rfl | (funext i; simp only [aF,upd]; ((repeat' split) <;> first | rfl | (exfalso; omega))))
    ·obtain ⟨ek,eb,hek,hev2,hin,hrg2,hln2,hent⟩ := RngB.step hM hrg hev hnew
     refine zC hG [] [0,1] true (⟨[zX 0 0 0,zI 4 0,zS 5 (S (itT i)),zI 8 c,zX 39 1304 0],[(0,y15 a n),(1,.box ⟨.raw (.map ents clock),none⟩ []),(1304,.box ⟨.itr clock (seen.push ev.born) clock,none⟩ [.mp 1])]⟩) aB (fun _ => ?_) (fun hc8 => absurd hc8 (by decide));refine zc hG [(14,0,.elem [.v (.string (S ek)),.v (.bool eb)]),(15,1,kC (.tup [(true,(zTQ (aJ ek))),(false,[cB true])]))] [1,1,1,0,1,1] (decide (((aJ ek).author : Int) = a)) (aA hent (cS1 g (o7 (t := ek) (by exact hes.it _ hin)))) (fun hc9 => ?_) (fun hc9 => ?_)
     ·(try simp only [zq8] at hc9)
      refine zD hG [] (vis ++ [(ek,eb)],seen.push ev.born,c + 1) (aC (by intros; (try simp only [inR]); omega : inR (c + 1))) ?_ ?_
      ·(try dsimp only); rw [la,lc,ln] at *; omega
      ·exact ⟨hrg2,by rw [aB3,if_pos (by simpa using hc9),hc],hln2⟩
     ·(try simp only [zq8] at hc9)
      refine zD hG [] (vis ++ [(ek,eb)],seen.push ev.born,c) aB ?_ ?_
      ·(try dsimp only); rw [la,lc,ln] at *; omega
      ·exact ⟨hrg2,by rw [aB3,if_neg (by simpa using hc9),hc],hln2⟩
end Go.Proofs.YtclaplngjmgnoaaGreatDoor
namespace Go.Proofs.YtclaplngjmgnoaaGreatDoor
open Go.RowKit Go.V
open Go.Eng (inR byteAt u8 dN)
variable {g : Gv}
def sgn (b : Bool) : UInt8 := if b then 45 else 43
def hdT (t : List UInt8) (b : Bool) : List UInt8 := sgn b :: Lib.itoa (t.length : Int)
theorem aN8 (t : List UInt8) (b : Bool) (r : List UInt8) : aW t b ++ r = hdT t b ++ 58 :: (t ++ 10 :: r) := by simp [aW,hdT,sgn]
theorem aPI (t : List UInt8) (b : Bool) (r : List UInt8) (h : (aW t b ++ r).length < 4294967281) : SpG g 67 [.c (cS (S (aW t b ++ r))),.c (cS (S [58]))] [] (y12 (S (hdT t b)) (S (t ++ 10 :: r))) [] := by
 have hc := aAQ (g := g) (aW t b ++ r) [58] h;have e : Lib.cut (aW t b ++ r) [58] = (hdT t b,t ++ 10 :: r,true) := by
  rw [aN8];refine mH fun x hx => ?_;rcases mc.1 hx with rfl | hx;unfold sgn; split <;> decide;exact fA (.inr (.inl rfl)) x hx
 rw [e] at hc;exact hc
theorem atoi_hd {t : List UInt8} (b : Bool) (h : t.length <= 200000) : SpG g 68 [.c (cS ((S (hdT t b)).extract 1 (S (hdT t b)).size))] [] (.tup [(false,[cI (t.length : Int)]),(false,[.d (.v .nilIface)])]) [] := by
 rw [kO];exact kM (t.length : Int) (hJ (by omega))
theorem xX (t r : List UInt8) : (S (t ++ 10 :: r)).extract 0 ((t.length : Int)).toNat = S t := by rw [g0,Int.toNat_natCast]; simp
theorem tl_drop (t r : List UInt8) : (S (t ++ 10 :: r)).extract ((t.length : Int) + 1).toNat (S (t ++ 10 :: r)).size = S r := by
 have e : ((t.length : Int) + 1).toNat = t.length + 1 := by omega
 rw [e,kO,<- List.drop_drop,List.drop_left]; rfl
theorem aOO (t : List UInt8) (b : Bool) : decide (byteAt (S (hdT t b)) 0 = 45) = b := by cases b <;> rfl
theorem ln_take (t : List UInt8) (b : Bool) (r : List UInt8) : (S (aW t b ++ r)).extract 0 (((((S (hdT t b)).size : Int) + 1) + (t.length : Int)) + 1).toNat = S (aW t b) := by
 have e : (((((S (hdT t b)).size : Int) + 1) + (t.length : Int)) + 1).toNat = (aW t b).length := by
  rw [aQ]; simp only [zq1,hdT,aW]; omega
 rw [e,g0]; simp
theorem line_tl {t r : List UInt8} {b : Bool} (h : t.length <= 200000) : SpG g 35 [.c (cS ((S (t ++ 10 :: r)).extract 0 (t.length : Int).toNat)),.c (cB (decide (byteAt (S (hdT t b)) 0 = 45)))] [] (.c (cS (S (aW t b)))) [] := by
 rw [xX,aOO]; exact jE t b h
theorem enc_ne {es : RS} : aE es = [] ↔ es = [] := by
 cases es with
 | nil => simp [aE]
 | cons x r => simp [aE,aW]
theorem aPB {es : RS} {k : Nat} (h : k < es.length) : aE (es.drop k) = aW (es.getD k ([],false)).1 (es.getD k ([],false)).2 ++ aE (es.drop (k + 1)) := by
 have e : es.drop k = es.getD k ([],false) :: es.drop (k + 1) := by
  rw [gd,ge h]; exact List.drop_eq_getElem_cons h
 rw [e]; simp [aE]
theorem aPC {n : Int} {es : RS} (h : RsOk n es) (k : Nat) : (aE (es.drop k)).length <= 800400000 := by
 have := aAH (f := fun x : List UInt8 × Bool => aW x.1 x.2) (l := es.drop k) (c := 200100) fun x hx => nP (h.tlen (List.mem_of_mem_drop hx)) x.2;have h2 := h.len;have h3 : (es.drop k).length <= es.length := by rw [List.length_drop]; omega
 unfold aE;omega
def aDM (ms : RS) (k : Nat) (tl : RS) : Prop := ∀ s,(lkM s tl).getD false = decide (s ∈ (ms.take k).map fun x => aW x.1 x.2)
theorem tl_step {ms tl : RS} {k : Nat} (h : aDM ms k tl) (hk : k < ms.length) : aDM ms (k + 1) (cG ltS (aW (ms.getD k ([],false)).1 (ms.getD k ([],false)).2) true tl) := by
 intro s;rw [nN,dG ([],false) hk,List.map_append];by_cases hs : s = aW (ms.getD k ([],false)).1 (ms.getD k ([],false)).2;rw [if_pos hs,hs]; simp;rw [if_neg hs,h s];have : (s ∈ List.map (fun x : List UInt8 × Bool => aW x.1 x.2) (ms.take k)) ↔ s ∈ List.map (fun x : List UInt8 × Bool => aW x.1 x.2) (ms.take k) ++ List.map (fun x => aW x.1 x.2) [ms.getD k ([],false)] := by
  rw [List.mem_append,List.map_singleton,List.mem_singleton];constructor;exact .inl;rintro (h | h);exact h;exact absurd h hs
 exact decide_eq_decide.2 this
theorem aHP {k : List UInt8} {v : Bool} : ∀ {es : RS},(∀ x,x ∈ es.map (·.1) -> x < k) -> mA ltS k v es = es ++ [(k,v)]
 | [],_ => rfl
 | y :: r,h => by
  have hy : ¬ ltS k y.1 = true := by
   have := h y.1 (by simp);simp only [ltS,decide_eq_true_eq];intro h2;exact List.lt_irrefl _ (List.lt_trans this h2)
  simp only [mA,if_neg hy,List.cons_append];rw [aHP fun x hx => h x (by simp only [mp1,mc]; exact .inr hx)]
theorem aFZ {ms : RS} (hs : kSort ms) {k : Nat} (hk : k < ms.length) : lkM (ms.getD k ([],false)).1 (ms.take k) = none /\ cG ltS (ms.getD k ([],false)).1 (ms.getD k ([],false)).2 (ms.take k) = ms.take (k + 1) := by
 have hlt : ∀ x,x ∈ (ms.take k).map (·.1) -> x < (ms.getD k ([],false)).1 := by
  intro x hx;have h2 : (ms.map (·.1)).Pairwise (· < ·) := hs
  have e : ms.map (·.1) = (ms.take k).map (·.1) ++ (ms.drop k).map (·.1) := by rw [<- List.map_append,List.take_append_drop]
  rw [e,List.pairwise_append] at h2;refine h2.2.2 x hx _ ?_;have hd : ms.drop k = ms.getD k ([],false) :: ms.drop (k + 1) := by
   rw [gd,ge hk]; exact List.drop_eq_getElem_cons hk
  rw [hd]; simp
 have hn : lkM (ms.getD k ([],false)).1 (ms.take k) = none := by
  cases hl : lkM (ms.getD k ([],false)).1 (ms.take k) with
  | none => rfl
  | some b =>
   have := lk_some_mem.1 (show (lkM (ms.getD k ([],false)).1 (ms.take k)).isSome = true by rw [hl]; rfl);exact absurd (hlt _ this) (List.lt_irrefl _)
 refine ⟨hn,?_⟩;rw [cG,if_neg (by rw [hn]; decide),aHP hlt,dG ([],false) hk]
def jnV (es vis : RS) : RS := vis.foldl (fun e x => cG ltS x.1 ((lkM x.1 e).getD false || x.2) e) es
theorem zT (es vis : RS) (x : List UInt8 × Bool) : jnV es (vis ++ [x]) = cG ltS x.1 ((lkM x.1 (jnV es vis)).getD false || x.2) (jnV es vis) := by simp [jnV,List.foldl_append]
def orO : Option Bool -> Option Bool -> Option Bool
 | none,y => y
 | x,none => x
 | some a,some b => some (a || b)
theorem rev_all {α : Type} {p : List α -> Prop} (h0 : p []) (h1 : ∀ l x,p l -> p (l ++ [x])) (l : List α) : p l := by
 rw [<- List.reverse_reverse l]
 induction l.reverse with
 | nil => exact h0
 | cons x r ih => rw [List.reverse_cons]; exact h1 _ x ih
theorem aCM {es : RS} (hs : kSort es) : ∀ (vis : RS),(vis.map (·.1)).Nodup -> kSort (jnV es vis) /\ (∀ n,lkM n (jnV es vis) = orO (lkM n es) (lkM n vis)) /\ (jnV es vis).length <= es.length + vis.length := by
 intro vis
 induction vis using rev_all with
 | h0 => intro _; exact ⟨hs,fun n => by simp only [jnV,List.foldl_nil,lkM]; cases lkM n es <;> rfl,by simp [jnV]⟩
 | h1 vis x ih =>
  intro hn;rw [List.map_append,List.nodup_append] at hn;obtain ⟨h1,_,h3⟩ := hn;obtain ⟨g1,g2,g3⟩ := ih h1;have hx : lkM x.1 vis = none := by
   cases hl : lkM x.1 vis with
   | none => rfl
   | some b =>
    have := lk_some_mem.1 (show (lkM x.1 vis).isSome = true by rw [hl]; rfl);exact absurd rfl (h3 _ this x.1 (by simp))
  have hap : ∀ n,lkM n (vis ++ [x]) = if n = x.1 then some x.2 else lkM n vis := by
   intro n;have go : ∀ (l : RS),lkM n (l ++ [x]) = match lkM n l with
    | some b => some b
    | none => if n = x.1 then some x.2 else none := by
    intro l
    induction l with
    | nil =>
     simp only [List.nil_append,lkM];by_cases h : n = x.1
     ·rw [if_pos h.symm,if_pos h]
     ·rw [if_neg (fun e => h e.symm),if_neg h]
    | cons y r ihr =>
     simp only [List.cons_append,lkM];by_cases h : y.1 = n
     ·rw [if_pos h,if_pos h]
     ·rw [if_neg h,if_neg h,ihr]
   rw [go vis];by_cases h : n = x.1
   ·rw [if_pos h,h,hx,if_pos rfl]
   ·cases lkM n vis with
    | none => simp [h]
    | some b => simp [h]
  obtain ⟨u1,_,u3,_⟩ := rP (k := x.1) (v := (lkM x.1 (jnV es vis)).getD false || x.2) g1;rw [zT];refine ⟨u1,fun n => ?_,by rw [la,lc,ln]; omega⟩;rw [nN,hap n];by_cases h : n = x.1
  ·rw [if_pos h,if_pos h,h,g2,hx]
   cases lkM x.1 es <;> simp [orO]
  ·rw [if_neg h,if_neg h,g2]
theorem aHK {es ms vis : RS} (hs : kSort es) (hm : kSort ms) (hp : vis.Perm ms) : jnV es vis = jnV es ms := by
 have hv : (vis.map (·.1)).Nodup := ((hp.map (·.1)).nodup_iff).2 hm.nodup
 obtain ⟨a1,a2,_⟩ := aCM hs vis hv;obtain ⟨b1,b2,_⟩ := aCM hs ms hm.nodup;refine aHI a1 b1 fun n => ?_;rw [a2,b2,s4 hp hm.nodup n]
def eO (es ms : RS) : Bool := (jnV es ms).any fun x => !decide (aW x.1 x.2 ∈ ms.map fun x => aW x.1 x.2)
theorem aOD {n : Int} {es ms : RS} (hes : RsOk n es) (hms : RsOk n ms) (hl : es.length + ms.length <= 4000) : RsOk n (jnV es ms) := by
 obtain ⟨a1,a2,a3⟩ := aCM hes.sort ms hms.sort.nodup;have hk : ∀ x,x ∈ jnV es ms -> (∃ y,y ∈ es /\ y.1 = x.1) \/ ∃ y,y ∈ ms /\ y.1 = x.1 := by
  intro x hx;have h1 := (lk_some_mem (k := x.1)).2 (List.mem_map_of_mem hx);rw [a2] at h1;cases h2 : lkM x.1 es with
  | some b => exact .inl ⟨_,nO h2,rfl⟩
  | none =>
   rw [h2] at h1;cases h3 : lkM x.1 ms with
   | some b => exact .inr ⟨_,nO h3,rfl⟩
   | none => rw [h3] at h1; simp [orO] at h1
 refine ⟨a1,by omega,fun x hx => ?_,fun x hx => ?_⟩;rcases hk x hx with ⟨y,hy,e⟩ | ⟨y,hy,e⟩
 rw [<- e]; exact hes.it y hy;rw [<- e]; exact hms.it y hy;rcases hk x hx with ⟨y,hy,e⟩ | ⟨y,hy,e⟩
 rw [<- e]; exact hes.au y hy;rw [<- e]; exact hms.au y hy
theorem ln_no {t r : List UInt8} {b : Bool} (h : (!((S (aW t b ++ r)).extract 0 (((((S (hdT t b)).size : Int) + 1) + (t.length : Int)) + 1).toNat).toList == (S (aW t b)).toList) = true) : False := by
 rw [ln_take] at h; simp at h
theorem aJI {t r : List UInt8} (h : lL t) : SpG g 38 [.c (cS ((S (t ++ 10 :: r)).extract 0 t.length))] [] (.tup [(true,(zTQ (aJ t))),(false,[cB true])]) [] := by
 rw [show (S (t ++ 10 :: r)).extract 0 t.length = S t from xX t r]; exact o7 h
abbrev y18 (a0 : ByteArray) (a1 : Int) : Ob := .box 102 [cS a0,cI a1]
abbrev y19 (a0 : ByteArray) (a1 : Bool) : SV := .tup [(false,[cS a0]),(false,[cB a1]),(false,[cB true])]
theorem next_ok (t : List UInt8) (b : Bool) (r : List UInt8) (n : Int) (ht : lL t) (h1 : 1 <= (aJ t).author) (h2 : (aJ t).author <= n) (hr : (aW t b ++ r).length < 4294967281) :
  SpG g 39 [.c (.bx 0 0)] [(0,y18 (S (aW t b ++ r)) n)] (y19 (S t) b) [(0,y18 (S r) n)] := by
 have htl := aOF ht;have htr : (t ++ 10 :: r).length = t.length + 1 + r.length := by simp only [zq0]; omega
 have hhl : (hdT t b).length + t.length + 2 + r.length = (aW t b ++ r).length := by simp only [zq1,hdT,aW]; omega
 have hhd : 1 <= (hdT t b).length := by simp [hdT]
 refine aP 95 Tryz.func39 fun fr hG => ?_;refine zC hG [(1,4,kC (y12 (S (hdT t b)) (S (t ++ 10 :: r))))] [1,0,1,1] ((S (hdT t b)).toList == (S []).toList) (⟨[zX 0 0 0,zS 2 (S []),zB 3 false,zB 4 false,zS 5 (S (hdT t b)),zS 6 (S (t ++ 10 :: r))],[(0,y18 (S (aW t b ++ r)) n)]⟩) (cS1 g (aPI t b r hr)) (fun hc1 => ?_) (fun hc1 => ?_)
 (try simp only [zq6] at hc1)
 simp [hdT] at hc1
 (try simp only [zq6] at hc1)
 refine zC hG [(4,2,kC (y4 (t.length : Int)))] [1,0,1,1,1,1] ((decide (((t.length : Int) : Int) < 0)) || (decide (((t.length : Int) : Int) >= ((S (t ++ 10 :: r)).size : Int)))) (⟨[zX 0 0 0,zS 2 (S []),zB 3 false,zB 4 false,zS 5 (S (hdT t b)),zS 6 (S (t ++ 10 :: r)),zI 8 (t.length : Int)],[(0,y18 (S (aW t b ++ r)) n)]⟩) (aA (by intros; (try simp only [qN] at *); omega : (0 : Int) <= 1 /\ (1 : Int) <= ((S (hdT t b)).size : Int) /\ ((S (hdT t b)).size : Int) <= ((S (hdT t b)).size : Int)) (cS1 g (atoi_hd b htl))) (fun hc2 => ?_) (fun hc2 => ?_)
 (try simp only [zq6] at hc2)
 exfalso; omega
 (try simp only [zq6] at hc2)
 refine zC hG [(8,13,kS (S (aW t b)))] [1,0,1,1,1,1,1,1] (!(((S (aW t b ++ r)).extract 0 (((((S (hdT t b)).size : Int) + 1) + (t.length : Int)) + 1 : Int).toNat).toList == (S (aW t b)).toList)) (⟨[zX 0 0 0,zS 2 ((S (t ++ 10 :: r)).extract 0 t.length),zB 3 (decide ((byteAt (S (hdT t b)) 0 : Int) = 45)),zB 4 false,zS 6 (S (t ++ 10 :: r)),zI 8 (t.length : Int)],[(0,y18 (S (aW t b ++ r)) n)]⟩) (aA (by intros; (try simp only [qN] at *); omega : (0 : Int) <= 0 /\ (0 : Int) <= (t.length : Int) /\ (t.length : Int) <= ((S (t ++ 10 :: r)).size : Int)) (aA (by intros; (try simp only [qN] at *); omega : (0 : Int) <= 0 /\ 0 < ((S (hdT t b)).size : Int)) (aA (by intros; (try simp only [qN] at *); omega : inR (((S (hdT t b)).size : Int) + 1)) (aA (by intros; (try simp only [qN] at *); omega : inR ((((S (hdT t b)).size : Int) + 1) + (t.length : Int))) (aA (by intros; (try simp only [qN] at *); omega : inR (((((S (hdT t b)).size : Int) + 1) + (t.length : Int)) + 1)) (aA (by intros; (try simp only [qN] at *); omega : (0 : Int) <= 0 /\ (0 : Int) <= (((((S (hdT t b)).size : Int) + 1) + (t.length : Int)) + 1) /\ (((((S (hdT t b)).size : Int) + 1) + (t.length : Int)) + 1) <= ((S (aW t b ++ r)).size : Int)) (cS1 g (line_tl (t := t) (r := r) (b := b) htl)))))))) (fun hc3 => ?_) (fun hc3 => ?_)
 (try simp only [zq6] at hc3)
 exact (ln_no (t := t) (r := r) (b := b) (by simpa [aQ] using hc3)).elim
 (try simp only [zq6] at hc3)
 refine zC hG [(10,1,kC (.tup [(true,(zTQ (aJ t))),(false,[cB true])]))] [1,0,1,1,1,1,1,1,1,1] ((decide (((aJ t).author : Int) < 1)) || (decide (((aJ t).author : Int) > n))) (⟨[zX 0 0 0,zS 2 ((S (t ++ 10 :: r)).extract 0 t.length),zB 3 (decide ((byteAt (S (hdT t b)) 0 : Int) = 45)),zB 4 true,zS 6 (S (t ++ 10 :: r)),zI 8 (t.length : Int)],[(0,y18 (S (aW t b ++ r)) n)]⟩) (cS1 g (aJI (r := r) ht)) (fun hc4 => ?_) (fun hc4 => ?_)
 (try simp only [zq6] at hc4)
 exfalso; omega
 (try simp only [zq6] at hc4)
 refine zR hG [] [] (y19 ((S (t ++ 10 :: r)).extract 0 t.length) (decide ((byteAt (S (hdT t b)) 0 : Int) = 45))) [(0,y18 ((S (t ++ 10 :: r)).extract ((t.length : Int) + 1 : Int).toNat (S (t ++ 10 :: r)).size) n)] (aA (by intros; (try simp only [qN] at *); omega : inR ((t.length : Int) + 1)) (aC (by intros; (try simp only [qN] at *); omega : (0 : Int) <= ((t.length : Int) + 1) /\ ((t.length : Int) + 1 : Int) <= ((S (t ++ 10 :: r)).size : Int) /\ ((S (t ++ 10 :: r)).size : Int) <= ((S (t ++ 10 :: r)).size : Int)))) ?_ ?_;rw [show (S (t ++ 10 :: r)).extract 0 t.length = S t from xX t r,aOO];rw [show (S (t ++ 10 :: r)).extract ((t.length : Int) + 1).toNat (S (t ++ 10 :: r)).size = S r from tl_drop t r]
end Go.Proofs.YtclaplngjmgnoaaGreatDoor
namespace Go.Proofs.YtclaplngjmgnoaaGreatDoor
open Go.RowKit Go.V
open Go.Eng (inR byteAt u8 dN)
variable {g : Gv}
theorem aG8 {n : Int} {ms : RS} (hms : RsOk n ms) {k : Nat} (hk : k < ms.length) :
  SpG g 39 [.c (.bx 0 0)] [(0,y18 (S (aE (ms.drop k))) n)] (.tup [(false,[cS (S (ms.getD k ([],false)).1)]),(false,[.d (.b (ms.getD k ([],false)).2)]),(false,[cB true])]) [(0,y18 (S (aE (ms.drop (k + 1)))) n)] := by
 have hm := bF (z := (([],false) : List UInt8 × Bool)) hk;have hl := aPC hms k;rw [aPB hk] at hl ⊢;exact next_ok _ _ _ n (hms.it _ hm) (hms.au _ hm).1 (hms.au _ hm).2 (by omega)
theorem aGK {n : Int} {ms tl fd : RS} (hms : RsOk n ms) {k : Nat} (hk : k < ms.length) (h1 : aDM ms k tl) (h2 : fd = ms.take k) :
  k + 1 <= ms.length /\ aDM ms (k + 1) (cG ltS (aW (ms.getD k ([],false)).1 (ms.getD k ([],false)).2) true tl) /\ cG ltS (ms.getD k ([],false)).1 ((lkM (ms.getD k ([],false)).1 fd).getD false || (ms.getD k ([],false)).2) fd = ms.take (k + 1) := by
 subst h2;obtain ⟨g1,g2⟩ := aFZ hms.sort hk;refine ⟨by omega,tl_step h1 hk,?_⟩;rw [g1]; exact g2
theorem aLS {es ms tl em : RS} {n : Int} (hem : em = jnV es ms) (h1 : aDM ms ms.length tl) (hk : kSort em) (h : eO es ms = false) : ∀ k,k < em.length -> (lkM (aW ((em.map (·.1)).getD k []) ((lkM ((em.map (·.1)).getD k []) em).getD false)) tl).getD false = true := by
 intro k hkl;rw [pG hkl,aHE hk hkl,h1,List.take_length];have hm := bF (z := (([],false) : List UInt8 × Bool)) hkl;unfold eO at h;rw [List.any_eq_false,<- hem] at h;have h5 := h _ hm;simp only [Bool.not_eq_true,Bool.not_eq_false'] at h5;exact h5
theorem aLR {es ms tl em : RS} {n : Int} (hem : em = jnV es ms) (h1 : aDM ms ms.length tl) (hk : kSort em) (h : eO es ms = true) : ∃ q,q < em.length /\ (∀ k,k < q -> (lkM (aW ((em.map (·.1)).getD k []) ((lkM ((em.map (·.1)).getD k []) em).getD false)) tl).getD false = true) /\ (lkM (aW ((em.map (·.1)).getD q []) ((lkM ((em.map (·.1)).getD q []) em).getD false)) tl).getD false = false := by
 have hex : ∃ q,q < em.length /\ (lkM (aW ((em.map (·.1)).getD q []) ((lkM ((em.map (·.1)).getD q []) em).getD false)) tl).getD false = false := by
  unfold eO at h;rw [List.any_eq_true] at h;obtain ⟨x,hx,hx2⟩ := h;rw [<- hem] at hx;obtain ⟨q,hq,rfl⟩ := List.mem_iff_getElem.1 hx;refine ⟨q,hq,?_⟩;rw [pG hq,aHE hk hq,h1,List.take_length];have e : em.getD q ([],false) = em[q] := by rw [gd,ge hq]; rfl
  rw [e];simpa using hx2
 obtain ⟨q,hq1,hq2⟩ := hex
 induction q using Nat.strongRecOn with
 | ind q ih =>
  by_cases hb : ∀ k,k < q -> (lkM (aW ((em.map (·.1)).getD k []) ((lkM ((em.map (·.1)).getD k []) em).getD false)) tl).getD false = true
  ·exact ⟨q,hq1,hb,hq2⟩
  ·obtain ⟨k,hk2⟩ := Classical.not_forall.1 hb
   obtain ⟨hkq,hkf⟩ := Classical.not_imp.1 hk2;exact ih k hkq (by omega) (by simpa using hkf)
theorem tkGo (b2 b3 b4 b5 D l : Nat) (fn : FuncId) (tm : Array Value) (h2 : tm.getD 2 undef = .pointer (some ⟨b2,0,none⟩)) (h3 : tm.getD 3 undef = .pointer (some ⟨b3,0,none⟩)) (h4 : tm.getD 4 undef = .pointer (some ⟨b4,0,none⟩)) (h5 : tm.getD 5 undef = .pointer (some ⟨b5,0,none⟩)) (hn : tm.size = 124) (a n f : Int) (em ms tl : RS) (hem : RsOk n em) (t : List UInt8) (w : Bool) (ht : t.length <= 200000) (hc : (lkM (aW t w) tl).getD false = true) :
  eS Tryz.prog (Gl g) l [.c (cS (S t)),.c (cB w)] [(0,zK Tryz.f19 [0,1,0,1,1,1,1,1,1,1,1] fn tm D l),(1,.box ⟨.c 35,some b2⟩ [.bx 5 0]),(2,.box ⟨.c 43,some b3⟩ [cI f,cI a,cS (S (aE ms))]),(3,.box ⟨.c 32,some b4⟩ [cN]),(4,.box ⟨.c 47,some b5⟩ [.mp 7]),(5,y17 a n),(6,mBQ em),(7,mBQ tl)] (.c (cB true)) [(0,zK Tryz.f19 [0,1,0,1,1,1,1,1,1,1,1] fn tm D l),(1,.box ⟨.c 35,some b2⟩ [.bx 5 0]),(2,.box ⟨.c 43,some b3⟩ [cI f,cI a,cS (S (aE ms))]),(3,.box ⟨.c 32,some b4⟩ [cN]),(4,.box ⟨.c 47,some b5⟩ [.mp 7]),(5,y17 a n),(6,mBQ em),(7,mBQ tl)] := by
 refine hO (iL := 0) (p := 106) (p2 := 107) (env0 := [zX 2 1 0,zX 3 2 0,zX 4 3 0,zX 5 4 0]) (n := 124) (r := (bM (aV Tryz.f19) [0,1,0,1,1,1,1,1,1,1,1] fn tm D)) rfl (by kernel_rfl) hn (by decide) (by decide) (by decide) ⟨rfl,⟨_,_,_,rfl,rfl,h2⟩,⟨rfl,⟨_,_,_,rfl,rfl,h3⟩,⟨rfl,⟨_,_,_,rfl,rfl,h4⟩,⟨rfl,⟨_,_,_,rfl,rfl,h5⟩,trivial⟩⟩⟩⟩ fun fr hG => ?_;refine pZ hG aY [] (⟨[zX 2 1 0,zX 3 2 0,zX 4 3 0,zX 5 4 0,zS 14 (S t),zB 15 w],[(0,zK Tryz.f19 [0,1,0,1,1,1,1,1,1,1,1] fn tm D l),(1,.box ⟨.c 35,some b2⟩ [.bx 5 0]),(2,.box ⟨.c 43,some b3⟩ [cI f,cI a,cS (S (aE ms))]),(3,.box ⟨.c 32,some b4⟩ [cN]),(4,.box ⟨.c 47,some b5⟩ [.mp 7]),(5,y17 a n),(6,mBQ em),(7,mBQ tl)]⟩) 0 (r := (bM (aV Tryz.f19) [0,1,0,1,1,1,1,1,1,1,1] fn tm D)) (by kernel_rfl) aB rfl rfl ?_;refine jT hG (⟨[zX 2 1 0,zX 3 2 0,zX 4 3 0,zX 5 4 0,zS 14 (S t),zB 15 w],[(0,.box ⟨.raw (.loop { (bM (aV Tryz.f19) [0,1,0,1,1,1,1,1,1,1,1] fn tm D) with state := .busy }),some l⟩ []),(1,.box ⟨.c 35,some b2⟩ [.bx 5 0]),(2,.box ⟨.c 43,some b3⟩ [cI f,cI a,cS (S (aE ms))]),(3,.box ⟨.c 32,some b4⟩ [cN]),(4,.box ⟨.c 47,some b5⟩ [.mp 7]),(5,y17 a n),(6,mBQ em),(7,mBQ tl)]⟩) (by kernel_rfl) ?_;refine zC hG [(20,3,kS (S (aW t w)))] [1,0] (!((lkM (aW t w) tl).getD false)) (⟨[zX 2 1 0,zX 3 2 0,zX 4 3 0],[(0,.box ⟨.raw (.loop { (bM (aV Tryz.f19) [0,1,0,1,1,1,1,1,1,1,1] fn tm D) with state := .busy }),some l⟩ []),(1,.box ⟨.c 35,some b2⟩ [.bx 5 0]),(2,.box ⟨.c 43,some b3⟩ [cI f,cI a,cS (S (aE ms))]),(3,.box ⟨.c 32,some b4⟩ [cN]),(4,.box ⟨.c 47,some b5⟩ [.mp 7]),(5,y17 a n),(6,mBQ em),(7,mBQ tl)]⟩) (cS1 g (jE t w (by exact ht))) (fun hc1 => ?_) (fun hc1 => ?_)
 (try simp only [blS] at hc1)
 rw [hc] at hc1; cases hc1
 (try simp only [blS] at hc1)
 refine pY hG aY [] [] 0 .normal [(0,.box ⟨.raw (oB { (bM (aV Tryz.f19) [0,1,0,1,1,1,1,1,1,1,1] fn tm D) with state := .busy } .normal),some l⟩ []),(1,.box ⟨.c 35,some b2⟩ [.bx 5 0]),(2,.box ⟨.c 43,some b3⟩ [cI f,cI a,cS (S (aE ms))]),(3,.box ⟨.c 32,some b4⟩ [cN]),(4,.box ⟨.c 47,some b5⟩ [.mp 7]),(5,y17 a n),(6,mBQ em),(7,mBQ tl)] (by kernel_rfl) aB ?_ ?_;rfl;rfl
theorem tkStop (b2 b3 b4 b5 D l : Nat) (fn : FuncId) (tm : Array Value) (h2 : tm.getD 2 undef = .pointer (some ⟨b2,0,none⟩)) (h3 : tm.getD 3 undef = .pointer (some ⟨b3,0,none⟩)) (h4 : tm.getD 4 undef = .pointer (some ⟨b4,0,none⟩)) (h5 : tm.getD 5 undef = .pointer (some ⟨b5,0,none⟩)) (hn : tm.size = 124) (a n f : Int) (em ms tl : RS) (hem : RsOk n em) (t : List UInt8) (w : Bool) (ht : t.length <= 200000) (hc : (lkM (aW t w) tl).getD false = false) :
  eS Tryz.prog (Gl g) l [.c (cS (S t)),.c (cB w)] [(0,zK Tryz.f19 [0,1,0,1,1,1,1,1,1,1,1] fn tm D l),(1,.box ⟨.c 35,some b2⟩ [.bx 5 0]),(2,.box ⟨.c 43,some b3⟩ [cI f,cI a,cS (S (aE ms))]),(3,.box ⟨.c 32,some b4⟩ [cN]),(4,.box ⟨.c 47,some b5⟩ [.mp 7]),(5,y17 a n),(6,mBQ em),(7,mBQ tl)] (.c (cB false)) [(0,.box ⟨.raw (.loop { (bM (aV Tryz.f19) [0,1,0,1,1,1,1,1,1,1,1] fn tm D) with state := .done,pending := some .ret }),some l⟩ []),(1,.box ⟨.c 35,some b2⟩ [.bx 5 0]),(2,.box ⟨.c 43,some b3⟩ [cI f,cI a,cS (S (aE ms))]),(3,.box ⟨.c 32,some b4⟩ [.ar 100 0]),(4,.box ⟨.c 47,some b5⟩ [.mp 7]),(5,y17 a n),(6,mBQ em),(7,mBQ tl),(100,.arr 0 43 3 ([msD a (aE em) f] : LD))] := by
 refine hO (iL := 0) (p := 106) (p2 := 107) (env0 := [zX 2 1 0,zX 3 2 0,zX 4 3 0,zX 5 4 0]) (n := 124) (r := (bM (aV Tryz.f19) [0,1,0,1,1,1,1,1,1,1,1] fn tm D)) rfl (by kernel_rfl) hn (by decide) (by decide) (by decide) ⟨rfl,⟨_,_,_,rfl,rfl,h2⟩,⟨rfl,⟨_,_,_,rfl,rfl,h3⟩,⟨rfl,⟨_,_,_,rfl,rfl,h4⟩,⟨rfl,⟨_,_,_,rfl,rfl,h5⟩,trivial⟩⟩⟩⟩ fun fr hG => ?_;refine pZ hG aY [] (⟨[zX 2 1 0,zX 3 2 0,zX 4 3 0,zX 5 4 0,zS 14 (S t),zB 15 w],[(0,zK Tryz.f19 [0,1,0,1,1,1,1,1,1,1,1] fn tm D l),(1,.box ⟨.c 35,some b2⟩ [.bx 5 0]),(2,.box ⟨.c 43,some b3⟩ [cI f,cI a,cS (S (aE ms))]),(3,.box ⟨.c 32,some b4⟩ [cN]),(4,.box ⟨.c 47,some b5⟩ [.mp 7]),(5,y17 a n),(6,mBQ em),(7,mBQ tl)]⟩) 0 (r := (bM (aV Tryz.f19) [0,1,0,1,1,1,1,1,1,1,1] fn tm D)) (by kernel_rfl) aB rfl rfl ?_;refine jT hG (⟨[zX 2 1 0,zX 3 2 0,zX 4 3 0,zX 5 4 0,zS 14 (S t),zB 15 w],[(0,.box ⟨.raw (.loop { (bM (aV Tryz.f19) [0,1,0,1,1,1,1,1,1,1,1] fn tm D) with state := .busy }),some l⟩ []),(1,.box ⟨.c 35,some b2⟩ [.bx 5 0]),(2,.box ⟨.c 43,some b3⟩ [cI f,cI a,cS (S (aE ms))]),(3,.box ⟨.c 32,some b4⟩ [cN]),(4,.box ⟨.c 47,some b5⟩ [.mp 7]),(5,y17 a n),(6,mBQ em),(7,mBQ tl)]⟩) (by kernel_rfl) ?_;refine zC hG [(20,3,kS (S (aW t w)))] [1,0] (!((lkM (aW t w) tl).getD false)) (⟨[zX 2 1 0,zX 3 2 0,zX 4 3 0],[(0,.box ⟨.raw (.loop { (bM (aV Tryz.f19) [0,1,0,1,1,1,1,1,1,1,1] fn tm D) with state := .busy }),some l⟩ []),(1,.box ⟨.c 35,some b2⟩ [.bx 5 0]),(2,.box ⟨.c 43,some b3⟩ [cI f,cI a,cS (S (aE ms))]),(3,.box ⟨.c 32,some b4⟩ [cN]),(4,.box ⟨.c 47,some b5⟩ [.mp 7]),(5,y17 a n),(6,mBQ em),(7,mBQ tl)]⟩) (cS1 g (jE t w (by exact ht))) (fun hc1 => ?_) (fun hc1 => ?_)
 (try simp only [blS] at hc1)
 refine pY hG aY [(21,7,.callG (.c (cS (S (aE em)))) [5,6] ((99999,.box 0 []) :: [(0,y15 a n),(1,mBQ em)]))] [2209] 0 .ret [(0,.box ⟨.raw (oB { (bM (aV Tryz.f19) [0,1,0,1,1,1,1,1,1,1,1] fn tm D) with state := .busy } .ret),some l⟩ []),(3,.box ⟨.c 32,some b4⟩ [.ar 100 0]),(100,.arr 0 43 3 ([[.i a,.i f,.s (S (aE em))]] : LD)),(1,.box ⟨.c 35,some b2⟩ [.bx 5 0]),(2,.box ⟨.c 43,some b3⟩ [cI f,cI a,cS (S (aE ms))]),(4,.box ⟨.c 47,some b5⟩ [.mp 7]),(5,y17 a n),(6,mBQ em),(7,mBQ tl)] (by kernel_rfl) (aA (And.intro (And.intro (rfl : (some (y17 a n) : Option Ob) = some (y17 a n)) (And.intro (rfl : (some (mBQ em) : Option Ob) = some (mBQ em)) trivial)) (rfl : true = true)) (cS1 g (cK a n em (by exact hem)))) ?_ ?_;rfl;funext i; simp only [aF,upd]; (repeat' split) <;> first | rfl | (exfalso; omega)
 (try simp only [blS] at hc1)
 rw [hc] at hc1; cases hc1
abbrev y20 (a0 : Int) (a1 : Int) : Ob := .box 73 [cI a0,cI a1,.mp 7]
theorem tkItA (b0 b6 b7 b8 : Nat) (b2 b3 b4 b5 D l : Nat) (fn : FuncId) (tm : Array Value) (h2 : tm.getD 2 undef = .pointer (some ⟨b2,0,none⟩)) (h3 : tm.getD 3 undef = .pointer (some ⟨b3,0,none⟩)) (h4 : tm.getD 4 undef = .pointer (some ⟨b4,0,none⟩)) (h5 : tm.getD 5 undef = .pointer (some ⟨b5,0,none⟩)) (hn : tm.size = 124) (a n f : Int) (em ms tl : RS) (hem : RsOk n em) (hq2 : ∀ k,k < em.length -> (lkM (aW ((em.map (·.1)).getD k []) ((lkM ((em.map (·.1)).getD k []) em).getD false)) tl).getD false = true) :
  SpG g 58 [.c (.d (.v (.func (.yield l) #[] #[]))),.c (.bx 0 0)] [(0,.box ⟨.c 35,some b0⟩ [.bx 6 0]),(1,zK Tryz.f19 [0,1,0,1,1,1,1,1,1,1,1] fn tm D l),(2,.box ⟨.c 35,some b2⟩ [.bx 6 0]),(3,.box ⟨.c 43,some b3⟩ [cI f,cI a,cS (S (aE ms))]),(4,.box ⟨.c 32,some b4⟩ [cN]),(5,.box ⟨.c 47,some b5⟩ [.mp 8]),(6,.box ⟨.c 73,some b6⟩ [cI a,cI n,.mp 7]),(7,.box ⟨.mpb em,some b7⟩ []),(8,.box ⟨.mpb tl,some b8⟩ [])] (.tup []) [(0,.box ⟨.c 35,some b0⟩ [.bx 6 0]),(1,zK Tryz.f19 [0,1,0,1,1,1,1,1,1,1,1] fn tm D l),(2,.box ⟨.c 35,some b2⟩ [.bx 6 0]),(3,.box ⟨.c 43,some b3⟩ [cI f,cI a,cS (S (aE ms))]),(4,.box ⟨.c 32,some b4⟩ [cN]),(5,.box ⟨.c 47,some b5⟩ [.mp 8]),(6,y20 a n),(7,mBQ em),(8,mBQ tl)] := by
 have hle := hem.len;have hsl : (strs (em.map (·.1))).length = em.length := by rw [strs,lm,lm]
 refine aP 27 Tryz.func58 fun fr hG => ?_;refine jJ [6,7,8] (⟨[(0,[],.c (.d (.v (.func (.yield l) #[] #[])))),zX 1 0 0],[(0,.box ⟨.c 35,some b0⟩ [.bx 6 0]),(1,zK Tryz.f19 [0,1,0,1,1,1,1,1,1,1,1] fn tm D l),(2,.box ⟨.c 35,some b2⟩ [.bx 6 0]),(3,.box ⟨.c 43,some b3⟩ [cI f,cI a,cS (S (aE ms))]),(4,.box ⟨.c 32,some b4⟩ [cN]),(5,.box ⟨.c 47,some b5⟩ [.mp 8]),(6,y20 a n),(7,mBQ em),(8,mBQ tl)]⟩) (by kernel_rfl) ?_;refine zL hG [(0,4,.callG (.c (.fn 113 [] [(100,0)])) [7] [(0,mBQ em),(100,.box 47 [.mp 0])]),(0,5,.callG (.c (cM 1 (strs (em.map (·.1))))) [104,7] [(0,.box 47 [.mp 1]),(1,mBQ em)])] [0,1] (fun (zz : Nat) => match zz with | k => (em.length - k,⟨[(0,[],.c (.d (.v (.func (.yield l) #[] #[])))),zX 1 0 0,zM 10 1 (strs (em.map (·.1))),zI 11 ((strs (em.map (·.1))).length : Int),zI 12 (k : Int)],[(0,.box ⟨.c 35,some b0⟩ [.bx 6 0]),(1,zK Tryz.f19 [0,1,0,1,1,1,1,1,1,1,1] fn tm D l),(2,.box ⟨.c 35,some b2⟩ [.bx 6 0]),(3,.box ⟨.c 43,some b3⟩ [cI f,cI a,cS (S (aE ms))]),(4,.box ⟨.c 32,some b4⟩ [cN]),(5,.box ⟨.c 47,some b5⟩ [.mp 8]),(6,y20 a n),(7,mBQ em),(8,mBQ tl)]⟩,k <= em.length)) 0 (cS2 g (lA em) (cS1 g (dS em (by exact hem.sort) (by have := hem.len; omega) (by intro x hx; have := hem.tlen hx; omega)))) ?_ ?_
 ·exact zl _
 rintro k hk;refine zc hG [] [0,1] (decide ((k : Int) < ((strs (em.map (·.1))).length : Int))) aB (fun hc2 => ?_) (fun hc2 => ?_)
 ·(try simp only [qM] at hc2)
  refine zc hG [(2,0,.elem (d9 ((em.map (·.1)).getD k []))),(3,8,.callG (.c (cB true)) [1,2,3,4,5,6,7,8] [(0,zK Tryz.f19 [0,1,0,1,1,1,1,1,1,1,1] fn tm D l),(1,.box ⟨.c 35,some b2⟩ [.bx 5 0]),(2,.box ⟨.c 43,some b3⟩ [cI f,cI a,cS (S (aE ms))]),(3,.box ⟨.c 32,some b4⟩ [cN]),(4,.box ⟨.c 47,some b5⟩ [.mp 7]),(5,y17 a n),(6,mBQ em),(7,mBQ tl)])] [1,1,0,0,1,1] false (aA (by intros; exact cE (f := d9) [] (by omega) (by (try simp only [zq4] at *); omega) : (0 : Int) <= (k : Int) /\ (strs (em.map (·.1)))[k]? = some (d9 ((em.map (·.1)).getD k []))) (aC (tkGo b2 b3 b4 b5 D l fn tm h2 h3 h4 h5 hn a n f em ms tl hem ((em.map (·.1)).getD k []) ((lkM ((em.map (·.1)).getD k []) em).getD false) (nQ hem (by omega)) (hq2 k (by omega)) : eS Tryz.prog (Gl g) _ _ _ _ _))) (fun hc3 => absurd hc3 (by decide)) (fun _ => ?_)
  refine zD hG [] (k + 1) (aC (by intros; (try simp only [aLB] at *); omega : inR ((k : Int) + 1))) ?_ ?_
  ·(try dsimp only); omega
  ·show k + 1 <= em.length; omega
 ·(try simp only [qM] at hc2)
  refine zE hG [] (.exit 0) (⟨[],[(0,.box ⟨.c 35,some b0⟩ [.bx 6 0]),(1,zK Tryz.f19 [0,1,0,1,1,1,1,1,1,1,1] fn tm D l),(2,.box ⟨.c 35,some b2⟩ [.bx 6 0]),(3,.box ⟨.c 43,some b3⟩ [cI f,cI a,cS (S (aE ms))]),(4,.box ⟨.c 32,some b4⟩ [cN]),(5,.box ⟨.c 47,some b5⟩ [.mp 8]),(6,y20 a n),(7,mBQ em),(8,mBQ tl)]⟩) aB rfl ?_;refine bJ hG aY [] [] (.tup []) [(0,.box ⟨.c 35,some b0⟩ [.bx 6 0]),(1,zK Tryz.f19 [0,1,0,1,1,1,1,1,1,1,1] fn tm D l),(2,.box ⟨.c 35,some b2⟩ [.bx 6 0]),(3,.box ⟨.c 43,some b3⟩ [cI f,cI a,cS (S (aE ms))]),(4,.box ⟨.c 32,some b4⟩ [cN]),(5,.box ⟨.c 47,some b5⟩ [.mp 8]),(6,y20 a n),(7,mBQ em),(8,mBQ tl)] (by kernel_rfl) aB ?_ ?_
  ·rfl
  ·first | rfl | (funext i; simp only [aF,upd]; ((repeat' split) <;> first | rfl | (exfalso; omega)))
theorem tkItB (b0 b6 b7 b8 : Nat) (b2 b3 b4 b5 D l : Nat) (fn : FuncId) (tm : Array Value) (h2 : tm.getD 2 undef = .pointer (some ⟨b2,0,none⟩)) (h3 : tm.getD 3 undef = .pointer (some ⟨b3,0,none⟩)) (h4 : tm.getD 4 undef = .pointer (some ⟨b4,0,none⟩)) (h5 : tm.getD 5 undef = .pointer (some ⟨b5,0,none⟩)) (hn : tm.size = 124) (a n f : Int) (em ms tl : RS) (hem : RsOk n em) (q : Nat) (hq1 : q < em.length) (hq2 : ∀ k,k < q -> (lkM (aW ((em.map (·.1)).getD k []) ((lkM ((em.map (·.1)).getD k []) em).getD false)) tl).getD false = true) (hq3 : (lkM (aW ((em.map (·.1)).getD q []) ((lkM ((em.map (·.1)).getD q []) em).getD false)) tl).getD false = false) :
  SpG g 58 [.c (.d (.v (.func (.yield l) #[] #[]))),.c (.bx 0 0)] [(0,.box ⟨.c 35,some b0⟩ [.bx 6 0]),(1,zK Tryz.f19 [0,1,0,1,1,1,1,1,1,1,1] fn tm D l),(2,.box ⟨.c 35,some b2⟩ [.bx 6 0]),(3,.box ⟨.c 43,some b3⟩ [cI f,cI a,cS (S (aE ms))]),(4,.box ⟨.c 32,some b4⟩ [cN]),(5,.box ⟨.c 47,some b5⟩ [.mp 8]),(6,.box ⟨.c 73,some b6⟩ [cI a,cI n,.mp 7]),(7,.box ⟨.mpb em,some b7⟩ []),(8,.box ⟨.mpb tl,some b8⟩ [])] (.tup []) [(0,.box ⟨.c 35,some b0⟩ [.bx 6 0]),(1,.box ⟨.raw (.loop { (bM (aV Tryz.f19) [0,1,0,1,1,1,1,1,1,1,1] fn tm D) with state := .done,pending := some .ret }),some l⟩ []),(2,.box ⟨.c 35,some b2⟩ [.bx 6 0]),(3,.box ⟨.c 43,some b3⟩ [cI f,cI a,cS (S (aE ms))]),(4,.box ⟨.c 32,some b4⟩ [.ar 100 0]),(5,.box ⟨.c 47,some b5⟩ [.mp 8]),(6,y20 a n),(7,mBQ em),(8,mBQ tl),(100,.arr 0 43 3 ([msD a (aE em) f] : LD))] := by
 have hle := hem.len;have hsl : (strs (em.map (·.1))).length = em.length := by rw [strs,lm,lm]
 refine aP 27 Tryz.func58 fun fr hG => ?_;refine jJ [6,7,8] (⟨[(0,[],.c (.d (.v (.func (.yield l) #[] #[])))),zX 1 0 0],[(0,.box ⟨.c 35,some b0⟩ [.bx 6 0]),(1,zK Tryz.f19 [0,1,0,1,1,1,1,1,1,1,1] fn tm D l),(2,.box ⟨.c 35,some b2⟩ [.bx 6 0]),(3,.box ⟨.c 43,some b3⟩ [cI f,cI a,cS (S (aE ms))]),(4,.box ⟨.c 32,some b4⟩ [cN]),(5,.box ⟨.c 47,some b5⟩ [.mp 8]),(6,y20 a n),(7,mBQ em),(8,mBQ tl)]⟩) (by kernel_rfl) ?_;refine zL hG [(0,4,.callG (.c (.fn 113 [] [(100,0)])) [7] [(0,mBQ em),(100,.box 47 [.mp 0])]),(0,5,.callG (.c (cM 1 (strs (em.map (·.1))))) [104,7] [(0,.box 47 [.mp 1]),(1,mBQ em)])] [0,1] (fun (zz : Nat) => match zz with | k => (q - k,⟨[(0,[],.c (.d (.v (.func (.yield l) #[] #[])))),zX 1 0 0,zM 10 1 (strs (em.map (·.1))),zI 11 ((strs (em.map (·.1))).length : Int),zI 12 (k : Int)],[(0,.box ⟨.c 35,some b0⟩ [.bx 6 0]),(1,zK Tryz.f19 [0,1,0,1,1,1,1,1,1,1,1] fn tm D l),(2,.box ⟨.c 35,some b2⟩ [.bx 6 0]),(3,.box ⟨.c 43,some b3⟩ [cI f,cI a,cS (S (aE ms))]),(4,.box ⟨.c 32,some b4⟩ [cN]),(5,.box ⟨.c 47,some b5⟩ [.mp 8]),(6,y20 a n),(7,mBQ em),(8,mBQ tl)]⟩,k <= q)) 0 (cS2 g (lA em) (cS1 g (dS em (by exact hem.sort) (by have := hem.len; omega) (by intro x hx; have := hem.tlen hx; omega)))) ?_ ?_
 ·exact zl _
 rintro k hk;refine zc hG [] [0,1] (decide ((k : Int) < ((strs (em.map (·.1))).length : Int))) aB (fun hc2 => ?_) (fun hc2 => ?_)
 ·(try simp only [qM] at hc2)
  rcases (by omega : k < q \/ k = q) with hkq | hkq
  ·skip
   refine zc hG [(2,0,.elem (d9 ((em.map (·.1)).getD k []))),(3,8,.callG (.c (cB true)) [1,2,3,4,5,6,7,8] [(0,zK Tryz.f19 [0,1,0,1,1,1,1,1,1,1,1] fn tm D l),(1,.box ⟨.c 35,some b2⟩ [.bx 5 0]),(2,.box ⟨.c 43,some b3⟩ [cI f,cI a,cS (S (aE ms))]),(3,.box ⟨.c 32,some b4⟩ [cN]),(4,.box ⟨.c 47,some b5⟩ [.mp 7]),(5,y17 a n),(6,mBQ em),(7,mBQ tl)])] [1,1,0,0,1,1] false (aA (by intros; exact cE (f := d9) [] (by omega) (by (try simp only [zq4] at *); omega) : (0 : Int) <= (k : Int) /\ (strs (em.map (·.1)))[k]? = some (d9 ((em.map (·.1)).getD k []))) (aC (tkGo b2 b3 b4 b5 D l fn tm h2 h3 h4 h5 hn a n f em ms tl hem ((em.map (·.1)).getD k []) ((lkM ((em.map (·.1)).getD k []) em).getD false) (nQ hem (by omega)) (hq2 k (by omega)) : eS Tryz.prog (Gl g) _ _ _ _ _))) (fun hc3 => absurd hc3 (by decide)) (fun _ => ?_)
   refine zD hG [] (k + 1) (aC (by intros; (try simp only [aLB] at *); omega : inR ((k : Int) + 1))) ?_ ?_
   ·(try dsimp only); omega
   ·show k + 1 <= q; omega
  ·skip
   refine zC hG [(2,0,.elem (d9 ((em.map (·.1)).getD k []))),(3,8,.callG (.c (cB false)) [1,2,3,4,5,6,7,8] [(0,.box ⟨.raw (.loop { (bM (aV Tryz.f19) [0,1,0,1,1,1,1,1,1,1,1] fn tm D) with state := .done,pending := some .ret }),some l⟩ []),(1,.box ⟨.c 35,some b2⟩ [.bx 5 0]),(2,.box ⟨.c 43,some b3⟩ [cI f,cI a,cS (S (aE ms))]),(3,.box ⟨.c 32,some b4⟩ [.ar 100 0]),(4,.box ⟨.c 47,some b5⟩ [.mp 7]),(5,y17 a n),(6,mBQ em),(7,mBQ tl),(100,.arr 0 43 3 ([msD a (aE em) f] : LD))])] [1,1,0,0,1,1] true (⟨[(0,[],.c (.d (.v (.func (.yield l) #[] #[])))),zX 1 0 0,zM 10 1 (strs (em.map (·.1))),zI 11 ((strs (em.map (·.1))).length : Int),zI 12 (k : Int)],[(0,.box ⟨.c 35,some b0⟩ [.bx 6 0]),(1,.box ⟨.raw (.loop { (bM (aV Tryz.f19) [0,1,0,1,1,1,1,1,1,1,1] fn tm D) with state := .done,pending := some .ret }),some l⟩ []),(2,.box ⟨.c 35,some b2⟩ [.bx 6 0]),(3,.box ⟨.c 43,some b3⟩ [cI f,cI a,cS (S (aE ms))]),(4,.box ⟨.c 32,some b4⟩ [.ar 408 0]),(5,.box ⟨.c 47,some b5⟩ [.mp 8]),(6,y20 a n),(7,mBQ em),(8,mBQ tl),(408,.arr 0 43 3 ([msD a (aE em) f] : LD))]⟩) (aA (by intros; exact cE (f := d9) [] (by omega) (by (try simp only [zq4] at *); omega) : (0 : Int) <= (k : Int) /\ (strs (em.map (·.1)))[k]? = some (d9 ((em.map (·.1)).getD k []))) (aC (tkStop b2 b3 b4 b5 D l fn tm h2 h3 h4 h5 hn a n f em ms tl hem ((em.map (·.1)).getD k []) ((lkM ((em.map (·.1)).getD k []) em).getD false) (nQ hem (by omega)) (hkq ▸ hq3) : eS Tryz.prog (Gl g) _ _ _ _ _))) (fun _ => ?_) (fun hc4 => absurd hc4 (by decide))
   refine zE hG [] .ret (⟨[],[(0,.box ⟨.c 35,some b0⟩ [.bx 6 0]),(1,.box ⟨.raw (.loop { (bM (aV Tryz.f19) [0,1,0,1,1,1,1,1,1,1,1] fn tm D) with state := .done,pending := some .ret }),some l⟩ []),(2,.box ⟨.c 35,some b2⟩ [.bx 6 0]),(3,.box ⟨.c 43,some b3⟩ [cI f,cI a,cS (S (aE ms))]),(4,.box ⟨.c 32,some b4⟩ [.ar 408 0]),(5,.box ⟨.c 47,some b5⟩ [.mp 8]),(6,y20 a n),(7,mBQ em),(8,mBQ tl),(408,.arr 0 43 3 ([msD a (aE em) f] : LD))]⟩) aB rfl ?_;refine bJ hG aY [] [408] (.tup []) [(0,.box ⟨.c 35,some b0⟩ [.bx 6 0]),(1,.box ⟨.raw (.loop { (bM (aV Tryz.f19) [0,1,0,1,1,1,1,1,1,1,1] fn tm D) with state := .done,pending := some .ret }),some l⟩ []),(2,.box ⟨.c 35,some b2⟩ [.bx 6 0]),(3,.box ⟨.c 43,some b3⟩ [cI f,cI a,cS (S (aE ms))]),(4,.box ⟨.c 32,some b4⟩ [.ar 100 0]),(5,.box ⟨.c 47,some b5⟩ [.mp 8]),(6,y20 a n),(7,mBQ em),(8,mBQ tl),(100,.arr 0 43 3 ([msD a (aE em) f] : LD))] (by kernel_rfl) aB ?_ ?_
   ·rfl
   ·first | rfl | (funext i; simp only [aF,upd]; ((repeat' split) <;> first | rfl | (exfalso; omega)))
 ·(try simp only [qM] at hc2)
  exfalso; omega
abbrev y21 (a0 : Int) (a1 : Int) (a2 : ByteArray) : SV := .agg [cI a0,cI a1,cS a2]
abbrev y22 (a0 : Int) (a1 : Int) (a2 : ByteArray) : Ob := .box 43 [cI a0,cI a1,cS a2]
abbrev e2z (a0 : Int) (a1 : Int) (a2 : List (List UInt8 × Bool)) (a3 : Int) (a4 : ByteArray) (a5 : List (List UInt8 × Bool)) : aZ := [(0,y15 a0 a1),(1,mBQ a2),(100,.box 35 [.bx 0 0]),(101,y22 a3 a0 a4),(102,.box 32 [cN]),(400,mBQ a5),(401,.box 47 [.mp 400])]
abbrev e3z : bR := [zX 2 100 0,zX 3 101 0,zX 4 102 0,zX 5 401 0]
abbrev e5z : bR := [(6,[],.c (.mp 500)),zX 7 607 0,(8,[],.c (.fn 39 [(607,0)] []))]
theorem vA (a n f : Int) (es ms : RS) (hes : RsOk n es) (hms : RsOk n ms) (hl : es.length + ms.length <= 4000) (hf1 : 1 <= f) (hf2 : f <= n) (hfa : ¬ f = a) (hmo : eO es ms = false) :
  SpG g 19 [.c (.bx 0 0),y21 f a (S (aE ms))] [(0,y15 a n),(1,mBQ es)] (.c cN) [(0,y15 a n),(1,mBQ (jnV es ms))] := by
 refine tS 124 Tryz.func19 (by kernel_rfl) fun fr hG => ?_;refine zC hG [(1,1,.callG (.c (cB false)) [0,1] [(0,y15 a n),(1,mBQ es)])] [1,0,1] ((((!decide ((a : Int) = a)) || (decide ((f : Int) = a))) || (decide ((f : Int) < 1))) || (decide ((f : Int) > n))) (⟨[zX 2 100 0,zX 3 101 0,zX 4 102 0],e4z a n es ++ [(100,.box 35 [.bx 0 0]),(101,y22 f a (S (aE ms))),(102,.box 32 [cN])]⟩) (cS1 g (fG a n es)) (fun hc1 => ?_) (fun hc1 => ?_)
 ·(try simp only [zq8] at hc1)
  exfalso; simp at hc1; omega
 ·(try simp only [zq8] at hc1)
  refine zL hG [(3,0,.mask []),(4,0,.mask [])] [0,0,1,1,1,1,1,1] (fun (zz : Nat × RS × RS) => match zz with | (k,tl,fd) => (ms.length - k,⟨e3z ++ e5z,e2z a n es f (S (aE ms)) tl ++ [(500,mBQ fd),(607,y18 (S (aE (ms.drop k))) n)]⟩,k <= ms.length /\ aDM ms k tl /\ fd = ms.take k)) (0,[],[]) aB ?_ ?_
  ·exact ⟨zl _,fun s => by simp [lkM],rfl⟩
  rintro ⟨k,tl,fd⟩ ⟨hk,htl,hfd⟩;refine zc hG [] [1,0] (!((S (aE (ms.drop k))).toList == (S []).toList)) aB (fun hc3 => ?_) (fun hc3 => ?_)
  ·(try simp only [zq8] at hc3)
   have hkm : k < ms.length := by
    rcases Nat.lt_or_ge k ms.length with h | h
    ·exact h
    ·exact absurd (enc_ne.2 (List.drop_eq_nil_of_le h)) hc3
   refine zC hG [(8,1,.call (y19 (S (ms.getD k ([],false)).1) ((ms.getD k ([],false)).2)) [] [[.s (S (aE (ms.drop (k + 1)))),.i n]])] [1,0,1,0,1] false (⟨e3z ++ e5z ++ [zS 9 (S (ms.getD k ([],false)).1),zB 10 ((ms.getD k ([],false)).2)],e2z a n es f (S (aE ms)) tl ++ [(500,mBQ fd),(607,y18 (S (aE (ms.drop (k + 1)))) n)]⟩) (cS1 g (aG8 hms hkm)) (fun hc4 => absurd hc4 (by decide)) (fun _ => ?_);refine zD hG [(11,3,kS (S (aW ((ms.getD k ([],false)).1) ((ms.getD k ([],false)).2))))] (k + 1,cG ltS (aW ((ms.getD k ([],false)).1) ((ms.getD k ([],false)).2)) true tl,cG ltS ((ms.getD k ([],false)).1) (((lkM ((ms.getD k ([],false)).1) fd).getD false) || ((ms.getD k ([],false)).2)) fd) (cS1 g (jE ((ms.getD k ([],false)).1) ((ms.getD k ([],false)).2) (by exact hms.tlen (bF hkm)))) ?_ ?_
   ·(try dsimp only); omega
   ·exact aGK hms hkm htl hfd
  ·(try simp only [zq8] at hc3)
   have hkm : k = ms.length := by
    have h0 := enc_ne.1 hc3;have := congrArg List.length h0;rw [List.length_drop,ln] at this; omega
   subst hkm;rw [List.take_length] at hfd;refine zE hG [] (.exit 0) (⟨e3z ++ [(6,[],.c (.mp 500))],e2z a n es f (S (aE ms)) tl ++ [(500,mBQ fd)]⟩) aB rfl ?_;refine aNK (i := 500) rfl fun ents clock hM => ?_;refine zL hG [] [0,1,0,1,1,1,1,1,1,1] (fun (zz : RS × Array Nat × RS) => match zz with | (vis,seen,em) => (fd.length - vis.length,⟨e3z ++ [zX 84 1401 0],e2z a n em f (S (aE ms)) tl ++ [(500,.box ⟨.raw (.map ents clock),none⟩ []),(1401,.box ⟨.itr clock seen clock,none⟩ [.mp 500])]⟩,RngB ents vis seen /\ em = jnV es vis /\ vis.length <= fd.length)) ([],#[],es) aB ?_ ?_
   ·exact ⟨RngB.nil ents,rfl,zl _⟩
   rintro ⟨vis,seen,em⟩ ⟨hrg,hem,hvl⟩;refine iF aY 1 (pos' := [0]) (by kernel_rfl) ?_;refine aNR (it := 84) (nx := 85) (more := 86) (i := 500) (j := 1401) (ents := ents) (clock := clock) (by kernel_rfl) (by kernel_rfl) (by kernel_rfl) (by kernel_rfl) rfl rfl (fun x hx => hM.lt x hx) (lr _) (fun hall => ?_) (fun ev hev hnew => ?_)
   ·have hful := RngB.full hM hrg hall
    have hemj : em = jnV es ms := by rw [hem]; exact hfd ▸ aHK hes.sort (hfd ▸ hms.sort) hful
    have hemr : RsOk n em := by rw [hemj]; exact aOD hes hms hl
    refine aML (i := 500) (q := none) (cells := []) (ents := ents) (clock := clock) (es := fd) rfl hM ?_;refine zC hG [] [0,1] false (⟨e3z ++ [zX 84 1401 0],e2z a n em f (S (aE ms)) tl ++ [(500,mBQ fd),(1401,.box ⟨.itr clock seen clock,none⟩ [.mp 500])]⟩) aB (fun hc6 => absurd hc6 (by decide)) (fun _ => ?_);refine zE hG [] (.exit 2) (⟨e3z,e2z a n em f (S (aE ms)) tl⟩) aB rfl ?_;refine g8 hG aY [(17,1,.callG (.c (.fn 58 [] [(100,0)])) [0,1] [(0,y15 a n),(1,mBQ em),(100,.box 35 [.bx 0 0])])] [0,1,0,1,1,1,1,1,1,1,1] (⟨e3z ++ [(105,[],.c (.fn 58 [] [(1801,0)]))],e2z a n em f (S (aE ms)) tl ++ [(1801,.box 35 [.bx 0 0])]⟩) _ (by kernel_rfl) (cS1 g (gT a n em)) ?_;refine sR (g := 105) (ps := rgP (aV Tryz.f19) [0,1,0,1,1,1,1,1,1,1,1]) (assign := rgA (aV Tryz.f19) [0,1,0,1,1,1,1,1,1,1,1]) (body := rgB (aV Tryz.f19) [0,1,0,1,1,1,1,1,1,1,1]) hG (by kernel_rfl) 9900 9901 9910 (by kernel_rfl) rfl (by kernel_rfl) fun b D l fn tm hT hn => ?_;refine ⟨.tup [],[1801,9901,100,101,102,401,0,1,400],[(0,.box ⟨.c 35,some (b 1801)⟩ [.bx 6 0]),(1,zK Tryz.f19 [0,1,0,1,1,1,1,1,1,1,1] fn tm D l),(2,.box ⟨.c 35,some (b 100)⟩ [.bx 6 0]),(3,.box ⟨.c 43,some (b 101)⟩ [cI f,cI a,cS (S (aE ms))]),(4,.box ⟨.c 32,some (b 102)⟩ [cN]),(5,.box ⟨.c 47,some (b 401)⟩ [.mp 8]),(6,y20 a n),(7,mBQ em),(8,mBQ tl)],none,⟨[zX 4 102 0],e4z a n em ++ [(102,.box ⟨.c 32,some (b 102)⟩ [cN]),(9900,.box ⟨.raw (.deferred (some [])),some D⟩ [])]⟩,_,.normal,by kernel_rfl,cS1 g (tkItA (b 1801) (b 0) (b 1) (b 400) (b 100) (b 101) (b 102) (b 401) D l fn tm (hT.bx 2 100 0 rfl) (hT.bx 3 101 0 rfl) (hT.bx 4 102 0 rfl) (hT.bx 5 401 0 rfl) hn a n f em ms tl hemr (aLS (n := n) hemj htl hemr.sort hmo)),rfl,?_⟩;have hG0 := hG
    replace hG := gH (D := D) hG
    refine jJ [0,1,102] (⟨[zX 4 102 0],e4z a n em ++ [(102,.box 32 [cN]),(9900,.box ⟨.raw (.deferred (some [])),some D⟩ [])]⟩) (by kernel_rfl) ?_;refine oV hG0 aY [] [] 9900 (.c cN) [(0,y15 a n),(1,mBQ em)] (by kernel_rfl) aB ?_ ?_
    ·rfl
    ·rw [<- hemj]
     all_goals (first | rfl | (funext i; simp only [aF,upd]; ((repeat' split) <;> first | rfl | (exfalso; omega))))
   ·obtain ⟨ek,eb,hek,hev2,hin,hrg2,hln2,hent⟩ := RngB.step hM hrg hev hnew
    refine zC hG [] [0,1] true (⟨e3z ++ [zX 84 1401 0],e2z a n em f (S (aE ms)) tl ++ [(500,.box ⟨.raw (.map ents clock),none⟩ []),(1401,.box ⟨.itr clock (seen.push ev.born) clock,none⟩ [.mp 500])]⟩) aB (fun _ => ?_) (fun hc7 => absurd hc7 (by decide));refine zD hG [(15,0,.elem [.v (.string (S ek)),.v (.bool eb)])] (vis ++ [(ek,eb)],seen.push ev.born,cG ltS ek (((lkM ek em).getD false) || eb) em) (aC hent) ?_ ?_
    ·(try dsimp only); rw [la,lc,ln] at *; omega
    ·exact ⟨hrg2,by rw [zT,hem],hln2⟩
theorem u9 (a n f : Int) (es ms : RS) (hes : RsOk n es) (hms : RsOk n ms) (hl : es.length + ms.length <= 4000) (hf1 : 1 <= f) (hf2 : f <= n) (hfa : ¬ f = a) (hmo : eO es ms = true) :
  SpG g 19 [.c (.bx 0 0),y21 f a (S (aE ms))] [(0,y15 a n),(1,mBQ es)] (.c (cM 3 ([msD a (aE (jnV es ms)) f] : LD))) [(0,y15 a n),(1,mBQ (jnV es ms))] := by
 refine tS 124 Tryz.func19 (by kernel_rfl) fun fr hG => ?_;refine zC hG [(1,1,.callG (.c (cB false)) [0,1] [(0,y15 a n),(1,mBQ es)])] [1,0,1] ((((!decide ((a : Int) = a)) || (decide ((f : Int) = a))) || (decide ((f : Int) < 1))) || (decide ((f : Int) > n))) (⟨[zX 2 100 0,zX 3 101 0,zX 4 102 0],e4z a n es ++ [(100,.box 35 [.bx 0 0]),(101,y22 f a (S (aE ms))),(102,.box 32 [cN])]⟩) (cS1 g (fG a n es)) (fun hc1 => ?_) (fun hc1 => ?_)
 ·(try simp only [zq8] at hc1)
  exfalso; simp at hc1; omega
 ·(try simp only [zq8] at hc1)
  refine zL hG [(3,0,.mask []),(4,0,.mask [])] [0,0,1,1,1,1,1,1] (fun (zz : Nat × RS × RS) => match zz with | (k,tl,fd) => (ms.length - k,⟨e3z ++ e5z,e2z a n es f (S (aE ms)) tl ++ [(500,mBQ fd),(607,y18 (S (aE (ms.drop k))) n)]⟩,k <= ms.length /\ aDM ms k tl /\ fd = ms.take k)) (0,[],[]) aB ?_ ?_
  ·exact ⟨zl _,fun s => by simp [lkM],rfl⟩
  rintro ⟨k,tl,fd⟩ ⟨hk,htl,hfd⟩;refine zc hG [] [1,0] (!((S (aE (ms.drop k))).toList == (S []).toList)) aB (fun hc3 => ?_) (fun hc3 => ?_)
  ·(try simp only [zq8] at hc3)
   have hkm : k < ms.length := by
    rcases Nat.lt_or_ge k ms.length with h | h
    ·exact h
    ·exact absurd (enc_ne.2 (List.drop_eq_nil_of_le h)) hc3
   refine zC hG [(8,1,.call (y19 (S (ms.getD k ([],false)).1) ((ms.getD k ([],false)).2)) [] [[.s (S (aE (ms.drop (k + 1)))),.i n]])] [1,0,1,0,1] false (⟨e3z ++ e5z ++ [zS 9 (S (ms.getD k ([],false)).1),zB 10 ((ms.getD k ([],false)).2)],e2z a n es f (S (aE ms)) tl ++ [(500,mBQ fd),(607,y18 (S (aE (ms.drop (k + 1)))) n)]⟩) (cS1 g (aG8 hms hkm)) (fun hc4 => absurd hc4 (by decide)) (fun _ => ?_);refine zD hG [(11,3,kS (S (aW ((ms.getD k ([],false)).1) ((ms.getD k ([],false)).2))))] (k + 1,cG ltS (aW ((ms.getD k ([],false)).1) ((ms.getD k ([],false)).2)) true tl,cG ltS ((ms.getD k ([],false)).1) (((lkM ((ms.getD k ([],false)).1) fd).getD false) || ((ms.getD k ([],false)).2)) fd) (cS1 g (jE ((ms.getD k ([],false)).1) ((ms.getD k ([],false)).2) (by exact hms.tlen (bF hkm)))) ?_ ?_
   ·(try dsimp only); omega
   ·exact aGK hms hkm htl hfd
  ·(try simp only [zq8] at hc3)
   have hkm : k = ms.length := by
    have h0 := enc_ne.1 hc3;have := congrArg List.length h0;rw [List.length_drop,ln] at this; omega
   subst hkm;rw [List.take_length] at hfd;refine zE hG [] (.exit 0) (⟨e3z ++ [(6,[],.c (.mp 500))],e2z a n es f (S (aE ms)) tl ++ [(500,mBQ fd)]⟩) aB rfl ?_;refine aNK (i := 500) rfl fun ents clock hM => ?_;refine zL hG [] [0,1,0,1,1,1,1,1,1,1] (fun (zz : RS × Array Nat × RS) => match zz with | (vis,seen,em) => (fd.length - vis.length,⟨e3z ++ [zX 84 1401 0],e2z a n em f (S (aE ms)) tl ++ [(500,.box ⟨.raw (.map ents clock),none⟩ []),(1401,.box ⟨.itr clock seen clock,none⟩ [.mp 500])]⟩,RngB ents vis seen /\ em = jnV es vis /\ vis.length <= fd.length)) ([],#[],es) aB ?_ ?_
   ·exact ⟨RngB.nil ents,rfl,zl _⟩
   rintro ⟨vis,seen,em⟩ ⟨hrg,hem,hvl⟩;refine iF aY 1 (pos' := [0]) (by kernel_rfl) ?_;refine aNR (it := 84) (nx := 85) (more := 86) (i := 500) (j := 1401) (ents := ents) (clock := clock) (by kernel_rfl) (by kernel_rfl) (by kernel_rfl) (by kernel_rfl) rfl rfl (fun x hx => hM.lt x hx) (lr _) (fun hall => ?_) (fun ev hev hnew => ?_)
   ·have hful := RngB.full hM hrg hall
    have hemj : em = jnV es ms := by rw [hem]; exact hfd ▸ aHK hes.sort (hfd ▸ hms.sort) hful
    have hemr : RsOk n em := by rw [hemj]; exact aOD hes hms hl
    obtain ⟨q,hq1,hq2,hq3⟩ := aLR (n := n) hemj htl hemr.sort hmo;refine aML (i := 500) (q := none) (cells := []) (ents := ents) (clock := clock) (es := fd) rfl hM ?_;refine zC hG [] [0,1] false (⟨e3z ++ [zX 84 1401 0],e2z a n em f (S (aE ms)) tl ++ [(500,mBQ fd),(1401,.box ⟨.itr clock seen clock,none⟩ [.mp 500])]⟩) aB (fun hc6 => absurd hc6 (by decide)) (fun _ => ?_);refine zE hG [] (.exit 2) (⟨e3z,e2z a n em f (S (aE ms)) tl⟩) aB rfl ?_;refine g8 hG aY [(17,1,.callG (.c (.fn 58 [] [(100,0)])) [0,1] [(0,y15 a n),(1,mBQ em),(100,.box 35 [.bx 0 0])])] [0,1,0,1,1,1,1,1,1,1,1] (⟨e3z ++ [(105,[],.c (.fn 58 [] [(1801,0)]))],e2z a n em f (S (aE ms)) tl ++ [(1801,.box 35 [.bx 0 0])]⟩) _ (by kernel_rfl) (cS1 g (gT a n em)) ?_;refine sR (g := 105) (ps := rgP (aV Tryz.f19) [0,1,0,1,1,1,1,1,1,1,1]) (assign := rgA (aV Tryz.f19) [0,1,0,1,1,1,1,1,1,1,1]) (body := rgB (aV Tryz.f19) [0,1,0,1,1,1,1,1,1,1,1]) hG (by kernel_rfl) 9900 9901 9910 (by kernel_rfl) rfl (by kernel_rfl) fun b D l fn tm hT hn => ?_;refine ⟨.tup [],[1801,9901,100,101,102,401,0,1,400],[(0,.box ⟨.c 35,some (b 1801)⟩ [.bx 6 0]),(1,.box ⟨.raw (.loop { (bM (aV Tryz.f19) [0,1,0,1,1,1,1,1,1,1,1] fn tm D) with state := .done,pending := some .ret }),some l⟩ []),(2,.box ⟨.c 35,some (b 100)⟩ [.bx 6 0]),(3,.box ⟨.c 43,some (b 101)⟩ [cI f,cI a,cS (S (aE ms))]),(4,.box ⟨.c 32,some (b 102)⟩ [.ar 100 0]),(5,.box ⟨.c 47,some (b 401)⟩ [.mp 8]),(6,y20 a n),(7,mBQ em),(8,mBQ tl),(100,.arr 0 43 3 ([msD a (aE em) f] : LD))],(some .ret),⟨[zX 4 102 0],e4z a n em ++ [(102,.box ⟨.c 32,some (b 102)⟩ [.ar 9910 0]),(9900,.box ⟨.raw (.deferred (some [])),some D⟩ []),(9910,.arr 0 43 3 ([msD a (aE em) f] : LD))]⟩,_,.ret,by kernel_rfl,cS1 g (tkItB (b 1801) (b 0) (b 1) (b 400) (b 100) (b 101) (b 102) (b 401) D l fn tm (hT.bx 2 100 0 rfl) (hT.bx 3 101 0 rfl) (hT.bx 4 102 0 rfl) (hT.bx 5 401 0 rfl) hn a n f em ms tl hemr q hq1 hq2 hq3),rfl,?_⟩;have hG0 := hG
    replace hG := gH (D := D) hG
    refine jJ [0,1,102] (⟨[zX 4 102 0],e4z a n em ++ [(102,.box 32 [.ar 9910 0]),(9900,.box ⟨.raw (.deferred (some [])),some D⟩ []),(9910,.arr 0 43 3 ([msD a (aE em) f] : LD))]⟩) (by kernel_rfl) ?_;refine oV hG0 aY [] [] 9900 (.c (cM 3 ([msD a (aE em) f] : LD))) [(0,y15 a n),(1,mBQ em)] (by kernel_rfl) aB ?_ ?_
    ·rw [hemj]
    ·rw [<- hemj]
     all_goals (first | rfl | (funext i; simp only [aF,upd]; ((repeat' split) <;> first | rfl | (exfalso; omega))))
   ·obtain ⟨ek,eb,hek,hev2,hin,hrg2,hln2,hent⟩ := RngB.step hM hrg hev hnew
    refine zC hG [] [0,1] true (⟨e3z ++ [zX 84 1401 0],e2z a n em f (S (aE ms)) tl ++ [(500,.box ⟨.raw (.map ents clock),none⟩ []),(1401,.box ⟨.itr clock (seen.push ev.born) clock,none⟩ [.mp 500])]⟩) aB (fun _ => ?_) (fun hc7 => absurd hc7 (by decide));refine zD hG [(15,0,.elem [.v (.string (S ek)),.v (.bool eb)])] (vis ++ [(ek,eb)],seen.push ev.born,cG ltS ek (((lkM ek em).getD false) || eb) em) (aC hent) ?_ ?_
    ·(try dsimp only); rw [la,lc,ln] at *; omega
    ·exact ⟨hrg2,by rw [zT,hem],hln2⟩
end Go.Proofs.YtclaplngjmgnoaaGreatDoor
namespace Go.Proofs.YtclaplngjmgnoaaGreatDoor
open Go.RowKit Go.V
open Go.Eng (inR byteAt u8 dN)
variable {g : Gv}
def itW (id a t : Int) : It := ⟨id,a,0,t,4,[],none,[],[],[0]⟩
theorem nG {n : Int} (h : decide (-1000000 <= n) && decide (n <= 1000000) = true) : nOk n := by
 simp only [bIQ,decide_eq_true_eq] at h;exact ⟨by omega,by omega⟩
theorem aOG {id a t : Int} (h1 : nOk id) (h2 : nOk a) (h3 : nOk t) : ItOk (itW id a t) :=
 ⟨h1,h2,nG (n := 0) (by decide),h3,nG (n := 4) (by decide),by simp [itW],by simp [itW],(by show cZ (S []) = true; decide),by simp [itW],by simp [itW],by simp [itW],by intro n hn; simp [itW] at hn; subst hn; exact nG (by decide)⟩
def one : It := itW 5 1 1
def two : It := itW 5 2 3
def tx1 : List UInt8 := itT one
def tx2 : List UInt8 := itT two
def sA : RS := [(tx1,false)]
def sB : RS := [(tx2,false)]
def sC : RS := [(tx1,false),(tx2,false)]
def sD : RS := [(tx1,true),(tx2,true)]
theorem yT : ItOk one := aOG (nG (by decide)) (nG (by decide)) (nG (by decide))
theorem xV : ItOk two := aOG (nG (by decide)) (nG (by decide)) (nG (by decide))
theorem of1 : aJ tx1 = one := zU yT
theorem of2 : aJ tx2 = two := zU xV
theorem tx12 : tx1 < tx2 := by decide +kernel
theorem it1 : lL tx1 := ⟨one,yT,rfl⟩
theorem it2 : lL tx2 := ⟨two,xV,rfl⟩
theorem yJ {es : RS} (h1 : kSort es) (hl : es.length <= 4000) (h : ∀ x,x ∈ es -> x.1 = tx1 \/ x.1 = tx2) : RsOk 2 es :=
 ⟨h1,hl,fun x hx => by
  rcases h x hx with e | e;rw [e]; exact it1;rw [e]; exact it2,fun x hx => by
  rcases h x hx with e | e;rw [e,of1]; decide;rw [e,of2]; decide⟩
theorem k1 (x : List UInt8) (b : Bool) : kSort [(x,b)] := List.pairwise_singleton _ _
theorem k2 (b c : Bool) : kSort [(tx1,b),(tx2,c)] := by
 show List.Pairwise _ [tx1,tx2];rw [List.pairwise_cons];exact ⟨fun x hx => by rw [List.mem_singleton.1 hx]; exact tx12,List.pairwise_singleton _ _⟩
theorem rs0 (n : Int) : RsOk n [] := ⟨List.Pairwise.nil,by simp,by simp,by simp⟩
theorem rsA : RsOk 2 sA := yJ (k1 _ _) (by simp [sA]) (by intro x hx; simp [sA] at hx; subst hx; exact .inl rfl)
theorem rsB : RsOk 2 sB := yJ (k1 _ _) (by simp [sB]) (by intro x hx; simp [sB] at hx; subst hx; exact .inr rfl)
theorem rsC : RsOk 2 sC := yJ (k2 _ _) (by simp [sC]) (by intro x hx; simp [sC] at hx; rcases hx with rfl | rfl <;> simp)
theorem rsD : RsOk 2 sD := yJ (k2 _ _) (by simp [sD]) (by intro x hx; simp [sD] at hx; rcases hx with rfl | rfl <;> simp)
theorem gA : fC 1 [] one = 0 /\ fB 1 [] one = sA := by
 have := nX (a := 1) (es := []) (i := one) rfl rfl (by simp [pA]);exact ⟨this.1,this.2.trans rfl⟩
theorem gB : fC 2 [] two = 0 /\ fB 2 [] two = sB := by
 have := nX (a := 2) (es := []) (i := two) rfl rfl (by simp [pA]);exact ⟨this.1,this.2.trans rfl⟩
theorem gD : fC 1 sD one = 33 /\ fB 1 sD one = sD := mC (a := 1) (es := sD) (i := one) rfl (by simp [sD,lkM,tx1])
theorem jBA : jnV sB sA = sC /\ eO sB sA = true := by decide +kernel
theorem jAB : jnV sA sB = sC /\ eO sA sB = true := by decide +kernel
theorem jCD : jnV sC sD = sD /\ eO sC sD = false := by decide +kernel
theorem liC : cY sC = [one,two] := by simp [cY,sC,of1,of2,List.filter]
theorem liD : cY sD = [] := by simp [cY,sD,List.filter]
theorem inC : inF (cY sC) = [two] := by rw [liC]; decide +kernel
theorem inD : inF (cY sD) = [] := by rw [liD]; decide +kernel
theorem wdC : wdR 5 sC = sD /\ wdE 5 sC = 0 := by
 have h1 : (aJ tx1).id = 5 := by rw [of1]; rfl
 have h2 : (aJ tx2).id = 5 := by rw [of2]; rfl
 have e1 : wdS 5 sC 1 = ([(tx1,true),(tx2,false)],true) := by
  have : (lkM tx1 sC).getD false = false := by decide +kernel
  show (bif decide ((aJ tx1).id = 5) && !((lkM tx1 sC).getD false) then _ else _) = _;rw [h1,this];show (cG ltS tx1 true sC,true) = _;exact congrArg (·,true) (by decide +kernel)
 have e2 : wdS 5 sC 2 = (sD,true) := by
  have : (lkM tx2 [(tx1,true),(tx2,false)]).getD false = false := by decide +kernel
  show (bif decide ((aJ tx2).id = 5) && !((lkM tx2 (wdS 5 sC 1).1).getD false) then _ else _) = _;rw [h2,e1,this];show (cG ltS tx2 true [(tx1,true),(tx2,false)],true) = _;exact congrArg (·,true) (by decide +kernel)
 exact ⟨congrArg (·.1) e2,by show (bif (wdS 5 sC 2).2 then _ else _) = _; rw [e2]; rfl⟩
theorem encD_sz : (0 : Int) <= 0 /\ (0 : Int) <= 1 /\ (1 : Int) <= ((S (aE sD)).size : Int) := by
 rw [aQ]; simp [aE,sD,aW]; omega
theorem mF : ((S (aE sD)).toList == (S (aE sD)).toList) = true := by simp
theorem mE : (((S (aE sD)).extract 0 1).toList == (S [45]).toList) = true := by
 have e : (S (aE sD)).extract 0 1 = S [45] := by
  have := g0 (aE sD) 0 1;rw [this]; simp [aE,sD,aW]
 rw [e]; simp
theorem len2 : decide (((S (itT two)).size : Int) > 0) = true := by
 rw [aQ,iR]; simp; omega
theorem aFV (a n : Int) (es es' : RS) (id b t e : Int) (hes : RsOk n es) (hi : ItOk (itW id b t)) (h : fC a es (itW id b t) = e /\ fB a es (itW id b t) = es') :
  SpG g 22 [.c (.bx 0 0),.agg [cI id,cI b,cI 0,cI t,cI 4,.d .nil,cI 0,cS (S []),cI 0,cI 0,cI 0,.d .nil,.d .nil,cS (S []),cS (S []),cM 1 [[.i 0]]]] [(0,y15 a n),(1,mBQ es)] (.c (cI e)) [(0,y15 a n),(1,mBQ es')] := by
 obtain ⟨h1,h2⟩ := h;subst h1 h2;exact oX [[none],[none,none,none,none,none,some 7,none,none,none,none,none,some 1,some 1,none,none,none]] (rD a n es (itW id b t) hes hi)
theorem hY (a n : Int) (es : RS) (l : LD) (hes : RsOk n es) (h0 : 0 <= n) (h8 : n <= 8) (h : aFJ a (aE es) (tkL a n.toNat) = l) :
  SpG g 25 [.c (.bx 0 0)] [(0,y15 a n),(1,mBQ es)] (.c (cM 3 l)) [(0,y15 a n),(1,mBQ es)] := by
 subst h; exact tick_ok a n es hes h0 h8
theorem aLX (a n f : Int) (es ms fs : RS) (hes : RsOk n es) (hms : RsOk n ms) (hl : es.length + ms.length <= 4000) (hf1 : 1 <= f) (hf2 : f <= n) (hfa : ¬ f = a) (h : jnV es ms = fs /\ eO es ms = true) :
  SpG g 19 [.c (.bx 0 0),y21 f a (S (aE ms))] [(0,y15 a n),(1,mBQ es)] (.c (cM 3 [msD a (aE fs) f])) [(0,y15 a n),(1,mBQ fs)] := by
 obtain ⟨h1,h2⟩ := h;subst h1; exact u9 a n f es ms hes hms hl hf1 hf2 hfa h2
theorem take_l (a n f : Int) (es ms fs : RS) (hes : RsOk n es) (hms : RsOk n ms) (hl : es.length + ms.length <= 4000) (hf1 : 1 <= f) (hf2 : f <= n) (hfa : ¬ f = a) (h : jnV es ms = fs /\ eO es ms = false) :
  SpG g 19 [.c (.bx 0 0),y21 f a (S (aE ms))] [(0,y15 a n),(1,mBQ es)] (.c (.d .nil)) [(0,y15 a n),(1,mBQ fs)] := by
 obtain ⟨h1,h2⟩ := h;subst h1; exact vA a n f es ms hes hms hl hf1 hf2 hfa h2
theorem aAE (a n : Int) (es : RS) (l : List It) (hes : RsOk n es) (h : inF (cY es) = l) :
  SpG g 16 [.c (.bx 0 0)] [(0,y15 a n),(1,mBQ es)] (.c (cM 16 (bI l))) [(0,y15 a n),(1,mBQ es)] := by
 subst h; exact aFN a n es hes
theorem aDQ (a n id e : Int) (es fs : RS) (hes : RsOk n es) (h : wdR id es = fs /\ wdE id es = e) :
  SpG g 23 [.c (.bx 0 0),.c (cI id)] [(0,y15 a n),(1,mBQ es)] (.c (cI e)) [(0,y15 a n),(1,mBQ fs)] := by
 obtain ⟨h1,h2⟩ := h;subst h1 h2; exact g6 a n id es hes
abbrev y23 : Ob := mBQ ([])
theorem aNS (a n : Int) (h : aNF a n = true) :
  SpG g 17 [.c (cI a),.c (cI n)] [] (.c (.bx 100 0)) [(100,.box 73 [cI a,cI n,.mp 102]),(102,y23)] := by
 simp only [aNF,bIQ,decide_eq_true_eq] at h;refine aP 25 Tryz.func17 fun fr hG => ?_;refine zC hG [] [1,0,1] ((((decide ((n : Int) < 1)) || (decide ((n : Int) > 8))) || (decide ((a : Int) < 1))) || (decide ((a : Int) > n))) (⟨[zI 0 a,zI 1 n,(4,[],.c (.d (.v (.pointer none))))],[]⟩) aB (fun hc1 => ?_) (fun hc1 => ?_)
 (try simp only [blS] at hc1)
 exfalso; omega
 (try simp only [blS] at hc1)
 exact zr hG [(3,2,.mask [])] [404,77777,402] aB
theorem nF (a n : Int) (h : aNF a n = true) :
  SpG g 17 [.c (cI a),.c (cI n)] [] (.c (.bx 100 0)) [(100,.box 73 [cI a,cI n,.mp 102]),(102,y23)] := by
 refine bX (aNS a n h) ?_
 first | rfl | (funext i; simp only [aF,upd]; ((repeat' split) <;> first | rfl | (exfalso; omega)))
abbrev y24 : Ob := .box 73 [cI 1,cI 2,.mp 202]
abbrev y25 : Ob := .box 73 [cI 2,cI 2,.mp 203]
abbrev y26 : Ob := .box 73 [cI 1,cI 2,.mp 1]
abbrev y27 : Ob := .box 73 [cI 2,cI 2,.mp 1]
abbrev y28 : Ob := .box 63 [cI 5,cI 1,cI 0,cI 1,cI 4,cN,cI 0,cS (S []),cI 0,cI 0,cI 0,cN,cN,cS (S []),cS (S []),.ar 500 0]
abbrev y29 : Ob := .box 63 [cI 5,cI 2,cI 0,cI 3,cI 4,cN,cI 0,cS (S []),cI 0,cI 0,cI 0,cN,cN,cS (S []),cS (S []),.ar 500 0]
abbrev y30 : Ob := mBQ sC
abbrev y31 : Ob := mBQ sD
theorem aJB  :
  SpG g 10 [] [] (.c (cB true)) [] := by
 refine aP 141 Tryz.func10 fun fr hG => ?_;refine zC hG [(1,0,.callG (.c (.bx 100 0)) [] [(100,.box 73 [cI 1,cI 2,.mp 102]),(102,y23)]),(1,1,.callG (.c (.bx 100 0)) [] [(100,.box 73 [cI 2,cI 2,.mp 102]),(102,y23)])] [1,0,1,1] false (⟨[zB 0 false,zX 1 200 0,zX 2 201 0],[(200,y24),(201,y25),(202,y23),(203,y23)]⟩) (cS2 g (nF 1 2 (by decide)) (cS1 g (nF 2 2 (by decide)))) (fun hc1 => absurd hc1 (by decide)) (fun _ => ?_);refine zC hG [(7,2,.callG (.c (cI 0)) [200,202] [(0,y26),(1,mBQ sA)]),(7,7,.callG (.c (cI 0)) [201,203] [(0,y27),(1,mBQ sB)])] [1,0,1,1,1,1,1,1] false (⟨[zB 0 false,zX 1 200 0,zX 2 201 0,zX 3 502 0,zX 4 601 0],[(200,y24),(201,y25),(202,mBQ sA),(203,mBQ sB),(500,.arr 0 3 1 ([[.i 0]] : LD)),(502,y28),(601,y29)]⟩) (cS2 g (aFV 1 2 [] sA 5 1 1 0 (rs0 2) yT gA) (aA (by simp [mF,mE]; done : false = false /\ True) (aC (fun (hg1 : false = false) => (aFV 2 2 [] sB 5 2 3 0 (rs0 2) xV gB : SpG g _ _ _ _ _))))) (fun hc2 => absurd hc2 (by decide)) (fun _ => ?_);refine zC hG [(9,1,.callG (.c (cM 3 ([[.i 1,.i 2,.s (S (aE sA))]] : LD))) [200,202] ((99999,.box 0 []) :: [(0,y26),(1,mBQ sA)])),(9,3,.callG (.c (cM 3 ([[.i 2,.i 1,.s (S (aE sB))]] : LD))) [201,203] ((99999,.box 0 []) :: [(0,y27),(1,mBQ sB)])),(10,11,.elem ([.i 1,.i 2,.s (S (aE sA))])),(10,13,.callG (.c (cM 3 ([[.i 2,.i 1,.s (S (aE sC))]] : LD))) [201,203] [(0,y27),(1,y30)]),(10,20,.elem ([.i 2,.i 1,.s (S (aE sB))])),(10,22,.callG (.c (cM 3 ([[.i 1,.i 2,.s (S (aE sC))]] : LD))) [200,202] [(0,y26),(1,y30)])] [1,0,1,1,1,1,1,1,1,1] false (⟨[zB 0 false,zX 1 200 0,zX 2 201 0,zX 3 502 0,zX 4 601 0],[(200,y24),(201,y25),(202,y30),(203,y30),(500,.arr 0 3 1 ([[.i 0]] : LD)),(502,y28),(601,y29)]⟩) (aA (And.intro (And.intro (rfl : (some y24 : Option Ob) = some y24) (And.intro (rfl : (some (mBQ sA) : Option Ob) = some (mBQ sA)) trivial)) (rfl : true = true)) (cS2 g (hY 1 2 sA _ rsA (by decide) (by decide) rfl) (aA (And.intro (And.intro (rfl : (some y25 : Option Ob) = some y25) (And.intro (rfl : (some (mBQ sB) : Option Ob) = some (mBQ sB)) trivial)) (rfl : true = true)) (cS2 g (hY 2 2 sB _ rsB (by decide) (by decide) rfl) (aA (by intros; exact ⟨by decide,rfl⟩ : false = false -> (0 : Int) <= 0 /\ ([[.i 1,.i 2,.s (S (aE sA))]] : LD)[0]? = some ([.i 1,.i 2,.s (S (aE sA))])) (aA (by simp [mF,mE]; done : false = false /\ True) (aA (fun (hg1 : false = false) => (aLX 2 2 1 sB sA sC rsB rsA (by decide) (by decide) (by decide) (by decide) jBA : SpG g _ _ _ _ _)) (aA (by intros; exact ⟨by decide,rfl⟩ : false = false -> (0 : Int) <= 0 /\ ([[.i 2,.i 1,.s (S (aE sB))]] : LD)[0]? = some ([.i 2,.i 1,.s (S (aE sB))])) (aA (by simp [mF,mE]; done : false = false /\ True) (aC (fun (hg1 : false = false) => (aLX 1 2 2 sA sB sC rsA rsB (by decide) (by decide) (by decide) (by decide) jAB : SpG g _ _ _ _ _)))))))))))) (fun hc3 => absurd hc3 (by decide)) (fun _ => ?_);refine zC hG [(12,1,.callG (.c (cM 16 (bI ([two])))) [200,202] ((99999,.box 0 []) :: [(0,y26),(1,y30)])),(12,3,.callG (.c (cM 16 (bI ([two])))) [201,203] ((99999,.box 0 []) :: [(0,y27),(1,y30)])),(13,10,.elem (ItD two)),(13,17,.elem (ItD two)),(13,24,.callG (.c (cI 0)) [200,202] [(0,y26),(1,y31)])] [1,0,1,1,1,1,1,1,1,1,1,1] false (⟨[zB 0 false,zX 1 200 0,zX 2 201 0,zX 3 502 0,zX 4 601 0],[(200,y24),(201,y25),(202,y31),(203,y30),(500,.arr 0 3 1 ([[.i 0]] : LD)),(502,y28),(601,y29)]⟩) (aA (And.intro (And.intro (rfl : (some y24 : Option Ob) = some y24) (And.intro (rfl : (some y30 : Option Ob) = some y30) trivial)) (rfl : true = true)) (cS2 g (aAE 1 2 sC [two] rsC inC) (aA (And.intro (And.intro (rfl : (some y25 : Option Ob) = some y25) (And.intro (rfl : (some y30 : Option Ob) = some y30) trivial)) (rfl : true = true)) (cS2 g (aAE 2 2 sC [two] rsC inC) (aA (by intros; exact ⟨by decide,rfl⟩ : false = false -> (0 : Int) <= 0 /\ (bI ([two]))[0]? = some (ItD two)) (aA (by intros; exact ⟨by decide,rfl⟩ : false = false -> (0 : Int) <= 0 /\ (bI ([two]))[0]? = some (ItD two)) (aA (by simp [mF,mE]; done : false = false /\ True) (aC (fun (hg1 : false = false) => (aDQ 1 2 5 0 sC sD rsC wdC : SpG g _ _ _ _ _)))))))))) (fun hc4 => absurd hc4 (by decide)) (fun _ => ?_);refine bJ hG aY [(15,1,.callG (.c (cM 3 ([[.i 1,.i 2,.s (S (aE sD))]] : LD))) [200,202] ((99999,.box 0 []) :: [(0,y26),(1,y31)])),(16,1,kS (S (itT two))),(17,6,.elem ([.i 1,.i 2,.s (S (aE sD))])),(17,8,.callG (.c cN) [201,203] [(0,y27),(1,y31)]),(17,14,.callG (.c (cM 16 (bI ([])))) [201,203] ((99999,.box 0 []) :: [(0,y27),(1,y31)])),(17,20,.callG (.c (cS (S (aE sD)))) [200,202] ((99999,.box 0 []) :: [(0,y26),(1,y31)])),(17,22,.callG (.c (cS (S (aE sD)))) [201,203] ((99999,.box 0 []) :: [(0,y27),(1,y31)])),(17,27,.callG (.c (cS (S (aE sD)))) [201,203] ((99999,.box 0 []) :: [(0,y27),(1,y31)])),(17,34,.callG (.c (cI 33)) [200,202] [(0,y26),(1,y31)])] [] (.c (cB (((((S (aE sD)).toList == (S (aE sD)).toList) && (((S (aE sD)).extract 0 1).toList == (S [45]).toList)) && true) && (decide ((((S (itT two)).size : Int) : Int) > 0))))) [] (by kernel_rfl) (aA (And.intro (And.intro (rfl : (some y24 : Option Ob) = some y24) (And.intro (rfl : (some y31 : Option Ob) = some y31) trivial)) (rfl : true = true)) (cS2 g (hY 1 2 sD _ rsD (by decide) (by decide) rfl) (cS2 g (oX (ins := [.agg [cI 5,cI 2,cI 0,cI 3,cI 4,cN,cI 0,cS (S []),cI 0,cI 0,cI 0,cN,cN,cS (S []),cS (S []),cM 1 ([[.i 0]] : LD)]]) [[none,none,none,none,none,some 7,none,none,none,none,none,some 1,some 1,none,none,none]] (pH (itW 5 2 3) xV)) (aA (by intros; exact ⟨by decide,rfl⟩ : true = true -> (0 : Int) <= 0 /\ ([[.i 1,.i 2,.s (S (aE sD))]] : LD)[0]? = some ([.i 1,.i 2,.s (S (aE sD))])) (aA (by simp [mF,mE]; done : true = true /\ True) (aA (fun (hg1 : true = true) => (take_l 2 2 1 sC sD sD rsC rsD (by decide) (by decide) (by decide) (by decide) jCD : SpG g _ _ _ _ _)) (aA (fun (hg1 : true = true) => (And.intro (And.intro (rfl : (some y25 : Option Ob) = some y25) (And.intro (rfl : (some y31 : Option Ob) = some y31) trivial)) (rfl : true = true))) (aA (fun (hg1 : true = true) => (aAE 2 2 sD [] rsD inD : SpG g _ _ _ _ _)) (aA (fun (hg1 : true = true) => (And.intro (And.intro (rfl : (some y24 : Option Ob) = some y24) (And.intro (rfl : (some y31 : Option Ob) = some y31) trivial)) (rfl : true = true))) (aA (fun (hg1 : true = true) => (cK 1 2 sD rsD : SpG g _ _ _ _ _)) (aA (fun (hg1 : true = true) => (And.intro (And.intro (rfl : (some y25 : Option Ob) = some y25) (And.intro (rfl : (some y31 : Option Ob) = some y31) trivial)) (rfl : true = true))) (aA (fun (hg1 : true = true) => (cK 2 2 sD rsD : SpG g _ _ _ _ _)) (aA (fun (hg1 : ((S (aE sD)).toList == (S (aE sD)).toList) = true) => (And.intro (And.intro (rfl : (some y25 : Option Ob) = some y25) (And.intro (rfl : (some y31 : Option Ob) = some y31) trivial)) (rfl : true = true))) (aA (fun (hg1 : ((S (aE sD)).toList == (S (aE sD)).toList) = true) => (cK 2 2 sD rsD : SpG g _ _ _ _ _)) (aA (show ((S (aE sD)).toList == (S (aE sD)).toList) = true -> (0 : Int) <= 0 /\ (0 : Int) <= 1 /\ 1 <= ((S (aE sD)).size : Int) from (fun _ => encD_sz)) (aA (by simp [mF,mE]; done : (((S (aE sD)).toList == (S (aE sD)).toList) && (((S (aE sD)).extract 0 1).toList == (S [45]).toList)) = true /\ True) (aC (fun (hg1 : (((S (aE sD)).toList == (S (aE sD)).toList) && (((S (aE sD)).extract 0 1).toList == (S [45]).toList)) = true) => (aFV 1 2 sD sD 5 1 1 33 rsD yT gD : SpG g _ _ _ _ _))))))))))))))))))) ?_ ?_;simp only [mF,mE,len2,Bool.and_self,Bool.and_true,Bool.true_and]
 first | rfl | (funext i; simp only [aF,upd]; ((repeat' split) <;> first | rfl | (exfalso; omega)))
end Go.Proofs.YtclaplngjmgnoaaGreatDoor
namespace Go.Proofs.YtclaplngjmgnoaaGreatDoor
open Go.RowKit Go.V
theorem key_mem {es : RS} {k : Nat} (h : k < es.length) : (es.map (·.1)).getD k [] ∈ es.map (·.1) := bF (by simpa using h)
theorem aLI {n : Int} {es : RS} (hes : RsOk n es) (id : Int) : ∀ k,k <= es.length ->
  (∀ t,lkM t (wdS id es k).1 = if t ∈ (es.map (·.1)).take k /\ (aJ t).id = id then some true else lkM t es) /\
  ((wdS id es k).2 = true ↔ ∃ t,t ∈ (es.map (·.1)).take k /\ (aJ t).id = id /\ lkM t es = some false)
 | 0,_ => ⟨fun t => by simp [wdS],by simp [wdS]⟩
 | k + 1,h => by
  obtain ⟨h1,h2⟩ := aLI hes id k (by omega);have hm := key_mem (es := es) (k := k) (by omega);have hnd := hes.sort.nodup;have htk : (es.map (·.1)).take (k + 1) = (es.map (·.1)).take k ++ [(es.map (·.1)).getD k []] := dG [] (by rw [lm]; omega)
  generalize hT : (es.map (·.1)).getD k [] = T at *
  have hn : ¬ T ∈ (es.map (·.1)).take k := by
   intro hc;have hnd2 : ((es.map (·.1)).take (k + 1)).Nodup := hnd.sublist (List.take_sublist _ _)
   rw [htk,List.nodup_append] at hnd2;exact hnd2.2.2 T hc T (by simp) rfl
  have hlT : lkM T (wdS id es k).1 = lkM T es := by rw [h1 T,if_neg (fun hc => hn hc.1)]
  have hs : (lkM T es).isSome = true := lk_some_mem.2 hm;obtain ⟨w,hw⟩ := Option.isSome_iff_exists.1 hs;simp only [wdS,hT,hlT,hw,htk];have hmem : ∀ t,t ∈ (es.map (·.1)).take k ++ [T] ↔ t ∈ (es.map (·.1)).take k \/ t = T := by intro t; simp
  by_cases hi : (aJ T).id = id
  ·cases w with
   | false =>
    simp only [hi,decide_true,Option.getD_some,Bool.not_false,Bool.and_self,cond_true];refine ⟨fun t => ?_,⟨fun _ => ⟨T,(hmem T).2 (.inr rfl),hi,hw⟩,fun _ => trivial⟩⟩;rw [nN];by_cases ht : t = T
    ·subst ht; rw [if_pos rfl,if_pos ⟨(hmem t).2 (.inr rfl),hi⟩]
    ·rw [if_neg ht,h1 t]
     simp only [hmem,ht,or_false]
   | true =>
    simp only [hi,decide_true,Option.getD_some,Bool.not_true,Bool.and_false,cond_false];refine ⟨fun t => ?_,?_⟩
    ·rw [h1 t]
     by_cases ht : t = T
     ·subst ht; rw [if_neg (fun hc => hn hc.1),if_pos ⟨(hmem t).2 (.inr rfl),hi⟩,hw]
     ·simp only [hmem,ht,or_false]
    ·rw [h2]
     constructor
     ·rintro ⟨t,a,b,c⟩; exact ⟨t,(hmem t).2 (.inl a),b,c⟩
     ·rintro ⟨t,a,b,c⟩
      rcases (hmem t).1 a with a | rfl
      ·exact ⟨t,a,b,c⟩
      ·rw [hw] at c; simp at c
  ·simp only [hi,decide_false,Bool.false_and,cond_false]
   refine ⟨fun t => ?_,?_⟩
   ·rw [h1 t]
    by_cases ht : t = T
    ·subst ht; rw [if_neg (fun hc => hi hc.2),if_neg (fun hc => hi hc.2)]
    ·simp only [hmem,ht,or_false]
   ·rw [h2]
    constructor
    ·rintro ⟨t,a,b,c⟩; exact ⟨t,(hmem t).2 (.inl a),b,c⟩
    ·rintro ⟨t,a,b,c⟩
     rcases (hmem t).1 a with a | rfl
     ·exact ⟨t,a,b,c⟩
     ·exact absurd b hi
theorem wdR_lk {n : Int} {es : RS} (hes : RsOk n es) (id : Int) (t : List UInt8) : lkM t (wdR id es) = if (lkM t es).isSome = true /\ (aJ t).id = id then some true else lkM t es := by
 have h := (aLI hes id es.length (lr _)).1 t;rw [tlQ (by simp)] at h;rw [wdR,h];simp only [lk_some_mem]
theorem aN7 {es : RS} (h : kSort es) {t : List UInt8} {w : Bool} : lkM t es = some w ↔ (t,w) ∈ es := by
 constructor;intro hl;have hm := lk_some_mem.1 (show (lkM t es).isSome = true by rw [hl]; rfl);obtain ⟨x,hx,rfl⟩ := mm.1 hm;have := eH h.nodup hx;rw [hl] at this;simp only [oIQ] at this;rw [this]; exact hx;intro hm; exact eH h.nodup hm
end Go.Proofs.YtclaplngjmgnoaaGreatDoor
namespace Go.Proofs.YtclaplngjmgnoaaGreatDoor
open Go.RowKit Go.V
structure Ms where
 f : Int
 t : Int
 m : RS
def Ms.z : Ms := ⟨0,0,[]⟩
def MsD (m : Ms) : List D := [.i m.f,.i m.t,.s (S (aE m.m))]
def bK (l : List Ms) : LD := l.map MsD
theorem aGM : ∀ {l U : List (List UInt8)},l.Nodup -> (∀ x,x ∈ l -> x ∈ U) -> l.length <= U.length
 | [],U,_,_ => zl _
 | x :: r,U,hn,hs => by
  rw [List.nodup_cons] at hn;have hx := hs x List.mem_cons_self;have h1 := aGM (l := r) (U := U.erase x) hn.2 fun y hy => (List.mem_erase_of_ne (by rintro rfl; exact hn.1 hy)).2 (hs y (List.mem_cons_of_mem _ hy));rw [List.length_erase_of_mem hx] at h1;have := List.length_pos_of_mem hx;simp only [lc]; omega
structure KOk (U : List (List UInt8)) (e : RS) : Prop where
 rs : RsOk 3 e
 sub : ∀ x,x ∈ e -> x.1 ∈ U
theorem KOk.len {U : List (List UInt8)} {e : RS} (h : KOk U e) : e.length <= U.length := by
 have := aGM h.rs.sort.nodup (U := U) fun x hx => by
  obtain ⟨y,hy,rfl⟩ := mm.1 hx;exact h.sub y hy
 simpa using this
theorem KOk.up {U : List (List UInt8)} {e : RS} (h : KOk U e) (t : List UInt8) : KOk (t :: U) e := ⟨h.rs,fun x hx => List.mem_cons_of_mem _ (h.sub x hx)⟩
theorem wB (U : List (List UInt8)) : KOk U [] := ⟨rs0 3,by simp⟩
def Gr (a b : RS) : Prop := ∀ t w,lkM t a = some w -> ∃ w',lkM t b = some w' /\ (w = true -> w' = true)
theorem gr_refl (a : RS) : Gr a a := fun t w h => ⟨w,h,id⟩
theorem aFW {U : List (List UInt8)} {e : RS} {a : Int} {i : It} (h : KOk U e) (hU : U.length <= 100) (hi : ItOk i) (ha : i.author = a) (h1 : 1 <= a) (h3 : a <= 3) : KOk (itT i :: U) (fB a e i) /\ Gr e (fB a e i) := by
 unfold fB;split;rename_i he;have hn : lkM (itT i) e = none := by
  cases hl : lkM (itT i) e with
  | none => rfl
  | some w =>
   rw [fC,if_pos ha,if_pos (by rw [hl]; rfl)] at he;exact absurd he (by decide)
 obtain ⟨u1,u2,u3,u4⟩ := rP (k := itT i) (v := false) h.rs.sort;have hl := h.len;have hk2 : ∀ x,x ∈ cG ltS (itT i) false e -> x.1 = itT i \/ ∃ y,y ∈ e /\ y.1 = x.1 := by
  intro x hx;rcases (u2 x.1).1 (List.mem_map_of_mem hx) with e | hm;exact .inl e;obtain ⟨y,hy,e⟩ := mm.1 hm;exact .inr ⟨y,hy,e⟩
 refine ⟨⟨⟨u1,by omega,fun x hx => ?_,fun x hx => ?_⟩,fun x hx => ?_⟩,fun t w ht => ⟨w,?_,id⟩⟩;rcases hk2 x hx with e | ⟨y,hy,e⟩
 rw [e]; exact ⟨i,hi,rfl⟩;rw [<- e]; exact h.rs.it y hy;rcases hk2 x hx with e | ⟨y,hy,e⟩
 rw [e,zU hi]; omega;rw [<- e]; exact h.rs.au y hy;rcases hk2 x hx with e | ⟨y,hy,e⟩
 rw [e]; exact List.mem_cons_self;rw [<- e]; exact List.mem_cons_of_mem _ (h.sub y hy);rw [nN,if_neg (fun e => by rw [e,hn] at ht; cases ht)]; exact ht;exact ⟨h.up _,gr_refl e⟩
theorem wd_k {U : List (List UInt8)} {e : RS} (h : KOk U e) (id : Int) : KOk U (wdR id e) /\ Gr e (wdR id e) := by
 refine ⟨⟨wdR_ok h.rs id,fun x hx => ?_⟩,fun t w ht => ?_⟩;have := (aLH h.rs id e.length (lr _)).2.1 x.1;obtain ⟨y,hy,e⟩ := mm.1 (this.1 (List.mem_map_of_mem hx));rw [<- e]; exact h.sub y hy;rw [wdR_lk h.rs];split;exact ⟨true,rfl,fun _ => rfl⟩;exact ⟨w,ht,fun h => h⟩
theorem jM {a b : RS} (ha : kSort a) (hb : kSort b) (t : List UInt8) : lkM t (jnV a b) = orO (lkM t a) (lkM t b) := (aCM ha b hb.nodup).2.1 t
theorem jF {a b : RS} (ha : kSort a) (hb : kSort b) : kSort (jnV a b) := (aCM ha b hb.nodup).1
theorem aFL {U : List (List UInt8)} {a b : RS} (ha : KOk U a) (hb : KOk U b) (hU : U.length <= 100) : KOk U (jnV a b) /\ Gr a (jnV a b) := by
 have h1 := ha.len;have h2 := hb.len;refine ⟨⟨aOD ha.rs hb.rs (by omega),fun x hx => ?_⟩,fun t w ht => ?_⟩;have hx2 := (lk_some_mem (k := x.1)).2 (List.mem_map_of_mem hx);rw [jM ha.rs.sort hb.rs.sort] at hx2;cases h3 : lkM x.1 a with
 | some w => exact ha.sub (x.1,w) ((aN7 ha.rs.sort).1 h3)
 | none =>
  rw [h3] at hx2;cases h4 : lkM x.1 b with
  | some w => exact hb.sub (x.1,w) ((aN7 hb.rs.sort).1 h4)
  | none => rw [h4] at hx2; cases hx2
 rw [jM ha.rs.sort hb.rs.sort,ht];cases h4 : lkM t b with
 | some w' => exact ⟨w || w',rfl,fun h => by rw [h]; rfl⟩
 | none => exact ⟨w,rfl,fun h => h⟩
theorem aHJ {a : RS} (h : kSort a) : jnV a a = a /\ eO a a = false := by
 have e : jnV a a = a := aHI (jF h h) h fun t => by
  rw [jM h h];cases lkM t a with
  | none => rfl
  | some w => cases w <;> rfl
 refine ⟨e,?_⟩;unfold eO;rw [e,List.any_eq_false];intro x hx;have : aW x.1 x.2 ∈ a.map fun x => aW x.1 x.2 := List.mem_map_of_mem hx;simp [this]
structure MsOk (U : List (List UInt8)) (m : Ms) : Prop where
 k : KOk U m.m
 f1 : 1 <= m.f
 f3 : m.f <= 3
 t1 : 1 <= m.t
 t3 : m.t <= 3
 ne : ¬ m.f = m.t
theorem MsOk.up {U : List (List UInt8)} {m : Ms} (h : MsOk U m) (t : List UInt8) : MsOk (t :: U) m := ⟨h.k.up t,h.f1,h.f3,h.t1,h.t3,h.ne⟩
structure WOk (k : Nat) (U : List (List UInt8)) (e1 e2 e3 : RS) (ms : List Ms) : Prop where
 ul : U.length <= k
 k1 : KOk U e1
 k2 : KOk U e2
 k3 : KOk U e3
 mo : ∀ m,m ∈ ms -> MsOk U m
 ml : ms.length <= 2 * k
theorem w_0 : WOk 0 [] [] [] [] [] := ⟨by simp,wB _,wB _,wB _,by simp,by simp⟩
theorem WOk.next {k : Nat} {U : List (List UInt8)} {e1 e2 e3 : RS} {ms : List Ms} (h : WOk k U e1 e2 e3 ms) : WOk (k + 1) U e1 e2 e3 ms := ⟨by have := h.ul; omega,h.k1,h.k2,h.k3,h.mo,by have := h.ml; omega⟩
theorem aNJ (x y z : Option Bool) : orO (orO x (orO y x)) (orO (orO z x) (orO y x)) = orO (orO z x) (orO y x) /\ orO (orO y x) (orO (orO z x) (orO y x)) = orO (orO z x) (orO y x) := by
 cases x with
 | none => cases y with
  | none => cases z <;> exact ⟨rfl,rfl⟩
  | some b => cases z with
   | none => cases b <;> exact ⟨rfl,rfl⟩
   | some c => cases b <;> cases c <;> exact ⟨rfl,rfl⟩
 | some a => cases y with
  | none => cases z with
   | none => cases a <;> exact ⟨rfl,rfl⟩
   | some c => cases a <;> cases c <;> exact ⟨rfl,rfl⟩
  | some b => cases z with
   | none => cases a <;> cases b <;> exact ⟨rfl,rfl⟩
   | some c => cases a <;> cases b <;> cases c <;> exact ⟨rfl,rfl⟩
def exV (e1 e2 e3 : RS) : RS := jnV (jnV e3 e1) (jnV e2 e1)
theorem ex_all {e1 e2 e3 : RS} (h1 : kSort e1) (h2 : kSort e2) (h3 : kSort e3) : jnV (jnV e1 (jnV e2 e1)) (exV e1 e2 e3) = exV e1 e2 e3 /\ jnV (jnV e2 e1) (exV e1 e2 e3) = exV e1 e2 e3 := by
 have a1 := jF h2 h1;have a2 := jF h3 h1;have a3 := jF h1 a1;have a4 : kSort (exV e1 e2 e3) := jF a2 a1;refine ⟨aHI (jF a3 a4) a4 fun t => ?_,aHI (jF a1 a4) a4 fun t => ?_⟩;rw [jM a3 a4,jM h1 a1,exV,jM a2 a1,jM h3 h1,jM h2 h1];exact (aNJ _ _ _).1;rw [jM a1 a4,exV,jM a2 a1,jM h3 h1,jM h2 h1];exact (aNJ _ _ _).2
end Go.Proofs.YtclaplngjmgnoaaGreatDoor
namespace Go.Proofs.YtclaplngjmgnoaaGreatDoor
open Go.RowKit Go.V
structure Wt where
 t : Int
 n : Int
 m : Ms
def Wt.z : Wt := ⟨0,0,Ms.z⟩
def WtD (x : Wt) : List D := [.i x.t,.i x.n,.i x.m.f,.i x.m.t,.s (S (aE x.m.m))]
def aL (l : List Wt) : LD := l.map WtD
theorem aH (l : List Wt) : (aL l).length = l.length := by simp [aL]
theorem aLE (a b : List Wt) : aL (a ++ b) = aL a ++ aL b := by simp [aL]
def wtB (x y : Wt) : Bool := if x.t = y.t then decide (x.n < y.n) else decide (x.t < y.t)
def bH (l : List Wt) (a b : Nat) : List Wt := (l.set a (l.getD b Wt.z)).set b (l.getD a Wt.z)
theorem bE (l : List Wt) (a b : Nat) : (bH l a b).length = l.length := by simp [bH]
theorem x8 {l : List Wt} {a b : Nat} (ha : a < l.length) (hb : b < l.length) {x : Wt} (h : x ∈ bH l a b) : x ∈ l := by
 rcases List.mem_or_eq_of_mem_set h with h | h;rcases List.mem_or_eq_of_mem_set h with h | h;exact h;rw [h]; exact bF hb;rw [h]; exact bF ha
theorem aLD (l : List Wt) (a b : Nat) : ((aL l).set a (WtD (l.getD b Wt.z))).set b (WtD (l.getD a Wt.z)) = aL (bH l a b) := by simp [aL,bH,List.map_set]
def upM : Nat -> List Wt -> Nat -> List Wt
 | 0,l,_ => l
 | f + 1,l,j => bif decide ((j - 1) / 2 = j) || !wtB (l.getD j Wt.z) (l.getD ((j - 1) / 2) Wt.z) then l else upM f (bH l ((j - 1) / 2) j) ((j - 1) / 2)
def hcM (l : List Wt) (i n : Nat) : Nat := bif decide (2 * i + 2 < n) && wtB (l.getD (2 * i + 2) Wt.z) (l.getD (2 * i + 1) Wt.z) then 2 * i + 2 else 2 * i + 1
def dnM : Nat -> List Wt -> Nat -> Nat -> List Wt × Nat
 | 0,l,i,_ => (l,i)
 | f + 1,l,i,n => bif decide (n <= 2 * i + 1) || !wtB (l.getD (hcM l i n) Wt.z) (l.getD i Wt.z) then (l,i) else dnM f (bH l i (hcM l i n)) (hcM l i n) n
theorem aLM : ∀ (f : Nat) (l : List Wt) (j : Nat),j < l.length -> (upM f l j).length = l.length /\ ∀ x,x ∈ upM f l j -> x ∈ l
 | 0,l,j,_ => ⟨rfl,fun x h => h⟩
 | f + 1,l,j,h => by
  simp only [upM];cases hc : (decide ((j - 1) / 2 = j) || !wtB (l.getD j Wt.z) (l.getD ((j - 1) / 2) Wt.z)) with
  | true => exact ⟨rfl,fun x h => h⟩
  | false =>
   simp only [cond_false];have hi : (j - 1) / 2 < l.length := by omega
   obtain ⟨h1,h2⟩ := aLM f (bH l ((j - 1) / 2) j) ((j - 1) / 2) (by rw [bE]; exact hi);exact ⟨h1.trans (bE _ _ _),fun x hx => x8 hi h (h2 x hx)⟩
theorem ch_lt {l : List Wt} {i n : Nat} (h : ¬ n <= 2 * i + 1) : i < hcM l i n /\ hcM l i n < n /\ (hcM l i n = 2 * i + 1 \/ hcM l i n = 2 * i + 2) := by
 unfold hcM;cases hc : (decide (2 * i + 2 < n) && wtB (l.getD (2 * i + 2) Wt.z) (l.getD (2 * i + 1) Wt.z)) with
 | true =>
  simp only [bIQ,decide_eq_true_eq] at hc;have h1 := hc.1;exact ⟨by show i < 2 * i + 2; omega,by show 2 * i + 2 < n; omega,.inr rfl⟩
 | false => exact ⟨by show i < 2 * i + 1; omega,by show 2 * i + 1 < n; omega,.inl rfl⟩
theorem aPF : ∀ (f : Nat) (l : List Wt) (i n : Nat),n <= l.length -> i < l.length -> (dnM f l i n).1.length = l.length /\ ∀ x,x ∈ (dnM f l i n).1 -> x ∈ l
 | 0,l,i,n,_,_ => ⟨rfl,fun x h => h⟩
 | f + 1,l,i,n,hn,hi => by
  simp only [dnM];cases hc : (decide (n <= 2 * i + 1) || !wtB (l.getD (hcM l i n) Wt.z) (l.getD i Wt.z)) with
  | true => exact ⟨rfl,fun x h => h⟩
  | false =>
   simp only [cond_false];simp only [Bool.or_eq_false_iff,decide_eq_false_iff_not] at hc;obtain ⟨c1,c2,_⟩ := ch_lt (l := l) hc.1;obtain ⟨h1,h2⟩ := aPF f (bH l i (hcM l i n)) (hcM l i n) n (by rw [bE]; exact hn) (by rw [bE]; omega);exact ⟨h1.trans (bE _ _ _),fun x hx => x8 hi (by omega) (h2 x hx)⟩
def uZ (l : List Wt) (x : Wt) : List Wt := upM (l.length + 1) (l ++ [x]) l.length
theorem aG3 (l : List Wt) (x : Wt) : (uZ l x).length = l.length + 1 /\ ∀ y,y ∈ uZ l x -> y = x \/ y ∈ l := by
 obtain ⟨h1,h2⟩ := aLM (l.length + 1) (l ++ [x]) l.length (by simp);refine ⟨by rw [uZ,h1]; simp,fun y hy => ?_⟩;have := h2 y hy;simp only [List.mem_append,List.mem_singleton] at this;exact this.symm
def aNA (l : List Wt) : List Wt := (dnM l.length (bH l 0 (l.length - 1)) 0 (l.length - 1)).1
theorem kX {l : List Wt} (h : l ≠ []) : (aNA l).length = l.length /\ ∀ y,y ∈ aNA l -> y ∈ l := by
 have hl := List.length_pos_iff.2 h;obtain ⟨h1,h2⟩ := aPF l.length (bH l 0 (l.length - 1)) 0 (l.length - 1) (by rw [bE]; omega) (by rw [bE]; exact hl);exact ⟨h1.trans (bE _ _ _),fun y hy => x8 hl (by omega) (h2 y hy)⟩
def aD (l : List Wt) : Wt := (aNA l).getD (l.length - 1) Wt.z
def bL (l : List Wt) : List Wt := (aNA l).take (l.length - 1)
theorem aDR {l : List Wt} (h : l ≠ []) : aD l ∈ l := by
 obtain ⟨h1,h2⟩ := kX h;have hl := List.length_pos_iff.2 h;exact h2 _ (bF (by omega))
theorem rst_in {l : List Wt} (h : l ≠ []) : (bL l).length = l.length - 1 /\ ∀ y,y ∈ bL l -> y ∈ l := by
 obtain ⟨h1,h2⟩ := kX h;exact ⟨by rw [bL,lt1]; omega,fun y hy => h2 y (List.mem_of_mem_take hy)⟩
structure Tb where
 lost : Bool
 copies : Int
 delay : Int
def Tb.z : Tb := ⟨false,0,0⟩
def TbD (x : Tb) : List D := [.b x.lost,.i x.copies,.i x.delay]
def aK (l : List Tb) : LD := l.map TbD
theorem aU (l : List Tb) : (aK l).length = l.length := by simp [aK]
structure QOk (T c : Nat) (U : List (List UInt8)) (l : List Wt) : Prop where
 len : l.length <= c
 t0 : ∀ x,x ∈ l -> 0 <= x.t
 tT : ∀ x,x ∈ l -> x.t <= (T : Int)
 m : ∀ x,x ∈ l -> MsOk U x.m
theorem QOk.up {T c T' c' : Nat} {U : List (List UInt8)} {l : List Wt} (h : QOk T c U l) (hT : T <= T') (hc : c <= c') : QOk T' c' U l := ⟨Nat.le_trans h.len hc,h.t0,fun x hx => by have := h.tT x hx; omega,h.m⟩
theorem QOk.us {T c : Nat} {U U' : List (List UInt8)} {l : List Wt} (h : QOk T c U l) (hU : ∀ x,MsOk U x -> MsOk U' x) : QOk T c U' l := ⟨h.len,h.t0,h.tT,fun x hx => hU _ (h.m x hx)⟩
theorem lN (T c : Nat) (U : List (List UInt8)) : QOk T c U [] := ⟨zl _,by simp,by simp,by simp⟩
theorem q_psh {T c : Nat} {U : List (List UInt8)} {l : List Wt} (h : QOk T c U l) {x : Wt} (h0 : 0 <= x.t) (hT : x.t <= (T : Int)) (hm : MsOk U x.m) : QOk T (c + 1) U (uZ l x) := by
 obtain ⟨h1,h2⟩ := aG3 l x;refine ⟨by have := h.len; omega,fun y hy => ?_,fun y hy => ?_,fun y hy => ?_⟩
 all_goals rcases h2 y hy with rfl | hy'
 ·exact h0
 ·exact h.t0 y hy'
 ·exact hT
 ·exact h.tT y hy'
 ·exact hm
 ·exact h.m y hy'
theorem q_rst {T c : Nat} {U : List (List UInt8)} {l : List Wt} (h : QOk T c U l) (hn : l ≠ []) : QOk T c U (bL l) := by
 obtain ⟨h1,h2⟩ := rst_in hn;exact ⟨by have := h.len; omega,fun y hy => h.t0 y (h2 y hy),fun y hy => h.tT y (h2 y hy),fun y hy => h.m y (h2 y hy)⟩
end Go.Proofs.YtclaplngjmgnoaaGreatDoor
namespace Go.Proofs.YtclaplngjmgnoaaGreatDoor
open Go.ChangeShapes Go.WideShapes Go.ChangeAt Go.RowKit Go.V
section
variable {H : Type} {enc : TypeId × Value -> H} {P : Program} {W : World}
theorem rd_tbs {b : Nat} {t e i s : TypeId} {v : Value} {d : DataW H} {ps : List MemPlace} (ht : P.underlying t = some (.slice e)) (he : aCN P e = true) (ce : P.cellsOf e = 3) (hi : P.underlying i = some (.int .i64)) (hs : P.underlying s = some .bool) (ci : P.cellsOf i = 1) (cs_ : P.cellsOf s = 1)
  (f0 : ((lM P e)[0]?).map (fun f => (f.type,f.offset)) = some (s,0)) (f1 : ((lM P e)[1]?).map (fun f => (f.type,f.offset)) = some (i,1)) (f2 : ((lM P e)[2]?).map (fun f => (f.type,f.offset)) = some (i,2))
  (hval : Value.okWide P W .any b t v) (hd : DataW.Trod enc P W 0 (fun _ => true) true t v d ps) : ∃ l : List Tb,Rd W (Sh pl0 (lookO [])) (.sl 3 (aK l)) v := by
 obtain ⟨fuel,hf⟩ := hd;have hv := rW ht hval;rw [one_cell ht hv] at hf;rcases Deep.open_slice ht hf with ⟨h1,_⟩ | ⟨a,len,cap,m,n,Dd,Pp,h1,hb,hl,hm,hmm,_,hx⟩
 simp only [List.cons.injEq,and_true] at h1;subst h1;exact ⟨[],Rd.nil 3⟩;simp only [List.cons.injEq,and_true] at h1;subst h1;simp only [if_true] at hmm;subst hmm;rw [ce] at hx;have each : ∀ r,r < m -> ∃ y : Bool × Int × Int,W.cell? (a.add (r * 3)) = some (.bool y.1) /\ W.cell? ((a.add (r * 3)).add 1) = some (.int .i64 y.2.1) /\ W.cell? ((a.add (r * 3)).add 2) = some (.int .i64 y.2.2) := by
  intro r hr;obtain ⟨cs',hc,hd⟩ := hx r hr;obtain ⟨_,hlen,hcell⟩ := World.cells?_some hc
  match cs',hlen,hcell,hd with
  | [c0,c1,c2],_,hcell,hd =>
   have w0 := hcell 0 (by decide);have w1 := hcell 1 (by decide);have w2 := hcell 2 (by decide);obtain ⟨_,_,t0⟩ := lW he f0 cs_ hd;obtain ⟨_,_,t1⟩ := lW he f1 ci hd;obtain ⟨_,_,t2⟩ := lW he f2 ci hd;obtain ⟨n0,e0,_⟩ := DataW.trod_bool hs t0;obtain ⟨n1,e1,_⟩ := DataW.trod_int hi t1;obtain ⟨n2,e2,_⟩ := DataW.trod_int hi t2;simp only [List.drop_zero,List.take_succ_cons,List.take_zero,List.cons.injEq,and_true] at e0;simp only [List.drop_succ_cons,List.drop_zero,List.take_succ_cons,List.take_zero,List.cons.injEq,and_true] at e1 e2;subst e0 e1 e2;have a0 : a.add (r * 3) = (a.add (r * 3)).add 0 := by simp [Addr.add]
   refine ⟨(n0,n1,n2),?_,by simpa using w1,by simpa using w2⟩;rw [a0]; simpa using w0
 obtain ⟨y,hy⟩ := Deep.choose_lt each;rcases rX ht hv with h | ⟨bl,off,len',cap',c,ty,fz,h,hbb⟩
 simp at h;simp only [Value.slice.injEq,oIQ] at h;obtain ⟨rfl,rfl,rfl⟩ := h
 let f : Nat -> Tb := fun r => ⟨(y r).1,(y r).2.1,(y r).2.2⟩
 have el : (aK ((List.range len).map f)).length = len := by simp [aK]
 have get : ∀ {i : Nat} {ds : List D},(aK ((List.range len).map f))[i]? = some ds -> i < len /\ ds = TbD (f i) := by
  intro i ds h;have hi := (gsQ.1 h).1;rw [el] at hi;simp only [aK,List.map_map,List.getElem?_map,List.getElem?_range hi,Option.map_some,oIQ,Function.comp] at h;exact ⟨hi,h.symm⟩
 refine ⟨(List.range len).map f,?_⟩;have key : Rd W (Sh pl0 (lookO [])) (.sl 3 (aK ((List.range len).map f))) (.slice (some ⟨bl,off,none⟩) (aK ((List.range len).map f)).length m) := by
  refine Rd.sl (us := fun i j => match j with | 0 => .bool (y i).1 | 1 => .int .i64 (y i).2.1 | _ => .int .i64 (y i).2.2) (sh0 _) hbb (by rw [el]; exact hl) hm ?_ ?_ ?_;intro ds hds;simp only [aK,mm] at hds;obtain ⟨n,_,rfl⟩ := hds;rfl;intro i j ds d hi hj;obtain ⟨hi,rfl⟩ := get hi;obtain ⟨h0,h1,h2⟩ := hy i (by omega);have ea : ∀ q,Addr.add ⟨bl,off,none⟩ q = ⟨bl,off + q,none⟩ := by
   intro q;unfold Addr.add;split <;> simp_all
  rw [ea] at h0 h1 h2;have eb : ∀ q o,Addr.add ⟨bl,o,none⟩ q = ⟨bl,o + q,none⟩ := by
   intro q o;unfold Addr.add;split <;> simp_all
  rw [eb] at h1 h2;simp only [World.cell?,hbb] at h0 h1 h2
  match j,hj with
  | 0,hj => simpa using h0
  | 1,hj => simpa using h1
  | 2,hj => simpa using h2
  intro i j ds d hi hj;obtain ⟨hi,rfl⟩ := get hi
  match j,hj with
  | 0,hj => simp only [TbD,cz,oIQ] at hj; subst hj; exact Rd.v _ rfl
  | 1,hj => simp only [TbD,List.getElem?_cons_succ,cz,oIQ] at hj; subst hj; exact Rd.v _ rfl
  | 2,hj => simp only [TbD,List.getElem?_cons_succ,cz,oIQ] at hj; subst hj; exact Rd.v _ rfl
 rw [el] at key;exact key
end
end Go.Proofs.YtclaplngjmgnoaaGreatDoor
