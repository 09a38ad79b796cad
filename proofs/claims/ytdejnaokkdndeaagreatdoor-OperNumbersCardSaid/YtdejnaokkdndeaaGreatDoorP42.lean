/- Part 42 of the proof: texts K5, K6. -/
import Derived.Test.YtdejnaokkdndeaaGreatDoorP41
set_option linter.all false
namespace Go.Proofs.YtdejnaokkdndeaaGreatDoor
open Go.RowKit Go.V
variable {m : Int}
def eRight : Ent Tryz.prog (Gl (gT m)) where
 f := 20
 ask := aRight
 ok := by
  intro k ins refs post out cs h hc
  unfold aRight at h
  split at h
  ·split at h
   ·rename_i v hv
    cases h
    obtain ⟨rfl, h1, h2⟩ := vDec_eq hv
    obtain ⟨c1, c2⟩ : cRight v := hc
    have := right_ok (g := gT m) v c2
    rw [c1] at this
    exact nil1 h1 h2 this
   ·cases h
  ·cases h
def eAdd (rn rs : Int) (rb : Bool) : Ent Tryz.prog (Gl (gT m)) where
 f := 204
 ask := aAdd rn rs rb
 ok := by
  intro k ins refs post out cs h hc
  unfold aAdd at h
  split at h
  ·split at h
   ·rename_i a b c d hx hy
    cases h
    have := dDec_eq hx; have := dDec_eq hy
    subst_vars
    obtain ⟨c1, c2, c3⟩ : cAdd a b c d rn rs rb := hc
    exact decAdd_ok a b c d rn rs rb c1 c2 c3
   ·cases h
  ·cases h
def eSub (rn rs : Int) (rb : Bool) : Ent Tryz.prog (Gl (gT m)) where
 f := 205
 ask := aSub rn rs rb
 ok := by
  intro k ins refs post out cs h hc
  unfold aSub at h
  split at h
  ·split at h
   ·rename_i a b c d hx hy
    cases h
    have := dDec_eq hx; have := dDec_eq hy
    subst_vars
    obtain ⟨c1, c2, c3⟩ : cSub a b c d rn rs rb := hc
    exact decSub_ok a b c d rn rs rb c1 c2 c3
   ·cases h
  ·cases h
def eCmp (r : Nat → Int) : Ent Tryz.prog (Gl (gT m)) where
 f := 208
 ask := aCmp r
 ok := by
  intro k ins refs post out cs h hc
  unfold aCmp at h
  split at h
  ·split at h
   ·rename_i a b c d hx hy
    cases h
    have := dDec_eq hx; have := dDec_eq hy
    subst_vars
    obtain ⟨c1, c2, c3⟩ : cCmp a b c d (r k) := hc
    rw [← c3]
    exact decCmp_ok a b c d c1 c2
   ·cases h
  ·cases h
def eEq (r : Bool) : Ent Tryz.prog (Gl (gT m)) where
 f := 212
 ask := aEq r
 ok := by
  intro k ins refs post out cs h hc
  unfold aEq at h
  split at h
  ·split at h
   ·rename_i v w hx hy
    cases h
    obtain ⟨rfl, h1, h2⟩ := vDec_eq hx
    obtain ⟨rfl, h3, h4⟩ := vDec_eq hy
    have c : cSame v w r := hc
    unfold cSame at c
    have := equal_ok (m := m) v w
    rw [c] at this
    exact nil2 h1 h2 h3 h4 this
   ·cases h
  ·cases h
def eREq (r : Bool) : Ent Tryz.prog (Gl (gT m)) where
 f := 19
 ask := aEq r
 ok := by
  intro k ins refs post out cs h hc
  unfold aEq at h
  split at h
  ·split at h
   ·rename_i v w hx hy
    cases h
    obtain ⟨rfl, h1, h2⟩ := vDec_eq hx
    obtain ⟨rfl, h3, h4⟩ := vDec_eq hy
    have c : cSame v w r := hc
    unfold cSame at c
    have := refEqual_ok (g := gT m) v w
    rw [c] at this
    exact nil2 h1 h2 h3 h4 this
   ·cases h
  ·cases h
def eOf : Ent Tryz.prog (Gl (gT m)) where
 f := 268
 ask := aOf
 ok := by
  intro k ins refs post out cs h hc
  unfold aOf at h
  split at h
  ·cases h
   exact decOf_ok _ hc
  ·cases h
def eTxt : Ent Tryz.prog (Gl (gT m)) where
 f := 203
 ask := aTxt
 ok := by
  intro k ins refs post out cs h hc
  unfold aTxt at h
  split at h
  ·split at h
   ·rename_i a b hx
    cases h
    have := dDec_eq hx
    subst_vars
    exact decText_ok a b hc
   ·cases h
  ·cases h
def eTV : Ent Tryz.prog (Gl (gT m)) where
 f := 188
 ask := aTV
 ok := by
  intro k ins refs post out cs h hc
  unfold aTV at h
  split at h
  ·cases h
   exact textV_ok _ hc
  ·cases h
def ePar (n s : Int) : Ent Tryz.prog (Gl (gT m)) where
 f := 189
 ask := aPar n s
 ok := by
  intro k ins refs post out cs h hc
  unfold aPar at h
  split at h
  ·rename_i t
   cases h
   obtain ⟨c1, c2⟩ : cPar t n s := hc
   subst c2
   obtain ⟨e1, e2, e3⟩ := decR_yes c1 rfl
   have := decParse_ok (g := gT m) (decT n s) (by have := decT_len18 c1; omega)
   rw [e1, e2, e3] at this
   exact this
  ·cases h
def eDay : Ent Tryz.prog (Gl (gT m)) where
 f := 211
 ask := aDay
 ok := by
  intro k ins refs post out cs h hc
  unfold aDay at h
  split at h
  ·cases h
   obtain ⟨c1, c2⟩ := hc
   exact dayAdd_ok _ _ c1 c2
  ·cases h
def eSan : Ent Tryz.prog (Gl (gT m)) where
 f := 10
 ask := aSan
 ok := by
  intro k ins refs post out cs h hc
  unfold aSan at h
  split at h
  ·cases h
   exact sanity_ok m
  ·cases h
def eNum : Ent Tryz.prog (Gl (gT m)) where
 f := 21
 ask := aNum
 ok := by
  intro k ins refs post out cs h hc
  unfold aNum at h
  split at h
  ·rename_i kind es k'
   cases h
   obtain ⟨c1, c2, c3⟩ : cNum es k' kind := hc
   have := numCell_ok (g := gT m) (unI es) k' kind c2 (by omega)
   have e1 : (cvM (unI es) k' kind).1.kind = kind ∧ (cvM (unI es) k' kind).1.s = [] := by
    rcases c3 with rfl | rfl <;> simp [cvM] <;> split <;> simp
   rw [e1.1, e1.2, ← c1] at this
   exact this
  ·cases h
end Go.Proofs.YtdejnaokkdndeaaGreatDoor
namespace Go.Proofs.YtdejnaokkdndeaaGreatDoor
open Go.RowKit Go.V
variable {m : Int}
noncomputable def TN (rn rs sn ss pn ps : Int) (rb eq : Bool) (cm : Nat → Int) : List (Ent Tryz.prog (Gl (gT m))) := [eSan, eNum, eRight, eAdd rn rs rb, eSub sn ss true, eCmp cm, eREq true, eEq eq, eOf, eTxt, eTV, ePar pn ps, eDay]
def onAt (k : Nat) : Nat → Option Bool := fun n => bif Nat.beq n k then some true else none
def cmAt (k : Nat) (a b : Int) : Nat → Int := fun n => bif Nat.blt n k then a else b
def vN (es : List (List D)) : Vl := nmV es 0 2
def vD (es : List (List D)) : Vl := nmV es 0 3
def nm (n s : Int) : Vl := ⟨2, [], n, s, 0, [], []⟩
def tx (t : List UInt8) : Vl := ⟨1, (S t).data.toList, 0, 0, 0, [], []⟩
def dt (n : Int) : Vl := ⟨3, [], 0, 0, n, [], []⟩
def insN (a b c d : List (List D)) : List SV := [.agg [.d (.sl 1 a), .d (.sl 1 b), .d (.sl 1 c), .d (.sl 1 d)]]
noncomputable def runY (m : Int) (a b c d : List (List D)) (rn rs : Int) (x y : Int) (eq : Bool) : Option (SV × List Prop) :=
 topX (TN (m := m) rn rs (vN a).dn (vN a).ds (vN a).dn (vN a).ds true eq (cmAt 1500 x y)) N0e D0e (onAt 2581) (fun _ => none) 100000 60 5 (insN a b c d)
noncomputable def runZ (m : Int) (a b c d : List (List D)) (x y : Int) (eq : Bool) : Option (SV × List Prop) :=
 topX (TN (m := m) 0 0 0 0 (vN a).dn (vN a).ds false eq (cmAt 1100 x y)) N0e D0e (onAt 2182) (fun _ => none) 100000 60 5 (insN a b c d)
def csR (a b c d : List (List D)) (x y : Int) (eq : Bool) : List Prop → List Prop := fun r =>
 cSame (dt ((vD c).n + ((vD d).n - (vD c).n))) (vD d) true :: cDay (vD c).n ((vD d).n - (vD c).n) :: cRight (nm ((vD d).n - (vD c).n) 0) :: cRight (vD c) ::
 cSame (nm (vN a).dn (vN a).ds) (vN a) true :: cPar (S (decT (vN a).dn (vN a).ds)) (vN a).dn (vN a).ds :: cRight (tx (decT (vN a).dn (vN a).ds)) :: cTxt (vN a).dn (vN a).ds :: cTV (S (decT (vN a).dn (vN a).ds)) :: cRight (vN a) ::
 Go.Eng.inR ((vD d).n - (vD c).n) :: cOf ((vD d).n - (vD c).n) :: cRight (vD d) :: cRight (vD c) ::
 cSame (vN a) (vN b) eq :: cRight (vN b) :: cRight (vN a) ::
 cCmp (vN b).dn (vN b).ds (vN a).dn (vN a).ds y :: cRight (vN a) :: cRight (vN b) ::
 cCmp (vN a).dn (vN a).ds (vN b).dn (vN b).ds x :: cRight (vN b) :: cRight (vN a) :: r
def csE (a b c d : List (List D)) (rn rs : Int) (rb : Bool) : List Prop :=
 [cAdd (vN a).dn (vN a).ds (vN b).dn (vN b).ds rn rs rb, cRight (vN b), cRight (vN a), cNum d 0 3, cNum c 0 3, cNum b 0 2, cNum a 0 2]
def csY (a b c d : List (List D)) (rn rs x y : Int) (eq : Bool) : List Prop :=
 csR a b c d x y eq (cSame (nm (vN a).dn (vN a).ds) (vN a) true :: cSub rn rs (vN b).dn (vN b).ds (vN a).dn (vN a).ds true :: cRight (vN b) :: cRight (nm rn rs) :: csE a b c d rn rs true)
def csZ (a b c d : List (List D)) (x y : Int) (eq : Bool) : List Prop := csR a b c d x y eq (csE a b c d 0 0 false)
end Go.Proofs.YtdejnaokkdndeaaGreatDoor
