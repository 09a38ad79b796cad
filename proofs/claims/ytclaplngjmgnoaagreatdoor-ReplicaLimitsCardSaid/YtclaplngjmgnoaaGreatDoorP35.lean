/- Part 35 of the proof: texts V33l, V33m, V33n, X1, X2, XO, X3, XF. -/
import Derived.Test.YtclaplngjmgnoaaGreatDoorP28
import Derived.Test.YtclaplngjmgnoaaGreatDoorP34
import Derived.Lib.AppendZerosOnto
set_option linter.all false
namespace Go.Proofs.YtclaplngjmgnoaaGreatDoor
open Go.RowKit Go.V
open Go.Eng (inR byteAt u8 bytesV)
variable {g : Gv}
def itW (id a t : Int) : It := ⟨id, a, 0, t, 4, [], none, [], [], [0]⟩
theorem n_lit {n : Int} (h : decide (-1000000 ≤ n) && decide (n ≤ 1000000) = true) : nOk n := by
 simp only [Bool.and_eq_true, decide_eq_true_eq] at h
 exact ⟨by omega, by omega⟩
theorem itW_ok {id a t : Int} (h1 : nOk id) (h2 : nOk a) (h3 : nOk t) : ItOk (itW id a t) :=
 ⟨h1, h2, n_lit (n := 0) (by decide), h3, n_lit (n := 4) (by decide), by simp [itW], by simp [itW], (by show isTextB (S []) = true; decide), by simp [itW], by simp [itW], by simp [itW], by intro n hn; simp [itW] at hn; subst hn; exact n_lit (by decide)⟩
def one : It := itW 5 1 1
def two : It := itW 5 2 3
def tx1 : List UInt8 := itT one
def tx2 : List UInt8 := itT two
def sA : RS := [(tx1, false)]
def sB : RS := [(tx2, false)]
def sC : RS := [(tx1, false), (tx2, false)]
def sD : RS := [(tx1, true), (tx2, true)]
theorem one_ok : ItOk one := itW_ok (n_lit (by decide)) (n_lit (by decide)) (n_lit (by decide))
theorem two_ok : ItOk two := itW_ok (n_lit (by decide)) (n_lit (by decide)) (n_lit (by decide))
theorem of1 : itOf tx1 = one := itOf_it one_ok
theorem of2 : itOf tx2 = two := itOf_it two_ok
theorem tx12 : tx1 < tx2 := by decide +kernel
theorem it1 : IsIt tx1 := ⟨one, one_ok, rfl⟩
theorem it2 : IsIt tx2 := ⟨two, two_ok, rfl⟩
theorem rs_lit {es : RS} (h1 : kSort es) (hl : es.length ≤ 4000) (h : ∀ x, x ∈ es → x.1 = tx1 ∨ x.1 = tx2) : RsOk 2 es :=
 ⟨h1, hl, fun x hx => by
  rcases h x hx with e | e
  ·rw [e]; exact it1
  ·rw [e]; exact it2, fun x hx => by
  rcases h x hx with e | e
  ·rw [e, of1]; decide
  ·rw [e, of2]; decide⟩
theorem k1 (x : List UInt8) (b : Bool) : kSort [(x, b)] := List.pairwise_singleton _ _
theorem k2 (b c : Bool) : kSort [(tx1, b), (tx2, c)] := by
 show List.Pairwise _ [tx1, tx2]
 rw [List.pairwise_cons]
 exact ⟨fun x hx => by rw [List.mem_singleton.1 hx]; exact tx12, List.pairwise_singleton _ _⟩
theorem rs0 (n : Int) : RsOk n [] := ⟨List.Pairwise.nil, by simp, by simp, by simp⟩
theorem rsA : RsOk 2 sA := rs_lit (k1 _ _) (by simp [sA]) (by intro x hx; simp [sA] at hx; subst hx; exact .inl rfl)
theorem rsB : RsOk 2 sB := rs_lit (k1 _ _) (by simp [sB]) (by intro x hx; simp [sB] at hx; subst hx; exact .inr rfl)
theorem rsC : RsOk 2 sC := rs_lit (k2 _ _) (by simp [sC]) (by intro x hx; simp [sC] at hx; rcases hx with rfl | rfl <;> simp)
theorem rsD : RsOk 2 sD := rs_lit (k2 _ _) (by simp [sD]) (by intro x hx; simp [sD] at hx; rcases hx with rfl | rfl <;> simp)
theorem gA : giveE 1 [] one = 0 ∧ giveS 1 [] one = sA := by
 have := give_yes (a := 1) (es := []) (i := one) rfl rfl (by simp [ownC])
 exact ⟨this.1, this.2.trans rfl⟩
theorem gB : giveE 2 [] two = 0 ∧ giveS 2 [] two = sB := by
 have := give_yes (a := 2) (es := []) (i := two) rfl rfl (by simp [ownC])
 exact ⟨this.1, this.2.trans rfl⟩
theorem gD : giveE 1 sD one = 33 ∧ giveS 1 sD one = sD := give_twice (a := 1) (es := sD) (i := one) rfl (by simp [sD, lkM, tx1])
theorem jBA : jnV sB sA = sC ∧ moreB sB sA = true := by decide +kernel
theorem jAB : jnV sA sB = sC ∧ moreB sA sB = true := by decide +kernel
theorem jCD : jnV sC sD = sD ∧ moreB sC sD = false := by decide +kernel
theorem liC : liveL sC = [one, two] := by simp [liveL, sC, of1, of2, List.filter]
theorem liD : liveL sD = [] := by simp [liveL, sD, List.filter]
theorem inC : inF (liveL sC) = [two] := by rw [liC]; decide +kernel
theorem inD : inF (liveL sD) = [] := by rw [liD]; decide +kernel
theorem wdC : wdR 5 sC = sD ∧ wdE 5 sC = 0 := by
 have h1 : (itOf tx1).id = 5 := by rw [of1]; rfl
 have h2 : (itOf tx2).id = 5 := by rw [of2]; rfl
 have e1 : wdS 5 sC 1 = ([(tx1, true), (tx2, false)], true) := by
  have : (lkM tx1 sC).getD false = false := by decide +kernel
  show (bif decide ((itOf tx1).id = 5) && !((lkM tx1 sC).getD false) then _ else _) = _
  rw [h1, this]
  show (updM ltS tx1 true sC, true) = _
  exact congrArg (·, true) (by decide +kernel)
 have e2 : wdS 5 sC 2 = (sD, true) := by
  have : (lkM tx2 [(tx1, true), (tx2, false)]).getD false = false := by decide +kernel
  show (bif decide ((itOf tx2).id = 5) && !((lkM tx2 (wdS 5 sC 1).1).getD false) then _ else _) = _
  rw [h2, e1, this]
  show (updM ltS tx2 true [(tx1, true), (tx2, false)], true) = _
  exact congrArg (·, true) (by decide +kernel)
 exact ⟨congrArg (·.1) e2, by show (bif (wdS 5 sC 2).2 then _ else _) = _; rw [e2]; rfl⟩
theorem encD_sz : (0 : Int) ≤ 0 ∧ (0 : Int) ≤ 1 ∧ (1 : Int) ≤ ((S (encT sD)).size : Int) := by
 rw [S_size]; simp [encT, sD, lineT]; omega
theorem enc_s1 : ((S (encT sD)).toList == (S (encT sD)).toList) = true := by simp
theorem enc_s2 : (((S (encT sD)).extract 0 1).toList == (S [45]).toList) = true := by
 have e : (S (encT sD)).extract 0 1 = S [45] := by
  have := S_cut (encT sD) 0 1
  rw [this]; simp [encT, sD, lineT]
 rw [e]; simp
theorem len2 : decide (((S (itT two)).size : Int) > 0) = true := by
 rw [S_size, itT_head]; simp; omega
theorem give_w (a n : Int) (es es' : RS) (id b t e : Int) (hes : RsOk n es) (hi : ItOk (itW id b t)) (h : giveE a es (itW id b t) = e ∧ giveS a es (itW id b t) = es') :
  SpG g 22 [.c (.bx 0 0), .agg [.d (.i id), .d (.i b), .d (.i 0), .d (.i t), .d (.i 4), .d .nil, .d (.i 0), .d (.s (S [])), .d (.i 0), .d (.i 0), .d (.i 0), .d .nil, .d .nil, .d (.s (S [])), .d (.s (S [])), .d (.sl 1 [[.i 0]])]] [(0, .box 73 [.d (.i a), .d (.i n), .mp 1]), (1, .box ⟨.mpb (es), none⟩ [])] (.c (.d (.i e))) [(0, .box 73 [.d (.i a), .d (.i n), .mp 1]), (1, .box ⟨.mpb (es'), none⟩ [])] := by
 obtain ⟨h1, h2⟩ := h
 subst h1 h2
 exact spec_mask [[none], [none, none, none, none, none, some 7, none, none, none, none, none, some 1, some 1, none, none, none]] (give_ok a n es (itW id b t) hes hi)
theorem tick_w (a n : Int) (es : RS) (l : List (List V.D)) (hes : RsOk n es) (h0 : 0 ≤ n) (h8 : n ≤ 8) (h : mssD a (encT es) (tkL a n.toNat) = l) :
  SpG g 25 [.c (.bx 0 0)] [(0, .box 73 [.d (.i a), .d (.i n), .mp 1]), (1, .box ⟨.mpb (es), none⟩ [])] (.c (.d (.sl 3 l))) [(0, .box 73 [.d (.i a), .d (.i n), .mp 1]), (1, .box ⟨.mpb (es), none⟩ [])] := by
 subst h; exact tick_ok a n es hes h0 h8
theorem take_m (a n f : Int) (es ms fs : RS) (hes : RsOk n es) (hms : RsOk n ms) (hl : es.length + ms.length ≤ 4000) (hf1 : 1 ≤ f) (hf2 : f ≤ n) (hfa : ¬ f = a) (h : jnV es ms = fs ∧ moreB es ms = true) :
  SpG g 19 [.c (.bx 0 0), .agg [.d (.i f), .d (.i a), .d (.s (S (encT ms)))]] [(0, .box 73 [.d (.i a), .d (.i n), .mp 1]), (1, .box ⟨.mpb (es), none⟩ [])] (.c (.d (.sl 3 [msD a (encT fs) f]))) [(0, .box 73 [.d (.i a), .d (.i n), .mp 1]), (1, .box ⟨.mpb (fs), none⟩ [])] := by
 obtain ⟨h1, h2⟩ := h
 subst h1; exact take_more a n f es ms hes hms hl hf1 hf2 hfa h2
theorem take_l (a n f : Int) (es ms fs : RS) (hes : RsOk n es) (hms : RsOk n ms) (hl : es.length + ms.length ≤ 4000) (hf1 : 1 ≤ f) (hf2 : f ≤ n) (hfa : ¬ f = a) (h : jnV es ms = fs ∧ moreB es ms = false) :
  SpG g 19 [.c (.bx 0 0), .agg [.d (.i f), .d (.i a), .d (.s (S (encT ms)))]] [(0, .box 73 [.d (.i a), .d (.i n), .mp 1]), (1, .box ⟨.mpb (es), none⟩ [])] (.c (.d .nil)) [(0, .box 73 [.d (.i a), .d (.i n), .mp 1]), (1, .box ⟨.mpb (fs), none⟩ [])] := by
 obtain ⟨h1, h2⟩ := h
 subst h1; exact take_less a n f es ms hes hms hl hf1 hf2 hfa h2
theorem force_w (a n : Int) (es : RS) (l : List It) (hes : RsOk n es) (h : inF (liveL es) = l) :
  SpG g 16 [.c (.bx 0 0)] [(0, .box 73 [.d (.i a), .d (.i n), .mp 1]), (1, .box ⟨.mpb (es), none⟩ [])] (.c (.d (.sl 16 (itsD l)))) [(0, .box 73 [.d (.i a), .d (.i n), .mp 1]), (1, .box ⟨.mpb (es), none⟩ [])] := by
 subst h; exact inforce_ok a n es hes
theorem withdraw_w (a n id e : Int) (es fs : RS) (hes : RsOk n es) (h : wdR id es = fs ∧ wdE id es = e) :
  SpG g 23 [.c (.bx 0 0), .c (.d (.i id))] [(0, .box 73 [.d (.i a), .d (.i n), .mp 1]), (1, .box ⟨.mpb (es), none⟩ [])] (.c (.d (.i e))) [(0, .box 73 [.d (.i a), .d (.i n), .mp 1]), (1, .box ⟨.mpb (fs), none⟩ [])] := by
 obtain ⟨h1, h2⟩ := h
 subst h1 h2; exact withdraw_ok a n id es hes
theorem new2_ok_ (a n : Int) (h : permB a n = true) :
  SpG g 17 [.c (.d (.i a)), .c (.d (.i n))] [] (.c (.bx 100 0)) [(100, .box 73 [.d (.i a), .d (.i n), .mp 102]), (102, .box ⟨.mpb ([]), none⟩ [])] := by
 simp only [permB, Bool.and_eq_true, decide_eq_true_eq] at h
 refine enterB 25 Tryz.func17 (by kernel_rfl) fun fr hG => ?_
 refine zC hG [] [1, 0, 1] ((((decide ((n : Int) < 1)) || (decide ((n : Int) > 8))) || (decide ((a : Int) < 1))) || (decide ((a : Int) > n))) (⟨[(0, [], .c (.d (.i a))), (1, [], .c (.d (.i n))), (4, [], .c (.d (.v (.pointer none))))], []⟩) (by kernel_rfl) conj0 (fun hc1 => ?_) (fun hc1 => ?_)
 ·(try simp only [blS] at hc1)
  exfalso; omega
 ·(try simp only [blS] at hc1)
  exact zr hG [(3, 2, .mask [])] [404, 77777, 402] (by kernel_rfl) conj0
theorem new2_ok (a n : Int) (h : permB a n = true) :
  SpG g 17 [.c (.d (.i a)), .c (.d (.i n))] [] (.c (.bx 100 0)) [(100, .box 73 [.d (.i a), .d (.i n), .mp 102]), (102, .box ⟨.mpb ([]), none⟩ [])] := by
 refine spec_look (new2_ok_ a n h) ?_
 first | rfl | (funext i; simp only [lookO_cons, upd]; ((repeat' split) <;> first | rfl | (exfalso; omega)))
theorem sanity_ok  :
  SpG g 10 [] [] (.c (.d (.b true))) [] := by
 refine enterB 141 Tryz.func10 (by kernel_rfl) fun fr hG => ?_
 refine zC hG [(1, 0, .callG (.c (.bx 100 0)) [] [(100, .box 73 [.d (.i 1), .d (.i 2), .mp 102]), (102, .box ⟨.mpb ([]), none⟩ [])]), (1, 1, .callG (.c (.bx 100 0)) [] [(100, .box 73 [.d (.i 2), .d (.i 2), .mp 102]), (102, .box ⟨.mpb ([]), none⟩ [])])] [1, 0, 1, 1] (false) (⟨[(0, [], .c (.d (.b false))), (1, [], .c (.bx 200 0)), (2, [], .c (.bx 201 0))], [(200, .box 73 [.d (.i 1), .d (.i 2), .mp 202]), (201, .box 73 [.d (.i 2), .d (.i 2), .mp 203]), (202, .box ⟨.mpb ([]), none⟩ []), (203, .box ⟨.mpb ([]), none⟩ [])]⟩) (by kernel_rfl) (conjC ((new2_ok 1 2 (by decide) : SpG g _ _ _ _ _)) (conj1 ((new2_ok 2 2 (by decide) : SpG g _ _ _ _ _)))) (fun hc1 => absurd hc1 (by decide)) (fun _ => ?_)
 refine zC hG [(7, 2, .callG (.c (.d (.i 0))) [200, 202] [(0, .box 73 [.d (.i 1), .d (.i 2), .mp 1]), (1, .box ⟨.mpb (sA), none⟩ [])]), (7, 7, .callG (.c (.d (.i 0))) [201, 203] [(0, .box 73 [.d (.i 2), .d (.i 2), .mp 1]), (1, .box ⟨.mpb (sB), none⟩ [])])] [1, 0, 1, 1, 1, 1, 1, 1] (false) (⟨[(0, [], .c (.d (.b false))), (1, [], .c (.bx 200 0)), (2, [], .c (.bx 201 0)), (3, [], .c (.bx 502 0)), (4, [], .c (.bx 601 0))], [(200, .box 73 [.d (.i 1), .d (.i 2), .mp 202]), (201, .box 73 [.d (.i 2), .d (.i 2), .mp 203]), (202, .box ⟨.mpb (sA), none⟩ []), (203, .box ⟨.mpb (sB), none⟩ []), (500, .arr 0 3 1 (([[.i 0]] : List (List D)))), (502, .box 63 [.d (.i 5), .d (.i 1), .d (.i 0), .d (.i 1), .d (.i 4), .d (.nil), .d (.i 0), .d (.s (S [])), .d (.i 0), .d (.i 0), .d (.i 0), .d (.nil), .d (.nil), .d (.s (S [])), .d (.s (S [])), .ar 500 0]), (601, .box 63 [.d (.i 5), .d (.i 2), .d (.i 0), .d (.i 3), .d (.i 4), .d (.nil), .d (.i 0), .d (.s (S [])), .d (.i 0), .d (.i 0), .d (.i 0), .d (.nil), .d (.nil), .d (.s (S [])), .d (.s (S [])), .ar 500 0])]⟩) (by kernel_rfl) (conjC ((give_w 1 2 [] sA 5 1 1 0 (rs0 2) one_ok gA : SpG g _ _ _ _ _)) (conjC (show false = false ∧ True from (by simp [enc_s1, enc_s2]; done)) (conj1 (fun (hg1 : false = false) => ((give_w 2 2 [] sB 5 2 3 0 (rs0 2) two_ok gB : SpG g _ _ _ _ _)))))) (fun hc2 => absurd hc2 (by decide)) (fun _ => ?_)
 refine zC hG [(9, 1, .callG (.c (.d (.sl 3 (([[.i 1, .i 2, .s (S (encT sA))]] : List (List V.D)))))) [200, 202] ((99999, .box 0 []) :: [(0, .box 73 [.d (.i 1), .d (.i 2), .mp 1]), (1, .box ⟨.mpb (sA), none⟩ [])])), (9, 3, .callG (.c (.d (.sl 3 (([[.i 2, .i 1, .s (S (encT sB))]] : List (List V.D)))))) [201, 203] ((99999, .box 0 []) :: [(0, .box 73 [.d (.i 2), .d (.i 2), .mp 1]), (1, .box ⟨.mpb (sB), none⟩ [])])), (10, 11, .elem ([.i 1, .i 2, .s (S (encT sA))])), (10, 13, .callG (.c (.d (.sl 3 (([[.i 2, .i 1, .s (S (encT sC))]] : List (List V.D)))))) [201, 203] [(0, .box 73 [.d (.i 2), .d (.i 2), .mp 1]), (1, .box ⟨.mpb (sC), none⟩ [])]), (10, 20, .elem ([.i 2, .i 1, .s (S (encT sB))])), (10, 22, .callG (.c (.d (.sl 3 (([[.i 1, .i 2, .s (S (encT sC))]] : List (List V.D)))))) [200, 202] [(0, .box 73 [.d (.i 1), .d (.i 2), .mp 1]), (1, .box ⟨.mpb (sC), none⟩ [])])] [1, 0, 1, 1, 1, 1, 1, 1, 1, 1] (false) (⟨[(0, [], .c (.d (.b false))), (1, [], .c (.bx 200 0)), (2, [], .c (.bx 201 0)), (3, [], .c (.bx 502 0)), (4, [], .c (.bx 601 0))], [(200, .box 73 [.d (.i 1), .d (.i 2), .mp 202]), (201, .box 73 [.d (.i 2), .d (.i 2), .mp 203]), (202, .box ⟨.mpb (sC), none⟩ []), (203, .box ⟨.mpb (sC), none⟩ []), (500, .arr 0 3 1 (([[.i 0]] : List (List D)))), (502, .box 63 [.d (.i 5), .d (.i 1), .d (.i 0), .d (.i 1), .d (.i 4), .d (.nil), .d (.i 0), .d (.s (S [])), .d (.i 0), .d (.i 0), .d (.i 0), .d (.nil), .d (.nil), .d (.s (S [])), .d (.s (S [])), .ar 500 0]), (601, .box 63 [.d (.i 5), .d (.i 2), .d (.i 0), .d (.i 3), .d (.i 4), .d (.nil), .d (.i 0), .d (.s (S [])), .d (.i 0), .d (.i 0), .d (.i 0), .d (.nil), .d (.nil), .d (.s (S [])), .d (.s (S [])), .ar 500 0])]⟩) (by kernel_rfl) (conjC (And.intro (And.intro (rfl : (some (.box 73 [.d (.i 1), .d (.i 2), .mp 202]) : Option Ob) = some (.box 73 [.d (.i 1), .d (.i 2), .mp 202])) (And.intro (rfl : (some (.box ⟨.mpb (sA), none⟩ []) : Option Ob) = some (.box ⟨.mpb (sA), none⟩ [])) (trivial))) (rfl : true = true)) (conjC ((tick_w 1 2 sA _ rsA (by decide) (by decide) rfl : SpG g _ _ _ _ _)) (conjC (And.intro (And.intro (rfl : (some (.box 73 [.d (.i 2), .d (.i 2), .mp 203]) : Option Ob) = some (.box 73 [.d (.i 2), .d (.i 2), .mp 203])) (And.intro (rfl : (some (.box ⟨.mpb (sB), none⟩ []) : Option Ob) = some (.box ⟨.mpb (sB), none⟩ [])) (trivial))) (rfl : true = true)) (conjC ((tick_w 2 2 sB _ rsB (by decide) (by decide) rfl : SpG g _ _ _ _ _)) (conjC (show false = false → (0 : Int) ≤ 0 ∧ (([[.i 1, .i 2, .s (S (encT sA))]] : List (List V.D)))[0]? = some ([.i 1, .i 2, .s (S (encT sA))]) from (by intros; exact ⟨by decide, rfl⟩)) (conjC (show false = false ∧ True from (by simp [enc_s1, enc_s2]; done)) (conjC (fun (hg1 : false = false) => ((take_m 2 2 1 sB sA sC rsB rsA (by decide) (by decide) (by decide) (by decide) jBA : SpG g _ _ _ _ _))) (conjC (show false = false → (0 : Int) ≤ 0 ∧ (([[.i 2, .i 1, .s (S (encT sB))]] : List (List V.D)))[0]? = some ([.i 2, .i 1, .s (S (encT sB))]) from (by intros; exact ⟨by decide, rfl⟩)) (conjC (show false = false ∧ True from (by simp [enc_s1, enc_s2]; done)) (conj1 (fun (hg1 : false = false) => ((take_m 1 2 2 sA sB sC rsA rsB (by decide) (by decide) (by decide) (by decide) jAB : SpG g _ _ _ _ _))))))))))))) (fun hc3 => absurd hc3 (by decide)) (fun _ => ?_)
 refine zC hG [(12, 1, .callG (.c (.d (.sl 16 (itsD ([two]))))) [200, 202] ((99999, .box 0 []) :: [(0, .box 73 [.d (.i 1), .d (.i 2), .mp 1]), (1, .box ⟨.mpb (sC), none⟩ [])])), (12, 3, .callG (.c (.d (.sl 16 (itsD ([two]))))) [201, 203] ((99999, .box 0 []) :: [(0, .box 73 [.d (.i 2), .d (.i 2), .mp 1]), (1, .box ⟨.mpb (sC), none⟩ [])])), (13, 10, .elem (ItD two)), (13, 17, .elem (ItD two)), (13, 24, .callG (.c (.d (.i 0))) [200, 202] [(0, .box 73 [.d (.i 1), .d (.i 2), .mp 1]), (1, .box ⟨.mpb (sD), none⟩ [])])] [1, 0, 1, 1, 1, 1, 1, 1, 1, 1, 1, 1] (false) (⟨[(0, [], .c (.d (.b false))), (1, [], .c (.bx 200 0)), (2, [], .c (.bx 201 0)), (3, [], .c (.bx 502 0)), (4, [], .c (.bx 601 0))], [(200, .box 73 [.d (.i 1), .d (.i 2), .mp 202]), (201, .box 73 [.d (.i 2), .d (.i 2), .mp 203]), (202, .box ⟨.mpb (sD), none⟩ []), (203, .box ⟨.mpb (sC), none⟩ []), (500, .arr 0 3 1 (([[.i 0]] : List (List D)))), (502, .box 63 [.d (.i 5), .d (.i 1), .d (.i 0), .d (.i 1), .d (.i 4), .d (.nil), .d (.i 0), .d (.s (S [])), .d (.i 0), .d (.i 0), .d (.i 0), .d (.nil), .d (.nil), .d (.s (S [])), .d (.s (S [])), .ar 500 0]), (601, .box 63 [.d (.i 5), .d (.i 2), .d (.i 0), .d (.i 3), .d (.i 4), .d (.nil), .d (.i 0), .d (.s (S [])), .d (.i 0), .d (.i 0), .d (.i 0), .d (.nil), .d (.nil), .d (.s (S [])), .d (.s (S [])), .ar 500 0])]⟩) (by kernel_rfl) (conjC (And.intro (And.intro (rfl : (some (.box 73 [.d (.i 1), .d (.i 2), .mp 202]) : Option Ob) = some (.box 73 [.d (.i 1), .d (.i 2), .mp 202])) (And.intro (rfl : (some (.box ⟨.mpb (sC), none⟩ []) : Option Ob) = some (.box ⟨.mpb (sC), none⟩ [])) (trivial))) (rfl : true = true)) (conjC ((force_w 1 2 sC [two] rsC inC : SpG g _ _ _ _ _)) (conjC (And.intro (And.intro (rfl : (some (.box 73 [.d (.i 2), .d (.i 2), .mp 203]) : Option Ob) = some (.box 73 [.d (.i 2), .d (.i 2), .mp 203])) (And.intro (rfl : (some (.box ⟨.mpb (sC), none⟩ []) : Option Ob) = some (.box ⟨.mpb (sC), none⟩ [])) (trivial))) (rfl : true = true)) (conjC ((force_w 2 2 sC [two] rsC inC : SpG g _ _ _ _ _)) (conjC (show false = false → (0 : Int) ≤ 0 ∧ (itsD ([two]))[0]? = some (ItD two) from (by intros; exact ⟨by decide, rfl⟩)) (conjC (show false = false → (0 : Int) ≤ 0 ∧ (itsD ([two]))[0]? = some (ItD two) from (by intros; exact ⟨by decide, rfl⟩)) (conjC (show false = false ∧ True from (by simp [enc_s1, enc_s2]; done)) (conj1 (fun (hg1 : false = false) => ((withdraw_w 1 2 5 0 sC sD rsC wdC : SpG g _ _ _ _ _))))))))))) (fun hc4 => absurd hc4 (by decide)) (fun _ => ?_)
 refine stepRL hG hmix [(15, 1, .callG (.c (.d (.sl 3 (([[.i 1, .i 2, .s (S (encT sD))]] : List (List V.D)))))) [200, 202] ((99999, .box 0 []) :: [(0, .box 73 [.d (.i 1), .d (.i 2), .mp 1]), (1, .box ⟨.mpb (sD), none⟩ [])])), (16, 1, .call (.c (.d (.s (S (itT two))))) [] []), (17, 6, .elem ([.i 1, .i 2, .s (S (encT sD))])), (17, 8, .callG (.c (.d (.nil))) [201, 203] [(0, .box 73 [.d (.i 2), .d (.i 2), .mp 1]), (1, .box ⟨.mpb (sD), none⟩ [])]), (17, 14, .callG (.c (.d (.sl 16 (itsD ([]))))) [201, 203] ((99999, .box 0 []) :: [(0, .box 73 [.d (.i 2), .d (.i 2), .mp 1]), (1, .box ⟨.mpb (sD), none⟩ [])])), (17, 20, .callG (.c (.d (.s (S (encT sD))))) [200, 202] ((99999, .box 0 []) :: [(0, .box 73 [.d (.i 1), .d (.i 2), .mp 1]), (1, .box ⟨.mpb (sD), none⟩ [])])), (17, 22, .callG (.c (.d (.s (S (encT sD))))) [201, 203] ((99999, .box 0 []) :: [(0, .box 73 [.d (.i 2), .d (.i 2), .mp 1]), (1, .box ⟨.mpb (sD), none⟩ [])])), (17, 27, .callG (.c (.d (.s (S (encT sD))))) [201, 203] ((99999, .box 0 []) :: [(0, .box 73 [.d (.i 2), .d (.i 2), .mp 1]), (1, .box ⟨.mpb (sD), none⟩ [])])), (17, 34, .callG (.c (.d (.i 33))) [200, 202] [(0, .box 73 [.d (.i 1), .d (.i 2), .mp 1]), (1, .box ⟨.mpb (sD), none⟩ [])])] [] (.c (.d (.b (((((S (encT sD)).toList == (S (encT sD)).toList) && (((S (encT sD)).extract 0 1).toList == (S [45]).toList)) && true) && (decide ((((S (itT two)).size : Int) : Int) > 0)))))) [] (by kernel_rfl) (conjC (And.intro (And.intro (rfl : (some (.box 73 [.d (.i 1), .d (.i 2), .mp 202]) : Option Ob) = some (.box 73 [.d (.i 1), .d (.i 2), .mp 202])) (And.intro (rfl : (some (.box ⟨.mpb (sD), none⟩ []) : Option Ob) = some (.box ⟨.mpb (sD), none⟩ [])) (trivial))) (rfl : true = true)) (conjC ((tick_w 1 2 sD _ rsD (by decide) (by decide) rfl : SpG g _ _ _ _ _)) (conjC ((spec_mask (ins := [.agg [.d (.i 5), .d (.i 2), .d (.i 0), .d (.i 3), .d (.i 4), .d (.nil), .d (.i 0), .d (.s (S [])), .d (.i 0), .d (.i 0), .d (.i 0), .d (.nil), .d (.nil), .d (.s (S [])), .d (.s (S [])), .d (.sl 1 (([[.i 0]] : List (List D))))]]) [[none, none, none, none, none, some 7, none, none, none, none, none, some 1, some 1, none, none, none]] (itText_ok (itW 5 2 3) two_ok) : SpG g _ _ _ _ _)) (conjC (show true = true → (0 : Int) ≤ 0 ∧ (([[.i 1, .i 2, .s (S (encT sD))]] : List (List V.D)))[0]? = some ([.i 1, .i 2, .s (S (encT sD))]) from (by intros; exact ⟨by decide, rfl⟩)) (conjC (show true = true ∧ True from (by simp [enc_s1, enc_s2]; done)) (conjC (fun (hg1 : true = true) => ((take_l 2 2 1 sC sD sD rsC rsD (by decide) (by decide) (by decide) (by decide) jCD : SpG g _ _ _ _ _))) (conjC (fun (hg1 : true = true) => (And.intro (And.intro (rfl : (some (.box 73 [.d (.i 2), .d (.i 2), .mp 203]) : Option Ob) = some (.box 73 [.d (.i 2), .d (.i 2), .mp 203])) (And.intro (rfl : (some (.box ⟨.mpb (sD), none⟩ []) : Option Ob) = some (.box ⟨.mpb (sD), none⟩ [])) (trivial))) (rfl : true = true))) (conjC (fun (hg1 : true = true) => ((force_w 2 2 sD [] rsD inD : SpG g _ _ _ _ _))) (conjC (fun (hg1 : true = true) => (And.intro (And.intro (rfl : (some (.box 73 [.d (.i 1), .d (.i 2), .mp 202]) : Option Ob) = some (.box 73 [.d (.i 1), .d (.i 2), .mp 202])) (And.intro (rfl : (some (.box ⟨.mpb (sD), none⟩ []) : Option Ob) = some (.box ⟨.mpb (sD), none⟩ [])) (trivial))) (rfl : true = true))) (conjC (fun (hg1 : true = true) => ((encode_ok 1 2 sD rsD : SpG g _ _ _ _ _))) (conjC (fun (hg1 : true = true) => (And.intro (And.intro (rfl : (some (.box 73 [.d (.i 2), .d (.i 2), .mp 203]) : Option Ob) = some (.box 73 [.d (.i 2), .d (.i 2), .mp 203])) (And.intro (rfl : (some (.box ⟨.mpb (sD), none⟩ []) : Option Ob) = some (.box ⟨.mpb (sD), none⟩ [])) (trivial))) (rfl : true = true))) (conjC (fun (hg1 : true = true) => ((encode_ok 2 2 sD rsD : SpG g _ _ _ _ _))) (conjC (fun (hg1 : ((S (encT sD)).toList == (S (encT sD)).toList) = true) => (And.intro (And.intro (rfl : (some (.box 73 [.d (.i 2), .d (.i 2), .mp 203]) : Option Ob) = some (.box 73 [.d (.i 2), .d (.i 2), .mp 203])) (And.intro (rfl : (some (.box ⟨.mpb (sD), none⟩ []) : Option Ob) = some (.box ⟨.mpb (sD), none⟩ [])) (trivial))) (rfl : true = true))) (conjC (fun (hg1 : ((S (encT sD)).toList == (S (encT sD)).toList) = true) => ((encode_ok 2 2 sD rsD : SpG g _ _ _ _ _))) (conjC (show ((S (encT sD)).toList == (S (encT sD)).toList) = true → (0 : Int) ≤ 0 ∧ (0 : Int) ≤ 1 ∧ 1 ≤ ((S (encT sD)).size : Int) from (fun _ => encD_sz)) (conjC (show (((S (encT sD)).toList == (S (encT sD)).toList) && (((S (encT sD)).extract 0 1).toList == (S [45]).toList)) = true ∧ True from (by simp [enc_s1, enc_s2]; done)) (conj1 (fun (hg1 : (((S (encT sD)).toList == (S (encT sD)).toList) && (((S (encT sD)).extract 0 1).toList == (S [45]).toList)) = true) => ((give_w 1 2 sD sD 5 1 1 33 rsD one_ok gD : SpG g _ _ _ _ _)))))))))))))))))))) ?_ ?_
 ·simp only [enc_s1, enc_s2, len2, Bool.and_self, Bool.and_true, Bool.true_and]
 ·first | rfl | (funext i; simp only [lookO_cons, upd]; ((repeat' split) <;> first | rfl | (exfalso; omega)))
end Go.Proofs.YtclaplngjmgnoaaGreatDoor
namespace Go.Proofs.YtclaplngjmgnoaaGreatDoor
open Go.RowKit Go.V
open Go.Eng (inR byteAt u8 bytesV)
variable {g : Gv}
def dgs : List UInt8 := [48, 49, 50, 51, 52, 53, 54, 55, 56, 57]
theorem dg_cut {d : Int} (h0 : 0 ≤ d) (h1 : d < 10) : (S [48, 49, 50, 51, 52, 53, 54, 55, 56, 57]).extract d.toNat (d + 1).toNat = S [UInt8.ofNat (48 + d.toNat)] := by
 have h : ∀ j : Fin 10, ((dgs.take (j.val + 1)).drop j.val) = [UInt8.ofNat (48 + j.val)] := by decide
 have e : (d + 1).toNat = d.toNat + 1 := by omega
 rw [S_cut, e]
 exact congrArg S (h ⟨d.toNat, by omega⟩)
theorem ofNat_toNat {k : Nat} (h : k < 10) : ((UInt8.ofNat (48 + k)).toNat : Int) = 48 + k := by
 have : ∀ j : Fin 10, ((UInt8.ofNat (48 + j.val)).toNat : Int) = 48 + (j.val : Int) := by decide
 exact this ⟨k, h⟩
theorem itoa_small {n : Int} (h0 : 0 ≤ n) (h1 : n < 10) : Lib.itoa n = [UInt8.ofNat (48 + n.toNat)] := by
 rw [Lib.itoa, if_neg (by omega), Lib.decDigits, dif_pos (by omega)]
theorem itoa_big {n : Int} (h1 : ¬ n < 10) : Lib.itoa n = Lib.itoa (Int.tdiv n 10) ++ [UInt8.ofNat (48 + (Int.tmod n 10).toNat)] := by
 have e1 : (Int.tdiv n 10).toNat = n.toNat / 10 := by
  rw [Int.tdiv_eq_ediv_of_nonneg (by omega)]; omega
 have e2 : (Int.tmod n 10).toNat = n.toNat % 10 := by
  rw [Int.tmod_eq_emod_of_nonneg (by omega)]; omega
 have e3 : ¬ Int.tdiv n 10 < 0 := by
  rw [Int.tdiv_eq_ediv_of_nonneg (by omega)]; omega
 rw [Lib.itoa, if_neg (by omega), Lib.decDigits, dif_neg (by omega), Lib.itoa, if_neg e3, e1, e2]
theorem itoa_neg1 {n : Int} (h0 : n < 0) (h1 : ¬ n ≤ -10) : Lib.itoa n = 45 :: [UInt8.ofNat (48 + (-Int.tmod n 10).toNat)] := by
 have e2 : (-Int.tmod n 10).toNat = n.natAbs := by
  have := Int.neg_tmod n 10
  have h2 := Int.tmod_eq_emod_of_nonneg (a := -n) (b := 10) (by omega)
  omega
 rw [Lib.itoa, if_pos (by omega), Lib.decDigits, dif_pos (by omega), e2]
theorem itoa_neg2 {n : Int} (h1 : n ≤ -10) : Lib.itoa n = 45 :: (Lib.itoa (-Int.tdiv n 10) ++ [UInt8.ofNat (48 + (-Int.tmod n 10).toNat)]) := by
 have h2 := Int.tmod_eq_emod_of_nonneg (a := -n) (b := 10) (by omega)
 have h3 := Int.neg_tmod n 10
 have h4 := Int.neg_tdiv n 10
 have h5 := Int.tdiv_eq_ediv_of_nonneg (a := -n) (b := 10) (by omega)
 have e1 : (-Int.tdiv n 10).toNat = n.natAbs / 10 := by omega
 have e2 : (-Int.tmod n 10).toNat = n.natAbs % 10 := by omega
 have e3 : ¬ -Int.tdiv n 10 < 0 := by omega
 rw [Lib.itoa, if_pos (by omega), Lib.decDigits, dif_neg (by omega), Lib.itoa, if_neg e3, e1, e2]
theorem neg_dm {n : Int} (h : n < 0) : 0 ≤ -Int.tmod n 10 ∧ -Int.tmod n 10 < 10 ∧ 0 ≤ -Int.tdiv n 10 ∧ -Int.tdiv n 10 ≤ -n ∧ (n ≤ -10 → -Int.tdiv n 10 < -n) ∧ -10 < Int.tmod n 10 ∧ Int.tmod n 10 ≤ 0 := by
 have h2 := Int.tmod_eq_emod_of_nonneg (a := -n) (b := 10) (by omega)
 have h3 := Int.neg_tmod n 10
 have h4 := Int.neg_tdiv n 10
 have h5 := Int.tdiv_eq_ediv_of_nonneg (a := -n) (b := 10) (by omega)
 omega
theorem pos_dm {n : Int} (h : 0 ≤ n) : 0 ≤ Int.tmod n 10 ∧ Int.tmod n 10 < 10 ∧ 0 ≤ Int.tdiv n 10 ∧ Int.tdiv n 10 ≤ n ∧ (10 ≤ n → Int.tdiv n 10 < n) := by
 have h2 := Int.tmod_eq_emod_of_nonneg (a := n) (b := 10) (by omega)
 have h5 := Int.tdiv_eq_ediv_of_nonneg (a := n) (b := 10) (by omega)
 omega
def vI (l : List UInt8) : Int := l.foldl (fun v x => if x = 45 then v else 10 * v - ((x.toNat : Int) - 48)) 0
theorem vI_snoc (l : List UInt8) (x : UInt8) : vI (l ++ [x]) = if x = 45 then vI l else 10 * vI l - ((x.toNat : Int) - 48) := by simp [vI, List.foldl_append]
theorem vI_dec (u : Nat) : vI (Lib.decDigits u) = -(u : Int) := by
 induction u using Nat.strongRecOn with
 | ind u ih =>
  rw [Lib.decDigits]
  have hd : ∀ k, k < 10 → ¬ UInt8.ofNat (48 + k) = 45 := by
   intro k hk
   have : ∀ j : Fin 10, ¬ UInt8.ofNat (48 + j.val) = 45 := by decide
   exact this ⟨k, hk⟩
  by_cases h : u < 10
  ·rw [dif_pos h]
   have := vI_snoc [] (UInt8.ofNat (48 + u))
   rw [if_neg (hd u h), ofNat_toNat h] at this
   rw [List.nil_append] at this
   rw [this]; simp [vI]; omega
  ·rw [dif_neg h, vI_snoc, if_neg (hd _ (by omega)), ih _ (by omega), ofNat_toNat (by omega)]
   omega
theorem vI_min (l : List UInt8) : vI (45 :: l) = vI l := by simp [vI]
theorem vI_itoa (n : Int) : vI (Lib.itoa n) = if n < 0 then n else -n := by
 unfold Lib.itoa
 split
 ·rw [vI_min, vI_dec]; omega
 ·rw [vI_dec]; omega
theorem vI_bd : ∀ (l : List UInt8), (∀ x, x ∈ l → x = 45 ∨ isDg x = true) → vI l ≤ 0 ∧ -(10 ^ l.length : Int) < vI l := by
 intro l
 refine rev_all (p := fun l => (∀ x, x ∈ l → x = 45 ∨ isDg x = true) → vI l ≤ 0 ∧ -(10 ^ l.length : Int) < vI l) ?_ ?_ l
 ·intro _; simp [vI]
 ·intro l x ih h
  obtain ⟨h1, h2⟩ := ih fun y hy => h y (by simp [hy])
  have hx := h x (by simp)
  have e : (10 : Int) ^ (l ++ [x]).length = 10 * 10 ^ l.length := by rw [List.length_append, List.length_singleton, Int.pow_succ, Int.mul_comm]
  have hp : (0 : Int) < 10 ^ l.length := Int.pow_pos (by decide)
  rw [vI_snoc, e]
  split
  ·omega
  ·rename_i hn
   rcases hx with hx | hx
   ·exact absurd hx hn
   ·simp only [isDg, Bool.and_eq_true, decide_eq_true_eq] at hx
    omega
theorem dig_all (n : Int) : ∀ x, x ∈ Lib.itoa n → x = 45 ∨ isDg x = true := by
 intro x hx
 unfold Lib.itoa at hx
 split at hx
 ·rcases List.mem_cons.1 hx with rfl | hx
  ·exact .inl rfl
  ·exact .inr (List.all_eq_true.1 (dec_all _).1 x hx)
 ·exact .inr (List.all_eq_true.1 (dec_all _).1 x hx)
theorem int_bd {n : Int} (hn : nOk n) (k : Nat) : vI ((Lib.itoa n).take k) ≤ 0 ∧ -100000000000000 < vI ((Lib.itoa n).take k) := by
 obtain ⟨h1, h2⟩ := vI_bd ((Lib.itoa n).take k) fun x hx => dig_all n x (List.mem_of_mem_take hx)
 have hl := itoa_len hn
 have h3 : ((Lib.itoa n).take k).length ≤ 14 := by rw [List.length_take]; omega
 have h4 : (10 : Int) ^ ((Lib.itoa n).take k).length ≤ 10 ^ 14 := by
  have := Nat.pow_le_pow_right (n := 10) (by decide) h3
  exact_mod_cast this
 refine ⟨h1, ?_⟩
 have e : (10 : Int) ^ 14 = 100000000000000 := by decide
 omega
theorem sgn_at {n : Int} {k : Nat} (hk : k < (Lib.itoa n).length) : ((Lib.itoa n).getD k 0 = 45 → k = 0 ∧ n < 0) ∧ (k = 0 → n < 0 → (Lib.itoa n).getD k 0 = 45) := by
 constructor
 ·intro h
  have hm := getD_mem (z := (0 : UInt8)) hk
  have hno : ∀ u, ¬ (45 : UInt8) ∈ Lib.decDigits u := fun u hu => (isDg_ne (List.all_eq_true.1 (dec_all u).1 _ hu)).1 rfl
  by_cases hn : n < 0
  ·refine ⟨?_, hn⟩
   rcases Nat.eq_zero_or_pos k with h0 | h0
   ·exact h0
   ·obtain ⟨j, rfl⟩ : ∃ j, k = j + 1 := ⟨k - 1, by omega⟩
    rw [Lib.itoa, if_pos hn] at h hk
    rw [List.getD_cons_succ] at h
    have := getD_mem (z := (0 : UInt8)) (l := Lib.decDigits n.natAbs) (k := j) (by simpa using hk)
    rw [h] at this
    exact absurd this (hno _)
  ·rw [h, Lib.itoa, if_neg hn] at hm
   exact absurd hm (hno _)
 ·rintro rfl hn
  rw [Lib.itoa, if_pos hn]; rfl
theorem vI_step {n : Int} {k : Nat} (hk : k < (Lib.itoa n).length) : vI ((Lib.itoa n).take (k + 1)) = if (Lib.itoa n).getD k 0 = 45 then vI ((Lib.itoa n).take k) else 10 * vI ((Lib.itoa n).take k) - ((((Lib.itoa n).getD k 0).toNat : Int) - 48) := by
 rw [take_snoc (0 : UInt8) hk, vI_snoc]
theorem itoa_pos (n : Int) : 0 < (Lib.itoa n).length := List.length_pos_iff.2 (itoa_ne n)
theorem byte_lt (l : List UInt8) (i : Int) : 0 ≤ byteAt (S l) i ∧ byteAt (S l) i < 256 := by
 rw [byteAt_S]; have := (l.getD i.toNat 0).toNat_lt; omega
theorem dg_rng {x : UInt8} (h : x = 45 ∨ isDg x = true) (hn : ¬ x = 45) : 48 ≤ x.toNat ∧ x.toNat ≤ 57 := by
 rcases h with h | h
 ·exact absurd h hn
 ·simpa [isDg] using h
theorem int_wrap {l : List UInt8} {k : Nat} (h : 48 ≤ (l.getD k 0).toNat ∧ (l.getD k 0).toNat ≤ 57) : IntKind.wrap .i64 (IntKind.wrap .u8 (byteAt (S l) (k : Int) - 48)) = ((l.getD k 0).toNat : Int) - 48 := by
 rw [byteAt_S, Int.toNat_natCast]
 have h2 : ∀ j : Fin 10, IntKind.wrap .i64 (IntKind.wrap .u8 (j.val : Int)) = (j.val : Int) := by decide
 have h3 := h2 ⟨(l.getD k 0).toNat - 48, by omega⟩
 have e : (((l.getD k 0).toNat - 48 : Nat) : Int) = ((l.getD k 0).toNat : Int) - 48 := by omega
 simp only [e] at h3
 exact h3
theorem is45 {x : UInt8} (h : (x.toNat : Int) = 45) : x = 45 := UInt8.toNat_inj.1 (by have e : (45 : UInt8).toNat = 45 := rfl; rw [e]; omega)
theorem un_in {a r : List UInt8} {c : UInt8} {k : Nat} (hk : k ≤ a.length) (h : (k : Int) < ((a ++ c :: r).length : Int) ∧ ¬ (((a ++ c :: r).getD k 0).toNat : Int) = (c.toNat : Int)) : k < a.length := by
 rcases Nat.lt_or_ge k a.length with h1 | h1
 ·exact h1
 ·have : k = a.length := by omega
  subst this
  exact absurd (by simp) h.2
theorem un_out {a r : List UInt8} {c : UInt8} {k : Nat} (hno : ∀ x, x ∈ a → ¬ x = c) (hk : k ≤ a.length) (h : ¬ (k : Int) < ((a ++ c :: r).length : Int) ∨ (((a ++ c :: r).getD k 0).toNat : Int) = (c.toNat : Int)) : k = a.length := by
 rcases Nat.lt_or_ge k a.length with h1 | h1
 ·rcases h with h | h
  ·simp only [zq0] at h; omega
  ·have e : (a ++ c :: r).getD k 0 = a.getD k 0 := by simp [List.getElem?_append_left h1]
   rw [e] at h
   have h2 : a.getD k 0 = c := UInt8.toNat_inj.1 (by omega)
   exact absurd h2 (hno _ (getD_mem h1))
 ·omega
theorem un_a {a r : List UInt8} {c : UInt8} {k : Nat} (h : k = a.length) : (S (a ++ c :: r)).extract 0 k = S a := by
 subst h; rw [S_cut]; simp
theorem un_b {a r : List UInt8} {c : UInt8} {k : Nat} (h : k = a.length) : (S (a ++ c :: r)).extract (if ((S (a ++ c :: r)).size : Int) < (k : Int) + 1 then ((S (a ++ c :: r)).size : Int) else (k : Int) + 1).toNat (S (a ++ c :: r)).size = S r := by
 subst h
 have e : (if ((S (a ++ c :: r)).size : Int) < (a.length : Int) + 1 then ((S (a ++ c :: r)).size : Int) else (a.length : Int) + 1).toNat = a.length + 1 := by
  rw [S_size]; simp only [zq0]; split <;> omega
 rw [e, S_drop, ← List.drop_drop, List.drop_left]; rfl
theorem un_c {a r : List UInt8} {c : UInt8} {k : Nat} {ok : Bool} (h : k = a.length) : (ok && decide ((k : Int) < ((S (a ++ c :: r)).size : Int))) = ok := by
 subst h
 have e : decide ((a.length : Int) < ((S (a ++ c :: r)).size : Int)) = true := by
  rw [S_size]; simp only [List.length_append, List.length_cons, decide_eq_true_eq]; omega
 rw [e, Bool.and_true]
theorem un_in2 {a : List UInt8} {c : UInt8} {k : Nat} (h : (k : Int) < (a.length : Int) ∧ ¬ ((a.getD k 0).toNat : Int) = (c.toNat : Int)) : k < a.length := by omega
theorem un_out2 {a : List UInt8} {c : UInt8} {k : Nat} (hno : ∀ x, x ∈ a → ¬ x = c) (hk : k ≤ a.length) (h : ¬ (k : Int) < (a.length : Int) ∨ ((a.getD k 0).toNat : Int) = (c.toNat : Int)) : k = a.length := by
 rcases Nat.lt_or_ge k a.length with h1 | h1
 ·rcases h with h | h
  ·omega
  ·have h2 : a.getD k 0 = c := UInt8.toNat_inj.1 (by omega)
   exact absurd h2 (hno _ (getD_mem h1))
 ·omega
theorem un_a2 {a : List UInt8} {k : Nat} (h : k = a.length) : (S a).extract 0 k = S a := by
 subst h; rw [S_cut]; simp
theorem un_b2 {a : List UInt8} {k : Nat} (h : k = a.length) : (S a).extract (if ((S a).size : Int) < (k : Int) + 1 then ((S a).size : Int) else (k : Int) + 1).toNat (S a).size = S [] := by
 subst h
 have e : (if ((S a).size : Int) < (a.length : Int) + 1 then ((S a).size : Int) else (a.length : Int) + 1).toNat = a.length := by
  rw [S_size]; split <;> omega
 rw [e, S_drop, List.drop_length]
theorem un_c2 {a : List UInt8} {k : Nat} {ok : Bool} (h : k = a.length) : (ok && decide ((k : Int) < ((S a).size : Int))) = false := by
 subst h
 have e : decide ((a.length : Int) < ((S a).size : Int)) = false := by
  rw [S_size]; simp
 rw [e, Bool.and_false]
theorem wd_split (t r : List UInt8) : wdT t ++ 32 :: r = Lib.itoa (t.length : Int) ++ 58 :: (t ++ 32 :: r) := by simp [wdT]
theorem wd_take (t r : List UInt8) : (S (t ++ 32 :: r)).extract 0 t.length = S t := by rw [S_cut]; simp
theorem wd_drop (t r : List UInt8) : (S (t ++ 32 :: r)).extract ((t.length : Int) + 1).toNat (S (t ++ 32 :: r)).size = S r := by
 have e : ((t.length : Int) + 1).toNat = t.length + 1 := by omega
 rw [e, S_drop, ← List.drop_drop, List.drop_left]; rfl
def zq18 := And.intro @List.length_cons.{0} (And.intro @List.length_nil.{0} (And.intro @S_size (And.intro @decide_eq_true_eq (And.intro @Go.Eng.inR.eq_1 (@maxLen.eq_1)))))
theorem dec_step (n : Int) (hn : nOk n) (ih : ∀ m : Int, nOk m → m.natAbs < n.natAbs → SpG g 73 [.c (.d (.i m))] [] (.c (.d (.s (S (Lib.itoa m))))) []) :
  SpG g 73 [.c (.d (.i n))] [] (.c (.d (.s (S (Lib.itoa n))))) [] := by
 have q1 := hn.1
 have q2 := hn.2
 have q3 := neg_dm (n := n)
 have q4 := pos_dm (n := n)
 have hw1 : n < 0 → IntKind.i64.wrap (0 - Int.tdiv n 10) = -Int.tdiv n 10 := fun h => by rw [wrap64 (by unfold inR; omega)]; omega
 have hw2 : n < 0 → IntKind.i64.wrap (0 - Int.tmod n 10) = -Int.tmod n 10 := fun h => by rw [wrap64 (by unfold inR; omega)]; omega
 have hl1 : n < 0 → (Lib.itoa (-Int.tdiv n 10)).length ≤ 14 := fun h => itoa_len ⟨by omega, by omega⟩
 have hl2 : 0 ≤ n → (Lib.itoa (Int.tdiv n 10)).length ≤ 14 := fun h => itoa_len ⟨by omega, by omega⟩
 refine enterB 43 Tryz.func73 (by kernel_rfl) fun fr hG => ?_
 refine zC hG [] [1, 0, 1] ((decide ((n : Int) ≥ 0)) && (decide ((n : Int) < 10))) (⟨[(0, [], .c (.d (.i n))), (2, [], .c (.d (.s (S []))))], []⟩) (by kernel_rfl) conj0 (fun hc1 => ?_) (fun hc1 => ?_)
 ·(try simp only [blS] at hc1)
  refine zR hG [] [] (.c (.d (.s ((S [48, 49, 50, 51, 52, 53, 54, 55, 56, 57]).extract (n : Int).toNat (n + 1 : Int).toNat)))) [] (by kernel_rfl) (conjC (show inR (n + 1) from (by intros; (try rw [hw2 (by omega)]); (try simp only [zq18, ByteArray.size_append, ByteArray.size_extract] at *); omega)) (conj1 (show (0 : Int) ≤ n ∧ (n : Int) ≤ (n + 1) ∧ (n + 1) ≤ ((S [48, 49, 50, 51, 52, 53, 54, 55, 56, 57]).size : Int) from (by intros; (try rw [hw2 (by omega)]); (try simp only [zq18, ByteArray.size_append, ByteArray.size_extract] at *); omega)))) ?_ ?_
  ·rw [dg_cut (by omega) (by omega), itoa_small (n := n) (by omega) (by omega)]
  ·rfl
 ·(try simp only [blS] at hc1)
  refine zc hG [] [1, 0, 1, 1] (decide ((n : Int) < 0)) (by kernel_rfl) conj0 (fun hc2 => ?_) (fun hc2 => ?_)
  ·(try simp only [blS] at hc2)
   refine zC hG [] [1, 0, 1, 0, 1, 0, 1, 1] (decide ((n : Int) ≤ (-10))) (⟨[(0, [], .c (.d (.i n))), (2, [], .c (.d (.s (S [])))), (3, [], .c (.d (.s (S []))))], []⟩) (by kernel_rfl) conj0 (fun hc3 => ?_) (fun hc3 => ?_)
   ·(try simp only [blS] at hc3)
    refine zR hG [(6, 3, .call (.c (.d (.s (S (Lib.itoa (-Int.tdiv n 10)))))) [] [])] [] (.c (.d (.s (((S [45]) ++ (S (Lib.itoa (-Int.tdiv n 10)))) ++ ((S [48, 49, 50, 51, 52, 53, 54, 55, 56, 57]).extract (IntKind.wrap .i64 (0 - (Int.tmod n 10)) : Int).toNat ((IntKind.wrap .i64 (0 - (Int.tmod n 10))) + 1 : Int).toNat))))) [] (by kernel_rfl) (conjC (show 10 ≠ (0 : Int) ∧ inR (Int.tdiv n 10) from (by intros; (try rw [hw2 (by omega)]); (try simp only [zq18, ByteArray.size_append, ByteArray.size_extract] at *); omega)) (conjC (((show SpG g 73 [.c (.d (.i (IntKind.wrap .i64 (0 - (Int.tdiv n 10)))))] [] (.c (.d (.s (S (Lib.itoa (-Int.tdiv n 10)))))) [] from by rw [hw1 (by omega)]; exact ih (-Int.tdiv n 10) (by obtain ⟨q1, q2⟩ := hn; have q3 := neg_dm (n := n); have q4 := pos_dm (n := n); constructor <;> omega) (by have q3 := neg_dm (n := n); have q4 := pos_dm (n := n); omega)) : SpG g _ _ _ _ _)) (conjC (show 10 ≠ (0 : Int) from (by intros; (try rw [hw2 (by omega)]); (try simp only [zq18, ByteArray.size_append, ByteArray.size_extract] at *); omega)) (conjC (show (S [45]).size + (S (Lib.itoa (-Int.tdiv n 10))).size ≤ maxLen from (by intros; (try rw [hw2 (by omega)]); (try simp only [zq18, ByteArray.size_append, ByteArray.size_extract] at *); omega)) (conjC (show inR ((IntKind.wrap .i64 (0 - (Int.tmod n 10))) + 1) from (by intros; (try rw [hw2 (by omega)]); (try simp only [zq18, ByteArray.size_append, ByteArray.size_extract] at *); omega)) (conjC (show (0 : Int) ≤ (IntKind.wrap .i64 (0 - (Int.tmod n 10))) ∧ (IntKind.wrap .i64 (0 - (Int.tmod n 10)) : Int) ≤ ((IntKind.wrap .i64 (0 - (Int.tmod n 10))) + 1) ∧ ((IntKind.wrap .i64 (0 - (Int.tmod n 10))) + 1) ≤ ((S [48, 49, 50, 51, 52, 53, 54, 55, 56, 57]).size : Int) from (by intros; (try rw [hw2 (by omega)]); (try simp only [zq18, ByteArray.size_append, ByteArray.size_extract] at *); omega)) (conj1 (show ((S [45]) ++ (S (Lib.itoa (-Int.tdiv n 10)))).size + ((S [48, 49, 50, 51, 52, 53, 54, 55, 56, 57]).extract (IntKind.wrap .i64 (0 - (Int.tmod n 10)) : Int).toNat ((IntKind.wrap .i64 (0 - (Int.tmod n 10))) + 1 : Int).toNat).size ≤ maxLen from (by intros; (try rw [hw2 (by omega)]); (try simp only [zq18, ByteArray.size_append, ByteArray.size_extract] at *); omega))))))))) ?_ ?_
    ·rw [hw2 (by omega), dg_cut (d := -Int.tmod n 10) (by omega) (by omega), itoa_neg2 (n := n) (by omega)]; simp [S_app]
    ·rfl
   ·(try simp only [blS] at hc3)
    refine zR hG [] [] (.c (.d (.s ((S [45]) ++ ((S [48, 49, 50, 51, 52, 53, 54, 55, 56, 57]).extract (IntKind.wrap .i64 (0 - (Int.tmod n 10)) : Int).toNat ((IntKind.wrap .i64 (0 - (Int.tmod n 10))) + 1 : Int).toNat))))) [] (by kernel_rfl) (conjC (show 10 ≠ (0 : Int) from (by intros; (try rw [hw2 (by omega)]); (try simp only [zq18, ByteArray.size_append, ByteArray.size_extract] at *); omega)) (conjC (show (S [45]).size + (S []).size ≤ maxLen from (by decide)) (conjC (show inR ((IntKind.wrap .i64 (0 - (Int.tmod n 10))) + 1) from (by intros; (try rw [hw2 (by omega)]); (try simp only [zq18, ByteArray.size_append, ByteArray.size_extract] at *); omega)) (conjC (show (0 : Int) ≤ (IntKind.wrap .i64 (0 - (Int.tmod n 10))) ∧ (IntKind.wrap .i64 (0 - (Int.tmod n 10)) : Int) ≤ ((IntKind.wrap .i64 (0 - (Int.tmod n 10))) + 1) ∧ ((IntKind.wrap .i64 (0 - (Int.tmod n 10))) + 1) ≤ ((S [48, 49, 50, 51, 52, 53, 54, 55, 56, 57]).size : Int) from (by intros; (try rw [hw2 (by omega)]); (try simp only [zq18, ByteArray.size_append, ByteArray.size_extract] at *); omega)) (conj1 (show (S [45]).size + ((S [48, 49, 50, 51, 52, 53, 54, 55, 56, 57]).extract (IntKind.wrap .i64 (0 - (Int.tmod n 10)) : Int).toNat ((IntKind.wrap .i64 (0 - (Int.tmod n 10))) + 1 : Int).toNat).size ≤ maxLen from (by intros; (try rw [hw2 (by omega)]); (try simp only [zq18, ByteArray.size_append, ByteArray.size_extract] at *); omega))))))) ?_ ?_
    ·rw [hw2 (by omega), dg_cut (d := -Int.tmod n 10) (by omega) (by omega), itoa_neg1 (n := n) (by omega) (by omega)]; simp [S_app]
    ·rfl
  ·(try simp only [blS] at hc2)
   refine zR hG [(9, 2, .call (.c (.d (.s (S (Lib.itoa (Int.tdiv n 10)))))) [] [])] [] (.c (.d (.s ((S (Lib.itoa (Int.tdiv n 10))) ++ ((S [48, 49, 50, 51, 52, 53, 54, 55, 56, 57]).extract (Int.tmod n 10 : Int).toNat ((Int.tmod n 10) + 1 : Int).toNat))))) [] (by kernel_rfl) (conjC (show 10 ≠ (0 : Int) ∧ inR (Int.tdiv n 10) from (by intros; (try rw [hw2 (by omega)]); (try simp only [zq18, ByteArray.size_append, ByteArray.size_extract] at *); omega)) (conjC ((ih (Int.tdiv n 10) (by obtain ⟨q1, q2⟩ := hn; have q3 := neg_dm (n := n); have q4 := pos_dm (n := n); constructor <;> omega) (by have q3 := neg_dm (n := n); have q4 := pos_dm (n := n); omega) : SpG g _ _ _ _ _)) (conjC (show 10 ≠ (0 : Int) from (by intros; (try rw [hw2 (by omega)]); (try simp only [zq18, ByteArray.size_append, ByteArray.size_extract] at *); omega)) (conjC (show 10 ≠ (0 : Int) from (by intros; (try rw [hw2 (by omega)]); (try simp only [zq18, ByteArray.size_append, ByteArray.size_extract] at *); omega)) (conjC (show inR ((Int.tmod n 10) + 1) from (by intros; (try rw [hw2 (by omega)]); (try simp only [zq18, ByteArray.size_append, ByteArray.size_extract] at *); omega)) (conjC (show (0 : Int) ≤ (Int.tmod n 10) ∧ (Int.tmod n 10 : Int) ≤ ((Int.tmod n 10) + 1) ∧ ((Int.tmod n 10) + 1) ≤ ((S [48, 49, 50, 51, 52, 53, 54, 55, 56, 57]).size : Int) from (by intros; (try rw [hw2 (by omega)]); (try simp only [zq18, ByteArray.size_append, ByteArray.size_extract] at *); omega)) (conj1 (show (S (Lib.itoa (Int.tdiv n 10))).size + ((S [48, 49, 50, 51, 52, 53, 54, 55, 56, 57]).extract (Int.tmod n 10 : Int).toNat ((Int.tmod n 10) + 1 : Int).toNat).size ≤ maxLen from (by intros; (try rw [hw2 (by omega)]); (try simp only [zq18, ByteArray.size_append, ByteArray.size_extract] at *); omega))))))))) ?_ ?_
   ·rw [dg_cut (by omega) (by omega), itoa_big (n := n) (by omega)]; simp [S_app]
   ·rfl
theorem dec_ok (n : Int) (hn : nOk n) : SpG g 73 [.c (.d (.i n))] [] (.c (.d (.s (S (Lib.itoa n))))) [] := by
 have go : ∀ k : Nat, ∀ n : Int, n.natAbs = k → nOk n → SpG g 73 [.c (.d (.i n))] [] (.c (.d (.s (S (Lib.itoa n))))) [] := by
  intro k
  induction k using Nat.strongRecOn with
  | ind k ih =>
   intro n hk hn
   exact dec_step n hn fun m hm hl => ih m.natAbs (by omega) m rfl hm
 exact go _ n rfl hn
theorem word15_ok (s : List UInt8) (hs : s.length ≤ 1000000) :
  SpG g 128 [.c (.d (.s (S s)))] [] (.c (.d (.s (S (wdT s))))) [] := by
 have hl := itoa_len (n := ((S s).size : Int)) (by rw [S_size]; exact nOk_len hs)
 refine enterB 9 Tryz.func128 (by kernel_rfl) fun fr hG => ?_
 refine zR hG [(1, 2, .call (.c (.d (.s (S (Lib.itoa ((S s).size : Int)))))) [] [])] [] (.c (.d (.s (((S (Lib.itoa ((S s).size : Int))) ++ (S [58])) ++ (S s))))) [] (by kernel_rfl) (conjC ((dec_ok ((S s).size : Int) (by rw [S_size]; exact nOk_len hs) : SpG g _ _ _ _ _)) (conjC (show (S (Lib.itoa ((S s).size : Int))).size + (S [58]).size ≤ maxLen from (by intros; (try simp only [zq18, ByteArray.size_append] at *); omega)) (conj1 (show ((S (Lib.itoa ((S s).size : Int))) ++ (S [58])).size + (S s).size ≤ maxLen from (by intros; (try simp only [zq18, ByteArray.size_append] at *); omega))))) ?_ ?_
 ·rw [S_size]; simp [wdT, S_app]
 ·rfl
def zq19 := And.intro @S_size (And.intro @blS (@byteAt_S))
def zq20 := And.intro @S_size (And.intro @decide_eq_true_eq (And.intro @Go.Eng.inR.eq_1 (@maxLen.eq_1)))
theorem int_ok (n : Int) (hn : nOk n) :
  SpG g 40 [.c (.d (.s (S (Lib.itoa n))))] [] (.tup [(false, [.d (.i n)]), (false, [.d (.b true)])]) [] := by
 have hlen := itoa_len hn
 have hpos := itoa_pos n
 refine enterB 57 Tryz.func40 (by kernel_rfl) fun fr hG => ?_
 refine zL hG [] [0, 1, 0, 1, 1] (fun (zz : Nat × Int) => match zz with | (k, v) => ((Lib.itoa n).length - k, ⟨[(0, [], .c (.d (.s (S (Lib.itoa n))))), (2, [], .c (.d (.i 0))), (3, [], .c (.d (.b false))), (4, [], .c (.d (.i v))), (5, [], .c (.d (.i (k : Int))))], []⟩, k ≤ (Lib.itoa n).length ∧ v = vI ((Lib.itoa n).take k))) (0, 0) (by kernel_rfl) conj0 (by kernel_rfl) ?_ ?_
 ·exact ⟨Nat.zero_le _, rfl⟩
 rintro ⟨k, v⟩ ⟨hk, hv⟩
 have hbd := int_bd hn k
 rw [← hv] at hbd
 have hb := byte_lt (Lib.itoa n) (k : Int)
 refine zc hG [] [1, 0] (decide (((k : Int) : Int) < ((S (Lib.itoa n)).size : Int))) (by kernel_rfl) conj0 (fun hc2 => ?_) (fun hc2 => ?_)
 ·(try simp only [zq19] at hc2)
  have hkl : k < (Lib.itoa n).length := by omega
  have hsg := sgn_at hkl
  have hdg := dig_all n _ (getD_mem (z := (0 : UInt8)) hkl)
  refine zc hG [] [1, 0, 0, 0, 1] ((decide ((byteAt (S (Lib.itoa n)) (k : Int) : Int) = 45)) && (decide (((k : Int) : Int) = 0))) (by kernel_rfl) (conj1 (show (0 : Int) ≤ (k : Int) ∧ (k : Int) < ((S (Lib.itoa n)).size : Int) from (by intros; (try simp only [zq20] at *); omega))) (fun hc3 => ?_) (fun hc3 => ?_)
  ·(try simp only [zq19] at hc3)
   refine zD hG [] (k + 1, v) (by kernel_rfl) (conj1 (show inR ((k : Int) + 1) from (by intros; (try simp only [zq20] at *); omega))) ?_ ?_
   ·(try dsimp only); omega
   ·refine ⟨by omega, ?_⟩
    rw [vI_step hkl, if_pos (is45 (by simpa only [Int.toNat_natCast] using hc3.1))]; exact hv
  ·(try simp only [zq19] at hc3)
   simp only [Int.toNat_natCast] at hc3
   have hno : ¬ (Lib.itoa n).getD k 0 = 45 := by
    intro e
    have := hsg.1 e
    rcases hc3 with h | h
    ·exact h (by rw [e]; rfl)
    ·omega
   have hd := dg_rng hdg hno
   refine zc hG [] [1, 0, 1, 0, 0, 1] (((decide ((byteAt (S (Lib.itoa n)) (k : Int) : Int) < 48)) || (decide ((byteAt (S (Lib.itoa n)) (k : Int) : Int) > 57))) || (decide (((k : Int) : Int) > 19))) (by kernel_rfl) (conjC (show (0 : Int) ≤ (k : Int) ∧ (k : Int) < ((S (Lib.itoa n)).size : Int) from (by intros; (try simp only [zq20] at *); omega)) (conj1 (show (decide ((byteAt (S (Lib.itoa n)) (k : Int) : Int) < 48)) = false → (0 : Int) ≤ (k : Int) ∧ (k : Int) < ((S (Lib.itoa n)).size : Int) from (by intros; (try simp only [zq20] at *); omega)))) (fun hc4 => ?_) (fun hc4 => ?_)
   ·(try simp only [zq19] at hc4)
    simp only [Int.toNat_natCast] at hc4; exfalso; omega
   ·(try simp only [zq19] at hc4)
    refine zD hG [] (k + 1, (10 * v) - (IntKind.wrap .i64 (IntKind.wrap .u8 ((byteAt (S (Lib.itoa n)) (k : Int)) - 48)))) (by kernel_rfl) (conjC (show inR (10 * v) from (by intros; (try simp only [zq20] at *); omega)) (conjC (show (0 : Int) ≤ (k : Int) ∧ (k : Int) < ((S (Lib.itoa n)).size : Int) from (by intros; (try simp only [zq20] at *); omega)) (conjC (show inR ((10 * v) - (IntKind.wrap .i64 (IntKind.wrap .u8 ((byteAt (S (Lib.itoa n)) (k : Int)) - 48)))) from (by rw [int_wrap hd]; unfold inR; omega)) (conj1 (show inR ((k : Int) + 1) from (by intros; (try simp only [zq20] at *); omega)))))) ?_ ?_
    ·(try dsimp only); omega
    ·refine ⟨by omega, ?_⟩
     rw [vI_step hkl, if_neg hno, hv, int_wrap hd]
 ·(try simp only [zq19] at hc2)
  have hkl : k = (Lib.itoa n).length := by omega
  rw [hkl, List.take_length, vI_itoa] at hv
  have hsg := sgn_at hpos
  refine zE hG [] (.exit 0) (⟨[(0, [], .c (.d (.s (S (Lib.itoa n))))), (2, [], .c (.d (.i 0))), (3, [], .c (.d (.b false))), (4, [], .c (.d (.i v)))], []⟩) (by kernel_rfl) conj0 rfl ?_
  refine zc hG [] [1, 0, 1, 1, 1] ((decide ((((S (Lib.itoa n)).size : Int) : Int) > 0)) && (!decide ((byteAt (S (Lib.itoa n)) 0 : Int) = 45))) (by kernel_rfl) (conj1 (show (decide ((((S (Lib.itoa n)).size : Int) : Int) > 0)) = true → (0 : Int) ≤ 0 ∧ 0 < ((S (Lib.itoa n)).size : Int) from (by intros; (try simp only [zq20] at *); omega))) (fun hc5 => ?_) (fun hc5 => ?_)
  ·(try simp only [zq19] at hc5)
   have hn0 : ¬ n < 0 := fun e => hc5.2 (by rw [show Int.toNat 0 = 0 from rfl, hsg.2 rfl e]; rfl)
   rw [if_neg hn0] at hv
   have hw : IntKind.wrap .i64 (0 - v) = n := by
    rw [wrap64 (by unfold inR; have := hn.1; have := hn.2; omega)]; omega
   refine zR hG [(11, 2, .call (.c (.d (.s (S (Lib.itoa (IntKind.wrap .i64 (0 - v))))))) [] [])] [] (.tup [(false, [.d (.i (IntKind.wrap .i64 (0 - v)))]), (false, [.d (.b ((S (Lib.itoa (IntKind.wrap .i64 (0 - v)))).toList == (S (Lib.itoa n)).toList))])]) [] (by kernel_rfl) (conj1 ((dec_ok (IntKind.wrap .i64 (0 - v)) (by first | exact hn | (rw [hw]; exact hn)) : SpG g _ _ _ _ _))) ?_ ?_
   ·rw [hw]; simp
   ·rfl
  ·(try simp only [zq19] at hc5)
   have hn0 : n < 0 := by
    rcases hc5 with h | h
    ·omega
    ·exact (hsg.1 (is45 h)).2
   rw [if_pos hn0] at hv
   have hw := hv
   refine zR hG [(11, 2, .call (.c (.d (.s (S (Lib.itoa v))))) [] [])] [] (.tup [(false, [.d (.i v)]), (false, [.d (.b ((S (Lib.itoa v)).toList == (S (Lib.itoa n)).toList))])]) [] (by kernel_rfl) (conj1 ((dec_ok v (by first | exact hn | (rw [hw]; exact hn)) : SpG g _ _ _ _ _))) ?_ ?_
   ·rw [hw]; simp
   ·rfl
def zq21 := And.intro @List.length_append.{0} (And.intro @List.length_cons.{0} (And.intro @List.length_nil.{0} (And.intro @S_size (And.intro @decide_eq_true_eq (And.intro @Go.Eng.inR.eq_1 (@maxLen.eq_1))))))
theorem until_at (a r : List UInt8) (c : UInt8) (ok : Bool) (hno : ∀ x, x ∈ a → ¬ x = c) (hl : (a ++ c :: r).length ≤ 1000000000) :
  SpG g 74 [.c (.bx 0 0), .c (.d (.y (c.toNat : Int)))] [(0, .box 158 [.d (.s (S (a ++ c :: r))), .d (.b ok)])] (.c (.d (.s (S a)))) [(0, .box 158 [.d (.s (S r)), .d (.b ok)])] := by
 refine enterB 65 Tryz.func74 (by kernel_rfl) fun fr hG => ?_
 refine zL hG [] [0, 0, 1, 1] (fun (zz : Nat) => match zz with | k => (a.length - k, ⟨[(0, [], .c (.bx 0 0)), (1, [], .c (.d (.y (c.toNat : Int)))), (4, [], .c (.d (.s (S [])))), (5, [], .c (.d (.i (k : Int))))], [(0, .box 158 [.d (.s (S (a ++ c :: r))), .d (.b ok)])]⟩, k ≤ a.length)) 0 (by kernel_rfl) conj0 (by kernel_rfl) ?_ ?_
 ·exact Nat.zero_le _
 rintro k hk
 have hb := byte_lt (a ++ c :: r) (k : Int)
 refine zc hG [] [1, 0] ((decide (((k : Int) : Int) < ((S (a ++ c :: r)).size : Int))) && (!decide ((byteAt (S (a ++ c :: r)) (k : Int) : Int) = (c.toNat : Int)))) (by kernel_rfl) (conj1 (show (decide (((k : Int) : Int) < ((S (a ++ c :: r)).size : Int))) = true → (0 : Int) ≤ (k : Int) ∧ (k : Int) < ((S (a ++ c :: r)).size : Int) from (by intros; (try simp only [zq21] at *); omega))) (fun hc2 => ?_) (fun hc2 => ?_)
 ·(try simp only [zq19] at hc2)
  have hka : k < a.length := un_in (r := r) hk (by simpa only [Int.toNat_natCast] using hc2)
  refine zD hG [] (k + 1) (by kernel_rfl) (conj1 (show inR ((k : Int) + 1) from (by intros; (try simp only [zq21] at *); omega))) ?_ ?_
  ·(try dsimp only); omega
  ·omega
 ·(try simp only [zq19] at hc2)
  have hka : k = a.length := un_out (r := r) hno hk (by simpa only [Int.toNat_natCast] using hc2)
  refine zE hG [] (.exit 0) (⟨[(0, [], .c (.bx 0 0)), (4, [], .c (.d (.s (S [])))), (5, [], .c (.d (.i (k : Int))))], [(0, .box 158 [.d (.s (S (a ++ c :: r))), .d (.b ok)])]⟩) (by kernel_rfl) conj0 rfl ?_
  refine zR hG [] [] (.c (.d (.s ((S (a ++ c :: r)).extract 0 k)))) [(0, .box 158 [.d (.s ((S (a ++ c :: r)).extract (if (((S (a ++ c :: r)).size : Int) : Int) < ((k : Int) + 1) then ((S (a ++ c :: r)).size : Int) else ((k : Int) + 1) : Int).toNat (S (a ++ c :: r)).size)), .d (.b (ok && (decide (((k : Int) : Int) < ((S (a ++ c :: r)).size : Int)))))])] (by kernel_rfl) (conjC (show (0 : Int) ≤ 0 ∧ (0 : Int) ≤ (k : Int) ∧ (k : Int) ≤ ((S (a ++ c :: r)).size : Int) from (by intros; (try simp only [zq21] at *); omega)) (conjC (show inR ((k : Int) + 1) from (by intros; (try simp only [zq21] at *); omega)) (conj1 (show (0 : Int) ≤ (if (((S (a ++ c :: r)).size : Int) : Int) < ((k : Int) + 1) then ((S (a ++ c :: r)).size : Int) else ((k : Int) + 1)) ∧ ((if (((S (a ++ c :: r)).size : Int) : Int) < ((k : Int) + 1) then ((S (a ++ c :: r)).size : Int) else ((k : Int) + 1)) : Int) ≤ ((S (a ++ c :: r)).size : Int) ∧ ((S (a ++ c :: r)).size : Int) ≤ ((S (a ++ c :: r)).size : Int) from (by intros; (try simp only [zq21] at *); omega))))) ?_ ?_
  ·rw [un_a hka]
  ·rw [un_b hka, un_c hka]
theorem until_end (a : List UInt8) (c : UInt8) (ok : Bool) (hno : ∀ x, x ∈ a → ¬ x = c) (hl : a.length ≤ 1000000000) :
  SpG g 74 [.c (.bx 0 0), .c (.d (.y (c.toNat : Int)))] [(0, .box 158 [.d (.s (S a)), .d (.b ok)])] (.c (.d (.s (S a)))) [(0, .box 158 [.d (.s (S ([]))), .d (.b false)])] := by
 refine enterB 65 Tryz.func74 (by kernel_rfl) fun fr hG => ?_
 refine zL hG [] [0, 0, 1, 1] (fun (zz : Nat) => match zz with | k => (a.length - k, ⟨[(0, [], .c (.bx 0 0)), (1, [], .c (.d (.y (c.toNat : Int)))), (4, [], .c (.d (.s (S [])))), (5, [], .c (.d (.i (k : Int))))], [(0, .box 158 [.d (.s (S a)), .d (.b ok)])]⟩, k ≤ a.length)) 0 (by kernel_rfl) conj0 (by kernel_rfl) ?_ ?_
 ·exact Nat.zero_le _
 rintro k hk
 have hb := byte_lt a (k : Int)
 refine zc hG [] [1, 0] ((decide (((k : Int) : Int) < ((S a).size : Int))) && (!decide ((byteAt (S a) (k : Int) : Int) = (c.toNat : Int)))) (by kernel_rfl) (conj1 (show (decide (((k : Int) : Int) < ((S a).size : Int))) = true → (0 : Int) ≤ (k : Int) ∧ (k : Int) < ((S a).size : Int) from (by intros; (try simp only [zq21] at *); omega))) (fun hc2 => ?_) (fun hc2 => ?_)
 ·(try simp only [zq19] at hc2)
  have hka : k < a.length := un_in2 (c := c) (by simpa only [Int.toNat_natCast] using hc2)
  refine zD hG [] (k + 1) (by kernel_rfl) (conj1 (show inR ((k : Int) + 1) from (by intros; (try simp only [zq21] at *); omega))) ?_ ?_
  ·(try dsimp only); omega
  ·omega
 ·(try simp only [zq19] at hc2)
  have hka : k = a.length := un_out2 hno hk (by simpa only [Int.toNat_natCast] using hc2)
  refine zE hG [] (.exit 0) (⟨[(0, [], .c (.bx 0 0)), (4, [], .c (.d (.s (S [])))), (5, [], .c (.d (.i (k : Int))))], [(0, .box 158 [.d (.s (S a)), .d (.b ok)])]⟩) (by kernel_rfl) conj0 rfl ?_
  refine zR hG [] [] (.c (.d (.s ((S a).extract 0 k)))) [(0, .box 158 [.d (.s ((S a).extract (if (((S a).size : Int) : Int) < ((k : Int) + 1) then ((S a).size : Int) else ((k : Int) + 1) : Int).toNat (S a).size)), .d (.b (ok && (decide (((k : Int) : Int) < ((S a).size : Int)))))])] (by kernel_rfl) (conjC (show (0 : Int) ≤ 0 ∧ (0 : Int) ≤ (k : Int) ∧ (k : Int) ≤ ((S a).size : Int) from (by intros; (try simp only [zq21] at *); omega)) (conjC (show inR ((k : Int) + 1) from (by intros; (try simp only [zq21] at *); omega)) (conj1 (show (0 : Int) ≤ (if (((S a).size : Int) : Int) < ((k : Int) + 1) then ((S a).size : Int) else ((k : Int) + 1)) ∧ ((if (((S a).size : Int) : Int) < ((k : Int) + 1) then ((S a).size : Int) else ((k : Int) + 1)) : Int) ≤ ((S a).size : Int) ∧ ((S a).size : Int) ≤ ((S a).size : Int) from (by intros; (try simp only [zq21] at *); omega))))) ?_ ?_
  ·rw [un_a2 hka]
  ·rw [un_b2 hka, un_c2 hka]
theorem number_at (n : Int) (hn : nOk n) (c : UInt8) (r : List UInt8) (hc : ∀ x, x ∈ Lib.itoa n → ¬ x = c) (hl : (Lib.itoa n ++ c :: r).length ≤ 1000000000) :
  SpG g 75 [.c (.bx 0 0), .c (.d (.y (c.toNat : Int)))] [(0, .box 158 [.d (.s (S (Lib.itoa n ++ c :: r))), .d (.b true)])] (.c (.d (.i n))) [(0, .box 158 [.d (.s (S r)), .d (.b true)])] := by
 refine enterB 25 Tryz.func75 (by kernel_rfl) fun fr hG => ?_
 exact zr hG [(1, 2, .call (.c (.d (.s (S (Lib.itoa n))))) [] [[.s (S r), .b true]]), (1, 3, .call (.tup [(false, [.d (.i n)]), (false, [.d (.b true)])]) [] [])] [] (by kernel_rfl) (conjC ((until_at (Lib.itoa n) r c true hc hl : SpG g _ _ _ _ _)) (conj1 ((int_ok n hn : SpG g _ _ _ _ _))))
theorem number_end (n : Int) (hn : nOk n) :
  SpG g 75 [.c (.bx 0 0), .c (.d (.y 44))] [(0, .box 158 [.d (.s (S (Lib.itoa n))), .d (.b true)])] (.c (.d (.i n))) [(0, .box 158 [.d (.s (S ([]))), .d (.b false)])] := by
 refine enterB 25 Tryz.func75 (by kernel_rfl) fun fr hG => ?_
 exact zr hG [(1, 2, .call (.c (.d (.s (S (Lib.itoa n))))) [] [[.s (S []), .b false]]), (1, 3, .call (.tup [(false, [.d (.i n)]), (false, [.d (.b true)])]) [] [])] [] (by kernel_rfl) (conjC ((until_end (Lib.itoa n) 44 true (itoa_not (.inr (.inr rfl))) (by have := itoa_len hn; omega) : SpG g _ _ _ _ _)) (conj1 ((int_ok n hn : SpG g _ _ _ _ _))))
theorem word_at (t r : List UInt8) (ht : t.length ≤ 1000000) (hl : (wdT t ++ 32 :: r).length ≤ 1000000000) :
  SpG g 77 [.c (.bx 0 0)] [(0, .box 158 [.d (.s (S (Lib.itoa (t.length : Int) ++ 58 :: (t ++ 32 :: r)))), .d (.b true)])] (.c (.d (.s (S t)))) [(0, .box 158 [.d (.s (S r)), .d (.b true)])] := by
 refine enterB 45 Tryz.func77 (by kernel_rfl) fun fr hG => ?_
 refine zC hG [(1, 1, .call (.c (.d (.i (t.length : Int)))) [] [[.s (S (t ++ 32 :: r)), .b true]])] [1, 0, 1, 1] ((decide (((t.length : Int) : Int) < 0)) || (decide (((t.length : Int) : Int) ≥ ((S (t ++ 32 :: r)).size : Int)))) (⟨[(0, [], .c (.bx 0 0)), (2, [], .c (.d (.s (S [])))), (3, [], .c (.d (.i (t.length : Int))))], [(0, .box 158 [.d (.s (S (t ++ 32 :: r))), .d (.b true)])]⟩) (by kernel_rfl) (conj1 ((number_at (t.length : Int) (nOk_len ht) 58 (t ++ 32 :: r) (itoa_not (.inr (.inl rfl))) (by rw [← wd_split]; exact hl) : SpG g _ _ _ _ _))) (fun hc1 => ?_) (fun hc1 => ?_)
 ·(try simp only [blS, S_size] at hc1)
  exfalso; simp only [zq0, Bool.false_eq_true, false_or] at hc1; omega
 ·(try simp only [blS, S_size] at hc1)
  refine zR hG [] [] (.c (.d (.s ((S (t ++ 32 :: r)).extract 0 t.length)))) [(0, .box 158 [.d (.s ((S (t ++ 32 :: r)).extract ((t.length : Int) + 1 : Int).toNat (S (t ++ 32 :: r)).size)), .d (.b true)])] (by kernel_rfl) (conjC (show (0 : Int) ≤ 0 ∧ (0 : Int) ≤ (t.length : Int) ∧ (t.length : Int) ≤ ((S (t ++ 32 :: r)).size : Int) from (by intros; (try simp only [zq21] at *); omega)) (conjC (show inR ((t.length : Int) + 1) from (by intros; (try simp only [zq21] at *); omega)) (conj1 (show (0 : Int) ≤ ((t.length : Int) + 1) ∧ ((t.length : Int) + 1 : Int) ≤ ((S (t ++ 32 :: r)).size : Int) ∧ ((S (t ++ 32 :: r)).size : Int) ≤ ((S (t ++ 32 :: r)).size : Int) from (by intros; (try simp only [zq21] at *); omega))))) ?_ ?_
  ·rw [wd_take]
  ·rw [wd_drop]
end Go.Proofs.YtclaplngjmgnoaaGreatDoor
namespace Go.Proofs.YtclaplngjmgnoaaGreatDoor
open Go.RowKit Go.V
open Go.Eng (inR byteAt u8 bytesV)
variable {g : Gv}
def ttx (i : It) (k : Nat) : List UInt8 := [105, 116, 101, 109] ++ ((idsL i).take k).flatMap fun n => 32 :: Lib.itoa n
theorem ttx_step (i : It) {k : Nat} (h : k < 5) : ttx i (k + 1) = ttx i k ++ 32 :: Lib.itoa ((idsL i).getD k 0) := by
 unfold ttx
 rw [take_snoc 0 (show k < (idsL i).length from h)]; simp
def ttw (i : It) : List UInt8 := ttx i 5 ++ [32] ++ wdT (rwT i.input) ++ [32] ++ wdT (tvT i.output) ++ [32] ++ wdT i.prop ++ [32] ++ wdT i.param ++ [32]
def prK (i : It) (k : Nat) : List UInt8 := joinL [44] ((i.program.take k).map Lib.itoa)
theorem prK_all (i : It) {k : Nat} (h : i.program.length ≤ k) : prK i k = prT i := by rw [prK, List.take_of_length_le h]; rfl
theorem prK_step (i : It) {k : Nat} (h : k < i.program.length) : prK i (k + 1) = if k = 0 then Lib.itoa (i.program.getD 0 0) else prK i k ++ [44] ++ Lib.itoa (i.program.getD k 0) := by
 unfold prK
 rw [take_snoc 0 h, List.map_append, List.map_singleton]
 split
 ·rename_i h0; subst h0; simp [joinL]
 ·rename_i h0
  rw [joinL_snoc]
  intro e
  have := congrArg List.length e
  rw [List.length_map, List.length_take, List.length_nil] at this; omega
theorem itT_ttw (i : It) : itT i = ttw i ++ prT i := by
 simp [itT, ttw, itP, idsL, wsL, ttx, joinL]
theorem ttx_len {i : It} (h : ItOk i) (k : Nat) : (ttx i k).length ≤ 80 := by
 have := flat_le (f := fun n => 32 :: Lib.itoa n) (l := (idsL i).take k) (c := 15) fun x hx => by
  have := itoa_len (ids_ok h x (List.mem_of_mem_take hx))
  simp only [List.length_cons]; omega
 have h2 : ((idsL i).take k).length ≤ 5 := by rw [List.length_take]; exact Nat.le_trans (Nat.min_le_right _ _) (Nat.le_refl _)
 unfold ttx
 simp only [zq1]; omega
theorem prK_len {i : It} (h : ItOk i) (k : Nat) : (prK i k).length ≤ 15000 := by
 have h1 := joinL_len [44] ((i.program.take k).map Lib.itoa)
 have h2 := sum_le (c := 14) (l := (i.program.take k).map Lib.itoa) (k := 1) fun x hx => by
  obtain ⟨n, hn, rfl⟩ := List.mem_map.1 hx
  exact itoa_len (h.prog n (List.mem_of_mem_take hn))
 have h3 := h.plen
 rw [List.length_map, List.length_take] at h2
 unfold prK
 have e : ([44] : List UInt8).length = 1 := rfl
 rw [e] at h1
 omega
theorem ttw_len {i : It} (h : ItOk i) : (ttw i).length ≤ 200000 := by
 have := itT_len h
 rw [itT_ttw, List.length_append] at this; omega
def prR (i : It) (k : Nat) : List UInt8 := joinL [44] ((i.program.drop k).map Lib.itoa)
theorem prR_len {i : It} (h : ItOk i) (k : Nat) : (prR i k).length ≤ 15000 := by
 have h1 := joinL_len [44] ((i.program.drop k).map Lib.itoa)
 have h2 := sum_le (c := 14) (l := (i.program.drop k).map Lib.itoa) (k := 1) fun x hx => by
  obtain ⟨n, hn, rfl⟩ := List.mem_map.1 hx
  exact itoa_len (h.prog n (List.mem_of_mem_drop hn))
 have h3 := h.plen
 rw [List.length_map, List.length_drop] at h2
 unfold prR
 have e : ([44] : List UInt8).length = 1 := rfl
 rw [e] at h1
 omega
theorem prR_end (i : It) {k : Nat} (h : i.program.length ≤ k) : prR i k = [] := by rw [prR, List.drop_of_length_le h]; rfl
theorem prR_last (i : It) {k : Nat} (h : k + 1 = i.program.length) : prR i k = Lib.itoa (i.program.getD k 0) := by
 have e : i.program.drop k = [i.program.getD k 0] := by
  rw [List.drop_eq_getElem_cons (by omega), List.drop_of_length_le (by omega), List.getD_eq_getElem?_getD, List.getElem?_eq_getElem (by omega)]; rfl
 rw [prR, e]; rfl
theorem prR_more (i : It) {k : Nat} (h : k + 1 < i.program.length) : prR i k = Lib.itoa (i.program.getD k 0) ++ 44 :: prR i (k + 1) := by
 have e : i.program.drop k = i.program.getD k 0 :: i.program.drop (k + 1) := by
  rw [List.getD_eq_getElem?_getD, List.getElem?_eq_getElem (by omega)]; exact List.drop_eq_getElem_cons (by omega)
 obtain ⟨x, r, hx⟩ : ∃ x r, i.program.drop (k + 1) = x :: r := by
  cases hd : i.program.drop (k + 1) with
  | nil => have := congrArg List.length hd; rw [List.length_drop, List.length_nil] at this; omega
  | cons x r => exact ⟨x, r, rfl⟩
 rw [prR, e, prR, hx]; simp [joinL]
theorem prR_ne (i : It) {k : Nat} (h : k < i.program.length) : prR i k ≠ [] := by
 intro e
 rcases Nat.lt_or_ge (k + 1) i.program.length with h1 | h1
 ·rw [prR_more i h1] at e; simp at e
 ·rw [prR_last i (by omega)] at e; exact itoa_ne _ e
theorem noTxt15 {i : It} (hi : ItOk i) (h : ((i.input.length : Int) > 0 ∧ rwT i.input = []) ∨ tvT i.output = []) : False := by
 rcases h with h | h
 ·exact noTxt hi (.inr h)
 ·cases hv : i.output <;> rw [hv] at h <;> simp [tvT] at h
theorem until_it {i : It} (hi : ItOk i) : SpG g 74 [.c (.bx 0 0), .c (.d (.y 32))] [(0, .box 158 [.d (.s (S (itT i))), .d (.b true)])] (.c (.d (.s (S [105, 116, 101, 109])))) [(0, .box 158 [.d (.s (S (rsT i 1))), .d (.b true)])] := by
 have h := until_at (g := g) [105, 116, 101, 109] (rsT i 1) 32 true (by decide) (by
  have := itT_len hi
  rw [itT_head] at this
  simp only [zq1] at this ⊢; omega)
 have e : itT i = [105, 116, 101, 109] ++ 32 :: rsT i 1 := by rw [itT_head]; rfl
 rw [e]; exact h
theorem num15 {i : It} (hi : ItOk i) (k : Nat) (hk : k < 5) : SpG g 75 [.c (.bx 0 0), .c (.d (.y 32))] [(0, .box 158 [.d (.s (S (rsT i (k + 1)))), .d (.b true)])] (.c (.d (.i ((idsL i).getD k 0)))) [(0, .box 158 [.d (.s (S (rsT i (k + 2)))), .d (.b true)])] := by
 have e : rsT i (k + 1) = Lib.itoa ((idsL i).getD k 0) ++ 32 :: rsT i (k + 2) := by
  have h := rsT_step i (k := k + 1) (by omega)
  have e : (itP i).getD (k + 1) [] = Lib.itoa ((idsL i).getD k 0) := by
   match k, hk with
   | 0, _ => rfl
   | 1, _ => rfl
   | 2, _ => rfl
   | 3, _ => rfl
   | 4, _ => rfl
  rw [e] at h; exact h
 have hl := rsT_le i (k + 1) (by omega)
 have hl2 := itT_len hi
 rw [e] at hl ⊢
 exact number_at ((idsL i).getD k 0) (ids_ok hi _ (getD_mem hk)) 32 (rsT i (k + 2)) (itoa_not (.inl rfl)) (by omega)
theorem wrd15 {i : It} (hi : ItOk i) (k : Nat) (hk : k < 4) : SpG g 77 [.c (.bx 0 0)] [(0, .box 158 [.d (.s (S (rsT i (k + 6)))), .d (.b true)])] (.c (.d (.s (S ((wsL i).getD k []))))) [(0, .box 158 [.d (.s (S (rsT i (k + 7)))), .d (.b true)])] := by
 have e : rsT i (k + 6) = wdT ((wsL i).getD k []) ++ 32 :: rsT i (k + 7) := by
  have h := rsT_step i (k := k + 6) (by omega)
  have e : (itP i).getD (k + 6) [] = wdT ((wsL i).getD k []) := by
   match k, hk with
   | 0, _ => rfl
   | 1, _ => rfl
   | 2, _ => rfl
   | 3, _ => rfl
  rw [e] at h; exact h
 have hl := rsT_le i (k + 6) (by omega)
 have hl2 := itT_len hi
 have hw := ws_get hi hk
 rw [e] at hl ⊢
 have h := word_at (g := g) ((wsL i).getD k []) (rsT i (k + 7)) (by omega) (by omega)
 rw [← wd_split] at h
 exact h
theorem numR {i : It} (hi : ItOk i) {k : Nat} {r : List UInt8} (hr : r = prR i k) (hk : k + 1 < i.program.length) : SpG g 75 [.c (.bx 0 0), .c (.d (.y 44))] [(0, .box 158 [.d (.s (S r)), .d (.b true)])] (.c (.d (.i (i.program.getD k 0)))) [(0, .box 158 [.d (.s (S (prR i (k + 1)))), .d (.b true)])] := by
 have hl := prR_len hi k
 rw [hr]
 rw [prR_more i hk] at hl ⊢
 exact number_at (i.program.getD k 0) (hi.prog _ (getD_mem (by omega))) 44 (prR i (k + 1)) (itoa_not (.inr (.inr rfl))) (by omega)
theorem numE {i : It} (hi : ItOk i) {k : Nat} {r : List UInt8} (hr : r = prR i k) (hk : k + 1 = i.program.length) : SpG g 75 [.c (.bx 0 0), .c (.d (.y 44))] [(0, .box 158 [.d (.s (S r)), .d (.b true)])] (.c (.d (.i (i.program.getD k 0)))) [(0, .box 158 [.d (.s (S [])), .d (.b false)])] := by
 rw [hr, prR_last i hk]
 exact number_end (i.program.getD k 0) (hi.prog _ (getD_mem (by omega)))
theorem intE {i : It} (hi : ItOk i) {k : Nat} {r : List UInt8} (hr : r = prR i k) (hk : k + 1 = i.program.length) : SpG g 40 [.c (.d (.s (S r)))] [] (.tup [(false, [.d (.i (i.program.getD k 0))]), (false, [.d (.b true)])]) [] := by
 rw [hr, prR_last i hk]
 exact int_ok (i.program.getD k 0) (hi.prog _ (getD_mem (by omega)))
theorem S_none {r : List UInt8} (h : S r = ByteArray.empty) : r = [] := by
 have := congrArg (fun b : ByteArray => b.data.toList) h
 simpa [S] using this
def zq22 := And.intro @List.length_map.{0, 0} (And.intro @S_eqf (And.intro @S_eqv (And.intro @blS (@intsD.eq_1))))
def zq23 := And.intro @List.length_append.{0} (And.intro @List.length_cons.{0} (And.intro @List.length_map.{0, 0} (And.intro @List.length_nil.{0} (And.intro @S_size (And.intro @decide_eq_true_eq (And.intro @Go.Eng.inR.eq_1 (And.intro @intsD.eq_1 (@maxLen.eq_1))))))))
theorem text15_ok (i : It) (hi : ItOk i) (hR : SpG g 125 [.c (.d (.sl 7 (tvsD i.input)))] [] (.c (.d (.s (S (rwT i.input))))) []) (hT : SpG g 92 [.agg [.d (.i (tvK i.output)), .d (.s (S (tvS i.output))), .d (.i 0), .d (.i 0), .d (.i 0), .d (.sl 1 (([] : List (List V.D)))), .d (.sl 1 (([] : List (List V.D))))]] [] (.c (.d (.s (S (tvT i.output))))) []) :
  SpG g 79 [.agg [.d (.i ((i).id)), .d (.i ((i).author)), .d (.i ((i).rank)), .d (.i ((i).time)), .d (.i ((i).kind)), .d (.sl 7 (tvsD ((i).input))), .d (.i (tvK ((i).output))), .d (.s (S (tvS ((i).output)))), .d (.i 0), .d (.i 0), .d (.i 0), .d (.sl 1 (([] : List (List V.D)))), .d (.sl 1 (([] : List (List V.D)))), .d (.s (S (i).prop)), .d (.s (S (i).param)), .d (.sl 1 (intsD ((i).program)))]] [] (.c (.d (.s (S (itT i))))) [] := by
 have hlen := hi.len
 have hpl := hi.plen
 have hid : (idsL i).length = 5 := rfl
 have hw0 := ws_get hi (k := 0) (by decide)
 have hw1 := ws_get hi (k := 1) (by decide)
 have hw2 := ws_get hi (k := 2) (by decide)
 have hw3 := ws_get hi (k := 3) (by decide)
 have hv0 : (wdT (rwT i.input)).length ≤ 3320 := wd_len hi _ (by simp [wsL])
 have hv1 : (wdT (tvT i.output)).length ≤ 3320 := wd_len hi _ (by simp [wsL])
 have hv2 : (wdT i.prop).length ≤ 3320 := wd_len hi _ (by simp [wsL])
 have hv3 : (wdT i.param).length ≤ 3320 := wd_len hi _ (by simp [wsL])
 refine enterB 92 Tryz.func79 (by kernel_rfl) fun fr hG => ?_
 refine zC hG [(1, 2, .call (.c (.d (.s (S (rwT i.input))))) [] []), (2, 2, .call (.c (.d (.s (S (tvT i.output))))) [] [])] [1, 0, 1, 1, 1] (((decide ((((tvsD ((i).input)).length : Int) : Int) > 0)) && ((S (rwT i.input)).toList == (S []).toList)) || ((S (tvT i.output)).toList == (S []).toList)) (⟨[(1, [], .c (.bx 100 0)), (2, [], .c (.d (.s (S [])))), (3, [], .c (.d (.s (S (rwT i.input))))), (4, [], .c (.d (.s (S (tvT i.output)))))], [(100, .box 63 [.d (.i ((i).id)), .d (.i ((i).author)), .d (.i ((i).rank)), .d (.i ((i).time)), .d (.i ((i).kind)), .d (.sl 7 (tvsD ((i).input))), .d (.i (tvK ((i).output))), .d (.s (S (tvS ((i).output)))), .d (.i 0), .d (.i 0), .d (.i 0), .d (.sl 1 (([] : List (List V.D)))), .d (.sl 1 (([] : List (List V.D)))), .d (.s (S (i).prop)), .d (.s (S (i).param)), .d (.sl 1 (intsD ((i).program)))])]⟩) (by kernel_rfl) (conjC ((hR : SpG g _ _ _ _ _)) (conj1 ((hT : SpG g _ _ _ _ _)))) (fun hc1 => ?_) (fun hc1 => ?_)
 ·(try simp only [zq22, tvsD] at hc1)
  exact (noTxt15 hi (by simpa using hc1)).elim
 ·(try simp only [zq22, tvsD] at hc1)
  refine zL hG [] [0, 1, 0, 1, 1, 1, 1, 1, 1] (fun (zz : Nat × ByteArray) => match zz with | (k, s) => (5 - k, ⟨[(1, [], .c (.bx 100 0)), (2, [], .c (.d (.s (S [])))), (3, [], .c (.d (.s (S (rwT i.input))))), (4, [], .c (.d (.s (S (tvT i.output))))), (5, [], .c (.ar 610 0)), (6, [], .c (.d (.s s))), (7, [], .c (.d (.i (k : Int))))], [(100, .box 63 [.d (.i ((i).id)), .d (.i ((i).author)), .d (.i ((i).rank)), .d (.i ((i).time)), .d (.i ((i).kind)), .d (.sl 7 (tvsD ((i).input))), .d (.i (tvK ((i).output))), .d (.s (S (tvS ((i).output)))), .d (.i 0), .d (.i 0), .d (.i 0), .d (.sl 1 (([] : List (List V.D)))), .d (.sl 1 (([] : List (List V.D)))), .d (.s (S (i).prop)), .d (.s (S (i).param)), .d (.sl 1 (intsD ((i).program)))]), (610, .arr 0 3 1 (intsD (idsL i)))]⟩, k ≤ 5 ∧ s = S (ttx i k))) (0, S [105, 116, 101, 109]) (by kernel_rfl) conj0 (by kernel_rfl) ?_ ?_
  ·exact ⟨Nat.zero_le _, rfl⟩
  rintro ⟨k, s⟩ ⟨hk, hs⟩
  have hsl : s.size ≤ 80 := by rw [hs, S_size]; exact ttx_len hi k
  have hn : k < 5 → nOk ((idsL i).getD k 0) := fun h => ids_ok hi _ (getD_mem h)
  have hnl : k < 5 → (Lib.itoa ((idsL i).getD k 0)).length ≤ 14 := fun h => itoa_len (hn h)
  refine zc hG [] [1, 0] (decide (((k : Int) : Int) < ((intsD (idsL i)).length : Int))) (by kernel_rfl) conj0 (fun hc3 => ?_) (fun hc3 => ?_)
  ·(try simp only [zq22, tvsD] at hc3)
   refine zD hG [(10, 5, .elem (intD ((idsL i).getD k 0))), (10, 6, .call (.c (.d (.s (S (Lib.itoa ((idsL i).getD k 0)))))) [] [])] (k + 1, (s ++ (S [32])) ++ (S (Lib.itoa ((idsL i).getD k 0)))) (by kernel_rfl) (conjC (show (s).size + (S [32]).size ≤ maxLen from (by intros; (try simp only [zq23, ByteArray.size_append] at *); omega)) (conjC (show (0 : Int) ≤ (k : Int) ∧ (k : Int) < ((intsD (idsL i)).length : Int) from (by intros; (try simp only [zq23, ByteArray.size_append] at *); omega)) (conjC (show (intsD (idsL i))[k]? = some (intD ((idsL i).getD k 0)) from (by intros; exact map_nat (f := intD) (l := idsL i) 0 (by (try simp only [zq5, idsL]); omega))) (conjC ((dec_ok ((idsL i).getD k 0) (hn (by omega)) : SpG g _ _ _ _ _)) (conjC (show (s ++ (S [32])).size + (S (Lib.itoa ((idsL i).getD k 0))).size ≤ maxLen from (by intros; (try simp only [zq23, ByteArray.size_append] at *); omega)) (conj1 (show inR ((k : Int) + 1) from (by intros; (try simp only [zq23, ByteArray.size_append] at *); omega)))))))) ?_ ?_
   ·(try dsimp only); omega
   ·refine ⟨by omega, ?_⟩
    rw [hs, ttx_step i (by omega)]; simp [S_app]
  ·(try simp only [zq22, tvsD] at hc3)
   refine zE hG [] (.exit 0) (⟨[(1, [], .c (.bx 100 0)), (2, [], .c (.d (.s (S [])))), (3, [], .c (.d (.s (S (rwT i.input))))), (4, [], .c (.d (.s (S (tvT i.output))))), (6, [], .c (.d (.s s)))], [(100, .box 63 [.d (.i ((i).id)), .d (.i ((i).author)), .d (.i ((i).rank)), .d (.i ((i).time)), .d (.i ((i).kind)), .d (.sl 7 (tvsD ((i).input))), .d (.i (tvK ((i).output))), .d (.s (S (tvS ((i).output)))), .d (.i 0), .d (.i 0), .d (.i 0), .d (.sl 1 (([] : List (List V.D)))), .d (.sl 1 (([] : List (List V.D)))), .d (.s (S (i).prop)), .d (.s (S (i).param)), .d (.sl 1 (intsD ((i).program)))])]⟩) (by kernel_rfl) conj0 rfl ?_
   refine zL hG [(11, 3, .call (.c (.d (.s (S (wdT (rwT i.input)))))) [] []), (11, 7, .call (.c (.d (.s (S (wdT (tvT i.output)))))) [] []), (11, 12, .call (.c (.d (.s (S (wdT ((i).prop)))))) [] []), (11, 17, .call (.c (.d (.s (S (wdT ((i).param)))))) [] [])] [0, 1, 0, 1, 1, 1, 1, 1, 1, 1, 1] (fun (zz : Nat × ByteArray) => match zz with | (k, s) => (i.program.length - k, ⟨[(1, [], .c (.bx 100 0)), (2, [], .c (.d (.s (S [])))), (6, [], .c (.d (.s s))), (8, [], .c (.d (.i (k : Int))))], [(100, .box 63 [.d (.i ((i).id)), .d (.i ((i).author)), .d (.i ((i).rank)), .d (.i ((i).time)), .d (.i ((i).kind)), .d (.sl 7 (tvsD ((i).input))), .d (.i (tvK ((i).output))), .d (.s (S (tvS ((i).output)))), .d (.i 0), .d (.i 0), .d (.i 0), .d (.sl 1 (([] : List (List V.D)))), .d (.sl 1 (([] : List (List V.D)))), .d (.s (S (i).prop)), .d (.s (S (i).param)), .d (.sl 1 (intsD ((i).program)))])]⟩, k ≤ i.program.length ∧ s = S (ttw i ++ prK i k))) (0, ((((((((s ++ (S [32])) ++ (S (wdT (rwT i.input)))) ++ (S [32])) ++ (S (wdT (tvT i.output)))) ++ (S [32])) ++ (S (wdT ((i).prop)))) ++ (S [32])) ++ (S (wdT ((i).param)))) ++ (S [32])) (by kernel_rfl) (conjC (show (s).size + (S [32]).size ≤ maxLen from (by intros; (try simp only [zq23, ByteArray.size_append] at *); omega)) (conjC ((word15_ok (rwT i.input) (by first | exact Nat.le_trans hw0 (by decide) | exact Nat.le_trans hw1 (by decide) | exact Nat.le_trans hw2 (by decide) | exact Nat.le_trans hw3 (by decide)) : SpG g _ _ _ _ _)) (conjC (show (s ++ (S [32])).size + (S (wdT (rwT i.input))).size ≤ maxLen from (by intros; (try simp only [zq23, ByteArray.size_append] at *); omega)) (conjC (show ((s ++ (S [32])) ++ (S (wdT (rwT i.input)))).size + (S [32]).size ≤ maxLen from (by intros; (try simp only [zq23, ByteArray.size_append] at *); omega)) (conjC ((word15_ok (tvT i.output) (by first | exact Nat.le_trans hw0 (by decide) | exact Nat.le_trans hw1 (by decide) | exact Nat.le_trans hw2 (by decide) | exact Nat.le_trans hw3 (by decide)) : SpG g _ _ _ _ _)) (conjC (show (((s ++ (S [32])) ++ (S (wdT (rwT i.input)))) ++ (S [32])).size + (S (wdT (tvT i.output))).size ≤ maxLen from (by intros; (try simp only [zq23, ByteArray.size_append] at *); omega)) (conjC (show ((((s ++ (S [32])) ++ (S (wdT (rwT i.input)))) ++ (S [32])) ++ (S (wdT (tvT i.output)))).size + (S [32]).size ≤ maxLen from (by intros; (try simp only [zq23, ByteArray.size_append] at *); omega)) (conjC ((word15_ok ((i).prop) (by first | exact Nat.le_trans hw0 (by decide) | exact Nat.le_trans hw1 (by decide) | exact Nat.le_trans hw2 (by decide) | exact Nat.le_trans hw3 (by decide)) : SpG g _ _ _ _ _)) (conjC (show (((((s ++ (S [32])) ++ (S (wdT (rwT i.input)))) ++ (S [32])) ++ (S (wdT (tvT i.output)))) ++ (S [32])).size + (S (wdT ((i).prop))).size ≤ maxLen from (by intros; (try simp only [zq23, ByteArray.size_append] at *); omega)) (conjC (show ((((((s ++ (S [32])) ++ (S (wdT (rwT i.input)))) ++ (S [32])) ++ (S (wdT (tvT i.output)))) ++ (S [32])) ++ (S (wdT ((i).prop)))).size + (S [32]).size ≤ maxLen from (by intros; (try simp only [zq23, ByteArray.size_append] at *); omega)) (conjC ((word15_ok ((i).param) (by first | exact Nat.le_trans hw0 (by decide) | exact Nat.le_trans hw1 (by decide) | exact Nat.le_trans hw2 (by decide) | exact Nat.le_trans hw3 (by decide)) : SpG g _ _ _ _ _)) (conjC (show (((((((s ++ (S [32])) ++ (S (wdT (rwT i.input)))) ++ (S [32])) ++ (S (wdT (tvT i.output)))) ++ (S [32])) ++ (S (wdT ((i).prop)))) ++ (S [32])).size + (S (wdT ((i).param))).size ≤ maxLen from (by intros; (try simp only [zq23, ByteArray.size_append] at *); omega)) (conj1 (show ((((((((s ++ (S [32])) ++ (S (wdT (rwT i.input)))) ++ (S [32])) ++ (S (wdT (tvT i.output)))) ++ (S [32])) ++ (S (wdT ((i).prop)))) ++ (S [32])) ++ (S (wdT ((i).param)))).size + (S [32]).size ≤ maxLen from (by intros; (try simp only [zq23, ByteArray.size_append] at *); omega))))))))))))))) (by kernel_rfl) ?_ ?_
   ·refine ⟨Nat.zero_le _, ?_⟩
    have hk5 : k = 5 := by omega
    rw [hs, hk5]; simp [S_app, ttw, prK, joinL]
   rintro ⟨k, s⟩ ⟨hk, hs⟩
   have hsl : s.size ≤ 215000 := by rw [hs, S_size, List.length_append]; have := ttw_len hi; have := prK_len hi k; omega
   have hn : k < i.program.length → nOk (i.program.getD k 0) := fun h => hi.prog _ (getD_mem h)
   have hnl : k < i.program.length → (Lib.itoa (i.program.getD k 0)).length ≤ 14 := fun h => itoa_len (hn h)
   refine zc hG [] [1, 0] (decide (((k : Int) : Int) < ((intsD ((i).program)).length : Int))) (by kernel_rfl) conj0 (fun hc5 => ?_) (fun hc5 => ?_)
   ·(try simp only [zq22, tvsD] at hc5)
    refine zc hG [] [1, 0, 0, 0, 1] (decide (((k : Int) : Int) > 0)) (by kernel_rfl) conj0 (fun hc6 => ?_) (fun hc6 => ?_)
    ·(try simp only [zq22, tvsD] at hc6)
     refine zD hG [(17, 4, .elem (intD (((i).program).getD k 0))), (17, 6, .call (.c (.d (.s (S (Lib.itoa (((i).program).getD k 0)))))) [] [])] (k + 1, (s ++ (S [44])) ++ (S (Lib.itoa (((i).program).getD k 0)))) (by kernel_rfl) (conjC (show (s).size + (S [44]).size ≤ maxLen from (by intros; (try simp only [zq23, ByteArray.size_append] at *); omega)) (conjC (show (0 : Int) ≤ (k : Int) ∧ (intsD ((i).program))[k]? = some (intD (((i).program).getD k 0)) from (by intros; exact map_at _ (by omega) (by (try simp only [intsD, List.length_map] at *); omega))) (conjC ((dec_ok (((i).program).getD k 0) (hn (by omega)) : SpG g _ _ _ _ _)) (conjC (show (s ++ (S [44])).size + (S (Lib.itoa (((i).program).getD k 0))).size ≤ maxLen from (by intros; (try simp only [zq23, ByteArray.size_append] at *); omega)) (conj1 (show inR ((k : Int) + 1) from (by intros; (try simp only [zq23, ByteArray.size_append] at *); omega))))))) ?_ ?_
     ·(try dsimp only); omega
     ·refine ⟨by omega, ?_⟩
      rw [hs, prK_step i (by omega), if_neg (by omega)]; simp [S_app]
    ·(try simp only [zq22, tvsD] at hc6)
     refine zD hG [(17, 4, .elem (intD (((i).program).getD k 0))), (17, 6, .call (.c (.d (.s (S (Lib.itoa (((i).program).getD k 0)))))) [] [])] (k + 1, s ++ (S (Lib.itoa (((i).program).getD k 0)))) (by kernel_rfl) (conjC (show (0 : Int) ≤ (k : Int) ∧ (intsD ((i).program))[k]? = some (intD (((i).program).getD k 0)) from (by intros; exact map_at _ (by omega) (by (try simp only [intsD, List.length_map] at *); omega))) (conjC ((dec_ok (((i).program).getD k 0) (hn (by omega)) : SpG g _ _ _ _ _)) (conjC (show (s).size + (S (Lib.itoa (((i).program).getD k 0))).size ≤ maxLen from (by intros; (try simp only [zq23, ByteArray.size_append] at *); omega)) (conj1 (show inR ((k : Int) + 1) from (by intros; (try simp only [zq23, ByteArray.size_append] at *); omega)))))) ?_ ?_
     ·(try dsimp only); omega
     ·refine ⟨by omega, ?_⟩
      have hk0 : k = 0 := by omega
      subst hk0
      rw [hs, prK_step i (by omega), if_pos rfl]; simp [S_app, prK, joinL]
   ·(try simp only [zq22, tvsD] at hc5)
    refine zE hG [] (.exit 2) (⟨[(2, [], .c (.d (.s (S [])))), (6, [], .c (.d (.s s)))], []⟩) (by kernel_rfl) conj0 rfl ?_
    refine zR hG [] [] (.c (.d (.s s))) [] (by kernel_rfl) conj0 ?_ ?_
    ·rw [hs, prK_all i (by omega), itT_ttw]
    ·rfl
theorem text15_es {i : It} (hi : ItOk i) (hR : SpG g 125 [.c (.d (.sl 7 (tvsD i.input)))] [] (.c (.d (.s (S (rwT i.input))))) []) (hT : SpG g 92 [.agg [.d (.i (tvK i.output)), .d (.s (S (tvS i.output))), .d (.i 0), .d (.i 0), .d (.i 0), .d (.sl 1 (([] : List (List V.D)))), .d (.sl 1 (([] : List (List V.D))))]] [] (.c (.d (.s (S (tvT i.output))))) []) {es : List (List V.D)} (h : es = intsD i.program) : SpG g 79 [.agg [.d (.i ((i).id)), .d (.i ((i).author)), .d (.i ((i).rank)), .d (.i ((i).time)), .d (.i ((i).kind)), .d (.sl 7 (tvsD ((i).input))), .d (.i (tvK ((i).output))), .d (.s (S (tvS ((i).output)))), .d (.i 0), .d (.i 0), .d (.i 0), .d (.sl 1 (([] : List (List V.D)))), .d (.sl 1 (([] : List (List V.D)))), .d (.s (S (i).prop)), .d (.s (S (i).param)), .d (.sl 1 (es))]] [] (.c (.d (.s (S (itT i))))) [] := by subst h; exact text15_ok i hi hR hT
theorem read15_no (i : It) (hi : ItOk i) (hR : SpG g 125 [.c (.d (.sl 7 (tvsD i.input)))] [] (.c (.d (.s (S (rwT i.input))))) []) (hT : SpG g 92 [.agg [.d (.i (tvK i.output)), .d (.s (S (tvS i.output))), .d (.i 0), .d (.i 0), .d (.i 0), .d (.sl 1 (([] : List (List V.D)))), .d (.sl 1 (([] : List (List V.D))))]] [] (.c (.d (.s (S (tvT i.output))))) []) (hRR : SpG g 76 [.c (.d (.s (S (rwT i.input))))] [] (.tup [(false, [.d (.sl 7 (tvsD i.input))]), (false, [.d (.b true)])]) []) (hRV : SpG g 78 [.c (.d (.s (S (tvT i.output))))] [] (.tup [(true, [.d (.i (tvK i.output)), .d (.s (S (tvS i.output))), .d (.i 0), .d (.i 0), .d (.i 0), .d (.sl 1 (([] : List (List V.D)))), .d (.sl 1 (([] : List (List V.D))))]), (false, [.d (.b true)])]) []) (hp : i.program = []) :
  SpG g 41 [.c (.d (.s (S (itT i))))] [] (.tup [(true, [.d (.i ((i).id)), .d (.i ((i).author)), .d (.i ((i).rank)), .d (.i ((i).time)), .d (.i ((i).kind)), .d (.sl 7 (tvsD ((i).input))), .d (.i (tvK ((i).output))), .d (.s (S (tvS ((i).output)))), .d (.i 0), .d (.i 0), .d (.i 0), .d (.sl 1 (([] : List (List V.D)))), .d (.sl 1 (([] : List (List V.D)))), .d (.s (S (i).prop)), .d (.s (S (i).param)), .d (.nil)]), (false, [.d (.b true)])]) [] := by
 refine enterB 119 Tryz.func41 (by kernel_rfl) fun fr hG => ?_
 refine zC hG [(2, 1, .call (.c (.d (.s (S [105, 116, 101, 109])))) [] [[.s (S (rsT i 1)), .b true]]), (4, 1, .call (.c (.d (.i ((i).id)))) [] [[.s (S (rsT i 2)), .b true]]), (5, 1, .call (.c (.d (.i ((i).author)))) [] [[.s (S (rsT i 3)), .b true]]), (6, 1, .call (.c (.d (.i ((i).rank)))) [] [[.s (S (rsT i 4)), .b true]]), (7, 1, .call (.c (.d (.i ((i).time)))) [] [[.s (S (rsT i 5)), .b true]]), (8, 1, .call (.c (.d (.i ((i).kind)))) [] [[.s (S (rsT i 6)), .b true]]), (9, 1, .call (.c (.d (.s (S (rwT (i).input))))) [] [[.s (S (rsT i 7)), .b true]]), (9, 2, .call (.tup [(false, [.d (.sl 7 (tvsD ((i).input)))]), (false, [.d (.b true)])]) [] []), (10, 1, .call (.c (.d (.s (S (tvT (i).output))))) [] [[.s (S (rsT i 8)), .b true]]), (10, 2, .call (.tup [(true, [.d (.i (tvK ((i).output))), .d (.s (S (tvS ((i).output)))), .d (.i 0), .d (.i 0), .d (.i 0), .d (.sl 1 (([] : List (List V.D)))), .d (.sl 1 (([] : List (List V.D))))]), (false, [.d (.b true)])]) [] []), (13, 1, .call (.c (.d (.s (S (i).prop)))) [] [[.s (S (rsT i 9)), .b true]]), (14, 1, .call (.c (.d (.s (S (i).param)))) [] [[.s (S (rsT i 10)), .b true]])] [1, 0, 1, 1, 1, 1, 1, 1, 1, 1, 1, 1, 1, 1, 1, 1, 1] (false) (⟨[(0, [], .c (.d (.s (S (itT i))))), (2, [], .c (.bx 100 0)), (3, [], .c (.d (.b false))), (4, [], .c (.bx 202 0)), (5, [], .c (.bx 400 0))], [(100, .box 63 [.d (.i 0), .d (.i 0), .d (.i 0), .d (.i 0), .d (.i 0), .d (.nil), .d (.i 0), .d (.s (S [])), .d (.i 0), .d (.i 0), .d (.i 0), .d (.nil), .d (.nil), .d (.s (S [])), .d (.s (S [])), .d (.nil)]), (202, .box 158 [.d (.s (S (rsT i 10))), .d (.b true)]), (400, .box 63 [.d (.i ((i).id)), .d (.i ((i).author)), .d (.i ((i).rank)), .d (.i ((i).time)), .d (.i ((i).kind)), .d (.sl 7 (tvsD ((i).input))), .d (.i (tvK ((i).output))), .d (.s (S (tvS ((i).output)))), .d (.i 0), .d (.i 0), .d (.i 0), .d (.sl 1 (([] : List (List V.D)))), .d (.sl 1 (([] : List (List V.D)))), .d (.s (S (i).prop)), .d (.s (S (i).param)), .d (.nil)])]⟩) (by kernel_rfl) (conjC ((until_it hi : SpG g _ _ _ _ _)) (conjC ((num15 hi 0 (by decide) : SpG g _ _ _ _ _)) (conjC ((num15 hi 1 (by decide) : SpG g _ _ _ _ _)) (conjC ((num15 hi 2 (by decide) : SpG g _ _ _ _ _)) (conjC ((num15 hi 3 (by decide) : SpG g _ _ _ _ _)) (conjC ((num15 hi 4 (by decide) : SpG g _ _ _ _ _)) (conjC ((wrd15 hi 0 (by decide) : SpG g _ _ _ _ _)) (conjC ((hRR : SpG g _ _ _ _ _)) (conjC ((wrd15 hi 1 (by decide) : SpG g _ _ _ _ _)) (conjC ((hRV : SpG g _ _ _ _ _)) (conjC ((wrd15 hi 2 (by decide) : SpG g _ _ _ _ _)) (conj1 ((wrd15 hi 3 (by decide) : SpG g _ _ _ _ _)))))))))))))) (fun hc1 => absurd hc1 (by decide)) (fun _ => ?_)
 refine zL hG [] [0, 0, 1, 1, 1, 1, 1, 1, 1, 1, 1, 1, 1, 1, 1, 1, 1, 1] (fun (zz : Nat) => match zz with | k => (0, ⟨[(0, [], .c (.d (.s (S (itT i))))), (2, [], .c (.bx 100 0)), (3, [], .c (.d (.b false))), (4, [], .c (.bx 202 0)), (5, [], .c (.bx 400 0))], [(100, .box 63 [.d (.i 0), .d (.i 0), .d (.i 0), .d (.i 0), .d (.i 0), .d (.nil), .d (.i 0), .d (.s (S [])), .d (.i 0), .d (.i 0), .d (.i 0), .d (.nil), .d (.nil), .d (.s (S [])), .d (.s (S [])), .d (.nil)]), (202, .box 158 [.d (.s (S (rsT i 10))), .d (.b true)]), (400, .box 63 [.d (.i ((i).id)), .d (.i ((i).author)), .d (.i ((i).rank)), .d (.i ((i).time)), .d (.i ((i).kind)), .d (.sl 7 (tvsD ((i).input))), .d (.i (tvK ((i).output))), .d (.s (S (tvS ((i).output)))), .d (.i 0), .d (.i 0), .d (.i 0), .d (.sl 1 (([] : List (List V.D)))), .d (.sl 1 (([] : List (List V.D)))), .d (.s (S (i).prop)), .d (.s (S (i).param)), .d (.nil)])]⟩, k = 0)) 0 (by kernel_rfl) conj0 (by kernel_rfl) ?_ ?_
 ·exact rfl
 rintro k hk
 refine zc hG [] [1, 0] (!((S (rsT i 10)).toList == (S []).toList)) (by kernel_rfl) conj0 (fun hc3 => ?_) (fun hc3 => ?_)
 ·(try simp only [zq8] at hc3)
  simp [rsT_end, prT, hp, joinL] at hc3
 ·(try simp only [zq8] at hc3)
  refine zE hG [] (.exit 0) (⟨[(0, [], .c (.d (.s (S (itT i))))), (2, [], .c (.bx 100 0)), (3, [], .c (.d (.b false))), (4, [], .c (.bx 202 0)), (5, [], .c (.bx 400 0))], [(100, .box 63 [.d (.i 0), .d (.i 0), .d (.i 0), .d (.i 0), .d (.i 0), .d (.nil), .d (.i 0), .d (.s (S [])), .d (.i 0), .d (.i 0), .d (.i 0), .d (.nil), .d (.nil), .d (.s (S [])), .d (.s (S [])), .d (.nil)]), (202, .box 158 [.d (.s (S (rsT i 10))), .d (.b true)]), (400, .box 63 [.d (.i ((i).id)), .d (.i ((i).author)), .d (.i ((i).rank)), .d (.i ((i).time)), .d (.i ((i).kind)), .d (.sl 7 (tvsD ((i).input))), .d (.i (tvK ((i).output))), .d (.s (S (tvS ((i).output)))), .d (.i 0), .d (.i 0), .d (.i 0), .d (.sl 1 (([] : List (List V.D)))), .d (.sl 1 (([] : List (List V.D)))), .d (.s (S (i).prop)), .d (.s (S (i).param)), .d (.nil)])]⟩) (by kernel_rfl) conj0 rfl ?_
  refine zC hG [(24, 7, .call (.c (.d (.s (S (itT i))))) [] [])] [1, 0, 1, 1, 1, 1, 1, 1, 1, 1, 1, 1, 1, 1, 1, 1, 1, 1, 1] (!((S (itT i)).toList == (S (itT i)).toList)) (⟨[(2, [], .c (.bx 100 0)), (3, [], .c (.d (.b false))), (5, [], .c (.bx 400 0))], [(100, .box 63 [.d (.i 0), .d (.i 0), .d (.i 0), .d (.i 0), .d (.i 0), .d (.nil), .d (.i 0), .d (.s (S [])), .d (.i 0), .d (.i 0), .d (.i 0), .d (.nil), .d (.nil), .d (.s (S [])), .d (.s (S [])), .d (.nil)]), (400, .box 63 [.d (.i ((i).id)), .d (.i ((i).author)), .d (.i ((i).rank)), .d (.i ((i).time)), .d (.i ((i).kind)), .d (.sl 7 (tvsD ((i).input))), .d (.i (tvK ((i).output))), .d (.s (S (tvS ((i).output)))), .d (.i 0), .d (.i 0), .d (.i 0), .d (.sl 1 (([] : List (List V.D)))), .d (.sl 1 (([] : List (List V.D)))), .d (.s (S (i).prop)), .d (.s (S (i).param)), .d (.nil)])]⟩) (by kernel_rfl) (conj1 (fun (hg1 : false = false) => ((spec_mask (ins := [.agg [.d (.i ((i).id)), .d (.i ((i).author)), .d (.i ((i).rank)), .d (.i ((i).time)), .d (.i ((i).kind)), .d (.sl 7 (tvsD ((i).input))), .d (.i (tvK ((i).output))), .d (.s (S (tvS ((i).output)))), .d (.i 0), .d (.i 0), .d (.i 0), .d (.sl 1 (([] : List (List V.D)))), .d (.sl 1 (([] : List (List V.D)))), .d (.s (S (i).prop)), .d (.s (S (i).param)), .d (.nil)]]) [[none, none, none, none, none, none, none, none, none, none, none, none, none, none, none, some 1]] (text15_es hi hR hT (es := []) (by rw [hp]; rfl)) : SpG g _ _ _ _ _)))) (fun hc4 => ?_) (fun hc4 => ?_)
  ·(try simp only [zq8] at hc4)
   simp at hc4
  ·(try simp only [zq8] at hc4)
   exact zr hG [] [] (by kernel_rfl) conj0
theorem read15_yes (i : It) (hi : ItOk i) (hR : SpG g 125 [.c (.d (.sl 7 (tvsD i.input)))] [] (.c (.d (.s (S (rwT i.input))))) []) (hT : SpG g 92 [.agg [.d (.i (tvK i.output)), .d (.s (S (tvS i.output))), .d (.i 0), .d (.i 0), .d (.i 0), .d (.sl 1 (([] : List (List V.D)))), .d (.sl 1 (([] : List (List V.D))))]] [] (.c (.d (.s (S (tvT i.output))))) []) (hRR : SpG g 76 [.c (.d (.s (S (rwT i.input))))] [] (.tup [(false, [.d (.sl 7 (tvsD i.input))]), (false, [.d (.b true)])]) []) (hRV : SpG g 78 [.c (.d (.s (S (tvT i.output))))] [] (.tup [(true, [.d (.i (tvK i.output)), .d (.s (S (tvS i.output))), .d (.i 0), .d (.i 0), .d (.i 0), .d (.sl 1 (([] : List (List V.D)))), .d (.sl 1 (([] : List (List V.D))))]), (false, [.d (.b true)])]) []) (hp : i.program ≠ []) :
  SpG g 41 [.c (.d (.s (S (itT i))))] [] (.tup [(true, [.d (.i ((i).id)), .d (.i ((i).author)), .d (.i ((i).rank)), .d (.i ((i).time)), .d (.i ((i).kind)), .d (.sl 7 (tvsD ((i).input))), .d (.i (tvK ((i).output))), .d (.s (S (tvS ((i).output)))), .d (.i 0), .d (.i 0), .d (.i 0), .d (.sl 1 (([] : List (List V.D)))), .d (.sl 1 (([] : List (List V.D)))), .d (.s (S (i).prop)), .d (.s (S (i).param)), .d (.sl 1 (intsD ((i).program)))]), (false, [.d (.b true)])]) [] := by
 refine enterB 119 Tryz.func41 (by kernel_rfl) fun fr hG => ?_
 refine zC hG [(2, 1, .call (.c (.d (.s (S [105, 116, 101, 109])))) [] [[.s (S (rsT i 1)), .b true]]), (4, 1, .call (.c (.d (.i ((i).id)))) [] [[.s (S (rsT i 2)), .b true]]), (5, 1, .call (.c (.d (.i ((i).author)))) [] [[.s (S (rsT i 3)), .b true]]), (6, 1, .call (.c (.d (.i ((i).rank)))) [] [[.s (S (rsT i 4)), .b true]]), (7, 1, .call (.c (.d (.i ((i).time)))) [] [[.s (S (rsT i 5)), .b true]]), (8, 1, .call (.c (.d (.i ((i).kind)))) [] [[.s (S (rsT i 6)), .b true]]), (9, 1, .call (.c (.d (.s (S (rwT (i).input))))) [] [[.s (S (rsT i 7)), .b true]]), (9, 2, .call (.tup [(false, [.d (.sl 7 (tvsD ((i).input)))]), (false, [.d (.b true)])]) [] []), (10, 1, .call (.c (.d (.s (S (tvT (i).output))))) [] [[.s (S (rsT i 8)), .b true]]), (10, 2, .call (.tup [(true, [.d (.i (tvK ((i).output))), .d (.s (S (tvS ((i).output)))), .d (.i 0), .d (.i 0), .d (.i 0), .d (.sl 1 (([] : List (List V.D)))), .d (.sl 1 (([] : List (List V.D))))]), (false, [.d (.b true)])]) [] []), (13, 1, .call (.c (.d (.s (S (i).prop)))) [] [[.s (S (rsT i 9)), .b true]]), (14, 1, .call (.c (.d (.s (S (i).param)))) [] [[.s (S (rsT i 10)), .b true]])] [1, 0, 1, 1, 1, 1, 1, 1, 1, 1, 1, 1, 1, 1, 1, 1, 1] (false) (⟨[(0, [], .c (.d (.s (S (itT i))))), (2, [], .c (.bx 100 0)), (3, [], .c (.d (.b false))), (4, [], .c (.bx 202 0)), (5, [], .c (.bx 400 0))], [(100, .box 63 [.d (.i 0), .d (.i 0), .d (.i 0), .d (.i 0), .d (.i 0), .d (.nil), .d (.i 0), .d (.s (S [])), .d (.i 0), .d (.i 0), .d (.i 0), .d (.nil), .d (.nil), .d (.s (S [])), .d (.s (S [])), .d (.nil)]), (202, .box 158 [.d (.s (S (rsT i 10))), .d (.b true)]), (400, .box 63 [.d (.i ((i).id)), .d (.i ((i).author)), .d (.i ((i).rank)), .d (.i ((i).time)), .d (.i ((i).kind)), .d (.sl 7 (tvsD ((i).input))), .d (.i (tvK ((i).output))), .d (.s (S (tvS ((i).output)))), .d (.i 0), .d (.i 0), .d (.i 0), .d (.sl 1 (([] : List (List V.D)))), .d (.sl 1 (([] : List (List V.D)))), .d (.s (S (i).prop)), .d (.s (S (i).param)), .d (.nil)])]⟩) (by kernel_rfl) (conjC ((until_it hi : SpG g _ _ _ _ _)) (conjC ((num15 hi 0 (by decide) : SpG g _ _ _ _ _)) (conjC ((num15 hi 1 (by decide) : SpG g _ _ _ _ _)) (conjC ((num15 hi 2 (by decide) : SpG g _ _ _ _ _)) (conjC ((num15 hi 3 (by decide) : SpG g _ _ _ _ _)) (conjC ((num15 hi 4 (by decide) : SpG g _ _ _ _ _)) (conjC ((wrd15 hi 0 (by decide) : SpG g _ _ _ _ _)) (conjC ((hRR : SpG g _ _ _ _ _)) (conjC ((wrd15 hi 1 (by decide) : SpG g _ _ _ _ _)) (conjC ((hRV : SpG g _ _ _ _ _)) (conjC ((wrd15 hi 2 (by decide) : SpG g _ _ _ _ _)) (conj1 ((wrd15 hi 3 (by decide) : SpG g _ _ _ _ _)))))))))))))) (fun hc1 => absurd hc1 (by decide)) (fun _ => ?_)
 refine zA hG [] [0, 0, 1, 1, 1, 1, 1, 1, 1, 1, 1, 1, 1, 1, 1, 1, 1, 1] (⟨[(0, [], .c (.d (.s (S (itT i))))), (2, [], .c (.bx 100 0)), (3, [], .c (.d (.b false))), (4, [], .c (.bx 202 0)), (5, [], .c (.bx 400 0))], [(100, .box 63 [.d (.i 0), .d (.i 0), .d (.i 0), .d (.i 0), .d (.i 0), .d (.nil), .d (.i 0), .d (.s (S [])), .d (.i 0), .d (.i 0), .d (.i 0), .d (.nil), .d (.nil), .d (.s (S [])), .d (.s (S [])), .d (.nil)]), (202, .box 158 [.d (.s (S (rsT i 10))), .d (.b true)]), (400, .box 63 [.d (.i ((i).id)), .d (.i ((i).author)), .d (.i ((i).rank)), .d (.i ((i).time)), .d (.i ((i).kind)), .d (.sl 7 (tvsD ((i).input))), .d (.i (tvK ((i).output))), .d (.s (S (tvS ((i).output)))), .d (.i 0), .d (.i 0), .d (.i 0), .d (.sl 1 (([] : List (List V.D)))), .d (.sl 1 (([] : List (List V.D)))), .d (.s (S (i).prop)), .d (.s (S (i).param)), .d (.nil)])]⟩) [] [(400, 15, 9003, 3, 1)] (fun (zz : Nat × List UInt8 × List (List V.D)) => match zz with | (k, r, es) => (i.program.length - k, ⟨[(0, [], .c (.d (.s (S (itT i))))), (2, [], .c (.bx 100 0)), (3, [], .c (.d (.b false))), (4, [], .c (.bx 202 0)), (5, [], .c (.bx 400 0))], [(100, .box 63 [.d (.i 0), .d (.i 0), .d (.i 0), .d (.i 0), .d (.i 0), .d (.nil), .d (.i 0), .d (.s (S [])), .d (.i 0), .d (.i 0), .d (.i 0), .d (.nil), .d (.nil), .d (.s (S [])), .d (.s (S [])), .d (.nil)]), (202, .box 158 [.d (.s (S r)), .d (.b true)]), (400, .box 63 [.d (.i ((i).id)), .d (.i ((i).author)), .d (.i ((i).rank)), .d (.i ((i).time)), .d (.i ((i).kind)), .d (.sl 7 (tvsD ((i).input))), .d (.i (tvK ((i).output))), .d (.s (S (tvS ((i).output)))), .d (.i 0), .d (.i 0), .d (.i 0), .d (.sl 1 (([] : List (List V.D)))), .d (.sl 1 (([] : List (List V.D)))), .d (.s (S (i).prop)), .d (.s (S (i).param)), .ar 9003 0]), (9003, .arr 0 3 1 (es))]⟩, k ≤ i.program.length ∧ r = prR i k ∧ es = intsD (i.program.take k))) (0, rsT i 10, []) (by kernel_rfl) conj0 (by kernel_rfl) (by kernel_rfl) ?_ ?_
 ·exact ⟨Nat.zero_le _, rfl, rfl⟩
 rintro ⟨k, r, es⟩ ⟨hk, hr, hes⟩
 have hel : es.length = k := by rw [hes, intsD, List.length_map, List.length_take]; omega
 have hpl := hi.plen
 refine zc hG [] [1, 0] (!((S r).toList == (S []).toList)) (by kernel_rfl) conj0 (fun hc3 => ?_) (fun hc3 => ?_)
 ·(try simp only [zq8] at hc3)
  have hkl : k < i.program.length := by
   rcases Nat.lt_or_ge k i.program.length with h | h
   ·exact h
   ·exact absurd (by rw [hr, prR_end i h]) hc3
  rcases (by omega : k + 1 < i.program.length ∨ k + 1 = i.program.length) with hkq | hkq
  ·skip
   refine zC hG [(19, 1, .call (.c (.d (.i (i.program.getD k 0)))) [] [[.s (S (prR i (k + 1))), .b true]])] [1, 0, 1, 1, 0, 1] ((decide ((((S r).size : Int) : Int) > 0)) && false) (⟨[(0, [], .c (.d (.s (S (itT i))))), (2, [], .c (.bx 100 0)), (3, [], .c (.d (.b false))), (4, [], .c (.bx 202 0)), (5, [], .c (.bx 400 0)), (10, [], .c (.d (.s (S r)))), (11, [], .c (.d (.i (i.program.getD k 0))))], [(100, .box 63 [.d (.i 0), .d (.i 0), .d (.i 0), .d (.i 0), .d (.i 0), .d (.nil), .d (.i 0), .d (.s (S [])), .d (.i 0), .d (.i 0), .d (.i 0), .d (.nil), .d (.nil), .d (.s (S [])), .d (.s (S [])), .d (.nil)]), (202, .box 158 [.d (.s (S (prR i (k + 1)))), .d (.b true)]), (400, .box 63 [.d (.i ((i).id)), .d (.i ((i).author)), .d (.i ((i).rank)), .d (.i ((i).time)), .d (.i ((i).kind)), .d (.sl 7 (tvsD ((i).input))), .d (.i (tvK ((i).output))), .d (.s (S (tvS ((i).output)))), .d (.i 0), .d (.i 0), .d (.i 0), .d (.sl 1 (([] : List (List V.D)))), .d (.sl 1 (([] : List (List V.D)))), .d (.s (S (i).prop)), .d (.s (S (i).param)), .ar 9003 0]), (9003, .arr 0 3 1 (es))]⟩) (by kernel_rfl) (conj1 ((numR hi hr hkq : SpG g _ _ _ _ _))) (fun hc4 => ?_) (fun hc4 => ?_)
   ·(try simp only [zq8] at hc4)
    simp at hc4
   ·(try simp only [zq8] at hc4)
    refine zD hG [] (k + 1, prR i (k + 1), es ++ [[V.D.i (i.program.getD k 0)]]) (by kernel_rfl) (conj1 (show ((es).length + (([[.i (i.program.getD k 0)]] : List (List V.D))).length) * (8 + 1) ≤ 140737488355328 from (by intros; (try simp only [zq23, ByteArray.size_append] at *); omega))) ?_ ?_
    ·(try dsimp only); omega
    ·refine ⟨by omega, rfl, ?_⟩
     rw [hes, take_snoc 0 (by omega), intsD, intsD, List.map_append]; rfl
  ·skip
   refine zC hG [(19, 1, .call (.c (.d (.i (i.program.getD k 0)))) [] [[.s (S []), .b false]])] [1, 0, 1, 1, 0, 1] ((decide ((((S r).size : Int) : Int) > 0)) && true) (⟨[(0, [], .c (.d (.s (S (itT i))))), (2, [], .c (.bx 100 0)), (3, [], .c (.d (.b false))), (4, [], .c (.bx 202 0)), (5, [], .c (.bx 400 0)), (10, [], .c (.d (.s (S r)))), (11, [], .c (.d (.i (i.program.getD k 0))))], [(100, .box 63 [.d (.i 0), .d (.i 0), .d (.i 0), .d (.i 0), .d (.i 0), .d (.nil), .d (.i 0), .d (.s (S [])), .d (.i 0), .d (.i 0), .d (.i 0), .d (.nil), .d (.nil), .d (.s (S [])), .d (.s (S [])), .d (.nil)]), (202, .box 158 [.d (.s (S [])), .d (.b false)]), (400, .box 63 [.d (.i ((i).id)), .d (.i ((i).author)), .d (.i ((i).rank)), .d (.i ((i).time)), .d (.i ((i).kind)), .d (.sl 7 (tvsD ((i).input))), .d (.i (tvK ((i).output))), .d (.s (S (tvS ((i).output)))), .d (.i 0), .d (.i 0), .d (.i 0), .d (.sl 1 (([] : List (List V.D)))), .d (.sl 1 (([] : List (List V.D)))), .d (.s (S (i).prop)), .d (.s (S (i).param)), .ar 9003 0]), (9003, .arr 0 3 1 (es))]⟩) (by kernel_rfl) (conj1 ((numE hi hr hkq : SpG g _ _ _ _ _))) (fun hc5 => ?_) (fun hc5 => ?_)
   ·(try simp only [zq8] at hc5)
    refine zD hG [(21, 2, .call (.tup [(false, [.d (.i (i.program.getD k 0))]), (false, [.d (.b true)])]) [] [])] (k + 1, [], es ++ [[V.D.i (i.program.getD k 0)]]) (by kernel_rfl) (conjC ((intE hi hr hkq : SpG g _ _ _ _ _)) (conj1 (show ((es).length + (([[.i (i.program.getD k 0)]] : List (List V.D))).length) * (8 + 1) ≤ 140737488355328 from (by intros; (try simp only [zq23, ByteArray.size_append] at *); omega)))) ?_ ?_
    ·(try dsimp only); omega
    ·refine ⟨by omega, (prR_end i (by omega)).symm, ?_⟩
     rw [hes, take_snoc 0 (by omega), intsD, intsD, List.map_append]; rfl
   ·(try simp only [zq8] at hc5)
    exfalso; exact prR_ne i hkl (by rw [← hr]; exact S_none (by simpa using hc5))
 ·(try simp only [zq8] at hc3)
  have hkl : k = i.program.length := by
   rcases Nat.lt_or_ge k i.program.length with h | h
   ·exact absurd (by rw [← hr]; simpa using hc3) (prR_ne i h)
   ·omega
  refine zE hG [] (.exit 0) (⟨[(0, [], .c (.d (.s (S (itT i))))), (2, [], .c (.bx 100 0)), (3, [], .c (.d (.b false))), (4, [], .c (.bx 202 0)), (5, [], .c (.bx 400 0))], [(100, .box 63 [.d (.i 0), .d (.i 0), .d (.i 0), .d (.i 0), .d (.i 0), .d (.nil), .d (.i 0), .d (.s (S [])), .d (.i 0), .d (.i 0), .d (.i 0), .d (.nil), .d (.nil), .d (.s (S [])), .d (.s (S [])), .d (.nil)]), (202, .box 158 [.d (.s (S r)), .d (.b true)]), (400, .box 63 [.d (.i ((i).id)), .d (.i ((i).author)), .d (.i ((i).rank)), .d (.i ((i).time)), .d (.i ((i).kind)), .d (.sl 7 (tvsD ((i).input))), .d (.i (tvK ((i).output))), .d (.s (S (tvS ((i).output)))), .d (.i 0), .d (.i 0), .d (.i 0), .d (.sl 1 (([] : List (List V.D)))), .d (.sl 1 (([] : List (List V.D)))), .d (.s (S (i).prop)), .d (.s (S (i).param)), .ar 9003 0]), (9003, .arr 0 3 1 (es))]⟩) (by kernel_rfl) conj0 rfl ?_
  refine zC hG [(24, 7, .call (.c (.d (.s (S (itT i))))) [] [])] [1, 0, 1, 1, 1, 1, 1, 1, 1, 1, 1, 1, 1, 1, 1, 1, 1, 1, 1] (!((S (itT i)).toList == (S (itT i)).toList)) (⟨[(2, [], .c (.bx 100 0)), (3, [], .c (.d (.b false))), (5, [], .c (.bx 400 0))], [(100, .box 63 [.d (.i 0), .d (.i 0), .d (.i 0), .d (.i 0), .d (.i 0), .d (.nil), .d (.i 0), .d (.s (S [])), .d (.i 0), .d (.i 0), .d (.i 0), .d (.nil), .d (.nil), .d (.s (S [])), .d (.s (S [])), .d (.nil)]), (400, .box 63 [.d (.i ((i).id)), .d (.i ((i).author)), .d (.i ((i).rank)), .d (.i ((i).time)), .d (.i ((i).kind)), .d (.sl 7 (tvsD ((i).input))), .d (.i (tvK ((i).output))), .d (.s (S (tvS ((i).output)))), .d (.i 0), .d (.i 0), .d (.i 0), .d (.sl 1 (([] : List (List V.D)))), .d (.sl 1 (([] : List (List V.D)))), .d (.s (S (i).prop)), .d (.s (S (i).param)), .ar 9003 0]), (9003, .arr 0 3 1 (es))]⟩) (by kernel_rfl) (conj1 (fun (hg1 : false = false) => ((text15_es hi hR hT (es := es) (by rw [hes, List.take_of_length_le (by omega)]) : SpG g _ _ _ _ _)))) (fun hc6 => ?_) (fun hc6 => ?_)
  ·(try simp only [zq8] at hc6)
   simp at hc6
  ·(try simp only [zq8] at hc6)
   refine zR hG [] [] (.tup [(true, [.d (.i ((i).id)), .d (.i ((i).author)), .d (.i ((i).rank)), .d (.i ((i).time)), .d (.i ((i).kind)), .d (.sl 7 (tvsD ((i).input))), .d (.i (tvK ((i).output))), .d (.s (S (tvS ((i).output)))), .d (.i 0), .d (.i 0), .d (.i 0), .d (.sl 1 (([] : List (List V.D)))), .d (.sl 1 (([] : List (List V.D)))), .d (.s (S (i).prop)), .d (.s (S (i).param)), .d (.sl 1 (es))]), (false, [.d (.b true)])]) [] (by kernel_rfl) conj0 ?_ ?_
   ·rw [hes, List.take_of_length_le (by omega)]
   ·rfl
theorem read15_ok (i : It) (hi : ItOk i) (hR : SpG g 125 [.c (.d (.sl 7 (tvsD i.input)))] [] (.c (.d (.s (S (rwT i.input))))) []) (hT : SpG g 92 [.agg [.d (.i (tvK i.output)), .d (.s (S (tvS i.output))), .d (.i 0), .d (.i 0), .d (.i 0), .d (.sl 1 (([] : List (List V.D)))), .d (.sl 1 (([] : List (List V.D))))]] [] (.c (.d (.s (S (tvT i.output))))) []) (hRR : SpG g 76 [.c (.d (.s (S (rwT i.input))))] [] (.tup [(false, [.d (.sl 7 (tvsD i.input))]), (false, [.d (.b true)])]) []) (hRV : SpG g 78 [.c (.d (.s (S (tvT i.output))))] [] (.tup [(true, [.d (.i (tvK i.output)), .d (.s (S (tvS i.output))), .d (.i 0), .d (.i 0), .d (.i 0), .d (.sl 1 (([] : List (List V.D)))), .d (.sl 1 (([] : List (List V.D))))]), (false, [.d (.b true)])]) []) : SpG g 41 [.c (.d (.s (S (itT i))))] [] (.tup [(true, [.d (.i ((i).id)), .d (.i ((i).author)), .d (.i ((i).rank)), .d (.i ((i).time)), .d (.i ((i).kind)), .d (.sl 7 (tvsD ((i).input))), .d (.i (tvK ((i).output))), .d (.s (S (tvS ((i).output)))), .d (.i 0), .d (.i 0), .d (.i 0), .d (.sl 1 (([] : List (List V.D)))), .d (.sl 1 (([] : List (List V.D)))), .d (.s (S (i).prop)), .d (.s (S (i).param)), .d (.sl 1 (intsD ((i).program)))]), (false, [.d (.b true)])]) [] := by
 by_cases h : i.program = []
 ·have := spec_outT [[none, none, none, none, none, none, none, none, none, none, none, none, none, none, none, some 1], []] (read15_no (g := g) i hi hR hT hRR hRV h)
  rw [show intsD i.program = [] by rw [h]; rfl]
  exact this
 ·exact read15_yes i hi hR hT hRR hRV h
end Go.Proofs.YtclaplngjmgnoaaGreatDoor
namespace Go.V
open Go.RowKit
def RecDoes (P : Program) (fr : Fr) (n : Nat) (ops : Array Oper) (i : Nat) (r : Rec) (envi : Env) (owni : Own) : Prop :=
 ∀ (env : Env) (own : Own) (a : Act) (w : World) (pl : Pl), Ok fr n env own a w pl → (∀ u ∈ r.uses, env u = envi u) → (∀ j ∈ r.touch, own j = owni j) →
  (∀ t, r.dst = some t → ∀ u q sv, env u = some (q, sv) → u ≠ t → ∀ x ∈ q, x.1 ≠ t) → ∀ K : Act → World → Prop, (∀ a' w' pl', Ok fr n (putR env r) (updL own r.upd) a' w' pl' → K a' w') → wpOpX P ops i K a w
structure RecsOk (P : Program) (fr : Fr) (n : Nat) (ops : Array Oper) (rs : List Rec) (env : Env) (own : Own) (env' : Env) (own' : Own) : Prop where
 len : rs.length = ops.size
 envE : env' = envD rs (fun _ => true) 0 env
 ownE : own' = ownD rs (fun _ => true) 0 own
 each : ∀ (i : Nat) (r : Rec), rs[i]? = some r → ∃ envi owni, RecDoes P fr n ops i r envi owni ∧ envi = envD rs (fun j => decide (j < i)) 0 env ∧ owni = ownD rs (fun j => decide (j < i)) 0 own
 keysT : ∀ (i : Nat) (r : Rec), rs[i]? = some r → ∀ x ∈ keys r.upd, x ∈ r.touch
 sub : ∀ (i : Nat) (r : Rec), rs[i]? = some r → ∀ x, x ∈ slots r → x ∈ r.uses
def okB : Nat → List Rec → List Nat → Bool
 | _, [], _ => true
 | i, a :: r, _ :: ms => okA1 a i r ms && okB (i + 1) r ms
 | _, _ :: _, [] => false
theorem okB_get : ∀ {l : List Rec} {ms : List Nat} {k i j : Nat} {a b : Rec}, okB k l ms = true → l[i]? = some a → l[j]? = some b → i < j → ∃ m, ms[j]? = some m ∧ (m.testBit (k + i) = true ∨ indep a b = true)
 | [], ms, k, i, j, a, b, _, h, _, _ => by simp at h
 | x :: r, [], k, i, j, a, b, h, _, _, _ => by simp [okB] at h
 | x :: r, m :: ms, k, 0, j, a, b, h, hi, hj, hlt => by
  simp only [okB, Bool.and_eq_true] at h
  obtain ⟨j, rfl⟩ : ∃ j', j = j' + 1 := ⟨j - 1, by omega⟩
  simp only [List.getElem?_cons_zero, Option.some.injEq] at hi
  subst hi
  simpa using okA1_get h.1 (by simpa using hj)
 | x :: r, m :: ms, k, i + 1, j, a, b, h, hi, hj, hlt => by
  simp only [okB, Bool.and_eq_true] at h
  obtain ⟨j, rfl⟩ : ∃ j', j = j' + 1 := ⟨j - 1, by omega⟩
  obtain ⟨m', h1, h2⟩ := okB_get h.2 (by simpa using hi) (by simpa using hj) (by omega)
  exact ⟨m', by simpa using h1, by rw [show k + (i + 1) = k + 1 + i by omega]; exact h2⟩
theorem envD_none : ∀ (rs : List Rec) (D : Nat → Bool) (_ : ∀ j, D j = false) (k : Nat) (e : Env), envD rs D k e = e
 | [], _, _, _, _ => rfl
 | y :: ys, D, h, k, e => by simp only [envD, h k, Bool.false_eq_true, if_false]; exact envD_none ys D h (k + 1) e
theorem ownD_none : ∀ (rs : List Rec) (D : Nat → Bool) (_ : ∀ j, D j = false) (k : Nat) (e : Own), ownD rs D k e = e
 | [], _, _, _, _ => rfl
 | y :: ys, D, h, k, e => by simp only [ownD, h k, Bool.false_eq_true, if_false]; exact ownD_none ys D h (k + 1) e
section
variable {P : Program} {fr : Fr} {n : Nat} {ops : Array Oper}
theorem recs_dstX {env env' : Env} {own own' : Own} {rs : List Rec} (h : RecsOk P fr n ops rs env own env' own') {i : Nat} (hi : i < ops.size) : ∃ r, rs[i]? = some r := ⟨rs[i]'(by rw [h.len]; exact hi), List.getElem?_eq_getElem _⟩
theorem stepX {env env' : Env} {own own' own0 : Own} {rs : List Rec} (h : RecsOk P fr n ops rs env own env' own') (hag : ∀ (i : Nat) (r : Rec), rs[i]? = some r → ∀ x ∈ r.touch, own0 x = own x) (henv : ∀ u q sv, env u = some (q, sv) → q = [])
  {D : Nat → Bool} {i : Nat} {r : Rec} (hr : rs[i]? = some r) (hDi : D i = false)
  (hlow : ∀ j b, j < i → rs[j]? = some b → (b.dst.any (fun t => r.uses.contains t) || (keys b.upd).any (fun x => r.touch.contains x)) = true → D j = true)
  (hhigh : ∀ j b, i < j → rs[j]? = some b → (b.dst.any (fun t => r.uses.contains t || r.dst == some t) || (keys b.upd).any (fun x => r.touch.contains x || (keys r.upd).contains x) || r.dst.any (fun t => (slots b).contains t)) = true → D j = false)
  (hpath : ∀ j b, j < i → rs[j]? = some b → r.dst.any (fun t => (slots b).contains t) = false)
  {a : Act} {w : World} {pl : Pl} (hok : Ok fr n (envD rs D 0 env) (ownD rs D 0 own0) a w pl) {K : Act → World → Prop}
  (hK : ∀ a' w' pl', Ok fr n (envD rs (mark1 D i) 0 env) (ownD rs (mark1 D i) 0 own0) a' w' pl' → K a' w') : wpOpX P ops i K a w := by
 obtain ⟨h1, h2, h3, h4, _⟩ := h
 obtain ⟨envi, owni, hrec, he, hw⟩ := h4 i r hr
 have hDu : ∀ u ∈ r.uses, ∀ j b, rs[j]? = some b → b.dst = some u → D (0 + j) = decide (0 + j < i) := by
  intro u hu j b hj hb
  rw [Nat.zero_add]
  rcases Nat.lt_trichotomy j i with hlt | rfl | hgt
  ·rw [decide_eq_true hlt]
   exact hlow j b hlt hj (by simp [hb, hu])
  ·rw [hDi, decide_eq_false (by omega)]
  ·rw [decide_eq_false (by omega)]
   exact hhigh j b hgt hj (by simp [hb, hu])
 refine hrec _ _ a w pl hok (fun u hu => ?_) (fun x hx => ?_) (fun t ht u q sv hq hne x hx hxt => ?_) K (fun a' w' pl' hok' => hK a' w' pl' ?_)
 ·rw [he]
  exact envD_congr rs _ _ 0 _ _ u rfl (hDu u hu)
 ·rw [hw]
  refine ownD_congr rs _ _ 0 _ _ x (hag i r hr x hx) (fun j b hj hb => ?_)
  rw [Nat.zero_add]
  rcases Nat.lt_trichotomy j i with hlt | rfl | hgt
  ·rw [decide_eq_true hlt]
   exact hlow j b hlt hj (by simp only [Bool.or_eq_true, List.any_eq_true]; exact .inr ⟨x, hb, by simpa using hx⟩)
  ·rw [hDi, decide_eq_false (by omega)]
  ·rw [decide_eq_false (by omega)]
   exact hhigh j b hgt hj (by simp only [Bool.or_eq_true, List.any_eq_true]; exact .inl (.inr ⟨x, hb, .inl (by simpa using hx)⟩))
 ·rcases envD_from rs D 0 _ u q sv hq with h5 | ⟨j, b, h5, h6, h7, rfl⟩
  ·rw [henv u q sv h5] at hx; cases hx
  ·rw [Nat.zero_add] at h6
   have hsl : (slots b).contains t = true := by
    simp only [slots, List.contains_iff_mem, List.mem_map]
    exact ⟨x, hx, hxt⟩
   rcases Nat.lt_trichotomy j i with hlt | rfl | hgt
   ·have := hpath j b hlt h5
    rw [ht] at this
    simp only [Option.any_some, hsl] at this
    cases this
   ·rw [hDi] at h6; cases h6
   ·have := hhigh j b hgt h5 (by rw [ht]; simp only [Option.any_some, hsl, Bool.or_true])
    rw [this] at h6; cases h6
 ·
  have e1 : putR (envD rs D 0 env) r = envD rs (mark1 D i) 0 env := by
   funext u
   by_cases hu : r.dst = some u
   ·rw [envD_last rs (mark1 D i) 0 _ u i r hr hu (by simp [mark1]) (fun j b hj hb hbu => by
     rw [Nat.zero_add]
     simp only [mark1, if_neg (show j ≠ i by omega)]
     exact hhigh j b hj hb (by simp [hbu, hu]))]
    simp only [putR, hu]
    exact upd_same _ _ _
   ·have hp : putR (envD rs D 0 env) r u = envD rs D 0 env u := by
     unfold putR
     cases hd' : r.dst with
     | none => rfl
     | some t => exact upd_ne _ _ (fun e => hu (by rw [hd', e]))
    rw [hp]
    refine envD_congr rs _ _ 0 _ _ u rfl (fun j b hj hb => ?_)
    rw [Nat.zero_add]
    have : j ≠ i := fun e => by subst e; rw [hr] at hj; injection hj with hj; rw [hj] at hu; exact hu hb
    simp [mark1, this]
  have e2 : updL (ownD rs D 0 own0) r.upd = ownD rs (mark1 D i) 0 own0 := by
   funext x
   by_cases hu : x ∈ keys r.upd
   ·exact (ownD_last rs (mark1 D i) 0 _ _ x i r hr hu (by simp [mark1]) (fun j b hj hb hbu => by
     rw [Nat.zero_add]
     simp only [mark1, if_neg (show j ≠ i by omega)]
     exact hhigh j b hj hb (by simp only [Bool.or_eq_true, List.any_eq_true]; exact .inl (.inr ⟨x, hbu, .inr (by simpa using hu)⟩)))).symm
   ·rw [updL_notin _ _ x hu]
    refine ownD_congr rs _ _ 0 _ _ x rfl (fun j b hj hb => ?_)
    rw [Nat.zero_add]
    have : j ≠ i := fun e => by subst e; rw [hr] at hj; injection hj with hj; rw [hj] at hu; exact hu hb
    simp [mark1, this]
  rw [← e1, ← e2]
  exact hok'
theorem textX {K : Act → World → Prop} {env env' : Env} {own own' own0 : Own} {rs : List Rec} (h : RecsOk P fr n ops rs env own env' own') (hag : ∀ (i : Nat) (r : Rec), rs[i]? = some r → ∀ x ∈ r.touch, own0 x = own x) (henv : ∀ u q sv, env u = some (q, sv) → q = []) (hT : okT rs = true)
  (hQ : ∀ a w pl, Ok fr n (env') ((ownD rs (fun _ => true) 0 own0)) a w pl → K a w) : ∀ (m i : Nat), i + m = ops.size → ∀ a w pl, Ok fr n (envD rs (fun j => decide (j < i)) 0 env) (ownD rs (fun j => decide (j < i)) 0 own0) a w pl → wpOpsX P ops K (List.range' i m) a w := by
 intro m
 obtain ⟨h1, h2, h3, h4, _⟩ := id h
 induction m with
 | zero =>
  intro i hi a w pl hok
  simp only [List.range'_zero, wpOpsX]
  refine hQ a w pl ?_
  have hlt : ∀ j r, rs[j]? = some r → (0 + j) < i := by
   intro j r hj
   have := (List.getElem?_eq_some_iff.1 hj).1
   omega
  have e1 : envD rs (fun j => decide (j < i)) 0 env = env' := by
   rw [h2]
   funext u
   exact envD_congr rs _ _ 0 _ _ u rfl (fun j r hj _ => decide_eq_true (hlt j r hj))
  have e2 : ownD rs (fun j => decide (j < i)) 0 own0 = (ownD rs (fun _ => true) 0 own0) := by
   funext u
   exact ownD_congr rs _ _ 0 _ _ u rfl (fun j r hj _ => decide_eq_true (hlt j r hj))
  rw [← e1, ← e2]
  exact hok
 | succ m ih =>
  intro i hi a w pl hok
  rw [List.range'_succ, wpOpsX]
  obtain ⟨r, hr⟩ := recs_dstX h (i := i) (by omega)
  refine stepX h hag henv hr (D := fun j => decide (j < i)) (by simp) (fun j b hj _ _ => by simpa using hj) (fun j b hj _ _ => by simp; omega) (fun j b hj hb => ?_) hok (fun a' w' pl' hok' => ?_)
  ·have := okT_get hT hb hr hj
   unfold okPair at this
   cases hd : r.dst with
   | none => rfl
   | some t =>
    rw [hd] at this
    simp only [Option.any_some]
    simpa using this
  ·have e : mark1 (fun j => decide (j < i)) i = fun j => decide (j < i + 1) := by
    funext j
    by_cases hj : j = i
    ·subst hj; simp [mark1]
    ·simp only [mark1, if_neg hj]
     congr 1
     simp only [eq_iff_iff]
     omega
   rw [e] at hok'
   exact ih (i + 1) (by omega) a' w' pl' hok'
theorem anyX {K : Act → World → Prop} {env env' : Env} {own own' own0 : Own} {rs : List Rec} (h : RecsOk P fr n ops rs env own env' own') (hag : ∀ (i : Nat) (r : Rec), rs[i]? = some r → ∀ x ∈ r.touch, own0 x = own x) (henv : ∀ u q sv, env u = some (q, sv) → q = []) (hT : okT rs = true) (hA : okB 0 rs (bef ops) = true) (hE : edgesOk 0 ops.toList = true)
  (hQ : ∀ a w pl, Ok fr n (env') ((ownD rs (fun _ => true) 0 own0)) a w pl → K a w) : ∀ (fuel : Nat) (listed : Array Bool), listed.size = ops.size → (List.range ops.size).countP (fun i => !listed.getD i false) ≤ fuel →
   (∀ i o, ops[i]? = some o → listed.getD i false = true → ∀ e ∈ o.after, Region.binds .any e = true → listed.getD e.on false = true) →
   ∀ a w pl, Ok fr n (envD rs (fun j => listed.getD j false) 0 env) (ownD rs (fun j => listed.getD j false) 0 own0) a w pl → wpAnyX P .any ops K fuel listed a w := by
 obtain ⟨h1, h2, h3, h4, hkt, hsl⟩ := id h
 have hlen : rs.length = ops.size := h1
 have fin : ∀ (listed : Array Bool), (∀ i, i < ops.size → listed.getD i false = true) → ∀ a w pl, Ok fr n (envD rs (fun j => listed.getD j false) 0 env) (ownD rs (fun j => listed.getD j false) 0 own0) a w pl → K a w := by
  intro listed hall a w pl hok
  refine hQ a w pl ?_
  have hlt : ∀ j r, rs[j]? = some r → listed.getD (0 + j) false = true := by
   intro j r hj
   have := (List.getElem?_eq_some_iff.1 hj).1
   rw [Nat.zero_add]
   exact hall j (by omega)
  have e1 : envD rs (fun j => listed.getD j false) 0 env = env' := by
   rw [h2]
   funext u
   exact envD_congr rs _ _ 0 _ _ u rfl (fun j r hj _ => hlt j r hj)
  have e2 : ownD rs (fun j => listed.getD j false) 0 own0 = (ownD rs (fun _ => true) 0 own0) := by
   funext u
   exact ownD_congr rs _ _ 0 _ _ u rfl (fun j r hj _ => hlt j r hj)
  rw [← e1, ← e2]
  exact hok
 have rdy : ∀ (listed : Array Bool), listed.size = ops.size → Region.ready .any ops listed = [] → ∀ i, i < ops.size → listed.getD i false = true := by
  intro listed hsz hr i
  induction i using Nat.strongRecOn with
  | _ i ih =>
   intro hi
   cases hb : listed.getD i false with
   | true => rfl
   | false =>
    exfalso
    have hmem : i ∈ Region.ready .any ops listed := by
     rw [mem_ready]
     refine ⟨?_, ops[i], Array.getElem?_eq_getElem hi, fun e he hbd => ?_⟩
     ·have : i < listed.size := by omega
      simp only [Array.getD, this, dif_pos] at hb ⊢
      exact hb
     ·have := edgesOk_get hE (i := i) (o := ops[i]) (by simp [hi]) e he hbd
      exact ih e.on (by omega) (by omega)
    rw [hr] at hmem
    cases hmem
 intro fuel
 induction fuel with
 | zero =>
  intro listed hsz hcnt hcl a w pl hok
  have hall : ∀ i, i < ops.size → listed.getD i false = true := by
   intro i hi
   have h0 : (List.range ops.size).countP (fun i => !listed.getD i false) = 0 := by omega
   rw [List.countP_eq_zero] at h0
   have := h0 i (List.mem_range.2 hi)
   simpa using this
  refine ⟨?_, fin listed hall a w pl hok⟩
  rw [List.eq_nil_iff_forall_not_mem]
  intro i hi
  obtain ⟨h5, o, ho, _⟩ := mem_ready.1 hi
  have hlt := (Array.getElem?_eq_some_iff.1 ho).1
  have h6 := hall i hlt
  have : i < listed.size := by omega
  simp only [Array.getD, this, dif_pos] at h5 h6
  rw [h5] at h6
  cases h6
 | succ fuel ih =>
  intro listed hsz hcnt hcl a w pl hok
  refine ⟨fun hr => fin listed (rdy listed hsz hr) a w pl hok, fun i hi => ?_⟩
  obtain ⟨h5, o, ho, hedge⟩ := mem_ready.1 hi
  have hlt := (Array.getElem?_eq_some_iff.1 ho).1
  have hltl : i < listed.size := by omega
  have hDi : listed.getD i false = false := by
   simp only [Array.getD, hltl, dif_pos] at h5 ⊢
   exact h5
  obtain ⟨r, hr⟩ := recs_dstX h hlt
  have hmarked : (fun j => (listed.setIfInBounds i true).getD j false) = mark1 (fun j => listed.getD j false) i := by
   funext j
   by_cases hj : j = i
   ·subst hj; simp [mark1, hltl]
   ·simp only [mark1, if_neg hj]; exact getD_set_ne false (Ne.symm hj)
  have hbef : ∀ b, (bef ops)[i]? = some b → ∀ j, b.testBit j = true → listed.getD j false = true :=
   fun b hb => bef_closed (D := fun j => listed.getD j false) hcl i o b ho hb hedge
  have haft : ∀ j m, (bef ops)[j]? = some m → m.testBit i = true → listed.getD j false = false := by
   intro j m hm hbit
   cases hb : listed.getD j false with
   | false => rfl
   | true =>
    exfalso
    have hjl : j < ops.size := by
     rcases Nat.lt_or_ge j listed.size with h' | h'
     ·omega
     ·simp [Array.getD, Nat.not_lt.2 h'] at hb
    have := bef_closed (D := fun j => listed.getD j false) hcl j ops[j] m (Array.getElem?_eq_getElem hjl) hm (hcl j _ (Array.getElem?_eq_getElem hjl) hb) i hbit
    rw [hDi] at this
    cases this
  refine stepX h hag henv hr (D := fun j => listed.getD j false) hDi (fun j b hj hb hd => ?_) (fun j b hj hb hd => ?_) (fun j b hj hb => ?_) hok (fun a' w' pl' hok' => ?_)
  ·obtain ⟨m, hm, hor⟩ := okB_get hA hb hr hj
   rw [Nat.zero_add] at hor
   rcases hor with hbit | hind
   ·exact hbef m hm j hbit
   ·exfalso
    simp only [indep, Bool.and_eq_true] at hind
    obtain ⟨⟨⟨hi1, hi2⟩, hi3⟩, hi4⟩ := hind
    simp only [Bool.or_eq_true] at hd
    rcases hd with hd | hd
    ·cases hbd : b.dst with
     | none => rw [hbd] at hd; cases hd
     | some t =>
      rw [hbd] at hd hi1
      simp only [Option.any_some] at hd
      simp at hi1
      exact hi1.1 (by simpa using hd)
    ·obtain ⟨x, hx, hxt⟩ := List.any_eq_true.1 hd
     have := List.all_eq_true.1 hi3 x hx
     rw [hxt] at this
     cases this
  ·obtain ⟨m, hm, hor⟩ := okB_get hA hr hb hj
   rw [Nat.zero_add] at hor
   rcases hor with hbit | hind
   ·exact haft j m hm hbit
   ·exfalso
    simp only [indep, Bool.and_eq_true] at hind
    obtain ⟨⟨⟨hi1, hi2⟩, hi3⟩, hi4⟩ := hind
    simp only [Bool.or_eq_true] at hd
    rcases hd with (hd | hd) | hd
    ·cases hbd : b.dst with
     | none => rw [hbd] at hd; cases hd
     | some t =>
      rw [hbd] at hd hi2
      simp only [Option.any_some, Bool.or_eq_true] at hd
      rcases hd with hd | hd
      ·simp only [hd] at hi2; cases hi2
      ·simp only [beq_iff_eq] at hd
       rw [hd, hbd] at hi1
       simp at hi1
    ·obtain ⟨x, hx, hxt⟩ := List.any_eq_true.1 hd
     have h7 := List.all_eq_true.1 hi4 x hx
     simp only [Bool.or_eq_true] at hxt
     rcases hxt with hxt | hxt
     ·rw [hxt] at h7; cases h7
     ·have h8 : x ∈ keys r.upd := by simpa using hxt
      have h9 := hkt i r hr x h8
      have : r.touch.contains x = true := by simpa using h9
      rw [this] at h7
      cases h7
    ·cases hrd : r.dst with
     | none => rw [hrd] at hd; cases hd
     | some t =>
      rw [hrd] at hd hi1
      simp only [Option.any_some] at hd
      simp only [Bool.and_eq_true] at hi1
      have hsub : ∀ x, x ∈ slots b → x ∈ b.uses := hsl j b hb
      have := hsub t (by simpa using hd)
      have h7 : b.uses.contains t = true := by simpa using this
      rw [h7] at hi1
      cases hi1.1
  ·have := okT_get hT hb hr hj
   unfold okPair at this
   cases hd : r.dst with
   | none => rfl
   | some t =>
    rw [hd] at this
    simp only [Option.any_some]
    simpa using this
  ·refine ih _ (by simp [hsz]) ?_ ?_ a' w' pl' ?_
   ·have hsplit : (List.range ops.size).countP (fun j => !(listed.setIfInBounds i true).getD j false) + 1 = (List.range ops.size).countP (fun j => !listed.getD j false) := by
     have hm : ∀ (l : List Nat), l.Nodup → i ∈ l → l.countP (fun j => !(listed.setIfInBounds i true).getD j false) + 1 = l.countP (fun j => !listed.getD j false) := by
      intro l
      induction l with
      | nil => intro _ h; cases h
      | cons x r ihl =>
       intro hn hi
       rw [List.nodup_cons] at hn
       by_cases hx : x = i
       ·subst hx
        have hsame : r.countP (fun j => !(listed.setIfInBounds x true).getD j false) = r.countP (fun j => !listed.getD j false) := by
         refine List.countP_congr (fun j hj => ?_)
         have : x ≠ j := fun e => hn.1 (by rw [e]; exact hj)
         rw [getD_set_ne false this]
        have hs : (listed.setIfInBounds x true).getD x false = true := by simp [hltl]
        rw [List.countP_cons_of_neg (by simp [hs]), List.countP_cons_of_pos (by simp [hDi]), hsame]
       ·have hir : i ∈ r := (List.mem_cons.1 hi).resolve_left (fun e => hx e.symm)
        have := ihl hn.2 hir
        rw [List.countP_cons, List.countP_cons, getD_set_ne false (fun e => hx e.symm)]
        omega
     exact hm _ List.nodup_range (List.mem_range.2 hlt)
    omega
   ·intro j o' hj hdone e he hbd
    by_cases hji : j = i
    ·subst hji
     rw [ho] at hj
     injection hj with hj
     subst hj
     exact getD_set_true (hedge e he hbd)
    ·rw [getD_set_ne false (Ne.symm hji)] at hdone
     exact getD_set_true (hcl j o' hj hdone e he hbd)
   ·rw [hmarked]; exact hok'
theorem regionOps_X {env env' : Env} {own own' own0 : Own} {rs : List Rec} (h : RecsOk P fr n ops rs env own env' own') (hag : ∀ (i : Nat) (r : Rec), rs[i]? = some r → ∀ x ∈ r.touch, own0 x = own x) (henv : ∀ u q sv, env u = some (q, sv) → q = [])
  (hT : okT rs = true) {K : Act → World → Prop} {a : Act} {w : World} {pl : Pl} (hok : Ok fr n env own0 a w pl)
  (hQ : ∀ a w pl, Ok fr n env' (ownD rs (fun _ => true) 0 own0) a w pl → K a w) : wpOpsX P ops K (List.range ops.size) a w := by
 have h0 : ∀ e : Env, envD rs (fun j => decide (j < 0)) 0 e = e := fun e => envD_none rs _ (fun j => by simp) 0 e
 have h0' : ∀ e : Own, ownD rs (fun j => decide (j < 0)) 0 e = e := fun e => ownD_none rs _ (fun j => by simp) 0 e
 rw [List.range_eq_range']
 exact textX h hag henv hT hQ ops.size 0 (by omega) a w pl (by rw [h0, h0']; exact hok)
theorem region_X {R : Wp P} {id : Nat} {draw : Bool} (hm : P.follows .mixedOrders = true) {env env' : Env} {own own' own0 : Own} {rs : List Rec} (h : RecsOk P fr n ops rs env own env' own') (hag : ∀ (i : Nat) (r : Rec), rs[i]? = some r → ∀ x ∈ r.touch, own0 x = own x) (henv : ∀ u q sv, env u = some (q, sv) → q = [])
  (hT : okT rs = true) (hA : draw = true → okB 0 rs (bef ops) = true ∧ edgesOk 0 ops.toList = true) (hnd : noDefer ops = true) {Q : Exit → Act → World → Prop} {a : Act} {w : World} {pl : Pl} (hok : Ok fr n env own0 a w pl)
  (hQ : ∀ a w pl, Ok fr n env' (ownD rs (fun _ => true) 0 own0) a w pl → Q .normal a w) : R.wp (Code.region id ops draw) Q a w := by
 have h0 : ∀ e : Env, envD rs (fun j => decide (j < 0)) 0 e = e := fun e => envD_none rs _ (fun j => by simp) 0 e
 have h0' : ∀ e : Own, ownD rs (fun j => decide (j < 0)) 0 e = e := fun e => ownD_none rs _ (fun j => by simp) 0 e
 cases draw with
 | false =>
  refine R.region hnd ?_
  rw [List.range_eq_range']
  exact textX h hag henv hT hQ ops.size 0 (by omega) a w pl (by rw [h0, h0']; exact hok)
 | true =>
  obtain ⟨hA, hE⟩ := hA rfl
  refine R.any hm hnd ?_
  have hz : ∀ j, (Array.replicate ops.size false).getD j false = false := by
   intro j
   simp only [Array.getD_eq_getD_getElem?, Array.getElem?_replicate]
   split <;> rfl
  have hg : w.grownBy { w with drawn := w.drawn + 1 } none := ⟨rfl, rfl, rfl, Nat.le_refl _, fun _ _ _ => rfl⟩
  obtain ⟨m', L⟩ := hok.mem.ext hg
  refine anyX h hag henv hT hA hE hQ ops.size _ (by simp) ?_ (fun i o _ hd => by rw [hz] at hd; cases hd) a _ pl ?_
  ·exact Nat.le_trans List.countP_le_length (by simp)
  ·rw [envD_none rs _ hz 0, ownD_none rs _ hz 0]
   exact hok.later m' L
end
end Go.V
namespace Go.V
open Go.RowKit
inductive Tr (α : Type) where
 | e
 | n (v : Option α) (l r : Tr α)
def Tr.get {α : Type} : Tr α → Nat → Option α
 | .e, _ => none
 | .n v l r, i => bif Nat.beq i 0 then v else bif Nat.beq (i % 2) 1 then l.get (i / 2) else r.get (i / 2 - 1)
def Tr.put {α : Type} (x : Option α) : Nat → Tr α → Nat → Tr α
 | 0, t, _ => t
 | f + 1, .e, i => bif Nat.beq i 0 then .n x .e .e else bif Nat.beq (i % 2) 1 then .n none (Tr.put x f .e (i / 2)) .e else .n none .e (Tr.put x f .e (i / 2 - 1))
 | f + 1, .n v l r, i => bif Nat.beq i 0 then .n x l r else bif Nat.beq (i % 2) 1 then .n v (Tr.put x f l (i / 2)) r else .n v l (Tr.put x f r (i / 2 - 1))
theorem beq_t {i j : Nat} : (Nat.beq i j = true) = (i = j) := by simp [Nat.beq_eq]
theorem cond_nat {α : Type} {i j : Nat} {x y : α} : (bif Nat.beq i j then x else y) = if i = j then x else y := by
 by_cases h : i = j
 ·subst h; simp [Nat.beq_refl]
 ·have : Nat.beq i j = false := by
   cases hb : Nat.beq i j with
   | false => rfl
   | true => exact absurd (Nat.eq_of_beq_eq_true hb) h
  rw [this, if_neg h]; rfl
theorem Tr.get_put {α : Type} (x : Option α) : ∀ (f : Nat) (t : Tr α) (i j : Nat), i + 1 < 2 ^ f → (Tr.put x f t i).get j = if j = i then x else t.get j
 | 0, t, i, j, h => by simp at h
 | f + 1, t, i, j, h => by
  have h2 : 2 ^ (f + 1) = 2 * 2 ^ f := by rw [Nat.pow_succ]; omega
  cases t with
  | e =>
   simp only [Tr.put, cond_nat]
   split
   ·rename_i hi
    subst hi
    simp only [Tr.get, cond_nat]
    split
    ·rename_i hj; simp [hj]
    ·rename_i hj; simp [hj, Tr.get]
   ·rename_i hi
    split
    ·rename_i ho
     simp only [Tr.get, cond_nat]
     by_cases hj : j = 0
     ·simp only [hj, if_true]; rw [if_neg (by omega)]
     ·rw [if_neg hj]
      by_cases hjo : j % 2 = 1
      ·rw [if_pos hjo, Tr.get_put x f .e (i / 2) (j / 2) (by omega)]
       by_cases hji : j = i
       ·simp [hji]
       ·rw [if_neg (show ¬ j / 2 = i / 2 by omega), if_neg hji]; simp [Tr.get]
      ·rw [if_neg hjo, if_neg (by omega)]
    ·rename_i ho
     simp only [Tr.get, cond_nat]
     by_cases hj : j = 0
     ·simp only [hj, if_true]; rw [if_neg (by omega)]
     ·rw [if_neg hj]
      by_cases hjo : j % 2 = 1
      ·rw [if_pos hjo, if_neg (by omega)]
      ·rw [if_neg hjo, Tr.get_put x f .e (i / 2 - 1) (j / 2 - 1) (by omega)]
       by_cases hji : j = i
       ·simp [hji]
       ·rw [if_neg (show ¬ j / 2 - 1 = i / 2 - 1 by omega), if_neg hji]; simp [Tr.get]
  | n v l r =>
   simp only [Tr.put, cond_nat]
   split
   ·rename_i hi
    subst hi
    simp only [Tr.get, cond_nat]
    split
    ·rename_i hj; simp [hj]
    ·rename_i hj; simp [hj]
   ·rename_i hi
    split
    ·rename_i ho
     simp only [Tr.get, cond_nat]
     by_cases hj : j = 0
     ·simp only [hj, if_true]; rw [if_neg (by omega)]
     ·rw [if_neg hj, if_neg hj]
      by_cases hjo : j % 2 = 1
      ·rw [if_pos hjo, if_pos hjo, Tr.get_put x f l (i / 2) (j / 2) (by omega)]
       by_cases hji : j = i
       ·simp [hji]
       ·rw [if_neg (show ¬ j / 2 = i / 2 by omega), if_neg hji]
      ·rw [if_neg hjo, if_neg hjo, if_neg (by omega)]
    ·rename_i ho
     simp only [Tr.get, cond_nat]
     by_cases hj : j = 0
     ·simp only [hj, if_true]; rw [if_neg (by omega)]
     ·rw [if_neg hj, if_neg hj]
      by_cases hjo : j % 2 = 1
      ·rw [if_pos hjo, if_pos hjo, if_neg (by omega)]
      ·rw [if_neg hjo, if_neg hjo, Tr.get_put x f r (i / 2 - 1) (j / 2 - 1) (by omega)]
       by_cases hji : j = i
       ·simp [hji]
       ·rw [if_neg (show ¬ j / 2 - 1 = i / 2 - 1 by omega), if_neg hji]
def few (i : Nat) : Bool := Nat.ble (i + 2) 1099511627776
theorem Tr.get_put40 {α : Type} {x : Option α} {t : Tr α} {i : Nat} (h : few i = true) (j : Nat) : (Tr.put x 40 t i).get j = if j = i then x else t.get j :=
 Tr.get_put x 40 t i j (by
  have := Nat.le_of_ble_eq_true h
  have e : (2 : Nat) ^ 40 = 1099511627776 := by decide
  omega)
def setL : Tr Ob → List (Nat × Ob) → Option (Tr Ob)
 | t, [] => some t
 | t, (i, o) :: r => if few i then setL (Tr.put (some o) 40 t i) r else none
theorem setL_get : ∀ {l : List (Nat × Ob)} {t t' : Tr Ob}, setL t l = some t' → t'.get = updL t.get l
 | [], t, t', h => by simp only [setL, Option.some.injEq] at h; subst h; rfl
 | (i, o) :: r, t, t', h => by
  simp only [setL] at h
  split at h
  ·rename_i hf
   rw [setL_get h]
   simp only [updL]
   congr 1
   funext j
   rw [Tr.get_put40 hf]
   rfl
  ·cases h
theorem updL_congr : ∀ (l : List (Nat × Ob)) {own own' : Own} {i : Nat}, own i = own' i → updL own l i = updL own' l i
 | [], _, _, _, h => h
 | (j, o) :: r, own, own', i, h => updL_congr r (by by_cases hi : i = j <;> simp [upd, hi, h])
theorem updL_append : ∀ (l m : List (Nat × Ob)) (own : Own), updL own (l ++ m) = updL (updL own l) m
 | [], _, _ => rfl
 | (j, o) :: r, m, own => updL_append r m _
def envF (loc : EnvL) (tr : Tr SV) : Env := fun t => match findE loc t with
 | some x => some x
 | none => (tr.get t).map fun s => ([], s)
def flushE : EnvL → Tr SV → Tr SV
 | [], tr => tr
 | (t, p, sv) :: r, tr => Tr.put (bif p.isEmpty then some sv else none) 40 (flushE r tr) t
theorem flushE_get : ∀ {loc : EnvL} {tr : Tr SV}, (loc.all fun e => few e.1) = true → ∀ {u : Nat} {q : Path} {sv : SV}, envF [] (flushE loc tr) u = some (q, sv) → q = [] ∧ envF loc tr u = some (q, sv)
 | [], tr, _, u, q, sv, h => by
  refine ⟨?_, h⟩
  simp only [envF, findE, flushE, Option.map_eq_some_iff, Prod.mk.injEq] at h
  obtain ⟨_, _, h, _⟩ := h
  exact h.symm
 | (t, p, s) :: r, tr, hf, u, q, sv, h => by
  simp only [List.all_cons, Bool.and_eq_true] at hf
  simp only [envF, findE, flushE] at h ⊢
  rw [Tr.get_put40 hf.1] at h
  by_cases hu : t = u
  ·subst hu
   simp only [if_true, beq_self_eq_true] at h ⊢
   cases p with
   | nil =>
    simp only [List.isEmpty_nil, cond_true, Option.map_some, Option.some.injEq, Prod.mk.injEq] at h
    obtain ⟨rfl, rfl⟩ := h
    exact ⟨rfl, rfl⟩
   | cons x y => simp at h
  ·have hne : (t == u) = false := by simpa using hu
   rw [if_neg (Ne.symm hu)] at h
   rw [hne]
   simp only [Bool.false_eq_true, if_false]
   exact flushE_get (loc := r) hf.2 (by simpa only [envF, findE] using h)
structure Ent (P : Program) (G : List (Nat × List Value)) where
 f : FuncId
 ask : Nat → List SV → List (Nat × Ob) → Option (SV × List (Nat × Ob) × List Prop)
 ok : ∀ {k : Nat} {ins : List SV} {refs post : List (Nat × Ob)} {out : SV} {cs : List Prop}, ask k ins refs = some (out, post, cs) → conj cs → Spec P G f ins refs out post
def entOf {P : Program} {G : List (Nat × List Value)} : List (Ent P G) → FuncId → Option (Ent P G)
 | [], _ => none
 | e :: r, f => bif Nat.beq e.f f then some e else entOf r f
theorem entOf_f {P : Program} {G : List (Nat × List Value)} : ∀ {T : List (Ent P G)} {f : FuncId} {e : Ent P G}, entOf T f = some e → e.f = f
 | [], f, e, h => by simp [entOf] at h
 | x :: r, f, e, h => by
  simp only [entOf, cond_nat] at h
  split at h
  ·rename_i hx; simp only [Option.some.injEq] at h; rw [← h]; exact hx
  ·exact entOf_f h
def idsC : C → List Nat
 | .bx i _ => [i]
 | .fn _ l m => (l ++ m).map (·.1)
 | .mp i => [i]
 | .yl i => [i]
 | _ => []
def idsCA : C → List Nat
 | .ar i _ => [i]
 | c => idsC c
def idsS : SV → List Nat
 | .c x => idsC x
 | .agg xs => xs.flatMap idsC
 | .tup xs => xs.flatMap fun p => p.2.flatMap idsC
def idsO : Option Ob → List Nat
 | some (.box _ cells) => cells.flatMap idsCA
 | some (.arr _ e _ _) => e.ov.flatMap fun x => idsCA x.2
 | none => []
def reach (ob : Own) : Nat → List Nat → List Nat → List Nat
 | 0, _, acc => acc
 | _ + 1, [], acc => acc
 | f + 1, i :: r, acc => if acc.contains i then reach ob f r acc else reach ob f (idsO (ob i) ++ r) (acc ++ [i])
structure OpR where
 sv : SV
 upd : List (Nat × Ob)
 touch : List Nat
 own : Tr Ob
 k : Nat
 cs : List Prop
def OpR.eff (r : OpR) : Eff := ⟨r.sv, r.upd, r.touch, []⟩
def effR (own : Tr Ob) (k : Nat) (cs : List Prop) (e : Eff) : Option OpR := match setL own e.upd with
 | some own' => some ⟨e.sv, e.upd, keys e.upd ++ e.touch, own', k, cs⟩
 | none => none
def callT {P : Program} {G : List (Nat × List Value)} (e : Ent P G) (k : Nat) (svs : List SV) (own : Tr Ob) : Option OpR :=
 match argsG own.get (reach own.get 1000 (svs.flatMap idsS) []) svs, handL own.get (reach own.get 1000 (svs.flatMap idsS) []) 0 (reach own.get 1000 (svs.flatMap idsS) []) with
 | some (ins, _), some refs => match e.ask k ins refs with
  | some (out, post, cs) => match callGS (Spec P G e.f) own.get (some svs) k out (reach own.get 1000 (svs.flatMap idsS) []) post with
   | some ef => if ef.obs.all (fun o => o.k || o.b) then effR own (k + 1 + post.length) cs ef else none
   | none => none
  | none => none
 | _, _ => none
def OpOk (P : Program) (G : List (Nat × List Value)) (lk : Lk) (p : Path) (o : Oper) (own : Tr Ob) (r : OpR) : Prop :=
 r.own.get = updL own.get r.upd ∧ (∀ x ∈ keys r.upd, x ∈ r.touch) ∧
 ∀ (fr : Fr) (own0 : Own) (a : Act) (w : World) (pl : Pl), fr.G = G → conj r.cs → (∀ i ∈ r.touch, own0 i = own.get i) → Mem fr own0 w pl → LkOk a w pl own0 p lk → Eng.Holds a p → DoesX P fr own0 a w pl o r.eff
section
variable {P : Program} {G : List (Nat × List Value)} {lk : Lk} {p : Path} {o : Oper}
theorem does_eff {fr : Fr} {own : Own} {a : Act} {w : World} {pl : Pl} {e e' : Eff} (h1 : e'.sv = e.sv) (h2 : e'.upd = e.upd) (h : DoesX P fr own a w pl o e) : DoesX P fr own a w pl o e' := by
 unfold DoesX at h ⊢
 rw [h1, h2]
 exact h
theorem effR_ok {own : Tr Ob} {k : Nat} {cs : List Prop} {e : Eff} {r : OpR} (h : effR own k cs e = some r)
  (hd : ∀ (fr : Fr) (own0 : Own) (a : Act) (w : World) (pl : Pl), fr.G = G → conj cs → (∀ i ∈ e.touch, own0 i = own.get i) → Mem fr own0 w pl → LkOk a w pl own0 p lk → Eng.Holds a p → DoesX P fr own0 a w pl o e) : OpOk P G lk p o own r := by
 unfold effR at h
 split at h
 ·rename_i own' hs
  simp only [Option.some.injEq] at h
  subst h
  refine ⟨setL_get hs, fun x hx => by simp [hx], fun fr own0 a w pl hG hc ht m hl hp => ?_⟩
  exact does_eff (e := e) rfl rfl (hd fr own0 a w pl hG hc (fun i hi => ht i (by simp [hi])) m hl hp)
 ·cases h
theorem conj_of_all : ∀ {l : List Prop}, (∀ c ∈ l, c) → conj l
 | [], _ => trivial
 | [c], h => h c (by simp)
 | c :: d :: r, h => ⟨h c (by simp), conj_of_all fun x hx => h x (by simp [hx])⟩
theorem callGS_obs {S : List SV → List (Nat × Ob) → SV → List (Nat × Ob) → Prop} {ob : Own} {osv : Option (List SV)} {nid : Nat} {out : SV} {rs : List Nat} {post : List (Nat × Ob)} {e : Eff} (h : callGS S ob osv nid out rs post = some e) :
  ∃ svs ins ars refs, osv = some svs ∧ argsG ob rs svs = some (ins, ars) ∧ handL ob rs 0 rs = some refs ∧ ∀ x ∈ e.obs, x.p = S ins refs out post ∨ x.k = false := by
 unfold callGS at h
 split at h
 ·rename_i svs
  split at h
  ·rename_i ins ars refs hargs hrefs
   split at h
   ·split at h
    ·simp only [Option.some.injEq] at h
     subst h
     refine ⟨svs, ins, ars, refs, rfl, hargs, hrefs, fun x hx => ?_⟩
     rcases List.mem_cons.1 hx with rfl | hx
     ·exact .inl rfl
     ·right
      split at hx
      ·cases hx
      ·obtain ⟨y, hy, hx⟩ := List.mem_flatMap.1 hx
       unfold flatQ at hx
       split at hx
       ·cases hx
       ·simp only [List.mem_singleton] at hx
        subst hx; rfl
    ·cases h
   ·cases h
  ·cases h
 ·cases h
theorem callT_ok {T : Ent P G} {k : Nat} {svs : List SV} {own : Tr Ob} {r : OpR} (h : callT T k svs own = some r)
  (hrun : ∀ (own0 : Own) (a : Act) (w : World) (pl : Pl) , LkOk a w pl own0 p lk → Eng.Holds a p → ∃ vals, All2 (SvOk w pl own0) svs vals ∧ RunsBy P G a w o vals (Spec P G T.f)) : OpOk P G lk p o own r := by
 unfold callT at h
 generalize hrs : reach own.get 1000 (svs.flatMap idsS) [] = rs at h
 split at h
 ·rename_i ins ars refs hargs hrefs
  split at h
  ·rename_i out post cs hask
   split at h
   ·rename_i ef hef
    split at h
    ·rename_i hall
     refine effR_ok h fun fr own0 a w pl hG hc ht m hl hp => ?_
     subst hG
     obtain ⟨vals, hv, hr⟩ := hrun own0 a w pl hl hp
     obtain ⟨svs', ins', ars', refs', h1, h2, h3, h4⟩ := callGS_obs hef
     simp only [Option.some.injEq] at h1
     subst h1
     rw [hargs] at h2
     rw [hrefs] at h3
     simp only [Option.some.injEq, Prod.mk.injEq] at h2 h3
     obtain ⟨rfl, rfl⟩ := h2
     subst h3
     refine callGS_ok m (vals := vals) (fun s hs => by simp only [Option.some.injEq] at hs; subst hs; exact hv) hr hef ht (conj_of_all fun c hcm => ?_)
     simp only [Eff.obl, pOf, List.mem_map] at hcm
     obtain ⟨x, hx, rfl⟩ := hcm
     rcases h4 x hx with h5 | h5
     ·rw [h5]; exact T.ok hask hc
     ·have := List.all_eq_true.1 hall x hx
      rw [h5, Bool.false_or] at this
      exact x.h this
    ·cases h
   ·cases h
  ·cases h
 ·cases h
end
end Go.V
namespace Go.V
open Go.RowKit
def viewC (ov : List (Nat × C)) : Nat → List D → List C
 | _, [] => []
 | p, d :: r => (match ov.lookup p with
  | some c => c
  | none => .d d) :: viewC ov (p + 1) r
def flatC : List C → List D
 | [] => []
 | .d x :: r => x :: flatC r
 | _ :: r => .v undef :: flatC r
def ovOf : Nat → List C → List (Nat × C)
 | _, [] => []
 | p, .d _ :: r => ovOf (p + 1) r
 | p, c :: r => (p, c) :: ovOf (p + 1) r
section
variable {P : Program} {fr : Fr} {own : Own} {a : Act} {w w' : World} {pl : Pl} {o : Oper} {p : Path} {lk : Lk}
theorem viewC_len (ov : List (Nat × C)) : ∀ (ds : List D) (p : Nat), (viewC ov p ds).length = ds.length
 | [], _ => rfl
 | d :: r, p => by simp [viewC, viewC_len ov r]
theorem viewC_get (ov : List (Nat × C)) : ∀ (ds : List D) (p j : Nat), (viewC ov p ds)[j]? = (ds[j]?).map fun d => match ov.lookup (p + j) with
  | some c => c
  | none => .d d
 | [], _, j => by simp [viewC]
 | d :: r, p, 0 => by simp [viewC]
 | d :: r, p, j + 1 => by
  simp only [viewC, List.getElem?_cons_succ]
  rw [viewC_get ov r (p + 1) j, show p + 1 + j = p + (j + 1) by omega]
theorem view_ok {ov : List (Nat × C)} {ds : List D} {xs : List Value} (h : AllO w pl own ov ds xs) : All2 (COk w pl own) (viewC ov 0 ds) xs := by
 refine ⟨by rw [viewC_len]; exact h.1, fun j c x hc hx => ?_⟩
 rw [viewC_get] at hc
 simp only [Option.map_eq_some_iff, Nat.zero_add] at hc
 obtain ⟨d, hd, rfl⟩ := hc
 have := h.2 j d x hd hx
 cases ho : ov.lookup j with
 | none => rw [ho] at this; exact this
 | some c => rw [ho] at this; exact this
theorem flatC_len : ∀ cs : List C, (flatC cs).length = cs.length
 | [] => rfl
 | c :: r => by cases c <;> simp [flatC, flatC_len r]
theorem ovOf_ge : ∀ (cs : List C) (p j : Nat), j < p → (ovOf p cs).lookup j = none
 | [], _, _, _ => rfl
 | c :: r, p, j, h => by
  cases c with
  | d x => exact ovOf_ge r (p + 1) j (by omega)
  | _ =>
   simp only [ovOf, List.lookup]
   have : (j == p) = false := by simp; omega
   rw [this]
   exact ovOf_ge r (p + 1) j (by omega)
theorem split_ok : ∀ {cs : List C} {xs : List Value} (p : Nat), All2 (COk w pl own) cs xs → ∀ (j : Nat) (d : D) (x : Value), (flatC cs)[j]? = some d → xs[j]? = some x → OvOk w pl own d x ((ovOf p cs).lookup (p + j))
 | [], xs, p, h, j, d, x, hd, hx => by simp [flatC] at hd
 | c :: r, xs, p, h, j, d, x, hd, hx => by
  obtain ⟨y, ys, rfl, h1, h2⟩ := h.uncons
  cases j with
  | zero =>
   simp only [List.getElem?_cons_zero, Option.some.injEq] at hx
   subst hx
   cases c with
   | d z =>
    simp only [flatC, List.getElem?_cons_zero, Option.some.injEq] at hd
    subst hd
    simp only [ovOf, Nat.add_zero]
    rw [ovOf_ge r (p + 1) p (by omega)]
    exact h1
   | _ => simp only [ovOf, Nat.add_zero, List.lookup, beq_self_eq_true]; exact h1
  | succ j =>
   have ih := split_ok (p + 1) h2 j d x (by cases c <;> simpa [flatC] using hd) (by simpa using hx)
   rw [show p + 1 + j = p + (j + 1) by omega] at ih
   cases c with
   | d z => exact ih
   | _ =>
    simp only [ovOf, List.lookup]
    have : (p + (j + 1) == p) = false := by simp
    rw [this]
    exact ih
theorem allO_of {cs : List C} {xs : List Value} (h : All2 (COk w pl own) cs xs) : AllO w pl own (ovOf 0 cs) (flatC cs) xs :=
 ⟨by rw [flatC_len]; exact h.1, fun j d x hd hx => by have := split_ok 0 h j d x hd hx; rwa [Nat.zero_add] at this⟩
theorem mkd_ovOf : ∀ (cs : List C) (p : Nat), p + cs.length ≤ 4611686018427387904 → mkd (ovOf p cs) = false
 | [], _, _ => rfl
 | c :: r, p, h => by
  simp only [List.length_cons] at h
  have ih := mkd_ovOf r (p + 1) (by omega)
  cases c with
  | d x => exact ih
  | _ =>
   simp only [mkd, ovOf, List.any_cons, Bool.or_eq_false_iff] at ih ⊢
   exact ⟨by simp; omega, ih⟩
def arrOf (k : Nat) (e : TypeId) (sz n : Nat) (cs : List C) : Ob := .arr k ⟨e, ovOf 0 cs⟩ sz (chunks sz n (flatC cs))
theorem arr_view {i k : Nat} {e : AT} {sz : Nat} {es : List (List D)} (h : ObOk 0 w pl own i (.arr k e sz es)) : ∃ xs, ownsQ (mkd e.ov) w 0 e.e sz (.slice (pl.sl i).1 es.length (pl.sl i).2) es.length xs ∧ All2 (COk w pl own) (viewC e.ov 0 es.flatten) xs ∧ es.flatten.length = es.length * sz := by
 obtain ⟨xs, hx, hr, hs⟩ := h
 exact ⟨xs, hx, view_ok hr, flatten_len hs⟩
def loadG (P : Program) (lk : Lk) (ob : Own) (t : TypeId) (x : Operand) : Option Eff :=
 match lk [] x with
 | some (.c (.ea i k idx off)) => match ob i with
  | some (.arr k' ⟨e, y :: ov⟩ sz es) => match es[idx]? with
   | some ds => bif Nat.beq k' k && Nat.beq ds.length sz then (match loadC P t (viewC (y :: ov) (idx * sz) ds) off with
    | some s => some ⟨s, [], [i], []⟩
    | none => none) else none
   | none => none
  | _ => none
 | _ => none
theorem loadG_ok (m : Mem fr own w pl) (hl : LkOk a w pl own p lk) (hp : Eng.Holds a p) {t : TypeId} {x : Operand} (hop : o.op = .load t x) {ob : Own} {e : Eff} (h : loadG P lk ob t x = some e) (hob : ∀ i ∈ e.touch, own i = ob i) : Does P fr own a w pl o e := by
 unfold loadG at h
 split at h
 ·rename_i i k idx off hx
  split at h
  ·rename_i k' el y ov sz es hbx
   split at h
   ·rename_i ds hds
    cases hc : (Nat.beq k' k && Nat.beq ds.length sz) with
    | false => rw [hc] at h; cases h
    | true =>
     rw [hc] at h
     simp only [cond_true] at h
     simp only [Bool.and_eq_true, beq_t] at hc
     obtain ⟨rfl, hdl⟩ := hc
     split at h
     ·rename_i s hs
      simp only [Option.some.injEq] at h
      subst h
      have hi : own i = some (.arr k' ⟨el, y :: ov⟩ sz es) := by rw [hob i (by simp), hbx]
      obtain ⟨k2, e2, sz2, es2, hi2, _, hv, _⟩ := hl [] x _ hx holds_nil hp
      rw [hi] at hi2
      injection hi2 with hi2
      injection hi2 with h1 h2 h3 h4
      subst h1; subst h2; subst h3; subst h4
      obtain ⟨hlt, b, hA, hv⟩ := hv rfl
      obtain ⟨xs, hxs, hr, hss⟩ := m.obj i _ hi
      rcases hxs.all.2 with ⟨_, h0⟩ | ⟨g, cap, cur, fz, hvv, hB, hg, hn, hsz, htk⟩
      ·omega
      ·injection hvv with hA1 hA2 hA3
       rw [hA] at hA1
       simp only [Option.some.injEq, Addr.mk.injEq, and_true] at hA1
       subst hA1
       have hL : Lies w pl own (viewC (y :: ov) (idx * sz) ds) cur.toList (idx * sz) := by
        intro j c hj
        rw [viewC_get] at hj
        simp only [Option.map_eq_some_iff] at hj
        obtain ⟨d, hd, rfl⟩ := hj
        have hfd := flatten_get hss hds hd
        have hlt2 : idx * sz + j < xs.length := by rw [← hr.1]; exact (List.getElem?_eq_some_iff.1 hfd).1
        obtain ⟨u, hxj⟩ : ∃ u, xs[idx * sz + j]? = some u := ⟨_, List.getElem?_eq_getElem hlt2⟩
        have hok := hr.2 _ d _ hfd hxj
        refine ⟨u, ?_, ?_⟩
        ·rw [← htk, List.getElem?_take] at hxj
         split at hxj
         ·exact hxj
         ·cases hxj
        ·cases ho : (y :: ov).lookup (idx * sz + j) with
         | none => rw [show (AT.mk el (y :: ov)).ov = y :: ov from rfl, ho] at hok; exact hok
         | some c => rw [show (AT.mk el (y :: ov)).ov = y :: ov from rfl, ho] at hok; exact hok
       obtain ⟨v, hv2, hok⟩ := loadC_ok hs hL
       exact does_load (L := cur.toList) hop m hv (by simpa using hg) hv2 hok
     ·cases h
   ·cases h
  ·cases h
 ·cases h
def allD : List C → Bool
 | [] => true
 | .d _ :: r => allD r
 | _ => false
def storeG (P : Program) (lk : Lk) (ob : Own) (ty : TypeId) (x v : Operand) : Option Eff :=
 match lk [] x, lk [] v, P.info? ty with
 | some (.c (.ea i k idx off)), some s, some ti => match ob i, cellsS s with
  | some (.arr k' ⟨e, ov⟩ sz es), some cs =>
   bif ov.isEmpty && (Nat.beq off 0 && (allD cs && Nat.beq cs.length sz)) then none else
   bif Nat.beq k' k && (Nat.beq cs.length ti.size && (Nat.ble (idx * sz + off + cs.length) (es.length * sz) && (!(mkd ov) && Nat.ble (es.length * sz) 4611686018427387904))) then
    some ⟨.c .any, [(i, arrOf k e sz es.length (spliceC (viewC ov 0 es.flatten) (idx * sz + off) cs))], [i], []⟩ else none
  | _, _ => none
 | _, _, _ => none
theorem storeG_ok (m : Mem fr own w pl) (hl : LkOk a w pl own p lk) (hp : Eng.Holds a p) {ty : TypeId} {x v : Operand} (hop : o.op = .store ty x v) (hd : o.dst = none) {ob : Own} {e : Eff} (h : storeG P lk ob ty x v = some e) (hob : ∀ i ∈ e.touch, own i = ob i) : Does P fr own a w pl o e := by
 unfold storeG at h
 split at h
 ·rename_i i k idx off s ti hx hs hti
  split at h
  ·rename_i k' el ov sz es cs hbx hcs
   cases hc0 : (ov.isEmpty && (Nat.beq off 0 && (allD cs && Nat.beq cs.length sz))) with
   | true => rw [hc0] at h; cases h
   | false =>
    rw [hc0] at h
    simp only [cond_false] at h
    cases hc : (Nat.beq k' k && (Nat.beq cs.length ti.size && (Nat.ble (idx * sz + off + cs.length) (es.length * sz) && (!(mkd ov) && Nat.ble (es.length * sz) 4611686018427387904)))) with
    | false => rw [hc] at h; cases h
    | true =>
     rw [hc] at h
     simp only [cond_true, Option.some.injEq] at h
     simp only [Bool.and_eq_true, beq_t, Nat.ble_eq, Bool.not_eq_true'] at hc
     obtain ⟨rfl, hc1, hc2, hmk, hbig⟩ := hc
     subst h
     have hi : own i = some (.arr k' ⟨el, ov⟩ sz es) := by rw [hob i (by simp), hbx]
     obtain ⟨k2, e2, sz2, es2, hi2, _, hv, _⟩ := hl [] x _ hx holds_nil hp
     rw [hi] at hi2
     injection hi2 with hi2
     injection hi2 with h1 h2 h3 h4
     subst h1; subst h2; subst h3; subst h4
     obtain ⟨hlt, b, hA, hv⟩ := hv rfl
     have hcv := cellsS_ok hcs (hl [] v s hs holds_nil hp)
     obtain ⟨xs, hxs, hview, hfl⟩ := arr_view (m.obj i _ hi)
     rw [show mkd (AT.mk el ov).ov = false from hmk] at hxs
     have hview : All2 (COk w pl own) (viewC ov 0 es.flatten) xs := hview
     have hxl : xs.length = es.length * sz := by rw [← hview.1, viewC_len, hfl]
     have hvl : (a.eval v).cells.toList.length = cs.length := hcv.1.symm
     have hlen1 : (a.eval v).cells.size = ti.size := by simp at hvl; omega
     generalize hcl : (a.eval v).cells.toList = cells at hcv hvl
     generalize hpl : idx * sz + off = q at hc2 hv ⊢
     have hsplC : All2 (COk w pl own) (spliceC (viewC ov 0 es.flatten) q cs) (spliceC xs q cells) := spliceC_ok hview hcv q
     have hslen : (spliceC (viewC ov 0 es.flatten) q cs).length = es.length * sz := by
      unfold spliceC
      simp only [List.length_append, List.length_take, List.length_drop, viewC_len, hfl]
      omega
     rcases hxs.2 with ⟨_, h0⟩ | ⟨g, cap, cur, hvv, hB, hg, hn, hcap, hsz, htk⟩
     ·omega
     ·injection hvv with hA1 hA2 hA3
      rw [hA] at hA1
      simp only [Option.some.injEq, Addr.mk.injEq, and_true] at hA1
      subst hA1
      have hcl2 : es.length * sz ≤ cur.size := by rw [hsz]; exact Nat.mul_le_mul_right _ hn
      have hsp : (spliceC cur.toList q cells).take (es.length * sz) = spliceC xs q cells := by
       have e1 : (cur.toList.take q).length = q := by rw [List.length_take, Array.length_toList]; omega
       have e2 : (cur.toList.take q ++ cells).length = q + cells.length := by rw [List.length_append, e1]
       have e3 : (cur.toList.take q ++ cells).take (es.length * sz) = cur.toList.take q ++ cells := List.take_of_length_le (by rw [e2]; omega)
       have e4 : xs.take q = cur.toList.take q := by rw [← htk, List.take_take, Nat.min_eq_left (by omega)]
       have e5 : xs.drop (q + cells.length) = (cur.toList.drop (q + cells.length)).take (es.length * sz - (q + cells.length)) := by rw [← htk, List.drop_take]
       unfold spliceC
       rw [List.take_append, e3, e2, e4, e5]
      have hsl : (spliceC cur.toList q cells).length = cur.size := by
       unfold spliceC
       simp only [List.length_append, List.length_take, List.length_drop, Array.length_toList]
       omega
      have hrun : (execOp a.eval o).run P w = .ok .skip (w.setRow b (spliceC cur.toList q cells).toArray) := by
       unfold execOp
       simp only [hop, hv]
       have := run_storeCells_at (P := P) b q el cells 0 cur w hg (by simp; omega) (all2_one hcv)
       simp only [Nat.add_zero] at this ⊢
       simp only [Instr.storeAt, Instr.sureAddr, storeVar, sizeOf, typeInfo]
       simp [hti, hlen1, hcl, this, spliceC]
      have hgr : w.grownBy (w.setRow b (spliceC cur.toList q cells).toArray) ((pl.sl i).1.map (·.block)) := by
       refine ⟨rfl, rfl, rfl, by simp [World.setRow], fun q hq hne => heap_setRow_ne _ _ _ (fun he => hne ?_)⟩
       rw [hA, he]; rfl
      intro K Q hK
      obtain ⟨hch1, hch2, hch3⟩ := chunks_flatten sz es.length (flatC (spliceC (viewC ov 0 es.flatten) q cs)) (by rw [flatC_len]; exact hslen)
      have hmk2 : mkd (ovOf 0 (spliceC (viewC ov 0 es.flatten) q cs)) = false := mkd_ovOf _ 0 (by rw [hslen]; omega)
      obtain ⟨pl', m', L, hA'⟩ := m.turnArrO (k' := k') (e' := ⟨el, ovOf 0 (spliceC (viewC ov 0 es.flatten) q cs)⟩) (es' := chunks sz es.length (flatC (spliceC (viewC ov 0 es.flatten) q cs))) (A := some ⟨b, 0, none⟩) (cap := cap) (xs := spliceC xs q cells) hi hgr
       (by
        rw [show mkd (AT.mk el (ovOf 0 (spliceC (viewC ov 0 es.flatten) q cs))).ov = false from hmk2, hch2]
        exact ⟨by rw [← hsp]; simp only [List.length_take, hsl]; omega, .inr ⟨b, cap, (spliceC cur.toList q cells).toArray, rfl, hB, setRow_heap w _ cur _ el (0, 0) hg, hn, hcap, by simp [hsl, hsz], hsp⟩⟩)
       (.inl (by rw [hA])) (by rw [hch1]; exact allO_of hsplC) hch3 (.inr ⟨rfl, hch2, by rw [← hA3, ← hA]⟩)
      unfold Oper.wp
      rw [hrun, Oper.upon_skip]
      exact hK undef _ pl' m' L (.inl hd)
  ·cases h
 ·cases h
def bslG (P : Program) (lk : Lk) (ob : Own) (T : TypeId) (len : Nat) (parts : Array (Nat × Operand)) (nid : Nat) : Option Eff :=
 match ob nid, partsE lk parts.toList, P.underlying T with
 | none, some ps, some (.slice e) => match P.info? e with
  | some i => match i.zero with
   | some z => bif Nat.ble (len * i.size) 16777216 && (Nat.ble 1 i.size && Nat.beq z.cells.size i.size) then
     (match ofCells ((Array.range (len * i.size)).map ((if len * i.size = 0 then #[] else z.cells)[· % (if len * i.size = 0 then #[] else z.cells).size]!)).toList with
     | some zc => match fillC (fun k => some (k * i.size, i.size)) zc ps with
      | some cs => bif allD cs then none else bif Nat.beq cs.length (len * i.size) then some ⟨.c (.ar nid 0), [(nid, arrOf 0 e i.size len cs)], [nid], []⟩ else none
      | none => none
     | none => none) else none
   | none => none
  | none => none
 | _, _, _ => none
theorem bslG_ok (m : Mem fr own w pl) (hl : LkOk a w pl own p lk) (hp : Eng.Holds a p) {T : TypeId} {len : Nat} {parts : Array (Nat × Operand)} (hop : o.op = .buildSlice T len parts) {ob : Own} {nid : Nat} {e : Eff} (h : bslG P lk ob T len parts nid = some e) (hob : ∀ i ∈ e.touch, own i = ob i) : Does P fr own a w pl o e := by
 unfold bslG at h
 split at h
 ·rename_i ps el hnone hps hu
  have hparts := partsE_ok hl hp hps
  split at h
  ·rename_i i hi
   split at h
   ·rename_i z hz
    cases hc : (Nat.ble (len * i.size) 16777216 && (Nat.ble 1 i.size && Nat.beq z.cells.size i.size)) with
    | false => rw [hc] at h; cases h
    | true =>
     rw [hc] at h
     simp only [cond_true] at h
     simp only [Bool.and_eq_true, beq_t, Nat.ble_eq] at hc
     obtain ⟨hc1, hc2, hc3⟩ := hc
     split at h
     ·rename_i zc hzc
      split at h
      ·rename_i cs hf
       cases hall : allD cs with
       | true => rw [hall] at h; cases h
       | false =>
        rw [hall] at h
        simp only [cond_false] at h
        cases hcl : Nat.beq cs.length (len * i.size) with
        | false => rw [hcl] at h; cases h
        | true =>
         rw [hcl] at h
         simp only [cond_true, Option.some.injEq] at h
         have hcl := Nat.eq_of_beq_eq_true hcl
         subst h
         obtain ⟨cells', h1, h2⟩ := fillC_ok hf (ofCells_ok hzc) hparts
         obtain ⟨hfl, hln, hsz⟩ := chunks_flatten i.size len (flatC cs) (by rw [flatC_len]; exact hcl)
         have hcs : cells'.size = len * i.size := by have := h2.1; simp at this; omega
         have hlen : len ≤ maxLen := by
          have : len ≤ len * i.size := Nat.le_mul_of_pos_right len hc2
          unfold maxLen; omega
         have hg : w.grownBy (w.alloc (.cells cells' el)) none := ⟨rfl, rfl, rfl, by simp, fun k hk _ => Below.heap_alloc _ _ _ hk⟩
         have hr : (execOp a.eval o).run P w = .ok (.value (.slice (some ⟨w.heap.size, 0, none⟩) len len)) (w.alloc (.cells cells' el)) := by
          unfold execOp
          simp only [hop, Instr.buildSlice]
          have hsz2 : ¬ len * i.size > 2 ^ 24 := by omega
          by_cases h0 : len * i.size = 0
          ·simp only [h0, if_true] at h1 hsz2 ⊢
           simp at h1
           simp [run_underlying hu, sizeOf, typeInfo, hi, h0, h1, newRow, newObj]
           rfl
          ·simp only [h0, if_false] at h1
           simp [run_underlying hu, sizeOf, typeInfo, hi, h0, h1, newRow, newObj, zeroValue, hz, hsz2]
           rfl
         intro K Q hK
         have hmk : mkd (ovOf 0 cs) = false := mkd_ovOf _ 0 (by omega)
         obtain ⟨pl', m', L, hA⟩ := m.newArr (i := nid) (e := ⟨el, ovOf 0 cs⟩) (sz := i.size) (es := chunks i.size len (flatC cs)) (xs := cells'.toList) (A := some ⟨w.heap.size, 0, none⟩) (cap := len) (by rw [hob nid (by simp), hnone]) hg
          (by
           rw [show mkd (AT.mk el (ovOf 0 cs)).ov = false from hmk]
           exact ⟨by rw [hln]; simp [hcs], .inr ⟨w.heap.size, len, cells', by rw [hln], Nat.zero_le _, heap_alloc_new w _, by omega, hlen, hcs, by rw [hln, List.take_of_length_le (by simp [hcs])]⟩⟩)
          (fun ad h => by injection h with h; rw [← h]; exact Nat.le_refl _) (by rw [hfl]; exact allO_of h2) hsz
         unfold Oper.wp
         rw [hr, Oper.upon_value]
         exact hK _ _ pl' m' L (.inr ⟨0, _, i.size, _, upd_same _ _ _, Nat.le_refl _, fun _ => by rw [hA, hln], rfl⟩)
      ·cases h
     ·cases h
   ·cases h
  ·cases h
 ·cases h
def readX (lk : Lk) (ob : Own) (x : Operand) : Option (Nat × Nat × List C × List Nat) :=
 match lk [] x with
 | some (.c (.d (.sl sz es))) => some (sz, es.length, es.flatten.map .d, [])
 | some (.c (.ar i k)) => match ob i with
  | some (.arr k' ⟨_, ov⟩ sz es) => bif Nat.beq k' k && !(mkd ov) then some (sz, es.length, viewC ov 0 es.flatten, [i]) else none
  | _ => none
 | _ => none
theorem readX_ok (m : Mem fr own w pl) (hl : LkOk a w pl own p lk) (hp : Eng.Holds a p) {ob : Own} {x : Operand} {sz n : Nat} {cs : List C} {t : List Nat} (h : readX lk ob x = some (sz, n, cs, t)) (hob : ∀ i ∈ t, own i = ob i) :
  ∃ A c xs, a.eval x = .slice A n c ∧ All2 (COk w pl own) cs xs ∧ cs.length = n * sz ∧ ((n = 0 ∧ c = 0) ∨ ∃ b off, A = some ⟨b, off, none⟩ ∧ ∀ (j : Nat) (u : Value), xs[j]? = some u → w.cell? ⟨b, off + j, none⟩ = some u) := by
 unfold readX at h
 split at h
 ·rename_i sz' es hx
  simp only [Option.some.injEq, Prod.mk.injEq] at h
  obtain ⟨rfl, rfl, rfl, rfl⟩ := h
  obtain ⟨A, c, xs, h1, h2, h3, h4, h5⟩ := readS_ok (ob := own) m hl hp (show readS lk own x = some (sz', es, []) by unfold readS; rw [hx]) (fun i hi => by cases hi)
  refine ⟨A, c, xs, h1, all2_mapG (f := C.d) (S := COk w pl own) (fun x y h => h) h2, by rw [List.length_map]; exact flatten_len h3, h5.imp (fun h => ⟨by rw [h.1]; rfl, h.2⟩) id⟩
 ·rename_i i k hx
  split at h
  ·rename_i k' el ov sz' es hi
   cases hc : (Nat.beq k' k && !(mkd ov)) with
   | false => rw [hc] at h; cases h
   | true =>
    rw [hc] at h
    simp only [cond_true, Option.some.injEq, Prod.mk.injEq] at h
    obtain ⟨rfl, rfl, rfl, rfl⟩ := h
    simp only [Bool.and_eq_true, beq_t, Bool.not_eq_true'] at hc
    obtain ⟨rfl, hmk⟩ := hc
    have hi' : own i = some (.arr k' ⟨el, ov⟩ sz' es) := by rw [hob i (by simp), hi]
    have hv := ar_cur (w := w) (hl [] x _ hx holds_nil hp) hi'
    obtain ⟨xs, hxs, hview, hfl⟩ := arr_view (m.obj i _ hi')
    rw [show mkd (AT.mk el ov).ov = false from hmk] at hxs
    refine ⟨_, _, xs, hv, hview, by rw [viewC_len]; exact hfl, ?_⟩
    rcases hxs.2 with ⟨h0, h1⟩ | ⟨g, cap, cur, hvv, hB, hg, hn, hcap, hsz, htk⟩
    ·injection h0 with _ _ h2
     exact .inl ⟨h1, h2⟩
    ·injection hvv with hA1 hA2 hA3
     refine .inr ⟨g, 0, hA1, fun j u hj => ?_⟩
     rw [cell_of_row w g _ cur el (0, 0) hg]
     rw [← htk, List.getElem?_take] at hj
     split at hj
     ·simpa using hj
     ·cases hj
  ·cases h
 ·cases h
def appG (P : Program) (lk : Lk) (ob : Own) (T : TypeId) (s x : Operand) (nid : Nat) : Option Eff :=
 match P.underlying T, readX lk ob x with
 | some (.slice e), some (szx, nx, news, tx) => match P.info? e with
  | some i => match i.zero with
   | some z => bif Nat.beq z.cells.size i.size && (Nat.ble 1 i.size && Nat.beq szx i.size) then
     (match lk [] s with
     | some (.c (.ar j k)) => match ob j with
      | some (.arr k' ⟨e', ov⟩ sz es) => bif allD news && ov.isEmpty then none else
       bif Nat.beq k' k && (Nat.beq e' e && (Nat.beq sz i.size && (!(mkd ov) && Nat.ble ((es.length + nx) * (i.bytes + 1)) 140737488355328))) && Nat.ble ((es.length + nx) * i.size) 4611686018427387904 then
        some ⟨.c (.ar j (k + 1)), [(j, arrOf (k + 1) e i.size (es.length + nx) (viewC ov 0 es.flatten ++ news))], j :: tx, []⟩ else none
      | _ => none
     | some (.c (.d (.v (.slice none 0 0)))) => match ob nid with
      | none => bif allD news then none else bif Nat.ble (nx * (i.bytes + 1)) 140737488355328 && Nat.ble (nx * i.size) 4611686018427387904 then some ⟨.c (.ar nid 0), [(nid, arrOf 0 e i.size nx news)], nid :: tx, []⟩ else none
      | some _ => none
     | _ => none) else none
   | none => none
  | none => none
 | _, _ => none
theorem appG_ok (m : Mem fr own w pl) (hl : LkOk a w pl own p lk) (hp : Eng.Holds a p) {T : TypeId} {s x : Operand} (hop : o.op = .call { callee := .builtin .append, args := #[s, x], argTypes := #[T, T] }) {ob : Own} {nid : Nat} {e : Eff} (h : appG P lk ob T s x nid = some e) (hob : ∀ i ∈ e.touch, own i = ob i) : Does P fr own a w pl o e := by
 unfold appG at h
 have hrun : ∀ {v w'}, (Builtin.append_ #[T, T] o.type #[a.eval s, a.eval x]).run P w = .ok v w' → (execOp a.eval o).run P w = .ok (.value v) w' := by
  intro v w' hr
  unfold execOp
  simp only [hop, resolve, invoke, builtin, Sem.run_bind, Sem.run_pure, Result.andThen_ok, List.map_toArray, List.map_cons, List.map_nil, hr]
 split at h
 ·rename_i el szx nx news tx hu hrx
  split at h
  ·rename_i i hi
   split at h
   ·rename_i z hz
    cases hc : (Nat.beq z.cells.size i.size && (Nat.ble 1 i.size && Nat.beq szx i.size)) with
    | false => rw [hc] at h; cases h
    | true =>
     rw [hc] at h
     simp only [cond_true] at h
     simp only [Bool.and_eq_true, beq_t, Nat.ble_eq] at hc
     obtain ⟨hc1, hc2, rfl⟩ := hc
     split at h
     ·rename_i j k hs
      split at h
      ·rename_i k' e' ov sz es hbx
       cases hc0 : (allD news && ov.isEmpty) with
       | true => rw [hc0] at h; cases h
       | false =>
        rw [hc0] at h
        simp only [cond_false] at h
        cases hk : (Nat.beq k' k && (Nat.beq e' el && (Nat.beq sz i.size && (!(mkd ov) && Nat.ble ((es.length + nx) * (i.bytes + 1)) 140737488355328))) && Nat.ble ((es.length + nx) * i.size) 4611686018427387904) with
        | false => rw [hk] at h; cases h
        | true =>
         rw [hk] at h
         simp only [cond_true, Option.some.injEq] at h
         simp only [Bool.and_eq_true, beq_t, Nat.ble_eq, Bool.not_eq_true'] at hk
         obtain ⟨⟨rfl, rfl, rfl, hmk, hbig⟩, hbig2⟩ := hk
         subst h
         have hj : own j = some (.arr k' ⟨e', ov⟩ i.size es) := by rw [hob j (by simp), hbx]
         have hv := ar_cur (w := w) (hl [] s _ hs holds_nil hp) hj
         obtain ⟨A2, c2, xs2, hx2, hr2, hl2, hA2⟩ := readX_ok m hl hp hrx (fun i hi => hob i (by simp [hi]))
         obtain ⟨xs, hxs, hview, hfl⟩ := arr_view (m.obj j _ hj)
         rw [show mkd (AT.mk e' ov).ov = false from hmk] at hxs
         have hview : All2 (COk w pl own) (viewC ov 0 es.flatten) xs := hview
         have hl2' : xs2.length = nx * i.size := by rw [← hr2.1, hl2]
         obtain ⟨A', c', w', h1, h2, h3, h4⟩ := run_append2 (P := P) (w := w) 0 T o.type e' i z hu hi hz hc1 hc2 hxs hl2' (all2_one hr2) hA2 hbig (Nat.zero_le _)
         intro K Q hK
         have hall := hview.append hr2
         have hcl : (viewC ov 0 es.flatten ++ news).length = (es.length + nx) * i.size := by rw [List.length_append, viewC_len, hfl, hl2, Nat.add_mul]
         obtain ⟨hch1, hch2, hch3⟩ := chunks_flatten i.size (es.length + nx) (flatC (viewC ov 0 es.flatten ++ news)) (by rw [flatC_len]; exact hcl)
         have hmk2 : mkd (ovOf 0 (viewC ov 0 es.flatten ++ news)) = false := mkd_ovOf _ 0 (by omega)
         obtain ⟨pl', m', L, hA⟩ := m.turnArrO (k' := k' + 1) (e' := ⟨e', ovOf 0 (viewC ov 0 es.flatten ++ news)⟩) (es' := chunks i.size (es.length + nx) (flatC (viewC ov 0 es.flatten ++ news))) (A := A') (cap := c') (xs := xs ++ xs2) hj h3 (by
           rw [show mkd (AT.mk e' (ovOf 0 (viewC ov 0 es.flatten ++ news))).ov = false from hmk2, hch2]; exact h2)
          (h4.imp id (fun h ad had => by rw [had] at h; simp only [Option.map_some, Option.some.injEq] at h; omega))
          (by rw [hch1]; exact allO_of hall) hch3 (.inl (by omega))
         have := hrun (v := .slice A' (es.length + nx) c') (w' := w') (by rw [hv, hx2]; exact h1)
         unfold Oper.wp
         rw [this, Oper.upon_value]
         exact hK _ _ pl' m' L (.inr ⟨k' + 1, _, i.size, _, upd_same _ _ _, Nat.le_refl _, fun _ => by rw [hA, hch2], rfl⟩)
      ·cases h
     ·rename_i hs
      split at h
      ·rename_i hnone
       cases hc0 : allD news with
       | true => rw [hc0] at h; cases h
       | false =>
        rw [hc0] at h
        simp only [cond_false] at h
        cases hk : (Nat.ble (nx * (i.bytes + 1)) 140737488355328 && Nat.ble (nx * i.size) 4611686018427387904) with
        | false => rw [hk] at h; cases h
        | true =>
         rw [hk] at h
         simp only [cond_true, Option.some.injEq] at h
         simp only [Bool.and_eq_true, Nat.ble_eq] at hk
         obtain ⟨hbig, hbig2⟩ := hk
         subst h
         have hv : a.eval s = .slice none 0 0 := Rd.exact (hl [] s _ hs holds_nil hp)
         obtain ⟨A2, c2, xs2, hx2, hr2, hl2, hA2⟩ := readX_ok m hl hp hrx (fun i hi => hob i (by simp [hi]))
         have hl2' : xs2.length = nx * i.size := by rw [← hr2.1, hl2]
         obtain ⟨A', c', w', h1, h2, h3, h4⟩ := run_append2 (P := P) (w := w) 0 T o.type el i z hu hi hz hc1 hc2 (World.ownsRow_nil w _ _ _) hl2' (all2_one hr2) hA2 (by rw [Nat.zero_add]; exact hbig) (Nat.zero_le _)
         rw [Nat.zero_add] at h1 h2
         intro K Q hK
         obtain ⟨hch1, hch2, hch3⟩ := chunks_flatten i.size nx (flatC news) (by rw [flatC_len]; exact hl2)
         have hmk2 : mkd (ovOf 0 news) = false := mkd_ovOf _ 0 (by omega)
         obtain ⟨pl', m', L, hA⟩ := m.newArr (i := nid) (e := ⟨el, ovOf 0 news⟩) (sz := i.size) (es := chunks i.size nx (flatC news)) (xs := xs2) (A := A') (cap := c') (by rw [hob nid (by simp), hnone]) h3 (by
           rw [show mkd (AT.mk el (ovOf 0 news)).ov = false from hmk2, hch2]; simp only [List.nil_append] at h2; exact h2)
          (fun ad had => by
           rw [had] at h4
           rcases h4 with h | h
           ·simp at h
           ·simp only [Option.map_some, Option.some.injEq] at h; omega) (by rw [hch1]; exact allO_of hr2) hch3
         have := hrun (v := .slice A' nx c') (w' := w') (by rw [hv, hx2]; exact h1)
         unfold Oper.wp
         rw [this, Oper.upon_value]
         exact hK _ _ pl' m' L (.inr ⟨0, _, i.size, _, upd_same _ _ _, Nat.le_refl _, fun _ => by rw [hA, hch2], rfl⟩)
      ·cases h
     ·cases h
   ·cases h
  ·cases h
 ·cases h
end
end Go.V
namespace Go.V
open Go.RowKit
def okKey : TypeDesc → Value → Bool
 | .int _, .int _ _ => true
 | .string, .string _ => true
 | _, _ => false
def valX (agg : Bool) (wd : Nat) (vs : List Value) : Value := if agg then .agg (vs.take wd).toArray else vs.headD undef
theorem findX {agg : Bool} {wd : Nat} {kd : TypeDesc} {k : Value} : ∀ (ks : List (Value × Nat)) (vs vs' : List Value) (i : Nat),
  (∀ j v', Instr.findNow kd k (entsX agg wd ks vs') i = some (some (j, v')) → ∃ m, j = i + m ∧ m < ks.length ∧ Instr.findNow kd k (entsX agg wd ks vs) i = some (some (j, valX agg wd (vs.drop (m * wd))))) ∧
  (Instr.findNow kd k (entsX agg wd ks vs') i = some none → Instr.findNow kd k (entsX agg wd ks vs) i = some none)
 | [], vs, vs', i => ⟨fun j v' h => by simp [entsX, Instr.findNow] at h, fun h => h⟩
 | (x, b) :: r, vs, vs', i => by
  simp only [entsX, Instr.findNow]
  cases hs : Instr.sameNow kd k x with
  | none => simp
  | some t =>
   cases t with
   | true =>
    refine ⟨fun j v' h => ?_, fun h => by simp at h⟩
    simp only [Option.some.injEq, Prod.mk.injEq] at h
    obtain ⟨rfl, _⟩ := h
    exact ⟨0, rfl, by simp, by simp [valX]⟩
   | false =>
    simp only
    obtain ⟨h1, h2⟩ := findX (agg := agg) (wd := wd) (kd := kd) (k := k) r (vs.drop wd) (vs'.drop wd) (i + 1)
    refine ⟨fun j v' h => ?_, h2⟩
    obtain ⟨m, e1, e2, e3⟩ := h1 j v' h
    refine ⟨m + 1, by omega, by simp; omega, ?_⟩
    rw [e3, List.drop_drop, Nat.succ_mul, Nat.add_comm]
theorem entsX_app (agg : Bool) (wd : Nat) : ∀ (ks : List (Value × Nat)) (vs us : List Value) (k : Value) (b : Nat), vs.length = ks.length * wd → (agg = false → wd = 1) → us.length = wd → entsX agg wd (ks ++ [(k, b)]) (vs ++ us) = entsX agg wd ks vs ++ [{ key := k, val := valX agg wd us, born := b }]
 | [], vs, us, k, b, h, _, hu => by
  have : vs = [] := List.eq_nil_of_length_eq_zero (by simpa using h)
  subst this
  simp [entsX, valX]
 | (x, b') :: r, vs, us, k, b, h, ha, hu => by
  have hl : wd ≤ vs.length := by rw [h]; simp [Nat.succ_mul]
  simp only [List.cons_append, entsX]
  rw [List.drop_append_of_le_length hl, entsX_app agg wd r (vs.drop wd) us k b (by simp [h, Nat.succ_mul]) ha hu, List.take_append_of_le_length hl]
  cases agg with
  | true => rfl
  | false =>
   have := ha rfl
   subst this
   cases vs with
   | nil => simp at hl
   | cons y ys => rfl
theorem splice_drop {α : Type} {l vs : List α} {off d : Nat} (h : d ≤ off) (h2 : off + vs.length ≤ l.length) : (spliceC l off vs).drop d = spliceC (l.drop d) (off - d) vs := by
 unfold spliceC
 rw [List.drop_drop, show d + (off - d + vs.length) = off + vs.length by omega, List.append_assoc, List.append_assoc, List.drop_append_of_le_length (by simp; omega), List.drop_take]
theorem entsX_set (agg : Bool) (wd : Nat) : ∀ (ks : List (Value × Nat)) (vs us : List Value) (m : Nat), vs.length = ks.length * wd → (agg = false → wd = 1) → us.length = wd → m < ks.length → entsX agg wd ks (spliceC vs (m * wd) us) = (entsX agg wd ks vs).modify m fun e => { e with val := valX agg wd us }
 | [], vs, us, m, _, _, _, hm => by simp at hm
 | (x, b) :: r, vs, us, m, h, ha, hu, hm => by
  have hl : wd ≤ vs.length := by rw [h]; simp [Nat.succ_mul]
  cases m with
  | zero =>
   simp only [Nat.zero_mul, entsX, List.modify_zero_cons]
   have e1 : spliceC vs 0 us = us ++ vs.drop wd := by simp [spliceC, hu]
   rw [e1, List.drop_left' hu, List.take_left' hu]
   cases agg with
   | true => simp [valX, ← hu]
   | false =>
    have := ha rfl
    subst this
    cases us with
    | nil => simp at hu
    | cons y ys => simp [valX]
  | succ m =>
   have hm' : m < r.length := by simpa using hm
   have hle : (m + 1) * wd + us.length ≤ vs.length := by
    rw [h, hu]
    have : (m + 2) * wd ≤ (r.length + 1) * wd := Nat.mul_le_mul_right _ (by omega)
    have e : (m + 2) * wd = (m + 1) * wd + wd := by rw [Nat.succ_mul]
    simp only [List.length_cons]
    omega
   have hge : wd ≤ (m + 1) * wd := by rw [Nat.succ_mul]; omega
   simp only [entsX, List.modify_succ_cons]
   rw [splice_drop hge hle, show (m + 1) * wd - wd = m * wd by rw [Nat.succ_mul]; omega, entsX_set agg wd r (vs.drop wd) us m (by simp [h, Nat.succ_mul]) ha hu hm']
   have e2 : (spliceC vs ((m + 1) * wd) us).take wd = vs.take wd := by
    unfold spliceC
    rw [List.append_assoc, List.take_append_of_le_length (by simp; omega), List.take_take, Nat.min_eq_left hge]
   have e3 : agg = false → (spliceC vs ((m + 1) * wd) us).headD undef = vs.headD undef := by
    intro ha'
    have := ha ha'
    subst this
    cases vs with
    | nil => simp at hl
    | cons y ys => simp [spliceC]
   rw [e2]
   cases agg with
   | true => rfl
   | false => simp only [Bool.false_eq_true, if_false]; rw [e3 rfl]
section
variable {P : Program} {fr : Fr} {own : Own} {a : Act} {w w' : World} {pl : Pl} {o : Oper} {p : Path} {lk : Lk}
def mmX (P : Program) (ob : Own) (T : TypeId) (nid : Nat) : Option Eff :=
 match P.underlying T, ob nid with
 | some (.map _ et), none => match Eng.isAggB P et, P.info? et with
  | some agg, some i => if agg || Nat.beq i.size 1 then some ⟨.c (.mp nid), [(nid, .box ⟨.mapx agg i.size [] 0, none⟩ [])], [nid], []⟩ else none
  | _, _ => none
 | _, _ => none
theorem mmX_ok (m : Mem fr own w pl) {T : TypeId} (hop : o.op = .makeMap T none) {ob : Own} {nid : Nat} {e : Eff} (h : mmX P ob T nid = some e) (hob : ∀ i ∈ e.touch, own i = ob i) : Does P fr own a w pl o e := by
 unfold mmX at h
 split at h
 ·rename_i kt et hu hnone
  split at h
  ·rename_i agg i ha hi
   split at h
   ·simp only [Option.some.injEq] at h
    subst h
    intro K Q hK
    obtain ⟨pl', m', L, hb, _⟩ := m.newBoxO (i := nid) (by rw [hob nid (by simp), hnone]) ⟨.mapx agg i.size [] 0, none⟩ (fun b hb => by cases hb) (cells := []) (vs := []) All2.nil (x := .map #[] 0) rfl
    have hrun : (execOp a.eval o).run P w = .ok (.value (.map (some w.heap.size))) (w.alloc (.map #[] 0)) := by
     unfold execOp
     simp only [hop]
     simp [Instr.makeMap, run_underlying hu, newObj]
     rfl
    unfold Oper.wp
    rw [hrun, Oper.upon_value]
    exact hK _ _ pl' m' L (.inr ⟨⟨_, [], upd_same _ _ _⟩, by rw [hb]⟩)
   ·cases h
  ·cases h
 ·cases h
def cellsX (agg : Bool) (wd : Nat) : SV → Option (List C)
 | .c x => if agg then none else some [x]
 | .agg xs => if agg && Nat.beq xs.length wd then some xs else none
 | .tup _ => none
theorem cellsX_ok {agg : Bool} {wd : Nat} (hw : agg = false → wd = 1) {s : SV} {cs : List C} {v : Value} (h : cellsX agg wd s = some cs) (hv : SvOk w pl own s v) : ∃ us : List Value, v = valX agg wd us ∧ us.length = wd ∧ All2 (COk w pl own) cs us := by
 unfold cellsX at h
 split at h
 ·split at h
  ·cases h
  ·rename_i x ha
   simp only [Option.some.injEq] at h; subst h
   have ha : agg = false := by simpa using ha
   exact ⟨[v], by simp [valX, ha], (hw ha).symm, All2.one hv⟩
 ·split at h
  ·rename_i xs ha
   simp only [Bool.and_eq_true, beq_t] at ha
   simp only [Option.some.injEq] at h; subst h
   obtain ⟨vs, rfl, h2⟩ := hv
   have hl : vs.length = wd := by rw [← h2.1]; exact ha.2
   exact ⟨vs, by simp [valX, ha.1, ← hl], hl, h2⟩
  ·cases h
 ·cases h
def svX (agg : Bool) (cs : List C) : Option SV := if agg then some (.agg cs) else match cs with
 | [c] => some (.c c)
 | _ => none
def insX (P : Program) (lk : Lk) (ob : Own) (T : TypeId) (m k x : Operand) : Option Eff :=
 match lk [] m, exO lk [] k, lk [] x with
 | some (.c (.mp i)), some key, some s => match ob i, P.underlying T with
  | some (.box ⟨.mapx agg wd ks next, q⟩ cells), some (.map kt _) => match P.underlying kt, cellsX agg wd s with
   | some kd, some cs => if okKey kd key && Nat.beq cells.length (ks.length * wd) && (agg || Nat.beq wd 1) then match Instr.findNow kd key (entsX agg wd ks []) 0 with
     | some none => some ⟨.c .any, [(i, .box ⟨.mapx agg wd (ks ++ [(key, next)]) (next + 1), q⟩ (cells ++ cs))], [i], []⟩
     | some (some (j, _)) => match ks[j]? with
      | some (key0, _) => if Instr.sameBits 10000 key0 key then some ⟨.c .any, [(i, .box ⟨.mapx agg wd (ks.modify j fun y => (key, y.2)) next, q⟩ (spliceC cells (j * wd) cs))], [i], []⟩ else none
      | none => none
     | none => none
    else none
   | _, _ => none
  | _, _ => none
 | _, _, _ => none
theorem run_checkKey {e : Bool} {kt : TypeId} {kd : TypeDesc} {key : Value} (hkt : P.underlying kt = some kd) (hk : okKey kd key = true) : (Instr.checkKey e 10000 kt key).run P w = .ok () w := by
 unfold Instr.checkKey
 cases kd <;> cases key <;> first | (simp [okKey] at hk; done) | simp [Sem.run_bind, run_underlying hkt, Result.andThen]
theorem run_findKey {kt : TypeId} {kd : TypeDesc} {key : Value} {es : List MapEntry} {x : Option (Nat × Value)} (hkt : P.underlying kt = some kd) (h : Instr.findNow kd key es 0 = some x) : (Instr.findKey kt key es).run P w = .ok x w := by
 unfold Instr.findKey
 simp [Sem.run_bind, run_underlying hkt, Result.andThen, h]
theorem entsX_key (agg : Bool) (wd : Nat) (key : Value) : ∀ (ks : List (Value × Nat)) (vs : List Value) (j : Nat), entsX agg wd (ks.modify j fun y => (key, y.2)) vs = (entsX agg wd ks vs).modify j fun e => { e with key }
 | [], vs, j => by cases j <;> rfl
 | x :: r, vs, 0 => rfl
 | x :: r, vs, j + 1 => by simp only [List.modify_succ_cons, entsX]; rw [entsX_key agg wd key r]
theorem insX_ok (m : Mem fr own w pl) (hl : LkOk a w pl own p lk) (hp : Eng.Holds a p) {T : TypeId} {y k x : Operand} (hop : o.op = .insert T y k x ∨ o.op = .mapUpdate T y k x) (hd : o.dst = none) {ob : Own} {e : Eff} (h : insX P lk ob T y k x = some e) (hob : ∀ i ∈ e.touch, own i = ob i) : Does P fr own a w pl o e := by
  unfold insX at h
  split at h
  · rename_i i key s hy hk hx
    split at h
    · rename_i agg wd ks next q cells kt et hbx hu
      split at h
      · rename_i kd cs hkt hc
        split at h
        · rename_i hchk
          simp only [Bool.and_eq_true, Bool.or_eq_true, beq_t] at hchk
          obtain ⟨⟨hokk, hlen⟩, hwd⟩ := hchk
          have hw : agg = false → wd = 1 := fun ha => by rcases hwd with h | h; · rw [ha] at h; cases h
                                                         · exact h
          obtain ⟨uv, huv, hul, hcu⟩ := cellsX_ok hw hc (hl [] x s hx holds_nil hp)
          obtain ⟨_, hv⟩ := hl [] y _ hy holds_nil hp
          have hkv := exO_eq hl hp holds_nil hk
          split at h
          · rename_i hfn
            simp only [Option.some.injEq] at h
            subst h
            have hi : own i = some (.box ⟨.mapx agg wd ks next, q⟩ cells) := by rw [hob i (by simp), hbx]
            obtain ⟨vs, hb, hcells⟩ := m.obj i _ hi
            have hb : w.heap[pl.blk i]? = some (.map (entsX agg wd ks vs).toArray next) := hb
            have hvl : vs.length = ks.length * wd := by rw [← hcells.1]; exact hlen
            have hf := (findX (agg := agg) (wd := wd) (kd := kd) (k := key) ks vs [] 0).2 hfn
            intro K Q hK
            obtain ⟨m', L⟩ := m.turnObjO (ty' := ⟨.mapx agg wd (ks ++ [(key, next)]) (next + 1), q⟩) (cells' := cells ++ cs) (vs' := vs ++ uv) hi rfl (hcells.append hcu) (x := .map ((entsX agg wd ks vs).toArray.push { key, val := valX agg wd uv, born := next }) (next + 1)) (by
              show _ = _
              rw [entsX_app agg wd ks vs uv key next hvl hw hul]
              simp)
            have hgo : (getObj (pl.blk i)).run P w = .ok (.map (entsX agg wd ks vs).toArray next) w := by simp [getObj, Sem.run, hb]
            have hso : ∀ ob2, (setObj (pl.blk i) ob2).run P w = .ok () { w with heap := w.heap.setIfInBounds (pl.blk i) ob2 } := fun ob2 => by simp [setObj, Sem.run, hb]
            have hmu : (Instr.mapUpdate T (.map (some (pl.blk i))) key (valX agg wd uv)).run P w = .ok () { w with heap := w.heap.setIfInBounds (pl.blk i) (.map ((entsX agg wd ks vs).toArray.push { key, val := valX agg wd uv, born := next }) (next + 1)) } := by
              unfold Instr.mapUpdate
              simp only [Sem.run_bind, run_underlying hu, Result.andThen_ok, hgo, run_checkKey hkt hokk, run_findKey hkt hf]
              rw [hso]
            have hrun : (execOp a.eval o).run P w = .ok .skip { w with heap := w.heap.setIfInBounds (pl.blk i) (.map ((entsX agg wd ks vs).toArray.push { key, val := valX agg wd uv, born := next }) (next + 1)) } := by
              unfold execOp
              rcases hop with hop | hop
              · simp only [hop, hv, hkv, huv, Sem.run_bind, hmu, Result.andThen_ok, Sem.run_pure]
              · simp only [hop, hv, hkv, huv, Sem.run_bind, hmu, Result.andThen_ok, Sem.run_pure]
            unfold Oper.wp
            rw [hrun, Oper.upon_skip]
            exact hK undef _ pl m' L (.inl hd)
          · rename_i j v0 hfn
            split at h
            · rename_i key0 b0 hks
              split at h
              · rename_i hsb
                simp only [Option.some.injEq] at h
                subst h
                have hi : own i = some (.box ⟨.mapx agg wd ks next, q⟩ cells) := by rw [hob i (by simp), hbx]
                obtain ⟨vs, hb, hcells⟩ := m.obj i _ hi
                have hb : w.heap[pl.blk i]? = some (.map (entsX agg wd ks vs).toArray next) := hb
                have hvl : vs.length = ks.length * wd := by rw [← hcells.1]; exact hlen
                obtain ⟨mm, hjm, hlt, hf⟩ := (findX (agg := agg) (wd := wd) (kd := kd) (k := key) ks vs [] 0).1 j v0 hfn
                have : mm = j := by omega
                subst this
                have hek : ((entsX agg wd ks vs).toArray[mm]?).map (·.key) = some key0 := by
                  have : ∀ (ks : List (Value × Nat)) (vs : List Value) (j : Nat) (x : Value × Nat), ks[j]? = some x → ((entsX agg wd ks vs)[j]?).map (·.key) = some x.1 := by
                    intro ks
                    induction ks with
                    | nil => intro vs j x h; simp at h
                    | cons y r ih =>
                      intro vs j x h
                      cases j with
                      | zero => simp only [List.getElem?_cons_zero, Option.some.injEq] at h; subst h; rfl
                      | succ j => simpa [entsX] using ih (vs.drop wd) j x (by simpa using h)
                  simpa using this ks vs mm _ hks
                intro K Q hK
                obtain ⟨m', L⟩ := m.turnObjO (ty' := ⟨.mapx agg wd (ks.modify mm fun y => (key, y.2)) next, q⟩) (cells' := spliceC cells (mm * wd) cs) (vs' := spliceC vs (mm * wd) uv) hi rfl (spliceC_ok hcells hcu _) (x := .map ((entsX agg wd ks vs).toArray.modify mm fun e => { e with key, val := valX agg wd uv }) next) (by
                  show _ = _
                  rw [entsX_key, entsX_set agg wd ks vs uv mm hvl hw hul hlt]
                  congr 2
                  apply Array.ext'
                  simp only [Array.toList_modify]
                  apply List.ext_getElem?
                  intro z
                  simp only [List.getElem?_modify]
                  by_cases hz : mm = z
                  · subst hz
                    cases (entsX agg wd ks vs)[mm]? <;> simp
                  · simp [hz])
                have hgo : (getObj (pl.blk i)).run P w = .ok (.map (entsX agg wd ks vs).toArray next) w := by simp [getObj, Sem.run, hb]
                have hso : ∀ ob2, (setObj (pl.blk i) ob2).run P w = .ok () { w with heap := w.heap.setIfInBounds (pl.blk i) ob2 } := fun ob2 => by simp [setObj, Sem.run, hb]
                have hks2 : (Instr.keyThatStays key0 key).run P w = .ok key w := by simp [Instr.keyThatStays, hsb]
                have hmu : (Instr.mapUpdate T (.map (some (pl.blk i))) key (valX agg wd uv)).run P w = .ok () { w with heap := w.heap.setIfInBounds (pl.blk i) (.map ((entsX agg wd ks vs).toArray.modify mm fun e => { e with key, val := valX agg wd uv }) next) } := by
                  unfold Instr.mapUpdate
                  simp only [Sem.run_bind, run_underlying hu, Result.andThen_ok, hgo, run_checkKey hkt hokk, run_findKey hkt hf, hek, Option.getD_some, hks2]
                  rw [hso]
                have hrun : (execOp a.eval o).run P w = .ok .skip { w with heap := w.heap.setIfInBounds (pl.blk i) (.map ((entsX agg wd ks vs).toArray.modify mm fun e => { e with key, val := valX agg wd uv }) next) } := by
                  unfold execOp
                  rcases hop with hop | hop
                  · simp only [hop, hv, hkv, huv, Sem.run_bind, hmu, Result.andThen_ok, Sem.run_pure]
                  · simp only [hop, hv, hkv, huv, Sem.run_bind, hmu, Result.andThen_ok, Sem.run_pure]
                unfold Oper.wp
                rw [hrun, Oper.upon_skip]
                exact hK undef _ pl m' L (.inl hd)
              · cases h
            · cases h
          · cases h
        · cases h
      · cases h
    · cases h
  · cases h
def tupX (agg : Bool) (cs : List C) (b : Bool) : SV := .tup [(agg, cs), (false, [.d (.v (.bool b))])]
def lkpX (P : Program) (lk : Lk) (ob : Own) (T : TypeId) (m k : Operand) (ok : Bool) : Option Eff :=
 match lk [] m, exO lk [] k with
 | some (.c (.mp i)), some key => match ob i, P.underlying T with
  | some (.box ⟨.mapx agg wd ks next, q⟩ cells), some (.map kt et) => match P.underlying kt with
   | some kd => if okKey kd key && Nat.beq cells.length (ks.length * wd) && (agg || Nat.beq wd 1) then match Instr.findNow kd key (entsX agg wd ks []) 0 with
     | some (some (j, _)) => match svX agg ((cells.drop (j * wd)).take wd) with
      | some s => some ⟨if ok then tupX agg ((cells.drop (j * wd)).take wd) true else s, [], [i], []⟩
      | none => none
     | some none => match P.info? et with
      | some ti => match ti.zero with
       | some z => match ofV z with
        | some s => match s with
         | .c c => some ⟨if ok then tupX false [c] false else s, [], [i], []⟩
         | .agg cs => some ⟨if ok then tupX true cs false else s, [], [i], []⟩
         | .tup _ => none
        | none => none
       | none => none
      | none => none
     | none => none
    else none
   | none => none
  | _, _ => none
 | _, _ => none
theorem run_lookupX {T kt et : TypeId} {kd : TypeDesc} {key : Value} {r cl : Nat} {es : List MapEntry} {ok : Bool} {v : Value} {b : Bool} (hu : P.underlying T = some (.map kt et)) (hkt : P.underlying kt = some kd) (hk : okKey kd key = true) (hb : w.heap[r]? = some (.map es.toArray cl))
  (hf : (b = true ∧ ∃ j, Instr.findNow kd key es 0 = some (some (j, v))) ∨ (b = false ∧ Instr.findNow kd key es 0 = some none ∧ ∃ ti, P.info? et = some ti ∧ ti.zero = some v)) :
  (Instr.lookup T (.map (some r)) key ok).run P w = .ok (if ok then .tuple #[v, .bool b] else v) w := by
 unfold Instr.lookup
 have hgo : (getObj r).run P w = .ok (.map es.toArray cl) w := by simp [getObj, Sem.run, hb]
 rcases hf with ⟨rfl, j, hj⟩ | ⟨rfl, hn, ti, hti, hz⟩
 ·simp only [Sem.run_bind, run_underlying hu, Result.andThen_ok, hgo, run_checkKey hkt hk, run_findKey hkt hj, Sem.run_pure]
 ·have hzv : (zeroValue et).run P w = .ok v w := by simp [zeroValue, typeInfo, hti, hz]
  simp only [Sem.run_bind, run_underlying hu, Result.andThen_ok, hgo, run_checkKey hkt hk, run_findKey hkt hn, Sem.run_pure, hzv]
theorem part_bool {b : Bool} : PartOk w pl own (false, [.d (.v (.bool b))]) (.bool b) := Rd.v _ rfl
theorem tupX_ok {agg : Bool} {cs : List C} {b : Bool} {v : Value} (h : PartOk w pl own (agg, cs) v) : SvOk w pl own (tupX agg cs b) (.tuple #[v, .bool b]) := ⟨[v, .bool b], rfl, All2.cons h (All2.one part_bool)⟩
theorem lkpX_ok (m : Mem fr own w pl) (hl : LkOk a w pl own p lk) (hp : Eng.Holds a p) {T : TypeId} {y k : Operand} {ok : Bool} (hop : o.op = .lookup T y k ok) {ob : Own} {e : Eff} (h : lkpX P lk ob T y k ok = some e) (hob : ∀ i ∈ e.touch, own i = ob i) : Does P fr own a w pl o e := by
  unfold lkpX at h
  split at h
  · rename_i i key hy hk
    split at h
    · rename_i agg wd ks next q cells kt et hbx hu
      split at h
      · rename_i kd hkt
        split at h
        · rename_i hchk
          simp only [Bool.and_eq_true, Bool.or_eq_true, beq_t] at hchk
          obtain ⟨⟨hokk, hlen⟩, hwd⟩ := hchk
          have hw : agg = false → wd = 1 := fun ha => by rcases hwd with h | h; · rw [ha] at h; cases h
                                                         · exact h
          obtain ⟨_, hv⟩ := hl [] y _ hy holds_nil hp
          have hkv := exO_eq hl hp holds_nil hk
          split at h
          · rename_i j v0 hfn
            split at h
            · rename_i s hs
              simp only [Option.some.injEq] at h
              subst h
              have hi : own i = some (.box ⟨.mapx agg wd ks next, q⟩ cells) := by rw [hob i (by simp), hbx]
              obtain ⟨vs, hb, hcells⟩ := m.obj i _ hi
              have hb : w.heap[pl.blk i]? = some (.map (entsX agg wd ks vs).toArray next) := hb
              obtain ⟨mm, hjm, hlt, hf⟩ := (findX (agg := agg) (wd := wd) (kd := kd) (k := key) ks vs [] 0).1 j v0 hfn
              have : mm = j := by omega
              subst this
              have hvl : vs.length = ks.length * wd := by rw [← hcells.1]; exact hlen
              have hcut : All2 (COk w pl own) ((cells.drop (mm * wd)).take wd) ((vs.drop (mm * wd)).take wd) := (hcells.drop _).take _
              have hpart : PartOk w pl own (agg, (cells.drop (mm * wd)).take wd) (valX agg wd (vs.drop (mm * wd))) := by
                cases agg with
                | true => exact ⟨_, by simp [valX], hcut⟩
                | false =>
                  have := hw rfl
                  subst this
                  simp only [svX, Bool.false_eq_true, if_false] at hs
                  split at hs
                  · rename_i c hc1
                    rw [hc1] at hcut ⊢
                    obtain ⟨u, t, hu1, hcu, ht⟩ := hcut.uncons
                    have : (vs.drop (mm * 1)).headD undef = u := by
                      cases hvd : vs.drop (mm * 1) with
                      | nil => rw [hvd] at hu1; simp at hu1
                      | cons z zs => rw [hvd] at hu1; simp at hu1; simp [hu1.1]
                    simp only [valX, Bool.false_eq_true, if_false, this]
                    exact hcu
                  · cases hs
              have hsv : SvOk w pl own s (valX agg wd (vs.drop (mm * wd))) := by
                unfold svX at hs
                cases agg with
                | true => simp only [if_true, Option.some.injEq] at hs; subst hs; exact hpart
                | false =>
                  simp only [Bool.false_eq_true, if_false] at hs
                  split at hs
                  · rename_i c hc1
                    simp only [Option.some.injEq] at hs; subst hs
                    rw [hc1] at hpart
                    exact hpart
                  · cases hs
              have hrun := run_lookupX (w := w) (ok := ok) hu hkt hokk hb (.inl ⟨rfl, _, hf⟩)
              refine does_value (v := if ok then .tuple #[valX agg wd (vs.drop (mm * wd)), .bool true] else valX agg wd (vs.drop (mm * wd))) m ?_ ?_
              · unfold execOp
                simp only [hop, hv, hkv, Sem.run_bind, hrun, Result.andThen_ok, Sem.run_pure]
                done
              · cases ok with
                | true => exact tupX_ok hpart
                | false => exact hsv
            · cases h
          · rename_i hfn
            split at h
            · rename_i ti hti
              split at h
              · rename_i z hz
                split at h
                · rename_i s hs
                  have fin : ∀ (s' : SV) (tp : SV), e = ⟨if ok then tp else s', [], [i], []⟩ → SvOk w pl own s' z → SvOk w pl own tp (.tuple #[z, .bool false]) → Does P fr own a w pl o e := by
                    rintro s' tp rfl h1 h2
                    have hi : own i = some (.box ⟨.mapx agg wd ks next, q⟩ cells) := by rw [hob i (by simp), hbx]
                    obtain ⟨vs, hb, hcells⟩ := m.obj i _ hi
                    have hb : w.heap[pl.blk i]? = some (.map (entsX agg wd ks vs).toArray next) := hb
                    have hf := (findX (agg := agg) (wd := wd) (kd := kd) (k := key) ks vs [] 0).2 hfn
                    have hrun := run_lookupX (w := w) (ok := ok) hu hkt hokk hb (.inr ⟨rfl, hf, ti, hti, hz⟩)
                    refine does_value (v := if ok then .tuple #[z, .bool false] else z) m ?_ ?_
                    · unfold execOp
                      simp only [hop, hv, hkv, Sem.run_bind, hrun, Result.andThen_ok, Sem.run_pure]
                      done
                    · cases ok with
                      | true => exact h2
                      | false => exact h1
                  have hsv : SvOk w pl own s z := ofV_ok hs
                  split at h
                  · rename_i c
                    simp only [Option.some.injEq] at h
                    exact fin _ _ h.symm hsv (tupX_ok (agg := false) hsv)
                  · rename_i cs'
                    simp only [Option.some.injEq] at h
                    exact fin _ _ h.symm hsv (tupX_ok (agg := true) hsv)
                  · cases h
                · cases h
              · cases h
            · cases h
          · cases h
        · cases h
      · cases h
    · cases h
  · cases h
def lkpN (P : Program) (lk : Lk) (T : TypeId) (m k : Operand) (ok : Bool) : Option Eff :=
 match lk [] m, exO lk [] k with
 | some (.c (.d (.v (.map none)))), some key => match P.underlying T with
  | some (.map kt et) => match P.underlying kt, P.info? et with
   | some kd, some ti => bif okKey kd key then (match ti.zero with
    | some z => match ofV z with
     | some s => match s with
      | .c c => some ⟨if ok then tupX false [c] false else s, [], [], []⟩
      | .agg cs => some ⟨if ok then tupX true cs false else s, [], [], []⟩
      | .tup _ => none
     | none => none
    | none => none) else none
   | _, _ => none
  | _ => none
 | _, _ => none
theorem lkpN_ok (m : Mem fr own w pl) (hl : LkOk a w pl own p lk) (hp : Eng.Holds a p) {T : TypeId} {y k : Operand} {ok : Bool} (hop : o.op = .lookup T y k ok) {e : Eff} (h : lkpN P lk T y k ok = some e) : Does P fr own a w pl o e := by
 unfold lkpN at h
 split at h
 ·rename_i key hy hk
  split at h
  ·rename_i kt et hu
   split at h
   ·rename_i kd ti hkt hti
    cases hokk : okKey kd key with
    | false => rw [hokk] at h; cases h
    | true =>
     rw [hokk] at h
     simp only [cond_true] at h
     have hv : a.eval y = .map none := Rd.exact (hl [] y _ hy holds_nil hp)
     have hkv := exO_eq hl hp holds_nil hk
     split at h
     ·rename_i z hz
      split at h
      ·rename_i s hs
       have hzv : (zeroValue et).run P w = .ok z w := by simp [zeroValue, typeInfo, hti, hz]
       have hrun : (Instr.lookup T (.map none) key ok).run P w = .ok (if ok then .tuple #[z, .bool false] else z) w := by
        unfold Instr.lookup
        have hfk : (Instr.findKey kt key []).run P w = .ok none w := run_findKey hkt rfl
        simp only [Sem.run_bind, run_underlying hu, Result.andThen_ok, run_checkKey hkt hokk, hfk, Sem.run_pure, hzv]
       have fin : ∀ (s' : SV) (tp : SV), e = ⟨if ok then tp else s', [], [], []⟩ → SvOk w pl own s' z → SvOk w pl own tp (.tuple #[z, .bool false]) → Does P fr own a w pl o e := by
        rintro s' tp rfl h1 h2
        refine does_value (v := if ok then .tuple #[z, .bool false] else z) m ?_ ?_
        ·unfold execOp
         simp only [hop, hv, hkv, Sem.run_bind, hrun, Result.andThen_ok, Sem.run_pure]
         done
        ·cases ok with
         | true => exact h2
         | false => exact h1
       have hsv : SvOk w pl own s z := ofV_ok hs
       split at h
       ·rename_i c
        simp only [Option.some.injEq] at h
        exact fin _ _ h.symm hsv (tupX_ok (agg := false) hsv)
       ·rename_i cs'
        simp only [Option.some.injEq] at h
        exact fin _ _ h.symm hsv (tupX_ok (agg := true) hsv)
       ·cases h
      ·cases h
     ·cases h
   ·cases h
  ·cases h
 ·cases h
def opW (P : Program) (lk : Lk) (ob : Own) (o : Oper) (nid : Nat) : Option Eff := match o.op with
 | .makeMap T none => mmX P ob T nid
 | .insert T m k x => match o.dst with
  | none => insX P lk ob T m k x
  | some _ => none
 | .mapUpdate T m k x => match o.dst with
  | none => insX P lk ob T m k x
  | some _ => none
 | .lookup T m k ok => match lkpX P lk ob T m k ok with
  | some e => some e
  | none => lkpN P lk T m k ok
 | .load t x => loadG P lk ob t x
 | .store ty x v => match o.dst with
  | none => storeG P lk ob ty x v
  | some _ => none
 | .buildSlice T len parts => bslG P lk ob T len parts nid
 | .call { callee := .builtin .append, args := ⟨[s, x]⟩, argTypes := ⟨[T, T']⟩ } => bif Nat.beq T T' then appG P lk ob T s x nid else none
 | _ => none
theorem opW_ok (m : Mem fr own w pl) (hl : LkOk a w pl own p lk) (hp : Eng.Holds a p) {ob : Own} {nid : Nat} {e : Eff} (h : opW P lk ob o nid = some e) (hob : ∀ i ∈ e.touch, own i = ob i) : Does P fr own a w pl o e := by
 unfold opW at h
 split at h
 ·rename_i hop; exact mmX_ok m hop h hob
 ·rename_i hop
  split at h
  ·rename_i hd; exact insX_ok m hl hp (.inl hop) hd h hob
  ·cases h
 ·rename_i hop
  split at h
  ·rename_i hd; exact insX_ok m hl hp (.inr hop) hd h hob
  ·cases h
 ·rename_i hop
  split at h
  ·rename_i e' he
   simp only [Option.some.injEq] at h
   subst h
   exact lkpX_ok m hl hp hop he hob
  ·exact lkpN_ok m hl hp hop h
 ·rename_i hop; exact loadG_ok m hl hp hop h hob
 ·rename_i hop
  split at h
  ·rename_i hd; exact storeG_ok m hl hp hop hd h hob
  ·cases h
 ·rename_i hop; exact bslG_ok m hl hp hop h hob
 ·rename_i s x T T' hop
  cases hT : Nat.beq T T' with
  | false => rw [hT] at h; cases h
  | true =>
   rw [hT] at h
   have := Nat.eq_of_beq_eq_true hT
   subst this
   exact appG_ok m hl hp hop h hob
 ·cases h
end
end Go.V
namespace Go.V
open Go.RowKit
section
variable {P : Program} {fr : Fr} {own own' : Own} {a : Act} {w w' : World} {pl pl' : Pl} {o : Oper} {p : Path} {lk : Lk}
theorem Mem.freeze (h : Mem fr own w pl) {i k : Nat} {e : TypeId} {sz : Nat} {es : List (List D)} (hi : own i = some (.arr k ⟨e, []⟩ sz es)) (h100 : 100 ≤ i) :
  ∃ pl', Mem fr (upd own i (.arr (k + 1) ⟨e, []⟩ sz [])) w pl' ∧ Later w pl own w pl' (upd own i (.arr (k + 1) ⟨e, []⟩ sz [])) ∧
   Rd w (Sh pl' (upd own i (.arr (k + 1) ⟨e, []⟩ sz []))) (.sl sz es) (.slice (pl.sl i).1 es.length (pl.sl i).2) := by
 obtain ⟨xs, hxs, hr, hs⟩ := h.obj i _ hi
 have hr : All2 (Rd w (Sh pl own)) es.flatten xs := hr
 have hb0 : blkOf pl own i = (pl.sl i).1.map (·.block) := by unfold blkOf; rw [hi]
 have := Mem.set (own' := upd own i (.arr (k + 1) ⟨e, []⟩ sz [])) (pl' := ⟨pl.S, pl.blk, setN pl.sl i (none, 0)⟩) (w' := w) h i (.arr (k + 1) ⟨e, []⟩ sz []) rfl rfl (fun j hj => ⟨rfl, setN_ne _ _ hj⟩) (fun _ _ _ => rfl)
  (fun _ _ => ⟨[], by simp only [setN_same]; exact ⟨by simp, .inl ⟨rfl, rfl⟩⟩, AllO.of All2.nil, by simp⟩)
  (fun b hb => by simp [blkOf, upd_same, setN_same] at hb)
  (fun ty cs h => by rw [hi] at h; cases h)
  (fun k2 e2 sz2 es2 h => by
   rw [hi] at h
   injection h with h
   injection h with h1 h2 h3 h4
   subst h1
   exact ⟨k + 1, _, _, _, rfl, by omega, fun hk => by omega⟩) rfl rfl rfl (Nat.le_refl _) (fun _ _ _ he => by cases he)
 obtain ⟨m', L⟩ := this
 refine ⟨_, m', L, ?_⟩
 rcases hxs.2 with ⟨hA, h0⟩ | ⟨g, cap, cur, hA, hB, hg, hn, hc, hsz, htk⟩
 ·injection hA with h1 h2 h3
  have : es = [] := List.eq_nil_of_length_eq_zero h0
  subst this
  rw [h1, h3]
  exact .nil sz
 ·injection hA with h1 h2 h3
  rw [h1, h3]
  have hbg : blkOf pl own i = some g := by rw [hb0, h1]; rfl
  have hSg : pl.S g := (h.hS g).2 (.inr (by
   rcases h.base i g hbg with hh | hh
   ·exact hh
   ·have := h.frOk.few i g hh; omega))
  have hget : ∀ (i j : Nat) (ds : List D) (d : D), es[i]? = some ds → ds[j]? = some d → ∃ x, xs[i * sz + j]? = some x ∧ Rd w (Sh pl own) d x := fun i j ds d hi hj => hr.get (flatten_get hs hi hj)
  have hus : ∀ {q : Nat} {x : Value}, xs[q]? = some x → xs.getD q undef = x := fun hx => by rw [List.getD_eq_getElem?_getD, hx]; rfl
  refine Rd.sl (off := 0) (fun i j => xs.getD (i * sz + j) undef) ⟨hSg, fun j hj => ?_⟩ hg hn (by omega) hs (fun i' j ds d hi' hj => ?_) (fun i' j ds d hi' hj => ?_)
  ·by_cases hji : j = i
   ·subst hji
    simp [blkOf, upd_same, setN_same] at hj
   ·rw [blkOf_congr (own' := upd own i (.arr (k + 1) ⟨e, []⟩ sz [])) (own := own) (pl' := ⟨pl.S, pl.blk, setN pl.sl i (none, 0)⟩) (pl := pl) (upd_ne _ _ hji) rfl (setN_ne _ _ hji)] at hj
    exact hji (h.inj j i g hj hbg)
  ·obtain ⟨x, hx, _⟩ := hget i' j ds d hi' hj
   rw [hus hx]
   rw [← htk, List.getElem?_take] at hx
   split at hx
   ·simpa using hx
   ·cases hx
  ·obtain ⟨x, hx, hrx⟩ := hget i' j ds d hi' hj
   rw [hus hx]
   exact L.rd hrx
def frC (i k sz : Nat) (es : List (List D)) : C → C
 | .ar j k' => bif Nat.beq j i && Nat.beq k' k then .d (.sl sz es) else .ar j k'
 | c => c
def lkF (lk : Lk) (i k sz : Nat) (es : List (List D)) : Lk := fun q x => match lk q x with
 | some (.c c) => some (.c (frC i k sz es c))
 | some (.agg xs) => some (.agg (xs.map (frC i k sz es)))
 | r => r
def frzOne (lk : Lk) (own : Tr Ob) (i : Nat) : Option (Lk × Tr Ob × (Nat × Ob)) := match own.get i with
 | some (.arr k ⟨e, []⟩ sz es) => bif Nat.ble 100 i then (match setL own [(i, .arr (k + 1) ⟨e, []⟩ sz [])] with
  | some own' => some (lkF lk i k sz es, own', (i, .arr (k + 1) ⟨e, []⟩ sz []))
  | none => none) else none
 | _ => none
def frzAll : List Nat → Lk → Tr Ob → Option (Lk × Tr Ob × List (Nat × Ob))
 | [], lk, own => some (lk, own, [])
 | i :: r, lk, own => match frzOne lk own i with
  | some (lk1, own1, u) => match frzAll r lk1 own1 with
   | some (lk2, own2, us) => some (lk2, own2, u :: us)
   | none => none
  | none => none
def arsC : List C → List Nat → List Nat
 | [], a => a
 | .ar i _ :: r, a => bif (arsC r a).contains i then arsC r a else i :: arsC r a
 | _ :: r, a => arsC r a
def arsOf (lk : Lk) : List Operand → List Nat
 | [] => []
 | x :: r => match lk [] x with
  | some (.c c) => arsC [c] (arsOf lk r)
  | some (.agg xs) => arsC xs (arsOf lk r)
  | _ => arsOf lk r
theorem All2.mapL {α β γ : Type} {R : α → β → Prop} {S : γ → β → Prop} {f : α → γ} {xs : List α} {ys : List β} (h : All2 R xs ys) (hf : ∀ x y, R x y → S (f x) y) : All2 S (xs.map f) ys := by
 refine ⟨by simp [h.1], fun j x y hx hy => ?_⟩
 rw [List.getElem?_map] at hx
 cases hj : xs[j]? with
 | none => rw [hj] at hx; cases hx
 | some z =>
  rw [hj] at hx
  simp only [Option.map_some, Option.some.injEq] at hx
  subst hx
  exact hf _ _ (h.2 j z y hj hy)
theorem frzOne_ok {T T1 : Tr Ob} {i : Nat} {lk1 : Lk} {u : Nat × Ob} (h : frzOne lk T i = some (lk1, T1, u)) : u.1 = i ∧ T1.get = upd T.get i u.2 ∧
  ∀ {fr : Fr} {own0 : Own} {a : Act} {w : World} {pl : Pl} {p : Path}, own0 i = T.get i → Mem fr own0 w pl → LkOk a w pl own0 p lk → ∃ pl', Mem fr (upd own0 i u.2) w pl' ∧ Later w pl own0 w pl' (upd own0 i u.2) ∧ LkOk a w pl' (upd own0 i u.2) p lk1 := by
 unfold frzOne at h
 split at h
 ·rename_i k e sz es hi
  cases h100 : Nat.ble 100 i with
  | false => rw [h100] at h; cases h
  | true =>
   rw [h100] at h
   simp only [cond_true] at h
   split at h
   ·rename_i T' hs
    simp only [Option.some.injEq, Prod.mk.injEq] at h
    obtain ⟨rfl, rfl, rfl⟩ := h
    refine ⟨rfl, setL_get hs, fun {fr own0 a w pl p} h0 m hl => ?_⟩
    obtain ⟨pl', m', L, hr⟩ := m.freeze (i := i) (by rw [h0]; exact hi) (Nat.le_of_ble_eq_true h100)
    refine ⟨pl', m', L, fun q x sv hx hq hp => ?_⟩
    have key : ∀ {c : C} {v : Value}, COk w pl own0 c v → COk w pl' (upd own0 i (.arr (k + 1) ⟨e, []⟩ sz [])) (frC i k sz es c) v := by
     intro c v hv
     cases c with
     | ar j k' =>
      simp only [frC]
      cases hb : (Nat.beq j i && Nat.beq k' k) with
      | false => exact L.c hv
      | true =>
       simp only [Bool.and_eq_true] at hb
       have e1 := Nat.eq_of_beq_eq_true hb.1
       have e2 := Nat.eq_of_beq_eq_true hb.2
       subst e1; subst e2
       rw [ar_cur (w := w) hv (by rw [h0]; exact hi)]
       exact hr
     | _ => exact L.c hv
    unfold lkF at hx
    split at hx
    ·rename_i c hj
     simp only [Option.some.injEq] at hx
     subst hx
     exact key (hl q x _ hj hq hp)
    ·rename_i xs hj
     simp only [Option.some.injEq] at hx
     subst hx
     obtain ⟨vs, hv, h2⟩ := hl q x _ hj hq hp
     exact ⟨vs, hv, h2.mapL fun _ _ h => key h⟩
    ·exact L.sv (hl q x _ hx hq hp)
   ·cases h
 ·cases h
theorem frzAll_ok : ∀ {l : List Nat} {lk lk1 : Lk} {T T1 : Tr Ob} {us : List (Nat × Ob)}, frzAll l lk T = some (lk1, T1, us) → keys us = l ∧ T1.get = updL T.get us ∧
  ∀ {fr : Fr} {own0 : Own} {a : Act} {w : World} {pl : Pl} {p : Path}, (∀ i ∈ l, own0 i = T.get i) → Mem fr own0 w pl → LkOk a w pl own0 p lk → ∃ pl', Mem fr (updL own0 us) w pl' ∧ Later w pl own0 w pl' (updL own0 us) ∧ LkOk a w pl' (updL own0 us) p lk1
 | [], lk, lk1, T, T1, us, h => by
  simp only [frzAll, Option.some.injEq, Prod.mk.injEq] at h
  obtain ⟨rfl, rfl, rfl⟩ := h
  exact ⟨rfl, rfl, fun {fr own0 a w pl p} _ m hl => ⟨pl, m, Later.refl _ _ _, hl⟩⟩
 | i :: r, lk, lk1, T, T1, us, h => by
  simp only [frzAll] at h
  split at h
  ·rename_i lkA TA u h1
   split at h
   ·rename_i lkB TB us' h2
    simp only [Option.some.injEq, Prod.mk.injEq] at h
    obtain ⟨rfl, rfl, rfl⟩ := h
    obtain ⟨a1, a2, a3⟩ := frzOne_ok h1
    obtain ⟨b1, b2, b3⟩ := frzAll_ok h2
    obtain ⟨ui, uo⟩ := u
    simp only at a1
    subst a1
    refine ⟨by simp only [keys, List.map_cons]; rw [← b1]; rfl, by rw [b2, a2]; rfl, fun {fr own0 a w pl p} h0 m hl => ?_⟩
    obtain ⟨pl1, m1, L1, hl1⟩ := a3 (h0 ui (by simp)) m hl
    obtain ⟨pl2, m2, L2, hl2⟩ := b3 (fun j hj => by
     rw [a2]
     by_cases hji : j = ui
     ·subst hji; rw [upd_same, upd_same]
     ·rw [upd_ne _ _ hji, upd_ne _ _ hji]; exact h0 j (by simp [hj])) m1 hl1
    exact ⟨pl2, m2, L1.trans L2, hl2⟩
   ·cases h
  ·cases h
theorem does_turn {v : Value} {s : SV} {i : Nat} {ob : Ob} {t : List Nat} {c : List Obl} (m : Mem fr (upd own i ob) w pl') (L : Later w pl own w pl' (upd own i ob)) (hr : (execOp a.eval o).run P w = .ok (.value v) w) (hs : SvOk w pl' (upd own i ob) s v) : Does P fr own a w pl o ⟨s, [(i, ob)], t, c⟩ := by
 intro K Q hK
 unfold Oper.wp
 rw [hr, Oper.upon_value]
 exact hK v w pl' m L (.inr hs)
def cutE (P : Program) (lk : Lk) (ob : Own) (t : TypeId) (x : Operand) (lo hi : Option Operand) : Option Eff :=
 match P.underlying t, lk [] x with
 | some (.slice e), some (.c (.ar i k)) => match ob i, P.info? e with
  | some (.arr k' e' sz es), some ti => bif Nat.beq k' k && Nat.beq ti.size sz then (match lo with
   | none => (match bndE lk hi es.length with
    | some (_, h) => bif decide (0 ≤ h ∧ h ≤ (es.length : Int)) && !mkd e'.ov then some ⟨.c (.ar i (k' + 1)), [(i, .arr (k' + 1) e' sz (es.take h.toNat))], [i], []⟩ else none
    | none => none)
   | some l0 => (match bndE lk (some l0) 0, bndE lk hi es.length with
    | some (_, l), some (_, h) => bif decide (0 ≤ l ∧ l ≤ h ∧ h ≤ (es.length : Int)) && !mkd e'.ov then some ⟨.c (.av i k' l.toNat (h.toNat - l.toNat)), [], [i], []⟩ else none
    | _, _ => none)) else none
  | _, _ => none
 | some (.slice e), some (.c (.d (.v (.slice none 0 0)))) => match bndE lk lo 0, bndE lk hi ((0 : Nat) : Int), P.info? e with
  | some (_, l), some (_, h), some ti => bif decide (l = 0 ∧ h = 0) then some ⟨.c (.d (.v (.slice none 0 0))), [], [], []⟩ else none
  | _, _, _ => none
 | _, _ => none
theorem run_cut {t el : TypeId} {x : Operand} {lo hi : Option Operand} {ti : TypeInfo} {A : Option Addr} {n c : Nat} {l h : Int} {v1 v2 : Option Value} (hop : o.op = .slice t x lo hi none) (hu : P.underlying t = some (.slice el)) (hti : P.info? el = some ti) (hx : a.eval x = .slice A n c)
  (hl : LkOk a w pl own p lk) (hp : Eng.Holds a p) (hb1 : bndE lk lo 0 = some (v1, l)) (hb2 : bndE lk hi (n : Int) = some (v2, h)) (hb : 0 ≤ l ∧ l ≤ h ∧ h ≤ (c : Int)) :
  (execOp a.eval o).run P w = .ok (.value (.slice (if c = l.toNat then A else A.map (·.add (l.toNat * ti.size))) (h.toNat - l.toNat) (c - l.toNat))) w := by
 obtain ⟨e1, k1⟩ := bndE_spec hl hp hb1
 obtain ⟨e2, k2⟩ := bndE_spec hl hp hb2
 unfold execOp
 simp only [hop, hx, e1, e2, Option.map_none]
 have := run_bounds (P := P) (w := w) (isS := true) (len := n) (cap := c) k1 k2 hb
 simp [Instr.sliceAt, run_underlying hu, Instr.slice, this, sizeOf, typeInfo, hti]
theorem ownsQ.take {B : Nat} {e : TypeId} {sz n c : Nat} {A : Option Addr} {xs : List Value} (h : ownsQ false w B e sz (.slice A n c) n xs) {k : Nat} (hk : k ≤ n) : ownsQ false w B e sz (.slice A k c) k (xs.take (k * sz)) := by
 obtain ⟨h1, h2⟩ := h
 have hle : k * sz ≤ n * sz := Nat.mul_le_mul_right _ hk
 refine ⟨by rw [List.length_take, h1]; omega, ?_⟩
 rcases h2 with ⟨hv, h0⟩ | ⟨g, cap, cur, hv, hB, hg, hn, hc, hs, ht⟩
 ·injection hv with e1 e2 e3
  obtain rfl : k = 0 := by omega
  exact .inl ⟨by rw [e1, e3], rfl⟩
 ·injection hv with e1 e2 e3
  exact .inr ⟨g, cap, cur, by rw [e1, e3], hB, hg, by omega, hc, hs, by rw [← ht, List.take_take, Nat.min_eq_left hle]⟩
theorem cutE_ok (m : Mem fr own w pl) (hl : LkOk a w pl own p lk) (hp : Eng.Holds a p) {t : TypeId} {x : Operand} {lo hi : Option Operand} (hop : o.op = .slice t x lo hi none) {ob : Own} {e : Eff} (h : cutE P lk ob t x lo hi = some e) (hob : ∀ i ∈ e.touch, own i = ob i) : Does P fr own a w pl o e := by
 unfold cutE at h
 split at h
 ·rename_i el i k hu hx
  split at h
  ·rename_i k' e' sz es ti hi' hti
   cases hc : (Nat.beq k' k && Nat.beq ti.size sz) with
   | false => rw [hc] at h; cases h
   | true =>
    rw [hc] at h
    simp only [cond_true] at h
    simp only [Bool.and_eq_true] at hc
    have e1 := Nat.eq_of_beq_eq_true hc.1
    have e2 := Nat.eq_of_beq_eq_true hc.2
    subst e1
    split at h
    ·split at h
     ·rename_i v2 hh hb2
      cases hd : (decide (0 ≤ hh ∧ hh ≤ (es.length : Int)) && !mkd e'.ov) with
      | false => rw [hd] at h; cases h
      | true =>
       rw [hd] at h
       simp only [cond_true, Option.some.injEq] at h
       subst h
       simp only [Bool.and_eq_true, decide_eq_true_eq, Bool.not_eq_true'] at hd
       obtain ⟨hd, hmk⟩ := hd
       have ho : own i = some (.arr k' e' sz es) := by rw [hob i (by simp)]; exact hi'
       have hv := ar_cur (w := w) (hl [] x _ hx holds_nil hp) ho
       obtain ⟨xs, hxs, hr, hs⟩ := m.obj i _ ho
       rw [hmk] at hxs
       have hcap : es.length ≤ (pl.sl i).2 := by
        rcases hxs.2 with ⟨hA, h0⟩ | ⟨g, cap, cur, hA, hB, hg, hn, _⟩
        ·omega
        ·injection hA with _ _ h3; omega
       have hlen : (es.take hh.toNat).length = hh.toNat := by rw [List.length_take]; omega
       obtain ⟨pl', m', L, hsl⟩ := m.turnArrO (k' := k' + 1) (e' := e') (es' := es.take hh.toNat) (A := (pl.sl i).1) (cap := (pl.sl i).2) ho (w' := w) (World.grownBy.refl _ _) (by rw [hmk, hlen]; exact hxs.take (by omega)) (.inl rfl)
        ⟨by rw [take_flatten hs, List.length_take, List.length_take, hr.1], fun j d y hd' hy => by
         rw [take_flatten hs, List.getElem?_take] at hd'
         rw [List.getElem?_take] at hy
         split at hd'
         ·rename_i hj; rw [if_pos hj] at hy; exact hr.2 j d y hd' hy
         ·cases hd'⟩ (fun ds hd' => hs ds (List.mem_of_mem_take hd')) (.inl (by omega))
       have hrun := run_cut (lo := none) (hi := hi) hop hu hti hv hl hp rfl hb2 ⟨by omega, by omega, by omega⟩
       refine does_turn (pl' := pl') m' L hrun ⟨k' + 1, e', sz, _, upd_same _ _ _, Nat.le_refl _, fun _ => ?_, rfl⟩
       rw [hsl, hlen]
       simp only [Int.toNat_zero, Nat.zero_mul, Nat.sub_zero]
       split
       ·rfl
       ·cases (pl.sl i).1 <;> simp [Addr.add]
     ·cases h
    ·rename_i l0
     split at h
     ·rename_i v1 l v2 hh hb1 hb2
      cases hd : (decide (0 ≤ l ∧ l ≤ hh ∧ hh ≤ (es.length : Int)) && !mkd e'.ov) with
      | false => rw [hd] at h; cases h
      | true =>
       rw [hd] at h
       simp only [cond_true, Option.some.injEq] at h
       subst h
       simp only [Bool.and_eq_true, decide_eq_true_eq, Bool.not_eq_true'] at hd
       obtain ⟨hd, hmk⟩ := hd
       have ho : own i = some (.arr k' e' sz es) := by rw [hob i (by simp)]; exact hi'
       have hv := ar_cur (w := w) (hl [] x _ hx holds_nil hp) ho
       obtain ⟨xs, hxs, hr, hs⟩ := m.obj i _ ho
       rw [hmk] at hxs
       have hcap : es.length ≤ (pl.sl i).2 := by
        rcases hxs.2 with ⟨hA, h0⟩ | ⟨g, cap, cur, hA, hB, hg, hn, _⟩
        ·omega
        ·injection hA with _ _ h3; omega
       have hrun := run_cut (lo := some l0) (hi := hi) hop hu hti hv hl hp hb1 hb2 ⟨by omega, by omega, by omega⟩
       refine does_value m hrun ⟨k', e', sz, es, ho, Nat.le_refl _, fun _ => ⟨by omega, ?_⟩, rfl⟩
       rw [e2]
     ·cases h
  ·cases h
 ·rename_i el hu hx
  split at h
  ·rename_i v1 l v2 hh ti hb1 hb2 hti
   cases hd : (decide (l = 0 ∧ hh = 0)) with
   | false => rw [hd] at h; cases h
   | true =>
    rw [hd] at h
    simp only [cond_true, Option.some.injEq] at h
    subst h
    simp only [decide_eq_true_eq] at hd
    obtain ⟨rfl, rfl⟩ := hd
    have hv : a.eval x = .slice none 0 0 := Rd.exact (hl [] x _ hx holds_nil hp)
    have hrun := run_cut hop hu hti hv hl hp hb1 hb2 ⟨by omega, by omega, by omega⟩
    refine does_value m hrun ?_
    exact Rd.v _ rfl
  ·cases h
 ·cases h
def noNil (ob : Own) : SV → Option (Bool × List Nat)
 | .c (.d (.sl _ (_ :: _))) => some (true, [])
 | .c (.ar i k) => match ob i with
  | some (.arr k' _ _ (_ :: _)) => bif Nat.beq k' k then some (true, [i]) else none
  | _ => none
 | .c (.av i k _ _) => match ob i with
  | some (.arr k' _ _ (_ :: _)) => bif Nat.beq k' k then some (true, [i]) else none
  | _ => none
 | .c (.fn _ _ _) => some (false, [])
 | _ => none
def isSl (P : Program) (t : TypeId) : Bool := match P.underlying t with
 | some (.slice _) => true
 | _ => false
def isFn (P : Program) (t : TypeId) : Bool := match P.underlying t with
 | some (.func _ _ _) => true
 | _ => false
def nilZ (P : Program) (lk : Lk) (ob : Own) (op : BinOp) (t : TypeId) (x y : Operand) : Option Eff :=
 match lk [] x, lk [] y with
 | some sv, some (.c (.d (.v (.slice none 0 0)))) => match noNil ob sv with
  | some (true, tc) => bif isSl P t then (match op with
   | .eql => some ⟨.c (.d (.v (.bool false))), [], tc, []⟩
   | .neq => some ⟨.c (.d (.v (.bool true))), [], tc, []⟩
   | _ => none) else none
  | _ => none
 | some sv, some (.c (.d (.v .nilFunc))) => match noNil ob sv with
  | some (false, tc) => bif isFn P t then (match op with
   | .eql => some ⟨.c (.d (.v (.bool false))), [], tc, []⟩
   | .neq => some ⟨.c (.d (.v (.bool true))), [], tc, []⟩
   | _ => none) else none
  | _ => none
 | _, _ => none
theorem run_sl_nil {t e : TypeId} {ad : Addr} {n c : Nat} (h : P.underlying t = some (.slice e)) : (Op.equal t (.slice (some ad) n c) (.slice none 0 0)).run P w = .ok false w := by
 have h : ∀ d : Nat, (Op.equalIn (d + 1) t (.slice (some ad) n c) (.slice none 0 0)).run P w = .ok false w := fun d => by
  simp [Op.equalIn, run_underlying h]
 simp [Op.equal, Op.maxDepth, h 9999]
theorem run_fn_nil {t : TypeId} {x y z} {g l m} (h : P.underlying t = some (.func x y z)) : (Op.equal t (.func g l m) .nilFunc).run P w = .ok false w := by
 have h : ∀ d : Nat, (Op.equalIn (d + 1) t (.func g l m) .nilFunc).run P w = .ok false w := fun d => by
  simp [Op.equalIn, run_underlying h]
 simp [Op.equal, Op.maxDepth, h 9999]
theorem noNil_sl (m : Mem fr own w pl) {ob : Own} {sv : SV} {tc : List Nat} (h : noNil ob sv = some (true, tc)) (hob : ∀ i ∈ tc, own i = ob i) {v : Value} (hv : SvOk w pl own sv v) : ∃ ad n c, v = .slice (some ad) n c := by
 have hne : ∀ {i k : Nat} {e : AT} {sz : Nat} {d : List D} {r : List (List D)}, own i = some (.arr k e sz (d :: r)) → ∃ g, (pl.sl i).1 = some g := fun {i k e sz d r} ho => by
  rcases arr_addr (m.obj i _ ho) with ⟨h0, _⟩ | ⟨b, hb⟩
  ·cases h0
  ·exact ⟨_, hb⟩
 unfold noNil at h
 split at h
 ·simp only [Option.some.injEq, Prod.mk.injEq] at h
  obtain ⟨_, rfl⟩ := h
  have hv : Rd _ _ _ _ := hv
  cases hv with
  | sl us hF hb hc hm hs hu hr => exact ⟨_, _, _, rfl⟩
 ·rename_i i k
  split at h
  ·rename_i k' e' sz d r hi
   cases hk : Nat.beq k' k with
   | false => rw [hk] at h; cases h
   | true =>
    rw [hk] at h
    simp only [cond_true, Option.some.injEq, Prod.mk.injEq] at h
    obtain ⟨_, rfl⟩ := h
    have e1 := Nat.eq_of_beq_eq_true hk
    subst e1
    have ho : own i = some (.arr k' e' sz (d :: r)) := by rw [hob i (by simp)]; exact hi
    have := ar_cur (w := w) hv ho
    obtain ⟨g, hg⟩ := hne ho
    rw [hg] at this
    exact ⟨_, _, _, this⟩
  ·cases h
 ·rename_i i k l n
  split at h
  ·rename_i k' e' sz d r hi
   cases hk : Nat.beq k' k with
   | false => rw [hk] at h; cases h
   | true =>
    rw [hk] at h
    simp only [cond_true, Option.some.injEq, Prod.mk.injEq] at h
    obtain ⟨_, rfl⟩ := h
    have e1 := Nat.eq_of_beq_eq_true hk
    subst e1
    have ho : own i = some (.arr k' e' sz (d :: r)) := by rw [hob i (by simp)]; exact hi
    have := (av_cur (w := w) hv ho).2
    obtain ⟨g, hg⟩ := hne ho
    rw [hg] at this
    split at this
    ·exact ⟨_, _, _, this⟩
    ·exact ⟨_, _, _, this⟩
  ·cases h
 ·simp at h
 ·cases h
theorem noNil_fn {ob : Own} {sv : SV} {tc : List Nat} (h : noNil ob sv = some (false, tc)) {v : Value} (hv : SvOk w pl own sv v) : ∃ g l m, v = .func g l m := by
 unfold noNil at h
 split at h
 ·simp at h
 ·split at h
  ·rename_i k' _ _ _ _ _
   cases hk : Nat.beq k' _ with
   | false => rw [hk] at h; cases h
   | true => rw [hk] at h; simp at h
  ·cases h
 ·split at h
  ·rename_i k' _ _ _ _ _
   cases hk : Nat.beq k' _ with
   | false => rw [hk] at h; cases h
   | true => rw [hk] at h; simp at h
  ·cases h
 ·exact ⟨_, _, _, hv.2⟩
 ·cases h
theorem nilZ_ok (m : Mem fr own w pl) (hl : LkOk a w pl own p lk) (hp : Eng.Holds a p) {op : BinOp} {t : TypeId} {x y : Operand} {ty : TypeId} (hop : o.op = .binOp op t x y ty) {ob : Own} {e : Eff} (h : nilZ P lk ob op t x y = some e) (hob : ∀ i ∈ e.touch, own i = ob i) : Does P fr own a w pl o e := by
 unfold nilZ at h
 split at h
 ·rename_i sv hx hy
  have hvy : a.eval y = .slice none 0 0 := Rd.exact (hl [] y _ hy holds_nil hp)
  split at h
  ·rename_i tc hn
   cases ht : isSl P t with
   | false => rw [ht] at h; cases h
   | true =>
    rw [ht] at h
    simp only [cond_true] at h
    unfold isSl at ht
    split at ht
    ·rename_i el hu
     split at h
     ·simp only [Option.some.injEq] at h
      subst h
      obtain ⟨ad, n, c, hvx⟩ := noNil_sl m hn hob (hl [] x _ hx holds_nil hp)
      refine does_value (v := .bool false) m ?_ (Rd.v _ rfl)
      unfold execOp
      simp only [hop, hvx, hvy]
      simp [eqGuard, binOp, run_sl_nil hu]
     ·simp only [Option.some.injEq] at h
      subst h
      obtain ⟨ad, n, c, hvx⟩ := noNil_sl m hn hob (hl [] x _ hx holds_nil hp)
      refine does_value (v := .bool true) m ?_ (Rd.v _ rfl)
      unfold execOp
      simp only [hop, hvx, hvy]
      simp [eqGuard, binOp, run_sl_nil hu]
     ·cases h
    ·cases ht
  ·cases h
 ·rename_i sv hx hy
  have hvy : a.eval y = .nilFunc := Rd.exact (hl [] y _ hy holds_nil hp)
  split at h
  ·rename_i tc hn
   cases ht : isFn P t with
   | false => rw [ht] at h; cases h
   | true =>
    rw [ht] at h
    simp only [cond_true] at h
    unfold isFn at ht
    split at ht
    ·rename_i _ _ _ hu
     split at h
     ·simp only [Option.some.injEq] at h
      subst h
      obtain ⟨g, l, m', hvx⟩ := noNil_fn hn (hl [] x _ hx holds_nil hp)
      refine does_value (v := .bool false) m ?_ (Rd.v _ rfl)
      unfold execOp
      simp only [hop, hvx, hvy]
      simp [eqGuard, binOp, run_fn_nil hu]
     ·simp only [Option.some.injEq] at h
      subst h
      obtain ⟨g, l, m', hvx⟩ := noNil_fn hn (hl [] x _ hx holds_nil hp)
      refine does_value (v := .bool true) m ?_ (Rd.v _ rfl)
      unfold execOp
      simp only [hop, hvx, hvy]
      simp [eqGuard, binOp, run_fn_nil hu]
     ·cases h
    ·cases ht
  ·cases h
 ·cases h
def zerE (P : Program) (lk : Lk) (ob : Own) (T tn : TypeId) (s x : Operand) (nid : Nat) : Option Eff :=
 match P.underlying T, P.underlying tn, lk [] s, exO lk [] x with
 | some (.slice e), some (.int _), some (.c (.d (.v (.slice none 0 0)))), some (.int _ (.ofNat k)) => match P.info? e, ob nid with
  | some i, none => match i.zero with
   | some z => match z.cells with
    | ⟨[v]⟩ => bif Nat.blt 0 k && Nat.ble k 1000 && Nat.beq i.size 1 && Nat.ble i.bytes 1000 && v.oneCell' then some ⟨.c (.ar nid 0), [(nid, .arr 0 ⟨e, []⟩ 1 (List.replicate k [.v v]))], [nid], []⟩ else none
    | _ => none
   | none => none
  | _, _ => none
 | _, _, _, _ => none
theorem zeros_one (v : Value) (k : Nat) : (Builtin.zeroCells #[v] k).toList = List.replicate k v := by
 apply List.ext_getElem
 ·simp [Builtin.zeroCells]
 ·intro j h1 h2
  simp [Builtin.zeroCells, Nat.mod_one]
theorem flat_rep (v : D) : ∀ k : Nat, (List.replicate k [v]).flatten = List.replicate k v
 | 0 => rfl
 | k + 1 => by simp only [List.replicate_succ, List.flatten_cons, flat_rep v k]; rfl
theorem zerE_ok (m : Mem fr own w pl) (hl : LkOk a w pl own p lk) (hp : Eng.Holds a p) {T tn : TypeId} {s x : Operand} (hop : o.op = .call { callee := .builtin .append, args := #[s, x], argTypes := #[T, tn] }) {ob : Own} {nid : Nat} {e : Eff} (h : zerE P lk ob T tn s x nid = some e) (hob : ∀ i ∈ e.touch, own i = ob i) : Does P fr own a w pl o e := by
 unfold zerE at h
 split at h
 ·rename_i el kn kq k hT htn hs hx
  split at h
  ·rename_i i hi hnone
   split at h
   ·rename_i z hz
    split at h
    ·rename_i v hzc
     cases hc : (Nat.blt 0 k && Nat.ble k 1000 && Nat.beq i.size 1 && Nat.ble i.bytes 1000 && v.oneCell') with
     | false => rw [hc] at h; cases h
     | true =>
      rw [hc] at h
      simp only [cond_true, Option.some.injEq] at h
      subst h
      simp only [Bool.and_eq_true] at hc
      obtain ⟨⟨⟨⟨c1, c2⟩, c3⟩, c4⟩, c5⟩ := hc
      have c1 : 0 < k := by simpa using c1
      have c2 := Nat.le_of_ble_eq_true c2
      have c3 := Nat.eq_of_beq_eq_true c3
      have c4 := Nat.le_of_ble_eq_true c4
      have hvs : a.eval s = .slice none 0 0 := Rd.exact (hl [] s _ hs holds_nil hp)
      have hvx : a.eval x = .int kq (k : Int) := exO_eq hl hp holds_nil hx
      have hnx : Builtin.nextslicecap (0 + k) 0 = 0 + k := by unfold Builtin.nextslicecap; rw [if_pos (by omega)]
      have hkb : k * i.bytes ≤ 1000 * 1000 := Nat.mul_le_mul c2 c4
      have hr := Lib.run_append_grow_zeros (P := P) w T tn o.type el i z kq kn hT htn hi hz none 0 0 [] (by simp [Builtin.firstCells]) k c1 (by omega) (by omega) (by omega) (by omega) (by rw [hnx, Nat.zero_add]; omega)
      simp only [Nat.zero_add] at hr
      have hge := grownCap_ge w k 0 el
      have hcm : grownCap w k 0 el ≤ maxLen := grownCap_le_maxLen w k 0 el (by unfold maxLen; omega)
      obtain ⟨pl', m', L, hsl⟩ := m.newArr (i := nid) (e := ⟨el, []⟩) (sz := 1) (es := List.replicate k [.v v]) (by rw [hob nid (by simp)]; exact hnone)
       (w' := w.drew.alloc (.cells (([] : List Value).toArray ++ Builtin.zeroCells z.cells k ++ Builtin.zeroCells z.cells (grownCap w k 0 el - k)) el)) (A := some ⟨w.heap.size, 0, none⟩) (cap := grownCap w k 0 el) (xs := List.replicate k v)
       ⟨rfl, rfl, rfl, by simp, fun j hj _ => Below.heap_alloc w.drew _ _ hj⟩
       ⟨by simp, .inr ⟨w.heap.size, _, _, rfl, Nat.zero_le _, heap_alloc_new w.drew _, by simpa using hge, hcm, by
        simp only [Array.size_append, List.size_toArray, size_zeroCells, hzc]
        simp only [List.length_nil, List.length_cons]
        omega, by
        rw [hzc]
        simp only [Array.toList_append, zeros_one, List.nil_append]
        have : (List.replicate k [D.v v]).length * 1 = (List.replicate k v).length := by simp
        rw [this]
        exact List.take_left⟩⟩
       (fun ad had => by injection had with had; rw [← had]; exact Nat.le_refl _)
       (AllO.of ⟨by simp, fun j d y hd hy => by
        rw [flat_rep] at hd
        have h1 := List.eq_of_mem_replicate (List.mem_of_getElem? hd)
        have h2 := List.eq_of_mem_replicate (List.mem_of_getElem? hy)
        subst h1; subst h2
        exact Rd.v _ c5⟩)
       (fun ds hd => by have := List.eq_of_mem_replicate hd; subst this; rfl)
      intro K Q hK
      have hrun : (execOp a.eval o).run P w = .ok (.value (.slice (some ⟨w.heap.size, 0, none⟩) k (grownCap w k 0 el))) (w.drew.alloc (.cells (([] : List Value).toArray ++ Builtin.zeroCells z.cells k ++ Builtin.zeroCells z.cells (grownCap w k 0 el - k)) el)) := by
       unfold execOp
       simp only [hop, resolve, invoke, builtin, Sem.run_bind, Sem.run_pure, Result.andThen_ok, List.map_toArray, List.map_cons, List.map_nil, hvs, hvx, hr]
      unfold Oper.wp
      rw [hrun, Oper.upon_value]
      refine hK _ _ pl' m' L (.inr ⟨0, ⟨el, []⟩, 1, _, upd_same _ _ _, Nat.le_refl _, fun _ => ?_, rfl⟩)
      rw [hsl]
      simp
    ·cases h
   ·cases h
  ·cases h
 ·cases h
def opQ (P : Program) (lk : Lk) (ob : Own) (o : Oper) (nid : Nat) : Option Eff := match o.op with
 | .call { callee := .builtin .append, args := ⟨[s, x]⟩, argTypes := ⟨[T, tn]⟩ } => zerE P lk ob T tn s x nid
 | .slice t x lo hi none => cutE P lk ob t x lo hi
 | .binOp op t x y _ => nilZ P lk ob op t x y
 | _ => none
theorem opQ_ok (m : Mem fr own w pl) (hl : LkOk a w pl own p lk) (hp : Eng.Holds a p) {ob : Own} {nid : Nat} {e : Eff} (h : opQ P lk ob o nid = some e) (hob : ∀ i ∈ e.touch, own i = ob i) : Does P fr own a w pl o e := by
 unfold opQ at h
 split at h
 ·rename_i hop; exact zerE_ok m hl hp hop h hob
 ·rename_i hop; exact cutE_ok m hl hp hop h hob
 ·rename_i hop; exact nilZ_ok m hl hp hop h hob
 ·cases h
def sameT : Operand → Option Operand → Bool
 | .tmp a, some (.tmp b) => a == b
 | _, _ => false
def lkN (P : Program) (o : Oper) (lk : Lk) : Lk := match o.op with
 | .call { callee := .builtin .append, args := xs, argTypes := ats } => match P.underlying (ats.getD 0 0) with
  | some (.slice e) => match P.info? e with
   | some i => fun q x => match lk q x with
    | some (.c (.d (.v (.slice none 0 0)))) => bif sameT x xs[0]? then lk q x else some (.c (.d (.sl i.size [])))
    | r => r
   | none => lk
  | _ => lk
 | _ => lk
theorem lkN_ok (hl : LkOk a w pl own p lk) : LkOk a w pl own p (lkN P o lk) := by
 unfold lkN
 split
 ·split
  ·split
   ·rename_i i hi
    intro q x sv hx hq hp
    simp only at hx
    split at hx
    ·rename_i hv
     revert hx
     cases sameT x _ with
     | true => intro hx; exact hl q x _ hx hq hp
     | false =>
      intro hx
      simp only [cond_false, Option.some.injEq] at hx
      subst hx
      have := Rd.exact (hl q x _ hv hq hp)
      show Rd _ _ _ _
      rw [this]
      exact .nil _
    ·exact hl q x _ hx hq hp
   ·exact hl
  ·exact hl
 ·exact hl
end
end Go.V
