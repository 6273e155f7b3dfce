/- FnPostJoin: plain side -/
import Derived.Test.YtemnggadcgmmkaaQFnPostJoinx7
import Derived.Test.YtemnggadcgmmkaaBBase
set_option linter.unusedVariables false
set_option linter.unusedSimpArgs false
namespace Go.Proofs.Ytemnggadcgmmkaa.Pure
open Go.RowKit Go.Proofs.Ytemnggadcgmmkaa.QFnPostJoin Go.Proofs.YtemnggadcgmmkaaW.PrintWords Go.Proofs.YtemnggadcgmmkaaW.PrintLast Go.Proofs.YtemnggadcgmmkaaW.PrintMore Go.Proofs.Ytemnggadcgmmkaa.B

/-! ### AcctOk -/
/-- d letters from place i on are all letters a to z. -/
def lettersB (s : ByteArray) : Nat → Int → Bool
 | 0, _ => true
 | d + 1, i => decide (97 ≤ bt s i) && decide (bt s i ≤ 122) && lettersB s d (i + 1)
def acctB (s : ByteArray) : Bool := decide (1 ≤ s.size) && decide (s.size ≤ 4) && lettersB s s.size 0
theorem spec_AcctOk_l0 (s : ByteArray) (hs : s.size ≤ 140737488351232) : ∀ (d : Nat) (i : Int), 0 ≤ i → i + d = s.size →
  EvP (fun k => spec_AcctOk.l0 k s i) (· = (decide (1 ≤ s.size) && decide (s.size ≤ 4) && lettersB s d i)) := by
 intro d
 induction d with
 | zero =>
  intro i h0 h
  refine EvP.step (fun k => by rw [spec_AcctOk.l0]) ?_
  refine EvP.neg (by omega) ?_
  refine EvP.split (fun h => ?_) (fun h => ?_)
  ·
   refine EvP.now ?_
   have e1 : decide (1 ≤ s.size) = true := decide_eq_true (by omega)
   have e2 : decide ((s.size : Int) ≤ 4) = decide (s.size ≤ 4) := by rw [decide_eq_decide]; omega
   simp only [lettersB, e1, e2, Bool.true_and, Bool.and_true]
  ·
   refine EvP.now ?_
   have e1 : decide (1 ≤ s.size) = false := decide_eq_false (by omega)
   simp only [lettersB, e1, Bool.false_and]
 | succ d ih =>
  intro i h0 h
  refine EvP.step (fun k => by rw [spec_AcctOk.l0]) ?_
  refine EvP.pos (by omega) ?_
  refine EvP.pos (by omega) ?_
  refine EvP.split (fun h1 => EvP.now ?_) (fun h1 => EvP.split (fun h2 => EvP.now ?_) (fun h2 => ?_))
  ·
   have e1 : decide (97 ≤ bt s i) = false := decide_eq_false (by omega)
   simp [lettersB, e1]
  ·
   have e1 : decide (bt s i ≤ 122) = false := decide_eq_false (by omega)
   simp [lettersB, e1]
  ·
   rw [w64 (by omega) (by omega)]
   have e1 : decide (97 ≤ bt s i) = true := decide_eq_true (by omega)
   have e2 : decide (bt s i ≤ 122) = true := decide_eq_true (by omega)
   have := ih (i + 1) (by omega) (by omega)
   simp only [lettersB, e1, e2, Bool.true_and]
   exact this
theorem spec_AcctOk_ev (s : ByteArray) (hs : s.size ≤ 140737488351232) : EvP (fun k => spec_AcctOk.f k s) (· = acctB s) :=
 spec_AcctOk_l0 s hs s.size 0 (by omega) (by omega)
theorem impl_AcctOk_l0 (s : ByteArray) (hs : s.size ≤ 140737488351232) : ∀ (d : Nat) (i : Int), 0 ≤ i → i + d = s.size →
  EvP (fun k => impl_AcctOk.l0 k s (s.size : Int) i) (· = lettersB s d i) := by
 intro d
 induction d with
 | zero =>
  intro i h0 h
  refine EvP.step (fun k => by rw [impl_AcctOk.l0]) ?_
  refine EvP.neg (by omega) ?_
  exact EvP.now (by simp [lettersB])
 | succ d ih =>
  intro i h0 h
  refine EvP.step (fun k => by rw [impl_AcctOk.l0]) ?_
  refine EvP.pos (by omega) (EvP.pos (by omega) (EvP.pos (by omega) ?_))
  refine EvP.split (fun h1 => EvP.now ?_) (fun h1 => EvP.split (fun h2 => EvP.now ?_) (fun h2 => ?_))
  ·
   have e1 : decide (97 ≤ bt s i) = false := decide_eq_false (by omega)
   simp [lettersB, e1]
  ·
   have e1 : decide (bt s i ≤ 122) = false := decide_eq_false (by omega)
   simp [lettersB, e1]
  ·
   rw [w64 (by omega) (by omega)]
   have e1 : decide (97 ≤ bt s i) = true := decide_eq_true (by omega)
   have e2 : decide (bt s i ≤ 122) = true := decide_eq_true (by omega)
   have := ih (i + 1) (by omega) (by omega)
   simp only [lettersB, e1, e2, Bool.true_and]
   exact this
theorem impl_AcctOk_ev (s : ByteArray) (hs : s.size ≤ 140737488351232) : EvP (fun k => impl_AcctOk.f k s) (· = acctB s) := by
 unfold impl_AcctOk.f acctB
 refine EvP.split (fun h => ?_) (fun h => ?_)
 ·
  refine EvP.step (fun k => by rw [impl_AcctOk.j0]) (EvP.pos rfl (EvP.now ?_))
  have e1 : decide (1 ≤ s.size) = false := decide_eq_false (by omega)
  simp [e1]
 ·
  have e1 : decide (1 ≤ s.size) = true := decide_eq_true (by omega)
  refine EvP.step (fun k => by rw [impl_AcctOk.j0]) (EvP.split (fun h1 => EvP.now ?_) (fun h1 => ?_))
  ·
   have := of_decide_eq_true h1
   have e2 : decide (s.size ≤ 4) = false := decide_eq_false (by omega)
   simp [e2]
  ·
   have : ¬ (s.size : Int) > 4 := fun h => h1 (decide_eq_true h)
   have e2 : decide (s.size ≤ 4) = true := decide_eq_true (by omega)
   simp only [e1, e2, Bool.true_and]
   exact impl_AcctOk_l0 s hs s.size 0 (by omega) (by omega)

/-! ### LegOk -/
def legB (a : ByteArray) (c n : Int) : Bool := acctB a && decide (1 ≤ c) && decide (c ≤ 3) && decide (-1000 ≤ n) && decide (n ≤ 1000) && (n != 0)
theorem spec_LegOk_ev (a : ByteArray) (c n : Int) (hs : a.size ≤ 140737488351232) : EvP (fun k => spec_LegOk.f k a c n) (· = legB a c n) := by
 unfold spec_LegOk.f
 refine EvP.bind (spec_AcctOk_ev a hs) ?_
 rintro _ rfl
 cases hA : acctB a
 ·
  exact EvP.neg (by simp) (EvP.now (by simp [legB, hA]))
 ·
  refine EvP.pos rfl ?_
  repeat' with_reducible refine EvP.split (fun _ => ?_) (fun _ => ?_)
  all_goals
   refine EvP.now ?_
   simp [legB, hA]
   try omega
theorem impl_LegOk_ev (a : ByteArray) (c n : Int) (hs : a.size ≤ 140737488351232) : EvP (fun k => impl_LegOk.f k a c n) (· = legB a c n) := by
 unfold impl_LegOk.f
 refine EvP.bind (impl_AcctOk_ev a hs) ?_
 rintro _ rfl
 cases hA : acctB a
 ·
  exact EvP.neg (by simp) (EvP.now (by simp [legB, hA]))
 ·
  refine EvP.pos rfl ?_
  repeat' with_reducible refine EvP.split (fun _ => ?_) (fun _ => ?_)
  all_goals
   refine EvP.now ?_
   simp [legB, hA]
   try omega

/-! ### PostOk -/
theorem rd_midL (pre rest : List S29) (x : S29) : rd_T29 (pre ++ x :: rest) (pre.length : Int) = x := by simp [rd_T29]
def legOkB (x : S29) : Bool := legB x.f0 x.f1 x.f2
def headB (id : Int) (xs : List S29) : Bool := decide (0 ≤ id) && decide (id ≤ 99) && decide (1 ≤ xs.length) && decide (xs.length ≤ 4)
def postB (id : Int) (xs : List S29) : Bool := headB id xs && xs.all legOkB
/-- Legs whose texts are no longer than texts are. -/
def Sound (xs : List S29) : Prop := ∀ x ∈ xs, x.f0.size ≤ 140737488351232
theorem spec_PostOk_l0 (id : Int) (xs : List S29) (hx : Sound xs) (h4 : xs.length ≤ 4) : ∀ (rest pre : List S29), xs = pre ++ rest → EvP (fun k => spec_PostOk.l0 k (pre.length : Int) id xs) (· = rest.all legOkB) := by
 intro rest
 induction rest with
 | nil =>
  intro pre e
  refine EvP.step (fun k => by rw [spec_PostOk.l0]) ?_
  exact EvP.neg (by simp [e]) (EvP.now rfl)
 | cons x rest ih =>
  intro pre e
  have hl : xs.length = pre.length + (rest.length + 1) := by rw [e]; simp
  refine EvP.step (fun k => by rw [spec_PostOk.l0]) (EvP.pos (by omega) (EvP.pos (by omega) ?_))
  have hr : rd_T29 xs (pre.length : Int) = x := by rw [e]; exact rd_midL pre rest x
  rw [hr]
  have e2 : wrap64 ((pre.length : Int) + 1) = ((pre ++ [x]).length : Int) := by rw [w64 (by omega) (by omega)]; simp
  refine EvP.bind (spec_LegOk_ev x.f0 x.f1 x.f2 (hx x (by rw [e]; simp))) ?_
  rintro _ rfl
  have step := ih (pre ++ [x]) (by rw [e]; simp)
  rw [e2]
  cases hb : legB x.f0 x.f1 x.f2
  ·
   exact EvP.neg (by simp) (EvP.now (by simp [legOkB, hb]))
  ·
   refine EvP.pos rfl (step.mono ?_)
   rintro _ rfl
   simp [legOkB, hb]
theorem spec_PostOk_ev (id : Int) (xs : List S29) (hx : Sound xs) : EvP (fun k => spec_PostOk.f k id xs) (· = postB id xs) := by
 unfold spec_PostOk.f
 refine EvP.split (fun h => ?_) (fun h1 => EvP.split (fun h => ?_) (fun h2 => EvP.split (fun h => ?_) (fun h3 => ?_)))
 ·
  refine EvP.step (fun k => by rw [spec_PostOk.j0]) (EvP.pos rfl (EvP.now ?_))
  have e : decide (0 ≤ id) = false := decide_eq_false (by omega)
  simp [postB, headB, e]
 ·
  refine EvP.step (fun k => by rw [spec_PostOk.j0]) (EvP.pos rfl (EvP.now ?_))
  have e : decide (id ≤ 99) = false := decide_eq_false (by omega)
  simp [postB, headB, e]
 ·
  refine EvP.step (fun k => by rw [spec_PostOk.j0]) (EvP.pos rfl (EvP.now ?_))
  have e : decide (1 ≤ xs.length) = false := decide_eq_false (by omega)
  simp [postB, headB, e]
 ·
  refine EvP.step (fun k => by rw [spec_PostOk.j0]) (EvP.split (fun h => EvP.now ?_) (fun h => ?_))
  ·
   have := of_decide_eq_true h
   have e : decide (xs.length ≤ 4) = false := decide_eq_false (by omega)
   simp [postB, headB, e]
  ·
   have h4 : ¬ (xs.length : Int) > 4 := fun g => h (decide_eq_true g)
   have e1 : decide (0 ≤ id) = true := decide_eq_true (by omega)
   have e2 : decide (id ≤ 99) = true := decide_eq_true (by omega)
   have e3 : decide (1 ≤ xs.length) = true := decide_eq_true (by omega)
   have e4 : decide (xs.length ≤ 4) = true := decide_eq_true (by omega)
   simp only [postB, headB, e1, e2, e3, e4, Bool.true_and]
   exact spec_PostOk_l0 id xs hx (by omega) xs [] rfl
theorem impl_PostOk_l0 (xs : List S29) (hx : Sound xs) (h4 : xs.length ≤ 4) : ∀ (rest pre : List S29), xs = pre ++ rest → EvP (fun k => impl_PostOk.l0 k xs (xs.length : Int) (pre.length : Int)) (· = rest.all legOkB) := by
 intro rest
 induction rest with
 | nil =>
  intro pre e
  refine EvP.step (fun k => by rw [impl_PostOk.l0]) ?_
  exact EvP.neg (by simp [e]) (EvP.now rfl)
 | cons x rest ih =>
  intro pre e
  have hl : xs.length = pre.length + (rest.length + 1) := by rw [e]; simp
  refine EvP.step (fun k => by rw [impl_PostOk.l0]) (EvP.pos (by omega) (EvP.pos (by omega) (EvP.pos (by omega) ?_)))
  have hr : rd_T29 xs (pre.length : Int) = x := by rw [e]; exact rd_midL pre rest x
  rw [hr]
  have e2 : wrap64 ((pre.length : Int) + 1) = ((pre ++ [x]).length : Int) := by rw [w64 (by omega) (by omega)]; simp
  refine EvP.bind (impl_LegOk_ev x.f0 x.f1 x.f2 (hx x (by rw [e]; simp))) ?_
  rintro _ rfl
  have step := ih (pre ++ [x]) (by rw [e]; simp)
  rw [e2]
  cases hb : legB x.f0 x.f1 x.f2
  ·
   exact EvP.neg (by simp) (EvP.now (by simp [legOkB, hb]))
  ·
   refine EvP.pos rfl (step.mono ?_)
   rintro _ rfl
   simp [legOkB, hb]
theorem impl_PostOk_ev (id : Int) (xs : List S29) (hx : Sound xs) : EvP (fun k => impl_PostOk.f k id xs) (· = postB id xs) := by
 unfold impl_PostOk.f
 refine EvP.split (fun h => ?_) (fun h1 => EvP.split (fun h => ?_) (fun h2 => EvP.split (fun h => ?_) (fun h3 => ?_)))
 ·
  refine EvP.step (fun k => by rw [impl_PostOk.j0]) (EvP.pos rfl (EvP.now ?_))
  have e : decide (0 ≤ id) = false := decide_eq_false (by omega)
  simp [postB, headB, e]
 ·
  refine EvP.step (fun k => by rw [impl_PostOk.j0]) (EvP.pos rfl (EvP.now ?_))
  have e : decide (id ≤ 99) = false := decide_eq_false (by omega)
  simp [postB, headB, e]
 ·
  refine EvP.step (fun k => by rw [impl_PostOk.j0]) (EvP.pos rfl (EvP.now ?_))
  have e : decide (1 ≤ xs.length) = false := decide_eq_false (by omega)
  simp [postB, headB, e]
 ·
  refine EvP.step (fun k => by rw [impl_PostOk.j0]) (EvP.split (fun h => EvP.now ?_) (fun h => ?_))
  ·
   have := of_decide_eq_true h
   have e : decide (xs.length ≤ 4) = false := decide_eq_false (by omega)
   simp [postB, headB, e]
  ·
   have h4 : ¬ (xs.length : Int) > 4 := fun g => h (decide_eq_true g)
   have e1 : decide (0 ≤ id) = true := decide_eq_true (by omega)
   have e2 : decide (id ≤ 99) = true := decide_eq_true (by omega)
   have e3 : decide (1 ≤ xs.length) = true := decide_eq_true (by omega)
   have e4 : decide (xs.length ≤ 4) = true := decide_eq_true (by omega)
   simp only [postB, headB, e1, e2, e3, e4, Bool.true_and]
   exact impl_PostOk_l0 xs hx (by omega) xs [] rfl

/-! ### PostSum -/
def sumB (id : Int) (xs : List S29) (cur : Int) : Int := sumLegs cur (selLegs (postB id xs) xs)
theorem impl_PostSum_ev (id : Int) (xs : List S29) (cur : Int) (hx : Sound xs) : EvP (fun k => impl_PostSum.f k id xs cur) (· = sumB id xs cur) := by
 unfold impl_PostSum.f
 refine EvP.bind (impl_PostOk_ev id xs hx) ?_
 rintro _ rfl
 exact EvP.now rfl

/-! ### PostTo -/
theorem spec_l1To_l0 (acct : ByteArray) (cur id : Int) (xs : List S29) (h4 : xs.length ≤ 1048576) : ∀ (rest pre : List S29), xs = pre ++ rest → EvP (fun k => spec_l1To.l0 k acct cur (sumTo acct cur pre) (pre.length : Int) id xs) (· = sumTo acct cur xs) := by
 intro rest
 induction rest with
 | nil =>
  intro pre e
  refine EvP.step (fun k => by rw [spec_l1To.l0]) ?_
  exact EvP.neg (by simp [e]) (EvP.now (by simp [e]))
 | cons x rest ih =>
  intro pre e
  have hl : xs.length = pre.length + (rest.length + 1) := by rw [e]; simp
  refine EvP.step (fun k => by rw [spec_l1To.l0]) (EvP.pos (by omega) (EvP.pos (by omega) ?_))
  have hr : rd_T29 xs (pre.length : Int) = x := by rw [e]; exact rd_midL pre rest x
  rw [hr]
  have e2 : wrap64 ((pre.length : Int) + 1) = ((pre ++ [x]).length : Int) := by rw [w64 (by omega) (by omega)]; simp
  have step := ih (pre ++ [x]) (by rw [e]; simp)
  rw [sumTo_snoc] at step
  rw [e2]
  refine EvP.split (fun h => EvP.split (fun h' => ?_) (fun h' => ?_)) (fun h => ?_)
  ·
   rw [if_pos ⟨h, h'⟩] at step
   exact step
  ·
   rw [if_neg (fun g => h' g.2)] at step
   exact step
  ·
   rw [if_neg (fun g => h g.1)] at step
   exact step
theorem spec_l1To_ev (id : Int) (xs : List S29) (acct : ByteArray) (cur : Int) (h4 : xs.length ≤ 1048576) : EvP (fun k => spec_l1To.f k id xs acct cur) (· = sumTo acct cur xs) :=
 spec_l1To_l0 acct cur id xs h4 xs [] rfl
def toB (id : Int) (xs : List S29) (acct : ByteArray) (cur : Int) : Int := sumTo acct cur (selLegs (postB id xs) xs)
theorem spec_PostTo_ev (id : Int) (xs : List S29) (acct : ByteArray) (cur : Int) (hx : Sound xs) (h4 : xs.length ≤ 1048576) : EvP (fun k => spec_PostTo.f k id xs acct cur) (· = toB id xs acct cur) := by
 unfold spec_PostTo.f
 refine EvP.bind (spec_PostOk_ev id xs hx) ?_
 rintro _ rfl
 cases hb : postB id xs
 ·
  exact EvP.neg (by simp) (EvP.now (by simp [toB, hb, selLegs, sumTo]))
 ·
  refine EvP.pos rfl (EvP.bind (spec_l1To_ev id xs acct cur h4) ?_)
  rintro _ rfl
  exact EvP.now (by simp [toB, hb, selLegs])
theorem impl_PostTo_ev (id : Int) (xs : List S29) (acct : ByteArray) (cur : Int) (hx : Sound xs) (h4 : xs.length ≤ 1048576) (ha : acct.size ≤ 140737488351232) : EvP (fun k => impl_PostTo.f k id xs acct cur) (· = toB id xs acct cur) := by
 unfold impl_PostTo.f
 refine EvP.bind (impl_PostOk_ev id xs hx) ?_
 rintro _ rfl
 exact EvP.pos ⟨fun x h => by have := hx x h; omega, by omega, h4⟩ (EvP.now rfl)

/-! ### PostFair -/
def fairB (id : Int) (xs : List S29) : Bool := postB id xs && decide (sumB id xs 1 = 0) && decide (sumB id xs 2 = 0) && decide (sumB id xs 3 = 0)
theorem impl_PostFair_ev (id : Int) (xs : List S29) (hx : Sound xs) : EvP (fun k => impl_PostFair.f k id xs) (· = fairB id xs) := by
 unfold impl_PostFair.f fairB
 have w2 : wrap64 (1 + 1) = 2 := (w64 (by omega) (by omega)).trans rfl
 have w3 : wrap64 (2 + 1) = 3 := (w64 (by omega) (by omega)).trans rfl
 have w4 : wrap64 (3 + 1) = 4 := (w64 (by omega) (by omega)).trans rfl
 refine EvP.bind (impl_PostOk_ev id xs hx) ?_
 rintro _ rfl
 refine EvP.split (fun h0 => ?_) (fun h0 => EvP.now (by simp [h0]))
 refine EvP.step (fun k => by rw [impl_PostFair.l0]) (EvP.pos (by omega) (EvP.bind (impl_PostSum_ev id xs 1 hx) ?_))
 rintro _ rfl
 rw [w2]
 refine EvP.split (fun h1 => ?_) (fun h1 => EvP.now (by simp [h1]))
 refine EvP.step (fun k => by rw [impl_PostFair.l0]) (EvP.pos (by omega) (EvP.bind (impl_PostSum_ev id xs 2 hx) ?_))
 rintro _ rfl
 rw [w3]
 refine EvP.split (fun h2 => ?_) (fun h2 => EvP.now (by simp [h2]))
 refine EvP.step (fun k => by rw [impl_PostFair.l0]) (EvP.pos (by omega) (EvP.bind (impl_PostSum_ev id xs 3 hx) ?_))
 rintro _ rfl
 rw [w4]
 refine EvP.split (fun h3 => ?_) (fun h3 => EvP.now (by simp [h3]))
 refine EvP.step (fun k => by rw [impl_PostFair.l0]) ?_
 refine EvP.neg (by omega) (EvP.now ?_)
 simp [h0, h1, h2, h3]

/-! ### The reader of draws -/
/-- Bytes, at most 2000 of them. -/
structure Bytes (l : List Int) : Prop where
 len : l.length ≤ 2000
 lo : ∀ j, 0 ≤ rd l j
 hi : ∀ j, rd l j ≤ 255
theorem rd_range {l : List Int} (h : ∀ x ∈ l, 0 ≤ x ∧ x ≤ 255) (j : Int) : 0 ≤ rd l j ∧ rd l j ≤ 255 := by
 unfold rd
 rw [List.getD_eq_getElem?_getD]
 rcases Nat.lt_or_ge j.toNat l.length with hj | hj
 ·
  rw [List.getElem?_eq_getElem hj]
  exact h _ (List.getElem_mem hj)
 ·
  rw [List.getElem?_eq_none hj]
  simp
theorem u8_range {l : List Int} (h : ∀ x ∈ l, (Lit.int .u8 x).wf = true) : ∀ x ∈ l, 0 ≤ x ∧ x ≤ 255 := by
 intro x hx
 have := h x hx
 simp [Lit.wf, IntKind.min, IntKind.max, IntKind.signed, IntKind.bits] at this
 omega
theorem spec_l9Open_ev (l : List Int) (h : ∀ x ∈ l, (Lit.int .u8 x).wf = true) : EvP (fun _ => spec_l9Open.f l) (fun r => Bytes r.1 ∧ r.2 = 0) := by
 unfold spec_l9Open.f
 have hu := u8_range h
 refine EvP.split (fun h1 => EvP.pos (by omega) (EvP.now ⟨⟨?_, fun j => ?_, fun j => ?_⟩, rfl⟩)) (fun h1 => EvP.now ⟨⟨?_, fun j => ?_, fun j => ?_⟩, rfl⟩)
 ·
  simp; omega
 ·
  exact (rd_range (fun x hx => hu x (List.mem_of_mem_take hx)) j).1
 ·
  exact (rd_range (fun x hx => hu x (List.mem_of_mem_take hx)) j).2
 ·
  show l.length ≤ 2000
  omega
 ·
  exact (rd_range hu j).1
 ·
  exact (rd_range hu j).2
theorem xor_nonneg (x y : Int) (h0 : 0 ≤ x) (h1 : x < 2 ^ 62) (h2 : 0 ≤ y) (h3 : y < 2 ^ 62) : 0 ≤ bits .xor .i64 x y := by
 obtain ⟨a, rfl⟩ := Int.eq_ofNat_of_zero_le h0
 obtain ⟨b, rfl⟩ := Int.eq_ofNat_of_zero_le h2
 rw [xor64 a b (by omega) (by omega)]
 exact Int.natCast_nonneg _
/-- What a pick gives: one place on; a number below n, or 0. -/
def Picked (p n : Int) (r : Int × Int) : Prop := r.2 = p + 1 ∧ 0 ≤ r.1 ∧ (1 ≤ n → r.1 < n) ∧ (n < 1 → r.1 = 0)
theorem picked_mod {p n x : Int} (hn : ¬ n < 1) (hx : 0 ≤ x) : Picked p n (Int.tmod x n, p + 1) :=
 ⟨rfl, Int.tmod_nonneg _ hx, fun _ => Int.tmod_lt_of_pos _ (by omega), fun h => absurd h hn⟩
theorem spec_l9Rd_pick_ev (l : List Int) (hl : Bytes l) (p n : Int) (h0 : 0 ≤ p) (h1 : p ≤ 1000000000000) : EvP (fun k => spec_l9Rd_pick.f k l p n) (Picked p n) := by
 unfold spec_l9Rd_pick.f
 have e1 : wrap64 (p + 1) = p + 1 := w64 (by omega) (by omega)
 have e2 : wrap64 (p + 1 - 1) = p := by rw [w64 (by omega) (by omega)]; omega
 rw [e1]
 refine EvP.split (fun h => ?_) (fun hn => ?_)
 ·
  refine EvP.step (fun k => by rw [spec_l9Rd_pick.j0]) (EvP.pos rfl (EvP.now ?_))
  exact ⟨rfl, Int.le_refl _, fun h' => absurd h (by omega), fun _ => rfl⟩
 ·
  refine EvP.step (fun k => by rw [spec_l9Rd_pick.j0]) (EvP.split (fun h => EvP.now ?_) (fun hz => ?_))
  ·
   exact ⟨rfl, Int.le_refl _, fun h' => by show (0 : Int) < n; omega, fun _ => rfl⟩
  ·
   have hz' : ¬ (l.length : Int) = 0 := fun h => hz (by simp [h])
   have hpos : 0 < (l.length : Int) := by omega
   have hlen : (l.length : Int) ≤ 2000 := by have := hl.len; omega
   rw [e2]
   refine EvP.split (fun h => EvP.pos h0 (EvP.neg (by omega) (EvP.now ?_))) (fun h => EvP.neg hz' ?_)
   ·
    have := hl.lo p
    have := hl.hi p
    rw [w64 (by omega) (by omega)]
    exact picked_mod hn (by omega)
   ·
    have a0 : 0 ≤ Int.tmod p (l.length : Int) := Int.tmod_nonneg _ h0
    have a1 : Int.tmod p (l.length : Int) < (l.length : Int) := Int.tmod_lt_of_pos _ hpos
    have e7 : wrap64 (wrap64 (p * 7) + 3) = p * 7 + 3 := by rw [w64 (x := p * 7) (by omega) (by omega), w64 (by omega) (by omega)]
    have c0 : 0 ≤ Int.tmod (p * 7 + 3) (l.length : Int) := Int.tmod_nonneg _ (by omega)
    have c1 : Int.tmod (p * 7 + 3) (l.length : Int) < (l.length : Int) := Int.tmod_lt_of_pos _ hpos
    rw [e7]
    refine EvP.pos a0 (EvP.pos a1 (EvP.pos c0 (EvP.pos c1 (EvP.neg (by omega) (EvP.now ?_)))))
    have b0 := hl.lo (Int.tmod p (l.length : Int))
    have b1 := hl.hi (Int.tmod p (l.length : Int))
    have d0 := hl.lo (Int.tmod (p * 7 + 3) (l.length : Int))
    have d1 := hl.hi (Int.tmod (p * 7 + 3) (l.length : Int))
    have q0 : 0 ≤ Int.tdiv p (l.length : Int) := Int.tdiv_nonneg h0 (by omega)
    have q1 : Int.tdiv p (l.length : Int) ≤ p := by
     rw [Int.tdiv_eq_ediv_of_nonneg h0]
     exact Int.ediv_le_self _ h0
    refine picked_mod hn ?_
    generalize Int.tdiv p (l.length : Int) = q at q0 q1 ⊢
    generalize rd l (Int.tmod p (l.length : Int)) = b at b0 b1 ⊢
    generalize rd l (Int.tmod (p * 7 + 3) (l.length : Int)) = d at d0 d1 ⊢
    have f1 : wrap64 b = b := w64 (by omega) (by omega)
    have f2 : wrap64 d = d := w64 (by omega) (by omega)
    have f3 : wrap64 q = q := w64 (by omega) (by omega)
    have f4 : wrap64 (b * 131) = b * 131 := w64 (by omega) (by omega)
    have f5 : wrap64 (d * 1117) = d * 1117 := w64 (by omega) (by omega)
    have f6 : wrap64 (p * 29) = p * 29 := w64 (by omega) (by omega)
    have f7 : wrap64 (q * 53) = q * 53 := w64 (by omega) (by omega)
    have f8 : wrap64 (b * 131 + d * 1117) = b * 131 + d * 1117 := w64 (by omega) (by omega)
    have f9 : wrap64 (b * 131 + d * 1117 + p * 29) = b * 131 + d * 1117 + p * 29 := w64 (by omega) (by omega)
    have f10 : wrap64 (b * 131 + d * 1117 + p * 29 + q * 53) = b * 131 + d * 1117 + p * 29 + q * 53 := w64 (by omega) (by omega)
    rw [f1, f2, f3, f4, f5, f6, f7, f8, f9, f10]
    have g0 : 0 ≤ b * 131 + d * 1117 + p * 29 + q * 53 := by omega
    have g1 : b * 131 + d * 1117 + p * 29 + q * 53 < 2 ^ 62 := by omega
    generalize b * 131 + d * 1117 + p * 29 + q * 53 = x at g0 g1 ⊢
    have g2 : Int.tdiv x 64 = x / 64 := Int.tdiv_eq_ediv_of_nonneg g0
    rw [g2, w64 (x := x / 64) (by omega) (by omega)]
    exact xor_nonneg _ _ g0 g1 (by omega) (by omega)
/-- One of a list of texts. -/
theorem spec_l9Rd_of_ev (l : List Int) (hl : Bytes l) (p : Int) (xs : List ByteArray) (hx : 0 < xs.length) (h0 : 0 ≤ p) (h1 : p ≤ 1000000000000) : EvP (fun k => spec_l9Rd_of.f k l p xs) (fun r => r.2 = p + 1 ∧ r.1 ∈ xs) := by
 unfold spec_l9Rd_of.f
 refine EvP.bind (spec_l9Rd_pick_ev l hl p _ h0 h1) ?_
 rintro ⟨i, q⟩ ⟨hq, hi, hlt, _⟩
 have := hlt (by omega)
 simp only at hq hi this
 refine EvP.pos hi (EvP.pos this (EvP.now ⟨hq, ?_⟩))
 show xs.getD i.toNat ByteArray.empty ∈ xs
 rw [List.getD_eq_getElem?_getD, List.getElem?_eq_getElem (by omega)]
 exact List.getElem_mem _

/-- One of a list of numbers. -/
theorem spec_l9Rd_num_ev (l : List Int) (hl : Bytes l) (p : Int) (xs : List Int) (hx : 0 < xs.length) (h0 : 0 ≤ p) (h1 : p ≤ 1000000000000) : EvP (fun k => spec_l9Rd_num.f k l p xs) (fun r => r.2 = p + 1 ∧ r.1 ∈ xs) := by
 unfold spec_l9Rd_num.f
 refine EvP.bind (spec_l9Rd_pick_ev l hl p _ h0 h1) ?_
 rintro ⟨i, q⟩ ⟨hq, hi, hlt, _⟩
 have := hlt (by omega)
 simp only at hq hi this
 refine EvP.pos hi (EvP.pos this (EvP.now ⟨hq, ?_⟩))
 show xs.getD i.toNat 0 ∈ xs
 rw [List.getD_eq_getElem?_getD, List.getElem?_eq_getElem (by omega)]
 exact List.getElem_mem _

/-! ### Draws of postings -/
/-- All texts that a drawn leg's account may be. -/
def names1 : List ByteArray := [⟨#[97]⟩, ⟨#[98]⟩, ⟨#[97, 98]⟩, ⟨#[99]⟩, ⟨#[99, 97, 115, 104]⟩, ⟨#[97, 97]⟩, ⟨#[]⟩, ⟨#[65]⟩, ⟨#[97, 98, 99, 100, 101]⟩, ⟨#[97, 32, 98]⟩, ⟨#[97, 58]⟩]
theorem names1_small (u : ByteArray) (h : u ∈ names1) : u.size ≤ 5 := by
 simp only [names1, List.mem_cons, List.not_mem_nil, or_false] at h
 rcases h with rfl | rfl | rfl | rfl | rfl | rfl | rfl | rfl | rfl | rfl | rfl <;> simp [ByteArray.size]
theorem names1_none (u : ByteArray) (h : u ∈ names1) : u.toList ≠ (⟨#[110, 111, 110, 101]⟩ : ByteArray).toList := by
 simp only [names1, List.mem_cons, List.not_mem_nil, or_false] at h
 intro e
 rcases h with rfl | rfl | rfl | rfl | rfl | rfl | rfl | rfl | rfl | rfl | rfl <;> simp [ByteArray.toList_eq] at e
/-- Legs that are few, of drawn accounts. -/
structure Few (n : Nat) (xs : List S29) : Prop where
 len : xs.length ≤ n
 names : ∀ x ∈ xs, x.f0 ∈ names1
theorem Few.sound {n : Nat} {xs : List S29} (h : Few n xs) : ∀ x ∈ xs, x.f0.size ≤ 140737488351232 := fun x hx => by have := names1_small _ (h.names x hx); omega
theorem Few.set {n : Nat} {xs : List S29} (h : Few n xs) (i : Nat) (x : S29) (hx : x.f0 ∈ names1) : Few n (xs.set i x) :=
 ⟨by rw [List.length_set]; exact h.len, fun y hy => by
  rcases List.mem_or_eq_of_mem_set hy with hy | rfl
  ·
   exact h.names y hy
  ·
   exact hx⟩
theorem Few.snoc {n : Nat} {xs : List S29} (h : Few n xs) (hl : xs.length < n) (x : S29) (hx : x.f0 ∈ names1) : Few n (xs ++ [x]) :=
 ⟨by simp; omega, fun y hy => by
  rcases List.mem_append.1 hy with hy | hy
  ·
   exact h.names y hy
  ·
   obtain rfl := List.mem_singleton.1 hy
   exact hx⟩
theorem rd_mem {xs : List S29} {i : Int} (h0 : 0 ≤ i) (h1 : i < (xs.length : Int)) : rd_T29 xs i ∈ xs := by
 have hi : i.toNat < xs.length := by omega
 have e : rd_T29 xs i = xs[i.toNat] := by simp [rd_T29, List.getD_eq_getElem?_getD, List.getElem?_eq_getElem hi]
 rw [e]
 exact List.getElem_mem hi
theorem spec_l1Acct_ev (l : List Int) (hl : Bytes l) (p : Int) (h0 : 0 ≤ p) (h1 : p ≤ 900000000000) : EvP (fun k => spec_l1Acct.f k l p) (fun r => r.2 = p + 1 ∧ r.1 ∈ names1) := by
 unfold spec_l1Acct.f
 refine EvP.bind (spec_l9Rd_of_ev l hl p _ (by simp) h0 (by omega)) ?_
 rintro ⟨x, q⟩ ⟨hq, hx⟩
 refine EvP.now ⟨hq, ?_⟩
 simp only [List.mem_cons, List.not_mem_nil, or_false] at hx
 simp only [names1, List.mem_cons, List.not_mem_nil, or_false]
 rcases hx with rfl | rfl | rfl | rfl | rfl | rfl <;> simp
/-- What a drawn posting is like. -/
structure DrawnP (n : Nat) (p d : Int) (r : Int × List S29 × Int) : Prop where
 few : Few n r.2.1
 lo : p ≤ r.2.2
 hi : r.2.2 ≤ p + d
theorem two_few (a b : ByteArray) (c c' n n' : Int) (ha : a ∈ names1) (hb : b ∈ names1) : Few 5 ([⟨a, c, n⟩, ⟨b, c', n'⟩] : List S29) :=
 ⟨by simp, fun x hx => by
  simp only [List.mem_cons, List.not_mem_nil, or_false] at hx
  rcases hx with rfl | rfl
  ·
   exact ha
  ·
   exact hb⟩
theorem spec_l1Post_ev (l : List Int) (hl : Bytes l) (p : Int) (h0 : 0 ≤ p) (h1 : p ≤ 800000000000) : EvP (fun k => spec_l1Post.f k l p) (DrawnP 5 p 9) := by
 unfold spec_l1Post.f
 refine EvP.bind (spec_l9Rd_pick_ev l hl p _ h0 (by omega)) ?_
 rintro ⟨id, p1⟩ ⟨hp1, hid0, hid1, _⟩
 simp only at hp1 hid0 hid1
 refine EvP.bind (spec_l9Rd_num_ev l hl p1 _ (by simp) (by omega) (by omega)) ?_
 rintro ⟨n, p2⟩ ⟨hp2, hn⟩
 simp only at hp2 hn
 refine EvP.bind (spec_l9Rd_pick_ev l hl p2 _ (by omega) (by omega)) ?_
 rintro ⟨c, p3⟩ ⟨hp3, _⟩
 simp only at hp3
 refine EvP.bind (spec_l1Acct_ev l hl p3 (by omega) (by omega)) ?_
 rintro ⟨a, p4⟩ ⟨hp4, ha⟩
 simp only at hp4 ha
 refine EvP.bind (spec_l1Acct_ev l hl p4 (by omega) (by omega)) ?_
 rintro ⟨b, p5⟩ ⟨hp5, hb⟩
 simp only at hp5 hb
 refine EvP.bind (P := (· = _)) (EvP.now rfl) ?_
 rintro _ rfl
 have h2 := two_few a b (wrap64 (1 + c)) (wrap64 (1 + c)) n (wrap64 (-n)) ha hb
 refine EvP.bind (spec_l9Rd_pick_ev l hl p5 _ (by omega) (by omega)) ?_
 rintro ⟨w, p6⟩ ⟨hp6, _⟩
 simp only at hp6
 refine EvP.split (fun _ => ?_) (fun _ => EvP.split (fun _ => ?_) (fun _ => EvP.now ⟨h2, by show p ≤ p6; omega, by show p6 ≤ p + 9; omega⟩))
 ·
  refine EvP.bind (spec_l9Rd_pick_ev l hl p6 _ (by omega) (by omega)) ?_
  rintro ⟨d, p7⟩ ⟨hp7, _⟩
  simp only at hp7
  refine EvP.bind (spec_l1Acct_ev l hl p7 (by omega) (by omega)) ?_
  rintro ⟨e, p8⟩ ⟨hp8, he⟩
  simp only at hp8 he
  refine EvP.bind (spec_l1Acct_ev l hl p8 (by omega) (by omega)) ?_
  rintro ⟨f, p9⟩ ⟨hp9, hf⟩
  simp only at hp9 hf
  refine EvP.bind (P := (· = _)) (EvP.now rfl) ?_
  rintro _ rfl
  refine EvP.pos (by simp) (EvP.now ⟨⟨by simp, fun x hx => ?_⟩, by show p ≤ p9; omega, by show p9 ≤ p + 9; omega⟩)
  simp only [List.mem_cons, List.not_mem_nil, or_false, List.mem_append] at hx
  rcases hx with (rfl | rfl) | (rfl | rfl)
  ·
   exact ha
  ·
   exact hb
  ·
   exact he
  ·
   exact hf
 ·
  refine EvP.split (fun _ => EvP.pos (by simp) ?_) (fun _ => EvP.now ⟨h2, by show p ≤ p6; omega, by show p6 ≤ p + 9; omega⟩)
  refine EvP.bind (P := (· = _)) (EvP.now rfl) ?_
  rintro _ rfl
  refine EvP.bind (spec_l1Acct_ev l hl p6 (by omega) (by omega)) ?_
  rintro ⟨e, p7⟩ ⟨hp7, he⟩
  simp only at hp7 he
  refine EvP.pos (by simp) (EvP.now ⟨Few.snoc (h2.set _ _ ?_) (by simp) _ he, by show p ≤ p7; omega, by show p7 ≤ p + 9; omega⟩)
  have hm : rd_T29 ([⟨a, wrap64 (1 + c), n⟩, ⟨b, wrap64 (1 + c), wrap64 (-n)⟩] : List S29) 1 ∈ ([⟨a, wrap64 (1 + c), n⟩, ⟨b, wrap64 (1 + c), wrap64 (-n)⟩] : List S29) := rd_mem (by omega) (by simp)
  have h3 := h2.names _ hm
  exact h3
theorem spec_l1Bent_l0 (l : List Int) (hl : Bytes l) (n : Nat) (hn : 5 ≤ n) (hn' : n ≤ 1000) (id : Int) : ∀ (d : Nat) (p : Int) (xs : List S29), Few n xs → 0 < xs.length → 5 ≤ xs.length + d → d ≤ 5 → 0 ≤ p → p + d ≤ 900000000000 → EvP (fun k => spec_l1Bent.l0 k l p id xs) (DrawnP n p (d + 1)) := by
 intro d
 induction d with
 | zero =>
  intro p xs hx h1 h5 _ h0 hp
  refine EvP.step (fun k => by rw [spec_l1Bent.l0]) ?_
  refine EvP.bind (spec_l9Rd_pick_ev l hl p _ h0 (by omega)) ?_
  rintro ⟨v, p1⟩ ⟨hp1, hv0, hv1, _⟩
  simp only at hp1 hv0 hv1
  have hv := hv1 (by omega)
  rw [w64 (x := 4 + v) (by omega) (by omega)]
  exact EvP.neg (by omega) (EvP.now ⟨hx, by show p ≤ p1; omega, by show p1 ≤ _; omega⟩)
 | succ d ih =>
  intro p xs hx h1 h5 hd h0 hp
  refine EvP.step (fun k => by rw [spec_l1Bent.l0]) ?_
  refine EvP.bind (spec_l9Rd_pick_ev l hl p _ h0 (by omega)) ?_
  rintro ⟨v, p1⟩ ⟨hp1, hv0, hv1, _⟩
  simp only at hp1 hv0 hv1
  have hv := hv1 (by omega)
  rw [w64 (x := 4 + v) (by omega) (by omega)]
  refine EvP.split (fun hlt => EvP.pos (by omega) (EvP.pos (by omega) ?_)) (fun _ => EvP.now ⟨hx, by show p ≤ p1; omega, by show p1 ≤ _; omega⟩)
  have hm := hx.names _ (rd_mem (xs := xs) (i := 0) (by omega) (by omega))
  refine (ih p1 (xs ++ [_]) (hx.snoc (by omega) _ hm) (by simp) (by simp; omega) (by omega) (by omega) (by omega)).mono ?_
  rintro r ⟨hf, ha, hb⟩
  exact ⟨hf, by omega, by omega⟩
theorem spec_l1Bent_j1 (l : List Int) (n : Nat) (id p i : Int) (b : Bool) (xs : List S29) (hx : Few n xs) (hi : 0 ≤ i) (hi' : i < (xs.length : Int)) (d : Int) (hd : 0 ≤ d) (p0 : Int) (hp : p0 ≤ p) (hp' : p ≤ p0 + d) : EvP (fun k => spec_l1Bent.j1 k i b l p id xs) (DrawnP n p0 d) := by
 refine EvP.step (fun k => by rw [spec_l1Bent.j1]) (EvP.split (fun _ => EvP.pos hi (EvP.pos hi' (EvP.now ⟨hx.set _ _ ?_, hp, hp'⟩))) (fun _ => EvP.now ⟨hx, hp, hp'⟩))
 have hm := hx.names _ (rd_mem hi hi')
 exact hm
theorem spec_l1Copy_eq (a : Int) (xs : List S29) (h : xs.length < 4398046511104) : spec_l1Copy.f a xs = some (a, xs) := by
 unfold spec_l1Copy.f
 simp [h]
theorem spec_l1Bent_ev (l : List Int) (hl : Bytes l) (n : Nat) (hn : 5 ≤ n) (hn' : n ≤ 1000) (p id : Int) (xs : List S29) (hx : Few n xs) (h0 : 0 ≤ p) (h1 : p ≤ 800000000000) : EvP (fun k => spec_l1Bent.f k l p id xs) (DrawnP n p 9) := by
 unfold spec_l1Bent.f
 have hlen := hx.len
 rw [spec_l1Copy_eq _ _ (by omega)]
 refine EvP.bind (P := (· = _)) (EvP.now rfl) ?_
 rintro _ rfl
 dsimp only
 refine EvP.bind (P := fun r => 1 ≤ r ∧ (1 ≤ xs.length → r = (xs.length : Int))) ?_ ?_
 ·
  unfold spec_l1Max.f
  refine EvP.split (fun hm => EvP.now ?_) (fun hm => EvP.now ?_) <;> constructor <;> omega
 rintro m ⟨hm1, hm2⟩
 refine EvP.bind (spec_l9Rd_pick_ev l hl p m h0 (by omega)) ?_
 rintro ⟨i, p1⟩ ⟨hp1, hi0, hi1, _⟩
 simp only at hp1 hi0 hi1
 have hi := hi1 hm1
 refine EvP.split (fun _ => EvP.now ⟨hx, by show p ≤ p1; omega, by show p1 ≤ _; omega⟩) (fun hne => ?_)
 have hi' : i < (xs.length : Int) := by have := hm2 (by omega); omega
 have hold := hx.names _ (rd_mem hi0 hi')
 refine EvP.bind (spec_l9Rd_pick_ev l hl p1 _ (by omega) (by omega)) ?_
 rintro ⟨w, p2⟩ ⟨hp2, _⟩
 simp only at hp2
 refine EvP.split (fun _ => ?_) (fun _ => EvP.split (fun _ => ?_) (fun _ => EvP.split (fun _ => ?_) (fun _ => EvP.split (fun _ => ?_) (fun _ => EvP.split (fun _ => ?_) (fun _ => EvP.split (fun _ => ?_) (fun _ => ?_))))))
 ·
  refine EvP.bind (spec_l9Rd_num_ev l hl p2 _ (by simp) (by omega) (by omega)) ?_
  rintro ⟨v, p3⟩ ⟨hp3, hv⟩
  simp only at hp3 hv
  exact EvP.now ⟨hx, by show p ≤ p3; omega, by show p3 ≤ _; omega⟩
 ·
  refine EvP.bind (spec_l9Rd_num_ev l hl p2 _ (by simp) (by omega) (by omega)) ?_
  rintro ⟨v, p3⟩ ⟨hp3, hv⟩
  simp only at hp3 hv
  exact EvP.pos hi0 (EvP.pos hi' (EvP.now ⟨hx.set _ _ hold, by show p ≤ p3; omega, by show p3 ≤ _; omega⟩))
 ·
  refine EvP.bind (spec_l9Rd_of_ev l hl p2 _ (by simp) (by omega) (by omega)) ?_
  rintro ⟨v, p3⟩ ⟨hp3, hv⟩
  simp only at hp3 hv
  refine EvP.pos hi0 (EvP.pos hi' (EvP.now ⟨hx.set _ _ ?_, by show p ≤ p3; omega, by show p3 ≤ _; omega⟩))
  simp only [List.mem_cons, List.not_mem_nil, or_false] at hv
  simp only [names1, List.mem_cons, List.not_mem_nil, or_false]
  rcases hv with rfl | rfl | rfl | rfl | rfl <;> simp
 ·
  refine EvP.bind (spec_l9Rd_num_ev l hl p2 _ (by simp) (by omega) (by omega)) ?_
  rintro ⟨v, p3⟩ ⟨hp3, hv⟩
  simp only at hp3 hv
  exact EvP.pos hi0 (EvP.pos hi' (EvP.now ⟨hx.set _ _ hold, by show p ≤ p3; omega, by show p3 ≤ _; omega⟩))
 ·
  exact EvP.now ⟨⟨by simp, by simp⟩, by show p ≤ p2; omega, by show p2 ≤ _; omega⟩
 ·
  refine (spec_l1Bent_l0 l hl n hn hn' id 5 p2 xs hx (by omega) (by omega) (by omega) (by omega) (by omega)).mono ?_
  rintro r ⟨hf, ha, hb⟩
  exact ⟨hf, by omega, by omega⟩
 ·
  exact EvP.split (fun _ => spec_l1Bent_j1 l n id p2 i _ xs hx hi0 hi' 9 (by omega) p (by omega) (by omega)) (fun _ => spec_l1Bent_j1 l n id p2 i _ xs hx hi0 hi' 9 (by omega) p (by omega) (by omega))

/-- What a drawn question to a posting is like. -/
theorem spec_DrawPostTo_ev (l0 : List Int) (h : ∀ x ∈ l0, (Lit.int .u8 x).wf = true) : EvP (fun k => spec_DrawPostTo.f k l0) (fun r => Few 5 r.2.1 ∧ r.2.2.1.size ≤ 16) := by
 unfold spec_DrawPostTo.f
 refine EvP.bind (spec_l9Open_ev l0 h) ?_
 rintro ⟨l, p⟩ ⟨hl, hp⟩
 simp only at hp hl
 refine EvP.bind (spec_l1Post_ev l hl p (by omega) (by omega)) ?_
 rintro ⟨id, xs, p1⟩ ⟨hf, ha, hb⟩
 simp only at hf ha hb
 refine EvP.bind (spec_l1Bent_ev l hl 5 (by omega) (by omega) p1 id xs hf (by omega) (by omega)) ?_
 rintro ⟨id', ys, p2⟩ ⟨hf2, ha2, hb2⟩
 simp only at hf2 ha2 hb2
 refine EvP.bind (spec_l1Acct_ev l hl p2 (by omega) (by omega)) ?_
 rintro ⟨a, p3⟩ ⟨hp3, hA⟩
 simp only at hp3 hA
 have hs := names1_small _ hA
 refine EvP.split (fun hpos => ?_) (fun _ => ?_)
 ·
  refine EvP.bind (spec_l9Rd_pick_ev l hl p3 _ (by omega) (by omega)) ?_
  rintro ⟨w, p4⟩ ⟨hp4, _⟩
  simp only at hp4
  refine EvP.split (fun _ => EvP.pos (by omega) (EvP.now ⟨hf2, ?_⟩)) (fun _ => ?_)
  ·
   have := names1_small _ (hf2.names _ (rd_mem (xs := ys) (i := 0) (by omega) (by omega)))
   exact Nat.le_trans this (by omega)
  ·
   refine EvP.bind (spec_l9Rd_num_ev l hl p4 _ (by simp) (by omega) (by omega)) ?_
   intro _ _
   exact EvP.now ⟨hf2, by show a.size ≤ 16; omega⟩
 ·
  refine EvP.bind (spec_l9Rd_num_ev l hl p3 _ (by simp) (by omega) (by omega)) ?_
  intro _ _
  exact EvP.now ⟨hf2, by show a.size ≤ 16; omega⟩

/-! ### Sums that wrap, as plain sums -/
def plainBy {α : Type} (f : α → Int) : List α → Int
 | [] => 0
 | x :: xs => f x + plainBy f xs
theorem plainBy_append {α : Type} (f : α → Int) (xs ys : List α) : plainBy f (xs ++ ys) = plainBy f xs + plainBy f ys := by
 induction xs with
 | nil => simp [plainBy]
 | cons x xs ih => simp [plainBy, ih, Int.add_assoc]
theorem plainBy_reverse {α : Type} (f : α → Int) (xs : List α) : plainBy f xs.reverse = plainBy f xs := by
 induction xs with
 | nil => rfl
 | cons x xs ih =>
  rw [List.reverse_cons, plainBy_append, ih]
  simp only [plainBy]
  omega
theorem plainBy_map {α β : Type} (f : β → Int) (g : α → β) (xs : List α) : plainBy f (xs.map g) = plainBy (fun x => f (g x)) xs := by
 induction xs with
 | nil => rfl
 | cons x xs ih => simp [plainBy, ih]
theorem plainBy_congr {α : Type} (f g : α → Int) (xs : List α) (h : ∀ x ∈ xs, f x = g x) : plainBy f xs = plainBy g xs := by
 induction xs with
 | nil => rfl
 | cons x xs ih =>
  simp only [plainBy]
  rw [h x (by simp), ih (fun y hy => h y (by simp [hy]))]
theorem plainBy_neg {α : Type} (f : α → Int) (xs : List α) : plainBy (fun x => -f x) xs = -plainBy f xs := by
 induction xs with
 | nil => rfl
 | cons x xs ih => simp only [plainBy, ih]; omega
theorem plainBy_add {α : Type} (f g : α → Int) (xs : List α) : plainBy (fun x => f x + g x) xs = plainBy f xs + plainBy g xs := by
 induction xs with
 | nil => rfl
 | cons x xs ih => simp only [plainBy, ih]; omega
theorem wrap_add (a b : Int) : wrap64 (wrap64 a + b) = wrap64 (a + b) := by
 unfold wrap64
 omega
theorem wrap_add2 (a b : Int) : wrap64 (a + wrap64 b) = wrap64 (a + b) := by
 unfold wrap64
 omega
theorem wrap_neg (a : Int) : wrap64 (-wrap64 a) = wrap64 (-a) := by
 unfold wrap64
 omega
theorem wrap_wrap (a : Int) : wrap64 (wrap64 a) = wrap64 a := by
 unfold wrap64
 omega
def onCur (cur : Int) (x : S29) : Int := if x.f1 = cur then x.f2 else 0
theorem sumLegs_from (cur : Int) : ∀ (xs : List S29) (t : Int), xs.foldl (fun s x => if x.f1 = cur then wrap64 (s + x.f2) else s) (wrap64 t) = wrap64 (t + plainBy (onCur cur) xs) := by
 intro xs
 induction xs with
 | nil => intro t; simp [plainBy]
 | cons x xs ih =>
  intro t
  rw [List.foldl_cons]
  by_cases h : x.f1 = cur
  ·
   rw [if_pos h, wrap_add, ih]
   simp only [plainBy, onCur, if_pos h]
   congr 1
   omega
  ·
   rw [if_neg h, ih]
   simp only [plainBy, onCur, if_neg h]
   congr 1
   omega
theorem sumLegs_plain (cur : Int) (xs : List S29) : sumLegs cur xs = wrap64 (plainBy (onCur cur) xs) := by
 have := sumLegs_from cur xs 0
 rw [show wrap64 0 = 0 from w64 (by omega) (by omega), Int.zero_add] at this
 exact this
theorem sumB_ok {id : Int} {xs : List S29} (h : postB id xs = true) (c : Int) : sumB id xs c = wrap64 (plainBy (onCur c) xs) := by
 simp [sumB, h, selLegs, sumLegs_plain]
theorem postB_leg {id : Int} {xs : List S29} (h : postB id xs = true) : ∀ x ∈ xs, legOkB x = true := by
 simp only [postB, Bool.and_eq_true, List.all_eq_true] at h
 exact h.2

def onAcct (acct : ByteArray) (cur : Int) (x : S29) : Int := if x.f1 = cur ∧ x.f0.toList = acct.toList then x.f2 else 0
theorem sumTo_from (acct : ByteArray) (cur : Int) : ∀ (xs : List S29) (t : Int), xs.foldl (fun s x => if x.f1 = cur ∧ x.f0.toList = acct.toList then wrap64 (s + x.f2) else s) (wrap64 t) = wrap64 (t + plainBy (onAcct acct cur) xs) := by
 intro xs
 induction xs with
 | nil => intro t; simp [plainBy]
 | cons x xs ih =>
  intro t
  rw [List.foldl_cons]
  by_cases h : x.f1 = cur ∧ x.f0.toList = acct.toList
  ·
   rw [if_pos h, wrap_add, ih]
   simp only [plainBy, onAcct, if_pos h]
   congr 1
   omega
  ·
   rw [if_neg h, ih]
   simp only [plainBy, onAcct, if_neg h]
   congr 1
   omega
theorem sumTo_plain (acct : ByteArray) (cur : Int) (xs : List S29) : sumTo acct cur xs = wrap64 (plainBy (onAcct acct cur) xs) := by
 have := sumTo_from acct cur xs 0
 rw [show wrap64 0 = 0 from w64 (by omega) (by omega), Int.zero_add] at this
 exact this
theorem toB_ok {id : Int} {xs : List S29} (h : postB id xs = true) (a : ByteArray) (c : Int) : toB id xs a c = wrap64 (plainBy (onAcct a c) xs) := by
 simp [toB, h, selLegs, sumTo_plain]

theorem cut_ok {id : Int} {xs : List S29} (h : postB id xs = true) (m : Nat) (h1 : 1 ≤ m) (h2 : m < xs.length) : postB 1 (xs.take m) = true ∧ postB 2 (xs.drop m) = true := by
 unfold postB headB at h ⊢
 simp only [Bool.and_eq_true, decide_eq_true_eq, List.all_eq_true] at h ⊢
 obtain ⟨⟨⟨⟨_, _⟩, _⟩, h4⟩, h5⟩ := h
 refine ⟨⟨⟨⟨⟨by omega, by omega⟩, ?_⟩, ?_⟩, fun x hx => h5 x (List.mem_of_mem_take hx)⟩, ⟨⟨⟨⟨by omega, by omega⟩, ?_⟩, ?_⟩, fun x hx => h5 x (List.mem_of_mem_drop hx)⟩⟩
 ·
  rw [List.length_take]; omega
 ·
  rw [List.length_take]; omega
 ·
  rw [List.length_drop]; omega
 ·
  rw [List.length_drop]; omega
theorem plain_cut (f : S29 → Int) (xs : List S29) (m : Nat) : plainBy f (xs.take m) + plainBy f (xs.drop m) = plainBy f xs := by
 rw [← plainBy_append, List.take_append_drop]
theorem fair_cut {id : Int} {xs : List S29} (h : fairB id xs = true) (m : Nat) (h1 : 1 ≤ m) (h2 : m < xs.length) : fairB 1 (xs.take m) = fairB 2 (xs.drop m) := by
 unfold fairB at h ⊢
 simp only [Bool.and_eq_true, decide_eq_true_eq] at h
 obtain ⟨⟨⟨h0, s1⟩, s2⟩, s3⟩ := h
 obtain ⟨c1, c2⟩ := cut_ok h0 m h1 h2
 rw [c1, c2]
 have key : ∀ c, sumB id xs c = 0 → decide (sumB 1 (xs.take m) c = 0) = decide (sumB 2 (xs.drop m) c = 0) := by
  intro c hc
  rw [sumB_ok h0, ← plain_cut _ xs m] at hc
  rw [sumB_ok c1, sumB_ok c2]
  refine decide_eq_decide.2 ?_
  unfold wrap64 at hc ⊢
  omega
 rw [key 1 s1, key 2 s2, key 3 s3]
theorem FnPostJoin (l0 l1 : List Int) (g0 : l0.length ≤ maxLen ∧ ∀ x ∈ l0, (Lit.int .u8 x).wf = true) (g1 : l1.length ≤ maxLen ∧ ∀ x ∈ l1, (Lit.int .u8 x).wf = true) : ∃ k, laws_FnPostJoin.f k l0 l1 = some true := by
 refine EvP.done ?_
 unfold laws_FnPostJoin.f
 refine EvP.split (fun _ => EvP.now rfl) (fun _ => ?_)
 refine EvP.split (fun _ => EvP.now rfl) (fun _ => ?_)
 refine EvP.bind (spec_DrawPostTo_ev l0 g0.2) ?_
 rintro ⟨id, xs, a, c⟩ ⟨hf, ha⟩
 simp only at hf ha
 dsimp only
 have hs : Sound xs := hf.sound
 have h5 : xs.length ≤ 5 := hf.len
 refine EvP.bind (impl_PostTo_ev id xs a c hs (by omega) (by omega)) ?_
 rintro _ rfl
 refine EvP.bind (spec_PostTo_ev id xs a c hs (by omega)) ?_
 rintro _ rfl
 refine EvP.pos rfl ?_
 refine EvP.bind (spec_PostOk_ev id xs hs) ?_
 rintro _ rfl
 have again : EvP (fun k => (spec_PostTo.f k id xs a c).bind fun t => some (toB id xs a c == t)) (· = true) := by
  refine EvP.bind (spec_PostTo_ev id xs a c hs (by omega)) ?_
  rintro _ rfl
  exact EvP.now (by simp)
 refine EvP.split (fun hok => ?_) (fun _ => again)
 refine EvP.split (fun _ => again) (fun h2 => ?_)
 have en : wrap64 ((xs.length : Int) - 1) = ((xs.length - 1 : Nat) : Int) := by rw [w64 (by omega) (by omega)]; omega
 obtain ⟨q, eq⟩ : ∃ q, l1.length % (xs.length - 1) = q := ⟨_, rfl⟩
 have hq : q < xs.length - 1 := eq ▸ Nat.mod_lt _ (by omega)
 obtain ⟨m, em⟩ : ∃ m, 1 + q = m := ⟨_, rfl⟩
 have hm : m < xs.length := by omega
 have hm1 : 1 ≤ m := by omega
 have ew : wrap64 (1 + ((l1.length : Int) % ((xs.length - 1 : Nat) : Int))) = (m : Int) := by
  rw [← Int.natCast_emod, eq, w64 (by omega) (by omega)]
  omega
 have n0 : ¬ (((xs.length - 1 : Nat) : Int) = 0) := by clear ew en hf ha g0 g1; omega
 have n1 : (0 : Int) ≤ (m : Int) := Int.natCast_nonneg m
 have n2 : (m : Int) ≤ (xs.length : Int) := by clear ew en hf ha g0 g1; omega
 rw [en, ew]
 refine EvP.neg n0 (EvP.pos n1 (EvP.pos n2 ?_))
 simp only [Int.toNat_natCast, Option.bind_some]
 obtain ⟨c1, c2⟩ := cut_ok hok m hm1 hm
 have s1 : Sound (xs.take m) := fun x hx => hs x (List.mem_of_mem_take hx)
 have s2 : Sound (xs.drop m) := fun x hx => hs x (List.mem_of_mem_drop hx)
 have l1' : (xs.take m).length ≤ 1048576 := Nat.le_trans (List.length_take_le' m xs) (Nat.le_trans h5 (by decide))
 have l2' : (xs.drop m).length ≤ 1048576 := Nat.le_trans (Nat.le_of_eq List.length_drop) (Nat.le_trans (Nat.sub_le _ _) (Nat.le_trans h5 (by decide)))
 refine EvP.bind (impl_PostTo_ev 1 _ a c s1 l1' (by omega)) ?_
 rintro _ rfl
 refine EvP.bind (impl_PostTo_ev 2 _ a c s2 l2' (by omega)) ?_
 rintro _ rfl
 refine EvP.pos ?_ ?_
 ·
  rw [toB_ok c1, toB_ok c2, toB_ok hok, wrap_add, wrap_add2, plain_cut]
 refine EvP.bind (impl_PostSum_ev 1 _ c s1) ?_
 rintro _ rfl
 refine EvP.bind (impl_PostSum_ev 2 _ c s2) ?_
 rintro _ rfl
 refine EvP.bind (impl_PostSum_ev id xs c hs) ?_
 rintro _ rfl
 refine EvP.pos ?_ ?_
 ·
  rw [sumB_ok c1, sumB_ok c2, sumB_ok hok, wrap_add, wrap_add2, plain_cut]
 refine EvP.bind (impl_PostFair_ev id xs hs) ?_
 rintro _ rfl
 refine EvP.split (fun hfr => ?_) (fun _ => EvP.now rfl)
 refine EvP.bind (impl_PostFair_ev 1 _ s1) ?_
 rintro _ rfl
 refine EvP.bind (impl_PostFair_ev 2 _ s2) ?_
 rintro _ rfl
 exact EvP.now (by rw [fair_cut hfr m hm1 hm]; simp)


end Go.Proofs.Ytemnggadcgmmkaa.Pure
