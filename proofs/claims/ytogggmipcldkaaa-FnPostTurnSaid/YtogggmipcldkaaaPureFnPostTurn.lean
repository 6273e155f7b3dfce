/- Legs may be reordered, and reversal negates. -/
import Derived.Test.YtogggmipcldkaaaQFnPostTurnx8
import Derived.Test.YtogggmipcldkaaaBBase
set_option linter.unusedVariables false
set_option linter.unusedSimpArgs false
namespace Go.Proofs.Ytogggmipcldkaaa.Pure
open Go.RowKit Go.Proofs.Ytogggmipcldkaaa.QFnPostTurn Go.Proofs.YtogggmipcldkaaaW.PrintWords Go.Proofs.YtogggmipcldkaaaW.PrintLast Go.Proofs.YtogggmipcldkaaaW.PrintMore Go.Proofs.Ytogggmipcldkaaa.B

/-! ### AcctOk -/
/-- d letters from place i on are all letters a to z. -/
def lettersB (s : ByteArray) : Nat → Int → Bool
  | 0, _ => true
  | d + 1, i => decide (97 ≤ bt s i) && decide (bt s i ≤ 122) && lettersB s d (i + 1)
def acctB (s : ByteArray) : Bool := decide (1 ≤ s.size) && decide (s.size ≤ 4) && lettersB s s.size 0
theorem spec_AcctOk_l0 (s : ByteArray) (hs : s.size ≤ 140737488351232) : ∀ (d : Nat) (i : Int), 0 ≤ i → i + d = s.size →
    EvP (fun k => spec_AcctOk.l0 k s i) (· = (decide (1 ≤ s.size) && decide (s.size ≤ 4) && lettersB s d i)) := by
  intro d
  induction d with
  | zero =>
    intro i h0 h
    refine EvP.step (fun k => by rw [spec_AcctOk.l0]) ?_
    refine EvP.neg (by omega) ?_
    refine EvP.split (fun h => ?_) (fun h => ?_)
    · refine EvP.now ?_
      have e1 : decide (1 ≤ s.size) = true := decide_eq_true (by omega)
      have e2 : decide ((s.size : Int) ≤ 4) = decide (s.size ≤ 4) := by rw [decide_eq_decide]; omega
      simp only [lettersB, e1, e2, Bool.true_and, Bool.and_true]
    · refine EvP.now ?_
      have e1 : decide (1 ≤ s.size) = false := decide_eq_false (by omega)
      simp only [lettersB, e1, Bool.false_and]
  | succ d ih =>
    intro i h0 h
    refine EvP.step (fun k => by rw [spec_AcctOk.l0]) ?_
    refine EvP.pos (by omega) ?_
    refine EvP.pos (by omega) ?_
    refine EvP.split (fun h1 => EvP.now ?_) (fun h1 => EvP.split (fun h2 => EvP.now ?_) (fun h2 => ?_))
    · have e1 : decide (97 ≤ bt s i) = false := decide_eq_false (by omega)
      simp [lettersB, e1]
    · have e1 : decide (bt s i ≤ 122) = false := decide_eq_false (by omega)
      simp [lettersB, e1]
    · rw [w64 (by omega) (by omega)]
      have e1 : decide (97 ≤ bt s i) = true := decide_eq_true (by omega)
      have e2 : decide (bt s i ≤ 122) = true := decide_eq_true (by omega)
      have := ih (i + 1) (by omega) (by omega)
      simp only [lettersB, e1, e2, Bool.true_and]
      exact this
theorem spec_AcctOk_ev (s : ByteArray) (hs : s.size ≤ 140737488351232) : EvP (fun k => spec_AcctOk.f k s) (· = acctB s) :=
  spec_AcctOk_l0 s hs s.size 0 (by omega) (by omega)
theorem impl_AcctOk_l0 (s : ByteArray) (hs : s.size ≤ 140737488351232) : ∀ (d : Nat) (i : Int), 0 ≤ i → i + d = s.size →
    EvP (fun k => impl_AcctOk.l0 k s (s.size : Int) i) (· = lettersB s d i) := by
  intro d
  induction d with
  | zero =>
    intro i h0 h
    refine EvP.step (fun k => by rw [impl_AcctOk.l0]) ?_
    refine EvP.neg (by omega) ?_
    exact EvP.now (by simp [lettersB])
  | succ d ih =>
    intro i h0 h
    refine EvP.step (fun k => by rw [impl_AcctOk.l0]) ?_
    refine EvP.pos (by omega) (EvP.pos (by omega) (EvP.pos (by omega) ?_))
    refine EvP.split (fun h1 => EvP.now ?_) (fun h1 => EvP.split (fun h2 => EvP.now ?_) (fun h2 => ?_))
    · have e1 : decide (97 ≤ bt s i) = false := decide_eq_false (by omega)
      simp [lettersB, e1]
    · have e1 : decide (bt s i ≤ 122) = false := decide_eq_false (by omega)
      simp [lettersB, e1]
    · rw [w64 (by omega) (by omega)]
      have e1 : decide (97 ≤ bt s i) = true := decide_eq_true (by omega)
      have e2 : decide (bt s i ≤ 122) = true := decide_eq_true (by omega)
      have := ih (i + 1) (by omega) (by omega)
      simp only [lettersB, e1, e2, Bool.true_and]
      exact this
theorem impl_AcctOk_ev (s : ByteArray) (hs : s.size ≤ 140737488351232) : EvP (fun k => impl_AcctOk.f k s) (· = acctB s) := by
  unfold impl_AcctOk.f acctB
  refine EvP.split (fun h => ?_) (fun h => ?_)
  · refine EvP.step (fun k => by rw [impl_AcctOk.j0]) (EvP.pos rfl (EvP.now ?_))
    have e1 : decide (1 ≤ s.size) = false := decide_eq_false (by omega)
    simp [e1]
  · have e1 : decide (1 ≤ s.size) = true := decide_eq_true (by omega)
    refine EvP.step (fun k => by rw [impl_AcctOk.j0]) (EvP.split (fun h1 => EvP.now ?_) (fun h1 => ?_))
    · have := of_decide_eq_true h1
      have e2 : decide (s.size ≤ 4) = false := decide_eq_false (by omega)
      simp [e2]
    · have : ¬ (s.size : Int) > 4 := fun h => h1 (decide_eq_true h)
      have e2 : decide (s.size ≤ 4) = true := decide_eq_true (by omega)
      simp only [e1, e2, Bool.true_and]
      exact impl_AcctOk_l0 s hs s.size 0 (by omega) (by omega)

/-! ### LegOk -/
def legB (a : ByteArray) (c n : Int) : Bool := acctB a && decide (1 ≤ c) && decide (c ≤ 3) && decide (-1000 ≤ n) && decide (n ≤ 1000) && (n != 0)
theorem spec_LegOk_ev (a : ByteArray) (c n : Int) (hs : a.size ≤ 140737488351232) : EvP (fun k => spec_LegOk.f k a c n) (· = legB a c n) := by
  unfold spec_LegOk.f
  refine EvP.bind (spec_AcctOk_ev a hs) ?_
  rintro _ rfl
  cases hA : acctB a
  · exact EvP.neg (by simp) (EvP.now (by simp [legB, hA]))
  · refine EvP.pos rfl ?_
    repeat' with_reducible refine EvP.split (fun _ => ?_) (fun _ => ?_)
    all_goals
      refine EvP.now ?_
      simp [legB, hA]
      try omega
theorem impl_LegOk_ev (a : ByteArray) (c n : Int) (hs : a.size ≤ 140737488351232) : EvP (fun k => impl_LegOk.f k a c n) (· = legB a c n) := by
  unfold impl_LegOk.f
  refine EvP.bind (impl_AcctOk_ev a hs) ?_
  rintro _ rfl
  cases hA : acctB a
  · exact EvP.neg (by simp) (EvP.now (by simp [legB, hA]))
  · refine EvP.pos rfl ?_
    repeat' with_reducible refine EvP.split (fun _ => ?_) (fun _ => ?_)
    all_goals
      refine EvP.now ?_
      simp [legB, hA]
      try omega

/-! ### PostOk -/
theorem rd_midL (pre rest : List S41) (x : S41) : rd_T41 (pre ++ x :: rest) (pre.length : Int) = x := by simp [rd_T41]
def legOkB (x : S41) : Bool := legB x.f0 x.f1 x.f2
def headB (id : Int) (xs : List S41) : Bool := decide (0 ≤ id) && decide (id ≤ 99) && decide (1 ≤ xs.length) && decide (xs.length ≤ 4)
def postB (id : Int) (xs : List S41) : Bool := headB id xs && xs.all legOkB
/-- Legs whose texts are no longer than texts are. -/
def Sound (xs : List S41) : Prop := ∀ x ∈ xs, x.f0.size ≤ 140737488351232
theorem spec_PostOk_l0 (id : Int) (xs : List S41) (hx : Sound xs) (h4 : xs.length ≤ 4) : ∀ (rest pre : List S41), xs = pre ++ rest → EvP (fun k => spec_PostOk.l0 k (pre.length : Int) id xs) (· = rest.all legOkB) := by
  intro rest
  induction rest with
  | nil =>
    intro pre e
    refine EvP.step (fun k => by rw [spec_PostOk.l0]) ?_
    exact EvP.neg (by simp [e]) (EvP.now rfl)
  | cons x rest ih =>
    intro pre e
    have hl : xs.length = pre.length + (rest.length + 1) := by rw [e]; simp
    refine EvP.step (fun k => by rw [spec_PostOk.l0]) (EvP.pos (by omega) (EvP.pos (by omega) ?_))
    have hr : rd_T41 xs (pre.length : Int) = x := by rw [e]; exact rd_midL pre rest x
    rw [hr]
    have e2 : wrap64 ((pre.length : Int) + 1) = ((pre ++ [x]).length : Int) := by rw [w64 (by omega) (by omega)]; simp
    refine EvP.bind (spec_LegOk_ev x.f0 x.f1 x.f2 (hx x (by rw [e]; simp))) ?_
    rintro _ rfl
    have step := ih (pre ++ [x]) (by rw [e]; simp)
    rw [e2]
    cases hb : legB x.f0 x.f1 x.f2
    · exact EvP.neg (by simp) (EvP.now (by simp [legOkB, hb]))
    · refine EvP.pos rfl (step.mono ?_)
      rintro _ rfl
      simp [legOkB, hb]
theorem spec_PostOk_ev (id : Int) (xs : List S41) (hx : Sound xs) : EvP (fun k => spec_PostOk.f k id xs) (· = postB id xs) := by
  unfold spec_PostOk.f
  refine EvP.split (fun h => ?_) (fun h1 => EvP.split (fun h => ?_) (fun h2 => EvP.split (fun h => ?_) (fun h3 => ?_)))
  · refine EvP.step (fun k => by rw [spec_PostOk.j0]) (EvP.pos rfl (EvP.now ?_))
    have e : decide (0 ≤ id) = false := decide_eq_false (by omega)
    simp [postB, headB, e]
  · refine EvP.step (fun k => by rw [spec_PostOk.j0]) (EvP.pos rfl (EvP.now ?_))
    have e : decide (id ≤ 99) = false := decide_eq_false (by omega)
    simp [postB, headB, e]
  · refine EvP.step (fun k => by rw [spec_PostOk.j0]) (EvP.pos rfl (EvP.now ?_))
    have e : decide (1 ≤ xs.length) = false := decide_eq_false (by omega)
    simp [postB, headB, e]
  · refine EvP.step (fun k => by rw [spec_PostOk.j0]) (EvP.split (fun h => EvP.now ?_) (fun h => ?_))
    · have := of_decide_eq_true h
      have e : decide (xs.length ≤ 4) = false := decide_eq_false (by omega)
      simp [postB, headB, e]
    · have h4 : ¬ (xs.length : Int) > 4 := fun g => h (decide_eq_true g)
      have e1 : decide (0 ≤ id) = true := decide_eq_true (by omega)
      have e2 : decide (id ≤ 99) = true := decide_eq_true (by omega)
      have e3 : decide (1 ≤ xs.length) = true := decide_eq_true (by omega)
      have e4 : decide (xs.length ≤ 4) = true := decide_eq_true (by omega)
      simp only [postB, headB, e1, e2, e3, e4, Bool.true_and]
      exact spec_PostOk_l0 id xs hx (by omega) xs [] rfl
theorem impl_PostOk_l0 (xs : List S41) (hx : Sound xs) (h4 : xs.length ≤ 4) : ∀ (rest pre : List S41), xs = pre ++ rest → EvP (fun k => impl_PostOk.l0 k xs (xs.length : Int) (pre.length : Int)) (· = rest.all legOkB) := by
  intro rest
  induction rest with
  | nil =>
    intro pre e
    refine EvP.step (fun k => by rw [impl_PostOk.l0]) ?_
    exact EvP.neg (by simp [e]) (EvP.now rfl)
  | cons x rest ih =>
    intro pre e
    have hl : xs.length = pre.length + (rest.length + 1) := by rw [e]; simp
    refine EvP.step (fun k => by rw [impl_PostOk.l0]) (EvP.pos (by omega) (EvP.pos (by omega) (EvP.pos (by omega) ?_)))
    have hr : rd_T41 xs (pre.length : Int) = x := by rw [e]; exact rd_midL pre rest x
    rw [hr]
    have e2 : wrap64 ((pre.length : Int) + 1) = ((pre ++ [x]).length : Int) := by rw [w64 (by omega) (by omega)]; simp
    refine EvP.bind (impl_LegOk_ev x.f0 x.f1 x.f2 (hx x (by rw [e]; simp))) ?_
    rintro _ rfl
    have step := ih (pre ++ [x]) (by rw [e]; simp)
    rw [e2]
    cases hb : legB x.f0 x.f1 x.f2
    · exact EvP.neg (by simp) (EvP.now (by simp [legOkB, hb]))
    · refine EvP.pos rfl (step.mono ?_)
      rintro _ rfl
      simp [legOkB, hb]
theorem impl_PostOk_ev (id : Int) (xs : List S41) (hx : Sound xs) : EvP (fun k => impl_PostOk.f k id xs) (· = postB id xs) := by
  unfold impl_PostOk.f
  refine EvP.split (fun h => ?_) (fun h1 => EvP.split (fun h => ?_) (fun h2 => EvP.split (fun h => ?_) (fun h3 => ?_)))
  · refine EvP.step (fun k => by rw [impl_PostOk.j0]) (EvP.pos rfl (EvP.now ?_))
    have e : decide (0 ≤ id) = false := decide_eq_false (by omega)
    simp [postB, headB, e]
  · refine EvP.step (fun k => by rw [impl_PostOk.j0]) (EvP.pos rfl (EvP.now ?_))
    have e : decide (id ≤ 99) = false := decide_eq_false (by omega)
    simp [postB, headB, e]
  · refine EvP.step (fun k => by rw [impl_PostOk.j0]) (EvP.pos rfl (EvP.now ?_))
    have e : decide (1 ≤ xs.length) = false := decide_eq_false (by omega)
    simp [postB, headB, e]
  · refine EvP.step (fun k => by rw [impl_PostOk.j0]) (EvP.split (fun h => EvP.now ?_) (fun h => ?_))
    · have := of_decide_eq_true h
      have e : decide (xs.length ≤ 4) = false := decide_eq_false (by omega)
      simp [postB, headB, e]
    · have h4 : ¬ (xs.length : Int) > 4 := fun g => h (decide_eq_true g)
      have e1 : decide (0 ≤ id) = true := decide_eq_true (by omega)
      have e2 : decide (id ≤ 99) = true := decide_eq_true (by omega)
      have e3 : decide (1 ≤ xs.length) = true := decide_eq_true (by omega)
      have e4 : decide (xs.length ≤ 4) = true := decide_eq_true (by omega)
      simp only [postB, headB, e1, e2, e3, e4, Bool.true_and]
      exact impl_PostOk_l0 xs hx (by omega) xs [] rfl

/-! ### PostSum -/
def sumB (id : Int) (xs : List S41) (cur : Int) : Int := sumLegs cur (selLegs (postB id xs) xs)
theorem impl_PostSum_ev (id : Int) (xs : List S41) (cur : Int) (hx : Sound xs) : EvP (fun k => impl_PostSum.f k id xs cur) (· = sumB id xs cur) := by
  unfold impl_PostSum.f
  refine EvP.bind (impl_PostOk_ev id xs hx) ?_
  rintro _ rfl
  exact EvP.now rfl

/-! ### PostTo -/
theorem spec_l1To_l0 (acct : ByteArray) (cur id : Int) (xs : List S41) (h4 : xs.length ≤ 1048576) : ∀ (rest pre : List S41), xs = pre ++ rest → EvP (fun k => spec_l1To.l0 k acct cur (sumTo acct cur pre) (pre.length : Int) id xs) (· = sumTo acct cur xs) := by
  intro rest
  induction rest with
  | nil =>
    intro pre e
    refine EvP.step (fun k => by rw [spec_l1To.l0]) ?_
    exact EvP.neg (by simp [e]) (EvP.now (by simp [e]))
  | cons x rest ih =>
    intro pre e
    have hl : xs.length = pre.length + (rest.length + 1) := by rw [e]; simp
    refine EvP.step (fun k => by rw [spec_l1To.l0]) (EvP.pos (by omega) (EvP.pos (by omega) ?_))
    have hr : rd_T41 xs (pre.length : Int) = x := by rw [e]; exact rd_midL pre rest x
    rw [hr]
    have e2 : wrap64 ((pre.length : Int) + 1) = ((pre ++ [x]).length : Int) := by rw [w64 (by omega) (by omega)]; simp
    have step := ih (pre ++ [x]) (by rw [e]; simp)
    rw [sumTo_snoc] at step
    rw [e2]
    refine EvP.split (fun h => EvP.split (fun h' => ?_) (fun h' => ?_)) (fun h => ?_)
    · rw [if_pos ⟨h, h'⟩] at step
      exact step
    · rw [if_neg (fun g => h' g.2)] at step
      exact step
    · rw [if_neg (fun g => h g.1)] at step
      exact step
theorem spec_l1To_ev (id : Int) (xs : List S41) (acct : ByteArray) (cur : Int) (h4 : xs.length ≤ 1048576) : EvP (fun k => spec_l1To.f k id xs acct cur) (· = sumTo acct cur xs) :=
  spec_l1To_l0 acct cur id xs h4 xs [] rfl
def toB (id : Int) (xs : List S41) (acct : ByteArray) (cur : Int) : Int := sumTo acct cur (selLegs (postB id xs) xs)
theorem spec_PostTo_ev (id : Int) (xs : List S41) (acct : ByteArray) (cur : Int) (hx : Sound xs) (h4 : xs.length ≤ 1048576) : EvP (fun k => spec_PostTo.f k id xs acct cur) (· = toB id xs acct cur) := by
  unfold spec_PostTo.f
  refine EvP.bind (spec_PostOk_ev id xs hx) ?_
  rintro _ rfl
  cases hb : postB id xs
  · exact EvP.neg (by simp) (EvP.now (by simp [toB, hb, selLegs, sumTo]))
  · refine EvP.pos rfl (EvP.bind (spec_l1To_ev id xs acct cur h4) ?_)
    rintro _ rfl
    exact EvP.now (by simp [toB, hb, selLegs])
theorem impl_PostTo_ev (id : Int) (xs : List S41) (acct : ByteArray) (cur : Int) (hx : Sound xs) (h4 : xs.length ≤ 1048576) (ha : acct.size ≤ 140737488351232) : EvP (fun k => impl_PostTo.f k id xs acct cur) (· = toB id xs acct cur) := by
  unfold impl_PostTo.f
  refine EvP.bind (impl_PostOk_ev id xs hx) ?_
  rintro _ rfl
  exact EvP.pos ⟨fun x h => by have := hx x h; omega, by omega, h4⟩ (EvP.now rfl)

/-! ### PostFair -/
def fairB (id : Int) (xs : List S41) : Bool := postB id xs && decide (sumB id xs 1 = 0) && decide (sumB id xs 2 = 0) && decide (sumB id xs 3 = 0)
theorem impl_PostFair_ev (id : Int) (xs : List S41) (hx : Sound xs) : EvP (fun k => impl_PostFair.f k id xs) (· = fairB id xs) := by
  unfold impl_PostFair.f fairB
  have w2 : wrap64 (1 + 1) = 2 := (w64 (by omega) (by omega)).trans rfl
  have w3 : wrap64 (2 + 1) = 3 := (w64 (by omega) (by omega)).trans rfl
  have w4 : wrap64 (3 + 1) = 4 := (w64 (by omega) (by omega)).trans rfl
  refine EvP.bind (impl_PostOk_ev id xs hx) ?_
  rintro _ rfl
  refine EvP.split (fun h0 => ?_) (fun h0 => EvP.now (by simp [h0]))
  refine EvP.step (fun k => by rw [impl_PostFair.l0]) (EvP.pos (by omega) (EvP.bind (impl_PostSum_ev id xs 1 hx) ?_))
  rintro _ rfl
  rw [w2]
  refine EvP.split (fun h1 => ?_) (fun h1 => EvP.now (by simp [h1]))
  refine EvP.step (fun k => by rw [impl_PostFair.l0]) (EvP.pos (by omega) (EvP.bind (impl_PostSum_ev id xs 2 hx) ?_))
  rintro _ rfl
  rw [w3]
  refine EvP.split (fun h2 => ?_) (fun h2 => EvP.now (by simp [h2]))
  refine EvP.step (fun k => by rw [impl_PostFair.l0]) (EvP.pos (by omega) (EvP.bind (impl_PostSum_ev id xs 3 hx) ?_))
  rintro _ rfl
  rw [w4]
  refine EvP.split (fun h3 => ?_) (fun h3 => EvP.now (by simp [h3]))
  refine EvP.step (fun k => by rw [impl_PostFair.l0]) ?_
  refine EvP.neg (by omega) (EvP.now ?_)
  simp [h0, h1, h2, h3]

/-! ### The reader of draws -/
/-- Bytes, at most 2000 of them. -/
structure Bytes (l : List Int) : Prop where
  len : l.length ≤ 2000
  lo : ∀ j, 0 ≤ rd l j
  hi : ∀ j, rd l j ≤ 255
theorem rd_range {l : List Int} (h : ∀ x ∈ l, 0 ≤ x ∧ x ≤ 255) (j : Int) : 0 ≤ rd l j ∧ rd l j ≤ 255 := by
  unfold rd
  rw [List.getD_eq_getElem?_getD]
  rcases Nat.lt_or_ge j.toNat l.length with hj | hj
  · rw [List.getElem?_eq_getElem hj]
    exact h _ (List.getElem_mem hj)
  · rw [List.getElem?_eq_none hj]
    simp
theorem u8_range {l : List Int} (h : ∀ x ∈ l, (Lit.int .u8 x).wf = true) : ∀ x ∈ l, 0 ≤ x ∧ x ≤ 255 := by
  intro x hx
  have := h x hx
  simp [Lit.wf, IntKind.min, IntKind.max, IntKind.signed, IntKind.bits] at this
  omega
theorem spec_l9Open_ev (l : List Int) (h : ∀ x ∈ l, (Lit.int .u8 x).wf = true) : EvP (fun _ => spec_l9Open.f l) (fun r => Bytes r.1 ∧ r.2 = 0) := by
  unfold spec_l9Open.f
  have hu := u8_range h
  refine EvP.split (fun h1 => EvP.pos (by omega) (EvP.now ⟨⟨?_, fun j => ?_, fun j => ?_⟩, rfl⟩)) (fun h1 => EvP.now ⟨⟨?_, fun j => ?_, fun j => ?_⟩, rfl⟩)
  · simp; omega
  · exact (rd_range (fun x hx => hu x (List.mem_of_mem_take hx)) j).1
  · exact (rd_range (fun x hx => hu x (List.mem_of_mem_take hx)) j).2
  · show l.length ≤ 2000
    omega
  · exact (rd_range hu j).1
  · exact (rd_range hu j).2
theorem xor_nonneg (x y : Int) (h0 : 0 ≤ x) (h1 : x < 2 ^ 62) (h2 : 0 ≤ y) (h3 : y < 2 ^ 62) : 0 ≤ bits .xor .i64 x y := by
  obtain ⟨a, rfl⟩ := Int.eq_ofNat_of_zero_le h0
  obtain ⟨b, rfl⟩ := Int.eq_ofNat_of_zero_le h2
  rw [xor64 a b (by omega) (by omega)]
  exact Int.natCast_nonneg _
/-- What a pick gives: one place on; a number below n, or 0. -/
def Picked (p n : Int) (r : Int × Int) : Prop := r.2 = p + 1 ∧ 0 ≤ r.1 ∧ (1 ≤ n → r.1 < n) ∧ (n < 1 → r.1 = 0)
theorem picked_mod {p n x : Int} (hn : ¬ n < 1) (hx : 0 ≤ x) : Picked p n (Int.tmod x n, p + 1) :=
  ⟨rfl, Int.tmod_nonneg _ hx, fun _ => Int.tmod_lt_of_pos _ (by omega), fun h => absurd h hn⟩
theorem spec_l9Rd_pick_ev (l : List Int) (hl : Bytes l) (p n : Int) (h0 : 0 ≤ p) (h1 : p ≤ 1000000000000) : EvP (fun k => spec_l9Rd_pick.f k l p n) (Picked p n) := by
  unfold spec_l9Rd_pick.f
  have e1 : wrap64 (p + 1) = p + 1 := w64 (by omega) (by omega)
  have e2 : wrap64 (p + 1 - 1) = p := by rw [w64 (by omega) (by omega)]; omega
  rw [e1]
  refine EvP.split (fun h => ?_) (fun hn => ?_)
  · refine EvP.step (fun k => by rw [spec_l9Rd_pick.j0]) (EvP.pos rfl (EvP.now ?_))
    exact ⟨rfl, Int.le_refl _, fun h' => absurd h (by omega), fun _ => rfl⟩
  · refine EvP.step (fun k => by rw [spec_l9Rd_pick.j0]) (EvP.split (fun h => EvP.now ?_) (fun hz => ?_))
    · exact ⟨rfl, Int.le_refl _, fun h' => by show (0 : Int) < n; omega, fun _ => rfl⟩
    · have hz' : ¬ (l.length : Int) = 0 := fun h => hz (by simp [h])
      have hpos : 0 < (l.length : Int) := by omega
      have hlen : (l.length : Int) ≤ 2000 := by have := hl.len; omega
      rw [e2]
      refine EvP.split (fun h => EvP.pos h0 (EvP.neg (by omega) (EvP.now ?_))) (fun h => EvP.neg hz' ?_)
      · have := hl.lo p
        have := hl.hi p
        rw [w64 (by omega) (by omega)]
        exact picked_mod hn (by omega)
      · have a0 : 0 ≤ Int.tmod p (l.length : Int) := Int.tmod_nonneg _ h0
        have a1 : Int.tmod p (l.length : Int) < (l.length : Int) := Int.tmod_lt_of_pos _ hpos
        have e7 : wrap64 (wrap64 (p * 7) + 3) = p * 7 + 3 := by rw [w64 (x := p * 7) (by omega) (by omega), w64 (by omega) (by omega)]
        have c0 : 0 ≤ Int.tmod (p * 7 + 3) (l.length : Int) := Int.tmod_nonneg _ (by omega)
        have c1 : Int.tmod (p * 7 + 3) (l.length : Int) < (l.length : Int) := Int.tmod_lt_of_pos _ hpos
        rw [e7]
        refine EvP.pos a0 (EvP.pos a1 (EvP.pos c0 (EvP.pos c1 (EvP.neg (by omega) (EvP.now ?_)))))
        have b0 := hl.lo (Int.tmod p (l.length : Int))
        have b1 := hl.hi (Int.tmod p (l.length : Int))
        have d0 := hl.lo (Int.tmod (p * 7 + 3) (l.length : Int))
        have d1 := hl.hi (Int.tmod (p * 7 + 3) (l.length : Int))
        have q0 : 0 ≤ Int.tdiv p (l.length : Int) := Int.tdiv_nonneg h0 (by omega)
        have q1 : Int.tdiv p (l.length : Int) ≤ p := by
          rw [Int.tdiv_eq_ediv_of_nonneg h0]
          exact Int.ediv_le_self _ h0
        refine picked_mod hn ?_
        generalize Int.tdiv p (l.length : Int) = q at q0 q1 ⊢
        generalize rd l (Int.tmod p (l.length : Int)) = b at b0 b1 ⊢
        generalize rd l (Int.tmod (p * 7 + 3) (l.length : Int)) = d at d0 d1 ⊢
        have f1 : wrap64 b = b := w64 (by omega) (by omega)
        have f2 : wrap64 d = d := w64 (by omega) (by omega)
        have f3 : wrap64 q = q := w64 (by omega) (by omega)
        have f4 : wrap64 (b * 131) = b * 131 := w64 (by omega) (by omega)
        have f5 : wrap64 (d * 1117) = d * 1117 := w64 (by omega) (by omega)
        have f6 : wrap64 (p * 29) = p * 29 := w64 (by omega) (by omega)
        have f7 : wrap64 (q * 53) = q * 53 := w64 (by omega) (by omega)
        have f8 : wrap64 (b * 131 + d * 1117) = b * 131 + d * 1117 := w64 (by omega) (by omega)
        have f9 : wrap64 (b * 131 + d * 1117 + p * 29) = b * 131 + d * 1117 + p * 29 := w64 (by omega) (by omega)
        have f10 : wrap64 (b * 131 + d * 1117 + p * 29 + q * 53) = b * 131 + d * 1117 + p * 29 + q * 53 := w64 (by omega) (by omega)
        rw [f1, f2, f3, f4, f5, f6, f7, f8, f9, f10]
        have g0 : 0 ≤ b * 131 + d * 1117 + p * 29 + q * 53 := by omega
        have g1 : b * 131 + d * 1117 + p * 29 + q * 53 < 2 ^ 62 := by omega
        generalize b * 131 + d * 1117 + p * 29 + q * 53 = x at g0 g1 ⊢
        have g2 : Int.tdiv x 64 = x / 64 := Int.tdiv_eq_ediv_of_nonneg g0
        rw [g2, w64 (x := x / 64) (by omega) (by omega)]
        exact xor_nonneg _ _ g0 g1 (by omega) (by omega)
/-- One of a list of texts. -/
theorem spec_l9Rd_of_ev (l : List Int) (hl : Bytes l) (p : Int) (xs : List ByteArray) (hx : 0 < xs.length) (h0 : 0 ≤ p) (h1 : p ≤ 1000000000000) : EvP (fun k => spec_l9Rd_of.f k l p xs) (fun r => r.2 = p + 1 ∧ r.1 ∈ xs) := by
  unfold spec_l9Rd_of.f
  refine EvP.bind (spec_l9Rd_pick_ev l hl p _ h0 h1) ?_
  rintro ⟨i, q⟩ ⟨hq, hi, hlt, _⟩
  have := hlt (by omega)
  simp only at hq hi this
  refine EvP.pos hi (EvP.pos this (EvP.now ⟨hq, ?_⟩))
  show xs.getD i.toNat ByteArray.empty ∈ xs
  rw [List.getD_eq_getElem?_getD, List.getElem?_eq_getElem (by omega)]
  exact List.getElem_mem _

/-- One of a list of numbers. -/
theorem spec_l9Rd_num_ev (l : List Int) (hl : Bytes l) (p : Int) (xs : List Int) (hx : 0 < xs.length) (h0 : 0 ≤ p) (h1 : p ≤ 1000000000000) : EvP (fun k => spec_l9Rd_num.f k l p xs) (fun r => r.2 = p + 1 ∧ r.1 ∈ xs) := by
  unfold spec_l9Rd_num.f
  refine EvP.bind (spec_l9Rd_pick_ev l hl p _ h0 h1) ?_
  rintro ⟨i, q⟩ ⟨hq, hi, hlt, _⟩
  have := hlt (by omega)
  simp only at hq hi this
  refine EvP.pos hi (EvP.pos this (EvP.now ⟨hq, ?_⟩))
  show xs.getD i.toNat 0 ∈ xs
  rw [List.getD_eq_getElem?_getD, List.getElem?_eq_getElem (by omega)]
  exact List.getElem_mem _

/-! ### Draws of postings -/
/-- All texts that a drawn leg's account may be. -/
def names1 : List ByteArray := [⟨#[97]⟩, ⟨#[98]⟩, ⟨#[97, 98]⟩, ⟨#[99]⟩, ⟨#[99, 97, 115, 104]⟩, ⟨#[97, 97]⟩, ⟨#[]⟩, ⟨#[65]⟩, ⟨#[97, 98, 99, 100, 101]⟩, ⟨#[97, 32, 98]⟩, ⟨#[97, 58]⟩]
theorem names1_small (u : ByteArray) (h : u ∈ names1) : u.size ≤ 5 := by
  simp only [names1, List.mem_cons, List.not_mem_nil, or_false] at h
  rcases h with rfl | rfl | rfl | rfl | rfl | rfl | rfl | rfl | rfl | rfl | rfl <;> simp [ByteArray.size]
theorem names1_none (u : ByteArray) (h : u ∈ names1) : u.toList ≠ (⟨#[110, 111, 110, 101]⟩ : ByteArray).toList := by
  simp only [names1, List.mem_cons, List.not_mem_nil, or_false] at h
  intro e
  rcases h with rfl | rfl | rfl | rfl | rfl | rfl | rfl | rfl | rfl | rfl | rfl <;> simp [ByteArray.toList_eq] at e
/-- Legs that are few, of drawn accounts. -/
structure Few (n : Nat) (xs : List S41) : Prop where
  len : xs.length ≤ n
  names : ∀ x ∈ xs, x.f0 ∈ names1
theorem Few.sound {n : Nat} {xs : List S41} (h : Few n xs) : ∀ x ∈ xs, x.f0.size ≤ 140737488351232 := fun x hx => by have := names1_small _ (h.names x hx); omega
theorem Few.set {n : Nat} {xs : List S41} (h : Few n xs) (i : Nat) (x : S41) (hx : x.f0 ∈ names1) : Few n (xs.set i x) :=
  ⟨by rw [List.length_set]; exact h.len, fun y hy => by
    rcases List.mem_or_eq_of_mem_set hy with hy | rfl
    · exact h.names y hy
    · exact hx⟩
theorem Few.snoc {n : Nat} {xs : List S41} (h : Few n xs) (hl : xs.length < n) (x : S41) (hx : x.f0 ∈ names1) : Few n (xs ++ [x]) :=
  ⟨by simp; omega, fun y hy => by
    rcases List.mem_append.1 hy with hy | hy
    · exact h.names y hy
    · obtain rfl := List.mem_singleton.1 hy
      exact hx⟩
theorem rd_mem {xs : List S41} {i : Int} (h0 : 0 ≤ i) (h1 : i < (xs.length : Int)) : rd_T41 xs i ∈ xs := by
  have hi : i.toNat < xs.length := by omega
  have e : rd_T41 xs i = xs[i.toNat] := by simp [rd_T41, List.getD_eq_getElem?_getD, List.getElem?_eq_getElem hi]
  rw [e]
  exact List.getElem_mem hi
theorem spec_l1Acct_ev (l : List Int) (hl : Bytes l) (p : Int) (h0 : 0 ≤ p) (h1 : p ≤ 900000000000) : EvP (fun k => spec_l1Acct.f k l p) (fun r => r.2 = p + 1 ∧ r.1 ∈ names1) := by
  unfold spec_l1Acct.f
  refine EvP.bind (spec_l9Rd_of_ev l hl p _ (by simp) h0 (by omega)) ?_
  rintro ⟨x, q⟩ ⟨hq, hx⟩
  refine EvP.now ⟨hq, ?_⟩
  simp only [List.mem_cons, List.not_mem_nil, or_false] at hx
  simp only [names1, List.mem_cons, List.not_mem_nil, or_false]
  rcases hx with rfl | rfl | rfl | rfl | rfl | rfl <;> simp
/-- What a drawn posting is like. -/
structure DrawnP (n : Nat) (p d : Int) (r : Int × List S41 × Int) : Prop where
  few : Few n r.2.1
  lo : p ≤ r.2.2
  hi : r.2.2 ≤ p + d
theorem two_few (a b : ByteArray) (c c' n n' : Int) (ha : a ∈ names1) (hb : b ∈ names1) : Few 5 ([⟨a, c, n⟩, ⟨b, c', n'⟩] : List S41) :=
  ⟨by simp, fun x hx => by
    simp only [List.mem_cons, List.not_mem_nil, or_false] at hx
    rcases hx with rfl | rfl
    · exact ha
    · exact hb⟩
theorem spec_l1Post_ev (l : List Int) (hl : Bytes l) (p : Int) (h0 : 0 ≤ p) (h1 : p ≤ 800000000000) : EvP (fun k => spec_l1Post.f k l p) (DrawnP 5 p 9) := by
  unfold spec_l1Post.f
  refine EvP.bind (spec_l9Rd_pick_ev l hl p _ h0 (by omega)) ?_
  rintro ⟨id, p1⟩ ⟨hp1, hid0, hid1, _⟩
  simp only at hp1 hid0 hid1
  refine EvP.bind (spec_l9Rd_num_ev l hl p1 _ (by simp) (by omega) (by omega)) ?_
  rintro ⟨n, p2⟩ ⟨hp2, hn⟩
  simp only at hp2 hn
  refine EvP.bind (spec_l9Rd_pick_ev l hl p2 _ (by omega) (by omega)) ?_
  rintro ⟨c, p3⟩ ⟨hp3, _⟩
  simp only at hp3
  refine EvP.bind (spec_l1Acct_ev l hl p3 (by omega) (by omega)) ?_
  rintro ⟨a, p4⟩ ⟨hp4, ha⟩
  simp only at hp4 ha
  refine EvP.bind (spec_l1Acct_ev l hl p4 (by omega) (by omega)) ?_
  rintro ⟨b, p5⟩ ⟨hp5, hb⟩
  simp only at hp5 hb
  refine EvP.bind (P := (· = _)) (EvP.now rfl) ?_
  rintro _ rfl
  have h2 := two_few a b (wrap64 (1 + c)) (wrap64 (1 + c)) n (wrap64 (-n)) ha hb
  refine EvP.bind (spec_l9Rd_pick_ev l hl p5 _ (by omega) (by omega)) ?_
  rintro ⟨w, p6⟩ ⟨hp6, _⟩
  simp only at hp6
  refine EvP.split (fun _ => ?_) (fun _ => EvP.split (fun _ => ?_) (fun _ => EvP.now ⟨h2, by show p ≤ p6; omega, by show p6 ≤ p + 9; omega⟩))
  · refine EvP.bind (spec_l9Rd_pick_ev l hl p6 _ (by omega) (by omega)) ?_
    rintro ⟨d, p7⟩ ⟨hp7, _⟩
    simp only at hp7
    refine EvP.bind (spec_l1Acct_ev l hl p7 (by omega) (by omega)) ?_
    rintro ⟨e, p8⟩ ⟨hp8, he⟩
    simp only at hp8 he
    refine EvP.bind (spec_l1Acct_ev l hl p8 (by omega) (by omega)) ?_
    rintro ⟨f, p9⟩ ⟨hp9, hf⟩
    simp only at hp9 hf
    refine EvP.bind (P := (· = _)) (EvP.now rfl) ?_
    rintro _ rfl
    refine EvP.pos (by simp) (EvP.now ⟨⟨by simp, fun x hx => ?_⟩, by show p ≤ p9; omega, by show p9 ≤ p + 9; omega⟩)
    simp only [List.mem_cons, List.not_mem_nil, or_false, List.mem_append] at hx
    rcases hx with (rfl | rfl) | (rfl | rfl)
    · exact ha
    · exact hb
    · exact he
    · exact hf
  · refine EvP.split (fun _ => EvP.pos (by simp) ?_) (fun _ => EvP.now ⟨h2, by show p ≤ p6; omega, by show p6 ≤ p + 9; omega⟩)
    refine EvP.bind (P := (· = _)) (EvP.now rfl) ?_
    rintro _ rfl
    refine EvP.bind (spec_l1Acct_ev l hl p6 (by omega) (by omega)) ?_
    rintro ⟨e, p7⟩ ⟨hp7, he⟩
    simp only at hp7 he
    refine EvP.pos (by simp) (EvP.now ⟨Few.snoc (h2.set _ _ ?_) (by simp) _ he, by show p ≤ p7; omega, by show p7 ≤ p + 9; omega⟩)
    have hm : rd_T41 ([⟨a, wrap64 (1 + c), n⟩, ⟨b, wrap64 (1 + c), wrap64 (-n)⟩] : List S41) 1 ∈ ([⟨a, wrap64 (1 + c), n⟩, ⟨b, wrap64 (1 + c), wrap64 (-n)⟩] : List S41) := rd_mem (by omega) (by simp)
    have h3 := h2.names _ hm
    exact h3
theorem spec_l1Bent_l0 (l : List Int) (hl : Bytes l) (n : Nat) (hn : 5 ≤ n) (hn' : n ≤ 1000) (id : Int) : ∀ (d : Nat) (p : Int) (xs : List S41), Few n xs → 0 < xs.length → 5 ≤ xs.length + d → d ≤ 5 → 0 ≤ p → p + d ≤ 900000000000 → EvP (fun k => spec_l1Bent.l0 k l p id xs) (DrawnP n p (d + 1)) := by
  intro d
  induction d with
  | zero =>
    intro p xs hx h1 h5 _ h0 hp
    refine EvP.step (fun k => by rw [spec_l1Bent.l0]) ?_
    refine EvP.bind (spec_l9Rd_pick_ev l hl p _ h0 (by omega)) ?_
    rintro ⟨v, p1⟩ ⟨hp1, hv0, hv1, _⟩
    simp only at hp1 hv0 hv1
    have hv := hv1 (by omega)
    rw [w64 (x := 4 + v) (by omega) (by omega)]
    exact EvP.neg (by omega) (EvP.now ⟨hx, by show p ≤ p1; omega, by show p1 ≤ _; omega⟩)
  | succ d ih =>
    intro p xs hx h1 h5 hd h0 hp
    refine EvP.step (fun k => by rw [spec_l1Bent.l0]) ?_
    refine EvP.bind (spec_l9Rd_pick_ev l hl p _ h0 (by omega)) ?_
    rintro ⟨v, p1⟩ ⟨hp1, hv0, hv1, _⟩
    simp only at hp1 hv0 hv1
    have hv := hv1 (by omega)
    rw [w64 (x := 4 + v) (by omega) (by omega)]
    refine EvP.split (fun hlt => EvP.pos (by omega) (EvP.pos (by omega) ?_)) (fun _ => EvP.now ⟨hx, by show p ≤ p1; omega, by show p1 ≤ _; omega⟩)
    have hm := hx.names _ (rd_mem (xs := xs) (i := 0) (by omega) (by omega))
    refine (ih p1 (xs ++ [_]) (hx.snoc (by omega) _ hm) (by simp) (by simp; omega) (by omega) (by omega) (by omega)).mono ?_
    rintro r ⟨hf, ha, hb⟩
    exact ⟨hf, by omega, by omega⟩
theorem spec_l1Bent_j1 (l : List Int) (n : Nat) (id p i : Int) (b : Bool) (xs : List S41) (hx : Few n xs) (hi : 0 ≤ i) (hi' : i < (xs.length : Int)) (d : Int) (hd : 0 ≤ d) (p0 : Int) (hp : p0 ≤ p) (hp' : p ≤ p0 + d) : EvP (fun k => spec_l1Bent.j1 k i b l p id xs) (DrawnP n p0 d) := by
  refine EvP.step (fun k => by rw [spec_l1Bent.j1]) (EvP.split (fun _ => EvP.pos hi (EvP.pos hi' (EvP.now ⟨hx.set _ _ ?_, hp, hp'⟩))) (fun _ => EvP.now ⟨hx, hp, hp'⟩))
  have hm := hx.names _ (rd_mem hi hi')
  exact hm
theorem spec_l1Copy_eq (a : Int) (xs : List S41) (h : xs.length < 4398046511104) : spec_l1Copy.f a xs = some (a, xs) := by
  unfold spec_l1Copy.f
  simp [h]
theorem spec_l1Bent_ev (l : List Int) (hl : Bytes l) (n : Nat) (hn : 5 ≤ n) (hn' : n ≤ 1000) (p id : Int) (xs : List S41) (hx : Few n xs) (h0 : 0 ≤ p) (h1 : p ≤ 800000000000) : EvP (fun k => spec_l1Bent.f k l p id xs) (DrawnP n p 9) := by
  unfold spec_l1Bent.f
  have hlen := hx.len
  rw [spec_l1Copy_eq _ _ (by omega)]
  refine EvP.bind (P := (· = _)) (EvP.now rfl) ?_
  rintro _ rfl
  dsimp only
  refine EvP.bind (P := fun r => 1 ≤ r ∧ (1 ≤ xs.length → r = (xs.length : Int))) ?_ ?_
  · unfold spec_l1Max.f
    refine EvP.split (fun hm => EvP.now ?_) (fun hm => EvP.now ?_) <;> constructor <;> omega
  rintro m ⟨hm1, hm2⟩
  refine EvP.bind (spec_l9Rd_pick_ev l hl p m h0 (by omega)) ?_
  rintro ⟨i, p1⟩ ⟨hp1, hi0, hi1, _⟩
  simp only at hp1 hi0 hi1
  have hi := hi1 hm1
  refine EvP.split (fun _ => EvP.now ⟨hx, by show p ≤ p1; omega, by show p1 ≤ _; omega⟩) (fun hne => ?_)
  have hi' : i < (xs.length : Int) := by have := hm2 (by omega); omega
  have hold := hx.names _ (rd_mem hi0 hi')
  refine EvP.bind (spec_l9Rd_pick_ev l hl p1 _ (by omega) (by omega)) ?_
  rintro ⟨w, p2⟩ ⟨hp2, _⟩
  simp only at hp2
  refine EvP.split (fun _ => ?_) (fun _ => EvP.split (fun _ => ?_) (fun _ => EvP.split (fun _ => ?_) (fun _ => EvP.split (fun _ => ?_) (fun _ => EvP.split (fun _ => ?_) (fun _ => EvP.split (fun _ => ?_) (fun _ => ?_))))))
  · refine EvP.bind (spec_l9Rd_num_ev l hl p2 _ (by simp) (by omega) (by omega)) ?_
    rintro ⟨v, p3⟩ ⟨hp3, hv⟩
    simp only at hp3 hv
    exact EvP.now ⟨hx, by show p ≤ p3; omega, by show p3 ≤ _; omega⟩
  · refine EvP.bind (spec_l9Rd_num_ev l hl p2 _ (by simp) (by omega) (by omega)) ?_
    rintro ⟨v, p3⟩ ⟨hp3, hv⟩
    simp only at hp3 hv
    exact EvP.pos hi0 (EvP.pos hi' (EvP.now ⟨hx.set _ _ hold, by show p ≤ p3; omega, by show p3 ≤ _; omega⟩))
  · refine EvP.bind (spec_l9Rd_of_ev l hl p2 _ (by simp) (by omega) (by omega)) ?_
    rintro ⟨v, p3⟩ ⟨hp3, hv⟩
    simp only at hp3 hv
    refine EvP.pos hi0 (EvP.pos hi' (EvP.now ⟨hx.set _ _ ?_, by show p ≤ p3; omega, by show p3 ≤ _; omega⟩))
    simp only [List.mem_cons, List.not_mem_nil, or_false] at hv
    simp only [names1, List.mem_cons, List.not_mem_nil, or_false]
    rcases hv with rfl | rfl | rfl | rfl | rfl <;> simp
  · refine EvP.bind (spec_l9Rd_num_ev l hl p2 _ (by simp) (by omega) (by omega)) ?_
    rintro ⟨v, p3⟩ ⟨hp3, hv⟩
    simp only at hp3 hv
    exact EvP.pos hi0 (EvP.pos hi' (EvP.now ⟨hx.set _ _ hold, by show p ≤ p3; omega, by show p3 ≤ _; omega⟩))
  · exact EvP.now ⟨⟨by simp, by simp⟩, by show p ≤ p2; omega, by show p2 ≤ _; omega⟩
  · refine (spec_l1Bent_l0 l hl n hn hn' id 5 p2 xs hx (by omega) (by omega) (by omega) (by omega) (by omega)).mono ?_
    rintro r ⟨hf, ha, hb⟩
    exact ⟨hf, by omega, by omega⟩
  · exact EvP.split (fun _ => spec_l1Bent_j1 l n id p2 i _ xs hx hi0 hi' 9 (by omega) p (by omega) (by omega)) (fun _ => spec_l1Bent_j1 l n id p2 i _ xs hx hi0 hi' 9 (by omega) p (by omega) (by omega))

/-- What a drawn question to a posting is like. -/
theorem spec_DrawPostTo_ev (l0 : List Int) (h : ∀ x ∈ l0, (Lit.int .u8 x).wf = true) : EvP (fun k => spec_DrawPostTo.f k l0) (fun r => Few 5 r.2.1 ∧ r.2.2.1.size ≤ 16) := by
  unfold spec_DrawPostTo.f
  refine EvP.bind (spec_l9Open_ev l0 h) ?_
  rintro ⟨l, p⟩ ⟨hl, hp⟩
  simp only at hp hl
  refine EvP.bind (spec_l1Post_ev l hl p (by omega) (by omega)) ?_
  rintro ⟨id, xs, p1⟩ ⟨hf, ha, hb⟩
  simp only at hf ha hb
  refine EvP.bind (spec_l1Bent_ev l hl 5 (by omega) (by omega) p1 id xs hf (by omega) (by omega)) ?_
  rintro ⟨id', ys, p2⟩ ⟨hf2, ha2, hb2⟩
  simp only at hf2 ha2 hb2
  refine EvP.bind (spec_l1Acct_ev l hl p2 (by omega) (by omega)) ?_
  rintro ⟨a, p3⟩ ⟨hp3, hA⟩
  simp only at hp3 hA
  have hs := names1_small _ hA
  refine EvP.split (fun hpos => ?_) (fun _ => ?_)
  · refine EvP.bind (spec_l9Rd_pick_ev l hl p3 _ (by omega) (by omega)) ?_
    rintro ⟨w, p4⟩ ⟨hp4, _⟩
    simp only at hp4
    refine EvP.split (fun _ => EvP.pos (by omega) (EvP.now ⟨hf2, ?_⟩)) (fun _ => ?_)
    · have := names1_small _ (hf2.names _ (rd_mem (xs := ys) (i := 0) (by omega) (by omega)))
      exact Nat.le_trans this (by omega)
    · refine EvP.bind (spec_l9Rd_num_ev l hl p4 _ (by simp) (by omega) (by omega)) ?_
      intro _ _
      exact EvP.now ⟨hf2, by show a.size ≤ 16; omega⟩
  · refine EvP.bind (spec_l9Rd_num_ev l hl p3 _ (by simp) (by omega) (by omega)) ?_
    intro _ _
    exact EvP.now ⟨hf2, by show a.size ≤ 16; omega⟩

/-! ### Sums that wrap, as plain sums -/
def plainBy {α : Type} (f : α → Int) : List α → Int
  | [] => 0
  | x :: xs => f x + plainBy f xs
theorem plainBy_append {α : Type} (f : α → Int) (xs ys : List α) : plainBy f (xs ++ ys) = plainBy f xs + plainBy f ys := by
  induction xs with
  | nil => simp [plainBy]
  | cons x xs ih => simp [plainBy, ih, Int.add_assoc]
theorem plainBy_reverse {α : Type} (f : α → Int) (xs : List α) : plainBy f xs.reverse = plainBy f xs := by
  induction xs with
  | nil => rfl
  | cons x xs ih =>
    rw [List.reverse_cons, plainBy_append, ih]
    simp only [plainBy]
    omega
theorem plainBy_map {α β : Type} (f : β → Int) (g : α → β) (xs : List α) : plainBy f (xs.map g) = plainBy (fun x => f (g x)) xs := by
  induction xs with
  | nil => rfl
  | cons x xs ih => simp [plainBy, ih]
theorem plainBy_congr {α : Type} (f g : α → Int) (xs : List α) (h : ∀ x ∈ xs, f x = g x) : plainBy f xs = plainBy g xs := by
  induction xs with
  | nil => rfl
  | cons x xs ih =>
    simp only [plainBy]
    rw [h x (by simp), ih (fun y hy => h y (by simp [hy]))]
theorem plainBy_neg {α : Type} (f : α → Int) (xs : List α) : plainBy (fun x => -f x) xs = -plainBy f xs := by
  induction xs with
  | nil => rfl
  | cons x xs ih => simp only [plainBy, ih]; omega
theorem plainBy_add {α : Type} (f g : α → Int) (xs : List α) : plainBy (fun x => f x + g x) xs = plainBy f xs + plainBy g xs := by
  induction xs with
  | nil => rfl
  | cons x xs ih => simp only [plainBy, ih]; omega
theorem wrap_add (a b : Int) : wrap64 (wrap64 a + b) = wrap64 (a + b) := by
  unfold wrap64
  omega
theorem wrap_add2 (a b : Int) : wrap64 (a + wrap64 b) = wrap64 (a + b) := by
  unfold wrap64
  omega
theorem wrap_neg (a : Int) : wrap64 (-wrap64 a) = wrap64 (-a) := by
  unfold wrap64
  omega
theorem wrap_wrap (a : Int) : wrap64 (wrap64 a) = wrap64 a := by
  unfold wrap64
  omega
def onCur (cur : Int) (x : S41) : Int := if x.f1 = cur then x.f2 else 0
theorem sumLegs_from (cur : Int) : ∀ (xs : List S41) (t : Int), xs.foldl (fun s x => if x.f1 = cur then wrap64 (s + x.f2) else s) (wrap64 t) = wrap64 (t + plainBy (onCur cur) xs) := by
  intro xs
  induction xs with
  | nil => intro t; simp [plainBy]
  | cons x xs ih =>
    intro t
    rw [List.foldl_cons]
    by_cases h : x.f1 = cur
    · rw [if_pos h, wrap_add, ih]
      simp only [plainBy, onCur, if_pos h]
      congr 1
      omega
    · rw [if_neg h, ih]
      simp only [plainBy, onCur, if_neg h]
      congr 1
      omega
theorem sumLegs_plain (cur : Int) (xs : List S41) : sumLegs cur xs = wrap64 (plainBy (onCur cur) xs) := by
  have := sumLegs_from cur xs 0
  rw [show wrap64 0 = 0 from w64 (by omega) (by omega), Int.zero_add] at this
  exact this
theorem sumB_ok {id : Int} {xs : List S41} (h : postB id xs = true) (c : Int) : sumB id xs c = wrap64 (plainBy (onCur c) xs) := by
  simp [sumB, h, selLegs, sumLegs_plain]
theorem postB_leg {id : Int} {xs : List S41} (h : postB id xs = true) : ∀ x ∈ xs, legOkB x = true := by
  simp only [postB, Bool.and_eq_true, List.all_eq_true] at h
  exact h.2

def onAcct (acct : ByteArray) (cur : Int) (x : S41) : Int := if x.f1 = cur ∧ x.f0.toList = acct.toList then x.f2 else 0
theorem sumTo_from (acct : ByteArray) (cur : Int) : ∀ (xs : List S41) (t : Int), xs.foldl (fun s x => if x.f1 = cur ∧ x.f0.toList = acct.toList then wrap64 (s + x.f2) else s) (wrap64 t) = wrap64 (t + plainBy (onAcct acct cur) xs) := by
  intro xs
  induction xs with
  | nil => intro t; simp [plainBy]
  | cons x xs ih =>
    intro t
    rw [List.foldl_cons]
    by_cases h : x.f1 = cur ∧ x.f0.toList = acct.toList
    · rw [if_pos h, wrap_add, ih]
      simp only [plainBy, onAcct, if_pos h]
      congr 1
      omega
    · rw [if_neg h, ih]
      simp only [plainBy, onAcct, if_neg h]
      congr 1
      omega
theorem sumTo_plain (acct : ByteArray) (cur : Int) (xs : List S41) : sumTo acct cur xs = wrap64 (plainBy (onAcct acct cur) xs) := by
  have := sumTo_from acct cur xs 0
  rw [show wrap64 0 = 0 from w64 (by omega) (by omega), Int.zero_add] at this
  exact this
theorem toB_ok {id : Int} {xs : List S41} (h : postB id xs = true) (a : ByteArray) (c : Int) : toB id xs a c = wrap64 (plainBy (onAcct a c) xs) := by
  simp [toB, h, selLegs, sumTo_plain]

/-! ### The law -/
def neg1 (x : S41) : S41 := ⟨x.f0, x.f1, wrap64 (-x.f2)⟩
theorem legOk_range {x : S41} (h : legOkB x = true) : -1000 ≤ x.f2 ∧ x.f2 ≤ 1000 := by
  simp [legOkB, legB] at h
  omega
theorem legOk_neg {x : S41} (h : legOkB x = true) : legOkB (neg1 x) = true := by
  have hr := legOk_range h
  have e : wrap64 (-x.f2) = -x.f2 := w64 (by omega) (by omega)
  show legB x.f0 x.f1 (wrap64 (-x.f2)) = true
  rw [e]
  simp [legOkB, legB] at h ⊢
  refine ⟨⟨⟨h.1.1.1, ?_⟩, ?_⟩, ?_⟩ <;> omega
theorem postB_reverse (id : Int) (xs : List S41) : postB id xs.reverse = postB id xs := by simp [postB, headB]
theorem postB_neg {id : Int} {xs : List S41} (h : postB id xs = true) : postB id (xs.map neg1).reverse = true := by
  rw [postB_reverse]
  have hl := postB_leg h
  simp only [postB, headB, Bool.and_eq_true, List.all_eq_true, List.length_map] at h ⊢
  refine ⟨h.1, fun y hy => ?_⟩
  obtain ⟨x, hx, rfl⟩ := List.mem_map.1 hy
  exact legOk_neg (hl x hx)
theorem neg_on (f : S41 → Int) (hf : ∀ x, -1000 ≤ x.f2 → x.f2 ≤ 1000 → f (neg1 x) = -f x) {xs : List S41} (hl : ∀ x ∈ xs, legOkB x = true) : plainBy f (xs.map neg1).reverse = -plainBy f xs := by
  rw [plainBy_reverse, plainBy_map, ← plainBy_neg]
  exact plainBy_congr _ _ _ fun x hx => hf x (legOk_range (hl x hx)).1 (legOk_range (hl x hx)).2
theorem onAcct_neg (a : ByteArray) (c : Int) (x : S41) (h0 : -1000 ≤ x.f2) (h1 : x.f2 ≤ 1000) : onAcct a c (neg1 x) = -onAcct a c x := by
  have e : wrap64 (-x.f2) = -x.f2 := w64 (by omega) (by omega)
  show (if x.f1 = c ∧ x.f0.toList = a.toList then wrap64 (-x.f2) else 0) = -(if x.f1 = c ∧ x.f0.toList = a.toList then x.f2 else 0)
  rw [e]
  split <;> simp
theorem onCur_neg (c : Int) (x : S41) (h0 : -1000 ≤ x.f2) (h1 : x.f2 ≤ 1000) : onCur c (neg1 x) = -onCur c x := by
  have e : wrap64 (-x.f2) = -x.f2 := w64 (by omega) (by omega)
  show (if x.f1 = c then wrap64 (-x.f2) else 0) = -(if x.f1 = c then x.f2 else 0)
  rw [e]
  split <;> simp
theorem wrap_zero_neg (a : Int) : wrap64 (-a) = 0 ↔ wrap64 a = 0 := by
  unfold wrap64
  omega
theorem fair_reverse {id : Int} {xs : List S41} (h : postB id xs = true) : fairB id xs.reverse = fairB id xs := by
  have h' : postB id xs.reverse = true := by rw [postB_reverse]; exact h
  simp only [fairB, h, h', sumB_ok h, sumB_ok h', plainBy_reverse]
theorem fair_neg {id : Int} {xs : List S41} (h : postB id xs = true) : fairB id (xs.map neg1).reverse = fairB id xs := by
  have h' := postB_neg h
  have hl := postB_leg h
  simp only [fairB, h, h', sumB_ok h, sumB_ok h', neg_on _ (onCur_neg _) hl, wrap_zero_neg]
theorem sound_neg {xs : List S41} (h : Sound xs) : Sound (xs.map neg1).reverse := by
  intro y hy
  obtain ⟨x, hx, rfl⟩ := List.mem_map.1 (List.mem_reverse.1 hy)
  exact h x hx
theorem laws_FnPostTurn_l0 (id : Int) (xs : List S41) (a : ByteArray) (c : Int) (hs : Sound xs) (hn : xs.length ≤ 5) (ha : a.size ≤ 16) (hok : postB id xs = true) : ∀ (m : Nat), m ≤ xs.length →
    EvP (fun k => laws_FnPostTurn.l0 k a c (toB id xs a c) ((m : Int) - 1) id xs id (xs.drop m).reverse id ((xs.drop m).map neg1).reverse) (· = true) := by
  intro m
  induction m with
  | zero =>
    intro _
    refine EvP.step (fun k => by rw [laws_FnPostTurn.l0]) (EvP.neg (by omega) ?_)
    rw [List.drop_zero]
    have hr : postB id xs.reverse = true := by rw [postB_reverse]; exact hok
    have hsr : Sound xs.reverse := fun x hx => hs x (List.mem_reverse.1 hx)
    refine EvP.bind (impl_PostTo_ev id xs.reverse a c hsr (by simp; omega) (by omega)) ?_
    rintro _ rfl
    refine EvP.pos (by rw [toB_ok hok, toB_ok hr, plainBy_reverse]) ?_
    refine EvP.bind (impl_PostTo_ev id (xs.map neg1).reverse a c (sound_neg hs) (by simp; omega) (by omega)) ?_
    rintro _ rfl
    refine EvP.pos (by rw [toB_ok hok, toB_ok (postB_neg hok), neg_on _ (onAcct_neg a c) (postB_leg hok), wrap_neg]) ?_
    refine EvP.bind (impl_PostFair_ev id xs.reverse hsr) ?_
    rintro _ rfl
    refine EvP.bind (impl_PostFair_ev id xs hs) ?_
    rintro _ rfl
    refine EvP.pos (by rw [fair_reverse hok]; simp) ?_
    refine EvP.bind (impl_PostFair_ev id (xs.map neg1).reverse (sound_neg hs)) ?_
    rintro _ rfl
    refine EvP.bind (impl_PostFair_ev id xs hs) ?_
    rintro _ rfl
    exact EvP.now (by rw [fair_neg hok]; simp)
  | succ m ih =>
    intro hm
    have hi0 : (0 : Int) ≤ ((m + 1 : Nat) : Int) - 1 := by omega
    have hi1 : ((m + 1 : Nat) : Int) - 1 < (xs.length : Int) := by omega
    have hlen : (xs.drop (m + 1)).length ≤ 5 := by rw [List.length_drop]; omega
    refine EvP.step (fun k => by rw [laws_FnPostTurn.l0]) (EvP.pos (by omega) (EvP.pos hi0 (EvP.pos hi1 (EvP.pos (by rw [List.length_reverse]; omega) (EvP.pos (by rw [List.length_reverse, List.length_map]; omega) ?_)))))
    have key : xs.drop m = rd_T41 xs (((m + 1 : Nat) : Int) - 1) :: xs.drop (m + 1) := by
      have e : (((m + 1 : Nat) : Int) - 1).toNat = m := by omega
      have hm' : m < xs.length := by omega
      rw [List.drop_eq_getElem_cons hm']
      simp [rd_T41, e, List.getD_eq_getElem?_getD, List.getElem?_eq_getElem hm']
    have step := ih (by omega)
    rw [key] at step
    simp only [List.reverse_cons, List.map_cons] at step
    rw [w64 (x := ((m + 1 : Nat) : Int) - 1 - 1) (by omega) (by omega), show ((m + 1 : Nat) : Int) - 1 - 1 = (m : Int) - 1 by omega]
    exact step
theorem FnPostTurn (l0 : List Int) (g0 : l0.length ≤ maxLen ∧ ∀ x ∈ l0, (Lit.int .u8 x).wf = true) : ∃ k, laws_FnPostTurn.f k l0 = some true := by
  refine EvP.done ?_
  unfold laws_FnPostTurn.f
  refine EvP.split (fun _ => EvP.now rfl) (fun _ => ?_)
  refine EvP.bind (spec_DrawPostTo_ev l0 g0.2) ?_
  rintro ⟨id, xs, a, c⟩ ⟨hf, ha⟩
  simp only at hf ha
  have hs : Sound xs := hf.sound
  have hn : xs.length ≤ 1048576 := by have := hf.len; omega
  refine EvP.bind (impl_PostTo_ev id xs a c hs hn (by omega)) ?_
  rintro _ rfl
  refine EvP.bind (spec_PostTo_ev id xs a c hs hn) ?_
  rintro _ rfl
  refine EvP.pos rfl ?_
  refine EvP.bind (spec_PostOk_ev id xs hs) ?_
  rintro _ rfl
  refine EvP.split (fun hok => ?_) (fun _ => ?_)
  · have := laws_FnPostTurn_l0 id xs a c hs hf.len ha hok xs.length (Nat.le_refl _)
    rw [List.drop_length] at this
    have e : wrap64 ((xs.length : Int) - 1) = (xs.length : Int) - 1 := w64 (by omega) (by omega)
    show EvP (fun k => laws_FnPostTurn.l0 k a c _ (wrap64 ((xs.length : Int) - 1)) id xs id [] id []) _
    rw [e]
    exact this
  · refine EvP.bind (spec_PostTo_ev id xs a c hs hn) ?_
    rintro _ rfl
    exact EvP.now (by simp)


end Go.Proofs.Ytogggmipcldkaaa.Pure
