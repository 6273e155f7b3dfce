/- PostTo of the program answers as the reference's, for any posting, account and currency. -/
import Derived.Test.YtogggmipcldkaaaQFnExactPostTox4
import Derived.Test.YtogggmipcldkaaaBBase
set_option linter.unusedVariables false
set_option linter.unusedSimpArgs false
namespace Go.Proofs.Ytogggmipcldkaaa.Pure
open Go.RowKit Go.Proofs.Ytogggmipcldkaaa.QFnExactPostTo Go.Proofs.YtogggmipcldkaaaW.PrintWords Go.Proofs.YtogggmipcldkaaaW.PrintLast Go.Proofs.YtogggmipcldkaaaW.PrintMore Go.Proofs.Ytogggmipcldkaaa.B

/-! ### AcctOk -/
/-- d letters from place i on are all letters a to z. -/
def lettersB (s : ByteArray) : Nat → Int → Bool
  | 0, _ => true
  | d + 1, i => decide (97 ≤ bt s i) && decide (bt s i ≤ 122) && lettersB s d (i + 1)
def acctB (s : ByteArray) : Bool := decide (1 ≤ s.size) && decide (s.size ≤ 4) && lettersB s s.size 0
theorem spec_AcctOk_l0 (s : ByteArray) (hs : s.size ≤ 140737488351232) : ∀ (d : Nat) (i : Int), 0 ≤ i → i + d = s.size →
    EvP (fun k => spec_AcctOk.l0 k s i) (· = (decide (1 ≤ s.size) && decide (s.size ≤ 4) && lettersB s d i)) := by
  intro d
  induction d with
  | zero =>
    intro i h0 h
    refine EvP.step (fun k => by rw [spec_AcctOk.l0]) ?_
    refine EvP.neg (by omega) ?_
    refine EvP.split (fun h => ?_) (fun h => ?_)
    · refine EvP.now ?_
      have e1 : decide (1 ≤ s.size) = true := decide_eq_true (by omega)
      have e2 : decide ((s.size : Int) ≤ 4) = decide (s.size ≤ 4) := by rw [decide_eq_decide]; omega
      simp only [lettersB, e1, e2, Bool.true_and, Bool.and_true]
    · refine EvP.now ?_
      have e1 : decide (1 ≤ s.size) = false := decide_eq_false (by omega)
      simp only [lettersB, e1, Bool.false_and]
  | succ d ih =>
    intro i h0 h
    refine EvP.step (fun k => by rw [spec_AcctOk.l0]) ?_
    refine EvP.pos (by omega) ?_
    refine EvP.pos (by omega) ?_
    refine EvP.split (fun h1 => EvP.now ?_) (fun h1 => EvP.split (fun h2 => EvP.now ?_) (fun h2 => ?_))
    · have e1 : decide (97 ≤ bt s i) = false := decide_eq_false (by omega)
      simp [lettersB, e1]
    · have e1 : decide (bt s i ≤ 122) = false := decide_eq_false (by omega)
      simp [lettersB, e1]
    · rw [w64 (by omega) (by omega)]
      have e1 : decide (97 ≤ bt s i) = true := decide_eq_true (by omega)
      have e2 : decide (bt s i ≤ 122) = true := decide_eq_true (by omega)
      have := ih (i + 1) (by omega) (by omega)
      simp only [lettersB, e1, e2, Bool.true_and]
      exact this
theorem spec_AcctOk_ev (s : ByteArray) (hs : s.size ≤ 140737488351232) : EvP (fun k => spec_AcctOk.f k s) (· = acctB s) :=
  spec_AcctOk_l0 s hs s.size 0 (by omega) (by omega)
theorem impl_AcctOk_l0 (s : ByteArray) (hs : s.size ≤ 140737488351232) : ∀ (d : Nat) (i : Int), 0 ≤ i → i + d = s.size →
    EvP (fun k => impl_AcctOk.l0 k s (s.size : Int) i) (· = lettersB s d i) := by
  intro d
  induction d with
  | zero =>
    intro i h0 h
    refine EvP.step (fun k => by rw [impl_AcctOk.l0]) ?_
    refine EvP.neg (by omega) ?_
    exact EvP.now (by simp [lettersB])
  | succ d ih =>
    intro i h0 h
    refine EvP.step (fun k => by rw [impl_AcctOk.l0]) ?_
    refine EvP.pos (by omega) (EvP.pos (by omega) (EvP.pos (by omega) ?_))
    refine EvP.split (fun h1 => EvP.now ?_) (fun h1 => EvP.split (fun h2 => EvP.now ?_) (fun h2 => ?_))
    · have e1 : decide (97 ≤ bt s i) = false := decide_eq_false (by omega)
      simp [lettersB, e1]
    · have e1 : decide (bt s i ≤ 122) = false := decide_eq_false (by omega)
      simp [lettersB, e1]
    · rw [w64 (by omega) (by omega)]
      have e1 : decide (97 ≤ bt s i) = true := decide_eq_true (by omega)
      have e2 : decide (bt s i ≤ 122) = true := decide_eq_true (by omega)
      have := ih (i + 1) (by omega) (by omega)
      simp only [lettersB, e1, e2, Bool.true_and]
      exact this
theorem impl_AcctOk_ev (s : ByteArray) (hs : s.size ≤ 140737488351232) : EvP (fun k => impl_AcctOk.f k s) (· = acctB s) := by
  unfold impl_AcctOk.f acctB
  refine EvP.split (fun h => ?_) (fun h => ?_)
  · refine EvP.step (fun k => by rw [impl_AcctOk.j0]) (EvP.pos rfl (EvP.now ?_))
    have e1 : decide (1 ≤ s.size) = false := decide_eq_false (by omega)
    simp [e1]
  · have e1 : decide (1 ≤ s.size) = true := decide_eq_true (by omega)
    refine EvP.step (fun k => by rw [impl_AcctOk.j0]) (EvP.split (fun h1 => EvP.now ?_) (fun h1 => ?_))
    · have := of_decide_eq_true h1
      have e2 : decide (s.size ≤ 4) = false := decide_eq_false (by omega)
      simp [e2]
    · have : ¬ (s.size : Int) > 4 := fun h => h1 (decide_eq_true h)
      have e2 : decide (s.size ≤ 4) = true := decide_eq_true (by omega)
      simp only [e1, e2, Bool.true_and]
      exact impl_AcctOk_l0 s hs s.size 0 (by omega) (by omega)

/-! ### LegOk -/
def legB (a : ByteArray) (c n : Int) : Bool := acctB a && decide (1 ≤ c) && decide (c ≤ 3) && decide (-1000 ≤ n) && decide (n ≤ 1000) && (n != 0)
theorem spec_LegOk_ev (a : ByteArray) (c n : Int) (hs : a.size ≤ 140737488351232) : EvP (fun k => spec_LegOk.f k a c n) (· = legB a c n) := by
  unfold spec_LegOk.f
  refine EvP.bind (spec_AcctOk_ev a hs) ?_
  rintro _ rfl
  cases hA : acctB a
  · exact EvP.neg (by simp) (EvP.now (by simp [legB, hA]))
  · refine EvP.pos rfl ?_
    repeat' with_reducible refine EvP.split (fun _ => ?_) (fun _ => ?_)
    all_goals
      refine EvP.now ?_
      simp [legB, hA]
      try omega
theorem impl_LegOk_ev (a : ByteArray) (c n : Int) (hs : a.size ≤ 140737488351232) : EvP (fun k => impl_LegOk.f k a c n) (· = legB a c n) := by
  unfold impl_LegOk.f
  refine EvP.bind (impl_AcctOk_ev a hs) ?_
  rintro _ rfl
  cases hA : acctB a
  · exact EvP.neg (by simp) (EvP.now (by simp [legB, hA]))
  · refine EvP.pos rfl ?_
    repeat' with_reducible refine EvP.split (fun _ => ?_) (fun _ => ?_)
    all_goals
      refine EvP.now ?_
      simp [legB, hA]
      try omega

theorem szLeg_ev (a0 : ByteArray) (a1 a2 left : Int) (h0 : a0.size ≤ maxLen) (hl : 0 ≤ left) (hl' : left ≤ 1048576) :
    ∃ r, laws_szLeg.f a0 a1 a2 left = some r ∧ r ≤ left ∧ (0 ≤ r → (a0.size : Int) ≤ left) := by
  unfold maxLen at h0
  unfold laws_szLeg.f
  rw [w64 (x := left - (a0.size : Int)) (by omega) (by omega)]
  split
  · exact ⟨-1, rfl, by omega, by omega⟩
  · exact ⟨_, rfl, by omega, by omega⟩

/-! ### Legs: sizes, copies, sameness -/
theorem rd_mid33 (pre rest : List S70) (x : S70) : rd_T70 (pre ++ x :: rest) (pre.length : Int) = x := by simp [rd_T70]
theorem rd_mid36 (pre rest : List S41) (x : S41) : rd_T41 (pre ++ x :: rest) (pre.length : Int) = x := by simp [rd_T41]
def legOf (x : S70) : S41 := ⟨x.f0, x.f1, x.f2⟩
def legKey (x : S41) : List UInt8 × Int × Int := (x.f0.toList, x.f1, x.f2)
theorem szLegS_l0 (xs : List S70) (hx : xs.length ≤ 1048576) (h : ∀ x ∈ xs, x.f0.size ≤ maxLen) : ∀ (rest pre : List S70) (left : Int), xs = pre ++ rest → 0 ≤ left → left ≤ 1048576 →
    EvP (fun k => laws_szLegS.l0 k xs left (pre.length : Int)) (fun r => r ≤ left ∧ (0 ≤ r → ∀ x ∈ rest, (x.f0.size : Int) ≤ 1048576)) := by
  intro rest
  induction rest with
  | nil =>
    intro pre left e h0 h1
    refine EvP.step (fun k => by rw [laws_szLegS.l0]) (EvP.neg (by simp [e]) (EvP.now ⟨Int.le_refl _, by simp⟩))
  | cons x rest ih =>
    intro pre left e h0 h1
    have hl : xs.length = pre.length + (rest.length + 1) := by rw [e]; simp
    refine EvP.step (fun k => by rw [laws_szLegS.l0]) (EvP.pos (by omega) (EvP.pos (by omega) ?_))
    have hr : rd_T70 xs (pre.length : Int) = x := by rw [e]; exact rd_mid33 pre rest x
    rw [hr]
    obtain ⟨r, hr, hle, hb⟩ := szLeg_ev x.f0 x.f1 x.f2 left (h x (by rw [e]; simp)) h0 h1
    simp only [hr, Option.bind_some]
    refine EvP.split (fun hneg => EvP.now ⟨by omega, fun hh => by omega⟩) (fun hpos => ?_)
    have e2 : wrap64 ((pre.length : Int) + 1) = ((pre ++ [x]).length : Int) := by rw [w64 (by omega) (by omega)]; simp
    rw [e2]
    refine (ih (pre ++ [x]) r (by rw [e]; simp) (by omega) (by omega)).mono ?_
    rintro a ⟨ha, hb'⟩
    refine ⟨by omega, fun hh y hy => ?_⟩
    rcases List.mem_cons.1 hy with rfl | hy
    · have := hb (by omega); omega
    · exact hb' hh y hy
theorem szLegS_ev (xs : List S70) (left : Int) (hl : xs.length ≤ maxLen) (h : ∀ x ∈ xs, x.f0.size ≤ maxLen) (h0 : 0 ≤ left) (h1 : left ≤ 1048576) :
    EvP (fun k => laws_szLegS.f k xs left) (fun r => r ≤ left ∧ (0 ≤ r → xs.length ≤ 1048576 ∧ ∀ x ∈ xs, (x.f0.size : Int) ≤ 1048576)) := by
  unfold laws_szLegS.f
  unfold maxLen at hl
  rw [w64 (by omega) (by omega)]
  refine EvP.split (fun hn => EvP.now ⟨by omega, fun hh => by omega⟩) (fun hp => ?_)
  refine (szLegS_l0 xs (by omega) h xs [] _ rfl (by omega) (by omega)).mono ?_
  rintro r ⟨ha, hb⟩
  exact ⟨by omega, fun hh => ⟨by omega, hb hh⟩⟩
theorem toLegS_l0 (xs : List S70) (hx : xs.length ≤ 1048576) : ∀ (rest pre : List S70), xs = pre ++ rest →
    EvP (fun k => laws_toLegS.l0 k xs (pre.map legOf ++ List.replicate rest.length z41) (pre.length : Int)) (· = xs.map legOf) := by
  intro rest
  induction rest with
  | nil =>
    intro pre e
    refine EvP.step (fun k => by rw [laws_toLegS.l0]) (EvP.neg (by simp [e]) (EvP.now ?_))
    simp [e]
  | cons x rest ih =>
    intro pre e
    have hl : xs.length = pre.length + (rest.length + 1) := by rw [e]; simp
    refine EvP.step (fun k => by rw [laws_toLegS.l0]) (EvP.pos (by omega) (EvP.pos (by omega) ?_))
    have hr : rd_T70 xs (pre.length : Int) = x := by rw [e]; exact rd_mid33 pre rest x
    rw [hr]
    simp only [laws_toLeg.f, Option.bind_some]
    refine EvP.pos (by simp; omega) ?_
    have e2 : wrap64 ((pre.length : Int) + 1) = ((pre ++ [x]).length : Int) := by rw [w64 (by omega) (by omega)]; simp
    rw [e2]
    have e3 : (pre.map legOf ++ List.replicate (x :: rest).length z41).set ((pre.length : Int)).toNat (⟨x.f0, x.f1, x.f2⟩ : S41) = (pre ++ [x]).map legOf ++ List.replicate rest.length z41 := by
      simp [List.replicate_succ, legOf]
    rw [e3]
    exact ih (pre ++ [x]) (by rw [e]; simp)
theorem toLegS_ev (xs : List S70) (hx : xs.length ≤ 1048576) : EvP (fun k => laws_toLegS.f k xs) (· = xs.map legOf) := by
  unfold laws_toLegS.f
  refine EvP.pos (by omega) (EvP.pos (by omega) ?_)
  have := toLegS_l0 xs hx xs [] rfl
  simpa using this
theorem eqLegS_l0 (xs ys : List S41) (hx : xs.length ≤ 1048576) : ∀ (r r' pre pre' : List S41), xs = pre ++ r → ys = pre' ++ r' → pre.length = pre'.length → r.length = r'.length →
    EvP (fun k => laws_eqLegS.l0 k xs ys (pre.length : Int)) (· = decide (r.map legKey = r'.map legKey)) := by
  intro r
  induction r with
  | nil =>
    intro r' pre pre' e e' hl hr
    obtain rfl : r' = [] := List.eq_nil_of_length_eq_zero (by simpa using hr.symm)
    exact EvP.step (fun k => by rw [laws_eqLegS.l0]) (EvP.neg (by simp [e]) (EvP.now (by simp)))
  | cons x r ih =>
    intro r' pre pre' e e' hl hr
    cases r' with
    | nil => simp at hr
    | cons y r' =>
      have h1 : xs.length = pre.length + (r.length + 1) := by rw [e]; simp
      have h2 : ys.length = pre'.length + (r'.length + 1) := by rw [e']; simp
      refine EvP.step (fun k => by rw [laws_eqLegS.l0]) (EvP.pos (by omega) (EvP.pos (by omega) (EvP.pos (by simp at hr; omega) ?_)))
      have hrx : rd_T41 xs (pre.length : Int) = x := by rw [e]; exact rd_mid36 pre r x
      have hry : rd_T41 ys (pre.length : Int) = y := by rw [e', hl]; exact rd_mid36 pre' r' y
      rw [hrx, hry]
      have e2 : wrap64 ((pre.length : Int) + 1) = ((pre ++ [x]).length : Int) := by rw [w64 (by omega) (by omega)]; simp
      have step := ih r' (pre ++ [x]) (pre' ++ [y]) (by rw [e]; simp) (by rw [e']; simp) (by simp [hl]) (by simpa using hr)
      rw [← e2] at step
      have hk : laws_eqLeg.f x.f0 x.f1 x.f2 y.f0 y.f1 y.f2 = some (decide (legKey x = legKey y)) := by
        unfold laws_eqLeg.f legKey
        by_cases c1 : x.f0.toList = y.f0.toList <;> by_cases c2 : x.f1 = y.f1 <;> by_cases c3 : x.f2 = y.f2 <;> simp [c1, c2, c3]
      simp only [hk, Option.bind_some]
      by_cases c : legKey x = legKey y
      · refine EvP.pos (by simp [c]) (step.mono ?_)
        rintro _ rfl
        simp [c]
      · exact EvP.neg (by simp [c]) (EvP.now (by simp [c]))
theorem eqLegS_ev (xs ys : List S41) (hx : xs.length ≤ 1048576) : EvP (fun k => laws_eqLegS.f k xs ys) (· = decide (xs.map legKey = ys.map legKey)) := by
  unfold laws_eqLegS.f
  refine EvP.split (fun h => ?_) (fun h => EvP.now ?_)
  · exact eqLegS_l0 xs ys hx xs ys [] [] rfl rfl rfl (by omega)
  · have : xs.map legKey ≠ ys.map legKey := fun he => h (by have := congrArg List.length he; simp at this; omega)
    simp [this]
/-! ### A posting: size, copy, sameness -/
theorem szPost_ev (a : Int) (xs : List S70) (left : Int) (hl : xs.length ≤ maxLen) (h : ∀ x ∈ xs, x.f0.size ≤ maxLen) (h0 : 0 ≤ left) (h1 : left ≤ 1048576) :
    EvP (fun k => laws_szPost.f k a xs left) (fun r => r ≤ left ∧ (0 ≤ r → xs.length ≤ 1048576 ∧ ∀ x ∈ xs, (x.f0.size : Int) ≤ 1048576)) := by
  unfold laws_szPost.f
  refine EvP.bind (szLegS_ev xs left hl h h0 h1) ?_
  rintro r ⟨hr, hb⟩
  exact EvP.split (fun hn => EvP.now ⟨by omega, by omega⟩) (fun hp => EvP.now ⟨hr, hb⟩)
theorem toPost_ev (a : Int) (xs : List S70) (hx : xs.length ≤ 1048576) : EvP (fun k => laws_toPost.f k a xs) (· = (a, xs.map legOf)) := by
  unfold laws_toPost.f
  refine EvP.bind (toLegS_ev xs hx) ?_
  rintro _ rfl
  exact EvP.now rfl
def postSameB (a : Int) (xs : List S41) (b : Int) (ys : List S41) : Bool := decide (a = b ∧ xs.map legKey = ys.map legKey)
theorem eqPost_ev (a : Int) (xs : List S41) (b : Int) (ys : List S41) (hx : xs.length ≤ 1048576) : EvP (fun k => laws_eqPost.f k a xs b ys) (· = postSameB a xs b ys) := by
  unfold laws_eqPost.f postSameB
  refine EvP.split (fun h => EvP.bind (eqLegS_ev xs ys hx) ?_) (fun h => EvP.now (by simp [h]))
  rintro _ rfl
  by_cases c : xs.map legKey = ys.map legKey
  · exact EvP.pos (by simp [c]) (EvP.now (by simp [h, c]))
  · exact EvP.neg (by simp [c]) (EvP.now (by simp [c]))

/-! ### PostOk -/
theorem rd_midL (pre rest : List S41) (x : S41) : rd_T41 (pre ++ x :: rest) (pre.length : Int) = x := by simp [rd_T41]
def legOkB (x : S41) : Bool := legB x.f0 x.f1 x.f2
def headB (id : Int) (xs : List S41) : Bool := decide (0 ≤ id) && decide (id ≤ 99) && decide (1 ≤ xs.length) && decide (xs.length ≤ 4)
def postB (id : Int) (xs : List S41) : Bool := headB id xs && xs.all legOkB
/-- Legs whose texts are no longer than texts are. -/
def Sound (xs : List S41) : Prop := ∀ x ∈ xs, x.f0.size ≤ 140737488351232
theorem spec_PostOk_l0 (id : Int) (xs : List S41) (hx : Sound xs) (h4 : xs.length ≤ 4) : ∀ (rest pre : List S41), xs = pre ++ rest → EvP (fun k => spec_PostOk.l0 k (pre.length : Int) id xs) (· = rest.all legOkB) := by
  intro rest
  induction rest with
  | nil =>
    intro pre e
    refine EvP.step (fun k => by rw [spec_PostOk.l0]) ?_
    exact EvP.neg (by simp [e]) (EvP.now rfl)
  | cons x rest ih =>
    intro pre e
    have hl : xs.length = pre.length + (rest.length + 1) := by rw [e]; simp
    refine EvP.step (fun k => by rw [spec_PostOk.l0]) (EvP.pos (by omega) (EvP.pos (by omega) ?_))
    have hr : rd_T41 xs (pre.length : Int) = x := by rw [e]; exact rd_midL pre rest x
    rw [hr]
    have e2 : wrap64 ((pre.length : Int) + 1) = ((pre ++ [x]).length : Int) := by rw [w64 (by omega) (by omega)]; simp
    refine EvP.bind (spec_LegOk_ev x.f0 x.f1 x.f2 (hx x (by rw [e]; simp))) ?_
    rintro _ rfl
    have step := ih (pre ++ [x]) (by rw [e]; simp)
    rw [e2]
    cases hb : legB x.f0 x.f1 x.f2
    · exact EvP.neg (by simp) (EvP.now (by simp [legOkB, hb]))
    · refine EvP.pos rfl (step.mono ?_)
      rintro _ rfl
      simp [legOkB, hb]
theorem spec_PostOk_ev (id : Int) (xs : List S41) (hx : Sound xs) : EvP (fun k => spec_PostOk.f k id xs) (· = postB id xs) := by
  unfold spec_PostOk.f
  refine EvP.split (fun h => ?_) (fun h1 => EvP.split (fun h => ?_) (fun h2 => EvP.split (fun h => ?_) (fun h3 => ?_)))
  · refine EvP.step (fun k => by rw [spec_PostOk.j0]) (EvP.pos rfl (EvP.now ?_))
    have e : decide (0 ≤ id) = false := decide_eq_false (by omega)
    simp [postB, headB, e]
  · refine EvP.step (fun k => by rw [spec_PostOk.j0]) (EvP.pos rfl (EvP.now ?_))
    have e : decide (id ≤ 99) = false := decide_eq_false (by omega)
    simp [postB, headB, e]
  · refine EvP.step (fun k => by rw [spec_PostOk.j0]) (EvP.pos rfl (EvP.now ?_))
    have e : decide (1 ≤ xs.length) = false := decide_eq_false (by omega)
    simp [postB, headB, e]
  · refine EvP.step (fun k => by rw [spec_PostOk.j0]) (EvP.split (fun h => EvP.now ?_) (fun h => ?_))
    · have := of_decide_eq_true h
      have e : decide (xs.length ≤ 4) = false := decide_eq_false (by omega)
      simp [postB, headB, e]
    · have h4 : ¬ (xs.length : Int) > 4 := fun g => h (decide_eq_true g)
      have e1 : decide (0 ≤ id) = true := decide_eq_true (by omega)
      have e2 : decide (id ≤ 99) = true := decide_eq_true (by omega)
      have e3 : decide (1 ≤ xs.length) = true := decide_eq_true (by omega)
      have e4 : decide (xs.length ≤ 4) = true := decide_eq_true (by omega)
      simp only [postB, headB, e1, e2, e3, e4, Bool.true_and]
      exact spec_PostOk_l0 id xs hx (by omega) xs [] rfl
theorem impl_PostOk_l0 (xs : List S41) (hx : Sound xs) (h4 : xs.length ≤ 4) : ∀ (rest pre : List S41), xs = pre ++ rest → EvP (fun k => impl_PostOk.l0 k xs (xs.length : Int) (pre.length : Int)) (· = rest.all legOkB) := by
  intro rest
  induction rest with
  | nil =>
    intro pre e
    refine EvP.step (fun k => by rw [impl_PostOk.l0]) ?_
    exact EvP.neg (by simp [e]) (EvP.now rfl)
  | cons x rest ih =>
    intro pre e
    have hl : xs.length = pre.length + (rest.length + 1) := by rw [e]; simp
    refine EvP.step (fun k => by rw [impl_PostOk.l0]) (EvP.pos (by omega) (EvP.pos (by omega) (EvP.pos (by omega) ?_)))
    have hr : rd_T41 xs (pre.length : Int) = x := by rw [e]; exact rd_midL pre rest x
    rw [hr]
    have e2 : wrap64 ((pre.length : Int) + 1) = ((pre ++ [x]).length : Int) := by rw [w64 (by omega) (by omega)]; simp
    refine EvP.bind (impl_LegOk_ev x.f0 x.f1 x.f2 (hx x (by rw [e]; simp))) ?_
    rintro _ rfl
    have step := ih (pre ++ [x]) (by rw [e]; simp)
    rw [e2]
    cases hb : legB x.f0 x.f1 x.f2
    · exact EvP.neg (by simp) (EvP.now (by simp [legOkB, hb]))
    · refine EvP.pos rfl (step.mono ?_)
      rintro _ rfl
      simp [legOkB, hb]
theorem impl_PostOk_ev (id : Int) (xs : List S41) (hx : Sound xs) : EvP (fun k => impl_PostOk.f k id xs) (· = postB id xs) := by
  unfold impl_PostOk.f
  refine EvP.split (fun h => ?_) (fun h1 => EvP.split (fun h => ?_) (fun h2 => EvP.split (fun h => ?_) (fun h3 => ?_)))
  · refine EvP.step (fun k => by rw [impl_PostOk.j0]) (EvP.pos rfl (EvP.now ?_))
    have e : decide (0 ≤ id) = false := decide_eq_false (by omega)
    simp [postB, headB, e]
  · refine EvP.step (fun k => by rw [impl_PostOk.j0]) (EvP.pos rfl (EvP.now ?_))
    have e : decide (id ≤ 99) = false := decide_eq_false (by omega)
    simp [postB, headB, e]
  · refine EvP.step (fun k => by rw [impl_PostOk.j0]) (EvP.pos rfl (EvP.now ?_))
    have e : decide (1 ≤ xs.length) = false := decide_eq_false (by omega)
    simp [postB, headB, e]
  · refine EvP.step (fun k => by rw [impl_PostOk.j0]) (EvP.split (fun h => EvP.now ?_) (fun h => ?_))
    · have := of_decide_eq_true h
      have e : decide (xs.length ≤ 4) = false := decide_eq_false (by omega)
      simp [postB, headB, e]
    · have h4 : ¬ (xs.length : Int) > 4 := fun g => h (decide_eq_true g)
      have e1 : decide (0 ≤ id) = true := decide_eq_true (by omega)
      have e2 : decide (id ≤ 99) = true := decide_eq_true (by omega)
      have e3 : decide (1 ≤ xs.length) = true := decide_eq_true (by omega)
      have e4 : decide (xs.length ≤ 4) = true := decide_eq_true (by omega)
      simp only [postB, headB, e1, e2, e3, e4, Bool.true_and]
      exact impl_PostOk_l0 xs hx (by omega) xs [] rfl

/-! ### PostTo -/
theorem spec_l1To_l0 (acct : ByteArray) (cur id : Int) (xs : List S41) (h4 : xs.length ≤ 1048576) : ∀ (rest pre : List S41), xs = pre ++ rest → EvP (fun k => spec_l1To.l0 k acct cur (sumTo acct cur pre) (pre.length : Int) id xs) (· = sumTo acct cur xs) := by
  intro rest
  induction rest with
  | nil =>
    intro pre e
    refine EvP.step (fun k => by rw [spec_l1To.l0]) ?_
    exact EvP.neg (by simp [e]) (EvP.now (by simp [e]))
  | cons x rest ih =>
    intro pre e
    have hl : xs.length = pre.length + (rest.length + 1) := by rw [e]; simp
    refine EvP.step (fun k => by rw [spec_l1To.l0]) (EvP.pos (by omega) (EvP.pos (by omega) ?_))
    have hr : rd_T41 xs (pre.length : Int) = x := by rw [e]; exact rd_midL pre rest x
    rw [hr]
    have e2 : wrap64 ((pre.length : Int) + 1) = ((pre ++ [x]).length : Int) := by rw [w64 (by omega) (by omega)]; simp
    have step := ih (pre ++ [x]) (by rw [e]; simp)
    rw [sumTo_snoc] at step
    rw [e2]
    refine EvP.split (fun h => EvP.split (fun h' => ?_) (fun h' => ?_)) (fun h => ?_)
    · rw [if_pos ⟨h, h'⟩] at step
      exact step
    · rw [if_neg (fun g => h' g.2)] at step
      exact step
    · rw [if_neg (fun g => h g.1)] at step
      exact step
theorem spec_l1To_ev (id : Int) (xs : List S41) (acct : ByteArray) (cur : Int) (h4 : xs.length ≤ 1048576) : EvP (fun k => spec_l1To.f k id xs acct cur) (· = sumTo acct cur xs) :=
  spec_l1To_l0 acct cur id xs h4 xs [] rfl
def toB (id : Int) (xs : List S41) (acct : ByteArray) (cur : Int) : Int := sumTo acct cur (selLegs (postB id xs) xs)
theorem spec_PostTo_ev (id : Int) (xs : List S41) (acct : ByteArray) (cur : Int) (hx : Sound xs) (h4 : xs.length ≤ 1048576) : EvP (fun k => spec_PostTo.f k id xs acct cur) (· = toB id xs acct cur) := by
  unfold spec_PostTo.f
  refine EvP.bind (spec_PostOk_ev id xs hx) ?_
  rintro _ rfl
  cases hb : postB id xs
  · exact EvP.neg (by simp) (EvP.now (by simp [toB, hb, selLegs, sumTo]))
  · refine EvP.pos rfl (EvP.bind (spec_l1To_ev id xs acct cur h4) ?_)
    rintro _ rfl
    exact EvP.now (by simp [toB, hb, selLegs])
theorem impl_PostTo_ev (id : Int) (xs : List S41) (acct : ByteArray) (cur : Int) (hx : Sound xs) (h4 : xs.length ≤ 1048576) (ha : acct.size ≤ 140737488351232) : EvP (fun k => impl_PostTo.f k id xs acct cur) (· = toB id xs acct cur) := by
  unfold impl_PostTo.f
  refine EvP.bind (impl_PostOk_ev id xs hx) ?_
  rintro _ rfl
  exact EvP.pos ⟨fun x h => by have := hx x h; omega, by omega, h4⟩ (EvP.now rfl)

/-! ### A posting that comes in -/
theorem postSame_refl (a : Int) (xs : List S41) : postSameB a xs a xs = true := by simp [postSameB]
theorem sound_of {xs : List S70} (h : ∀ x ∈ xs, (x.f0.size : Int) ≤ 1048576) : Sound (xs.map legOf) := by
  intro y hy
  obtain ⟨x, hx, rfl⟩ := List.mem_map.1 hy
  have := h x hx
  show x.f0.size ≤ _
  omega

theorem FnExactPostTo (a0_0 : Int) (l0_1 : List S70) (a1 : ByteArray) (a2 : Int)
    (g0 : (Lit.int .i64 a0_0).wf = true ∧ l0_1.length ≤ maxLen ∧ ∀ x ∈ l0_1, x.f0.size ≤ maxLen ∧ (Lit.int .i64 x.f1).wf = true ∧ (Lit.int .i64 x.f2).wf = true) (g1 : a1.size ≤ maxLen) (g2 : (Lit.int .i64 a2).wf = true) :
    ∃ k, laws_FnExactPostTo.f k a0_0 l0_1 a1 a2 = some true := by
  refine EvP.done ?_
  unfold laws_FnExactPostTo.f
  refine EvP.split (fun _ => EvP.now rfl) (fun ha => ?_)
  refine EvP.bind (szPost_ev a0_0 l0_1 1048576 g0.2.1 (fun x hx => (g0.2.2 x hx).1) (by omega) (by omega)) ?_
  rintro r ⟨hr, hb⟩
  refine EvP.split (fun _ => EvP.now rfl) (fun hp => ?_)
  obtain ⟨n0, s0⟩ := hb (by omega)
  have hs := sound_of s0
  have hn : (l0_1.map legOf).length ≤ 1048576 := by simpa using n0
  refine EvP.bind (toPost_ev a0_0 l0_1 n0) ?_
  rintro _ rfl
  refine EvP.bind (spec_PostTo_ev _ _ _ _ hs hn) ?_
  rintro _ rfl
  refine EvP.bind (toPost_ev a0_0 l0_1 n0) ?_
  rintro _ rfl
  refine EvP.bind (impl_PostTo_ev _ _ _ _ hs hn (by omega)) ?_
  rintro _ rfl
  refine EvP.pos rfl ?_
  refine EvP.bind (toPost_ev a0_0 l0_1 n0) ?_
  rintro _ rfl
  refine EvP.bind (eqPost_ev _ _ _ _ hn) ?_
  rintro _ rfl
  exact EvP.pos (postSame_refl _ _) (EvP.now rfl)


end Go.Proofs.Ytogggmipcldkaaa.Pure
