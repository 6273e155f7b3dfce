/- A posting is written as the reference writes it, for every posting, no condition. -/
import Derived.Test.YtdjohhobmipagaaDoorQFnExactPostTextx5
import Derived.Test.YtdjohhobmipagaaDoorBBase
set_option linter.unusedVariables false
set_option linter.unusedSimpArgs false
namespace Go.Proofs.YtdjohhobmipagaaDoor.Pure
open Go.RowKit Go.Proofs.YtdjohhobmipagaaDoor.QFnExactPostText Go.Proofs.YtdjohhobmipagaaDoorW.PrintWords Go.Proofs.YtdjohhobmipagaaDoorW.PrintLast Go.Proofs.YtdjohhobmipagaaDoorW.PrintMore Go.Proofs.YtdjohhobmipagaaDoor.B

/-! ### AcctOk -/
/-- d letters from place i on are all letters a to z. -/
def lettersB (s : ByteArray) : Nat → Int → Bool
  | 0, _ => true
  | d + 1, i => decide (97 ≤ bt s i) && decide (bt s i ≤ 122) && lettersB s d (i + 1)
def acctB (s : ByteArray) : Bool := decide (1 ≤ s.size) && decide (s.size ≤ 4) && lettersB s s.size 0
theorem spec_AcctOk_l0 (s : ByteArray) (hs : s.size ≤ 140737488351232) : ∀ (d : Nat) (i : Int), 0 ≤ i → i + d = s.size →
    EvP (fun k => spec_AcctOk.l0 k s i) (· = (decide (1 ≤ s.size) && decide (s.size ≤ 4) && lettersB s d i)) := by
  intro d
  induction d with
  | zero =>
    intro i h0 h
    refine EvP.step (fun k => by rw [spec_AcctOk.l0]) ?_
    refine EvP.neg (by omega) ?_
    refine EvP.split (fun h => ?_) (fun h => ?_)
    · refine EvP.now ?_
      have e1 : decide (1 ≤ s.size) = true := decide_eq_true (by omega)
      have e2 : decide ((s.size : Int) ≤ 4) = decide (s.size ≤ 4) := by rw [decide_eq_decide]; omega
      simp only [lettersB, e1, e2, Bool.true_and, Bool.and_true]
    · refine EvP.now ?_
      have e1 : decide (1 ≤ s.size) = false := decide_eq_false (by omega)
      simp only [lettersB, e1, Bool.false_and]
  | succ d ih =>
    intro i h0 h
    refine EvP.step (fun k => by rw [spec_AcctOk.l0]) ?_
    refine EvP.pos (by omega) ?_
    refine EvP.pos (by omega) ?_
    refine EvP.split (fun h1 => EvP.now ?_) (fun h1 => EvP.split (fun h2 => EvP.now ?_) (fun h2 => ?_))
    · have e1 : decide (97 ≤ bt s i) = false := decide_eq_false (by omega)
      simp [lettersB, e1]
    · have e1 : decide (bt s i ≤ 122) = false := decide_eq_false (by omega)
      simp [lettersB, e1]
    · rw [w64 (by omega) (by omega)]
      have e1 : decide (97 ≤ bt s i) = true := decide_eq_true (by omega)
      have e2 : decide (bt s i ≤ 122) = true := decide_eq_true (by omega)
      have := ih (i + 1) (by omega) (by omega)
      simp only [lettersB, e1, e2, Bool.true_and]
      exact this
theorem spec_AcctOk_ev (s : ByteArray) (hs : s.size ≤ 140737488351232) : EvP (fun k => spec_AcctOk.f k s) (· = acctB s) :=
  spec_AcctOk_l0 s hs s.size 0 (by omega) (by omega)
theorem impl_AcctOk_l0 (s : ByteArray) (hs : s.size ≤ 140737488351232) : ∀ (d : Nat) (i : Int), 0 ≤ i → i + d = s.size →
    EvP (fun k => impl_AcctOk.l0 k s (s.size : Int) i) (· = lettersB s d i) := by
  intro d
  induction d with
  | zero =>
    intro i h0 h
    refine EvP.step (fun k => by rw [impl_AcctOk.l0]) ?_
    refine EvP.neg (by omega) ?_
    exact EvP.now (by simp [lettersB])
  | succ d ih =>
    intro i h0 h
    refine EvP.step (fun k => by rw [impl_AcctOk.l0]) ?_
    refine EvP.pos (by omega) (EvP.pos (by omega) (EvP.pos (by omega) ?_))
    refine EvP.split (fun h1 => EvP.now ?_) (fun h1 => EvP.split (fun h2 => EvP.now ?_) (fun h2 => ?_))
    · have e1 : decide (97 ≤ bt s i) = false := decide_eq_false (by omega)
      simp [lettersB, e1]
    · have e1 : decide (bt s i ≤ 122) = false := decide_eq_false (by omega)
      simp [lettersB, e1]
    · rw [w64 (by omega) (by omega)]
      have e1 : decide (97 ≤ bt s i) = true := decide_eq_true (by omega)
      have e2 : decide (bt s i ≤ 122) = true := decide_eq_true (by omega)
      have := ih (i + 1) (by omega) (by omega)
      simp only [lettersB, e1, e2, Bool.true_and]
      exact this
theorem impl_AcctOk_ev (s : ByteArray) (hs : s.size ≤ 140737488351232) : EvP (fun k => impl_AcctOk.f k s) (· = acctB s) := by
  unfold impl_AcctOk.f acctB
  refine EvP.split (fun h => ?_) (fun h => ?_)
  · refine EvP.step (fun k => by rw [impl_AcctOk.j0]) (EvP.pos rfl (EvP.now ?_))
    have e1 : decide (1 ≤ s.size) = false := decide_eq_false (by omega)
    simp [e1]
  · have e1 : decide (1 ≤ s.size) = true := decide_eq_true (by omega)
    refine EvP.step (fun k => by rw [impl_AcctOk.j0]) (EvP.split (fun h1 => EvP.now ?_) (fun h1 => ?_))
    · have := of_decide_eq_true h1
      have e2 : decide (s.size ≤ 4) = false := decide_eq_false (by omega)
      simp [e2]
    · have : ¬ (s.size : Int) > 4 := fun h => h1 (decide_eq_true h)
      have e2 : decide (s.size ≤ 4) = true := decide_eq_true (by omega)
      simp only [e1, e2, Bool.true_and]
      exact impl_AcctOk_l0 s hs s.size 0 (by omega) (by omega)

/-! ### LegOk -/
def legB (a : ByteArray) (c n : Int) : Bool := acctB a && decide (1 ≤ c) && decide (c ≤ 3) && decide (-1000 ≤ n) && decide (n ≤ 1000) && (n != 0)
theorem spec_LegOk_ev (a : ByteArray) (c n : Int) (hs : a.size ≤ 140737488351232) : EvP (fun k => spec_LegOk.f k a c n) (· = legB a c n) := by
  unfold spec_LegOk.f
  refine EvP.bind (spec_AcctOk_ev a hs) ?_
  rintro _ rfl
  cases hA : acctB a
  · exact EvP.neg (by simp) (EvP.now (by simp [legB, hA]))
  · refine EvP.pos rfl ?_
    repeat' with_reducible refine EvP.split (fun _ => ?_) (fun _ => ?_)
    all_goals
      refine EvP.now ?_
      simp [legB, hA]
      try omega
theorem impl_LegOk_ev (a : ByteArray) (c n : Int) (hs : a.size ≤ 140737488351232) : EvP (fun k => impl_LegOk.f k a c n) (· = legB a c n) := by
  unfold impl_LegOk.f
  refine EvP.bind (impl_AcctOk_ev a hs) ?_
  rintro _ rfl
  cases hA : acctB a
  · exact EvP.neg (by simp) (EvP.now (by simp [legB, hA]))
  · refine EvP.pos rfl ?_
    repeat' with_reducible refine EvP.split (fun _ => ?_) (fun _ => ?_)
    all_goals
      refine EvP.now ?_
      simp [legB, hA]
      try omega

theorem szLeg_ev (a0 : ByteArray) (a1 a2 left : Int) (h0 : a0.size ≤ maxLen) (hl : 0 ≤ left) (hl' : left ≤ 1048576) :
    ∃ r, laws_szLeg.f a0 a1 a2 left = some r ∧ r ≤ left ∧ (0 ≤ r → (a0.size : Int) ≤ left) := by
  unfold maxLen at h0
  unfold laws_szLeg.f
  rw [w64 (x := left - (a0.size : Int)) (by omega) (by omega)]
  split
  · exact ⟨-1, rfl, by omega, by omega⟩
  · exact ⟨_, rfl, by omega, by omega⟩

/-! ### Legs: sizes, copies, sameness -/
theorem rd_mid33 (pre rest : List S75) (x : S75) : rd_T75 (pre ++ x :: rest) (pre.length : Int) = x := by simp [rd_T75]
theorem rd_mid36 (pre rest : List S45) (x : S45) : rd_T45 (pre ++ x :: rest) (pre.length : Int) = x := by simp [rd_T45]
def legOf (x : S75) : S45 := ⟨x.f0, x.f1, x.f2⟩
def legKey (x : S45) : List UInt8 × Int × Int := (x.f0.toList, x.f1, x.f2)
theorem szLegS_l0 (xs : List S75) (hx : xs.length ≤ 1048576) (h : ∀ x ∈ xs, x.f0.size ≤ maxLen) : ∀ (rest pre : List S75) (left : Int), xs = pre ++ rest → 0 ≤ left → left ≤ 1048576 →
    EvP (fun k => laws_szLegS.l0 k xs left (pre.length : Int)) (fun r => r ≤ left ∧ (0 ≤ r → ∀ x ∈ rest, (x.f0.size : Int) ≤ 1048576)) := by
  intro rest
  induction rest with
  | nil =>
    intro pre left e h0 h1
    refine EvP.step (fun k => by rw [laws_szLegS.l0]) (EvP.neg (by simp [e]) (EvP.now ⟨Int.le_refl _, by simp⟩))
  | cons x rest ih =>
    intro pre left e h0 h1
    have hl : xs.length = pre.length + (rest.length + 1) := by rw [e]; simp
    refine EvP.step (fun k => by rw [laws_szLegS.l0]) (EvP.pos (by omega) (EvP.pos (by omega) ?_))
    have hr : rd_T75 xs (pre.length : Int) = x := by rw [e]; exact rd_mid33 pre rest x
    rw [hr]
    obtain ⟨r, hr, hle, hb⟩ := szLeg_ev x.f0 x.f1 x.f2 left (h x (by rw [e]; simp)) h0 h1
    simp only [hr, Option.bind_some]
    refine EvP.split (fun hneg => EvP.now ⟨by omega, fun hh => by omega⟩) (fun hpos => ?_)
    have e2 : wrap64 ((pre.length : Int) + 1) = ((pre ++ [x]).length : Int) := by rw [w64 (by omega) (by omega)]; simp
    rw [e2]
    refine (ih (pre ++ [x]) r (by rw [e]; simp) (by omega) (by omega)).mono ?_
    rintro a ⟨ha, hb'⟩
    refine ⟨by omega, fun hh y hy => ?_⟩
    rcases List.mem_cons.1 hy with rfl | hy
    · have := hb (by omega); omega
    · exact hb' hh y hy
theorem szLegS_ev (xs : List S75) (left : Int) (hl : xs.length ≤ maxLen) (h : ∀ x ∈ xs, x.f0.size ≤ maxLen) (h0 : 0 ≤ left) (h1 : left ≤ 1048576) :
    EvP (fun k => laws_szLegS.f k xs left) (fun r => r ≤ left ∧ (0 ≤ r → xs.length ≤ 1048576 ∧ ∀ x ∈ xs, (x.f0.size : Int) ≤ 1048576)) := by
  unfold laws_szLegS.f
  unfold maxLen at hl
  rw [w64 (by omega) (by omega)]
  refine EvP.split (fun hn => EvP.now ⟨by omega, fun hh => by omega⟩) (fun hp => ?_)
  refine (szLegS_l0 xs (by omega) h xs [] _ rfl (by omega) (by omega)).mono ?_
  rintro r ⟨ha, hb⟩
  exact ⟨by omega, fun hh => ⟨by omega, hb hh⟩⟩
theorem toLegS_l0 (xs : List S75) (hx : xs.length ≤ 1048576) : ∀ (rest pre : List S75), xs = pre ++ rest →
    EvP (fun k => laws_toLegS.l0 k xs (pre.map legOf ++ List.replicate rest.length z45) (pre.length : Int)) (· = xs.map legOf) := by
  intro rest
  induction rest with
  | nil =>
    intro pre e
    refine EvP.step (fun k => by rw [laws_toLegS.l0]) (EvP.neg (by simp [e]) (EvP.now ?_))
    simp [e]
  | cons x rest ih =>
    intro pre e
    have hl : xs.length = pre.length + (rest.length + 1) := by rw [e]; simp
    refine EvP.step (fun k => by rw [laws_toLegS.l0]) (EvP.pos (by omega) (EvP.pos (by omega) ?_))
    have hr : rd_T75 xs (pre.length : Int) = x := by rw [e]; exact rd_mid33 pre rest x
    rw [hr]
    simp only [laws_toLeg.f, Option.bind_some]
    refine EvP.pos (by simp; omega) ?_
    have e2 : wrap64 ((pre.length : Int) + 1) = ((pre ++ [x]).length : Int) := by rw [w64 (by omega) (by omega)]; simp
    rw [e2]
    have e3 : (pre.map legOf ++ List.replicate (x :: rest).length z45).set ((pre.length : Int)).toNat (⟨x.f0, x.f1, x.f2⟩ : S45) = (pre ++ [x]).map legOf ++ List.replicate rest.length z45 := by
      simp [List.replicate_succ, legOf]
    rw [e3]
    exact ih (pre ++ [x]) (by rw [e]; simp)
theorem toLegS_ev (xs : List S75) (hx : xs.length ≤ 1048576) : EvP (fun k => laws_toLegS.f k xs) (· = xs.map legOf) := by
  unfold laws_toLegS.f
  refine EvP.pos (by omega) (EvP.pos (by omega) ?_)
  have := toLegS_l0 xs hx xs [] rfl
  simpa using this
theorem eqLegS_l0 (xs ys : List S45) (hx : xs.length ≤ 1048576) : ∀ (r r' pre pre' : List S45), xs = pre ++ r → ys = pre' ++ r' → pre.length = pre'.length → r.length = r'.length →
    EvP (fun k => laws_eqLegS.l0 k xs ys (pre.length : Int)) (· = decide (r.map legKey = r'.map legKey)) := by
  intro r
  induction r with
  | nil =>
    intro r' pre pre' e e' hl hr
    obtain rfl : r' = [] := List.eq_nil_of_length_eq_zero (by simpa using hr.symm)
    exact EvP.step (fun k => by rw [laws_eqLegS.l0]) (EvP.neg (by simp [e]) (EvP.now (by simp)))
  | cons x r ih =>
    intro r' pre pre' e e' hl hr
    cases r' with
    | nil => simp at hr
    | cons y r' =>
      have h1 : xs.length = pre.length + (r.length + 1) := by rw [e]; simp
      have h2 : ys.length = pre'.length + (r'.length + 1) := by rw [e']; simp
      refine EvP.step (fun k => by rw [laws_eqLegS.l0]) (EvP.pos (by omega) (EvP.pos (by omega) (EvP.pos (by simp at hr; omega) ?_)))
      have hrx : rd_T45 xs (pre.length : Int) = x := by rw [e]; exact rd_mid36 pre r x
      have hry : rd_T45 ys (pre.length : Int) = y := by rw [e', hl]; exact rd_mid36 pre' r' y
      rw [hrx, hry]
      have e2 : wrap64 ((pre.length : Int) + 1) = ((pre ++ [x]).length : Int) := by rw [w64 (by omega) (by omega)]; simp
      have step := ih r' (pre ++ [x]) (pre' ++ [y]) (by rw [e]; simp) (by rw [e']; simp) (by simp [hl]) (by simpa using hr)
      rw [← e2] at step
      have hk : laws_eqLeg.f x.f0 x.f1 x.f2 y.f0 y.f1 y.f2 = some (decide (legKey x = legKey y)) := by
        unfold laws_eqLeg.f legKey
        by_cases c1 : x.f0.toList = y.f0.toList <;> by_cases c2 : x.f1 = y.f1 <;> by_cases c3 : x.f2 = y.f2 <;> simp [c1, c2, c3]
      simp only [hk, Option.bind_some]
      by_cases c : legKey x = legKey y
      · refine EvP.pos (by simp [c]) (step.mono ?_)
        rintro _ rfl
        simp [c]
      · exact EvP.neg (by simp [c]) (EvP.now (by simp [c]))
theorem eqLegS_ev (xs ys : List S45) (hx : xs.length ≤ 1048576) : EvP (fun k => laws_eqLegS.f k xs ys) (· = decide (xs.map legKey = ys.map legKey)) := by
  unfold laws_eqLegS.f
  refine EvP.split (fun h => ?_) (fun h => EvP.now ?_)
  · exact eqLegS_l0 xs ys hx xs ys [] [] rfl rfl rfl (by omega)
  · have : xs.map legKey ≠ ys.map legKey := fun he => h (by have := congrArg List.length he; simp at this; omega)
    simp [this]
/-! ### A posting: size, copy, sameness -/
theorem szPost_ev (a : Int) (xs : List S75) (left : Int) (hl : xs.length ≤ maxLen) (h : ∀ x ∈ xs, x.f0.size ≤ maxLen) (h0 : 0 ≤ left) (h1 : left ≤ 1048576) :
    EvP (fun k => laws_szPost.f k a xs left) (fun r => r ≤ left ∧ (0 ≤ r → xs.length ≤ 1048576 ∧ ∀ x ∈ xs, (x.f0.size : Int) ≤ 1048576)) := by
  unfold laws_szPost.f
  refine EvP.bind (szLegS_ev xs left hl h h0 h1) ?_
  rintro r ⟨hr, hb⟩
  exact EvP.split (fun hn => EvP.now ⟨by omega, by omega⟩) (fun hp => EvP.now ⟨hr, hb⟩)
theorem toPost_ev (a : Int) (xs : List S75) (hx : xs.length ≤ 1048576) : EvP (fun k => laws_toPost.f k a xs) (· = (a, xs.map legOf)) := by
  unfold laws_toPost.f
  refine EvP.bind (toLegS_ev xs hx) ?_
  rintro _ rfl
  exact EvP.now rfl
def postSameB (a : Int) (xs : List S45) (b : Int) (ys : List S45) : Bool := decide (a = b ∧ xs.map legKey = ys.map legKey)
theorem eqPost_ev (a : Int) (xs : List S45) (b : Int) (ys : List S45) (hx : xs.length ≤ 1048576) : EvP (fun k => laws_eqPost.f k a xs b ys) (· = postSameB a xs b ys) := by
  unfold laws_eqPost.f postSameB
  refine EvP.split (fun h => EvP.bind (eqLegS_ev xs ys hx) ?_) (fun h => EvP.now (by simp [h]))
  rintro _ rfl
  by_cases c : xs.map legKey = ys.map legKey
  · exact EvP.pos (by simp [c]) (EvP.now (by simp [h, c]))
  · exact EvP.neg (by simp [c]) (EvP.now (by simp [c]))

/-! ### PostOk -/
theorem rd_midL (pre rest : List S45) (x : S45) : rd_T45 (pre ++ x :: rest) (pre.length : Int) = x := by simp [rd_T45]
def legOkB (x : S45) : Bool := legB x.f0 x.f1 x.f2
def headB (id : Int) (xs : List S45) : Bool := decide (0 ≤ id) && decide (id ≤ 99) && decide (1 ≤ xs.length) && decide (xs.length ≤ 4)
def postB (id : Int) (xs : List S45) : Bool := headB id xs && xs.all legOkB
/-- Legs whose texts are no longer than texts are. -/
def Sound (xs : List S45) : Prop := ∀ x ∈ xs, x.f0.size ≤ 140737488351232
theorem spec_PostOk_l0 (id : Int) (xs : List S45) (hx : Sound xs) (h4 : xs.length ≤ 4) : ∀ (rest pre : List S45), xs = pre ++ rest → EvP (fun k => spec_PostOk.l0 k (pre.length : Int) id xs) (· = rest.all legOkB) := by
  intro rest
  induction rest with
  | nil =>
    intro pre e
    refine EvP.step (fun k => by rw [spec_PostOk.l0]) ?_
    exact EvP.neg (by simp [e]) (EvP.now rfl)
  | cons x rest ih =>
    intro pre e
    have hl : xs.length = pre.length + (rest.length + 1) := by rw [e]; simp
    refine EvP.step (fun k => by rw [spec_PostOk.l0]) (EvP.pos (by omega) (EvP.pos (by omega) ?_))
    have hr : rd_T45 xs (pre.length : Int) = x := by rw [e]; exact rd_midL pre rest x
    rw [hr]
    have e2 : wrap64 ((pre.length : Int) + 1) = ((pre ++ [x]).length : Int) := by rw [w64 (by omega) (by omega)]; simp
    refine EvP.bind (spec_LegOk_ev x.f0 x.f1 x.f2 (hx x (by rw [e]; simp))) ?_
    rintro _ rfl
    have step := ih (pre ++ [x]) (by rw [e]; simp)
    rw [e2]
    cases hb : legB x.f0 x.f1 x.f2
    · exact EvP.neg (by simp) (EvP.now (by simp [legOkB, hb]))
    · refine EvP.pos rfl (step.mono ?_)
      rintro _ rfl
      simp [legOkB, hb]
theorem spec_PostOk_ev (id : Int) (xs : List S45) (hx : Sound xs) : EvP (fun k => spec_PostOk.f k id xs) (· = postB id xs) := by
  unfold spec_PostOk.f
  refine EvP.split (fun h => ?_) (fun h1 => EvP.split (fun h => ?_) (fun h2 => EvP.split (fun h => ?_) (fun h3 => ?_)))
  · refine EvP.step (fun k => by rw [spec_PostOk.j0]) (EvP.pos rfl (EvP.now ?_))
    have e : decide (0 ≤ id) = false := decide_eq_false (by omega)
    simp [postB, headB, e]
  · refine EvP.step (fun k => by rw [spec_PostOk.j0]) (EvP.pos rfl (EvP.now ?_))
    have e : decide (id ≤ 99) = false := decide_eq_false (by omega)
    simp [postB, headB, e]
  · refine EvP.step (fun k => by rw [spec_PostOk.j0]) (EvP.pos rfl (EvP.now ?_))
    have e : decide (1 ≤ xs.length) = false := decide_eq_false (by omega)
    simp [postB, headB, e]
  · refine EvP.step (fun k => by rw [spec_PostOk.j0]) (EvP.split (fun h => EvP.now ?_) (fun h => ?_))
    · have := of_decide_eq_true h
      have e : decide (xs.length ≤ 4) = false := decide_eq_false (by omega)
      simp [postB, headB, e]
    · have h4 : ¬ (xs.length : Int) > 4 := fun g => h (decide_eq_true g)
      have e1 : decide (0 ≤ id) = true := decide_eq_true (by omega)
      have e2 : decide (id ≤ 99) = true := decide_eq_true (by omega)
      have e3 : decide (1 ≤ xs.length) = true := decide_eq_true (by omega)
      have e4 : decide (xs.length ≤ 4) = true := decide_eq_true (by omega)
      simp only [postB, headB, e1, e2, e3, e4, Bool.true_and]
      exact spec_PostOk_l0 id xs hx (by omega) xs [] rfl
theorem impl_PostOk_l0 (xs : List S45) (hx : Sound xs) (h4 : xs.length ≤ 4) : ∀ (rest pre : List S45), xs = pre ++ rest → EvP (fun k => impl_PostOk.l0 k xs (xs.length : Int) (pre.length : Int)) (· = rest.all legOkB) := by
  intro rest
  induction rest with
  | nil =>
    intro pre e
    refine EvP.step (fun k => by rw [impl_PostOk.l0]) ?_
    exact EvP.neg (by simp [e]) (EvP.now rfl)
  | cons x rest ih =>
    intro pre e
    have hl : xs.length = pre.length + (rest.length + 1) := by rw [e]; simp
    refine EvP.step (fun k => by rw [impl_PostOk.l0]) (EvP.pos (by omega) (EvP.pos (by omega) (EvP.pos (by omega) ?_)))
    have hr : rd_T45 xs (pre.length : Int) = x := by rw [e]; exact rd_midL pre rest x
    rw [hr]
    have e2 : wrap64 ((pre.length : Int) + 1) = ((pre ++ [x]).length : Int) := by rw [w64 (by omega) (by omega)]; simp
    refine EvP.bind (impl_LegOk_ev x.f0 x.f1 x.f2 (hx x (by rw [e]; simp))) ?_
    rintro _ rfl
    have step := ih (pre ++ [x]) (by rw [e]; simp)
    rw [e2]
    cases hb : legB x.f0 x.f1 x.f2
    · exact EvP.neg (by simp) (EvP.now (by simp [legOkB, hb]))
    · refine EvP.pos rfl (step.mono ?_)
      rintro _ rfl
      simp [legOkB, hb]
theorem impl_PostOk_ev (id : Int) (xs : List S45) (hx : Sound xs) : EvP (fun k => impl_PostOk.f k id xs) (· = postB id xs) := by
  unfold impl_PostOk.f
  refine EvP.split (fun h => ?_) (fun h1 => EvP.split (fun h => ?_) (fun h2 => EvP.split (fun h => ?_) (fun h3 => ?_)))
  · refine EvP.step (fun k => by rw [impl_PostOk.j0]) (EvP.pos rfl (EvP.now ?_))
    have e : decide (0 ≤ id) = false := decide_eq_false (by omega)
    simp [postB, headB, e]
  · refine EvP.step (fun k => by rw [impl_PostOk.j0]) (EvP.pos rfl (EvP.now ?_))
    have e : decide (id ≤ 99) = false := decide_eq_false (by omega)
    simp [postB, headB, e]
  · refine EvP.step (fun k => by rw [impl_PostOk.j0]) (EvP.pos rfl (EvP.now ?_))
    have e : decide (1 ≤ xs.length) = false := decide_eq_false (by omega)
    simp [postB, headB, e]
  · refine EvP.step (fun k => by rw [impl_PostOk.j0]) (EvP.split (fun h => EvP.now ?_) (fun h => ?_))
    · have := of_decide_eq_true h
      have e : decide (xs.length ≤ 4) = false := decide_eq_false (by omega)
      simp [postB, headB, e]
    · have h4 : ¬ (xs.length : Int) > 4 := fun g => h (decide_eq_true g)
      have e1 : decide (0 ≤ id) = true := decide_eq_true (by omega)
      have e2 : decide (id ≤ 99) = true := decide_eq_true (by omega)
      have e3 : decide (1 ≤ xs.length) = true := decide_eq_true (by omega)
      have e4 : decide (xs.length ≤ 4) = true := decide_eq_true (by omega)
      simp only [postB, headB, e1, e2, e3, e4, Bool.true_and]
      exact impl_PostOk_l0 xs hx (by omega) xs [] rfl

/-! ### A posting that comes in -/
theorem postSame_refl (a : Int) (xs : List S45) : postSameB a xs a xs = true := by simp [postSameB]
theorem sound_of {xs : List S75} (h : ∀ x ∈ xs, (x.f0.size : Int) ≤ 1048576) : Sound (xs.map legOf) := by
  intro y hy
  obtain ⟨x, hx, rfl⟩ := List.mem_map.1 hy
  have := h x hx
  show x.f0.size ≤ _
  omega

/-! ### Numbers in decimals -/
theorem size_mk (l : List UInt8) : (⟨l.toArray⟩ : ByteArray).size = l.length := List.size_toArray
theorem mk_data (s : ByteArray) : s = ⟨s.data.toList.toArray⟩ := by cases s; simp
theorem mk_append (l m : List UInt8) : (⟨l.toArray⟩ : ByteArray) ++ (⟨m.toArray⟩ : ByteArray) = ⟨(l ++ m).toArray⟩ := by
  apply ByteArray.ext
  simp [ByteArray.data_append]
theorem digit_nums (n : Nat) (h : n < 10) : strOfNums [(wrap64 (48 + (n : Int))) % 256] = ⟨[UInt8.ofNat (48 + n)].toArray⟩ := by
  have e : (wrap64 (48 + (n : Int))) % 256 = ((48 + n : Nat) : Int) := by rw [w64 (by omega) (by omega)]; omega
  rw [e]
  simp only [strOfNums, List.map_cons, List.map_nil, Int.toNat_natCast]
theorem spec_l9Dec_l0 : ∀ (N n : Nat), n ≤ N → ∀ l : List UInt8, l.length + n ≤ 4000000000 → EvP (fun k => spec_l9Dec.l0 k (n : Int) ⟨l.toArray⟩) (· = ⟨(Lib.decDigits n ++ l).toArray⟩) := by
  intro N
  induction N with
  | zero =>
    intro n hn l hl
    obtain rfl : n = 0 := by omega
    refine EvP.step (fun k => by rw [spec_l9Dec.l0]) (EvP.neg (by omega) ?_)
    simp only [Option.bind_some]
    have e := digit_nums 0 (by omega)
    rw [e]
    refine EvP.pos (by rw [size_mk, size_mk]; simp; omega) (EvP.now ?_)
    rw [mk_append, Lib.decDigits, dif_pos (by omega)]
  | succ N ih =>
    intro n hn l hl
    refine EvP.step (fun k => by rw [spec_l9Dec.l0]) (EvP.split (fun h => ?_) (fun h => ?_))
    · simp only [Option.bind_some]
      have e1 : Int.tmod (n : Int) 10 = ((n % 10 : Nat) : Int) := by rw [Int.tmod_eq_emod_of_nonneg (by omega)]; omega
      have e2 : wrap64 (Int.tdiv (n : Int) 10) = ((n / 10 : Nat) : Int) := by rw [Int.tdiv_eq_ediv_of_nonneg (by omega), w64 (by omega) (by omega)]; omega
      rw [e1, e2, digit_nums (n % 10) (by omega)]
      refine EvP.pos (by rw [size_mk, size_mk]; simp; omega) ?_
      rw [mk_append]
      refine (ih (n / 10) (by omega) ([UInt8.ofNat (48 + n % 10)] ++ l) (by simp; omega)).mono ?_
      rintro _ rfl
      rw [show Lib.decDigits n = Lib.decDigits (n / 10) ++ [UInt8.ofNat (48 + n % 10)] by rw [Lib.decDigits, dif_neg (by omega)]]
      simp
    · simp only [Option.bind_some]
      rw [digit_nums n (by omega)]
      refine EvP.pos (by rw [size_mk, size_mk]; simp; omega) (EvP.now ?_)
      rw [mk_append, Lib.decDigits, dif_pos (by omega)]
theorem spec_l9Dec_ev (n : Int) (h0 : -1000000 ≤ n) (h1 : n ≤ 1000000) : EvP (fun k => spec_l9Dec.f k n) (· = ⟨(Lib.itoa n).toArray⟩) := by
  have nat : ∀ m : Nat, m ≤ 1000000 → EvP (fun k => spec_l9Dec.f k (m : Int)) (· = ⟨(Lib.decDigits m).toArray⟩) := fun m hm => by
    refine EvP.step (fun k => by rw [spec_l9Dec.f]) (EvP.neg (by omega) (EvP.neg (by omega) ?_))
    refine (spec_l9Dec_l0 m m (Nat.le_refl _) [] (by simp; omega)).mono ?_
    rintro _ rfl
    simp
  by_cases hn : n < 0
  · have hl := Lib.itoa_length_le n (by omega) (by omega)
    have e : Lib.itoa n = 45 :: Lib.decDigits n.natAbs := by rw [Lib.itoa, if_pos hn]
    have hl2 : (Lib.decDigits n.natAbs).length ≤ 21 := by rw [e] at hl; simp at hl; omega
    refine EvP.step (fun k => by rw [spec_l9Dec.f]) (EvP.neg (by omega) (EvP.pos hn ?_))
    rw [w64 (by omega) (by omega), show (-n : Int) = ((n.natAbs : Nat) : Int) by omega]
    refine EvP.bind (nat n.natAbs (by omega)) ?_
    rintro _ rfl
    refine EvP.pos (by rw [size_mk]; omega) (EvP.now ?_)
    rw [e]
    exact mk_append [45] (Lib.decDigits n.natAbs)
  · obtain ⟨m, rfl⟩ : ∃ m : Nat, n = (m : Int) := ⟨n.toNat, by omega⟩
    have e : Lib.itoa (m : Int) = Lib.decDigits m := by rw [Lib.itoa, if_neg hn]; simp
    rw [e]
    exact nat m (by omega)

/-! ### A posting as it is written -/
theorem legB_bounds {x : S45} (h : legOkB x = true) : x.f0.size ≤ 4 ∧ 1 ≤ x.f1 ∧ x.f1 ≤ 3 ∧ -1000 ≤ x.f2 ∧ x.f2 ≤ 1000 := by
  unfold legOkB legB acctB at h
  simp only [Bool.and_eq_true, decide_eq_true_eq] at h
  omega
theorem legText_length {x : S45} (h : legOkB x = true) : (legText x).length ≤ 60 := by
  obtain ⟨h1, h2, h3, h4, h5⟩ := legB_bounds h
  have l1 := Lib.itoa_length_le x.f1 (by omega) (by omega)
  have l2 := Lib.itoa_length_le x.f2 (by omega) (by omega)
  have e : x.f0.data.toList.length = x.f0.size := Array.length_toList
  simp only [legText, List.length_cons, List.length_append]
  omega
theorem legsText_length (xs : List S45) (h : xs.all legOkB = true) : (xs.flatMap legText).length ≤ 60 * xs.length := by
  induction xs with
  | nil => simp
  | cons x r ih =>
    simp only [List.all_cons, Bool.and_eq_true] at h
    have h1 := legText_length h.1
    have h2 := ih h.2
    simp only [List.flatMap_cons, List.length_append, List.length_cons]
    omega
theorem cat_leg (l : List UInt8) (x : S45) : (((((((⟨l.toArray⟩ : ByteArray) ++ (⟨#[32]⟩ : ByteArray)) ++ x.f0) ++ (⟨#[58]⟩ : ByteArray)) ++ (⟨(Lib.itoa x.f1).toArray⟩ : ByteArray)) ++ (⟨#[58]⟩ : ByteArray)) ++ (⟨(Lib.itoa x.f2).toArray⟩ : ByteArray)) = ⟨(l ++ legText x).toArray⟩ := by
  apply ByteArray.ext
  simp [ByteArray.data_append, legText]
theorem spec_PostText_l0 (id : Int) (xs : List S45) (hx : xs.all legOkB = true) (h4 : xs.length ≤ 4) : ∀ (rest pre : List S45) (l : List UInt8), xs = pre ++ rest → l.length + 60 * rest.length ≤ 1000000 → EvP (fun k => spec_PostText.l0 k ⟨l.toArray⟩ (pre.length : Int) id xs) (· = ⟨(l ++ rest.flatMap legText).toArray⟩) := by
  intro rest
  induction rest with
  | nil =>
    intro pre l e hl
    refine EvP.step (fun k => by rw [spec_PostText.l0]) (EvP.neg (by simp [e]) (EvP.now (by simp)))
  | cons x rest ih =>
    intro pre l e hl
    have hlen : xs.length = pre.length + (rest.length + 1) := by rw [e]; simp
    have hr : rd_T45 xs (pre.length : Int) = x := by rw [e]; exact rd_midL pre rest x
    have hxx : legOkB x = true := List.all_eq_true.1 hx x (by rw [e]; simp)
    obtain ⟨h1, h2, h3, h4', h5⟩ := legB_bounds hxx
    have l1 := Lib.itoa_length_le x.f1 (by omega) (by omega)
    have l2 := Lib.itoa_length_le x.f2 (by omega) (by omega)
    have e2 : wrap64 ((pre.length : Int) + 1) = ((pre ++ [x]).length : Int) := by rw [w64 (by omega) (by omega)]; simp
    have z32 : (⟨#[32]⟩ : ByteArray).size = 1 := rfl
    have z58 : (⟨#[58]⟩ : ByteArray).size = 1 := rfl
    have zl := size_mk l
    have z1 := size_mk (Lib.itoa x.f1)
    have z2 := size_mk (Lib.itoa x.f2)
    simp only [List.length_cons] at hl
    refine EvP.step (fun k => by rw [spec_PostText.l0]) ?_
    rw [hr, e2]
    refine EvP.pos (by omega) (EvP.pos (by omega) (EvP.pos (by omega) (EvP.pos (by simp only [ByteArray.size_append]; omega) (EvP.pos (by simp only [ByteArray.size_append]; omega) (EvP.bind (spec_l9Dec_ev x.f1 (by omega) (by omega)) ?_)))))
    rintro _ rfl
    refine EvP.pos (by simp only [ByteArray.size_append]; omega) (EvP.pos (by simp only [ByteArray.size_append]; omega) (EvP.bind (spec_l9Dec_ev x.f2 (by omega) (by omega)) ?_))
    rintro _ rfl
    refine EvP.pos (by simp only [ByteArray.size_append]; omega) ?_
    rw [cat_leg]
    refine (ih (pre ++ [x]) (l ++ legText x) (by rw [e]; simp) ?_).mono ?_
    · have := legText_length hxx
      simp only [List.length_append]
      omega
    · rintro _ rfl
      simp
/-- What is written of a posting. -/
def textB (id : Int) (xs : List S45) : ByteArray := if postB id xs = true then ⟨(postText id xs).toArray⟩ else ⟨#[]⟩
theorem postB_bounds {id : Int} {xs : List S45} (h : postB id xs = true) : 0 ≤ id ∧ id ≤ 99 ∧ xs.length ≤ 4 ∧ xs.all legOkB = true := by
  unfold postB headB at h
  simp only [Bool.and_eq_true, decide_eq_true_eq] at h
  exact ⟨h.1.1.1.1, h.1.1.1.2, h.1.2, h.2⟩
theorem spec_PostText_ev (id : Int) (xs : List S45) (hx : Sound xs) : EvP (fun k => spec_PostText.f k id xs) (· = textB id xs) := by
  unfold spec_PostText.f textB
  refine EvP.bind (spec_PostOk_ev id xs hx) ?_
  rintro _ rfl
  refine EvP.split (fun h => ?_) (fun h => EvP.now (by rw [if_neg h]))
  obtain ⟨h0, h1, h2, h3⟩ := postB_bounds h
  rw [if_pos h]
  refine EvP.bind (spec_l9Dec_ev id (by omega) (by omega)) ?_
  rintro _ rfl
  have hl := Lib.itoa_length_le id (by omega) (by omega)
  exact spec_PostText_l0 id xs h3 h2 xs [] (Lib.itoa id) rfl (by omega)
theorem postFits_of {id : Int} {xs : List S45} (h : postB id xs = true) : postFits id xs = true := by
  obtain ⟨h0, h1, h2, h3⟩ := postB_bounds h
  simp only [postFits, intFits, Bool.and_eq_true, decide_eq_true_eq]
  refine ⟨⟨by omega, by omega⟩, by omega, List.all_eq_true.2 fun x hx => ?_⟩
  obtain ⟨b1, b2, b3, b4, b5⟩ := legB_bounds (List.all_eq_true.1 h3 x hx)
  simp only [legFits, intFits, Bool.and_eq_true, decide_eq_true_eq]
  omega
theorem impl_PostText_ev (id : Int) (xs : List S45) (hx : Sound xs) : EvP (fun k => impl_PostText.f k id xs) (· = textB id xs) := by
  unfold impl_PostText.f textB
  refine EvP.bind (impl_PostOk_ev id xs hx) ?_
  rintro _ rfl
  refine EvP.split (fun h => ?_) (fun h => EvP.now (by rw [if_neg h]))
  rw [if_pos h]
  exact EvP.pos (postFits_of h) (EvP.now rfl)

theorem FnExactPostText (a0_0 : Int) (l0_1 : List S75)
    (g0 : (Lit.int .i64 a0_0).wf = true ∧ l0_1.length ≤ maxLen ∧ ∀ x ∈ l0_1, x.f0.size ≤ maxLen ∧ (Lit.int .i64 x.f1).wf = true ∧ (Lit.int .i64 x.f2).wf = true) :
    ∃ k, laws_FnExactPostText.f k a0_0 l0_1 = some true := by
  refine EvP.done ?_
  unfold laws_FnExactPostText.f
  refine EvP.bind (szPost_ev a0_0 l0_1 1048576 g0.2.1 (fun x hx => (g0.2.2 x hx).1) (by omega) (by omega)) ?_
  rintro r ⟨hr, hb⟩
  refine EvP.split (fun _ => EvP.now rfl) (fun hp => ?_)
  obtain ⟨n0, s0⟩ := hb (by omega)
  have hs := sound_of s0
  have hn : (l0_1.map legOf).length ≤ 1048576 := by simpa using n0
  refine EvP.bind (toPost_ev a0_0 l0_1 n0) ?_
  rintro _ rfl
  refine EvP.bind (spec_PostText_ev _ _ hs) ?_
  rintro _ rfl
  refine EvP.bind (toPost_ev a0_0 l0_1 n0) ?_
  rintro _ rfl
  refine EvP.bind (impl_PostText_ev _ _ hs) ?_
  rintro _ rfl
  refine EvP.pos rfl ?_
  refine EvP.bind (toPost_ev a0_0 l0_1 n0) ?_
  rintro _ rfl
  refine EvP.bind (eqPost_ev _ _ _ _ hn) ?_
  rintro _ rfl
  exact EvP.pos (postSame_refl _ _) (EvP.now rfl)


end Go.Proofs.YtdjohhobmipagaaDoor.Pure
