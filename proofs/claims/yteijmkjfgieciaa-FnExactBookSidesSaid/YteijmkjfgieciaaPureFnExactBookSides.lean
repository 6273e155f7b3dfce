/- The program's BookSides tells of every book and currency what the reference tells, for all arguments. -/
import Derived.Test.YteijmkjfgieciaaQFnExactBookSidesx12
import Derived.Test.YteijmkjfgieciaaBBase
set_option linter.unusedVariables false
set_option linter.unusedSimpArgs false
namespace Go.Proofs.Yteijmkjfgieciaa.Pure
open Go.RowKit Go.Proofs.Yteijmkjfgieciaa.QFnExactBookSides Go.Proofs.YteijmkjfgieciaaW.PrintWords Go.Proofs.YteijmkjfgieciaaW.PrintLast Go.Proofs.YteijmkjfgieciaaW.PrintMore Go.Proofs.Yteijmkjfgieciaa.B

/-! ### AcctOk -/
/-- d letters from place i on are all letters a to z. -/
def lettersB (s : ByteArray) : Nat → Int → Bool
 | 0, _ => true
 | d + 1, i => decide (97 ≤ bt s i) && decide (bt s i ≤ 122) && lettersB s d (i + 1)
def acctB (s : ByteArray) : Bool := decide (1 ≤ s.size) && decide (s.size ≤ 4) && lettersB s s.size 0
theorem spec_AcctOk_l0 (s : ByteArray) (hs : s.size ≤ 140737488351232) : ∀ (d : Nat) (i : Int), 0 ≤ i → i + d = s.size →
  EvP (fun k => spec_AcctOk.l0 k s i) (· = (decide (1 ≤ s.size) && decide (s.size ≤ 4) && lettersB s d i)) := by
 intro d
 induction d with
 | zero =>
  intro i h0 h
  refine EvP.step (fun k => by rw [spec_AcctOk.l0]) ?_
  refine EvP.neg (by omega) ?_
  refine EvP.split (fun h => ?_) (fun h => ?_)
  ·
   refine EvP.now ?_
   have e1 : decide (1 ≤ s.size) = true := decide_eq_true (by omega)
   have e2 : decide ((s.size : Int) ≤ 4) = decide (s.size ≤ 4) := by rw [decide_eq_decide]; omega
   simp only [lettersB, e1, e2, Bool.true_and, Bool.and_true]
  ·
   refine EvP.now ?_
   have e1 : decide (1 ≤ s.size) = false := decide_eq_false (by omega)
   simp only [lettersB, e1, Bool.false_and]
 | succ d ih =>
  intro i h0 h
  refine EvP.step (fun k => by rw [spec_AcctOk.l0]) ?_
  refine EvP.pos (by omega) ?_
  refine EvP.pos (by omega) ?_
  refine EvP.split (fun h1 => EvP.now ?_) (fun h1 => EvP.split (fun h2 => EvP.now ?_) (fun h2 => ?_))
  ·
   have e1 : decide (97 ≤ bt s i) = false := decide_eq_false (by omega)
   simp [lettersB, e1]
  ·
   have e1 : decide (bt s i ≤ 122) = false := decide_eq_false (by omega)
   simp [lettersB, e1]
  ·
   rw [w64 (by omega) (by omega)]
   have e1 : decide (97 ≤ bt s i) = true := decide_eq_true (by omega)
   have e2 : decide (bt s i ≤ 122) = true := decide_eq_true (by omega)
   have := ih (i + 1) (by omega) (by omega)
   simp only [lettersB, e1, e2, Bool.true_and]
   exact this
theorem spec_AcctOk_ev (s : ByteArray) (hs : s.size ≤ 140737488351232) : EvP (fun k => spec_AcctOk.f k s) (· = acctB s) :=
 spec_AcctOk_l0 s hs s.size 0 (by omega) (by omega)
theorem impl_AcctOk_l0 (s : ByteArray) (hs : s.size ≤ 140737488351232) : ∀ (d : Nat) (i : Int), 0 ≤ i → i + d = s.size →
  EvP (fun k => impl_AcctOk.l0 k s (s.size : Int) i) (· = lettersB s d i) := by
 intro d
 induction d with
 | zero =>
  intro i h0 h
  refine EvP.step (fun k => by rw [impl_AcctOk.l0]) ?_
  refine EvP.neg (by omega) ?_
  exact EvP.now (by simp [lettersB])
 | succ d ih =>
  intro i h0 h
  refine EvP.step (fun k => by rw [impl_AcctOk.l0]) ?_
  refine EvP.pos (by omega) (EvP.pos (by omega) (EvP.pos (by omega) ?_))
  refine EvP.split (fun h1 => EvP.now ?_) (fun h1 => EvP.split (fun h2 => EvP.now ?_) (fun h2 => ?_))
  ·
   have e1 : decide (97 ≤ bt s i) = false := decide_eq_false (by omega)
   simp [lettersB, e1]
  ·
   have e1 : decide (bt s i ≤ 122) = false := decide_eq_false (by omega)
   simp [lettersB, e1]
  ·
   rw [w64 (by omega) (by omega)]
   have e1 : decide (97 ≤ bt s i) = true := decide_eq_true (by omega)
   have e2 : decide (bt s i ≤ 122) = true := decide_eq_true (by omega)
   have := ih (i + 1) (by omega) (by omega)
   simp only [lettersB, e1, e2, Bool.true_and]
   exact this
theorem impl_AcctOk_ev (s : ByteArray) (hs : s.size ≤ 140737488351232) : EvP (fun k => impl_AcctOk.f k s) (· = acctB s) := by
 unfold impl_AcctOk.f acctB
 refine EvP.split (fun h => ?_) (fun h => ?_)
 ·
  refine EvP.step (fun k => by rw [impl_AcctOk.j0]) (EvP.pos rfl (EvP.now ?_))
  have e1 : decide (1 ≤ s.size) = false := decide_eq_false (by omega)
  simp [e1]
 ·
  have e1 : decide (1 ≤ s.size) = true := decide_eq_true (by omega)
  refine EvP.step (fun k => by rw [impl_AcctOk.j0]) (EvP.split (fun h1 => EvP.now ?_) (fun h1 => ?_))
  ·
   have := of_decide_eq_true h1
   have e2 : decide (s.size ≤ 4) = false := decide_eq_false (by omega)
   simp [e2]
  ·
   have : ¬ (s.size : Int) > 4 := fun h => h1 (decide_eq_true h)
   have e2 : decide (s.size ≤ 4) = true := decide_eq_true (by omega)
   simp only [e1, e2, Bool.true_and]
   exact impl_AcctOk_l0 s hs s.size 0 (by omega) (by omega)

/-! ### LegOk -/
def legB (a : ByteArray) (c n : Int) : Bool := acctB a && decide (1 ≤ c) && decide (c ≤ 3) && decide (-1000 ≤ n) && decide (n ≤ 1000) && (n != 0)
theorem spec_LegOk_ev (a : ByteArray) (c n : Int) (hs : a.size ≤ 140737488351232) : EvP (fun k => spec_LegOk.f k a c n) (· = legB a c n) := by
 unfold spec_LegOk.f
 refine EvP.bind (spec_AcctOk_ev a hs) ?_
 rintro _ rfl
 cases hA : acctB a
 ·
  exact EvP.neg (by simp) (EvP.now (by simp [legB, hA]))
 ·
  refine EvP.pos rfl ?_
  repeat' with_reducible refine EvP.split (fun _ => ?_) (fun _ => ?_)
  all_goals
   refine EvP.now ?_
   simp [legB, hA]
   try omega
theorem impl_LegOk_ev (a : ByteArray) (c n : Int) (hs : a.size ≤ 140737488351232) : EvP (fun k => impl_LegOk.f k a c n) (· = legB a c n) := by
 unfold impl_LegOk.f
 refine EvP.bind (impl_AcctOk_ev a hs) ?_
 rintro _ rfl
 cases hA : acctB a
 ·
  exact EvP.neg (by simp) (EvP.now (by simp [legB, hA]))
 ·
  refine EvP.pos rfl ?_
  repeat' with_reducible refine EvP.split (fun _ => ?_) (fun _ => ?_)
  all_goals
   refine EvP.now ?_
   simp [legB, hA]
   try omega

theorem szLeg_ev (a0 : ByteArray) (a1 a2 left : Int) (h0 : a0.size ≤ maxLen) (hl : 0 ≤ left) (hl' : left ≤ 1048576) :
  ∃ r, laws_szLeg.f a0 a1 a2 left = some r ∧ r ≤ left ∧ (0 ≤ r → (a0.size : Int) ≤ left) := by
 unfold maxLen at h0
 unfold laws_szLeg.f
 rw [w64 (x := left - (a0.size : Int)) (by omega) (by omega)]
 split
 ·
  exact ⟨-1, rfl, by omega, by omega⟩
 ·
  exact ⟨_, rfl, by omega, by omega⟩

/-! ### Legs: sizes, copies, sameness -/
theorem rd_mid33 (pre rest : List S116) (x : S116) : rd_T116 (pre ++ x :: rest) (pre.length : Int) = x := by simp [rd_T116]
theorem rd_mid36 (pre rest : List S77) (x : S77) : rd_T77 (pre ++ x :: rest) (pre.length : Int) = x := by simp [rd_T77]
def legOf (x : S116) : S77 := ⟨x.f0, x.f1, x.f2⟩
def legKey (x : S77) : List UInt8 × Int × Int := (x.f0.toList, x.f1, x.f2)
theorem szLegS_l0 (xs : List S116) (hx : xs.length ≤ 1048576) (h : ∀ x ∈ xs, x.f0.size ≤ maxLen) : ∀ (rest pre : List S116) (left : Int), xs = pre ++ rest → 0 ≤ left → left ≤ 1048576 →
  EvP (fun k => laws_szLegS.l0 k xs left (pre.length : Int)) (fun r => r ≤ left ∧ (0 ≤ r → ∀ x ∈ rest, (x.f0.size : Int) ≤ 1048576)) := by
 intro rest
 induction rest with
 | nil =>
  intro pre left e h0 h1
  refine EvP.step (fun k => by rw [laws_szLegS.l0]) (EvP.neg (by simp [e]) (EvP.now ⟨Int.le_refl _, by simp⟩))
 | cons x rest ih =>
  intro pre left e h0 h1
  have hl : xs.length = pre.length + (rest.length + 1) := by rw [e]; simp
  refine EvP.step (fun k => by rw [laws_szLegS.l0]) (EvP.pos (by omega) (EvP.pos (by omega) ?_))
  have hr : rd_T116 xs (pre.length : Int) = x := by rw [e]; exact rd_mid33 pre rest x
  rw [hr]
  obtain ⟨r, hr, hle, hb⟩ := szLeg_ev x.f0 x.f1 x.f2 left (h x (by rw [e]; simp)) h0 h1
  simp only [hr, Option.bind_some]
  refine EvP.split (fun hneg => EvP.now ⟨by omega, fun hh => by omega⟩) (fun hpos => ?_)
  have e2 : wrap64 ((pre.length : Int) + 1) = ((pre ++ [x]).length : Int) := by rw [w64 (by omega) (by omega)]; simp
  rw [e2]
  refine (ih (pre ++ [x]) r (by rw [e]; simp) (by omega) (by omega)).mono ?_
  rintro a ⟨ha, hb'⟩
  refine ⟨by omega, fun hh y hy => ?_⟩
  rcases List.mem_cons.1 hy with rfl | hy
  ·
   have := hb (by omega); omega
  ·
   exact hb' hh y hy
theorem szLegS_ev (xs : List S116) (left : Int) (hl : xs.length ≤ maxLen) (h : ∀ x ∈ xs, x.f0.size ≤ maxLen) (h0 : 0 ≤ left) (h1 : left ≤ 1048576) :
  EvP (fun k => laws_szLegS.f k xs left) (fun r => r ≤ left ∧ (0 ≤ r → xs.length ≤ 1048576 ∧ ∀ x ∈ xs, (x.f0.size : Int) ≤ 1048576)) := by
 unfold laws_szLegS.f
 unfold maxLen at hl
 rw [w64 (by omega) (by omega)]
 refine EvP.split (fun hn => EvP.now ⟨by omega, fun hh => by omega⟩) (fun hp => ?_)
 refine (szLegS_l0 xs (by omega) h xs [] _ rfl (by omega) (by omega)).mono ?_
 rintro r ⟨ha, hb⟩
 exact ⟨by omega, fun hh => ⟨by omega, hb hh⟩⟩
theorem toLegS_l0 (xs : List S116) (hx : xs.length ≤ 1048576) : ∀ (rest pre : List S116), xs = pre ++ rest →
  EvP (fun k => laws_toLegS.l0 k xs (pre.map legOf ++ List.replicate rest.length z77) (pre.length : Int)) (· = xs.map legOf) := by
 intro rest
 induction rest with
 | nil =>
  intro pre e
  refine EvP.step (fun k => by rw [laws_toLegS.l0]) (EvP.neg (by simp [e]) (EvP.now ?_))
  simp [e]
 | cons x rest ih =>
  intro pre e
  have hl : xs.length = pre.length + (rest.length + 1) := by rw [e]; simp
  refine EvP.step (fun k => by rw [laws_toLegS.l0]) (EvP.pos (by omega) (EvP.pos (by omega) ?_))
  have hr : rd_T116 xs (pre.length : Int) = x := by rw [e]; exact rd_mid33 pre rest x
  rw [hr]
  simp only [laws_toLeg.f, Option.bind_some]
  refine EvP.pos (by simp; omega) ?_
  have e2 : wrap64 ((pre.length : Int) + 1) = ((pre ++ [x]).length : Int) := by rw [w64 (by omega) (by omega)]; simp
  rw [e2]
  have e3 : (pre.map legOf ++ List.replicate (x :: rest).length z77).set ((pre.length : Int)).toNat (⟨x.f0, x.f1, x.f2⟩ : S77) = (pre ++ [x]).map legOf ++ List.replicate rest.length z77 := by
   simp [List.replicate_succ, legOf]
  rw [e3]
  exact ih (pre ++ [x]) (by rw [e]; simp)
theorem toLegS_ev (xs : List S116) (hx : xs.length ≤ 1048576) : EvP (fun k => laws_toLegS.f k xs) (· = xs.map legOf) := by
 unfold laws_toLegS.f
 refine EvP.pos (by omega) (EvP.pos (by omega) ?_)
 have := toLegS_l0 xs hx xs [] rfl
 simpa using this
theorem eqLegS_l0 (xs ys : List S77) (hx : xs.length ≤ 1048576) : ∀ (r r' pre pre' : List S77), xs = pre ++ r → ys = pre' ++ r' → pre.length = pre'.length → r.length = r'.length →
  EvP (fun k => laws_eqLegS.l0 k xs ys (pre.length : Int)) (· = decide (r.map legKey = r'.map legKey)) := by
 intro r
 induction r with
 | nil =>
  intro r' pre pre' e e' hl hr
  obtain rfl : r' = [] := List.eq_nil_of_length_eq_zero (by simpa using hr.symm)
  exact EvP.step (fun k => by rw [laws_eqLegS.l0]) (EvP.neg (by simp [e]) (EvP.now (by simp)))
 | cons x r ih =>
  intro r' pre pre' e e' hl hr
  cases r' with
  | nil => simp at hr
  | cons y r' =>
   have h1 : xs.length = pre.length + (r.length + 1) := by rw [e]; simp
   have h2 : ys.length = pre'.length + (r'.length + 1) := by rw [e']; simp
   refine EvP.step (fun k => by rw [laws_eqLegS.l0]) (EvP.pos (by omega) (EvP.pos (by omega) (EvP.pos (by simp at hr; omega) ?_)))
   have hrx : rd_T77 xs (pre.length : Int) = x := by rw [e]; exact rd_mid36 pre r x
   have hry : rd_T77 ys (pre.length : Int) = y := by rw [e', hl]; exact rd_mid36 pre' r' y
   rw [hrx, hry]
   have e2 : wrap64 ((pre.length : Int) + 1) = ((pre ++ [x]).length : Int) := by rw [w64 (by omega) (by omega)]; simp
   have step := ih r' (pre ++ [x]) (pre' ++ [y]) (by rw [e]; simp) (by rw [e']; simp) (by simp [hl]) (by simpa using hr)
   rw [← e2] at step
   have hk : laws_eqLeg.f x.f0 x.f1 x.f2 y.f0 y.f1 y.f2 = some (decide (legKey x = legKey y)) := by
    unfold laws_eqLeg.f legKey
    by_cases c1 : x.f0.toList = y.f0.toList <;> by_cases c2 : x.f1 = y.f1 <;> by_cases c3 : x.f2 = y.f2 <;> simp [c1, c2, c3]
   simp only [hk, Option.bind_some]
   by_cases c : legKey x = legKey y
   ·
    refine EvP.pos (by simp [c]) (step.mono ?_)
    rintro _ rfl
    simp [c]
   ·
    exact EvP.neg (by simp [c]) (EvP.now (by simp [c]))
theorem eqLegS_ev (xs ys : List S77) (hx : xs.length ≤ 1048576) : EvP (fun k => laws_eqLegS.f k xs ys) (· = decide (xs.map legKey = ys.map legKey)) := by
 unfold laws_eqLegS.f
 refine EvP.split (fun h => ?_) (fun h => EvP.now ?_)
 ·
  exact eqLegS_l0 xs ys hx xs ys [] [] rfl rfl rfl (by omega)
 ·
  have : xs.map legKey ≠ ys.map legKey := fun he => h (by have := congrArg List.length he; simp at this; omega)
  simp [this]
/-! ### A posting: size, copy, sameness -/
theorem szPost_ev (a : Int) (xs : List S116) (left : Int) (hl : xs.length ≤ maxLen) (h : ∀ x ∈ xs, x.f0.size ≤ maxLen) (h0 : 0 ≤ left) (h1 : left ≤ 1048576) :
  EvP (fun k => laws_szPost.f k a xs left) (fun r => r ≤ left ∧ (0 ≤ r → xs.length ≤ 1048576 ∧ ∀ x ∈ xs, (x.f0.size : Int) ≤ 1048576)) := by
 unfold laws_szPost.f
 refine EvP.bind (szLegS_ev xs left hl h h0 h1) ?_
 rintro r ⟨hr, hb⟩
 exact EvP.split (fun hn => EvP.now ⟨by omega, by omega⟩) (fun hp => EvP.now ⟨hr, hb⟩)
theorem toPost_ev (a : Int) (xs : List S116) (hx : xs.length ≤ 1048576) : EvP (fun k => laws_toPost.f k a xs) (· = (a, xs.map legOf)) := by
 unfold laws_toPost.f
 refine EvP.bind (toLegS_ev xs hx) ?_
 rintro _ rfl
 exact EvP.now rfl
def postSameB (a : Int) (xs : List S77) (b : Int) (ys : List S77) : Bool := decide (a = b ∧ xs.map legKey = ys.map legKey)
theorem eqPost_ev (a : Int) (xs : List S77) (b : Int) (ys : List S77) (hx : xs.length ≤ 1048576) : EvP (fun k => laws_eqPost.f k a xs b ys) (· = postSameB a xs b ys) := by
 unfold laws_eqPost.f postSameB
 refine EvP.split (fun h => EvP.bind (eqLegS_ev xs ys hx) ?_) (fun h => EvP.now (by simp [h]))
 rintro _ rfl
 by_cases c : xs.map legKey = ys.map legKey
 ·
  exact EvP.pos (by simp [c]) (EvP.now (by simp [h, c]))
 ·
  exact EvP.neg (by simp [c]) (EvP.now (by simp [c]))

/-! ### PostOk -/
theorem rd_midL (pre rest : List S77) (x : S77) : rd_T77 (pre ++ x :: rest) (pre.length : Int) = x := by simp [rd_T77]
def legOkB (x : S77) : Bool := legB x.f0 x.f1 x.f2
def headB (id : Int) (xs : List S77) : Bool := decide (0 ≤ id) && decide (id ≤ 99) && decide (1 ≤ xs.length) && decide (xs.length ≤ 4)
def postB (id : Int) (xs : List S77) : Bool := headB id xs && xs.all legOkB
/-- Legs whose texts are no longer than texts are. -/
def Sound (xs : List S77) : Prop := ∀ x ∈ xs, x.f0.size ≤ 140737488351232
theorem spec_PostOk_l0 (id : Int) (xs : List S77) (hx : Sound xs) (h4 : xs.length ≤ 4) : ∀ (rest pre : List S77), xs = pre ++ rest → EvP (fun k => spec_PostOk.l0 k (pre.length : Int) id xs) (· = rest.all legOkB) := by
 intro rest
 induction rest with
 | nil =>
  intro pre e
  refine EvP.step (fun k => by rw [spec_PostOk.l0]) ?_
  exact EvP.neg (by simp [e]) (EvP.now rfl)
 | cons x rest ih =>
  intro pre e
  have hl : xs.length = pre.length + (rest.length + 1) := by rw [e]; simp
  refine EvP.step (fun k => by rw [spec_PostOk.l0]) (EvP.pos (by omega) (EvP.pos (by omega) ?_))
  have hr : rd_T77 xs (pre.length : Int) = x := by rw [e]; exact rd_midL pre rest x
  rw [hr]
  have e2 : wrap64 ((pre.length : Int) + 1) = ((pre ++ [x]).length : Int) := by rw [w64 (by omega) (by omega)]; simp
  refine EvP.bind (spec_LegOk_ev x.f0 x.f1 x.f2 (hx x (by rw [e]; simp))) ?_
  rintro _ rfl
  have step := ih (pre ++ [x]) (by rw [e]; simp)
  rw [e2]
  cases hb : legB x.f0 x.f1 x.f2
  ·
   exact EvP.neg (by simp) (EvP.now (by simp [legOkB, hb]))
  ·
   refine EvP.pos rfl (step.mono ?_)
   rintro _ rfl
   simp [legOkB, hb]
theorem spec_PostOk_ev (id : Int) (xs : List S77) (hx : Sound xs) : EvP (fun k => spec_PostOk.f k id xs) (· = postB id xs) := by
 unfold spec_PostOk.f
 refine EvP.split (fun h => ?_) (fun h1 => EvP.split (fun h => ?_) (fun h2 => EvP.split (fun h => ?_) (fun h3 => ?_)))
 ·
  refine EvP.step (fun k => by rw [spec_PostOk.j0]) (EvP.pos rfl (EvP.now ?_))
  have e : decide (0 ≤ id) = false := decide_eq_false (by omega)
  simp [postB, headB, e]
 ·
  refine EvP.step (fun k => by rw [spec_PostOk.j0]) (EvP.pos rfl (EvP.now ?_))
  have e : decide (id ≤ 99) = false := decide_eq_false (by omega)
  simp [postB, headB, e]
 ·
  refine EvP.step (fun k => by rw [spec_PostOk.j0]) (EvP.pos rfl (EvP.now ?_))
  have e : decide (1 ≤ xs.length) = false := decide_eq_false (by omega)
  simp [postB, headB, e]
 ·
  refine EvP.step (fun k => by rw [spec_PostOk.j0]) (EvP.split (fun h => EvP.now ?_) (fun h => ?_))
  ·
   have := of_decide_eq_true h
   have e : decide (xs.length ≤ 4) = false := decide_eq_false (by omega)
   simp [postB, headB, e]
  ·
   have h4 : ¬ (xs.length : Int) > 4 := fun g => h (decide_eq_true g)
   have e1 : decide (0 ≤ id) = true := decide_eq_true (by omega)
   have e2 : decide (id ≤ 99) = true := decide_eq_true (by omega)
   have e3 : decide (1 ≤ xs.length) = true := decide_eq_true (by omega)
   have e4 : decide (xs.length ≤ 4) = true := decide_eq_true (by omega)
   simp only [postB, headB, e1, e2, e3, e4, Bool.true_and]
   exact spec_PostOk_l0 id xs hx (by omega) xs [] rfl
theorem impl_PostOk_l0 (xs : List S77) (hx : Sound xs) (h4 : xs.length ≤ 4) : ∀ (rest pre : List S77), xs = pre ++ rest → EvP (fun k => impl_PostOk.l0 k xs (xs.length : Int) (pre.length : Int)) (· = rest.all legOkB) := by
 intro rest
 induction rest with
 | nil =>
  intro pre e
  refine EvP.step (fun k => by rw [impl_PostOk.l0]) ?_
  exact EvP.neg (by simp [e]) (EvP.now rfl)
 | cons x rest ih =>
  intro pre e
  have hl : xs.length = pre.length + (rest.length + 1) := by rw [e]; simp
  refine EvP.step (fun k => by rw [impl_PostOk.l0]) (EvP.pos (by omega) (EvP.pos (by omega) (EvP.pos (by omega) ?_)))
  have hr : rd_T77 xs (pre.length : Int) = x := by rw [e]; exact rd_midL pre rest x
  rw [hr]
  have e2 : wrap64 ((pre.length : Int) + 1) = ((pre ++ [x]).length : Int) := by rw [w64 (by omega) (by omega)]; simp
  refine EvP.bind (impl_LegOk_ev x.f0 x.f1 x.f2 (hx x (by rw [e]; simp))) ?_
  rintro _ rfl
  have step := ih (pre ++ [x]) (by rw [e]; simp)
  rw [e2]
  cases hb : legB x.f0 x.f1 x.f2
  ·
   exact EvP.neg (by simp) (EvP.now (by simp [legOkB, hb]))
  ·
   refine EvP.pos rfl (step.mono ?_)
   rintro _ rfl
   simp [legOkB, hb]
theorem impl_PostOk_ev (id : Int) (xs : List S77) (hx : Sound xs) : EvP (fun k => impl_PostOk.f k id xs) (· = postB id xs) := by
 unfold impl_PostOk.f
 refine EvP.split (fun h => ?_) (fun h1 => EvP.split (fun h => ?_) (fun h2 => EvP.split (fun h => ?_) (fun h3 => ?_)))
 ·
  refine EvP.step (fun k => by rw [impl_PostOk.j0]) (EvP.pos rfl (EvP.now ?_))
  have e : decide (0 ≤ id) = false := decide_eq_false (by omega)
  simp [postB, headB, e]
 ·
  refine EvP.step (fun k => by rw [impl_PostOk.j0]) (EvP.pos rfl (EvP.now ?_))
  have e : decide (id ≤ 99) = false := decide_eq_false (by omega)
  simp [postB, headB, e]
 ·
  refine EvP.step (fun k => by rw [impl_PostOk.j0]) (EvP.pos rfl (EvP.now ?_))
  have e : decide (1 ≤ xs.length) = false := decide_eq_false (by omega)
  simp [postB, headB, e]
 ·
  refine EvP.step (fun k => by rw [impl_PostOk.j0]) (EvP.split (fun h => EvP.now ?_) (fun h => ?_))
  ·
   have := of_decide_eq_true h
   have e : decide (xs.length ≤ 4) = false := decide_eq_false (by omega)
   simp [postB, headB, e]
  ·
   have h4 : ¬ (xs.length : Int) > 4 := fun g => h (decide_eq_true g)
   have e1 : decide (0 ≤ id) = true := decide_eq_true (by omega)
   have e2 : decide (id ≤ 99) = true := decide_eq_true (by omega)
   have e3 : decide (1 ≤ xs.length) = true := decide_eq_true (by omega)
   have e4 : decide (xs.length ≤ 4) = true := decide_eq_true (by omega)
   simp only [postB, headB, e1, e2, e3, e4, Bool.true_and]
   exact impl_PostOk_l0 xs hx (by omega) xs [] rfl

/-! ### PostSum -/
def sumB (id : Int) (xs : List S77) (cur : Int) : Int := sumLegs cur (selLegs (postB id xs) xs)
theorem spec_PostSum_l0 (cur id : Int) (xs : List S77) (h4 : xs.length ≤ 1048576) : ∀ (rest pre : List S77), xs = pre ++ rest → EvP (fun k => spec_PostSum.l0 k cur (sumLegs cur pre) (pre.length : Int) id xs) (· = sumLegs cur xs) := by
 intro rest
 induction rest with
 | nil =>
  intro pre e
  exact EvP.step (fun k => by rw [spec_PostSum.l0]) (EvP.neg (by simp [e]) (EvP.now (by simp [e])))
 | cons x rest ih =>
  intro pre e
  have hl : xs.length = pre.length + (rest.length + 1) := by rw [e]; simp
  refine EvP.step (fun k => by rw [spec_PostSum.l0]) (EvP.pos (by omega) (EvP.pos (by omega) ?_))
  have hr : rd_T77 xs (pre.length : Int) = x := by rw [e]; exact rd_midL pre rest x
  rw [hr]
  have e2 : wrap64 ((pre.length : Int) + 1) = ((pre ++ [x]).length : Int) := by rw [w64 (by omega) (by omega)]; simp
  have step := ih (pre ++ [x]) (by rw [e]; simp)
  rw [e2]
  refine EvP.split (fun h => ?_) (fun h => ?_)
  ·
   rw [sumLegs_snoc, if_pos h] at step
   exact step
  ·
   rw [sumLegs_snoc, if_neg h] at step
   exact step
theorem spec_PostSum_ev (id : Int) (xs : List S77) (cur : Int) (hx : Sound xs) (h4 : xs.length ≤ 1048576) : EvP (fun k => spec_PostSum.f k id xs cur) (· = sumB id xs cur) := by
 unfold spec_PostSum.f
 refine EvP.bind (spec_PostOk_ev id xs hx) ?_
 rintro _ rfl
 cases hb : postB id xs
 ·
  exact EvP.neg (by simp) (EvP.now (by simp [sumB, hb, selLegs, sumLegs]))
 ·
  refine EvP.pos rfl ?_
  have : sumB id xs cur = sumLegs cur xs := by simp [sumB, hb, selLegs]
  rw [this]
  exact spec_PostSum_l0 cur id xs h4 xs [] rfl
theorem impl_PostSum_ev (id : Int) (xs : List S77) (cur : Int) (hx : Sound xs) : EvP (fun k => impl_PostSum.f k id xs cur) (· = sumB id xs cur) := by
 unfold impl_PostSum.f
 refine EvP.bind (impl_PostOk_ev id xs hx) ?_
 rintro _ rfl
 exact EvP.now rfl

/-! ### PostFair -/
def fairB (id : Int) (xs : List S77) : Bool := postB id xs && decide (sumB id xs 1 = 0) && decide (sumB id xs 2 = 0) && decide (sumB id xs 3 = 0)
theorem spec_PostFair_ev (id : Int) (xs : List S77) (hx : Sound xs) (h4 : xs.length ≤ 1048576) : EvP (fun k => spec_PostFair.f k id xs) (· = fairB id xs) := by
 unfold spec_PostFair.f fairB
 have w2 : wrap64 (1 + 1) = 2 := (w64 (by omega) (by omega)).trans rfl
 have w3 : wrap64 (2 + 1) = 3 := (w64 (by omega) (by omega)).trans rfl
 have w4 : wrap64 (3 + 1) = 4 := (w64 (by omega) (by omega)).trans rfl
 refine EvP.step (fun k => by rw [spec_PostFair.l0]) (EvP.pos (by omega) (EvP.bind (spec_PostSum_ev id xs 1 hx h4) ?_))
 rintro _ rfl
 rw [w2]
 refine EvP.split (fun h1 => ?_) (fun h1 => EvP.now (by simp [h1]))
 refine EvP.step (fun k => by rw [spec_PostFair.l0]) (EvP.pos (by omega) (EvP.bind (spec_PostSum_ev id xs 2 hx h4) ?_))
 rintro _ rfl
 rw [w3]
 refine EvP.split (fun h2 => ?_) (fun h2 => EvP.now (by simp [h2]))
 refine EvP.step (fun k => by rw [spec_PostFair.l0]) (EvP.pos (by omega) (EvP.bind (spec_PostSum_ev id xs 3 hx h4) ?_))
 rintro _ rfl
 rw [w4]
 refine EvP.split (fun h3 => ?_) (fun h3 => EvP.now (by simp [h3]))
 refine EvP.step (fun k => by rw [spec_PostFair.l0]) (EvP.neg (by omega) (EvP.bind (spec_PostOk_ev id xs hx) ?_))
 rintro _ rfl
 exact EvP.now (by simp [h1, h2, h3])
theorem impl_PostFair_ev (id : Int) (xs : List S77) (hx : Sound xs) : EvP (fun k => impl_PostFair.f k id xs) (· = fairB id xs) := by
 unfold impl_PostFair.f fairB
 have w2 : wrap64 (1 + 1) = 2 := (w64 (by omega) (by omega)).trans rfl
 have w3 : wrap64 (2 + 1) = 3 := (w64 (by omega) (by omega)).trans rfl
 have w4 : wrap64 (3 + 1) = 4 := (w64 (by omega) (by omega)).trans rfl
 refine EvP.bind (impl_PostOk_ev id xs hx) ?_
 rintro _ rfl
 refine EvP.split (fun h0 => ?_) (fun h0 => EvP.now (by simp [h0]))
 refine EvP.step (fun k => by rw [impl_PostFair.l0]) (EvP.pos (by omega) (EvP.bind (impl_PostSum_ev id xs 1 hx) ?_))
 rintro _ rfl
 rw [w2]
 refine EvP.split (fun h1 => ?_) (fun h1 => EvP.now (by simp [h1]))
 refine EvP.step (fun k => by rw [impl_PostFair.l0]) (EvP.pos (by omega) (EvP.bind (impl_PostSum_ev id xs 2 hx) ?_))
 rintro _ rfl
 rw [w3]
 refine EvP.split (fun h2 => ?_) (fun h2 => EvP.now (by simp [h2]))
 refine EvP.step (fun k => by rw [impl_PostFair.l0]) (EvP.pos (by omega) (EvP.bind (impl_PostSum_ev id xs 3 hx) ?_))
 rintro _ rfl
 rw [w4]
 refine EvP.split (fun h3 => ?_) (fun h3 => EvP.now (by simp [h3]))
 refine EvP.step (fun k => by rw [impl_PostFair.l0]) ?_
 refine EvP.neg (by omega) (EvP.now ?_)
 simp [h0, h1, h2, h3]

/-! ### A posting that comes in -/
theorem postSame_refl (a : Int) (xs : List S77) : postSameB a xs a xs = true := by simp [postSameB]
theorem sound_of {xs : List S116} (h : ∀ x ∈ xs, (x.f0.size : Int) ≤ 1048576) : Sound (xs.map legOf) := by
 intro y hy
 obtain ⟨x, hx, rfl⟩ := List.mem_map.1 hy
 have := h x hx
 show x.f0.size ≤ _
 omega

/-! ### l1To -/
theorem spec_l1To_l0 (acct : ByteArray) (cur id : Int) (xs : List S77) (h4 : xs.length ≤ 1048576) : ∀ (rest pre : List S77), xs = pre ++ rest → EvP (fun k => spec_l1To.l0 k acct cur (sumTo acct cur pre) (pre.length : Int) id xs) (· = sumTo acct cur xs) := by
 intro rest
 induction rest with
 | nil =>
  intro pre e
  refine EvP.step (fun k => by rw [spec_l1To.l0]) ?_
  exact EvP.neg (by simp [e]) (EvP.now (by simp [e]))
 | cons x rest ih =>
  intro pre e
  have hl : xs.length = pre.length + (rest.length + 1) := by rw [e]; simp
  refine EvP.step (fun k => by rw [spec_l1To.l0]) (EvP.pos (by omega) (EvP.pos (by omega) ?_))
  have hr : rd_T77 xs (pre.length : Int) = x := by rw [e]; exact rd_midL pre rest x
  rw [hr]
  have e2 : wrap64 ((pre.length : Int) + 1) = ((pre ++ [x]).length : Int) := by rw [w64 (by omega) (by omega)]; simp
  have step := ih (pre ++ [x]) (by rw [e]; simp)
  rw [sumTo_snoc] at step
  rw [e2]
  refine EvP.split (fun h => EvP.split (fun h' => ?_) (fun h' => ?_)) (fun h => ?_)
  ·
   rw [if_pos ⟨h, h'⟩] at step
   exact step
  ·
   rw [if_neg (fun g => h' g.2)] at step
   exact step
  ·
   rw [if_neg (fun g => h g.1)] at step
   exact step
theorem spec_l1To_ev (id : Int) (xs : List S77) (acct : ByteArray) (cur : Int) (h4 : xs.length ≤ 1048576) : EvP (fun k => spec_l1To.f k id xs acct cur) (· = sumTo acct cur xs) :=
 spec_l1To_l0 acct cur id xs h4 xs [] rfl

/-! ### Books: sizes, copies, sameness -/
def SmallP (p : S62) : Prop := p.f1.length ≤ 1048576 ∧ ∀ x ∈ p.f1, (x.f0.size : Int) ≤ 1048576
theorem rd_midLP (pre rest : List S62) (x : S62) : rd_T62 (pre ++ x :: rest) (pre.length : Int) = x := by simp [rd_T62]
theorem rd_midIP (pre rest : List S52) (x : S52) : rd_T52 (pre ++ x :: rest) (pre.length : Int) = x := by simp [rd_T52]
def postOf (p : S62) : S52 := ⟨p.f0, p.f1.map legOf⟩
def postKey (p : S52) : Int × List (List UInt8 × Int × Int) := (p.f0, p.f1.map legKey)
theorem szPostS_l0 (xs : List S62) (hx : xs.length ≤ 1048576) (h : ∀ p ∈ xs, p.f1.length ≤ maxLen ∧ ∀ x ∈ p.f1, x.f0.size ≤ maxLen) : ∀ (rest pre : List S62) (left : Int), xs = pre ++ rest → 0 ≤ left → left ≤ 1048576 →
  EvP (fun k => laws_szPostS.l0 k xs left (pre.length : Int)) (fun r => r ≤ left ∧ (0 ≤ r → ∀ p ∈ rest, SmallP p)) := by
 intro rest
 induction rest with
 | nil =>
  intro pre left e h0 h1
  refine EvP.step (fun k => by rw [laws_szPostS.l0]) (EvP.neg (by simp [e]) (EvP.now ⟨Int.le_refl _, by simp⟩))
 | cons x rest ih =>
  intro pre left e h0 h1
  have hl : xs.length = pre.length + (rest.length + 1) := by rw [e]; simp
  refine EvP.step (fun k => by rw [laws_szPostS.l0]) (EvP.pos (by omega) (EvP.pos (by omega) ?_))
  have hr : rd_T62 xs (pre.length : Int) = x := by rw [e]; exact rd_midLP pre rest x
  rw [hr]
  have hxm := h x (by rw [e]; simp)
  refine EvP.bind (szPost_ev x.f0 x.f1 left hxm.1 hxm.2 h0 h1) ?_
  rintro r ⟨hle, hb⟩
  refine EvP.split (fun hneg => EvP.now ⟨by omega, fun hh => by omega⟩) (fun hpos => ?_)
  have e2 : wrap64 ((pre.length : Int) + 1) = ((pre ++ [x]).length : Int) := by rw [w64 (by omega) (by omega)]; simp
  rw [e2]
  refine (ih (pre ++ [x]) r (by rw [e]; simp) (by omega) (by omega)).mono ?_
  rintro a ⟨ha, hb'⟩
  refine ⟨by omega, fun hh y hy => ?_⟩
  rcases List.mem_cons.1 hy with rfl | hy
  ·
   exact hb (by omega)
  ·
   exact hb' hh y hy
theorem szPostS_ev (xs : List S62) (left : Int) (hl : xs.length ≤ maxLen) (h : ∀ p ∈ xs, p.f1.length ≤ maxLen ∧ ∀ x ∈ p.f1, x.f0.size ≤ maxLen) (h0 : 0 ≤ left) (h1 : left ≤ 1048576) :
  EvP (fun k => laws_szPostS.f k xs left) (fun r => r ≤ left ∧ (0 ≤ r → xs.length ≤ 1048576 ∧ ∀ p ∈ xs, SmallP p)) := by
 unfold laws_szPostS.f
 unfold maxLen at hl
 rw [w64 (by omega) (by omega)]
 refine EvP.split (fun hn => EvP.now ⟨by omega, fun hh => by omega⟩) (fun hp => ?_)
 refine (szPostS_l0 xs (by omega) h xs [] _ rfl (by omega) (by omega)).mono ?_
 rintro r ⟨ha, hb⟩
 exact ⟨by omega, fun hh => ⟨by omega, hb hh⟩⟩
theorem toPostS_l0 (xs : List S62) (hx : xs.length ≤ 1048576) (h : ∀ p ∈ xs, SmallP p) : ∀ (rest pre : List S62), xs = pre ++ rest →
  EvP (fun k => laws_toPostS.l0 k xs (pre.map postOf ++ List.replicate rest.length z52) (pre.length : Int)) (· = xs.map postOf) := by
 intro rest
 induction rest with
 | nil =>
  intro pre e
  refine EvP.step (fun k => by rw [laws_toPostS.l0]) (EvP.neg (by simp [e]) (EvP.now ?_))
  simp [e]
 | cons x rest ih =>
  intro pre e
  have hl : xs.length = pre.length + (rest.length + 1) := by rw [e]; simp
  refine EvP.step (fun k => by rw [laws_toPostS.l0]) (EvP.pos (by omega) (EvP.pos (by omega) ?_))
  have hr : rd_T62 xs (pre.length : Int) = x := by rw [e]; exact rd_midLP pre rest x
  rw [hr]
  refine EvP.bind (toPost_ev x.f0 x.f1 (h x (by rw [e]; simp)).1) ?_
  rintro _ rfl
  refine EvP.pos (by simp; omega) ?_
  have e2 : wrap64 ((pre.length : Int) + 1) = ((pre ++ [x]).length : Int) := by rw [w64 (by omega) (by omega)]; simp
  rw [e2]
  have e3 : (pre.map postOf ++ List.replicate (x :: rest).length z52).set ((pre.length : Int)).toNat (⟨x.f0, x.f1.map legOf⟩ : S52) = (pre ++ [x]).map postOf ++ List.replicate rest.length z52 := by
   simp [List.replicate_succ, postOf]
  rw [e3]
  exact ih (pre ++ [x]) (by rw [e]; simp)
theorem toPostS_ev (xs : List S62) (hx : xs.length ≤ 1048576) (h : ∀ p ∈ xs, SmallP p) : EvP (fun k => laws_toPostS.f k xs) (· = xs.map postOf) := by
 unfold laws_toPostS.f
 refine EvP.pos (by omega) (EvP.pos (by omega) ?_)
 have := toPostS_l0 xs hx h xs [] rfl
 simpa using this
def ShortP (p : S52) : Prop := p.f1.length ≤ 1048576
theorem postSameB_key (x y : S52) : postSameB x.f0 x.f1 y.f0 y.f1 = decide (postKey x = postKey y) := by simp [postSameB, postKey]
def bookSameB (xs ys : List S52) : Bool := decide (xs.map postKey = ys.map postKey)
theorem bookSame_refl (xs : List S52) : bookSameB xs xs = true := by simp [bookSameB]
theorem short_of {xs : List S62} (h : ∀ p ∈ xs, SmallP p) : ∀ p ∈ xs.map postOf, ShortP p := by
 intro y hy
 obtain ⟨x, hx, rfl⟩ := List.mem_map.1 hy
 have := (h x hx).1
 simpa [ShortP, postOf] using this
theorem eqPostS_l0 (xs ys : List S52) (hx : xs.length ≤ 1048576) (hs : ∀ p ∈ xs, ShortP p) : ∀ (r r' pre pre' : List S52), xs = pre ++ r → ys = pre' ++ r' → pre.length = pre'.length → r.length = r'.length →
  EvP (fun k => laws_eqPostS.l0 k xs ys (pre.length : Int)) (· = decide (r.map postKey = r'.map postKey)) := by
 intro r
 induction r with
 | nil =>
  intro r' pre pre' e e' hl hr
  obtain rfl : r' = [] := List.eq_nil_of_length_eq_zero (by simpa using hr.symm)
  exact EvP.step (fun k => by rw [laws_eqPostS.l0]) (EvP.neg (by simp [e]) (EvP.now (by simp)))
 | cons x r ih =>
  intro r' pre pre' e e' hl hr
  cases r' with
  | nil => simp at hr
  | cons y r' =>
   have h1 : xs.length = pre.length + (r.length + 1) := by rw [e]; simp
   have h2 : ys.length = pre'.length + (r'.length + 1) := by rw [e']; simp
   refine EvP.step (fun k => by rw [laws_eqPostS.l0]) (EvP.pos (by omega) (EvP.pos (by omega) (EvP.pos (by simp at hr; omega) ?_)))
   have hrx : rd_T52 xs (pre.length : Int) = x := by rw [e]; exact rd_midIP pre r x
   have hry : rd_T52 ys (pre.length : Int) = y := by rw [e', hl]; exact rd_midIP pre' r' y
   rw [hrx, hry]
   have e2 : wrap64 ((pre.length : Int) + 1) = ((pre ++ [x]).length : Int) := by rw [w64 (by omega) (by omega)]; simp
   have step := ih r' (pre ++ [x]) (pre' ++ [y]) (by rw [e]; simp) (by rw [e']; simp) (by simp [hl]) (by simpa using hr)
   rw [← e2] at step
   refine EvP.bind (eqPost_ev x.f0 x.f1 y.f0 y.f1 (hs x (by rw [e]; simp))) ?_
   rintro _ rfl
   rw [postSameB_key]
   by_cases c : postKey x = postKey y
   ·
    refine EvP.pos (by simp [c]) (step.mono ?_)
    rintro _ rfl
    simp [c]
   ·
    exact EvP.neg (by simp [c]) (EvP.now (by simp [c]))
theorem eqPostS_ev (xs ys : List S52) (hx : xs.length ≤ 1048576) (hs : ∀ p ∈ xs, ShortP p) : EvP (fun k => laws_eqPostS.f k xs ys) (· = bookSameB xs ys) := by
 unfold laws_eqPostS.f bookSameB
 refine EvP.split (fun h => ?_) (fun h => EvP.now ?_)
 ·
  exact eqPostS_l0 xs ys hx hs xs ys [] [] rfl rfl rfl (by omega)
 ·
  have : xs.map postKey ≠ ys.map postKey := fun he => h (by have := congrArg List.length he; simp at this; omega)
  simp [this]

/-! ### The books' ledger -/
def GoodP (p : S52) : Prop := Sound p.f1 ∧ p.f1.length ≤ 1048576
def legsAll (done : List S52) : List S77 := done.flatMap fun p => p.f1
theorem legsAll_snoc (done : List S52) (p : S52) : legsAll (done ++ [p]) = legsAll done ++ p.f1 := by simp [legsAll]
theorem bk_fold (a : ByteArray) (c : Int) : ∀ (ys : List S77) (s t : Int), ys.foldl (fun s x => if x.f0.toList = a.toList ∧ x.f1 = c then wrap64 (s + x.f2) else s) (wrap64 (s + t)) = wrap64 (s + ys.foldl (fun s x => if x.f1 = c ∧ x.f0.toList = a.toList then wrap64 (s + x.f2) else s) (wrap64 t)) := by
 intro ys
 induction ys with
 | nil =>
  intro s t
  simp only [List.foldl_nil]
  unfold wrap64
  omega
 | cons x ys ih =>
  intro s t
  simp only [List.foldl_cons]
  by_cases h : x.f1 = c ∧ x.f0.toList = a.toList
  ·
   rw [if_pos h, if_pos h.symm]
   have e1 : wrap64 (wrap64 (s + t) + x.f2) = wrap64 (s + (t + x.f2)) := by unfold wrap64; omega
   have e2 : wrap64 (wrap64 t + x.f2) = wrap64 (t + x.f2) := by unfold wrap64; omega
   rw [e1, e2]
   exact ih s (t + x.f2)
  ·
   rw [if_neg h, if_neg (fun g => h g.symm)]
   exact ih s t
theorem balOf_wrap (legs : List S77) (a : ByteArray) (c : Int) : wrap64 (balOf legs a c) = balOf legs a c := by
 have h := bk_fold a c legs 0 0
 have z : wrap64 (0 + 0) = 0 := by unfold wrap64; omega
 rw [z] at h
 unfold balOf
 rw [h]
 unfold wrap64
 omega
theorem balOf_append (legs ys : List S77) (a : ByteArray) (c : Int) : balOf (legs ++ ys) a c = wrap64 (balOf legs a c + sumTo a c ys) := by
 have h := bk_fold a c ys (balOf legs a c) 0
 have z : wrap64 0 = 0 := by unfold wrap64; omega
 rw [Int.add_zero, balOf_wrap, z] at h
 unfold sumTo
 rw [← h]
 simp [balOf]
theorem spec_l2Bal_ev (xs : List S52) (a : ByteArray) (c : Int) (hn : xs.length ≤ 1048576) (hg : ∀ p ∈ xs, GoodP p) : EvP (fun k => spec_l2Bal.f k xs a c) (· = balOf (legsAll xs) a c) := by
 have key : ∀ (rest pre : List S52), xs = pre ++ rest → EvP (fun k => spec_l2Bal.l0 k xs a c (balOf (legsAll pre) a c) (pre.length : Int)) (· = balOf (legsAll xs) a c) := by
  intro rest
  induction rest with
  | nil =>
   intro pre e
   refine EvP.step (fun k => by rw [spec_l2Bal.l0]) (EvP.neg (by simp [e]) (EvP.now (by simp [e])))
  | cons p rest ih =>
   intro pre e
   have hl : xs.length = pre.length + (rest.length + 1) := by rw [e]; simp
   refine EvP.step (fun k => by rw [spec_l2Bal.l0]) (EvP.pos (by omega) (EvP.pos (by omega) ?_))
   have hr : rd_T52 xs (pre.length : Int) = p := by rw [e]; exact rd_midIP pre rest p
   rw [hr]
   refine EvP.bind (spec_l1To_ev p.f0 p.f1 a c (hg p (by rw [e]; simp)).2) ?_
   rintro _ rfl
   have e2 : wrap64 ((pre.length : Int) + 1) = ((pre ++ [p]).length : Int) := by rw [w64 (by omega) (by omega)]; simp
   rw [e2, ← balOf_append, ← legsAll_snoc]
   exact ih (pre ++ [p]) (by rw [e]; simp)
 exact key xs [] rfl
theorem spec_l2Over_ev (xs : List S52) (id : Int) (ys : List S77) (hn : xs.length ≤ 1048576) (hg : ∀ p ∈ xs, GoodP p) (hy : ys.length ≤ 1048576) : EvP (fun k => spec_l2Over.f k xs id ys) (· = ys.any (farP (legsAll xs) ys)) := by
 have key : ∀ (rest pre : List S77), ys = pre ++ rest → EvP (fun k => spec_l2Over.l0 k xs (pre.length : Int) id ys) (· = rest.any (farP (legsAll xs) ys)) := by
  intro rest
  induction rest with
  | nil =>
   intro pre e
   exact EvP.step (fun k => by rw [spec_l2Over.l0]) (EvP.neg (by simp [e]) (EvP.now (by simp)))
  | cons x rest ih =>
   intro pre e
   have hl : ys.length = pre.length + (rest.length + 1) := by rw [e]; simp
   refine EvP.step (fun k => by rw [spec_l2Over.l0]) (EvP.pos (by omega) (EvP.pos (by omega) ?_))
   have hr : rd_T77 ys (pre.length : Int) = x := by rw [e]; exact rd_midL pre rest x
   rw [hr]
   refine EvP.bind (spec_l2Bal_ev xs x.f0 x.f1 hn hg) ?_
   rintro _ rfl
   refine EvP.bind (spec_l1To_ev id ys x.f0 x.f1 hy) ?_
   rintro _ rfl
   have e2 : wrap64 ((pre.length : Int) + 1) = ((pre ++ [x]).length : Int) := by rw [w64 (by omega) (by omega)]; simp
   refine EvP.split (fun h1 => EvP.now (by simp [farP, h1])) (fun h1 => EvP.split (fun h2 => EvP.now (by simp [farP, h2])) (fun h2 => ?_))
   rw [e2]
   have f : farP (legsAll xs) ys x = false := by
    unfold farP
    rw [decide_eq_false h1, decide_eq_false h2]
    rfl
   refine (ih (pre ++ [x]) (by rw [e]; simp)).mono ?_
   rintro _ rfl
   rw [List.any_cons, f, Bool.false_or]
 exact key ys [] rfl
def hasB (xs : List S52) (id : Int) : Bool := xs.any fun p => decide (p.f0 = id)
theorem spec_l2Has_ev (xs : List S52) (id : Int) (hn : xs.length ≤ 1048576) : EvP (fun k => spec_l2Has.f k xs id) (· = hasB xs id) := by
 have key : ∀ (rest pre : List S52), xs = pre ++ rest → EvP (fun k => spec_l2Has.l0 k xs id (pre.length : Int)) (· = hasB rest id) := by
  intro rest
  induction rest with
  | nil =>
   intro pre e
   exact EvP.step (fun k => by rw [spec_l2Has.l0]) (EvP.neg (by simp [e]) (EvP.now (by simp [hasB])))
  | cons p rest ih =>
   intro pre e
   have hl : xs.length = pre.length + (rest.length + 1) := by rw [e]; simp
   refine EvP.step (fun k => by rw [spec_l2Has.l0]) (EvP.pos (by omega) (EvP.pos (by omega) ?_))
   have hr : rd_T52 xs (pre.length : Int) = p := by rw [e]; exact rd_midIP pre rest p
   rw [hr]
   refine EvP.split (fun h => EvP.now (by simp [hasB, h])) (fun h => ?_)
   have e2 : wrap64 ((pre.length : Int) + 1) = ((pre ++ [p]).length : Int) := by rw [w64 (by omega) (by omega)]; simp
   rw [e2]
   refine (ih (pre ++ [p]) (by rw [e]; simp)).mono ?_
   rintro _ rfl
   simp [hasB, h]
 exact key xs [] rfl
theorem ids_fold (id : Int) : ∀ (xs : List S52) (s : Int), 0 ≤ s → s + xs.length ≤ 4611686018427387904 → s ≤ xs.foldl (fun s p => if p.f0 = id then wrap64 (s + 1) else s) s ∧ (s < xs.foldl (fun s p => if p.f0 = id then wrap64 (s + 1) else s) s ↔ hasB xs id = true) := by
 intro xs
 induction xs with
 | nil =>
  intro s h0 h1
  simp [hasB]
 | cons p xs ih =>
  intro s h0 h1
  simp only [List.foldl_cons]
  simp only [List.length_cons] at h1
  by_cases h : p.f0 = id
  ·
   rw [if_pos h, w64 (by omega) (by omega)]
   have i := ih (s + 1) (by omega) (by omega)
   refine ⟨by omega, ⟨fun _ => by simp [hasB, h], fun _ => by omega⟩⟩
  ·
   rw [if_neg h]
   have i := ih s h0 (by omega)
   refine ⟨i.1, i.2.trans ?_⟩
   simp [hasB, h]
theorem idsOf_has (xs : List S52) (id : Int) (hn : xs.length ≤ 1048576) : 0 < idsOf xs id ↔ hasB xs id = true := (ids_fold id xs 0 (by omega) (by omega)).2
def codeOf (done : List S52) (p : S52) : Int := codeP done (legsAll done) p.f0 (fairB p.f0 p.f1) (selLegs (postB p.f0 p.f1) p.f1)
theorem fair_post {id : Int} {xs : List S77} (h : fairB id xs = true) : postB id xs = true := by
 unfold fairB at h
 simp only [Bool.and_eq_true] at h
 exact h.1.1.1
theorem spec_l2Code_ev (xs : List S52) (p : S52) (hn : xs.length ≤ 1048576) (hg : ∀ p ∈ xs, GoodP p) (hp : GoodP p) : EvP (fun k => spec_l2Code.f k xs p.f0 p.f1) (· = codeOf xs p) := by
 unfold spec_l2Code.f codeOf codeP
 refine EvP.bind (spec_PostFair_ev p.f0 p.f1 hp.1 hp.2) ?_
 rintro _ rfl
 refine EvP.split (fun h => ?_) (fun h => EvP.now (by rw [if_neg h]))
 rw [if_pos h, fair_post h]
 refine EvP.bind (spec_l2Has_ev xs p.f0 hn) ?_
 rintro _ rfl
 refine EvP.split (fun h1 => EvP.now (by rw [if_pos ((idsOf_has xs p.f0 hn).2 h1)])) (fun h1 => ?_)
 rw [if_neg (fun g => h1 ((idsOf_has xs p.f0 hn).1 g))]
 refine EvP.bind (spec_l2Over_ev xs p.f0 p.f1 hn hg hp.2) ?_
 rintro _ rfl
 have es : selLegs true p.f1 = p.f1 := rfl
 rw [es]
 refine EvP.split (fun h2 => EvP.now (by rw [if_pos h2])) (fun h2 => ?_)
 rw [if_neg h2]
 refine EvP.split (fun h3 => EvP.now (by rw [if_pos h3])) (fun h3 => EvP.now (by rw [if_neg h3]))
def bookB : List S52 → List S52 → Bool
 | _, [] => true
 | done, p :: r => if codeOf done p = 0 then bookB (done ++ [p]) r else false
def okB (xs : List S52) : Bool := if xs.length > 40 then false else bookB [] xs
theorem spec_BookOk_ev (xs : List S52) (hg : ∀ p ∈ xs, GoodP p) : EvP (fun k => spec_BookOk.f k xs) (· = okB xs) := by
 unfold spec_BookOk.f okB
 refine EvP.split (fun h => EvP.now (by rw [if_pos (by omega)])) (fun h => ?_)
 rw [if_neg (by omega)]
 have key : ∀ (rest pre : List S52), xs = pre ++ rest → EvP (fun k => spec_BookOk.l0 k xs (pre.length : Int)) (· = bookB pre rest) := by
  intro rest
  induction rest with
  | nil =>
   intro pre e
   exact EvP.step (fun k => by rw [spec_BookOk.l0]) (EvP.neg (by simp [e]) (EvP.now (by simp [bookB])))
  | cons p rest ih =>
   intro pre e
   have hl : xs.length = pre.length + (rest.length + 1) := by rw [e]; simp
   refine EvP.step (fun k => by rw [spec_BookOk.l0]) (EvP.pos (by omega) (EvP.pos (by omega) (EvP.pos (by omega) ?_)))
   have hr : rd_T52 xs (pre.length : Int) = p := by rw [e]; exact rd_midIP pre rest p
   have ht : xs.take ((pre.length : Int)).toNat = pre := by rw [e]; simp
   rw [hr, ht]
   refine EvP.bind (spec_l2Code_ev pre p (by omega) (fun q hq => hg q (by rw [e]; simp [hq])) (hg p (by rw [e]; simp))) ?_
   rintro _ rfl
   have e2 : wrap64 ((pre.length : Int) + 1) = ((pre ++ [p]).length : Int) := by rw [w64 (by omega) (by omega)]; simp
   rw [e2]
   refine EvP.split (fun h => ?_) (fun h => EvP.now (by rw [bookB, if_neg h]))
   rw [bookB, if_pos h]
   exact ih (pre ++ [p]) (by rw [e]; simp)
 exact key xs [] rfl
theorem ledP_ev : ∀ (rest done : List S52), (∀ p ∈ rest, GoodP p) → EvP (fun k => ledP k rest done (legsAll done)) (fun t => t.1 = bookB done rest ∧ (t.1 = true → t.2.1 = done ++ rest ∧ t.2.2 = legsAll (done ++ rest))) := by
 intro rest
 induction rest with
 | nil =>
  intro done _
  unfold ledP
  exact EvP.now ⟨by simp [bookB], fun _ => by simp⟩
 | cons p rest ih =>
  intro done hg
  unfold ledP
  have hp := hg p (by simp)
  refine EvP.bind (impl_PostFair_ev p.f0 p.f1 hp.1) ?_
  rintro _ rfl
  refine EvP.bind (impl_PostOk_ev p.f0 p.f1 hp.1) ?_
  rintro _ rfl
  refine EvP.split (fun h => ?_) (fun h => EvP.now ⟨?_, fun g => Bool.noConfusion g⟩)
  ·
   have hf : fairB p.f0 p.f1 = true := by
    unfold codeP at h
    by_cases c : fairB p.f0 p.f1 = true
    ·
     exact c
    ·
     rw [if_neg c] at h
     omega
   have e : legsAll done ++ selLegs (postB p.f0 p.f1) p.f1 = legsAll (done ++ [p]) := by
    rw [fair_post hf, legsAll_snoc]
    rfl
   rw [e]
   refine (ih (done ++ [p]) (fun q hq => hg q (by simp [hq]))).mono ?_
   rintro t ⟨h1, h2⟩
   refine ⟨?_, fun g => ?_⟩
   ·
    have h : codeOf done p = 0 := h
    rw [h1, bookB, if_pos h]
   ·
    have := h2 g
    simpa using this
  ·
   have h : ¬ codeOf done p = 0 := h
   rw [bookB, if_neg h]
theorem ledR_ev (xs : List S52) (ho : ∀ p ∈ xs, okPost p = true) (hg : ∀ p ∈ xs, GoodP p) : EvP (fun k => ledR k xs) (fun t => t.1 = okB xs ∧ (t.1 = true → t.2.1 = xs ∧ t.2.2 = legsAll xs)) := by
 unfold ledR okB
 refine EvP.pos (by simpa using ho) ?_
 refine EvP.split (fun h => EvP.now ⟨by rw [if_pos h], fun g => Bool.noConfusion g⟩) (fun h => ?_)
 rw [if_neg h]
 exact ledP_ev xs [] hg
/-- What opening tells of the books that come in, and their smallness, for their copies. -/
theorem books_ok {xs : List S62} (g : ∀ x ∈ xs, (Lit.int .i64 x.f0).wf = true ∧ x.f1.length ≤ maxLen ∧ ∀ y ∈ x.f1, y.f0.size ≤ maxLen ∧ (Lit.int .i64 y.f1).wf = true ∧ (Lit.int .i64 y.f2).wf = true) (s : ∀ p ∈ xs, SmallP p) :
  (∀ p ∈ xs.map postOf, okPost p = true) ∧ ∀ p ∈ xs.map postOf, GoodP p := by
 constructor
 ·
  intro q hq
  obtain ⟨p, hp, rfl⟩ := List.mem_map.1 hq
  obtain ⟨h1, h2⟩ := s p hp
  obtain ⟨w0, w1, w2⟩ := g p hp
  unfold okPost
  simp only [Bool.and_eq_true, decide_eq_true_eq, List.all_eq_true]
  refine ⟨⟨w0, by simpa [postOf] using h1⟩, ?_⟩
  intro y hy
  obtain ⟨x, hx, rfl⟩ := List.mem_map.1 hy
  have := h2 x hx
  unfold okLeg
  simp only [Bool.and_eq_true, decide_eq_true_eq]
  refine ⟨?_, (w2 x hx).2.1⟩
  show x.f0.size ≤ _
  omega
 ·
  intro q hq
  obtain ⟨p, hp, rfl⟩ := List.mem_map.1 hq
  obtain ⟨h1, h2⟩ := s p hp
  refine ⟨sound_of h2, by simpa [postOf] using h1⟩

/-! ### What a book tells of its postings -/
theorem book_post : ∀ (rest done : List S52), bookB done rest = true → ∀ p ∈ rest, postB p.f0 p.f1 = true := by
 intro rest
 induction rest with
 | nil => intro done _ p hp; cases hp
 | cons q rest ih =>
  intro done h p hp
  rw [bookB] at h
  by_cases c : codeOf done q = 0
  ·
   rw [if_pos c] at h
   rcases List.mem_cons.1 hp with rfl | hp
   ·
    refine fair_post ?_
    unfold codeOf codeP at c
    by_cases f : fairB p.f0 p.f1 = true
    ·
     exact f
    ·
     rw [if_neg f] at c
     omega
   ·
    exact ih (done ++ [q]) h p hp
  ·
   rw [if_neg c] at h
   cases h
theorem okB_post {xs : List S52} (h : okB xs = true) : xs.length ≤ 40 ∧ ∀ p ∈ xs, postB p.f0 p.f1 = true := by
 unfold okB at h
 by_cases c : xs.length > 40
 ·
  rw [if_pos c] at h
  cases h
 ·
  rw [if_neg c] at h
  exact ⟨by omega, book_post xs [] h⟩
theorem impl_BookOk_evA (xs : List S52) (ho : ∀ p ∈ xs, okPost p = true) (hg : ∀ p ∈ xs, GoodP p) : EvP (fun k => impl_BookOk.f k xs) (· = okB xs) := by
 unfold impl_BookOk.f
 refine EvP.bind (ledR_ev xs ho hg) ?_
 rintro t ⟨h, _⟩
 exact EvP.now h

/-! ### Bytes in their order -/
theorem bytesLess_irrefl : ∀ l : List UInt8, Op.bytesLess l l = false := by
 intro l
 induction l with
 | nil => rfl
 | cons a l ih => simp [Op.bytesLess, ih]
theorem bl_cons (a b : UInt8) (x y : List UInt8) : Op.bytesLess (a :: x) (b :: y) = true ↔ a.toNat < b.toNat ∨ (a = b ∧ Op.bytesLess x y = true) := by
 simp [Op.bytesLess, UInt8.lt_iff_toNat_lt]
theorem bl_trans : ∀ x y z : List UInt8, Op.bytesLess x y = true → Op.bytesLess y z = true → Op.bytesLess x z = true := by
 intro x
 induction x with
 | nil =>
  intro y z h k
  cases z with
  | nil => cases y <;> simp [Op.bytesLess] at k
  | cons c z => rfl
 | cons a x ih =>
  intro y z h k
  cases y with
  | nil => simp [Op.bytesLess] at h
  | cons b y =>
   cases z with
   | nil => simp [Op.bytesLess] at k
   | cons c z =>
    rw [bl_cons] at h k ⊢
    rcases h with h | ⟨rfl, h⟩ <;> rcases k with k | ⟨rfl, k⟩
    ·
     exact .inl (by omega)
    ·
     exact .inl h
    ·
     exact .inl k
    ·
     exact .inr ⟨rfl, ih _ _ h k⟩
theorem bl_asymm (x y : List UInt8) (h : Op.bytesLess x y = true) : Op.bytesLess y x = false := by
 cases k : Op.bytesLess y x
 ·
  rfl
 ·
  have := bl_trans _ _ _ h k
  rw [bytesLess_irrefl] at this
  cases this
theorem bl_total : ∀ x y : List UInt8, x ≠ y → Op.bytesLess x y = false → Op.bytesLess y x = true := by
 intro x
 induction x with
 | nil =>
  intro y h k
  cases y with
  | nil => exact absurd rfl h
  | cons b y => simp [Op.bytesLess] at k
 | cons a x ih =>
  intro y h k
  cases y with
  | nil => rfl
  | cons b y =>
   have k' : ¬ Op.bytesLess (a :: x) (b :: y) = true := by rw [k]; simp
   rw [bl_cons] at k' ⊢
   by_cases hab : a = b
   ·
    subst hab
    refine .inr ⟨rfl, ih y (fun e => h (by rw [e])) ?_⟩
    cases q : Op.bytesLess x y
    ·
     rfl
    ·
     exact absurd (.inr ⟨rfl, q⟩) k'
   ·
    refine .inl ?_
    have : a.toNat ≠ b.toNat := fun e => hab (UInt8.toNat.inj e)
    have : ¬ a.toNat < b.toNat := fun e => k' (.inl e)
    omega

/-! ### Accounts of a book -/
theorem rd_midS (pre rest : List ByteArray) (x : ByteArray) : rdOf ByteArray.empty (pre ++ x :: rest) (pre.length : Int) = x := by simp [rdOf]
/-- A name put into an ascending row, once. -/
def insB (x : ByteArray) : List ByteArray → List ByteArray
 | [] => [x]
 | y :: l => if lessS y x = true then y :: insB x l else if y.toList = x.toList then y :: l else x :: y :: l
theorem insB_length (x : ByteArray) : ∀ l : List ByteArray, (insB x l).length ≤ l.length + 1
 | [] => by simp [insB]
 | y :: l => by
  have := insB_length x l
  unfold insB
  split
  ·
   simp; omega
  ·
   split <;> simp
theorem lessS_trans {a b c : ByteArray} (h : lessS a b = true) (k : lessS b c = true) : lessS a c = true := bl_trans _ _ _ h k
def SortedS (l : List ByteArray) : Prop := l.Pairwise fun a b => lessS a b = true
theorem insB_mem (x : ByteArray) : ∀ (l : List ByteArray) (z : ByteArray), z ∈ insB x l → z = x ∨ z ∈ l
 | [], z, h => by simp [insB] at h; exact .inl h
 | y :: l, z, h => by
  unfold insB at h
  by_cases c : lessS y x = true
  ·
   rw [if_pos c] at h
   rcases List.mem_cons.1 h with rfl | h
   ·
    exact .inr (by simp)
   ·
    rcases insB_mem x l z h with h | h
    ·
     exact .inl h
    ·
     exact .inr (by simp [h])
  ·
   rw [if_neg c] at h
   by_cases e : y.toList = x.toList
   ·
    rw [if_pos e] at h
    exact .inr h
   ·
    rw [if_neg e] at h
    rcases List.mem_cons.1 h with rfl | h
    ·
     exact .inl rfl
    ·
     exact .inr h
theorem insB_sorted (x : ByteArray) : ∀ l : List ByteArray, SortedS l → SortedS (insB x l)
 | [], _ => by simp [insB, SortedS]
 | y :: l, h => by
  obtain ⟨h1, h2⟩ := List.pairwise_cons.1 h
  unfold insB
  by_cases c : lessS y x = true
  ·
   rw [if_pos c]
   refine List.pairwise_cons.2 ⟨fun z hz => ?_, insB_sorted x l h2⟩
   rcases insB_mem x l z hz with rfl | hz
   ·
    exact c
   ·
    exact h1 z hz
  ·
   rw [if_neg c]
   by_cases e : y.toList = x.toList
   ·
    rw [if_pos e]
    exact h
   ·
    rw [if_neg e]
    have hxy : lessS x y = true := bl_total _ _ e (by simpa [lessS] using c)
    refine List.pairwise_cons.2 ⟨fun z hz => ?_, h⟩
    rcases List.mem_cons.1 hz with rfl | hz
    ·
     exact hxy
    ·
     exact lessS_trans hxy (h1 z hz)
theorem find_ins (x : ByteArray) : ∀ (l : List ByteArray) (p : Nat), p ≤ l.length → (∀ q, q < p → lessS (l.getD q ByteArray.empty) x = true) → (p = l.length ∨ lessS (l.getD p ByteArray.empty) x = false) →
  insB x l = if p < l.length ∧ (l.getD p ByteArray.empty).toList = x.toList then l else l.take p ++ x :: l.drop p := by
 intro l
 induction l with
 | nil =>
  intro p hp _ _
  obtain rfl : p = 0 := by simpa using hp
  simp [insB]
 | cons y l ih =>
  intro p hp h1 h2
  cases p with
  | zero =>
   have h3 : lessS y x = false := by
    rcases h2 with h | h
    ·
     simp at h
    ·
     simpa using h
   unfold insB
   simp [h3]
  | succ p =>
   have h3 : lessS y x = true := by simpa using h1 0 (by omega)
   have := ih p (by simpa using hp) (fun q hq => by simpa using h1 (q + 1) (by omega)) (by
    rcases h2 with h | h
    ·
     exact .inl (by simpa using h)
    ·
     exact .inr (by simpa using h))
   unfold insB
   rw [if_pos h3, this]
   simp only [List.length_cons, Nat.add_lt_add_iff_right, List.getD_cons_succ, List.take_succ_cons, List.drop_succ_cons]
   split <;> simp
theorem putAcct_ins (l : List ByteArray) (y : S77) (hs : SortedS l) (hl : l.length < 4611686018427387904) : putAcct l y = insB y.f0 l := by
 obtain ⟨p, h1, h2, h3, h4⟩ := search_ev l y.f0 hl
 have hq : ∀ q, q < p → lessS (l.getD q ByteArray.empty) y.f0 = true := by
  intro q hq
  rcases h3 with h3 | h3
  ·
   omega
  ·
   by_cases e : q = p - 1
   ·
    rw [e]; exact h3
   ·
    have h5 := List.pairwise_iff_getElem.1 hs q (p - 1) (by omega) (by omega) (by omega)
    rw [List.getD_eq_getElem?_getD, List.getElem?_eq_getElem (by omega)] at h3 ⊢
    exact lessS_trans h5 h3
 rw [find_ins y.f0 l p h2 hq h4]
 unfold putAcct
 rw [h1]
 by_cases c : p < l.length ∧ (l.getD p ByteArray.empty).toList = y.f0.toList
 ·
  rw [if_pos c]
  simp only [decide_eq_true c]
 ·
  rw [if_neg c]
  simp only [decide_eq_false c, Int.toNat_natCast]
def acctsL (acc : List ByteArray) (ys : List S77) : List ByteArray := ys.foldl (fun l y => insB y.f0 l) acc
theorem acctsL_sorted : ∀ (ys : List S77) (acc : List ByteArray), SortedS acc → SortedS (acctsL acc ys)
 | [], _, h => h
 | y :: ys, acc, h => acctsL_sorted ys _ (insB_sorted y.f0 acc h)
theorem acctsL_length : ∀ (ys : List S77) (acc : List ByteArray), (acctsL acc ys).length ≤ acc.length + ys.length
 | [], _ => by simp [acctsL]
 | y :: ys, acc => by
  have h1 := acctsL_length ys (insB y.f0 acc)
  have h2 := insB_length y.f0 acc
  unfold acctsL at h1 ⊢
  simp only [List.foldl_cons, List.length_cons]
  omega
theorem acctsL_append (acc : List ByteArray) (ys zs : List S77) : acctsL acc (ys ++ zs) = acctsL (acctsL acc ys) zs := by simp [acctsL]
theorem putAccts_ins : ∀ (ys : List S77) (acc : List ByteArray), SortedS acc → acc.length + ys.length < 4611686018427387904 → putAccts acc ys = acctsL acc ys := by
 intro ys
 induction ys with
 | nil => intro acc _ _; rfl
 | cons y ys ih =>
  intro acc hs hl
  simp only [List.length_cons] at hl
  have h1 := insB_length y.f0 acc
  have := ih (insB y.f0 acc) (insB_sorted _ _ hs) (by omega)
  unfold putAccts acctsL at this ⊢
  rw [List.foldl_cons, List.foldl_cons, putAcct_ins acc y hs (by omega)]
  exact this
def acctsAll (xs : List S52) : List ByteArray := acctsL [] (legsAll xs)
theorem acctsAll_snoc (xs : List S52) (p : S52) : acctsAll (xs ++ [p]) = acctsL (acctsAll xs) p.f1 := by
 unfold acctsAll
 rw [legsAll_snoc, acctsL_append]
theorem legsAll_length : ∀ (xs : List S52), (∀ p ∈ xs, GoodP p) → (legsAll xs).length ≤ xs.length * 1048576
 | [], _ => by simp [legsAll]
 | p :: xs, h => by
  have h1 := legsAll_length xs (fun q hq => h q (by simp [hq]))
  have h3 := (h p (by simp)).2
  have e : legsAll (p :: xs) = p.f1 ++ legsAll xs := by simp [legsAll]
  rw [e, List.length_append, List.length_cons]
  omega
theorem acctsAll_length (xs : List S52) (hg : ∀ p ∈ xs, GoodP p) : (acctsAll xs).length ≤ xs.length * 1048576 := by
 have h1 := acctsL_length (legsAll xs) []
 have h2 := legsAll_length xs hg
 unfold acctsAll
 simp only [List.length_nil] at h1
 omega
theorem acctsAll_sorted (xs : List S52) : SortedS (acctsAll xs) := acctsL_sorted _ _ List.Pairwise.nil
def acctsB (xs : List S52) : List ByteArray := if okB xs = true then acctsAll xs else []
theorem acctsP_ev : ∀ (rest pre : List S52), (∀ p ∈ pre ++ rest, GoodP p) → (∀ p ∈ rest, postB p.f0 p.f1 = true) → (pre ++ rest).length ≤ 40 → EvP (fun k => acctsP k rest (acctsAll pre)) (· = acctsAll (pre ++ rest)) := by
 intro rest
 induction rest with
 | nil =>
  intro pre _ _ _
  unfold acctsP
  exact EvP.now (by simp)
 | cons p rest ih =>
  intro pre hg hp h40
  simp only [List.length_append, List.length_cons] at h40
  unfold acctsP
  refine EvP.bind (impl_PostOk_ev p.f0 p.f1 (hg p (by simp)).1) ?_
  rintro _ rfl
  rw [hp p (by simp)]
  have hl := acctsAll_length pre (fun q hq => hg q (by simp [hq]))
  have h4 := (hg p (by simp)).2
  have e : putAccts (acctsAll pre) (selLegs true p.f1) = acctsAll (pre ++ [p]) := by
   rw [acctsAll_snoc]
   exact putAccts_ins p.f1 _ (acctsAll_sorted pre) (by omega)
  rw [e]
  have := ih (pre ++ [p]) (by simpa using hg) (fun q hq => hp q (by simp [hq])) (by simp; omega)
  simpa using this
theorem impl_BookAccts_ev (xs : List S52) (ho : ∀ p ∈ xs, okPost p = true) (hg : ∀ p ∈ xs, GoodP p) : EvP (fun k => impl_BookAccts.f k xs) (· = acctsB xs) := by
 unfold impl_BookAccts.f acctsB
 refine EvP.bind (impl_BookOk_evA xs ho hg) ?_
 rintro _ rfl
 refine EvP.split (fun h => ?_) (fun h => EvP.now (by rw [if_neg h]))
 rw [if_pos h]
 have := acctsP_ev xs [] (by simpa using hg) (okB_post h).2 (by simpa using (okB_post h).1)
 simpa [acctsAll, legsAll, acctsL] using this
theorem spec_l2Put_ev (l : List ByteArray) (x : ByteArray) (hl : l.length ≤ 1073741824) : EvP (fun k => spec_l2Put.f k l x) (· = insB x l) := by
 have key : ∀ (rest pre : List ByteArray), l = pre ++ rest → EvP (fun k => spec_l2Put.l0 k l x pre (pre.length : Int)) (· = pre ++ insB x rest) := by
  intro rest
  induction rest with
  | nil =>
   intro pre e
   have e0 : l.length = pre.length := by rw [e]; simp
   refine EvP.step (fun k => by rw [spec_l2Put.l0]) (EvP.neg (by omega) (EvP.pos (by omega) ?_))
   simp only [Option.bind_some, Int.toNat_natCast]
   have hd : l.drop pre.length = [] := List.drop_eq_nil_of_le (by omega)
   rw [hd]
   exact EvP.pos (by omega) (EvP.pos (by omega) (EvP.pos (by simp; omega) (EvP.now (by simp [insB]))))
  | cons y rest ih =>
   intro pre e
   have e0 : l.length = pre.length + (rest.length + 1) := by rw [e]; simp
   have er : rdOf ByteArray.empty l (pre.length : Int) = y := by rw [e]; exact rd_midS pre rest y
   have e2 : wrap64 ((pre.length : Int) + 1) = ((pre ++ [y]).length : Int) := by rw [w64 (by omega) (by omega)]; simp
   have e3 : l.drop (pre ++ [y]).length = rest := by rw [e, show pre ++ y :: rest = (pre ++ [y]) ++ rest by simp, List.drop_left]
   have e4 : l.drop pre.length = y :: rest := by rw [e, List.drop_left]
   refine EvP.step (fun k => by rw [spec_l2Put.l0]) (EvP.pos (by omega) (EvP.pos (by omega) ?_))
   rw [er, e2]
   refine EvP.split (fun c => ?_) (fun c => ?_)
   ·
    refine EvP.pos (by omega) ?_
    have := ih (pre ++ [y]) (by rw [e]; simp)
    refine this.mono ?_
    rintro _ rfl
    have c' : lessS y x = true := c
    rw [insB, if_pos c']
    simp
   ·
    have c' : ¬ lessS y x = true := c
    refine EvP.pos (by omega) ?_
    simp only [Option.bind_some, Int.toNat_natCast]
    refine EvP.split (fun h => ?_) (fun h => ?_)
    ·
     have exy : y = x := by have h' := h; rw [ByteArray.toList_eq, ByteArray.toList_eq] at h'; exact ByteArray.ext (Array.toList_inj.1 h')
     refine EvP.pos (by omega) (EvP.pos (by simp; omega) ?_)
     rw [e3]
     refine EvP.pos (by simp; omega) (EvP.now ?_)
     rw [insB, if_neg c', if_pos h, exy]
     simp
    ·
     refine EvP.pos (by omega) ?_
     rw [e4]
     refine EvP.pos (by simp; omega) (EvP.now ?_)
     rw [insB, if_neg c', if_neg h]
     simp
 have := key l [] rfl
 unfold spec_l2Put.f
 simpa using this
theorem spec_l2Accts_ev (xs : List S52) (h40 : xs.length ≤ 40) (hg : ∀ p ∈ xs, GoodP p) : EvP (fun k => spec_l2Accts.f k xs) (· = acctsAll xs) := by
 have inner : ∀ (p : S52) (pre rest : List S52) (acc : List ByteArray) (Q : List ByteArray → Prop), xs = pre ++ p :: rest → GoodP p → acc.length ≤ 41943040 →
   EvP (fun k => spec_l2Accts.l0 k xs (acctsL acc p.f1) ((pre ++ [p]).length : Int)) Q →
   ∀ (todo seen : List S77), p.f1 = seen ++ todo → EvP (fun k => spec_l2Accts.l1 k xs (acctsL acc seen) (pre.length : Int) (seen.length : Int)) Q := by
  intro p pre rest acc Q e hp hacc fin todo
  have hl : xs.length = pre.length + (rest.length + 1) := by rw [e]; simp
  have hr : rd_T52 xs (pre.length : Int) = p := by rw [e]; exact rd_midIP pre rest p
  induction todo with
  | nil =>
   intro seen es
   have ef : p.f1 = seen := by simpa using es
   refine EvP.step (fun k => by rw [spec_l2Accts.l1]) (EvP.pos (by omega) (EvP.pos (by omega) ?_))
   rw [hr]
   refine EvP.neg (by rw [ef]; omega) ?_
   have e2 : wrap64 ((pre.length : Int) + 1) = ((pre ++ [p]).length : Int) := by rw [w64 (by omega) (by omega)]; simp
   rw [e2, ← ef]
   exact fin
  | cons x todo ih =>
   intro seen es
   have hs : p.f1.length = seen.length + (todo.length + 1) := by rw [es]; simp
   have h4 := hp.2
   have hq := acctsL_length seen acc
   refine EvP.step (fun k => by rw [spec_l2Accts.l1]) (EvP.pos (by omega) (EvP.pos (by omega) ?_))
   rw [hr]
   refine EvP.pos (by omega) (EvP.pos (by omega) ?_)
   have hx : rd_T77 p.f1 (seen.length : Int) = x := by rw [es]; exact rd_midL seen todo x
   rw [hx]
   have e2 : wrap64 ((seen.length : Int) + 1) = ((seen ++ [x]).length : Int) := by rw [w64 (by omega) (by omega)]; simp
   rw [e2]
   refine EvP.bind (spec_l2Put_ev _ x.f0 (by omega)) ?_
   rintro _ rfl
   have step := ih (seen ++ [x]) (by rw [es]; simp)
   rw [acctsL_append] at step
   exact step
 have outer : ∀ (rest pre : List S52), xs = pre ++ rest → EvP (fun k => spec_l2Accts.l0 k xs (acctsAll pre) (pre.length : Int)) (· = acctsAll xs) := by
  intro rest
  induction rest with
  | nil =>
   intro pre e
   exact EvP.step (fun k => by rw [spec_l2Accts.l0]) (EvP.neg (by simp [e]) (EvP.now (by simp [e])))
  | cons p rest ih =>
   intro pre e
   have hl : xs.length = pre.length + (rest.length + 1) := by rw [e]; simp
   refine EvP.step (fun k => by rw [spec_l2Accts.l0]) (EvP.pos (by omega) ?_)
   have step := ih (pre ++ [p]) (by rw [e]; simp)
   rw [acctsAll_snoc] at step
   have hla := acctsAll_length pre (fun q hq => hg q (by rw [e]; simp [hq]))
   exact inner p pre rest (acctsAll pre) _ e (hg p (by rw [e]; simp)) (by omega) step p.f1 [] rfl
 unfold spec_l2Accts.f
 exact outer xs [] rfl
theorem spec_BookAccts_ev (xs : List S52) (hg : ∀ p ∈ xs, GoodP p) : EvP (fun k => spec_BookAccts.f k xs) (· = acctsB xs) := by
 unfold spec_BookAccts.f acctsB
 refine EvP.bind (spec_BookOk_ev xs hg) ?_
 rintro _ rfl
 refine EvP.split (fun h => ?_) (fun h => EvP.now (by rw [if_neg h]))
 rw [if_pos h]
 refine EvP.bind (spec_l2Accts_ev xs (okB_post h).1 hg) ?_
 rintro _ rfl
 exact EvP.now rfl
theorem acctsB_length (xs : List S52) (hg : ∀ p ∈ xs, GoodP p) : (acctsB xs).length ≤ 41943040 := by
 unfold acctsB
 by_cases c : okB xs = true
 ·
  rw [if_pos c]
  have h1 := acctsAll_length xs hg
  have h2 := (okB_post c).1
  omega
 ·
  rw [if_neg c]
  simp

/-! ### The two sides of a currency -/
def sideStep (legs : List S77) (c : Int) (s : Int × Int) (a : ByteArray) : Int × Int := if balOf legs a c > 0 then (wrap64 (s.1 + balOf legs a c), s.2) else (s.1, wrap64 (s.2 - balOf legs a c))
def sidesF (legs : List S77) (c : Int) (al : List ByteArray) : Int × Int := al.foldl (sideStep legs c) (0, 0)
theorem sidesL_ev (legs : List S77) (c : Int) (al : List ByteArray) (hl : al.length ≤ 2 ^ 60) : EvP (fun k => sidesL k legs al c 0 0 0) (· = sidesF legs c al) := by
 have key : ∀ (rest pre : List ByteArray) (s : Int × Int), al = pre ++ rest → EvP (fun k => sidesL k legs al c s.1 s.2 (pre.length : Int)) (· = rest.foldl (sideStep legs c) s) := by
  intro rest
  induction rest with
  | nil =>
   intro pre s e
   exact EvP.step (fun k => by rw [sidesL]) (EvP.neg (by simp [e]) (EvP.now (show (s.1, s.2) = _ from rfl)))
  | cons x rest ih =>
   intro pre s e
   have e0 : al.length = pre.length + (rest.length + 1) := by rw [e]; simp
   refine EvP.step (fun k => by rw [sidesL]) (EvP.pos (by omega) (EvP.pos (by omega) ?_))
   have er : rdOf ByteArray.empty al (pre.length : Int) = x := by rw [e]; exact rd_midS pre rest x
   have e2 : wrap64 ((pre.length : Int) + 1) = ((pre ++ [x]).length : Int) := by rw [w64 (by omega) (by omega)]; simp
   rw [er, e2]
   have step := ih (pre ++ [x]) (sideStep legs c s x) (by rw [e]; simp)
   rw [List.foldl_cons]
   unfold sideStep at step ⊢
   refine EvP.split (fun h => ?_) (fun h => ?_)
   ·
    simp only [if_pos h] at step ⊢
    exact step
   ·
    simp only [if_neg h] at step ⊢
    exact step
 exact key al [] (0, 0) rfl
def sidesB (xs : List S52) (c : Int) : Int × Int := if okB xs = true then sidesF (legsAll xs) c (acctsAll xs) else (0, 0)
theorem spec_BookSides_ev (xs : List S52) (c : Int) (hg : ∀ p ∈ xs, GoodP p) : EvP (fun k => spec_BookSides.f k xs c) (· = sidesB xs c) := by
 have key : ∀ (al : List ByteArray), al.length ≤ 2 ^ 60 → xs.length ≤ 40 → ∀ (rest pre : List ByteArray) (s : Int × Int), al = pre ++ rest → EvP (fun k => spec_BookSides.l0 k xs c s.1 s.2 al (pre.length : Int)) (· = rest.foldl (sideStep (legsAll xs) c) s) := by
  intro al hl h40 rest
  induction rest with
  | nil =>
   intro pre s e
   exact EvP.step (fun k => by rw [spec_BookSides.l0]) (EvP.neg (by simp [e]) (EvP.now (show (s.1, s.2) = _ from rfl)))
  | cons x rest ih =>
   intro pre s e
   have e0 : al.length = pre.length + (rest.length + 1) := by rw [e]; simp
   refine EvP.step (fun k => by rw [spec_BookSides.l0]) (EvP.pos (by omega) (EvP.pos (by omega) ?_))
   have er : rdOf ByteArray.empty al (pre.length : Int) = x := by rw [e]; exact rd_midS pre rest x
   have e2 : wrap64 ((pre.length : Int) + 1) = ((pre ++ [x]).length : Int) := by rw [w64 (by omega) (by omega)]; simp
   rw [er, e2]
   refine EvP.bind (spec_l2Bal_ev xs x c (by omega) hg) ?_
   rintro _ rfl
   have step := ih (pre ++ [x]) (sideStep (legsAll xs) c s x) (by rw [e]; simp)
   rw [List.foldl_cons]
   unfold sideStep at step ⊢
   refine EvP.split (fun h => ?_) (fun h => ?_)
   ·
    simp only [if_pos h] at step ⊢
    exact step
   ·
    simp only [if_neg h] at step ⊢
    exact step
 unfold spec_BookSides.f sidesB
 refine EvP.bind (spec_BookAccts_ev xs hg) ?_
 rintro _ rfl
 unfold acctsB
 by_cases h : okB xs = true
 ·
  rw [if_pos h, if_pos h]
  have h1 := acctsAll_length xs hg
  have h2 := (okB_post h).1
  exact key (acctsAll xs) (by omega) h2 (acctsAll xs) [] (0, 0) rfl
 ·
  rw [if_neg h, if_neg h]
  exact EvP.step (fun k => by rw [spec_BookSides.l0]) (EvP.neg (by simp) (EvP.now rfl))
theorem acctsL_mem : ∀ (ys : List S77) (acc : List ByteArray) (z : ByteArray), z ∈ acctsL acc ys → z ∈ acc ∨ ∃ y ∈ ys, z = y.f0
 | [], _, _, h => .inl h
 | y :: ys, acc, z, h => by
  rcases acctsL_mem ys (insB y.f0 acc) z h with h | ⟨y', h1, h2⟩
  ·
   rcases insB_mem y.f0 acc z h with h | h
   ·
    exact .inr ⟨y, by simp, h⟩
   ·
    exact .inl h
  ·
   exact .inr ⟨y', by simp [h1], h2⟩
theorem acctsAll_mem {xs : List S52} {z : ByteArray} (h : z ∈ acctsAll xs) : ∃ p ∈ xs, ∃ y ∈ p.f1, z = y.f0 := by
 rcases acctsL_mem _ _ z h with h | ⟨y, h1, h2⟩
 ·
  cases h
 ·
  obtain ⟨p, h3, h4⟩ := List.mem_flatMap.1 h1
  exact ⟨p, h3, y, h4, h2⟩
theorem impl_BookSides_ev (xs : List S52) (c : Int) (hc : (Lit.int .i64 c).wf = true) (ho : ∀ p ∈ xs, okPost p = true) (hg : ∀ p ∈ xs, GoodP p) : EvP (fun k => impl_BookSides.f k xs c) (· = sidesB xs c) := by
 unfold impl_BookSides.f sidesB
 refine EvP.pos hc (EvP.bind (ledR_ev xs ho hg) ?_)
 rintro t ⟨h, h2⟩
 by_cases k : okB xs = true
 ·
  rw [if_pos k]
  refine EvP.pos (h.trans k) (EvP.bind (impl_BookAccts_ev xs ho hg) ?_)
  rintro _ rfl
  unfold acctsB
  rw [if_pos k, (h2 (h.trans k)).2]
  have h1 := acctsAll_length xs hg
  have h3 := (okB_post k).1
  refine EvP.pos ?_ (sidesL_ev _ c _ (by omega))
  refine List.all_eq_true.2 (fun z hz => ?_)
  obtain ⟨p, hp, y, hy, rfl⟩ := acctsAll_mem hz
  have := ho p hp
  unfold okPost at this
  simp only [Bool.and_eq_true] at this
  have := List.all_eq_true.1 this.2 y hy
  unfold okLeg at this
  simp only [Bool.and_eq_true] at this
  exact this.1
 ·
  rw [if_neg k]
  exact EvP.neg (by rw [h]; exact k) (EvP.now rfl)

theorem FnExactBookSides (l0 : List S62) (a1 : Int)
  (g0 : l0.length ≤ maxLen ∧ ∀ x ∈ l0, (Lit.int .i64 x.f0).wf = true ∧ x.f1.length ≤ maxLen ∧ ∀ y ∈ x.f1, y.f0.size ≤ maxLen ∧ (Lit.int .i64 y.f1).wf = true ∧ (Lit.int .i64 y.f2).wf = true) (g1 : (Lit.int .i64 a1).wf = true) :
  ∃ k, laws_FnExactBookSides.f k l0 a1 = some true := by
 refine EvP.done ?_
 unfold laws_FnExactBookSides.f
 refine EvP.bind (szPostS_ev l0 1048576 g0.1 (fun p hp => ⟨(g0.2 p hp).2.1, fun x hx => ((g0.2 p hp).2.2 x hx).1⟩) (by omega) (by omega)) ?_
 rintro r ⟨hr, hb⟩
 refine EvP.split (fun _ => EvP.now rfl) (fun hp => ?_)
 obtain ⟨n0, s0⟩ := hb (by omega)
 have t0 := short_of s0
 obtain ⟨o0, d0⟩ := books_ok g0.2 s0
 refine EvP.bind (toPostS_ev l0 n0 s0) ?_
 rintro _ rfl
 refine EvP.bind (spec_BookSides_ev _ a1 d0) ?_
 rintro _ rfl
 refine EvP.bind (toPostS_ev l0 n0 s0) ?_
 rintro _ rfl
 refine EvP.bind (impl_BookSides_ev _ a1 g1 o0 d0) ?_
 rintro _ rfl
 refine EvP.pos rfl (EvP.pos rfl ?_)
 refine EvP.bind (toPostS_ev l0 n0 s0) ?_
 rintro _ rfl
 refine EvP.bind (eqPostS_ev _ _ (by simpa using n0) t0) ?_
 rintro _ rfl
 exact EvP.pos (bookSame_refl _) (EvP.now rfl)


end Go.Proofs.Yteijmkjfgieciaa.Pure
