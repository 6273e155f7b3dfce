/- LegOk of the program answers as the reference's, for any leg. -/
import Derived.Test.YtoijegeioafbiaaPFnExactLegOkx1
import Derived.Test.YtoijegeioafbiaaBBase
set_option linter.unusedVariables false
set_option linter.unusedSimpArgs false
namespace Go.Proofs.Ytoijegeioafbiaa.Pure
open Go.RowKit Go.Proofs.Ytoijegeioafbiaa.PFnExactLegOk Go.Proofs.YtoijegeioafbiaaW.PrintWords Go.Proofs.YtoijegeioafbiaaW.PrintLast Go.Proofs.YtoijegeioafbiaaW.PrintMore Go.Proofs.Ytoijegeioafbiaa.B

/-! ### AcctOk -/
/-- d letters from place i on are all letters a to z. -/
def lettersB (s : ByteArray) : Nat → Int → Bool
  | 0, _ => true
  | d + 1, i => decide (97 ≤ bt s i) && decide (bt s i ≤ 122) && lettersB s d (i + 1)
def acctB (s : ByteArray) : Bool := decide (1 ≤ s.size) && decide (s.size ≤ 4) && lettersB s s.size 0
theorem spec_AcctOk_l0 (s : ByteArray) (hs : s.size ≤ 140737488351232) : ∀ (d : Nat) (i : Int), 0 ≤ i → i + d = s.size →
    EvP (fun k => spec_AcctOk.l0 k s i) (· = (decide (1 ≤ s.size) && decide (s.size ≤ 4) && lettersB s d i)) := by
  intro d
  induction d with
  | zero =>
    intro i h0 h
    refine EvP.step (fun k => by rw [spec_AcctOk.l0]) ?_
    refine EvP.neg (by omega) ?_
    refine EvP.split (fun h => ?_) (fun h => ?_)
    · refine EvP.now ?_
      have e1 : decide (1 ≤ s.size) = true := decide_eq_true (by omega)
      have e2 : decide ((s.size : Int) ≤ 4) = decide (s.size ≤ 4) := by rw [decide_eq_decide]; omega
      simp only [lettersB, e1, e2, Bool.true_and, Bool.and_true]
    · refine EvP.now ?_
      have e1 : decide (1 ≤ s.size) = false := decide_eq_false (by omega)
      simp only [lettersB, e1, Bool.false_and]
  | succ d ih =>
    intro i h0 h
    refine EvP.step (fun k => by rw [spec_AcctOk.l0]) ?_
    refine EvP.pos (by omega) ?_
    refine EvP.pos (by omega) ?_
    refine EvP.split (fun h1 => EvP.now ?_) (fun h1 => EvP.split (fun h2 => EvP.now ?_) (fun h2 => ?_))
    · have e1 : decide (97 ≤ bt s i) = false := decide_eq_false (by omega)
      simp [lettersB, e1]
    · have e1 : decide (bt s i ≤ 122) = false := decide_eq_false (by omega)
      simp [lettersB, e1]
    · rw [w64 (by omega) (by omega)]
      have e1 : decide (97 ≤ bt s i) = true := decide_eq_true (by omega)
      have e2 : decide (bt s i ≤ 122) = true := decide_eq_true (by omega)
      have := ih (i + 1) (by omega) (by omega)
      simp only [lettersB, e1, e2, Bool.true_and]
      exact this
theorem spec_AcctOk_ev (s : ByteArray) (hs : s.size ≤ 140737488351232) : EvP (fun k => spec_AcctOk.f k s) (· = acctB s) :=
  spec_AcctOk_l0 s hs s.size 0 (by omega) (by omega)
theorem impl_AcctOk_l0 (s : ByteArray) (hs : s.size ≤ 140737488351232) : ∀ (d : Nat) (i : Int), 0 ≤ i → i + d = s.size →
    EvP (fun k => impl_AcctOk.l0 k s (s.size : Int) i) (· = lettersB s d i) := by
  intro d
  induction d with
  | zero =>
    intro i h0 h
    refine EvP.step (fun k => by rw [impl_AcctOk.l0]) ?_
    refine EvP.neg (by omega) ?_
    exact EvP.now (by simp [lettersB])
  | succ d ih =>
    intro i h0 h
    refine EvP.step (fun k => by rw [impl_AcctOk.l0]) ?_
    refine EvP.pos (by omega) (EvP.pos (by omega) (EvP.pos (by omega) ?_))
    refine EvP.split (fun h1 => EvP.now ?_) (fun h1 => EvP.split (fun h2 => EvP.now ?_) (fun h2 => ?_))
    · have e1 : decide (97 ≤ bt s i) = false := decide_eq_false (by omega)
      simp [lettersB, e1]
    · have e1 : decide (bt s i ≤ 122) = false := decide_eq_false (by omega)
      simp [lettersB, e1]
    · rw [w64 (by omega) (by omega)]
      have e1 : decide (97 ≤ bt s i) = true := decide_eq_true (by omega)
      have e2 : decide (bt s i ≤ 122) = true := decide_eq_true (by omega)
      have := ih (i + 1) (by omega) (by omega)
      simp only [lettersB, e1, e2, Bool.true_and]
      exact this
theorem impl_AcctOk_ev (s : ByteArray) (hs : s.size ≤ 140737488351232) : EvP (fun k => impl_AcctOk.f k s) (· = acctB s) := by
  unfold impl_AcctOk.f acctB
  refine EvP.split (fun h => ?_) (fun h => ?_)
  · refine EvP.step (fun k => by rw [impl_AcctOk.j0]) (EvP.pos rfl (EvP.now ?_))
    have e1 : decide (1 ≤ s.size) = false := decide_eq_false (by omega)
    simp [e1]
  · have e1 : decide (1 ≤ s.size) = true := decide_eq_true (by omega)
    refine EvP.step (fun k => by rw [impl_AcctOk.j0]) (EvP.split (fun h1 => EvP.now ?_) (fun h1 => ?_))
    · have := of_decide_eq_true h1
      have e2 : decide (s.size ≤ 4) = false := decide_eq_false (by omega)
      simp [e2]
    · have : ¬ (s.size : Int) > 4 := fun h => h1 (decide_eq_true h)
      have e2 : decide (s.size ≤ 4) = true := decide_eq_true (by omega)
      simp only [e1, e2, Bool.true_and]
      exact impl_AcctOk_l0 s hs s.size 0 (by omega) (by omega)

/-! ### LegOk -/
def legB (a : ByteArray) (c n : Int) : Bool := acctB a && decide (1 ≤ c) && decide (c ≤ 3) && decide (-1000 ≤ n) && decide (n ≤ 1000) && (n != 0)
theorem spec_LegOk_ev (a : ByteArray) (c n : Int) (hs : a.size ≤ 140737488351232) : EvP (fun k => spec_LegOk.f k a c n) (· = legB a c n) := by
  unfold spec_LegOk.f
  refine EvP.bind (spec_AcctOk_ev a hs) ?_
  rintro _ rfl
  cases hA : acctB a
  · exact EvP.neg (by simp) (EvP.now (by simp [legB, hA]))
  · refine EvP.pos rfl ?_
    repeat' with_reducible refine EvP.split (fun _ => ?_) (fun _ => ?_)
    all_goals
      refine EvP.now ?_
      simp [legB, hA]
      try omega
theorem impl_LegOk_ev (a : ByteArray) (c n : Int) (hs : a.size ≤ 140737488351232) : EvP (fun k => impl_LegOk.f k a c n) (· = legB a c n) := by
  unfold impl_LegOk.f
  refine EvP.bind (impl_AcctOk_ev a hs) ?_
  rintro _ rfl
  cases hA : acctB a
  · exact EvP.neg (by simp) (EvP.now (by simp [legB, hA]))
  · refine EvP.pos rfl ?_
    repeat' with_reducible refine EvP.split (fun _ => ?_) (fun _ => ?_)
    all_goals
      refine EvP.now ?_
      simp [legB, hA]
      try omega

theorem szLeg_ev (a0 : ByteArray) (a1 a2 left : Int) (h0 : a0.size ≤ maxLen) (hl : 0 ≤ left) (hl' : left ≤ 1048576) :
    ∃ r, laws_szLeg.f a0 a1 a2 left = some r ∧ r ≤ left ∧ (0 ≤ r → (a0.size : Int) ≤ left) := by
  unfold maxLen at h0
  unfold laws_szLeg.f
  rw [w64 (x := left - (a0.size : Int)) (by omega) (by omega)]
  split
  · exact ⟨-1, rfl, by omega, by omega⟩
  · exact ⟨_, rfl, by omega, by omega⟩

theorem FnExactLegOk (a0_0 : ByteArray) (a0_1 a0_2 : Int) (g0 : a0_0.size ≤ maxLen ∧ (Lit.int .i64 a0_1).wf = true ∧ (Lit.int .i64 a0_2).wf = true) : ∃ k, laws_FnExactLegOk.f k a0_0 a0_1 a0_2 = some true := by
  refine EvP.done ?_
  unfold laws_FnExactLegOk.f
  obtain ⟨r, hr, _, hb⟩ := szLeg_ev a0_0 a0_1 a0_2 1048576 g0.1 (by omega) (by omega)
  simp only [hr, Option.bind_some, laws_toLeg.f]
  refine EvP.split (fun _ => EvP.now rfl) (fun h => ?_)
  have := hb (by omega)
  refine EvP.bind (spec_LegOk_ev a0_0 a0_1 a0_2 (by omega)) ?_
  rintro _ rfl
  refine EvP.bind (impl_LegOk_ev a0_0 a0_1 a0_2 (by omega)) ?_
  rintro _ rfl
  exact EvP.neg (by simp) (EvP.now rfl)


end Go.Proofs.Ytoijegeioafbiaa.Pure
