/- AcctOk of the program answers as the reference's, for every text. -/
import Derived.Test.YtoijegeioafbiaaPFnExactAcctOkx1
import Derived.Test.YtoijegeioafbiaaBBase
set_option linter.unusedVariables false
set_option linter.unusedSimpArgs false
namespace Go.Proofs.Ytoijegeioafbiaa.Pure
open Go.RowKit Go.Proofs.Ytoijegeioafbiaa.PFnExactAcctOk Go.Proofs.YtoijegeioafbiaaW.PrintWords Go.Proofs.YtoijegeioafbiaaW.PrintLast Go.Proofs.Ytoijegeioafbiaa.B

/-! ### AcctOk -/
/-- d letters from place i on are all letters a to z. -/
def lettersB (s : ByteArray) : Nat → Int → Bool
  | 0, _ => true
  | d + 1, i => decide (97 ≤ bt s i) && decide (bt s i ≤ 122) && lettersB s d (i + 1)
def acctB (s : ByteArray) : Bool := decide (1 ≤ s.size) && decide (s.size ≤ 4) && lettersB s s.size 0
theorem spec_AcctOk_l0 (s : ByteArray) (hs : s.size ≤ 140737488351232) : ∀ (d : Nat) (i : Int), 0 ≤ i → i + d = s.size →
    EvP (fun k => spec_AcctOk.l0 k s i) (· = (decide (1 ≤ s.size) && decide (s.size ≤ 4) && lettersB s d i)) := by
  intro d
  induction d with
  | zero =>
    intro i h0 h
    refine EvP.step (fun k => by rw [spec_AcctOk.l0]) ?_
    refine EvP.neg (by omega) ?_
    refine EvP.split (fun h => ?_) (fun h => ?_)
    · refine EvP.now ?_
      have e1 : decide (1 ≤ s.size) = true := decide_eq_true (by omega)
      have e2 : decide ((s.size : Int) ≤ 4) = decide (s.size ≤ 4) := by rw [decide_eq_decide]; omega
      simp only [lettersB, e1, e2, Bool.true_and, Bool.and_true]
    · refine EvP.now ?_
      have e1 : decide (1 ≤ s.size) = false := decide_eq_false (by omega)
      simp only [lettersB, e1, Bool.false_and]
  | succ d ih =>
    intro i h0 h
    refine EvP.step (fun k => by rw [spec_AcctOk.l0]) ?_
    refine EvP.pos (by omega) ?_
    refine EvP.pos (by omega) ?_
    refine EvP.split (fun h1 => EvP.now ?_) (fun h1 => EvP.split (fun h2 => EvP.now ?_) (fun h2 => ?_))
    · have e1 : decide (97 ≤ bt s i) = false := decide_eq_false (by omega)
      simp [lettersB, e1]
    · have e1 : decide (bt s i ≤ 122) = false := decide_eq_false (by omega)
      simp [lettersB, e1]
    · rw [w64 (by omega) (by omega)]
      have e1 : decide (97 ≤ bt s i) = true := decide_eq_true (by omega)
      have e2 : decide (bt s i ≤ 122) = true := decide_eq_true (by omega)
      have := ih (i + 1) (by omega) (by omega)
      simp only [lettersB, e1, e2, Bool.true_and]
      exact this
theorem spec_AcctOk_ev (s : ByteArray) (hs : s.size ≤ 140737488351232) : EvP (fun k => spec_AcctOk.f k s) (· = acctB s) :=
  spec_AcctOk_l0 s hs s.size 0 (by omega) (by omega)
theorem impl_AcctOk_l0 (s : ByteArray) (hs : s.size ≤ 140737488351232) : ∀ (d : Nat) (i : Int), 0 ≤ i → i + d = s.size →
    EvP (fun k => impl_AcctOk.l0 k s (s.size : Int) i) (· = lettersB s d i) := by
  intro d
  induction d with
  | zero =>
    intro i h0 h
    refine EvP.step (fun k => by rw [impl_AcctOk.l0]) ?_
    refine EvP.neg (by omega) ?_
    exact EvP.now (by simp [lettersB])
  | succ d ih =>
    intro i h0 h
    refine EvP.step (fun k => by rw [impl_AcctOk.l0]) ?_
    refine EvP.pos (by omega) (EvP.pos (by omega) (EvP.pos (by omega) ?_))
    refine EvP.split (fun h1 => EvP.now ?_) (fun h1 => EvP.split (fun h2 => EvP.now ?_) (fun h2 => ?_))
    · have e1 : decide (97 ≤ bt s i) = false := decide_eq_false (by omega)
      simp [lettersB, e1]
    · have e1 : decide (bt s i ≤ 122) = false := decide_eq_false (by omega)
      simp [lettersB, e1]
    · rw [w64 (by omega) (by omega)]
      have e1 : decide (97 ≤ bt s i) = true := decide_eq_true (by omega)
      have e2 : decide (bt s i ≤ 122) = true := decide_eq_true (by omega)
      have := ih (i + 1) (by omega) (by omega)
      simp only [lettersB, e1, e2, Bool.true_and]
      exact this
theorem impl_AcctOk_ev (s : ByteArray) (hs : s.size ≤ 140737488351232) : EvP (fun k => impl_AcctOk.f k s) (· = acctB s) := by
  unfold impl_AcctOk.f acctB
  refine EvP.split (fun h => ?_) (fun h => ?_)
  · refine EvP.step (fun k => by rw [impl_AcctOk.j0]) (EvP.pos rfl (EvP.now ?_))
    have e1 : decide (1 ≤ s.size) = false := decide_eq_false (by omega)
    simp [e1]
  · have e1 : decide (1 ≤ s.size) = true := decide_eq_true (by omega)
    refine EvP.step (fun k => by rw [impl_AcctOk.j0]) (EvP.split (fun h1 => EvP.now ?_) (fun h1 => ?_))
    · have := of_decide_eq_true h1
      have e2 : decide (s.size ≤ 4) = false := decide_eq_false (by omega)
      simp [e2]
    · have : ¬ (s.size : Int) > 4 := fun h => h1 (decide_eq_true h)
      have e2 : decide (s.size ≤ 4) = true := decide_eq_true (by omega)
      simp only [e1, e2, Bool.true_and]
      exact impl_AcctOk_l0 s hs s.size 0 (by omega) (by omega)

theorem FnExactAcctOk : laws_FnExactAcctOk.Pure := by
  intro s hs
  refine EvP.done ?_
  unfold laws_FnExactAcctOk.f
  refine EvP.split (fun _ => EvP.now rfl) (fun _ => ?_)
  refine EvP.bind (spec_AcctOk_ev s hs) ?_
  rintro _ rfl
  refine EvP.bind (impl_AcctOk_ev s hs) ?_
  rintro _ rfl
  refine EvP.neg (by simp) (EvP.now rfl)


end Go.Proofs.Ytoijegeioafbiaa.Pure
