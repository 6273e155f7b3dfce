/- KeyOk of the program answers as the reference's, for every text. -/
import Derived.Test.YtoijegeioafbiaaPFnExactKeyOkx1
import Derived.Test.YtoijegeioafbiaaBBase
set_option linter.unusedVariables false
set_option linter.unusedSimpArgs false
namespace Go.Proofs.Ytoijegeioafbiaa.Pure
open Go.RowKit Go.Proofs.Ytoijegeioafbiaa.PFnExactKeyOk Go.Proofs.YtoijegeioafbiaaW.PrintWords Go.Proofs.YtoijegeioafbiaaW.PrintLast Go.Proofs.YtoijegeioafbiaaW.PrintMore Go.Proofs.Ytoijegeioafbiaa.B

/-! ### KeyOk -/
def keyByteB (c : Int) : Bool := decide ((97 ≤ c ∧ c ≤ 122) ∨ (47 ≤ c ∧ c ≤ 57))
/-- d bytes from place i on are all a to z, 0 to 9 or a slash. -/
def keysB (s : ByteArray) : Nat → Int → Bool
  | 0, _ => true
  | d + 1, i => keyByteB (bt s i) && keysB s d (i + 1)
def keyB (s : ByteArray) : Bool := decide (1 ≤ s.size) && decide (s.size ≤ 8) && keysB s s.size 0
theorem spec_KeyOk_l0 (s : ByteArray) (hs : s.size ≤ 140737488351232) : ∀ (d : Nat) (i : Int), 0 ≤ i → i + d = s.size →
    EvP (fun k => spec_KeyOk.l0 k s i) (· = (decide (1 ≤ s.size) && decide (s.size ≤ 8) && keysB s d i)) := by
  intro d
  induction d with
  | zero =>
    intro i h0 h
    refine EvP.step (fun k => by rw [spec_KeyOk.l0]) ?_
    refine EvP.neg (by omega) ?_
    refine EvP.split (fun h => ?_) (fun h => ?_)
    · refine EvP.now ?_
      have e1 : decide (1 ≤ s.size) = true := decide_eq_true (by omega)
      have e2 : decide ((s.size : Int) ≤ 8) = decide (s.size ≤ 8) := by rw [decide_eq_decide]; omega
      simp only [keysB, e1, e2, Bool.true_and, Bool.and_true]
    · refine EvP.now ?_
      have e1 : decide (1 ≤ s.size) = false := decide_eq_false (by omega)
      simp only [keysB, e1, Bool.false_and]
  | succ d ih =>
    intro i h0 h
    refine EvP.step (fun k => by rw [spec_KeyOk.l0]) ?_
    refine EvP.pos (by omega) (EvP.pos (by omega) ?_)
    have := ih (i + 1) (by omega) (by omega)
    rw [w64 (by omega) (by omega)]
    repeat' with_reducible refine EvP.split (fun _ => ?_) (fun _ => ?_)
    all_goals first
      | (refine EvP.now ?_
         have e1 : keyByteB (bt s i) = false := decide_eq_false (by omega)
         simp only [keysB, e1, Bool.false_and, Bool.and_false])
      | (have e1 : keyByteB (bt s i) = true := decide_eq_true (by omega)
         simp only [keysB, e1, Bool.true_and]
         exact this)
theorem spec_KeyOk_ev (s : ByteArray) (hs : s.size ≤ 140737488351232) : EvP (fun k => spec_KeyOk.f k s) (· = keyB s) :=
  spec_KeyOk_l0 s hs s.size 0 (by omega) (by omega)
theorem impl_KeyOk_l0 (s : ByteArray) (hs : s.size ≤ 140737488351232) : ∀ (d : Nat) (i : Int), 0 ≤ i → i + d = s.size →
    EvP (fun k => impl_KeyOk.l0 k s (s.size : Int) i) (· = keysB s d i) := by
  intro d
  induction d with
  | zero =>
    intro i h0 h
    refine EvP.step (fun k => by rw [impl_KeyOk.l0]) ?_
    refine EvP.neg (by omega) ?_
    exact EvP.now (by simp [keysB])
  | succ d ih =>
    intro i h0 h
    refine EvP.step (fun k => by rw [impl_KeyOk.l0]) ?_
    refine EvP.pos (by omega) (EvP.pos (by omega) (EvP.pos (by omega) ?_))
    have := ih (i + 1) (by omega) (by omega)
    rw [w64 (by omega) (by omega)]
    repeat' with_reducible refine EvP.split (fun _ => ?_) (fun _ => ?_)
    all_goals first
      | (refine EvP.now ?_
         have e1 : keyByteB (bt s i) = false := decide_eq_false (by omega)
         simp only [keysB, e1, Bool.false_and, Bool.and_false])
      | (have e1 : keyByteB (bt s i) = true := decide_eq_true (by omega)
         simp only [keysB, e1, Bool.true_and]
         exact this)
theorem impl_KeyOk_ev (s : ByteArray) (hs : s.size ≤ 140737488351232) : EvP (fun k => impl_KeyOk.f k s) (· = keyB s) := by
  unfold impl_KeyOk.f keyB
  refine EvP.split (fun h => ?_) (fun h => ?_)
  · refine EvP.step (fun k => by rw [impl_KeyOk.j0]) (EvP.pos rfl (EvP.now ?_))
    have e1 : decide (1 ≤ s.size) = false := decide_eq_false (by omega)
    simp [e1]
  · have e1 : decide (1 ≤ s.size) = true := decide_eq_true (by omega)
    refine EvP.step (fun k => by rw [impl_KeyOk.j0]) (EvP.split (fun h1 => EvP.now ?_) (fun h1 => ?_))
    · have := of_decide_eq_true h1
      have e2 : decide (s.size ≤ 8) = false := decide_eq_false (by omega)
      simp [e2]
    · have : ¬ (s.size : Int) > 8 := fun h => h1 (decide_eq_true h)
      have e2 : decide (s.size ≤ 8) = true := decide_eq_true (by omega)
      simp only [e1, e2, Bool.true_and]
      exact impl_KeyOk_l0 s hs s.size 0 (by omega) (by omega)

theorem FnExactKeyOk : laws_FnExactKeyOk.Pure := by
  intro s hs
  refine EvP.done ?_
  unfold laws_FnExactKeyOk.f
  refine EvP.split (fun _ => EvP.now rfl) (fun _ => ?_)
  refine EvP.bind (spec_KeyOk_ev s hs) ?_
  rintro _ rfl
  refine EvP.bind (impl_KeyOk_ev s hs) ?_
  rintro _ rfl
  refine EvP.neg (by simp) (EvP.now rfl)


end Go.Proofs.Ytoijegeioafbiaa.Pure
