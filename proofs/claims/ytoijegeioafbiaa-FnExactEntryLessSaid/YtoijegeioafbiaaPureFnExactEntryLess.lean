/- EntryLess of the program answers as the reference's, for any two entries. -/
import Derived.Test.YtoijegeioafbiaaPFnExactEntryLessx1
import Derived.Test.YtoijegeioafbiaaBBase
set_option linter.unusedVariables false
set_option linter.unusedSimpArgs false
namespace Go.Proofs.Ytoijegeioafbiaa.Pure
open Go.RowKit Go.Proofs.Ytoijegeioafbiaa.PFnExactEntryLess Go.Proofs.YtoijegeioafbiaaW.PrintWords Go.Proofs.YtoijegeioafbiaaW.PrintLast Go.Proofs.YtoijegeioafbiaaW.PrintMore Go.Proofs.Ytoijegeioafbiaa.B

/-! ### EntryLess -/
def lessB (k1 : ByteArray) (s1 : Int) (k2 : ByteArray) (s2 : Int) : Bool := if k1.toList = k2.toList then decide (s1 > s2) else Op.bytesLess k1.toList k2.toList
theorem bytesLess_irrefl : ∀ l : List UInt8, Op.bytesLess l l = false := by
  intro l
  induction l with
  | nil => rfl
  | cons a l ih => simp [Op.bytesLess, ih]
theorem spec_EntryLess_eq (a0 : ByteArray) (a1 a2 : Int) (a3 : ByteArray) (a4 : Int) (b0 : ByteArray) (b1 b2 : Int) (b3 : ByteArray) (b4 : Int) : spec_EntryLess.f a0 a1 a2 a3 a4 b0 b1 b2 b3 b4 = some (lessB a0 a1 b0 b1) := by
  unfold spec_EntryLess.f lessB
  by_cases h : a0.toList = b0.toList
  · rw [h, bytesLess_irrefl]
    simp
  · cases hb : Op.bytesLess a0.toList b0.toList <;> simp [h]
theorem impl_EntryLess_eq (a0 : ByteArray) (a1 a2 : Int) (a3 : ByteArray) (a4 : Int) (b0 : ByteArray) (b1 b2 : Int) (b3 : ByteArray) (b4 : Int) : impl_EntryLess.f a0 a1 a2 a3 a4 b0 b1 b2 b3 b4 = some (lessB a0 a1 b0 b1) := by
  unfold impl_EntryLess.f lessB
  split <;> rfl

theorem szEntry_ev (a0 : ByteArray) (a1 a2 : Int) (a3 : ByteArray) (a4 left : Int) (h0 : a0.size ≤ maxLen) (h3 : a3.size ≤ maxLen) (hl : 0 ≤ left) (hl' : left ≤ 1048576) :
    ∃ r, laws_szEntry.f a0 a1 a2 a3 a4 left = some r ∧ r ≤ left ∧ (0 ≤ r → (a0.size : Int) ≤ left ∧ (a3.size : Int) ≤ left) := by
  unfold maxLen at h0 h3
  unfold laws_szEntry.f
  rw [w64 (x := left - (a0.size : Int)) (by omega) (by omega)]
  split
  · exact ⟨-1, rfl, by omega, by omega⟩
  · rw [w64 (by omega) (by omega)]
    split
    · exact ⟨-1, rfl, by omega, by omega⟩
    · exact ⟨_, rfl, by omega, by omega⟩
theorem FnExactEntryLess (a0_0 : ByteArray) (a0_1 a0_2 : Int) (a0_3 : ByteArray) (a0_4 : Int) (a1_0 : ByteArray) (a1_1 a1_2 : Int) (a1_3 : ByteArray) (a1_4 : Int)
    (g0 : a0_0.size ≤ maxLen ∧ (Lit.int .i64 a0_1).wf = true ∧ (Lit.int .i64 a0_2).wf = true ∧ a0_3.size ≤ maxLen ∧ (Lit.int .i64 a0_4).wf = true)
    (g1 : a1_0.size ≤ maxLen ∧ (Lit.int .i64 a1_1).wf = true ∧ (Lit.int .i64 a1_2).wf = true ∧ a1_3.size ≤ maxLen ∧ (Lit.int .i64 a1_4).wf = true) :
    laws_FnExactEntryLess.f a0_0 a0_1 a0_2 a0_3 a0_4 a1_0 a1_1 a1_2 a1_3 a1_4 = some true := by
  unfold laws_FnExactEntryLess.f
  obtain ⟨r, hr, _, _⟩ := szEntry_ev a0_0 a0_1 a0_2 a0_3 a0_4 1048576 g0.1 g0.2.2.2.1 (by omega) (by omega)
  rw [hr, Option.bind_some]
  split
  · rfl
  · obtain ⟨q, hq, _, _⟩ := szEntry_ev a1_0 a1_1 a1_2 a1_3 a1_4 r g1.1 g1.2.2.2.1 (by omega) (by omega)
    rw [hq, Option.bind_some]
    split
    · rfl
    · simp [laws_toEntry.f, spec_EntryLess_eq, impl_EntryLess_eq]


end Go.Proofs.Ytoijegeioafbiaa.Pure
