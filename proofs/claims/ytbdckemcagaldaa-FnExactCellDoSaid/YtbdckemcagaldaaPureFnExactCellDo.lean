/- CellDo of the program answers as the reference's, for any cell and entry. -/
import Derived.Test.YtbdckemcagaldaaQFnExactCellDox2
import Derived.Test.YtbdckemcagaldaaBBase
set_option linter.unusedVariables false
set_option linter.unusedSimpArgs false
namespace Go.Proofs.Ytbdckemcagaldaa.Pure
open Go.RowKit Go.Proofs.Ytbdckemcagaldaa.QFnExactCellDo Go.Proofs.YtbdckemcagaldaaW.PrintWords Go.Proofs.YtbdckemcagaldaaW.PrintLast Go.Proofs.YtbdckemcagaldaaW.PrintMore Go.Proofs.Ytbdckemcagaldaa.B

theorem szEntry_ev (a0 : ByteArray) (a1 a2 : Int) (a3 : ByteArray) (a4 left : Int) (h0 : a0.size ≤ maxLen) (h3 : a3.size ≤ maxLen) (hl : 0 ≤ left) (hl' : left ≤ 1048576) :
    ∃ r, laws_szEntry.f a0 a1 a2 a3 a4 left = some r ∧ r ≤ left ∧ (0 ≤ r → (a0.size : Int) ≤ left ∧ (a3.size : Int) ≤ left) := by
  unfold maxLen at h0 h3
  unfold laws_szEntry.f
  rw [w64 (x := left - (a0.size : Int)) (by omega) (by omega)]
  split
  · exact ⟨-1, rfl, by omega, by omega⟩
  · rw [w64 (by omega) (by omega)]
    split
    · exact ⟨-1, rfl, by omega, by omega⟩
    · exact ⟨_, rfl, by omega, by omega⟩

/-! ### CellDo -/
theorem spec_CellDo_eq (a0_0 : Bool) (a0_1 : ByteArray) (a0_2 : Int) (a1_0 : ByteArray) (a1_1 : Int) (a1_2 : Int) (a1_3 : ByteArray) (a1_4 : Int) : spec_CellDo.f a0_0 a0_1 a0_2 a1_0 a1_1 a1_2 a1_3 a1_4 = some (cellDo a0_0 a0_1 a0_2 a1_2 a1_3 a1_4) := by
  unfold spec_CellDo.f cellDo
  repeat' split
  all_goals rfl

theorem szCell_ev (a0 : Bool) (a1 : ByteArray) (a2 left : Int) (h0 : a1.size ≤ maxLen) (hl : 0 ≤ left) (hl' : left ≤ 1048576) : ∃ r, laws_szCell.f a0 a1 a2 left = some r ∧ r ≤ left := by
  unfold maxLen at h0
  unfold laws_szCell.f
  rw [w64 (x := left - (a1.size : Int)) (by omega) (by omega)]
  split
  · exact ⟨-1, rfl, by omega⟩
  · exact ⟨_, rfl, by omega⟩
theorem FnExactCellDo (a0_0 : Bool) (a0_1 : ByteArray) (a0_2 : Int) (a1_0 : ByteArray) (a1_1 a1_2 : Int) (a1_3 : ByteArray) (a1_4 : Int) (g0 : True ∧ a0_1.size ≤ maxLen ∧ (Lit.int .i64 a0_2).wf = true)
    (g1 : a1_0.size ≤ maxLen ∧ (Lit.int .i64 a1_1).wf = true ∧ (Lit.int .i64 a1_2).wf = true ∧ a1_3.size ≤ maxLen ∧ (Lit.int .i64 a1_4).wf = true) :
    laws_FnExactCellDo.f a0_0 a0_1 a0_2 a1_0 a1_1 a1_2 a1_3 a1_4 = some true := by
  unfold laws_FnExactCellDo.f
  obtain ⟨r, hr, _⟩ := szCell_ev a0_0 a0_1 a0_2 1048576 g0.2.1 (by omega) (by omega)
  rw [hr, Option.bind_some]
  split
  · rfl
  · obtain ⟨q, hq, _, _⟩ := szEntry_ev a1_0 a1_1 a1_2 a1_3 a1_4 r g1.1 g1.2.2.2.1 (by omega) (by omega)
    rw [hq, Option.bind_some]
    split
    · rfl
    · simp [laws_toEntry.f, laws_toCell.f, spec_CellDo_eq, impl_CellDo.f, laws_eqCell.f]


end Go.Proofs.Ytbdckemcagaldaa.Pure
