/- EntryOk of the program answers as the reference's, for any entry. -/
import Derived.Test.YtoijegeioafbiaaPFnExactEntryOkx3
import Derived.Test.YtoijegeioafbiaaBBase
set_option linter.unusedVariables false
set_option linter.unusedSimpArgs false
namespace Go.Proofs.Ytoijegeioafbiaa.Pure
open Go.RowKit Go.Proofs.Ytoijegeioafbiaa.PFnExactEntryOk Go.Proofs.YtoijegeioafbiaaW.PrintWords Go.Proofs.YtoijegeioafbiaaW.PrintLast Go.Proofs.YtoijegeioafbiaaW.PrintMore Go.Proofs.Ytoijegeioafbiaa.B

/-! ### KeyOk -/
def keyByteB (c : Int) : Bool := decide ((97 ≤ c ∧ c ≤ 122) ∨ (47 ≤ c ∧ c ≤ 57))
/-- d bytes from place i on are all a to z, 0 to 9 or a slash. -/
def keysB (s : ByteArray) : Nat → Int → Bool
  | 0, _ => true
  | d + 1, i => keyByteB (bt s i) && keysB s d (i + 1)
def keyB (s : ByteArray) : Bool := decide (1 ≤ s.size) && decide (s.size ≤ 8) && keysB s s.size 0
theorem spec_KeyOk_l0 (s : ByteArray) (hs : s.size ≤ 140737488351232) : ∀ (d : Nat) (i : Int), 0 ≤ i → i + d = s.size →
    EvP (fun k => spec_KeyOk.l0 k s i) (· = (decide (1 ≤ s.size) && decide (s.size ≤ 8) && keysB s d i)) := by
  intro d
  induction d with
  | zero =>
    intro i h0 h
    refine EvP.step (fun k => by rw [spec_KeyOk.l0]) ?_
    refine EvP.neg (by omega) ?_
    refine EvP.split (fun h => ?_) (fun h => ?_)
    · refine EvP.now ?_
      have e1 : decide (1 ≤ s.size) = true := decide_eq_true (by omega)
      have e2 : decide ((s.size : Int) ≤ 8) = decide (s.size ≤ 8) := by rw [decide_eq_decide]; omega
      simp only [keysB, e1, e2, Bool.true_and, Bool.and_true]
    · refine EvP.now ?_
      have e1 : decide (1 ≤ s.size) = false := decide_eq_false (by omega)
      simp only [keysB, e1, Bool.false_and]
  | succ d ih =>
    intro i h0 h
    refine EvP.step (fun k => by rw [spec_KeyOk.l0]) ?_
    refine EvP.pos (by omega) (EvP.pos (by omega) ?_)
    have := ih (i + 1) (by omega) (by omega)
    rw [w64 (by omega) (by omega)]
    repeat' with_reducible refine EvP.split (fun _ => ?_) (fun _ => ?_)
    all_goals first
      | (refine EvP.now ?_
         have e1 : keyByteB (bt s i) = false := decide_eq_false (by omega)
         simp only [keysB, e1, Bool.false_and, Bool.and_false])
      | (have e1 : keyByteB (bt s i) = true := decide_eq_true (by omega)
         simp only [keysB, e1, Bool.true_and]
         exact this)
theorem spec_KeyOk_ev (s : ByteArray) (hs : s.size ≤ 140737488351232) : EvP (fun k => spec_KeyOk.f k s) (· = keyB s) :=
  spec_KeyOk_l0 s hs s.size 0 (by omega) (by omega)
theorem impl_KeyOk_l0 (s : ByteArray) (hs : s.size ≤ 140737488351232) : ∀ (d : Nat) (i : Int), 0 ≤ i → i + d = s.size →
    EvP (fun k => impl_KeyOk.l0 k s (s.size : Int) i) (· = keysB s d i) := by
  intro d
  induction d with
  | zero =>
    intro i h0 h
    refine EvP.step (fun k => by rw [impl_KeyOk.l0]) ?_
    refine EvP.neg (by omega) ?_
    exact EvP.now (by simp [keysB])
  | succ d ih =>
    intro i h0 h
    refine EvP.step (fun k => by rw [impl_KeyOk.l0]) ?_
    refine EvP.pos (by omega) (EvP.pos (by omega) (EvP.pos (by omega) ?_))
    have := ih (i + 1) (by omega) (by omega)
    rw [w64 (by omega) (by omega)]
    repeat' with_reducible refine EvP.split (fun _ => ?_) (fun _ => ?_)
    all_goals first
      | (refine EvP.now ?_
         have e1 : keyByteB (bt s i) = false := decide_eq_false (by omega)
         simp only [keysB, e1, Bool.false_and, Bool.and_false])
      | (have e1 : keyByteB (bt s i) = true := decide_eq_true (by omega)
         simp only [keysB, e1, Bool.true_and]
         exact this)
theorem impl_KeyOk_ev (s : ByteArray) (hs : s.size ≤ 140737488351232) : EvP (fun k => impl_KeyOk.f k s) (· = keyB s) := by
  unfold impl_KeyOk.f keyB
  refine EvP.split (fun h => ?_) (fun h => ?_)
  · refine EvP.step (fun k => by rw [impl_KeyOk.j0]) (EvP.pos rfl (EvP.now ?_))
    have e1 : decide (1 ≤ s.size) = false := decide_eq_false (by omega)
    simp [e1]
  · have e1 : decide (1 ≤ s.size) = true := decide_eq_true (by omega)
    refine EvP.step (fun k => by rw [impl_KeyOk.j0]) (EvP.split (fun h1 => EvP.now ?_) (fun h1 => ?_))
    · have := of_decide_eq_true h1
      have e2 : decide (s.size ≤ 8) = false := decide_eq_false (by omega)
      simp [e2]
    · have : ¬ (s.size : Int) > 8 := fun h => h1 (decide_eq_true h)
      have e2 : decide (s.size ≤ 8) = true := decide_eq_true (by omega)
      simp only [e1, e2, Bool.true_and]
      exact impl_KeyOk_l0 s hs s.size 0 (by omega) (by omega)

/-! ### EntryOk -/
def kindB (kind : Int) (x : ByteArray) (n : Int) : Bool :=
  if kind = 1 then true else if kind = 2 then (if x.toList = ([] : List UInt8) then (n == 0) else false) else if kind = 3 then (x.toList == ([] : List UInt8)) else false
def entB (k : ByteArray) (seq kind : Int) (x : ByteArray) (n : Int) : Bool :=
  keyB k && decide (1 ≤ seq) && decide (seq ≤ 100000) && decide (x.size ≤ 60) && decide (-1000000 ≤ n) && decide (n ≤ 1000000) && kindB kind x n
theorem spec_EntryOk_j0 (b : Bool) (k : ByteArray) (seq kind : Int) (x : ByteArray) (n : Int) : EvP (fun q => spec_EntryOk.j0 q b k seq kind x n) (· = (!b && kindB kind x n)) := by
  refine EvP.step (fun k => by rw [spec_EntryOk.j0]) ?_
  cases b
  · refine EvP.neg (by simp) ?_
    simp only [kindB, Bool.not_false, Bool.true_and]
    repeat' with_reducible refine EvP.split (fun _ => ?_) (fun _ => ?_)
    all_goals exact EvP.now (by simp [*])
  · exact EvP.pos rfl (EvP.now (by simp))
theorem impl_EntryOk_j1 (b : Bool) (k : ByteArray) (seq kind : Int) (x : ByteArray) (n : Int) : EvP (fun q => impl_EntryOk.j1 q b k seq kind x n) (· = (!b && kindB kind x n)) := by
  refine EvP.step (fun k => by rw [impl_EntryOk.j1]) ?_
  cases b
  · refine EvP.neg (by simp) ?_
    simp only [kindB, Bool.not_false, Bool.true_and]
    repeat' with_reducible refine EvP.split (fun _ => ?_) (fun _ => ?_)
    all_goals exact EvP.now (by simp [*])
  · exact EvP.pos rfl (EvP.now (by simp))
theorem impl_EntryOk_j0 (b : Bool) (k : ByteArray) (seq kind : Int) (x : ByteArray) (n : Int) : EvP (fun q => impl_EntryOk.j0 q b k seq kind x n) (· = (!b && decide (-1000000 ≤ n) && decide (n ≤ 1000000) && kindB kind x n)) := by
  refine EvP.step (fun k => by rw [impl_EntryOk.j0]) ?_
  cases b
  · refine EvP.neg (by simp) (EvP.split (fun h => (impl_EntryOk_j1 ..).mono ?_) (fun h => (impl_EntryOk_j1 ..).mono ?_))
    · rintro _ rfl
      have e : decide (-1000000 ≤ n) = false := decide_eq_false (by omega)
      simp [e]
    · rintro _ rfl
      have e : decide (-1000000 ≤ n) = true := decide_eq_true (by omega)
      have e2 : (!decide (n > 1000000)) = decide (n ≤ 1000000) := by rw [Bool.eq_iff_iff]; simp
      simp only [e, e2, Bool.not_false, Bool.true_and]
  · exact EvP.pos rfl (EvP.now (by simp))
theorem spec_l3Sum_eq (n : Int) : spec_l3Sum.f n = some (decide (-1000000 ≤ n) && decide (n ≤ 1000000)) := by
  unfold spec_l3Sum.f
  split
  · have e : decide (-1000000 ≤ n) = true := decide_eq_true (by omega)
    simp [e]
  · have e : decide (-1000000 ≤ n) = false := decide_eq_false (by omega)
    simp [e]
theorem not_gt60 (x : ByteArray) : (!decide ((x.size : Int) > 60)) = decide (x.size ≤ 60) := by
  rw [Bool.eq_iff_iff]
  simp
  omega
theorem spec_EntryOk_ev (k : ByteArray) (seq kind : Int) (x : ByteArray) (n : Int) (hk : k.size ≤ 140737488351232) : EvP (fun q => spec_EntryOk.f q k seq kind x n) (· = entB k seq kind x n) := by
  unfold spec_EntryOk.f
  refine EvP.bind (spec_KeyOk_ev k hk) ?_
  rintro _ rfl
  simp only [spec_l3Sum_eq, Option.bind_some]
  cases hK : keyB k
  · refine EvP.neg (by simp) ((spec_EntryOk_j0 ..).mono ?_)
    rintro _ rfl
    simp [entB, hK]
  · refine EvP.pos rfl (EvP.split (fun h => (spec_EntryOk_j0 ..).mono ?_) (fun h => EvP.split (fun h => (spec_EntryOk_j0 ..).mono ?_) (fun h => EvP.split (fun h => (spec_EntryOk_j0 ..).mono ?_) (fun h => (spec_EntryOk_j0 ..).mono ?_))))
    · rintro _ rfl
      have e : decide (1 ≤ seq) = false := decide_eq_false (by omega)
      simp [entB, hK, e]
    · rintro _ rfl
      have e : decide (seq ≤ 100000) = false := decide_eq_false (by omega)
      simp [entB, hK, e]
    · rintro _ rfl
      have e1 : decide (1 ≤ seq) = true := decide_eq_true (by omega)
      have e2 : decide (seq ≤ 100000) = true := decide_eq_true (by omega)
      simp only [Bool.and_eq_true] at h
      simp only [entB, hK, e1, e2, h.1, h.2, not_gt60, Bool.true_and, Bool.and_true]
    · rintro _ rfl
      have : (decide (-1000000 ≤ n) && decide (n ≤ 1000000)) = false := by simpa using h
      have e : (decide (-1000000 ≤ n) && decide (n ≤ 1000000) && kindB kind x n) = false := by rw [this]; rfl
      simp only [entB, Bool.and_assoc] at e ⊢
      rw [e]
      simp
theorem impl_EntryOk_ev (k : ByteArray) (seq kind : Int) (x : ByteArray) (n : Int) (hk : k.size ≤ 140737488351232) : EvP (fun q => impl_EntryOk.f q k seq kind x n) (· = entB k seq kind x n) := by
  unfold impl_EntryOk.f
  refine EvP.bind (impl_KeyOk_ev k hk) ?_
  rintro _ rfl
  cases hK : keyB k
  · refine EvP.neg (by simp) ((impl_EntryOk_j0 ..).mono ?_)
    rintro _ rfl
    simp [entB, hK]
  · refine EvP.pos rfl (EvP.split (fun h => (impl_EntryOk_j0 ..).mono ?_) (fun h => EvP.split (fun h => (impl_EntryOk_j0 ..).mono ?_) (fun h => (impl_EntryOk_j0 ..).mono ?_)))
    · rintro _ rfl
      have e : decide (1 ≤ seq) = false := decide_eq_false (by omega)
      simp [entB, hK, e]
    · rintro _ rfl
      have e : decide (seq ≤ 100000) = false := decide_eq_false (by omega)
      simp [entB, hK, e]
    · rintro _ rfl
      have e1 : decide (1 ≤ seq) = true := decide_eq_true (by omega)
      have e2 : decide (seq ≤ 100000) = true := decide_eq_true (by omega)
      simp only [entB, hK, e1, e2, not_gt60, Bool.true_and, Bool.and_true]

theorem szEntry_ev (a0 : ByteArray) (a1 a2 : Int) (a3 : ByteArray) (a4 left : Int) (h0 : a0.size ≤ maxLen) (h3 : a3.size ≤ maxLen) (hl : 0 ≤ left) (hl' : left ≤ 1048576) :
    ∃ r, laws_szEntry.f a0 a1 a2 a3 a4 left = some r ∧ r ≤ left ∧ (0 ≤ r → (a0.size : Int) ≤ left ∧ (a3.size : Int) ≤ left) := by
  unfold maxLen at h0 h3
  unfold laws_szEntry.f
  rw [w64 (x := left - (a0.size : Int)) (by omega) (by omega)]
  split
  · exact ⟨-1, rfl, by omega, by omega⟩
  · rw [w64 (by omega) (by omega)]
    split
    · exact ⟨-1, rfl, by omega, by omega⟩
    · exact ⟨_, rfl, by omega, by omega⟩

theorem FnExactEntryOk (a0_0 : ByteArray) (a0_1 a0_2 : Int) (a0_3 : ByteArray) (a0_4 : Int)
    (g0 : a0_0.size ≤ maxLen ∧ (Lit.int .i64 a0_1).wf = true ∧ (Lit.int .i64 a0_2).wf = true ∧ a0_3.size ≤ maxLen ∧ (Lit.int .i64 a0_4).wf = true) : ∃ k, laws_FnExactEntryOk.f k a0_0 a0_1 a0_2 a0_3 a0_4 = some true := by
  refine EvP.done ?_
  unfold laws_FnExactEntryOk.f
  obtain ⟨r, hr, _, hb⟩ := szEntry_ev a0_0 a0_1 a0_2 a0_3 a0_4 1048576 g0.1 g0.2.2.2.1 (by omega) (by omega)
  simp only [hr, Option.bind_some, laws_toEntry.f]
  refine EvP.split (fun _ => EvP.now rfl) (fun h => ?_)
  have := hb (by omega)
  refine EvP.bind (spec_EntryOk_ev a0_0 a0_1 a0_2 a0_3 a0_4 (by omega)) ?_
  rintro _ rfl
  refine EvP.bind (impl_EntryOk_ev a0_0 a0_1 a0_2 a0_3 a0_4 (by omega)) ?_
  rintro _ rfl
  exact EvP.neg (by simp) (EvP.now rfl)


end Go.Proofs.Ytoijegeioafbiaa.Pure
