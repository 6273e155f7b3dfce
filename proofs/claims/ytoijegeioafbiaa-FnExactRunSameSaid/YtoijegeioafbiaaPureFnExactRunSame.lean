/- RunSame of the program answers as the reference's, for any two runs. -/
import Derived.Test.YtoijegeioafbiaaPFnExactRunSamex4
import Derived.Test.YtoijegeioafbiaaBBase
set_option linter.unusedVariables false
set_option linter.unusedSimpArgs false
namespace Go.Proofs.Ytoijegeioafbiaa.Pure
open Go.RowKit Go.Proofs.Ytoijegeioafbiaa.PFnExactRunSame Go.Proofs.YtoijegeioafbiaaW.PrintWords Go.Proofs.YtoijegeioafbiaaW.PrintLast Go.Proofs.YtoijegeioafbiaaW.PrintMore Go.Proofs.Ytoijegeioafbiaa.B

theorem szEntry_ev (a0 : ByteArray) (a1 a2 : Int) (a3 : ByteArray) (a4 left : Int) (h0 : a0.size ≤ maxLen) (h3 : a3.size ≤ maxLen) (hl : 0 ≤ left) (hl' : left ≤ 1048576) :
    ∃ r, laws_szEntry.f a0 a1 a2 a3 a4 left = some r ∧ r ≤ left ∧ (0 ≤ r → (a0.size : Int) ≤ left ∧ (a3.size : Int) ≤ left) := by
  unfold maxLen at h0 h3
  unfold laws_szEntry.f
  rw [w64 (x := left - (a0.size : Int)) (by omega) (by omega)]
  split
  · exact ⟨-1, rfl, by omega, by omega⟩
  · rw [w64 (by omega) (by omega)]
    split
    · exact ⟨-1, rfl, by omega, by omega⟩
    · exact ⟨_, rfl, by omega, by omega⟩

/-! ### Entries: sizes, copies, sameness -/
theorem rd_mid25 (pre rest : List S25) (x : S25) : rd_T25 (pre ++ x :: rest) (pre.length : Int) = x := by simp [rd_T25]
theorem rd_mid28 (pre rest : List S28) (x : S28) : rd_T28 (pre ++ x :: rest) (pre.length : Int) = x := by simp [rd_T28]
def entOf (x : S25) : S28 := ⟨x.f0, x.f1, x.f2, x.f3, x.f4⟩
def entKey (x : S28) : List UInt8 × Int × Int × List UInt8 × Int := (x.f0.toList, x.f1, x.f2, x.f3.toList, x.f4)
theorem szEntryS_l0 (xs : List S25) (hx : xs.length ≤ 1048576) (h : ∀ x ∈ xs, x.f0.size ≤ maxLen ∧ x.f3.size ≤ maxLen) : ∀ (rest pre : List S25) (left : Int), xs = pre ++ rest → 0 ≤ left → left ≤ 1048576 →
    EvP (fun k => laws_szEntryS.l0 k xs left (pre.length : Int)) (fun r => r ≤ left ∧ (0 ≤ r → ∀ x ∈ rest, (x.f0.size : Int) ≤ 1048576 ∧ (x.f3.size : Int) ≤ 1048576)) := by
  intro rest
  induction rest with
  | nil =>
    intro pre left e h0 h1
    refine EvP.step (fun k => by rw [laws_szEntryS.l0]) (EvP.neg (by simp [e]) (EvP.now ⟨Int.le_refl _, by simp⟩))
  | cons x rest ih =>
    intro pre left e h0 h1
    have hl : xs.length = pre.length + (rest.length + 1) := by rw [e]; simp
    refine EvP.step (fun k => by rw [laws_szEntryS.l0]) (EvP.pos (by omega) (EvP.pos (by omega) ?_))
    have hr : rd_T25 xs (pre.length : Int) = x := by rw [e]; exact rd_mid25 pre rest x
    rw [hr]
    obtain ⟨r, hr, hle, hb⟩ := szEntry_ev x.f0 x.f1 x.f2 x.f3 x.f4 left (h x (by rw [e]; simp)).1 (h x (by rw [e]; simp)).2 h0 h1
    simp only [hr, Option.bind_some]
    refine EvP.split (fun hneg => EvP.now ⟨by omega, fun hh => by omega⟩) (fun hpos => ?_)
    have e2 : wrap64 ((pre.length : Int) + 1) = ((pre ++ [x]).length : Int) := by rw [w64 (by omega) (by omega)]; simp
    rw [e2]
    refine (ih (pre ++ [x]) r (by rw [e]; simp) (by omega) (by omega)).mono ?_
    rintro a ⟨ha, hb'⟩
    refine ⟨by omega, fun hh y hy => ?_⟩
    rcases List.mem_cons.1 hy with rfl | hy
    · have := hb (by omega); omega
    · exact hb' hh y hy
theorem szEntryS_ev (xs : List S25) (left : Int) (hl : xs.length ≤ maxLen) (h : ∀ x ∈ xs, x.f0.size ≤ maxLen ∧ x.f3.size ≤ maxLen) (h0 : 0 ≤ left) (h1 : left ≤ 1048576) :
    EvP (fun k => laws_szEntryS.f k xs left) (fun r => r ≤ left ∧ (0 ≤ r → xs.length ≤ 1048576 ∧ ∀ x ∈ xs, (x.f0.size : Int) ≤ 1048576 ∧ (x.f3.size : Int) ≤ 1048576)) := by
  unfold laws_szEntryS.f
  unfold maxLen at hl
  rw [w64 (by omega) (by omega)]
  refine EvP.split (fun hn => EvP.now ⟨by omega, fun hh => by omega⟩) (fun hp => ?_)
  refine (szEntryS_l0 xs (by omega) h xs [] _ rfl (by omega) (by omega)).mono ?_
  rintro r ⟨ha, hb⟩
  exact ⟨by omega, fun hh => ⟨by omega, hb hh⟩⟩
theorem toEntryS_l0 (xs : List S25) (hx : xs.length ≤ 1048576) : ∀ (rest pre : List S25), xs = pre ++ rest →
    EvP (fun k => laws_toEntryS.l0 k xs (pre.map entOf ++ List.replicate rest.length z28) (pre.length : Int)) (· = xs.map entOf) := by
  intro rest
  induction rest with
  | nil =>
    intro pre e
    refine EvP.step (fun k => by rw [laws_toEntryS.l0]) (EvP.neg (by simp [e]) (EvP.now ?_))
    simp [e]
  | cons x rest ih =>
    intro pre e
    have hl : xs.length = pre.length + (rest.length + 1) := by rw [e]; simp
    refine EvP.step (fun k => by rw [laws_toEntryS.l0]) (EvP.pos (by omega) (EvP.pos (by omega) ?_))
    have hr : rd_T25 xs (pre.length : Int) = x := by rw [e]; exact rd_mid25 pre rest x
    rw [hr]
    simp only [laws_toEntry.f, Option.bind_some]
    refine EvP.pos (by simp; omega) ?_
    have e2 : wrap64 ((pre.length : Int) + 1) = ((pre ++ [x]).length : Int) := by rw [w64 (by omega) (by omega)]; simp
    rw [e2]
    have e3 : (pre.map entOf ++ List.replicate (x :: rest).length z28).set ((pre.length : Int)).toNat (⟨x.f0, x.f1, x.f2, x.f3, x.f4⟩ : S28) = (pre ++ [x]).map entOf ++ List.replicate rest.length z28 := by
      simp [List.replicate_succ, entOf]
    rw [e3]
    exact ih (pre ++ [x]) (by rw [e]; simp)
theorem toEntryS_ev (xs : List S25) (hx : xs.length ≤ 1048576) : EvP (fun k => laws_toEntryS.f k xs) (· = xs.map entOf) := by
  unfold laws_toEntryS.f
  refine EvP.pos (by omega) (EvP.pos (by omega) ?_)
  have := toEntryS_l0 xs hx xs [] rfl
  simpa using this
theorem eqEntryS_l0 (xs ys : List S28) (hx : xs.length ≤ 1048576) : ∀ (r r' pre pre' : List S28), xs = pre ++ r → ys = pre' ++ r' → pre.length = pre'.length → r.length = r'.length →
    EvP (fun k => laws_eqEntryS.l0 k xs ys (pre.length : Int)) (· = decide (r.map entKey = r'.map entKey)) := by
  intro r
  induction r with
  | nil =>
    intro r' pre pre' e e' hl hr
    obtain rfl : r' = [] := List.eq_nil_of_length_eq_zero (by simpa using hr.symm)
    exact EvP.step (fun k => by rw [laws_eqEntryS.l0]) (EvP.neg (by simp [e]) (EvP.now (by simp)))
  | cons x r ih =>
    intro r' pre pre' e e' hl hr
    cases r' with
    | nil => simp at hr
    | cons y r' =>
      have h1 : xs.length = pre.length + (r.length + 1) := by rw [e]; simp
      have h2 : ys.length = pre'.length + (r'.length + 1) := by rw [e']; simp
      refine EvP.step (fun k => by rw [laws_eqEntryS.l0]) (EvP.pos (by omega) (EvP.pos (by omega) (EvP.pos (by simp at hr; omega) ?_)))
      have hrx : rd_T28 xs (pre.length : Int) = x := by rw [e]; exact rd_mid28 pre r x
      have hry : rd_T28 ys (pre.length : Int) = y := by rw [e', hl]; exact rd_mid28 pre' r' y
      rw [hrx, hry]
      have e2 : wrap64 ((pre.length : Int) + 1) = ((pre ++ [x]).length : Int) := by rw [w64 (by omega) (by omega)]; simp
      have step := ih r' (pre ++ [x]) (pre' ++ [y]) (by rw [e]; simp) (by rw [e']; simp) (by simp [hl]) (by simpa using hr)
      rw [← e2] at step
      have hk : laws_eqEntry.f x.f0 x.f1 x.f2 x.f3 x.f4 y.f0 y.f1 y.f2 y.f3 y.f4 = some (decide (entKey x = entKey y)) := by
        unfold laws_eqEntry.f entKey
        by_cases c1 : x.f0.toList = y.f0.toList <;> by_cases c2 : x.f1 = y.f1 <;> by_cases c3 : x.f2 = y.f2 <;> by_cases c4 : x.f3.toList = y.f3.toList <;> by_cases c5 : x.f4 = y.f4 <;> simp [c1, c2, c3, c4, c5]
      simp only [hk, Option.bind_some]
      by_cases c : entKey x = entKey y
      · refine EvP.pos (by simp [c]) (step.mono ?_)
        rintro _ rfl
        simp [c]
      · exact EvP.neg (by simp [c]) (EvP.now (by simp [c]))
theorem eqEntryS_ev (xs ys : List S28) (hx : xs.length ≤ 1048576) : EvP (fun k => laws_eqEntryS.f k xs ys) (· = decide (xs.map entKey = ys.map entKey)) := by
  unfold laws_eqEntryS.f
  refine EvP.split (fun h => ?_) (fun h => EvP.now ?_)
  · exact eqEntryS_l0 xs ys hx xs ys [] [] rfl rfl rfl (by omega)
  · have : xs.map entKey ≠ ys.map entKey := fun he => h (by have := congrArg List.length he; simp at this; omega)
    simp [this]

/-! ### RunSame -/
theorem entNe (x y : S28) : (!((x.f0.toList) == (y.f0.toList)) || (!((x.f1) == (y.f1)) || (!((x.f2) == (y.f2)) || (!((x.f3.toList) == (y.f3.toList)) || (!((x.f4) == (y.f4))))))) = !decide (entKey x = entKey y) := by
  unfold entKey
  by_cases c1 : x.f0.toList = y.f0.toList <;> by_cases c2 : x.f1 = y.f1 <;> by_cases c3 : x.f2 = y.f2 <;> by_cases c4 : x.f3.toList = y.f3.toList <;> by_cases c5 : x.f4 = y.f4 <;> simp [c1, c2, c3, c4, c5]
theorem spec_l4Same_l0 (xs ys : List S28) (hx : xs.length ≤ 1048576) : ∀ (r r' pre pre' : List S28), xs = pre ++ r → ys = pre' ++ r' → pre.length = pre'.length → r.length = r'.length →
    EvP (fun k => spec_l4Same.l0 k xs ys (pre.length : Int)) (· = decide (r.map entKey = r'.map entKey)) := by
  intro r
  induction r with
  | nil =>
    intro r' pre pre' e e' hl hr
    obtain rfl : r' = [] := List.eq_nil_of_length_eq_zero (by simpa using hr.symm)
    exact EvP.step (fun k => by rw [spec_l4Same.l0]) (EvP.neg (by simp [e]) (EvP.now (by simp)))
  | cons x r ih =>
    intro r' pre pre' e e' hl hr
    cases r' with
    | nil => simp at hr
    | cons y r' =>
      have h1 : xs.length = pre.length + (r.length + 1) := by rw [e]; simp
      have h2 : ys.length = pre'.length + (r'.length + 1) := by rw [e']; simp
      refine EvP.step (fun k => by rw [spec_l4Same.l0]) (EvP.pos (by omega) (EvP.pos (by omega) (EvP.pos (by simp at hr; omega) ?_)))
      have hrx : rd_T28 xs (pre.length : Int) = x := by rw [e]; exact rd_mid28 pre r x
      have hry : rd_T28 ys (pre.length : Int) = y := by rw [e', hl]; exact rd_mid28 pre' r' y
      rw [hrx, hry, entNe]
      have e2 : wrap64 ((pre.length : Int) + 1) = ((pre ++ [x]).length : Int) := by rw [w64 (by omega) (by omega)]; simp
      have step := ih r' (pre ++ [x]) (pre' ++ [y]) (by rw [e]; simp) (by rw [e']; simp) (by simp [hl]) (by simpa using hr)
      rw [← e2] at step
      by_cases c : entKey x = entKey y
      · refine EvP.neg (by simp [c]) (step.mono ?_)
        rintro _ rfl
        simp [c]
      · exact EvP.pos (by simp [c]) (EvP.now (by simp [c]))
theorem impl_Entry_l0 (xs ys : List S28) (hx : xs.length ≤ 1048576) : ∀ (r r' pre pre' : List S28), xs = pre ++ r → ys = pre' ++ r' → pre.length = pre'.length → r.length = r'.length →
    EvP (fun k => impl_Entry.l0 k xs ys (xs.length : Int) (pre.length : Int)) (· = decide (r.map entKey = r'.map entKey)) := by
  intro r
  induction r with
  | nil =>
    intro r' pre pre' e e' hl hr
    obtain rfl : r' = [] := List.eq_nil_of_length_eq_zero (by simpa using hr.symm)
    exact EvP.step (fun k => by rw [impl_Entry.l0]) (EvP.neg (by simp [e]) (EvP.now (by simp)))
  | cons x r ih =>
    intro r' pre pre' e e' hl hr
    cases r' with
    | nil => simp at hr
    | cons y r' =>
      have h1 : xs.length = pre.length + (r.length + 1) := by rw [e]; simp
      have h2 : ys.length = pre'.length + (r'.length + 1) := by rw [e']; simp
      refine EvP.step (fun k => by rw [impl_Entry.l0]) (EvP.pos (by omega) (EvP.pos (by omega) (EvP.pos (by omega) (EvP.pos (by simp at hr; omega) ?_))))
      have hrx : rd_T28 xs (pre.length : Int) = x := by rw [e]; exact rd_mid28 pre r x
      have hry : rd_T28 ys (pre.length : Int) = y := by rw [e', hl]; exact rd_mid28 pre' r' y
      rw [hrx, hry, entNe]
      have e2 : wrap64 ((pre.length : Int) + 1) = ((pre ++ [x]).length : Int) := by rw [w64 (by omega) (by omega)]; simp
      have step := ih r' (pre ++ [x]) (pre' ++ [y]) (by rw [e]; simp) (by rw [e']; simp) (by simp [hl]) (by simpa using hr)
      rw [← e2] at step
      by_cases c : entKey x = entKey y
      · refine EvP.neg (by simp [c]) (step.mono ?_)
        rintro _ rfl
        simp [c]
      · exact EvP.pos (by simp [c]) (EvP.now (by simp [c]))
theorem spec_l4Same_ev (xs ys : List S28) (hx : xs.length ≤ 1048576) : EvP (fun k => spec_l4Same.f k xs ys) (· = decide (xs.map entKey = ys.map entKey)) := by
  unfold spec_l4Same.f
  refine EvP.split (fun h => ?_) (fun h => EvP.now ?_)
  · exact spec_l4Same_l0 xs ys hx xs ys [] [] rfl rfl rfl (by omega)
  · have : xs.map entKey ≠ ys.map entKey := fun he => h (by have := congrArg List.length he; simp at this; omega)
    simp [this]
theorem impl_Entry_ev (xs ys : List S28) (hx : xs.length ≤ 1048576) : EvP (fun k => impl_Entry.f k xs ys) (· = decide (xs.map entKey = ys.map entKey)) := by
  unfold impl_Entry.f
  refine EvP.split (fun h => ?_) (fun h => EvP.now ?_)
  · exact impl_Entry_l0 xs ys hx xs ys [] [] rfl rfl rfl (by omega)
  · have : xs.map entKey ≠ ys.map entKey := fun he => h (by have := congrArg List.length he; simp at this; omega)
    simp [this]
def runSameB (xs : List S28) (a : Int) (ys : List S28) (b : Int) : Bool := decide (a = b ∧ xs.map entKey = ys.map entKey)
theorem spec_RunSame_ev (xs : List S28) (a : Int) (ys : List S28) (b : Int) (hx : xs.length ≤ 1048576) : EvP (fun k => spec_RunSame.f k xs a ys b) (· = runSameB xs a ys b) := by
  unfold spec_RunSame.f runSameB
  refine EvP.split (fun h => EvP.bind (spec_l4Same_ev xs ys hx) ?_) (fun h => EvP.now (by simp [h]))
  rintro _ rfl
  exact EvP.now (by simp [h])
theorem impl_RunSame_ev (xs : List S28) (a : Int) (ys : List S28) (b : Int) (hx : xs.length ≤ 1048576) : EvP (fun k => impl_RunSame.f k xs a ys b) (· = runSameB xs a ys b) := by
  unfold impl_RunSame.f runSameB
  refine EvP.split (fun h => EvP.bind (impl_Entry_ev xs ys hx) ?_) (fun h => EvP.now (by simp [h]))
  rintro _ rfl
  exact EvP.now (by simp [h])

/-! ### A run: size, copy, sameness -/
theorem szRun_ev (xs : List S25) (a : Int) (left : Int) (hl : xs.length ≤ maxLen) (h : ∀ x ∈ xs, x.f0.size ≤ maxLen ∧ x.f3.size ≤ maxLen) (h0 : 0 ≤ left) (h1 : left ≤ 1048576) :
    EvP (fun k => laws_szRun.f k xs a left) (fun r => r ≤ left ∧ (0 ≤ r → xs.length ≤ 1048576 ∧ ∀ x ∈ xs, (x.f0.size : Int) ≤ 1048576 ∧ (x.f3.size : Int) ≤ 1048576)) := by
  unfold laws_szRun.f
  refine EvP.bind (szEntryS_ev xs left hl h h0 h1) ?_
  rintro r ⟨hr, hb⟩
  exact EvP.split (fun hn => EvP.now ⟨by omega, by omega⟩) (fun hp => EvP.now ⟨hr, hb⟩)
theorem toRun_ev (xs : List S25) (a : Int) (hx : xs.length ≤ 1048576) : EvP (fun k => laws_toRun.f k xs a) (· = (xs.map entOf, a)) := by
  unfold laws_toRun.f
  refine EvP.bind (toEntryS_ev xs hx) ?_
  rintro _ rfl
  exact EvP.now rfl

theorem eqRun_ev (xs : List S28) (a : Int) (ys : List S28) (b : Int) (hx : xs.length ≤ 1048576) : EvP (fun k => laws_eqRun.f k xs a ys b) (· = runSameB xs a ys b) := by
  unfold laws_eqRun.f runSameB
  refine EvP.bind (eqEntryS_ev xs ys hx) ?_
  rintro _ rfl
  by_cases c : xs.map entKey = ys.map entKey
  · refine EvP.pos (by simp [c]) (EvP.split (fun h => EvP.now ?_) (fun h => EvP.now ?_))
    · simp [h, c]
    · simp [h]
  · exact EvP.neg (by simp [c]) (EvP.now (by simp [c]))
theorem runSame_refl (xs : List S28) (a : Int) : runSameB xs a xs a = true := by simp [runSameB]
theorem FnExactRunSame (l0_0 : List S25) (a0_1 : Int) (l1_0 : List S25) (a1_1 : Int)
    (g0 : (l0_0.length ≤ maxLen ∧ ∀ x ∈ l0_0, x.f0.size ≤ maxLen ∧ (Lit.int .i64 x.f1).wf = true ∧ (Lit.int .i64 x.f2).wf = true ∧ x.f3.size ≤ maxLen ∧ (Lit.int .i64 x.f4).wf = true) ∧ (Lit.int .i64 a0_1).wf = true)
    (g1 : (l1_0.length ≤ maxLen ∧ ∀ x ∈ l1_0, x.f0.size ≤ maxLen ∧ (Lit.int .i64 x.f1).wf = true ∧ (Lit.int .i64 x.f2).wf = true ∧ x.f3.size ≤ maxLen ∧ (Lit.int .i64 x.f4).wf = true) ∧ (Lit.int .i64 a1_1).wf = true) :
    ∃ k, laws_FnExactRunSame.f k l0_0 a0_1 l1_0 a1_1 = some true := by
  refine EvP.done ?_
  unfold laws_FnExactRunSame.f
  refine EvP.bind (szRun_ev l0_0 a0_1 1048576 g0.1.1 (fun x hx => ⟨(g0.1.2 x hx).1, (g0.1.2 x hx).2.2.2.1⟩) (by omega) (by omega)) ?_
  rintro r ⟨hr, hb⟩
  refine EvP.split (fun _ => EvP.now rfl) (fun hp => ?_)
  refine EvP.bind (szRun_ev l1_0 a1_1 r g1.1.1 (fun x hx => ⟨(g1.1.2 x hx).1, (g1.1.2 x hx).2.2.2.1⟩) (by omega) (by omega)) ?_
  rintro q ⟨hq, hc⟩
  refine EvP.split (fun _ => EvP.now rfl) (fun hp' => ?_)
  have n0 := (hb (by omega)).1
  have n1 := (hc (by omega)).1
  refine EvP.bind (toRun_ev l0_0 a0_1 n0) ?_
  rintro _ rfl
  refine EvP.bind (toRun_ev l1_0 a1_1 n1) ?_
  rintro _ rfl
  refine EvP.bind (spec_RunSame_ev _ _ _ _ (by simpa using n0)) ?_
  rintro _ rfl
  refine EvP.bind (toRun_ev l0_0 a0_1 n0) ?_
  rintro _ rfl
  refine EvP.bind (toRun_ev l1_0 a1_1 n1) ?_
  rintro _ rfl
  refine EvP.bind (impl_RunSame_ev _ _ _ _ (by simpa using n0)) ?_
  rintro _ rfl
  refine EvP.neg (by simp) ?_
  refine EvP.bind (toRun_ev l0_0 a0_1 n0) ?_
  rintro _ rfl
  refine EvP.bind (eqRun_ev _ _ _ _ (by simpa using n0)) ?_
  rintro _ rfl
  refine EvP.pos (runSame_refl _ _) ?_
  refine EvP.bind (toRun_ev l1_0 a1_1 n1) ?_
  rintro _ rfl
  refine EvP.bind (eqRun_ev _ _ _ _ (by simpa using n1)) ?_
  rintro _ rfl
  exact EvP.pos (runSame_refl _ _) (EvP.now rfl)


end Go.Proofs.Ytoijegeioafbiaa.Pure
