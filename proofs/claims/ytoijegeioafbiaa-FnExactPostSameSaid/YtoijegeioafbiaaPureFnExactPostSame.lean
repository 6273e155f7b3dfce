/- PostSame of the program answers as the reference's, for any two postings. -/
import Derived.Test.YtoijegeioafbiaaPFnExactPostSamex4
import Derived.Test.YtoijegeioafbiaaBBase
set_option linter.unusedVariables false
set_option linter.unusedSimpArgs false
namespace Go.Proofs.Ytoijegeioafbiaa.Pure
open Go.RowKit Go.Proofs.Ytoijegeioafbiaa.PFnExactPostSame Go.Proofs.YtoijegeioafbiaaW.PrintWords Go.Proofs.YtoijegeioafbiaaW.PrintLast Go.Proofs.YtoijegeioafbiaaW.PrintMore Go.Proofs.Ytoijegeioafbiaa.B

theorem szLeg_ev (a0 : ByteArray) (a1 a2 left : Int) (h0 : a0.size ≤ maxLen) (hl : 0 ≤ left) (hl' : left ≤ 1048576) :
    ∃ r, laws_szLeg.f a0 a1 a2 left = some r ∧ r ≤ left ∧ (0 ≤ r → (a0.size : Int) ≤ left) := by
  unfold maxLen at h0
  unfold laws_szLeg.f
  rw [w64 (x := left - (a0.size : Int)) (by omega) (by omega)]
  split
  · exact ⟨-1, rfl, by omega, by omega⟩
  · exact ⟨_, rfl, by omega, by omega⟩

/-! ### Legs: sizes, copies, sameness -/
theorem rd_mid33 (pre rest : List S33) (x : S33) : rd_T33 (pre ++ x :: rest) (pre.length : Int) = x := by simp [rd_T33]
theorem rd_mid36 (pre rest : List S36) (x : S36) : rd_T36 (pre ++ x :: rest) (pre.length : Int) = x := by simp [rd_T36]
def legOf (x : S33) : S36 := ⟨x.f0, x.f1, x.f2⟩
def legKey (x : S36) : List UInt8 × Int × Int := (x.f0.toList, x.f1, x.f2)
theorem szLegS_l0 (xs : List S33) (hx : xs.length ≤ 1048576) (h : ∀ x ∈ xs, x.f0.size ≤ maxLen) : ∀ (rest pre : List S33) (left : Int), xs = pre ++ rest → 0 ≤ left → left ≤ 1048576 →
    EvP (fun k => laws_szLegS.l0 k xs left (pre.length : Int)) (fun r => r ≤ left ∧ (0 ≤ r → ∀ x ∈ rest, (x.f0.size : Int) ≤ 1048576)) := by
  intro rest
  induction rest with
  | nil =>
    intro pre left e h0 h1
    refine EvP.step (fun k => by rw [laws_szLegS.l0]) (EvP.neg (by simp [e]) (EvP.now ⟨Int.le_refl _, by simp⟩))
  | cons x rest ih =>
    intro pre left e h0 h1
    have hl : xs.length = pre.length + (rest.length + 1) := by rw [e]; simp
    refine EvP.step (fun k => by rw [laws_szLegS.l0]) (EvP.pos (by omega) (EvP.pos (by omega) ?_))
    have hr : rd_T33 xs (pre.length : Int) = x := by rw [e]; exact rd_mid33 pre rest x
    rw [hr]
    obtain ⟨r, hr, hle, hb⟩ := szLeg_ev x.f0 x.f1 x.f2 left (h x (by rw [e]; simp)) h0 h1
    simp only [hr, Option.bind_some]
    refine EvP.split (fun hneg => EvP.now ⟨by omega, fun hh => by omega⟩) (fun hpos => ?_)
    have e2 : wrap64 ((pre.length : Int) + 1) = ((pre ++ [x]).length : Int) := by rw [w64 (by omega) (by omega)]; simp
    rw [e2]
    refine (ih (pre ++ [x]) r (by rw [e]; simp) (by omega) (by omega)).mono ?_
    rintro a ⟨ha, hb'⟩
    refine ⟨by omega, fun hh y hy => ?_⟩
    rcases List.mem_cons.1 hy with rfl | hy
    · have := hb (by omega); omega
    · exact hb' hh y hy
theorem szLegS_ev (xs : List S33) (left : Int) (hl : xs.length ≤ maxLen) (h : ∀ x ∈ xs, x.f0.size ≤ maxLen) (h0 : 0 ≤ left) (h1 : left ≤ 1048576) :
    EvP (fun k => laws_szLegS.f k xs left) (fun r => r ≤ left ∧ (0 ≤ r → xs.length ≤ 1048576 ∧ ∀ x ∈ xs, (x.f0.size : Int) ≤ 1048576)) := by
  unfold laws_szLegS.f
  unfold maxLen at hl
  rw [w64 (by omega) (by omega)]
  refine EvP.split (fun hn => EvP.now ⟨by omega, fun hh => by omega⟩) (fun hp => ?_)
  refine (szLegS_l0 xs (by omega) h xs [] _ rfl (by omega) (by omega)).mono ?_
  rintro r ⟨ha, hb⟩
  exact ⟨by omega, fun hh => ⟨by omega, hb hh⟩⟩
theorem toLegS_l0 (xs : List S33) (hx : xs.length ≤ 1048576) : ∀ (rest pre : List S33), xs = pre ++ rest →
    EvP (fun k => laws_toLegS.l0 k xs (pre.map legOf ++ List.replicate rest.length z36) (pre.length : Int)) (· = xs.map legOf) := by
  intro rest
  induction rest with
  | nil =>
    intro pre e
    refine EvP.step (fun k => by rw [laws_toLegS.l0]) (EvP.neg (by simp [e]) (EvP.now ?_))
    simp [e]
  | cons x rest ih =>
    intro pre e
    have hl : xs.length = pre.length + (rest.length + 1) := by rw [e]; simp
    refine EvP.step (fun k => by rw [laws_toLegS.l0]) (EvP.pos (by omega) (EvP.pos (by omega) ?_))
    have hr : rd_T33 xs (pre.length : Int) = x := by rw [e]; exact rd_mid33 pre rest x
    rw [hr]
    simp only [laws_toLeg.f, Option.bind_some]
    refine EvP.pos (by simp; omega) ?_
    have e2 : wrap64 ((pre.length : Int) + 1) = ((pre ++ [x]).length : Int) := by rw [w64 (by omega) (by omega)]; simp
    rw [e2]
    have e3 : (pre.map legOf ++ List.replicate (x :: rest).length z36).set ((pre.length : Int)).toNat (⟨x.f0, x.f1, x.f2⟩ : S36) = (pre ++ [x]).map legOf ++ List.replicate rest.length z36 := by
      simp [List.replicate_succ, legOf]
    rw [e3]
    exact ih (pre ++ [x]) (by rw [e]; simp)
theorem toLegS_ev (xs : List S33) (hx : xs.length ≤ 1048576) : EvP (fun k => laws_toLegS.f k xs) (· = xs.map legOf) := by
  unfold laws_toLegS.f
  refine EvP.pos (by omega) (EvP.pos (by omega) ?_)
  have := toLegS_l0 xs hx xs [] rfl
  simpa using this
theorem eqLegS_l0 (xs ys : List S36) (hx : xs.length ≤ 1048576) : ∀ (r r' pre pre' : List S36), xs = pre ++ r → ys = pre' ++ r' → pre.length = pre'.length → r.length = r'.length →
    EvP (fun k => laws_eqLegS.l0 k xs ys (pre.length : Int)) (· = decide (r.map legKey = r'.map legKey)) := by
  intro r
  induction r with
  | nil =>
    intro r' pre pre' e e' hl hr
    obtain rfl : r' = [] := List.eq_nil_of_length_eq_zero (by simpa using hr.symm)
    exact EvP.step (fun k => by rw [laws_eqLegS.l0]) (EvP.neg (by simp [e]) (EvP.now (by simp)))
  | cons x r ih =>
    intro r' pre pre' e e' hl hr
    cases r' with
    | nil => simp at hr
    | cons y r' =>
      have h1 : xs.length = pre.length + (r.length + 1) := by rw [e]; simp
      have h2 : ys.length = pre'.length + (r'.length + 1) := by rw [e']; simp
      refine EvP.step (fun k => by rw [laws_eqLegS.l0]) (EvP.pos (by omega) (EvP.pos (by omega) (EvP.pos (by simp at hr; omega) ?_)))
      have hrx : rd_T36 xs (pre.length : Int) = x := by rw [e]; exact rd_mid36 pre r x
      have hry : rd_T36 ys (pre.length : Int) = y := by rw [e', hl]; exact rd_mid36 pre' r' y
      rw [hrx, hry]
      have e2 : wrap64 ((pre.length : Int) + 1) = ((pre ++ [x]).length : Int) := by rw [w64 (by omega) (by omega)]; simp
      have step := ih r' (pre ++ [x]) (pre' ++ [y]) (by rw [e]; simp) (by rw [e']; simp) (by simp [hl]) (by simpa using hr)
      rw [← e2] at step
      have hk : laws_eqLeg.f x.f0 x.f1 x.f2 y.f0 y.f1 y.f2 = some (decide (legKey x = legKey y)) := by
        unfold laws_eqLeg.f legKey
        by_cases c1 : x.f0.toList = y.f0.toList <;> by_cases c2 : x.f1 = y.f1 <;> by_cases c3 : x.f2 = y.f2 <;> simp [c1, c2, c3]
      simp only [hk, Option.bind_some]
      by_cases c : legKey x = legKey y
      · refine EvP.pos (by simp [c]) (step.mono ?_)
        rintro _ rfl
        simp [c]
      · exact EvP.neg (by simp [c]) (EvP.now (by simp [c]))
theorem eqLegS_ev (xs ys : List S36) (hx : xs.length ≤ 1048576) : EvP (fun k => laws_eqLegS.f k xs ys) (· = decide (xs.map legKey = ys.map legKey)) := by
  unfold laws_eqLegS.f
  refine EvP.split (fun h => ?_) (fun h => EvP.now ?_)
  · exact eqLegS_l0 xs ys hx xs ys [] [] rfl rfl rfl (by omega)
  · have : xs.map legKey ≠ ys.map legKey := fun he => h (by have := congrArg List.length he; simp at this; omega)
    simp [this]
/-! ### A posting: size, copy, sameness -/
theorem szPost_ev (a : Int) (xs : List S33) (left : Int) (hl : xs.length ≤ maxLen) (h : ∀ x ∈ xs, x.f0.size ≤ maxLen) (h0 : 0 ≤ left) (h1 : left ≤ 1048576) :
    EvP (fun k => laws_szPost.f k a xs left) (fun r => r ≤ left ∧ (0 ≤ r → xs.length ≤ 1048576 ∧ ∀ x ∈ xs, (x.f0.size : Int) ≤ 1048576)) := by
  unfold laws_szPost.f
  refine EvP.bind (szLegS_ev xs left hl h h0 h1) ?_
  rintro r ⟨hr, hb⟩
  exact EvP.split (fun hn => EvP.now ⟨by omega, by omega⟩) (fun hp => EvP.now ⟨hr, hb⟩)
theorem toPost_ev (a : Int) (xs : List S33) (hx : xs.length ≤ 1048576) : EvP (fun k => laws_toPost.f k a xs) (· = (a, xs.map legOf)) := by
  unfold laws_toPost.f
  refine EvP.bind (toLegS_ev xs hx) ?_
  rintro _ rfl
  exact EvP.now rfl
def postSameB (a : Int) (xs : List S36) (b : Int) (ys : List S36) : Bool := decide (a = b ∧ xs.map legKey = ys.map legKey)
theorem eqPost_ev (a : Int) (xs : List S36) (b : Int) (ys : List S36) (hx : xs.length ≤ 1048576) : EvP (fun k => laws_eqPost.f k a xs b ys) (· = postSameB a xs b ys) := by
  unfold laws_eqPost.f postSameB
  refine EvP.split (fun h => EvP.bind (eqLegS_ev xs ys hx) ?_) (fun h => EvP.now (by simp [h]))
  rintro _ rfl
  by_cases c : xs.map legKey = ys.map legKey
  · exact EvP.pos (by simp [c]) (EvP.now (by simp [h, c]))
  · exact EvP.neg (by simp [c]) (EvP.now (by simp [c]))

/-! ### PostSame -/
theorem legNe (x y : S36) : (!((x.f0.toList) == (y.f0.toList)) || (!((x.f1) == (y.f1)) || (!((x.f2) == (y.f2))))) = !decide (legKey x = legKey y) := by
  unfold legKey
  by_cases c1 : x.f0.toList = y.f0.toList <;> by_cases c2 : x.f1 = y.f1 <;> by_cases c3 : x.f2 = y.f2 <;> simp [c1, c2, c3]
theorem spec_PostSame_l0 (a b : Int) (xs ys : List S36) (hx : xs.length ≤ 1048576) : ∀ (r r' pre pre' : List S36), xs = pre ++ r → ys = pre' ++ r' → pre.length = pre'.length → r.length = r'.length →
    EvP (fun k => spec_PostSame.l0 k (pre.length : Int) a xs b ys) (· = decide (r.map legKey = r'.map legKey)) := by
  intro r
  induction r with
  | nil =>
    intro r' pre pre' e e' hl hr
    obtain rfl : r' = [] := List.eq_nil_of_length_eq_zero (by simpa using hr.symm)
    exact EvP.step (fun k => by rw [spec_PostSame.l0]) (EvP.neg (by simp [e]) (EvP.now (by simp)))
  | cons x r ih =>
    intro r' pre pre' e e' hl hr
    cases r' with
    | nil => simp at hr
    | cons y r' =>
      have h1 : xs.length = pre.length + (r.length + 1) := by rw [e]; simp
      have h2 : ys.length = pre'.length + (r'.length + 1) := by rw [e']; simp
      refine EvP.step (fun k => by rw [spec_PostSame.l0]) (EvP.pos (by omega) (EvP.pos (by omega) (EvP.pos (by simp at hr; omega) ?_)))
      have hrx : rd_T36 xs (pre.length : Int) = x := by rw [e]; exact rd_mid36 pre r x
      have hry : rd_T36 ys (pre.length : Int) = y := by rw [e', hl]; exact rd_mid36 pre' r' y
      rw [hrx, hry, legNe]
      have e2 : wrap64 ((pre.length : Int) + 1) = ((pre ++ [x]).length : Int) := by rw [w64 (by omega) (by omega)]; simp
      have step := ih r' (pre ++ [x]) (pre' ++ [y]) (by rw [e]; simp) (by rw [e']; simp) (by simp [hl]) (by simpa using hr)
      rw [← e2] at step
      by_cases c : legKey x = legKey y
      · refine EvP.neg (by simp [c]) (step.mono ?_)
        rintro _ rfl
        simp [c]
      · exact EvP.pos (by simp [c]) (EvP.now (by simp [c]))
theorem spec_PostSame_ev (a : Int) (xs : List S36) (b : Int) (ys : List S36) (hx : xs.length ≤ 1048576) : EvP (fun k => spec_PostSame.f k a xs b ys) (· = postSameB a xs b ys) := by
  unfold spec_PostSame.f postSameB
  refine EvP.split (fun h => ?_) (fun h => ?_)
  · refine EvP.step (fun k => by rw [spec_PostSame.j0]) (EvP.split (fun hn => EvP.now ?_) (fun he => ?_))
    · have : xs.map legKey ≠ ys.map legKey := fun he => by have := congrArg List.length he; simp at this; simp [this] at hn
      simp [this]
    · have hl : xs.length = ys.length := by simp at he; omega
      refine (spec_PostSame_l0 a b xs ys hx xs ys [] [] rfl rfl rfl hl).mono ?_
      rintro _ rfl
      simp [h]
  · exact EvP.step (fun k => by rw [spec_PostSame.j0]) (EvP.pos rfl (EvP.now (by simp [h])))
theorem impl_PostSame_l0 (b : Int) (xs ys : List S36) (hx : xs.length ≤ 1048576) : ∀ (r r' pre pre' : List S36), xs = pre ++ r → ys = pre' ++ r' → pre.length = pre'.length → r.length = r'.length →
    EvP (fun k => impl_PostSame.l0 k xs (xs.length : Int) (pre.length : Int) b ys) (· = decide (r.map legKey = r'.map legKey)) := by
  intro r
  induction r with
  | nil =>
    intro r' pre pre' e e' hl hr
    obtain rfl : r' = [] := List.eq_nil_of_length_eq_zero (by simpa using hr.symm)
    exact EvP.step (fun k => by rw [impl_PostSame.l0]) (EvP.neg (by simp [e]) (EvP.now (by simp)))
  | cons x r ih =>
    intro r' pre pre' e e' hl hr
    cases r' with
    | nil => simp at hr
    | cons y r' =>
      have h1 : xs.length = pre.length + (r.length + 1) := by rw [e]; simp
      have h2 : ys.length = pre'.length + (r'.length + 1) := by rw [e']; simp
      refine EvP.step (fun k => by rw [impl_PostSame.l0]) (EvP.pos (by omega) (EvP.pos (by omega) (EvP.pos (by omega) (EvP.pos (by simp at hr; omega) ?_))))
      have hrx : rd_T36 xs (pre.length : Int) = x := by rw [e]; exact rd_mid36 pre r x
      have hry : rd_T36 ys (pre.length : Int) = y := by rw [e', hl]; exact rd_mid36 pre' r' y
      rw [hrx, hry, legNe]
      have e2 : wrap64 ((pre.length : Int) + 1) = ((pre ++ [x]).length : Int) := by rw [w64 (by omega) (by omega)]; simp
      have step := ih r' (pre ++ [x]) (pre' ++ [y]) (by rw [e]; simp) (by rw [e']; simp) (by simp [hl]) (by simpa using hr)
      rw [← e2] at step
      by_cases c : legKey x = legKey y
      · refine EvP.neg (by simp [c]) (step.mono ?_)
        rintro _ rfl
        simp [c]
      · exact EvP.pos (by simp [c]) (EvP.now (by simp [c]))
theorem impl_PostSame_ev (a : Int) (xs : List S36) (b : Int) (ys : List S36) (hx : xs.length ≤ 1048576) : EvP (fun k => impl_PostSame.f k a xs b ys) (· = postSameB a xs b ys) := by
  unfold impl_PostSame.f postSameB
  refine EvP.split (fun h => ?_) (fun h => ?_)
  · refine EvP.step (fun k => by rw [impl_PostSame.j0]) (EvP.split (fun hn => EvP.now ?_) (fun he => ?_))
    · have : xs.map legKey ≠ ys.map legKey := fun he => by have := congrArg List.length he; simp at this; simp [this] at hn
      simp [this]
    · have hl : xs.length = ys.length := by simp at he; omega
      refine (impl_PostSame_l0 b xs ys hx xs ys [] [] rfl rfl rfl hl).mono ?_
      rintro _ rfl
      simp [h]
  · exact EvP.step (fun k => by rw [impl_PostSame.j0]) (EvP.pos rfl (EvP.now (by simp [h])))

theorem postSame_refl (a : Int) (xs : List S36) : postSameB a xs a xs = true := by simp [postSameB]
theorem FnExactPostSame (a0_0 : Int) (l0_1 : List S33) (a1_0 : Int) (l1_1 : List S33)
    (g0 : (Lit.int .i64 a0_0).wf = true ∧ l0_1.length ≤ maxLen ∧ ∀ x ∈ l0_1, x.f0.size ≤ maxLen ∧ (Lit.int .i64 x.f1).wf = true ∧ (Lit.int .i64 x.f2).wf = true)
    (g1 : (Lit.int .i64 a1_0).wf = true ∧ l1_1.length ≤ maxLen ∧ ∀ x ∈ l1_1, x.f0.size ≤ maxLen ∧ (Lit.int .i64 x.f1).wf = true ∧ (Lit.int .i64 x.f2).wf = true) :
    ∃ k, laws_FnExactPostSame.f k a0_0 l0_1 a1_0 l1_1 = some true := by
  refine EvP.done ?_
  unfold laws_FnExactPostSame.f
  refine EvP.bind (szPost_ev a0_0 l0_1 1048576 g0.2.1 (fun x hx => (g0.2.2 x hx).1) (by omega) (by omega)) ?_
  rintro r ⟨hr, hb⟩
  refine EvP.split (fun _ => EvP.now rfl) (fun hp => ?_)
  refine EvP.bind (szPost_ev a1_0 l1_1 r g1.2.1 (fun x hx => (g1.2.2 x hx).1) (by omega) (by omega)) ?_
  rintro q ⟨hq, hc⟩
  refine EvP.split (fun _ => EvP.now rfl) (fun hp' => ?_)
  have n0 := (hb (by omega)).1
  have n1 := (hc (by omega)).1
  refine EvP.bind (toPost_ev a0_0 l0_1 n0) ?_
  rintro _ rfl
  refine EvP.bind (toPost_ev a1_0 l1_1 n1) ?_
  rintro _ rfl
  refine EvP.bind (spec_PostSame_ev _ _ _ _ (by simpa using n0)) ?_
  rintro _ rfl
  refine EvP.bind (toPost_ev a0_0 l0_1 n0) ?_
  rintro _ rfl
  refine EvP.bind (toPost_ev a1_0 l1_1 n1) ?_
  rintro _ rfl
  refine EvP.bind (impl_PostSame_ev _ _ _ _ (by simpa using n0)) ?_
  rintro _ rfl
  refine EvP.neg (by simp) ?_
  refine EvP.bind (toPost_ev a0_0 l0_1 n0) ?_
  rintro _ rfl
  refine EvP.bind (eqPost_ev _ _ _ _ (by simpa using n0)) ?_
  rintro _ rfl
  refine EvP.pos (postSame_refl _ _) ?_
  refine EvP.bind (toPost_ev a1_0 l1_1 n1) ?_
  rintro _ rfl
  refine EvP.bind (eqPost_ev _ _ _ _ (by simpa using n1)) ?_
  rintro _ rfl
  exact EvP.pos (postSame_refl _ _) (EvP.now rfl)


end Go.Proofs.Ytoijegeioafbiaa.Pure
