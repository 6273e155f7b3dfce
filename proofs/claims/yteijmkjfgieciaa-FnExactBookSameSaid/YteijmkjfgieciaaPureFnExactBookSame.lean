/- The book's sameness is the reference's. -/
import Derived.Test.YteijmkjfgieciaaQFnExactBookSamex6
import Derived.Test.YteijmkjfgieciaaBBase
set_option linter.unusedVariables false
set_option linter.unusedSimpArgs false
namespace Go.Proofs.Yteijmkjfgieciaa.Pure
open Go.RowKit Go.Proofs.Yteijmkjfgieciaa.QFnExactBookSame Go.Proofs.YteijmkjfgieciaaW.PrintWords Go.Proofs.YteijmkjfgieciaaW.PrintLast Go.Proofs.YteijmkjfgieciaaW.PrintMore Go.Proofs.Yteijmkjfgieciaa.B

theorem szLeg_ev (a0 : ByteArray) (a1 a2 left : Int) (h0 : a0.size ≤ maxLen) (hl : 0 ≤ left) (hl' : left ≤ 1048576) :
    ∃ r, laws_szLeg.f a0 a1 a2 left = some r ∧ r ≤ left ∧ (0 ≤ r → (a0.size : Int) ≤ left) := by
  unfold maxLen at h0
  unfold laws_szLeg.f
  rw [w64 (x := left - (a0.size : Int)) (by omega) (by omega)]
  split
  · exact ⟨-1, rfl, by omega, by omega⟩
  · exact ⟨_, rfl, by omega, by omega⟩

/-! ### Legs: sizes, copies, sameness -/
theorem rd_mid33 (pre rest : List S116) (x : S116) : rd_T116 (pre ++ x :: rest) (pre.length : Int) = x := by simp [rd_T116]
theorem rd_mid36 (pre rest : List S77) (x : S77) : rd_T77 (pre ++ x :: rest) (pre.length : Int) = x := by simp [rd_T77]
def legOf (x : S116) : S77 := ⟨x.f0, x.f1, x.f2⟩
def legKey (x : S77) : List UInt8 × Int × Int := (x.f0.toList, x.f1, x.f2)
theorem szLegS_l0 (xs : List S116) (hx : xs.length ≤ 1048576) (h : ∀ x ∈ xs, x.f0.size ≤ maxLen) : ∀ (rest pre : List S116) (left : Int), xs = pre ++ rest → 0 ≤ left → left ≤ 1048576 →
    EvP (fun k => laws_szLegS.l0 k xs left (pre.length : Int)) (fun r => r ≤ left ∧ (0 ≤ r → ∀ x ∈ rest, (x.f0.size : Int) ≤ 1048576)) := by
  intro rest
  induction rest with
  | nil =>
    intro pre left e h0 h1
    refine EvP.step (fun k => by rw [laws_szLegS.l0]) (EvP.neg (by simp [e]) (EvP.now ⟨Int.le_refl _, by simp⟩))
  | cons x rest ih =>
    intro pre left e h0 h1
    have hl : xs.length = pre.length + (rest.length + 1) := by rw [e]; simp
    refine EvP.step (fun k => by rw [laws_szLegS.l0]) (EvP.pos (by omega) (EvP.pos (by omega) ?_))
    have hr : rd_T116 xs (pre.length : Int) = x := by rw [e]; exact rd_mid33 pre rest x
    rw [hr]
    obtain ⟨r, hr, hle, hb⟩ := szLeg_ev x.f0 x.f1 x.f2 left (h x (by rw [e]; simp)) h0 h1
    simp only [hr, Option.bind_some]
    refine EvP.split (fun hneg => EvP.now ⟨by omega, fun hh => by omega⟩) (fun hpos => ?_)
    have e2 : wrap64 ((pre.length : Int) + 1) = ((pre ++ [x]).length : Int) := by rw [w64 (by omega) (by omega)]; simp
    rw [e2]
    refine (ih (pre ++ [x]) r (by rw [e]; simp) (by omega) (by omega)).mono ?_
    rintro a ⟨ha, hb'⟩
    refine ⟨by omega, fun hh y hy => ?_⟩
    rcases List.mem_cons.1 hy with rfl | hy
    · have := hb (by omega); omega
    · exact hb' hh y hy
theorem szLegS_ev (xs : List S116) (left : Int) (hl : xs.length ≤ maxLen) (h : ∀ x ∈ xs, x.f0.size ≤ maxLen) (h0 : 0 ≤ left) (h1 : left ≤ 1048576) :
    EvP (fun k => laws_szLegS.f k xs left) (fun r => r ≤ left ∧ (0 ≤ r → xs.length ≤ 1048576 ∧ ∀ x ∈ xs, (x.f0.size : Int) ≤ 1048576)) := by
  unfold laws_szLegS.f
  unfold maxLen at hl
  rw [w64 (by omega) (by omega)]
  refine EvP.split (fun hn => EvP.now ⟨by omega, fun hh => by omega⟩) (fun hp => ?_)
  refine (szLegS_l0 xs (by omega) h xs [] _ rfl (by omega) (by omega)).mono ?_
  rintro r ⟨ha, hb⟩
  exact ⟨by omega, fun hh => ⟨by omega, hb hh⟩⟩
theorem toLegS_l0 (xs : List S116) (hx : xs.length ≤ 1048576) : ∀ (rest pre : List S116), xs = pre ++ rest →
    EvP (fun k => laws_toLegS.l0 k xs (pre.map legOf ++ List.replicate rest.length z77) (pre.length : Int)) (· = xs.map legOf) := by
  intro rest
  induction rest with
  | nil =>
    intro pre e
    refine EvP.step (fun k => by rw [laws_toLegS.l0]) (EvP.neg (by simp [e]) (EvP.now ?_))
    simp [e]
  | cons x rest ih =>
    intro pre e
    have hl : xs.length = pre.length + (rest.length + 1) := by rw [e]; simp
    refine EvP.step (fun k => by rw [laws_toLegS.l0]) (EvP.pos (by omega) (EvP.pos (by omega) ?_))
    have hr : rd_T116 xs (pre.length : Int) = x := by rw [e]; exact rd_mid33 pre rest x
    rw [hr]
    simp only [laws_toLeg.f, Option.bind_some]
    refine EvP.pos (by simp; omega) ?_
    have e2 : wrap64 ((pre.length : Int) + 1) = ((pre ++ [x]).length : Int) := by rw [w64 (by omega) (by omega)]; simp
    rw [e2]
    have e3 : (pre.map legOf ++ List.replicate (x :: rest).length z77).set ((pre.length : Int)).toNat (⟨x.f0, x.f1, x.f2⟩ : S77) = (pre ++ [x]).map legOf ++ List.replicate rest.length z77 := by
      simp [List.replicate_succ, legOf]
    rw [e3]
    exact ih (pre ++ [x]) (by rw [e]; simp)
theorem toLegS_ev (xs : List S116) (hx : xs.length ≤ 1048576) : EvP (fun k => laws_toLegS.f k xs) (· = xs.map legOf) := by
  unfold laws_toLegS.f
  refine EvP.pos (by omega) (EvP.pos (by omega) ?_)
  have := toLegS_l0 xs hx xs [] rfl
  simpa using this
theorem eqLegS_l0 (xs ys : List S77) (hx : xs.length ≤ 1048576) : ∀ (r r' pre pre' : List S77), xs = pre ++ r → ys = pre' ++ r' → pre.length = pre'.length → r.length = r'.length →
    EvP (fun k => laws_eqLegS.l0 k xs ys (pre.length : Int)) (· = decide (r.map legKey = r'.map legKey)) := by
  intro r
  induction r with
  | nil =>
    intro r' pre pre' e e' hl hr
    obtain rfl : r' = [] := List.eq_nil_of_length_eq_zero (by simpa using hr.symm)
    exact EvP.step (fun k => by rw [laws_eqLegS.l0]) (EvP.neg (by simp [e]) (EvP.now (by simp)))
  | cons x r ih =>
    intro r' pre pre' e e' hl hr
    cases r' with
    | nil => simp at hr
    | cons y r' =>
      have h1 : xs.length = pre.length + (r.length + 1) := by rw [e]; simp
      have h2 : ys.length = pre'.length + (r'.length + 1) := by rw [e']; simp
      refine EvP.step (fun k => by rw [laws_eqLegS.l0]) (EvP.pos (by omega) (EvP.pos (by omega) (EvP.pos (by simp at hr; omega) ?_)))
      have hrx : rd_T77 xs (pre.length : Int) = x := by rw [e]; exact rd_mid36 pre r x
      have hry : rd_T77 ys (pre.length : Int) = y := by rw [e', hl]; exact rd_mid36 pre' r' y
      rw [hrx, hry]
      have e2 : wrap64 ((pre.length : Int) + 1) = ((pre ++ [x]).length : Int) := by rw [w64 (by omega) (by omega)]; simp
      have step := ih r' (pre ++ [x]) (pre' ++ [y]) (by rw [e]; simp) (by rw [e']; simp) (by simp [hl]) (by simpa using hr)
      rw [← e2] at step
      have hk : laws_eqLeg.f x.f0 x.f1 x.f2 y.f0 y.f1 y.f2 = some (decide (legKey x = legKey y)) := by
        unfold laws_eqLeg.f legKey
        by_cases c1 : x.f0.toList = y.f0.toList <;> by_cases c2 : x.f1 = y.f1 <;> by_cases c3 : x.f2 = y.f2 <;> simp [c1, c2, c3]
      simp only [hk, Option.bind_some]
      by_cases c : legKey x = legKey y
      · refine EvP.pos (by simp [c]) (step.mono ?_)
        rintro _ rfl
        simp [c]
      · exact EvP.neg (by simp [c]) (EvP.now (by simp [c]))
theorem eqLegS_ev (xs ys : List S77) (hx : xs.length ≤ 1048576) : EvP (fun k => laws_eqLegS.f k xs ys) (· = decide (xs.map legKey = ys.map legKey)) := by
  unfold laws_eqLegS.f
  refine EvP.split (fun h => ?_) (fun h => EvP.now ?_)
  · exact eqLegS_l0 xs ys hx xs ys [] [] rfl rfl rfl (by omega)
  · have : xs.map legKey ≠ ys.map legKey := fun he => h (by have := congrArg List.length he; simp at this; omega)
    simp [this]
/-! ### A posting: size, copy, sameness -/
theorem szPost_ev (a : Int) (xs : List S116) (left : Int) (hl : xs.length ≤ maxLen) (h : ∀ x ∈ xs, x.f0.size ≤ maxLen) (h0 : 0 ≤ left) (h1 : left ≤ 1048576) :
    EvP (fun k => laws_szPost.f k a xs left) (fun r => r ≤ left ∧ (0 ≤ r → xs.length ≤ 1048576 ∧ ∀ x ∈ xs, (x.f0.size : Int) ≤ 1048576)) := by
  unfold laws_szPost.f
  refine EvP.bind (szLegS_ev xs left hl h h0 h1) ?_
  rintro r ⟨hr, hb⟩
  exact EvP.split (fun hn => EvP.now ⟨by omega, by omega⟩) (fun hp => EvP.now ⟨hr, hb⟩)
theorem toPost_ev (a : Int) (xs : List S116) (hx : xs.length ≤ 1048576) : EvP (fun k => laws_toPost.f k a xs) (· = (a, xs.map legOf)) := by
  unfold laws_toPost.f
  refine EvP.bind (toLegS_ev xs hx) ?_
  rintro _ rfl
  exact EvP.now rfl
def postSameB (a : Int) (xs : List S77) (b : Int) (ys : List S77) : Bool := decide (a = b ∧ xs.map legKey = ys.map legKey)
theorem eqPost_ev (a : Int) (xs : List S77) (b : Int) (ys : List S77) (hx : xs.length ≤ 1048576) : EvP (fun k => laws_eqPost.f k a xs b ys) (· = postSameB a xs b ys) := by
  unfold laws_eqPost.f postSameB
  refine EvP.split (fun h => EvP.bind (eqLegS_ev xs ys hx) ?_) (fun h => EvP.now (by simp [h]))
  rintro _ rfl
  by_cases c : xs.map legKey = ys.map legKey
  · exact EvP.pos (by simp [c]) (EvP.now (by simp [h, c]))
  · exact EvP.neg (by simp [c]) (EvP.now (by simp [c]))

/-! ### PostSame -/
theorem legNe (x y : S77) : (!((x.f0.toList) == (y.f0.toList)) || (!((x.f1) == (y.f1)) || (!((x.f2) == (y.f2))))) = !decide (legKey x = legKey y) := by
  unfold legKey
  by_cases c1 : x.f0.toList = y.f0.toList <;> by_cases c2 : x.f1 = y.f1 <;> by_cases c3 : x.f2 = y.f2 <;> simp [c1, c2, c3]
theorem spec_PostSame_l0 (a b : Int) (xs ys : List S77) (hx : xs.length ≤ 1048576) : ∀ (r r' pre pre' : List S77), xs = pre ++ r → ys = pre' ++ r' → pre.length = pre'.length → r.length = r'.length →
    EvP (fun k => spec_PostSame.l0 k (pre.length : Int) a xs b ys) (· = decide (r.map legKey = r'.map legKey)) := by
  intro r
  induction r with
  | nil =>
    intro r' pre pre' e e' hl hr
    obtain rfl : r' = [] := List.eq_nil_of_length_eq_zero (by simpa using hr.symm)
    exact EvP.step (fun k => by rw [spec_PostSame.l0]) (EvP.neg (by simp [e]) (EvP.now (by simp)))
  | cons x r ih =>
    intro r' pre pre' e e' hl hr
    cases r' with
    | nil => simp at hr
    | cons y r' =>
      have h1 : xs.length = pre.length + (r.length + 1) := by rw [e]; simp
      have h2 : ys.length = pre'.length + (r'.length + 1) := by rw [e']; simp
      refine EvP.step (fun k => by rw [spec_PostSame.l0]) (EvP.pos (by omega) (EvP.pos (by omega) (EvP.pos (by simp at hr; omega) ?_)))
      have hrx : rd_T77 xs (pre.length : Int) = x := by rw [e]; exact rd_mid36 pre r x
      have hry : rd_T77 ys (pre.length : Int) = y := by rw [e', hl]; exact rd_mid36 pre' r' y
      rw [hrx, hry, legNe]
      have e2 : wrap64 ((pre.length : Int) + 1) = ((pre ++ [x]).length : Int) := by rw [w64 (by omega) (by omega)]; simp
      have step := ih r' (pre ++ [x]) (pre' ++ [y]) (by rw [e]; simp) (by rw [e']; simp) (by simp [hl]) (by simpa using hr)
      rw [← e2] at step
      by_cases c : legKey x = legKey y
      · refine EvP.neg (by simp [c]) (step.mono ?_)
        rintro _ rfl
        simp [c]
      · exact EvP.pos (by simp [c]) (EvP.now (by simp [c]))
theorem spec_PostSame_ev (a : Int) (xs : List S77) (b : Int) (ys : List S77) (hx : xs.length ≤ 1048576) : EvP (fun k => spec_PostSame.f k a xs b ys) (· = postSameB a xs b ys) := by
  unfold spec_PostSame.f postSameB
  refine EvP.split (fun h => ?_) (fun h => ?_)
  · refine EvP.step (fun k => by rw [spec_PostSame.j0]) (EvP.split (fun hn => EvP.now ?_) (fun he => ?_))
    · have : xs.map legKey ≠ ys.map legKey := fun he => by have := congrArg List.length he; simp at this; simp [this] at hn
      simp [this]
    · have hl : xs.length = ys.length := by simp at he; omega
      refine (spec_PostSame_l0 a b xs ys hx xs ys [] [] rfl rfl rfl hl).mono ?_
      rintro _ rfl
      simp [h]
  · exact EvP.step (fun k => by rw [spec_PostSame.j0]) (EvP.pos rfl (EvP.now (by simp [h])))
theorem impl_PostSame_l0 (b : Int) (xs ys : List S77) (hx : xs.length ≤ 1048576) : ∀ (r r' pre pre' : List S77), xs = pre ++ r → ys = pre' ++ r' → pre.length = pre'.length → r.length = r'.length →
    EvP (fun k => impl_PostSame.l0 k xs (xs.length : Int) (pre.length : Int) b ys) (· = decide (r.map legKey = r'.map legKey)) := by
  intro r
  induction r with
  | nil =>
    intro r' pre pre' e e' hl hr
    obtain rfl : r' = [] := List.eq_nil_of_length_eq_zero (by simpa using hr.symm)
    exact EvP.step (fun k => by rw [impl_PostSame.l0]) (EvP.neg (by simp [e]) (EvP.now (by simp)))
  | cons x r ih =>
    intro r' pre pre' e e' hl hr
    cases r' with
    | nil => simp at hr
    | cons y r' =>
      have h1 : xs.length = pre.length + (r.length + 1) := by rw [e]; simp
      have h2 : ys.length = pre'.length + (r'.length + 1) := by rw [e']; simp
      refine EvP.step (fun k => by rw [impl_PostSame.l0]) (EvP.pos (by omega) (EvP.pos (by omega) (EvP.pos (by omega) (EvP.pos (by simp at hr; omega) ?_))))
      have hrx : rd_T77 xs (pre.length : Int) = x := by rw [e]; exact rd_mid36 pre r x
      have hry : rd_T77 ys (pre.length : Int) = y := by rw [e', hl]; exact rd_mid36 pre' r' y
      rw [hrx, hry, legNe]
      have e2 : wrap64 ((pre.length : Int) + 1) = ((pre ++ [x]).length : Int) := by rw [w64 (by omega) (by omega)]; simp
      have step := ih r' (pre ++ [x]) (pre' ++ [y]) (by rw [e]; simp) (by rw [e']; simp) (by simp [hl]) (by simpa using hr)
      rw [← e2] at step
      by_cases c : legKey x = legKey y
      · refine EvP.neg (by simp [c]) (step.mono ?_)
        rintro _ rfl
        simp [c]
      · exact EvP.pos (by simp [c]) (EvP.now (by simp [c]))
theorem impl_PostSame_ev (a : Int) (xs : List S77) (b : Int) (ys : List S77) (hx : xs.length ≤ 1048576) : EvP (fun k => impl_PostSame.f k a xs b ys) (· = postSameB a xs b ys) := by
  unfold impl_PostSame.f postSameB
  refine EvP.split (fun h => ?_) (fun h => ?_)
  · refine EvP.step (fun k => by rw [impl_PostSame.j0]) (EvP.split (fun hn => EvP.now ?_) (fun he => ?_))
    · have : xs.map legKey ≠ ys.map legKey := fun he => by have := congrArg List.length he; simp at this; simp [this] at hn
      simp [this]
    · have hl : xs.length = ys.length := by simp at he; omega
      refine (impl_PostSame_l0 b xs ys hx xs ys [] [] rfl rfl rfl hl).mono ?_
      rintro _ rfl
      simp [h]
  · exact EvP.step (fun k => by rw [impl_PostSame.j0]) (EvP.pos rfl (EvP.now (by simp [h])))

/-! ### Books: sizes, copies, sameness -/
def SmallP (p : S62) : Prop := p.f1.length ≤ 1048576 ∧ ∀ x ∈ p.f1, (x.f0.size : Int) ≤ 1048576
theorem rd_midLP (pre rest : List S62) (x : S62) : rd_T62 (pre ++ x :: rest) (pre.length : Int) = x := by simp [rd_T62]
theorem rd_midIP (pre rest : List S52) (x : S52) : rd_T52 (pre ++ x :: rest) (pre.length : Int) = x := by simp [rd_T52]
def postOf (p : S62) : S52 := ⟨p.f0, p.f1.map legOf⟩
def postKey (p : S52) : Int × List (List UInt8 × Int × Int) := (p.f0, p.f1.map legKey)
theorem szPostS_l0 (xs : List S62) (hx : xs.length ≤ 1048576) (h : ∀ p ∈ xs, p.f1.length ≤ maxLen ∧ ∀ x ∈ p.f1, x.f0.size ≤ maxLen) : ∀ (rest pre : List S62) (left : Int), xs = pre ++ rest → 0 ≤ left → left ≤ 1048576 →
    EvP (fun k => laws_szPostS.l0 k xs left (pre.length : Int)) (fun r => r ≤ left ∧ (0 ≤ r → ∀ p ∈ rest, SmallP p)) := by
  intro rest
  induction rest with
  | nil =>
    intro pre left e h0 h1
    refine EvP.step (fun k => by rw [laws_szPostS.l0]) (EvP.neg (by simp [e]) (EvP.now ⟨Int.le_refl _, by simp⟩))
  | cons x rest ih =>
    intro pre left e h0 h1
    have hl : xs.length = pre.length + (rest.length + 1) := by rw [e]; simp
    refine EvP.step (fun k => by rw [laws_szPostS.l0]) (EvP.pos (by omega) (EvP.pos (by omega) ?_))
    have hr : rd_T62 xs (pre.length : Int) = x := by rw [e]; exact rd_midLP pre rest x
    rw [hr]
    have hxm := h x (by rw [e]; simp)
    refine EvP.bind (szPost_ev x.f0 x.f1 left hxm.1 hxm.2 h0 h1) ?_
    rintro r ⟨hle, hb⟩
    refine EvP.split (fun hneg => EvP.now ⟨by omega, fun hh => by omega⟩) (fun hpos => ?_)
    have e2 : wrap64 ((pre.length : Int) + 1) = ((pre ++ [x]).length : Int) := by rw [w64 (by omega) (by omega)]; simp
    rw [e2]
    refine (ih (pre ++ [x]) r (by rw [e]; simp) (by omega) (by omega)).mono ?_
    rintro a ⟨ha, hb'⟩
    refine ⟨by omega, fun hh y hy => ?_⟩
    rcases List.mem_cons.1 hy with rfl | hy
    · exact hb (by omega)
    · exact hb' hh y hy
theorem szPostS_ev (xs : List S62) (left : Int) (hl : xs.length ≤ maxLen) (h : ∀ p ∈ xs, p.f1.length ≤ maxLen ∧ ∀ x ∈ p.f1, x.f0.size ≤ maxLen) (h0 : 0 ≤ left) (h1 : left ≤ 1048576) :
    EvP (fun k => laws_szPostS.f k xs left) (fun r => r ≤ left ∧ (0 ≤ r → xs.length ≤ 1048576 ∧ ∀ p ∈ xs, SmallP p)) := by
  unfold laws_szPostS.f
  unfold maxLen at hl
  rw [w64 (by omega) (by omega)]
  refine EvP.split (fun hn => EvP.now ⟨by omega, fun hh => by omega⟩) (fun hp => ?_)
  refine (szPostS_l0 xs (by omega) h xs [] _ rfl (by omega) (by omega)).mono ?_
  rintro r ⟨ha, hb⟩
  exact ⟨by omega, fun hh => ⟨by omega, hb hh⟩⟩
theorem toPostS_l0 (xs : List S62) (hx : xs.length ≤ 1048576) (h : ∀ p ∈ xs, SmallP p) : ∀ (rest pre : List S62), xs = pre ++ rest →
    EvP (fun k => laws_toPostS.l0 k xs (pre.map postOf ++ List.replicate rest.length z52) (pre.length : Int)) (· = xs.map postOf) := by
  intro rest
  induction rest with
  | nil =>
    intro pre e
    refine EvP.step (fun k => by rw [laws_toPostS.l0]) (EvP.neg (by simp [e]) (EvP.now ?_))
    simp [e]
  | cons x rest ih =>
    intro pre e
    have hl : xs.length = pre.length + (rest.length + 1) := by rw [e]; simp
    refine EvP.step (fun k => by rw [laws_toPostS.l0]) (EvP.pos (by omega) (EvP.pos (by omega) ?_))
    have hr : rd_T62 xs (pre.length : Int) = x := by rw [e]; exact rd_midLP pre rest x
    rw [hr]
    refine EvP.bind (toPost_ev x.f0 x.f1 (h x (by rw [e]; simp)).1) ?_
    rintro _ rfl
    refine EvP.pos (by simp; omega) ?_
    have e2 : wrap64 ((pre.length : Int) + 1) = ((pre ++ [x]).length : Int) := by rw [w64 (by omega) (by omega)]; simp
    rw [e2]
    have e3 : (pre.map postOf ++ List.replicate (x :: rest).length z52).set ((pre.length : Int)).toNat (⟨x.f0, x.f1.map legOf⟩ : S52) = (pre ++ [x]).map postOf ++ List.replicate rest.length z52 := by
      simp [List.replicate_succ, postOf]
    rw [e3]
    exact ih (pre ++ [x]) (by rw [e]; simp)
theorem toPostS_ev (xs : List S62) (hx : xs.length ≤ 1048576) (h : ∀ p ∈ xs, SmallP p) : EvP (fun k => laws_toPostS.f k xs) (· = xs.map postOf) := by
  unfold laws_toPostS.f
  refine EvP.pos (by omega) (EvP.pos (by omega) ?_)
  have := toPostS_l0 xs hx h xs [] rfl
  simpa using this
def ShortP (p : S52) : Prop := p.f1.length ≤ 1048576
theorem postSameB_key (x y : S52) : postSameB x.f0 x.f1 y.f0 y.f1 = decide (postKey x = postKey y) := by simp [postSameB, postKey]
def bookSameB (xs ys : List S52) : Bool := decide (xs.map postKey = ys.map postKey)
theorem bookSame_refl (xs : List S52) : bookSameB xs xs = true := by simp [bookSameB]
theorem short_of {xs : List S62} (h : ∀ p ∈ xs, SmallP p) : ∀ p ∈ xs.map postOf, ShortP p := by
  intro y hy
  obtain ⟨x, hx, rfl⟩ := List.mem_map.1 hy
  have := (h x hx).1
  simpa [ShortP, postOf] using this
theorem eqPostS_l0 (xs ys : List S52) (hx : xs.length ≤ 1048576) (hs : ∀ p ∈ xs, ShortP p) : ∀ (r r' pre pre' : List S52), xs = pre ++ r → ys = pre' ++ r' → pre.length = pre'.length → r.length = r'.length →
    EvP (fun k => laws_eqPostS.l0 k xs ys (pre.length : Int)) (· = decide (r.map postKey = r'.map postKey)) := by
  intro r
  induction r with
  | nil =>
    intro r' pre pre' e e' hl hr
    obtain rfl : r' = [] := List.eq_nil_of_length_eq_zero (by simpa using hr.symm)
    exact EvP.step (fun k => by rw [laws_eqPostS.l0]) (EvP.neg (by simp [e]) (EvP.now (by simp)))
  | cons x r ih =>
    intro r' pre pre' e e' hl hr
    cases r' with
    | nil => simp at hr
    | cons y r' =>
      have h1 : xs.length = pre.length + (r.length + 1) := by rw [e]; simp
      have h2 : ys.length = pre'.length + (r'.length + 1) := by rw [e']; simp
      refine EvP.step (fun k => by rw [laws_eqPostS.l0]) (EvP.pos (by omega) (EvP.pos (by omega) (EvP.pos (by simp at hr; omega) ?_)))
      have hrx : rd_T52 xs (pre.length : Int) = x := by rw [e]; exact rd_midIP pre r x
      have hry : rd_T52 ys (pre.length : Int) = y := by rw [e', hl]; exact rd_midIP pre' r' y
      rw [hrx, hry]
      have e2 : wrap64 ((pre.length : Int) + 1) = ((pre ++ [x]).length : Int) := by rw [w64 (by omega) (by omega)]; simp
      have step := ih r' (pre ++ [x]) (pre' ++ [y]) (by rw [e]; simp) (by rw [e']; simp) (by simp [hl]) (by simpa using hr)
      rw [← e2] at step
      refine EvP.bind (eqPost_ev x.f0 x.f1 y.f0 y.f1 (hs x (by rw [e]; simp))) ?_
      rintro _ rfl
      rw [postSameB_key]
      by_cases c : postKey x = postKey y
      · refine EvP.pos (by simp [c]) (step.mono ?_)
        rintro _ rfl
        simp [c]
      · exact EvP.neg (by simp [c]) (EvP.now (by simp [c]))
theorem eqPostS_ev (xs ys : List S52) (hx : xs.length ≤ 1048576) (hs : ∀ p ∈ xs, ShortP p) : EvP (fun k => laws_eqPostS.f k xs ys) (· = bookSameB xs ys) := by
  unfold laws_eqPostS.f bookSameB
  refine EvP.split (fun h => ?_) (fun h => EvP.now ?_)
  · exact eqPostS_l0 xs ys hx hs xs ys [] [] rfl rfl rfl (by omega)
  · have : xs.map postKey ≠ ys.map postKey := fun he => h (by have := congrArg List.length he; simp at this; omega)
    simp [this]

/-! ### BookSame -/
theorem spec_BookSame_l0 (xs ys : List S52) (hx : xs.length ≤ 1048576) (hs : ∀ p ∈ xs, ShortP p) : ∀ (r r' pre pre' : List S52), xs = pre ++ r → ys = pre' ++ r' → pre.length = pre'.length → r.length = r'.length →
    EvP (fun k => spec_BookSame.l0 k xs ys (pre.length : Int)) (· = decide (r.map postKey = r'.map postKey)) := by
  intro r
  induction r with
  | nil =>
    intro r' pre pre' e e' hl hr
    obtain rfl : r' = [] := List.eq_nil_of_length_eq_zero (by simpa using hr.symm)
    exact EvP.step (fun k => by rw [spec_BookSame.l0]) (EvP.neg (by simp [e]) (EvP.now (by simp)))
  | cons x r ih =>
    intro r' pre pre' e e' hl hr
    cases r' with
    | nil => simp at hr
    | cons y r' =>
      have h1 : xs.length = pre.length + (r.length + 1) := by rw [e]; simp
      have h2 : ys.length = pre'.length + (r'.length + 1) := by rw [e']; simp
      refine EvP.step (fun k => by rw [spec_BookSame.l0]) (EvP.pos (by omega) (EvP.pos (by omega) (EvP.pos (by simp at hr; omega) ?_)))
      have hrx : rd_T52 xs (pre.length : Int) = x := by rw [e]; exact rd_midIP pre r x
      have hry : rd_T52 ys (pre.length : Int) = y := by rw [e', hl]; exact rd_midIP pre' r' y
      rw [hrx, hry]
      have e2 : wrap64 ((pre.length : Int) + 1) = ((pre ++ [x]).length : Int) := by rw [w64 (by omega) (by omega)]; simp
      have step := ih r' (pre ++ [x]) (pre' ++ [y]) (by rw [e]; simp) (by rw [e']; simp) (by simp [hl]) (by simpa using hr)
      rw [← e2] at step
      refine EvP.bind (spec_PostSame_ev x.f0 x.f1 y.f0 y.f1 (hs x (by rw [e]; simp))) ?_
      rintro _ rfl
      rw [postSameB_key]
      by_cases c : postKey x = postKey y
      · refine EvP.pos (by simp [c]) (step.mono ?_)
        rintro _ rfl
        simp [c]
      · exact EvP.neg (by simp [c]) (EvP.now (by simp [c]))
theorem spec_BookSame_ev (xs ys : List S52) (hx : xs.length ≤ 1048576) (hs : ∀ p ∈ xs, ShortP p) : EvP (fun k => spec_BookSame.f k xs ys) (· = bookSameB xs ys) := by
  unfold spec_BookSame.f bookSameB
  refine EvP.split (fun h => ?_) (fun h => EvP.now ?_)
  · exact spec_BookSame_l0 xs ys hx hs xs ys [] [] rfl rfl rfl (by omega)
  · have : xs.map postKey ≠ ys.map postKey := fun he => h (by have := congrArg List.length he; simp at this; omega)
    simp [this]
theorem impl_Post_l0 (xs ys : List S52) (hx : xs.length ≤ 1048576) (hs : ∀ p ∈ xs, ShortP p) : ∀ (r r' pre pre' : List S52), xs = pre ++ r → ys = pre' ++ r' → pre.length = pre'.length → r.length = r'.length →
    EvP (fun k => impl_Post.l0 k ys xs (xs.length : Int) (pre.length : Int)) (· = decide (r.map postKey = r'.map postKey)) := by
  intro r
  induction r with
  | nil =>
    intro r' pre pre' e e' hl hr
    obtain rfl : r' = [] := List.eq_nil_of_length_eq_zero (by simpa using hr.symm)
    exact EvP.step (fun k => by rw [impl_Post.l0]) (EvP.neg (by simp [e]) (EvP.now (by simp)))
  | cons x r ih =>
    intro r' pre pre' e e' hl hr
    cases r' with
    | nil => simp at hr
    | cons y r' =>
      have h1 : xs.length = pre.length + (r.length + 1) := by rw [e]; simp
      have h2 : ys.length = pre'.length + (r'.length + 1) := by rw [e']; simp
      refine EvP.step (fun k => by rw [impl_Post.l0]) (EvP.pos (by omega) (EvP.pos (by omega) (EvP.pos (by omega) (EvP.pos (by simp at hr; omega) ?_))))
      have hrx : rd_T52 xs (pre.length : Int) = x := by rw [e]; exact rd_midIP pre r x
      have hry : rd_T52 ys (pre.length : Int) = y := by rw [e', hl]; exact rd_midIP pre' r' y
      rw [hrx, hry]
      have e2 : wrap64 ((pre.length : Int) + 1) = ((pre ++ [x]).length : Int) := by rw [w64 (by omega) (by omega)]; simp
      have step := ih r' (pre ++ [x]) (pre' ++ [y]) (by rw [e]; simp) (by rw [e']; simp) (by simp [hl]) (by simpa using hr)
      rw [← e2] at step
      refine EvP.bind (impl_PostSame_ev x.f0 x.f1 y.f0 y.f1 (hs x (by rw [e]; simp))) ?_
      rintro _ rfl
      rw [postSameB_key]
      by_cases c : postKey x = postKey y
      · refine EvP.pos (by simp [c]) (step.mono ?_)
        rintro _ rfl
        simp [c]
      · exact EvP.neg (by simp [c]) (EvP.now (by simp [c]))
theorem impl_Post_ev (xs ys : List S52) (n : Int) (hx : xs.length ≤ 1048576) (hs : ∀ p ∈ xs, ShortP p) : EvP (fun k => impl_Post.f k xs ys n) (· = bookSameB xs ys) := by
  unfold impl_Post.f bookSameB
  refine EvP.split (fun h => ?_) (fun h => EvP.now ?_)
  · exact impl_Post_l0 xs ys hx hs xs ys [] [] rfl rfl rfl (by omega)
  · have : xs.map postKey ≠ ys.map postKey := fun he => h (by have := congrArg List.length he; simp at this; omega)
    simp [this]
theorem impl_BookSame_ev (xs ys : List S52) (hx : xs.length ≤ 1048576) (hs : ∀ p ∈ xs, ShortP p) : EvP (fun k => impl_BookSame.f k xs ys) (· = bookSameB xs ys) := by
  unfold impl_BookSame.f
  refine EvP.bind (impl_Post_ev xs ys _ hx hs) ?_
  rintro _ rfl
  exact EvP.now rfl

theorem FnExactBookSame (l0 : List S62) (l1 : List S62)
    (g0 : l0.length ≤ maxLen ∧ ∀ x ∈ l0, (Lit.int .i64 x.f0).wf = true ∧ x.f1.length ≤ maxLen ∧ ∀ y ∈ x.f1, y.f0.size ≤ maxLen ∧ (Lit.int .i64 y.f1).wf = true ∧ (Lit.int .i64 y.f2).wf = true)
    (g1 : l1.length ≤ maxLen ∧ ∀ x ∈ l1, (Lit.int .i64 x.f0).wf = true ∧ x.f1.length ≤ maxLen ∧ ∀ y ∈ x.f1, y.f0.size ≤ maxLen ∧ (Lit.int .i64 y.f1).wf = true ∧ (Lit.int .i64 y.f2).wf = true) :
    ∃ k, laws_FnExactBookSame.f k l0 l1 = some true := by
  refine EvP.done ?_
  unfold laws_FnExactBookSame.f
  refine EvP.bind (szPostS_ev l0 1048576 g0.1 (fun p hp => ⟨(g0.2 p hp).2.1, fun x hx => ((g0.2 p hp).2.2 x hx).1⟩) (by omega) (by omega)) ?_
  rintro r ⟨hr, hb⟩
  refine EvP.split (fun _ => EvP.now rfl) (fun hp => ?_)
  refine EvP.bind (szPostS_ev l1 r g1.1 (fun p hp => ⟨(g1.2 p hp).2.1, fun x hx => ((g1.2 p hp).2.2 x hx).1⟩) (by omega) (by omega)) ?_
  rintro q ⟨hq, hc⟩
  refine EvP.split (fun _ => EvP.now rfl) (fun hp' => ?_)
  obtain ⟨n0, s0⟩ := hb (by omega)
  obtain ⟨n1, s1⟩ := hc (by omega)
  have t0 := short_of s0
  have t1 := short_of s1
  refine EvP.bind (toPostS_ev l0 n0 s0) ?_
  rintro _ rfl
  refine EvP.bind (toPostS_ev l1 n1 s1) ?_
  rintro _ rfl
  refine EvP.bind (spec_BookSame_ev _ _ (by simpa using n0) t0) ?_
  rintro _ rfl
  refine EvP.bind (toPostS_ev l0 n0 s0) ?_
  rintro _ rfl
  refine EvP.bind (toPostS_ev l1 n1 s1) ?_
  rintro _ rfl
  refine EvP.bind (impl_BookSame_ev _ _ (by simpa using n0) t0) ?_
  rintro _ rfl
  refine EvP.neg (by simp) ?_
  refine EvP.bind (toPostS_ev l0 n0 s0) ?_
  rintro _ rfl
  refine EvP.bind (eqPostS_ev _ _ (by simpa using n0) t0) ?_
  rintro _ rfl
  refine EvP.pos (bookSame_refl _) ?_
  refine EvP.bind (toPostS_ev l1 n1 s1) ?_
  rintro _ rfl
  refine EvP.bind (eqPostS_ev _ _ (by simpa using n1) t1) ?_
  rintro _ rfl
  exact EvP.pos (bookSame_refl _) (EvP.now rfl)


end Go.Proofs.Yteijmkjfgieciaa.Pure
