/- What is written of a posting is read back as it was, and what is read of a text is written as that text; no condition. -/
import Derived.Test.YtdjohhobmipagaaDoorQFnPostx13
import Derived.Test.YtdjohhobmipagaaDoorBBase
set_option linter.unusedVariables false
set_option linter.unusedSimpArgs false
namespace Go.Proofs.YtdjohhobmipagaaDoor.Pure
open Go.RowKit Go.Proofs.YtdjohhobmipagaaDoor.QFnPost Go.Proofs.YtdjohhobmipagaaDoorW.PrintWords Go.Proofs.YtdjohhobmipagaaDoorW.PrintLast Go.Proofs.YtdjohhobmipagaaDoorW.PrintMore Go.Proofs.YtdjohhobmipagaaDoor.B

/-! ### AcctOk -/
/-- d letters from place i on are all letters a to z. -/
def lettersB (s : ByteArray) : Nat → Int → Bool
  | 0, _ => true
  | d + 1, i => decide (97 ≤ bt s i) && decide (bt s i ≤ 122) && lettersB s d (i + 1)
def acctB (s : ByteArray) : Bool := decide (1 ≤ s.size) && decide (s.size ≤ 4) && lettersB s s.size 0
theorem spec_AcctOk_l0 (s : ByteArray) (hs : s.size ≤ 140737488351232) : ∀ (d : Nat) (i : Int), 0 ≤ i → i + d = s.size →
    EvP (fun k => spec_AcctOk.l0 k s i) (· = (decide (1 ≤ s.size) && decide (s.size ≤ 4) && lettersB s d i)) := by
  intro d
  induction d with
  | zero =>
    intro i h0 h
    refine EvP.step (fun k => by rw [spec_AcctOk.l0]) ?_
    refine EvP.neg (by omega) ?_
    refine EvP.split (fun h => ?_) (fun h => ?_)
    · refine EvP.now ?_
      have e1 : decide (1 ≤ s.size) = true := decide_eq_true (by omega)
      have e2 : decide ((s.size : Int) ≤ 4) = decide (s.size ≤ 4) := by rw [decide_eq_decide]; omega
      simp only [lettersB, e1, e2, Bool.true_and, Bool.and_true]
    · refine EvP.now ?_
      have e1 : decide (1 ≤ s.size) = false := decide_eq_false (by omega)
      simp only [lettersB, e1, Bool.false_and]
  | succ d ih =>
    intro i h0 h
    refine EvP.step (fun k => by rw [spec_AcctOk.l0]) ?_
    refine EvP.pos (by omega) ?_
    refine EvP.pos (by omega) ?_
    refine EvP.split (fun h1 => EvP.now ?_) (fun h1 => EvP.split (fun h2 => EvP.now ?_) (fun h2 => ?_))
    · have e1 : decide (97 ≤ bt s i) = false := decide_eq_false (by omega)
      simp [lettersB, e1]
    · have e1 : decide (bt s i ≤ 122) = false := decide_eq_false (by omega)
      simp [lettersB, e1]
    · rw [w64 (by omega) (by omega)]
      have e1 : decide (97 ≤ bt s i) = true := decide_eq_true (by omega)
      have e2 : decide (bt s i ≤ 122) = true := decide_eq_true (by omega)
      have := ih (i + 1) (by omega) (by omega)
      simp only [lettersB, e1, e2, Bool.true_and]
      exact this
theorem spec_AcctOk_ev (s : ByteArray) (hs : s.size ≤ 140737488351232) : EvP (fun k => spec_AcctOk.f k s) (· = acctB s) :=
  spec_AcctOk_l0 s hs s.size 0 (by omega) (by omega)
theorem impl_AcctOk_l0 (s : ByteArray) (hs : s.size ≤ 140737488351232) : ∀ (d : Nat) (i : Int), 0 ≤ i → i + d = s.size →
    EvP (fun k => impl_AcctOk.l0 k s (s.size : Int) i) (· = lettersB s d i) := by
  intro d
  induction d with
  | zero =>
    intro i h0 h
    refine EvP.step (fun k => by rw [impl_AcctOk.l0]) ?_
    refine EvP.neg (by omega) ?_
    exact EvP.now (by simp [lettersB])
  | succ d ih =>
    intro i h0 h
    refine EvP.step (fun k => by rw [impl_AcctOk.l0]) ?_
    refine EvP.pos (by omega) (EvP.pos (by omega) (EvP.pos (by omega) ?_))
    refine EvP.split (fun h1 => EvP.now ?_) (fun h1 => EvP.split (fun h2 => EvP.now ?_) (fun h2 => ?_))
    · have e1 : decide (97 ≤ bt s i) = false := decide_eq_false (by omega)
      simp [lettersB, e1]
    · have e1 : decide (bt s i ≤ 122) = false := decide_eq_false (by omega)
      simp [lettersB, e1]
    · rw [w64 (by omega) (by omega)]
      have e1 : decide (97 ≤ bt s i) = true := decide_eq_true (by omega)
      have e2 : decide (bt s i ≤ 122) = true := decide_eq_true (by omega)
      have := ih (i + 1) (by omega) (by omega)
      simp only [lettersB, e1, e2, Bool.true_and]
      exact this
theorem impl_AcctOk_ev (s : ByteArray) (hs : s.size ≤ 140737488351232) : EvP (fun k => impl_AcctOk.f k s) (· = acctB s) := by
  unfold impl_AcctOk.f acctB
  refine EvP.split (fun h => ?_) (fun h => ?_)
  · refine EvP.step (fun k => by rw [impl_AcctOk.j0]) (EvP.pos rfl (EvP.now ?_))
    have e1 : decide (1 ≤ s.size) = false := decide_eq_false (by omega)
    simp [e1]
  · have e1 : decide (1 ≤ s.size) = true := decide_eq_true (by omega)
    refine EvP.step (fun k => by rw [impl_AcctOk.j0]) (EvP.split (fun h1 => EvP.now ?_) (fun h1 => ?_))
    · have := of_decide_eq_true h1
      have e2 : decide (s.size ≤ 4) = false := decide_eq_false (by omega)
      simp [e2]
    · have : ¬ (s.size : Int) > 4 := fun h => h1 (decide_eq_true h)
      have e2 : decide (s.size ≤ 4) = true := decide_eq_true (by omega)
      simp only [e1, e2, Bool.true_and]
      exact impl_AcctOk_l0 s hs s.size 0 (by omega) (by omega)

/-! ### LegOk -/
def legB (a : ByteArray) (c n : Int) : Bool := acctB a && decide (1 ≤ c) && decide (c ≤ 3) && decide (-1000 ≤ n) && decide (n ≤ 1000) && (n != 0)
theorem spec_LegOk_ev (a : ByteArray) (c n : Int) (hs : a.size ≤ 140737488351232) : EvP (fun k => spec_LegOk.f k a c n) (· = legB a c n) := by
  unfold spec_LegOk.f
  refine EvP.bind (spec_AcctOk_ev a hs) ?_
  rintro _ rfl
  cases hA : acctB a
  · exact EvP.neg (by simp) (EvP.now (by simp [legB, hA]))
  · refine EvP.pos rfl ?_
    repeat' with_reducible refine EvP.split (fun _ => ?_) (fun _ => ?_)
    all_goals
      refine EvP.now ?_
      simp [legB, hA]
      try omega
theorem impl_LegOk_ev (a : ByteArray) (c n : Int) (hs : a.size ≤ 140737488351232) : EvP (fun k => impl_LegOk.f k a c n) (· = legB a c n) := by
  unfold impl_LegOk.f
  refine EvP.bind (impl_AcctOk_ev a hs) ?_
  rintro _ rfl
  cases hA : acctB a
  · exact EvP.neg (by simp) (EvP.now (by simp [legB, hA]))
  · refine EvP.pos rfl ?_
    repeat' with_reducible refine EvP.split (fun _ => ?_) (fun _ => ?_)
    all_goals
      refine EvP.now ?_
      simp [legB, hA]
      try omega

/-! ### PostOk -/
theorem rd_midL (pre rest : List S45) (x : S45) : rd_T45 (pre ++ x :: rest) (pre.length : Int) = x := by simp [rd_T45]
def legOkB (x : S45) : Bool := legB x.f0 x.f1 x.f2
def headB (id : Int) (xs : List S45) : Bool := decide (0 ≤ id) && decide (id ≤ 99) && decide (1 ≤ xs.length) && decide (xs.length ≤ 4)
def postB (id : Int) (xs : List S45) : Bool := headB id xs && xs.all legOkB
/-- Legs whose texts are no longer than texts are. -/
def Sound (xs : List S45) : Prop := ∀ x ∈ xs, x.f0.size ≤ 140737488351232
theorem spec_PostOk_l0 (id : Int) (xs : List S45) (hx : Sound xs) (h4 : xs.length ≤ 4) : ∀ (rest pre : List S45), xs = pre ++ rest → EvP (fun k => spec_PostOk.l0 k (pre.length : Int) id xs) (· = rest.all legOkB) := by
  intro rest
  induction rest with
  | nil =>
    intro pre e
    refine EvP.step (fun k => by rw [spec_PostOk.l0]) ?_
    exact EvP.neg (by simp [e]) (EvP.now rfl)
  | cons x rest ih =>
    intro pre e
    have hl : xs.length = pre.length + (rest.length + 1) := by rw [e]; simp
    refine EvP.step (fun k => by rw [spec_PostOk.l0]) (EvP.pos (by omega) (EvP.pos (by omega) ?_))
    have hr : rd_T45 xs (pre.length : Int) = x := by rw [e]; exact rd_midL pre rest x
    rw [hr]
    have e2 : wrap64 ((pre.length : Int) + 1) = ((pre ++ [x]).length : Int) := by rw [w64 (by omega) (by omega)]; simp
    refine EvP.bind (spec_LegOk_ev x.f0 x.f1 x.f2 (hx x (by rw [e]; simp))) ?_
    rintro _ rfl
    have step := ih (pre ++ [x]) (by rw [e]; simp)
    rw [e2]
    cases hb : legB x.f0 x.f1 x.f2
    · exact EvP.neg (by simp) (EvP.now (by simp [legOkB, hb]))
    · refine EvP.pos rfl (step.mono ?_)
      rintro _ rfl
      simp [legOkB, hb]
theorem spec_PostOk_ev (id : Int) (xs : List S45) (hx : Sound xs) : EvP (fun k => spec_PostOk.f k id xs) (· = postB id xs) := by
  unfold spec_PostOk.f
  refine EvP.split (fun h => ?_) (fun h1 => EvP.split (fun h => ?_) (fun h2 => EvP.split (fun h => ?_) (fun h3 => ?_)))
  · refine EvP.step (fun k => by rw [spec_PostOk.j0]) (EvP.pos rfl (EvP.now ?_))
    have e : decide (0 ≤ id) = false := decide_eq_false (by omega)
    simp [postB, headB, e]
  · refine EvP.step (fun k => by rw [spec_PostOk.j0]) (EvP.pos rfl (EvP.now ?_))
    have e : decide (id ≤ 99) = false := decide_eq_false (by omega)
    simp [postB, headB, e]
  · refine EvP.step (fun k => by rw [spec_PostOk.j0]) (EvP.pos rfl (EvP.now ?_))
    have e : decide (1 ≤ xs.length) = false := decide_eq_false (by omega)
    simp [postB, headB, e]
  · refine EvP.step (fun k => by rw [spec_PostOk.j0]) (EvP.split (fun h => EvP.now ?_) (fun h => ?_))
    · have := of_decide_eq_true h
      have e : decide (xs.length ≤ 4) = false := decide_eq_false (by omega)
      simp [postB, headB, e]
    · have h4 : ¬ (xs.length : Int) > 4 := fun g => h (decide_eq_true g)
      have e1 : decide (0 ≤ id) = true := decide_eq_true (by omega)
      have e2 : decide (id ≤ 99) = true := decide_eq_true (by omega)
      have e3 : decide (1 ≤ xs.length) = true := decide_eq_true (by omega)
      have e4 : decide (xs.length ≤ 4) = true := decide_eq_true (by omega)
      simp only [postB, headB, e1, e2, e3, e4, Bool.true_and]
      exact spec_PostOk_l0 id xs hx (by omega) xs [] rfl
theorem impl_PostOk_l0 (xs : List S45) (hx : Sound xs) (h4 : xs.length ≤ 4) : ∀ (rest pre : List S45), xs = pre ++ rest → EvP (fun k => impl_PostOk.l0 k xs (xs.length : Int) (pre.length : Int)) (· = rest.all legOkB) := by
  intro rest
  induction rest with
  | nil =>
    intro pre e
    refine EvP.step (fun k => by rw [impl_PostOk.l0]) ?_
    exact EvP.neg (by simp [e]) (EvP.now rfl)
  | cons x rest ih =>
    intro pre e
    have hl : xs.length = pre.length + (rest.length + 1) := by rw [e]; simp
    refine EvP.step (fun k => by rw [impl_PostOk.l0]) (EvP.pos (by omega) (EvP.pos (by omega) (EvP.pos (by omega) ?_)))
    have hr : rd_T45 xs (pre.length : Int) = x := by rw [e]; exact rd_midL pre rest x
    rw [hr]
    have e2 : wrap64 ((pre.length : Int) + 1) = ((pre ++ [x]).length : Int) := by rw [w64 (by omega) (by omega)]; simp
    refine EvP.bind (impl_LegOk_ev x.f0 x.f1 x.f2 (hx x (by rw [e]; simp))) ?_
    rintro _ rfl
    have step := ih (pre ++ [x]) (by rw [e]; simp)
    rw [e2]
    cases hb : legB x.f0 x.f1 x.f2
    · exact EvP.neg (by simp) (EvP.now (by simp [legOkB, hb]))
    · refine EvP.pos rfl (step.mono ?_)
      rintro _ rfl
      simp [legOkB, hb]
theorem impl_PostOk_ev (id : Int) (xs : List S45) (hx : Sound xs) : EvP (fun k => impl_PostOk.f k id xs) (· = postB id xs) := by
  unfold impl_PostOk.f
  refine EvP.split (fun h => ?_) (fun h1 => EvP.split (fun h => ?_) (fun h2 => EvP.split (fun h => ?_) (fun h3 => ?_)))
  · refine EvP.step (fun k => by rw [impl_PostOk.j0]) (EvP.pos rfl (EvP.now ?_))
    have e : decide (0 ≤ id) = false := decide_eq_false (by omega)
    simp [postB, headB, e]
  · refine EvP.step (fun k => by rw [impl_PostOk.j0]) (EvP.pos rfl (EvP.now ?_))
    have e : decide (id ≤ 99) = false := decide_eq_false (by omega)
    simp [postB, headB, e]
  · refine EvP.step (fun k => by rw [impl_PostOk.j0]) (EvP.pos rfl (EvP.now ?_))
    have e : decide (1 ≤ xs.length) = false := decide_eq_false (by omega)
    simp [postB, headB, e]
  · refine EvP.step (fun k => by rw [impl_PostOk.j0]) (EvP.split (fun h => EvP.now ?_) (fun h => ?_))
    · have := of_decide_eq_true h
      have e : decide (xs.length ≤ 4) = false := decide_eq_false (by omega)
      simp [postB, headB, e]
    · have h4 : ¬ (xs.length : Int) > 4 := fun g => h (decide_eq_true g)
      have e1 : decide (0 ≤ id) = true := decide_eq_true (by omega)
      have e2 : decide (id ≤ 99) = true := decide_eq_true (by omega)
      have e3 : decide (1 ≤ xs.length) = true := decide_eq_true (by omega)
      have e4 : decide (xs.length ≤ 4) = true := decide_eq_true (by omega)
      simp only [postB, headB, e1, e2, e3, e4, Bool.true_and]
      exact impl_PostOk_l0 xs hx (by omega) xs [] rfl

theorem rd_mid36 (pre rest : List S45) (x : S45) : rd_T45 (pre ++ x :: rest) (pre.length : Int) = x := by simp [rd_T45]
def legKey (x : S45) : List UInt8 × Int × Int := (x.f0.toList, x.f1, x.f2)
def postSameB (a : Int) (xs : List S45) (b : Int) (ys : List S45) : Bool := decide (a = b ∧ xs.map legKey = ys.map legKey)

/-! ### PostSame -/
theorem legNe (x y : S45) : (!((x.f0.toList) == (y.f0.toList)) || (!((x.f1) == (y.f1)) || (!((x.f2) == (y.f2))))) = !decide (legKey x = legKey y) := by
  unfold legKey
  by_cases c1 : x.f0.toList = y.f0.toList <;> by_cases c2 : x.f1 = y.f1 <;> by_cases c3 : x.f2 = y.f2 <;> simp [c1, c2, c3]
theorem impl_PostSame_l0 (b : Int) (xs ys : List S45) (hx : xs.length ≤ 1048576) : ∀ (r r' pre pre' : List S45), xs = pre ++ r → ys = pre' ++ r' → pre.length = pre'.length → r.length = r'.length →
    EvP (fun k => impl_PostSame.l0 k xs (xs.length : Int) (pre.length : Int) b ys) (· = decide (r.map legKey = r'.map legKey)) := by
  intro r
  induction r with
  | nil =>
    intro r' pre pre' e e' hl hr
    obtain rfl : r' = [] := List.eq_nil_of_length_eq_zero (by simpa using hr.symm)
    exact EvP.step (fun k => by rw [impl_PostSame.l0]) (EvP.neg (by simp [e]) (EvP.now (by simp)))
  | cons x r ih =>
    intro r' pre pre' e e' hl hr
    cases r' with
    | nil => simp at hr
    | cons y r' =>
      have h1 : xs.length = pre.length + (r.length + 1) := by rw [e]; simp
      have h2 : ys.length = pre'.length + (r'.length + 1) := by rw [e']; simp
      refine EvP.step (fun k => by rw [impl_PostSame.l0]) (EvP.pos (by omega) (EvP.pos (by omega) (EvP.pos (by omega) (EvP.pos (by simp at hr; omega) ?_))))
      have hrx : rd_T45 xs (pre.length : Int) = x := by rw [e]; exact rd_mid36 pre r x
      have hry : rd_T45 ys (pre.length : Int) = y := by rw [e', hl]; exact rd_mid36 pre' r' y
      rw [hrx, hry, legNe]
      have e2 : wrap64 ((pre.length : Int) + 1) = ((pre ++ [x]).length : Int) := by rw [w64 (by omega) (by omega)]; simp
      have step := ih r' (pre ++ [x]) (pre' ++ [y]) (by rw [e]; simp) (by rw [e']; simp) (by simp [hl]) (by simpa using hr)
      rw [← e2] at step
      by_cases c : legKey x = legKey y
      · refine EvP.neg (by simp [c]) (step.mono ?_)
        rintro _ rfl
        simp [c]
      · exact EvP.pos (by simp [c]) (EvP.now (by simp [c]))
theorem impl_PostSame_ev (a : Int) (xs : List S45) (b : Int) (ys : List S45) (hx : xs.length ≤ 1048576) : EvP (fun k => impl_PostSame.f k a xs b ys) (· = postSameB a xs b ys) := by
  unfold impl_PostSame.f postSameB
  refine EvP.split (fun h => ?_) (fun h => ?_)
  · refine EvP.step (fun k => by rw [impl_PostSame.j0]) (EvP.split (fun hn => EvP.now ?_) (fun he => ?_))
    · have : xs.map legKey ≠ ys.map legKey := fun he => by have := congrArg List.length he; simp at this; simp [this] at hn
      simp [this]
    · have hl : xs.length = ys.length := by simp at he; omega
      refine (impl_PostSame_l0 b xs ys hx xs ys [] [] rfl rfl rfl hl).mono ?_
      rintro _ rfl
      simp [h]
  · exact EvP.step (fun k => by rw [impl_PostSame.j0]) (EvP.pos rfl (EvP.now (by simp [h])))

/-! ### Numbers in decimals -/
theorem size_mk (l : List UInt8) : (⟨l.toArray⟩ : ByteArray).size = l.length := List.size_toArray
theorem mk_data (s : ByteArray) : s = ⟨s.data.toList.toArray⟩ := by cases s; simp
theorem mk_append (l m : List UInt8) : (⟨l.toArray⟩ : ByteArray) ++ (⟨m.toArray⟩ : ByteArray) = ⟨(l ++ m).toArray⟩ := by
  apply ByteArray.ext
  simp [ByteArray.data_append]
theorem digit_nums (n : Nat) (h : n < 10) : strOfNums [(wrap64 (48 + (n : Int))) % 256] = ⟨[UInt8.ofNat (48 + n)].toArray⟩ := by
  have e : (wrap64 (48 + (n : Int))) % 256 = ((48 + n : Nat) : Int) := by rw [w64 (by omega) (by omega)]; omega
  rw [e]
  simp only [strOfNums, List.map_cons, List.map_nil, Int.toNat_natCast]
theorem spec_l9Dec_l0 : ∀ (N n : Nat), n ≤ N → ∀ l : List UInt8, l.length + n ≤ 4000000000 → EvP (fun k => spec_l9Dec.l0 k (n : Int) ⟨l.toArray⟩) (· = ⟨(Lib.decDigits n ++ l).toArray⟩) := by
  intro N
  induction N with
  | zero =>
    intro n hn l hl
    obtain rfl : n = 0 := by omega
    refine EvP.step (fun k => by rw [spec_l9Dec.l0]) (EvP.neg (by omega) ?_)
    simp only [Option.bind_some]
    have e := digit_nums 0 (by omega)
    rw [e]
    refine EvP.pos (by rw [size_mk, size_mk]; simp; omega) (EvP.now ?_)
    rw [mk_append, Lib.decDigits, dif_pos (by omega)]
  | succ N ih =>
    intro n hn l hl
    refine EvP.step (fun k => by rw [spec_l9Dec.l0]) (EvP.split (fun h => ?_) (fun h => ?_))
    · simp only [Option.bind_some]
      have e1 : Int.tmod (n : Int) 10 = ((n % 10 : Nat) : Int) := by rw [Int.tmod_eq_emod_of_nonneg (by omega)]; omega
      have e2 : wrap64 (Int.tdiv (n : Int) 10) = ((n / 10 : Nat) : Int) := by rw [Int.tdiv_eq_ediv_of_nonneg (by omega), w64 (by omega) (by omega)]; omega
      rw [e1, e2, digit_nums (n % 10) (by omega)]
      refine EvP.pos (by rw [size_mk, size_mk]; simp; omega) ?_
      rw [mk_append]
      refine (ih (n / 10) (by omega) ([UInt8.ofNat (48 + n % 10)] ++ l) (by simp; omega)).mono ?_
      rintro _ rfl
      rw [show Lib.decDigits n = Lib.decDigits (n / 10) ++ [UInt8.ofNat (48 + n % 10)] by rw [Lib.decDigits, dif_neg (by omega)]]
      simp
    · simp only [Option.bind_some]
      rw [digit_nums n (by omega)]
      refine EvP.pos (by rw [size_mk, size_mk]; simp; omega) (EvP.now ?_)
      rw [mk_append, Lib.decDigits, dif_pos (by omega)]
theorem spec_l9Dec_ev (n : Int) (h0 : -1000000 ≤ n) (h1 : n ≤ 1000000) : EvP (fun k => spec_l9Dec.f k n) (· = ⟨(Lib.itoa n).toArray⟩) := by
  have nat : ∀ m : Nat, m ≤ 1000000 → EvP (fun k => spec_l9Dec.f k (m : Int)) (· = ⟨(Lib.decDigits m).toArray⟩) := fun m hm => by
    refine EvP.step (fun k => by rw [spec_l9Dec.f]) (EvP.neg (by omega) (EvP.neg (by omega) ?_))
    refine (spec_l9Dec_l0 m m (Nat.le_refl _) [] (by simp; omega)).mono ?_
    rintro _ rfl
    simp
  by_cases hn : n < 0
  · have hl := Lib.itoa_length_le n (by omega) (by omega)
    have e : Lib.itoa n = 45 :: Lib.decDigits n.natAbs := by rw [Lib.itoa, if_pos hn]
    have hl2 : (Lib.decDigits n.natAbs).length ≤ 21 := by rw [e] at hl; simp at hl; omega
    refine EvP.step (fun k => by rw [spec_l9Dec.f]) (EvP.neg (by omega) (EvP.pos hn ?_))
    rw [w64 (by omega) (by omega), show (-n : Int) = ((n.natAbs : Nat) : Int) by omega]
    refine EvP.bind (nat n.natAbs (by omega)) ?_
    rintro _ rfl
    refine EvP.pos (by rw [size_mk]; omega) (EvP.now ?_)
    rw [e]
    exact mk_append [45] (Lib.decDigits n.natAbs)
  · obtain ⟨m, rfl⟩ : ∃ m : Nat, n = (m : Int) := ⟨n.toNat, by omega⟩
    have e : Lib.itoa (m : Int) = Lib.decDigits m := by rw [Lib.itoa, if_neg hn]; simp
    rw [e]
    exact nat m (by omega)

/-! ### A posting as it is written -/
theorem legB_bounds {x : S45} (h : legOkB x = true) : x.f0.size ≤ 4 ∧ 1 ≤ x.f1 ∧ x.f1 ≤ 3 ∧ -1000 ≤ x.f2 ∧ x.f2 ≤ 1000 := by
  unfold legOkB legB acctB at h
  simp only [Bool.and_eq_true, decide_eq_true_eq] at h
  omega
theorem legText_length {x : S45} (h : legOkB x = true) : (legText x).length ≤ 60 := by
  obtain ⟨h1, h2, h3, h4, h5⟩ := legB_bounds h
  have l1 := Lib.itoa_length_le x.f1 (by omega) (by omega)
  have l2 := Lib.itoa_length_le x.f2 (by omega) (by omega)
  have e : x.f0.data.toList.length = x.f0.size := Array.length_toList
  simp only [legText, List.length_cons, List.length_append]
  omega
theorem legsText_length (xs : List S45) (h : xs.all legOkB = true) : (xs.flatMap legText).length ≤ 60 * xs.length := by
  induction xs with
  | nil => simp
  | cons x r ih =>
    simp only [List.all_cons, Bool.and_eq_true] at h
    have h1 := legText_length h.1
    have h2 := ih h.2
    simp only [List.flatMap_cons, List.length_append, List.length_cons]
    omega
theorem cat_leg (l : List UInt8) (x : S45) : (((((((⟨l.toArray⟩ : ByteArray) ++ (⟨#[32]⟩ : ByteArray)) ++ x.f0) ++ (⟨#[58]⟩ : ByteArray)) ++ (⟨(Lib.itoa x.f1).toArray⟩ : ByteArray)) ++ (⟨#[58]⟩ : ByteArray)) ++ (⟨(Lib.itoa x.f2).toArray⟩ : ByteArray)) = ⟨(l ++ legText x).toArray⟩ := by
  apply ByteArray.ext
  simp [ByteArray.data_append, legText]
theorem spec_PostText_l0 (id : Int) (xs : List S45) (hx : xs.all legOkB = true) (h4 : xs.length ≤ 4) : ∀ (rest pre : List S45) (l : List UInt8), xs = pre ++ rest → l.length + 60 * rest.length ≤ 1000000 → EvP (fun k => spec_PostText.l0 k ⟨l.toArray⟩ (pre.length : Int) id xs) (· = ⟨(l ++ rest.flatMap legText).toArray⟩) := by
  intro rest
  induction rest with
  | nil =>
    intro pre l e hl
    refine EvP.step (fun k => by rw [spec_PostText.l0]) (EvP.neg (by simp [e]) (EvP.now (by simp)))
  | cons x rest ih =>
    intro pre l e hl
    have hlen : xs.length = pre.length + (rest.length + 1) := by rw [e]; simp
    have hr : rd_T45 xs (pre.length : Int) = x := by rw [e]; exact rd_midL pre rest x
    have hxx : legOkB x = true := List.all_eq_true.1 hx x (by rw [e]; simp)
    obtain ⟨h1, h2, h3, h4', h5⟩ := legB_bounds hxx
    have l1 := Lib.itoa_length_le x.f1 (by omega) (by omega)
    have l2 := Lib.itoa_length_le x.f2 (by omega) (by omega)
    have e2 : wrap64 ((pre.length : Int) + 1) = ((pre ++ [x]).length : Int) := by rw [w64 (by omega) (by omega)]; simp
    have z32 : (⟨#[32]⟩ : ByteArray).size = 1 := rfl
    have z58 : (⟨#[58]⟩ : ByteArray).size = 1 := rfl
    have zl := size_mk l
    have z1 := size_mk (Lib.itoa x.f1)
    have z2 := size_mk (Lib.itoa x.f2)
    simp only [List.length_cons] at hl
    refine EvP.step (fun k => by rw [spec_PostText.l0]) ?_
    rw [hr, e2]
    refine EvP.pos (by omega) (EvP.pos (by omega) (EvP.pos (by omega) (EvP.pos (by simp only [ByteArray.size_append]; omega) (EvP.pos (by simp only [ByteArray.size_append]; omega) (EvP.bind (spec_l9Dec_ev x.f1 (by omega) (by omega)) ?_)))))
    rintro _ rfl
    refine EvP.pos (by simp only [ByteArray.size_append]; omega) (EvP.pos (by simp only [ByteArray.size_append]; omega) (EvP.bind (spec_l9Dec_ev x.f2 (by omega) (by omega)) ?_))
    rintro _ rfl
    refine EvP.pos (by simp only [ByteArray.size_append]; omega) ?_
    rw [cat_leg]
    refine (ih (pre ++ [x]) (l ++ legText x) (by rw [e]; simp) ?_).mono ?_
    · have := legText_length hxx
      simp only [List.length_append]
      omega
    · rintro _ rfl
      simp
/-- What is written of a posting. -/
def textB (id : Int) (xs : List S45) : ByteArray := if postB id xs = true then ⟨(postText id xs).toArray⟩ else ⟨#[]⟩
theorem postB_bounds {id : Int} {xs : List S45} (h : postB id xs = true) : 0 ≤ id ∧ id ≤ 99 ∧ xs.length ≤ 4 ∧ xs.all legOkB = true := by
  unfold postB headB at h
  simp only [Bool.and_eq_true, decide_eq_true_eq] at h
  exact ⟨h.1.1.1.1, h.1.1.1.2, h.1.2, h.2⟩
theorem spec_PostText_ev (id : Int) (xs : List S45) (hx : Sound xs) : EvP (fun k => spec_PostText.f k id xs) (· = textB id xs) := by
  unfold spec_PostText.f textB
  refine EvP.bind (spec_PostOk_ev id xs hx) ?_
  rintro _ rfl
  refine EvP.split (fun h => ?_) (fun h => EvP.now (by rw [if_neg h]))
  obtain ⟨h0, h1, h2, h3⟩ := postB_bounds h
  rw [if_pos h]
  refine EvP.bind (spec_l9Dec_ev id (by omega) (by omega)) ?_
  rintro _ rfl
  have hl := Lib.itoa_length_le id (by omega) (by omega)
  exact spec_PostText_l0 id xs h3 h2 xs [] (Lib.itoa id) rfl (by omega)
theorem postFits_of {id : Int} {xs : List S45} (h : postB id xs = true) : postFits id xs = true := by
  obtain ⟨h0, h1, h2, h3⟩ := postB_bounds h
  simp only [postFits, intFits, Bool.and_eq_true, decide_eq_true_eq]
  refine ⟨⟨by omega, by omega⟩, by omega, List.all_eq_true.2 fun x hx => ?_⟩
  obtain ⟨b1, b2, b3, b4, b5⟩ := legB_bounds (List.all_eq_true.1 h3 x hx)
  simp only [legFits, intFits, Bool.and_eq_true, decide_eq_true_eq]
  omega
theorem impl_PostText_ev (id : Int) (xs : List S45) (hx : Sound xs) : EvP (fun k => impl_PostText.f k id xs) (· = textB id xs) := by
  unfold impl_PostText.f textB
  refine EvP.bind (impl_PostOk_ev id xs hx) ?_
  rintro _ rfl
  refine EvP.split (fun h => ?_) (fun h => EvP.now (by rw [if_neg h]))
  rw [if_pos h]
  exact EvP.pos (postFits_of h) (EvP.now rfl)

/-! ### Texts cut at a byte -/
def mk (l : List UInt8) : ByteArray := ⟨l.toArray⟩
theorem mk_size (l : List UInt8) : (mk l).size = l.length := List.size_toArray
theorem mk_list (l : List UInt8) : (mk l).data.toList = l := by simp [mk]
theorem mk_of (s : ByteArray) : mk s.data.toList = s := by cases s; simp [mk]
theorem data_len (s : ByteArray) : s.data.toList.length = s.size := Array.length_toList
theorem get_at (s : ByteArray) (i : Nat) (h : i < s.size) : s.get! i = s.data.toList[i]'(by rw [data_len]; exact h) := by
  cases s with
  | mk a =>
    have h' : i < a.size := h
    show a[i]! = _
    simp [h']
theorem bt_list {s : ByteArray} {i : Nat} {b : UInt8} {r : List UInt8} (h : s.data.toList.drop i = b :: r) : bt s (i : Int) = (b.toNat : Int) ∧ i < s.size ∧ s.data.toList.drop (i + 1) = r ∧ s.get! i = b := by
  have hl : i < s.data.toList.length := by
    rcases Nat.lt_or_ge i s.data.toList.length with h' | h'
    · exact h'
    · rw [List.drop_eq_nil_of_le h'] at h; cases h
  have hi : i < s.size := by rw [← data_len]; exact hl
  rw [List.drop_eq_getElem_cons hl] at h
  have h1 := List.head_eq_of_cons_eq h
  have h2 := List.tail_eq_of_cons_eq h
  refine ⟨?_, hi, h2, ?_⟩
  · have e : s[i]'hi = b := by rw [← h1]; simp [ByteArray.getElem_eq_getElem_data]
    simp [bt, hi, e]
  · rw [get_at s i hi, h1]
theorem ext_list (s : ByteArray) (a b : Nat) : (s.extract a b).data.toList = (s.data.toList.take b).drop a := by
  simp [ByteArray.data_extract, Array.toList_extract, List.extract_eq_take_drop, List.drop_take]
theorem ext_mk {s : ByteArray} {a b : Nat} {l : List UInt8} (h : (s.data.toList.take b).drop a = l) : s.extract a b = mk l := by rw [← mk_of (s.extract a b), ext_list, h]
/-- What stands between bytes c: what is pending, and what comes. -/
def splitA (c : UInt8) : List UInt8 → List UInt8 → List (List UInt8)
  | pend, [] => [pend]
  | pend, b :: l => if b = c then pend :: splitA c [] l else splitA c (pend ++ [b]) l
theorem splitA_free {c : UInt8} : ∀ (w pend l : List UInt8), c ∉ w → splitA c pend (w ++ l) = splitA c (pend ++ w) l := by
  intro w
  induction w with
  | nil => intro pend l _; simp
  | cons b w ih =>
    intro pend l h
    simp only [List.mem_cons, not_or] at h
    simp only [List.cons_append, splitA]
    rw [if_neg (fun e => h.1 e.symm), ih _ _ h.2]
    simp
theorem splitA_at (c : UInt8) (pend l : List UInt8) : splitA c pend (c :: l) = pend :: splitA c [] l := by simp [splitA]
theorem splitA_ne (c : UInt8) : ∀ (l pend : List UInt8), splitA c pend l ≠ [] := by
  intro l
  induction l with
  | nil => intro pend; simp [splitA]
  | cons b l ih =>
    intro pend
    simp only [splitA]
    split
    · simp
    · exact ih _
theorem splitA_len (c : UInt8) : ∀ (l pend : List UInt8), (splitA c pend l).length ≤ l.length + 1 ∧ ∀ w ∈ splitA c pend l, w.length ≤ pend.length + l.length := by
  intro l
  induction l with
  | nil => intro pend; simp [splitA]
  | cons b l ih =>
    intro pend
    simp only [splitA]
    split
    · obtain ⟨h1, h2⟩ := ih []
      refine ⟨by simp only [List.length_cons]; omega, fun w hw => ?_⟩
      rcases List.mem_cons.1 hw with rfl | hw
      · simp only [List.length_cons]; omega
      · have := h2 w hw; simp only [List.length_cons, List.length_nil] at this ⊢; omega
    · obtain ⟨h1, h2⟩ := ih (pend ++ [b])
      refine ⟨by simp only [List.length_cons]; omega, fun w hw => ?_⟩
      have := h2 w hw
      simp only [List.length_append, List.length_cons, List.length_nil] at this ⊢
      omega
theorem spec_l9Cut_l0 (s : ByteArray) (c : UInt8) (hs : s.size ≤ 1048576) : ∀ (rest : List UInt8) (i from_ : Nat) (out : List ByteArray), s.data.toList.drop i = rest → i ≤ s.size → from_ ≤ i → out.length ≤ i →
    EvP (fun k => spec_l9Cut.l0 k s (c.toNat : Int) out (from_ : Int) (i : Int)) (· = out ++ (splitA c ((s.data.toList.take i).drop from_) rest).map mk) := by
  intro rest
  induction rest with
  | nil =>
    intro i from_ out hd hi hf ho
    have hie : i = s.size := by
      have := congrArg List.length hd
      simp only [List.length_drop, data_len, List.length_nil] at this
      omega
    subst hie
    have e1 : wrap64 ((s.size : Int) + 1) = ((s.size + 1 : Nat) : Int) := (w64 (by omega) (by omega)).trans (by omega)
    refine EvP.step (fun k => by rw [spec_l9Cut.l0]) (EvP.pos (by omega) (EvP.pos rfl (EvP.pos (by omega) (EvP.pos (by omega) (EvP.pos (by omega) ?_)))))
    rw [e1]
    refine EvP.step (fun k => by rw [spec_l9Cut.l0]) (EvP.neg (by omega) (EvP.now ?_))
    simp only [splitA, List.map_cons, List.map_nil, Int.toNat_natCast]
    rw [ext_mk rfl]
  | cons b rest ih =>
    intro i from_ out hd hi hf ho
    obtain ⟨hb, hlt, hd', _⟩ := bt_list hd
    have e1 : wrap64 ((i : Int) + 1) = ((i + 1 : Nat) : Int) := (w64 (by omega) (by omega)).trans (by omega)
    have htk : s.data.toList.take (i + 1) = s.data.toList.take i ++ [b] := by
      rw [List.take_add_one]
      have : s.data.toList[i]? = some b := by rw [← List.head?_drop, hd]; rfl
      rw [this]; rfl
    refine EvP.step (fun k => by rw [spec_l9Cut.l0]) (EvP.pos (by omega) (EvP.neg (by omega) (EvP.pos (by omega) (EvP.pos (by omega) ?_))))
    rw [hb, e1]
    refine EvP.split (fun hc => ?_) (fun hc => ?_)
    · obtain rfl : b = c := UInt8.toNat_inj.1 (by omega)
      refine EvP.pos (by omega) (EvP.pos (by omega) (EvP.pos (by omega) ?_))
      have step := ih (i + 1) (i + 1) (out ++ [s.extract from_ i]) hd' (by omega) (Nat.le_refl _) (by simp; omega)
      simp only [Int.toNat_natCast]
      refine step.mono ?_
      rintro _ rfl
      rw [splitA_at]
      have e2 : (s.data.toList.take (i + 1)).drop (i + 1) = [] := by rw [List.drop_eq_nil_of_le]; simp; omega
      rw [e2]
      simp only [List.map_cons, List.append_assoc, List.cons_append, List.nil_append]
      rw [ext_mk rfl]
    · have hne : b ≠ c := fun e => hc (by rw [e])
      refine (ih (i + 1) from_ out hd' (by omega) (by omega) (by omega)).mono ?_
      rintro _ rfl
      simp only [splitA]
      rw [if_neg hne, htk, List.drop_append_of_le_length (by simp [data_len]; omega)]
theorem spec_l9Cut_ev (s : ByteArray) (c : UInt8) (hs : s.size ≤ 1048576) : EvP (fun k => spec_l9Cut.f k s (c.toNat : Int)) (· = (splitA c [] s.data.toList).map mk) := by
  unfold spec_l9Cut.f
  refine (spec_l9Cut_l0 s c hs s.data.toList 0 0 [] rfl (by omega) (Nat.le_refl _) (by simp)).mono ?_
  rintro _ rfl
  simp
theorem piecesFrom_eq (s : ByteArray) : ∀ (rest : List UInt8) (d pos start : Nat) (words : List ByteArray), s.data.toList.drop pos = rest → pos + d = s.size → start ≤ pos →
    piecesFrom s d pos start words = if rest.all okByte = true then (words ++ (splitA 32 ((s.data.toList.take pos).drop start) rest).map mk, true) else ([], false) := by
  intro rest
  induction rest with
  | nil =>
    intro d pos start words hd hp hs
    have hie : pos = s.size := by
      have := congrArg List.length hd
      simp only [List.length_drop, data_len, List.length_nil] at this
      omega
    obtain rfl : d = 0 := by omega
    subst hie
    simp only [piecesFrom, List.all_nil, if_true, splitA, List.map_cons, List.map_nil]
    rw [ext_mk rfl]
  | cons b rest ih =>
    intro d pos start words hd hp hs
    obtain ⟨hb, hlt, hd', hg⟩ := bt_list hd
    obtain ⟨d, rfl⟩ : ∃ m, d = m + 1 := ⟨d - 1, by omega⟩
    have htk : s.data.toList.take (pos + 1) = s.data.toList.take pos ++ [b] := by
      rw [List.take_add_one]
      have : s.data.toList[pos]? = some b := by rw [← List.head?_drop, hd]; rfl
      rw [this]; rfl
    simp only [piecesFrom, hg]
    by_cases hok : okByte b = true
    · have hall : (b :: rest).all okByte = rest.all okByte := by simp [hok]
      rw [if_pos hok, hall]
      by_cases h32 : b.toNat = 32
      · obtain rfl : b = 32 := UInt8.toNat_inj.1 (by simpa using h32)
        rw [if_pos (by decide), ih d (pos + 1) (pos + 1) _ hd' (by omega) (Nat.le_refl _), splitA_at]
        have e2 : (s.data.toList.take (pos + 1)).drop (pos + 1) = [] := by rw [List.drop_eq_nil_of_le]; simp; omega
        rw [e2]
        simp only [List.map_cons, List.append_assoc, List.cons_append, List.nil_append]
        rw [ext_mk rfl]
      · have hne : b ≠ 32 := fun e => h32 (by rw [e]; rfl)
        rw [if_neg h32, ih d (pos + 1) start _ hd' (by omega) (by omega)]
        simp only [splitA]
        rw [if_neg hne, htk, List.drop_append_of_le_length (by simp [data_len]; omega)]
    · have hall : (b :: rest).all okByte = false := by simp [hok]
      rw [if_neg hok, hall, if_neg (by decide)]
theorem piecesOf_eq (s : ByteArray) : piecesOf s = if s.data.toList.all okByte = true then ((splitA 32 [] s.data.toList).map mk, true) else ([], false) := by
  unfold piecesOf
  rw [piecesFrom_eq s s.data.toList s.size 0 0 [] rfl (by omega) (Nat.le_refl _)]
  simp

/-! ### Numbers that are read -/
theorem dd_step (n : Nat) (h : ¬ n < 10) : Lib.decDigits n = Lib.decDigits (n / 10) ++ [UInt8.ofNat (48 + n % 10)] := by rw [Lib.decDigits, dif_neg h]
theorem dd_one (n : Nat) (h : n < 10) : Lib.decDigits n = [UInt8.ofNat (48 + n)] := by rw [Lib.decDigits, dif_pos h]
theorem dig_nat (n : Nat) (h : n < 10) : (UInt8.ofNat (48 + n)).toNat = 48 + n := by
  rw [UInt8.toNat_ofNat']
  omega
theorem dd_mem (n : Nat) : ∀ b ∈ Lib.decDigits n, 48 ≤ b.toNat ∧ b.toNat ≤ 57 := by
  induction n using Nat.strongRecOn with
  | _ n ih =>
    intro b hb
    by_cases h : n < 10
    · rw [dd_one n h, List.mem_singleton] at hb
      rw [hb, dig_nat n h]
      omega
    · rw [dd_step n h] at hb
      rcases List.mem_append.1 hb with hb | hb
      · exact ih (n / 10) (by omega) b hb
      · rw [List.mem_singleton.1 hb, dig_nat (n % 10) (by omega)]
        omega
theorem dd_ne (n : Nat) : Lib.decDigits n ≠ [] := by
  by_cases h : n < 10
  · rw [dd_one n h]; simp
  · rw [dd_step n h]; simp
theorem dd_len : ∀ (k n : Nat), n < 10 ^ (k + 1) → (Lib.decDigits n).length ≤ k + 1 ∧ 1 ≤ (Lib.decDigits n).length := by
  intro k
  induction k with
  | zero =>
    intro n h
    rw [dd_one n (by omega)]
    simp
  | succ k ih =>
    intro n h
    by_cases h1 : n < 10
    · rw [dd_one n h1]
      simp
    · have := ih (n / 10) (by rw [Nat.pow_succ] at h; omega)
      rw [dd_step n h1, List.length_append, List.length_singleton]
      omega
theorem decFrom_append (l r : List UInt8) : ∀ acc, Lib.decFrom acc (l ++ r) = (Lib.decFrom acc l).bind fun a => Lib.decFrom a r := by
  induction l with
  | nil => intro acc; rfl
  | cons b l ih =>
    intro acc
    simp only [List.cons_append, Lib.decFrom]
    cases Lib.digitVal b with
    | none => rfl
    | some d => exact ih _
theorem decFrom_dd (n : Nat) : Lib.decFrom 0 (Lib.decDigits n) = some n := by
  have dv : ∀ m, m < 10 → Lib.digitVal (UInt8.ofNat (48 + m)) = some m := fun m hm => by
    unfold Lib.digitVal
    rw [dig_nat m hm, if_pos (by omega)]
    exact congrArg some (by omega)
  induction n using Nat.strongRecOn with
  | _ n ih =>
    by_cases h : n < 10
    · rw [dd_one n h]
      simp only [Lib.decFrom, dv n h]
      exact congrArg some (by omega)
    · rw [dd_step n h, decFrom_append, ih (n / 10) (by omega)]
      simp only [Option.bind_some, Lib.decFrom, dv (n % 10) (by omega)]
      exact congrArg some (by omega)
theorem dd_head (n : Nat) (hn : 0 < n) : ∀ b r, Lib.decDigits n = b :: r → b.toNat ≠ 48 := by
  induction n using Nat.strongRecOn with
  | _ n ih =>
    intro b r e
    by_cases h : n < 10
    · rw [dd_one n h] at e
      have := List.head_eq_of_cons_eq e
      rw [← this, dig_nat n h]
      omega
    · rw [dd_step n h] at e
      cases hd : Lib.decDigits (n / 10) with
      | nil => exact absurd hd (dd_ne (n / 10))
      | cons c q =>
        rw [hd, List.cons_append] at e
        have := List.head_eq_of_cons_eq e
        rw [← this]
        exact ih (n / 10) (by omega) (by omega) c q hd
theorem itoa_cases (n : Int) (h0 : -1000000 ≤ n) (h1 : n ≤ 1000000) : ∃ (m : Nat) (neg : Bool), m ≤ 1000000 ∧ n = (if neg = true then -(m : Int) else (m : Int)) ∧ (neg = true → 0 < m) ∧ Lib.itoa n = (if neg = true then 45 :: Lib.decDigits m else Lib.decDigits m) := by
  by_cases hn : n < 0
  · exact ⟨n.natAbs, true, by omega, by simp; omega, fun _ => by omega, by rw [Lib.itoa, if_pos hn]; rfl⟩
  · refine ⟨n.toNat, false, by omega, by simp; omega, fun h => by simp at h, ?_⟩
    rw [Lib.itoa, if_neg hn]
    rfl
theorem dd_seven (m : Nat) (h : m ≤ 1000000) : (Lib.decDigits m).length ≤ 7 ∧ 1 ≤ (Lib.decDigits m).length := dd_len 6 m (by omega)
theorem atoiAll_itoa (n : Int) (h0 : -1000000 ≤ n) (h1 : n ≤ 1000000) : Lib.atoiAll (Lib.itoa n) = .ok n := by
  obtain ⟨m, neg, hm, hn, _, e⟩ := itoa_cases n h0 h1
  have hl := dd_seven m hm
  rw [e]
  cases hd : Lib.decDigits m with
  | nil => rw [hd] at hl; simp at hl
  | cons b r =>
    have hb := dd_mem m b (by rw [hd]; simp)
    have hv := decFrom_dd m
    rw [hd] at hv hl
    have hb1 : ¬ (b == 45) = true := fun h => by have : b.toNat = 45 := congrArg UInt8.toNat (eq_of_beq h); omega
    have hb2 : ¬ (b == 43) = true := fun h => by have : b.toNat = 43 := congrArg UInt8.toNat (eq_of_beq h); omega
    cases neg with
    | true =>
      rw [if_pos rfl, Lib.atoiAll_short _ (by simp only [List.length_cons] at hl ⊢; omega)]
      simp only [if_true] at hn
      simp only [Lib.atoi, Lib.decNat, List.isEmpty_cons, hv]
      simp [Lib.NumEnd.ofOption, hn]
    | false =>
      rw [if_neg (by decide), Lib.atoiAll_short _ (by omega)]
      simp only [Bool.false_eq_true, if_false] at hn
      simp only [Lib.atoi, if_neg hb1, if_neg hb2, Lib.decNat, List.isEmpty_cons, hv]
      simp [Lib.NumEnd.ofOption, hn]
theorem numOf_itoa (n : Int) (h0 : -1000000 ≤ n) (h1 : n ≤ 1000000) : numOf (mk (Lib.itoa n)) = some n := by
  unfold numOf
  rw [mk_list, atoiAll_itoa n h0 h1]
theorem itoa_mem (n : Int) : ∀ b ∈ Lib.itoa n, b.toNat = 45 ∨ (48 ≤ b.toNat ∧ b.toNat ≤ 57) := by
  intro b hb
  unfold Lib.itoa at hb
  split at hb
  · rcases List.mem_cons.1 hb with rfl | hb
    · exact .inl rfl
    · exact .inr (dd_mem _ b hb)
  · exact .inr (dd_mem _ b hb)
theorem itoa_free (n : Int) (c : UInt8) (hc : c.toNat ≠ 45 ∧ (c.toNat < 48 ∨ 57 < c.toNat)) : c ∉ Lib.itoa n := fun h => by
  have := itoa_mem n c h
  omega
/-! ### The reference's numbers -/
theorem l9Num_l0_any (s : ByteArray) (neg : Bool) (hs : s.size ≤ 1048576) : ∀ (d : Nat) (i : Nat) (acc : Int), i + d = s.size → EvP (fun k => spec_l9Num.l0 k s neg acc (i : Int)) (fun _ => True) := by
  intro d
  induction d with
  | zero =>
    intro i acc h
    refine EvP.step (fun k => by rw [spec_l9Num.l0]) (EvP.neg (by omega) (EvP.split (fun _ => EvP.now trivial) (fun _ => EvP.now trivial)))
  | succ d ih =>
    intro i acc h
    have e1 : wrap64 ((i : Int) + 1) = ((i + 1 : Nat) : Int) := (w64 (by omega) (by omega)).trans (by omega)
    refine EvP.step (fun k => by rw [spec_l9Num.l0]) (EvP.pos (by omega) (EvP.pos (by omega) (EvP.split (fun _ => EvP.now trivial) (fun _ => EvP.split (fun _ => EvP.now trivial) (fun _ => ?_)))))
    rw [e1]
    exact ih (i + 1) _ (by omega)
theorem l9Num_j1_any (s : ByteArray) (neg : Bool) (hs : s.size ≤ 1048576) : EvP (fun k => spec_l9Num.j1 k s neg) (fun _ => True) := by
  have l0 : EvP (fun k => spec_l9Num.l0 k s neg 0 0) (fun _ => True) := l9Num_l0_any s neg hs s.size 0 0 (by omega)
  have j2 : ∀ bad, EvP (fun k => spec_l9Num.j2 k s neg bad) (fun _ => True) := by
    intro bad
    refine EvP.step (fun k => by rw [spec_l9Num.j2]) ?_
    exact EvP.split (fun _ => EvP.now trivial) (fun _ => l0)
  refine EvP.step (fun k => by rw [spec_l9Num.j1]) (EvP.split (fun _ => j2 _) (fun h1 => EvP.split (fun _ => j2 _) (fun _ => EvP.pos (by omega) (EvP.split (fun _ => EvP.split (fun _ => j2 _) (fun _ => j2 _)) (fun _ => j2 _)))))
theorem spec_l9Num_any (s : ByteArray) (hs : s.size ≤ 1048576) : EvP (fun k => spec_l9Num.f k s) (fun _ => True) := by
  unfold spec_l9Num.f
  have j0 : ∀ neg, (neg = true → 1 ≤ s.size) → EvP (fun k => spec_l9Num.j0 k s neg) (fun _ => True) := fun neg hneg => by
    refine EvP.step (fun k => by rw [spec_l9Num.j0]) (EvP.split (fun h => EvP.pos (by have := hneg h; omega) (l9Num_j1_any _ _ (by simp [ByteArray.size_extract]; omega))) (fun _ => l9Num_j1_any s neg hs))
  exact EvP.split (fun h => EvP.pos (by omega) (j0 _ (fun _ => by omega))) (fun h => j0 false (fun h => by simp at h))
theorem decFrom_le : ∀ (l : List UInt8) (acc v : Nat), Lib.decFrom acc l = some v → acc ≤ v := by
  intro l
  induction l with
  | nil => intro acc v h; exact Nat.le_of_eq (Option.some.inj h)
  | cons b l ih =>
    intro acc v h
    simp only [Lib.decFrom] at h
    cases hd : Lib.digitVal b with
    | none => rw [hd] at h; cases h
    | some d =>
      rw [hd] at h
      have := ih _ _ h
      omega
theorem l9Num_l0 (s : ByteArray) (neg : Bool) (hs : s.size ≤ 1048576) (v : Nat) (hv : v ≤ 1000000) : ∀ (rest : List UInt8) (i acc : Nat), s.data.toList.drop i = rest → i ≤ s.size → Lib.decFrom acc rest = some v →
    EvP (fun k => spec_l9Num.l0 k s neg (acc : Int) (i : Int)) (· = ((if neg = true then -(v : Int) else (v : Int)), true)) := by
  intro rest
  induction rest with
  | nil =>
    intro i acc hd hi h
    obtain rfl : acc = v := Option.some.inj h
    have hie : i = s.size := by
      have := congrArg List.length hd
      simp only [List.length_drop, data_len, List.length_nil] at this
      omega
    refine EvP.step (fun k => by rw [spec_l9Num.l0]) (EvP.neg (by omega) (EvP.split (fun hn => EvP.now ?_) (fun hn => EvP.now ?_)))
    · rw [if_pos hn, w64 (by omega) (by omega)]
    · rw [if_neg hn]
  | cons b rest ih =>
    intro i acc hd hi h
    obtain ⟨hb, hlt, hd', _⟩ := bt_list hd
    have e1 : wrap64 ((i : Int) + 1) = ((i + 1 : Nat) : Int) := (w64 (by omega) (by omega)).trans (by omega)
    simp only [Lib.decFrom] at h
    cases hdv : Lib.digitVal b with
    | none => rw [hdv] at h; cases h
    | some d =>
      rw [hdv] at h
      unfold Lib.digitVal at hdv
      split at hdv
      · next hdig =>
        obtain rfl := Option.some.inj hdv
        have hle := decFrom_le _ _ _ h
        have e2 : wrap64 (wrap64 ((acc : Int) * 10) + ((b.toNat : Int) - 48) % 256) = ((acc * 10 + (b.toNat - 48) : Nat) : Int) := by
          rw [w64 (x := (acc : Int) * 10) (by omega) (by omega), w64 (by omega) (by omega)]
          omega
        refine EvP.step (fun k => by rw [spec_l9Num.l0]) (EvP.pos (by omega) (EvP.pos (by omega) ?_))
        rw [hb, e1, e2]
        exact EvP.neg (by omega) (EvP.neg (by omega) (ih (i + 1) _ hd' (by omega) h))
      · cases hdv
theorem l9Num_j1 (s : ByteArray) (neg : Bool) (m : Nat) (hm : m ≤ 1000000) (hneg : neg = true → 0 < m) (hs : s.data.toList = Lib.decDigits m) : EvP (fun k => spec_l9Num.j1 k s neg) (· = ((if neg = true then -(m : Int) else (m : Int)), true)) := by
  have hl := dd_seven m hm
  have hsz : s.size = (Lib.decDigits m).length := by rw [← data_len, hs]
  have l0 : EvP (fun k => spec_l9Num.l0 k s neg 0 0) (· = ((if neg = true then -(m : Int) else (m : Int)), true)) := l9Num_l0 s neg (by omega) m hm s.data.toList 0 0 rfl (by omega) (by rw [hs]; exact decFrom_dd m)
  have go : EvP (fun k => spec_l9Num.j2 k s neg false) (· = ((if neg = true then -(m : Int) else (m : Int)), true)) := by
    refine EvP.step (fun k => by rw [spec_l9Num.j2]) ?_
    exact EvP.neg (by decide) l0
  cases hd : Lib.decDigits m with
  | nil => rw [hd] at hl; simp at hl
  | cons b r =>
    obtain ⟨hb, _, _, _⟩ := bt_list (s := s) (i := 0) (b := b) (r := r) (by rw [hs, hd]; rfl)
    refine EvP.step (fun k => by rw [spec_l9Num.j1]) (EvP.neg (by omega) (EvP.neg (by omega) (EvP.pos (by omega) ?_)))
    have hb' : bt s 0 = (b.toNat : Int) := hb
    rw [hb']
    refine EvP.split (fun h48 => ?_) (fun _ => go)
    have hm0 : m = 0 := by
      rcases Nat.eq_zero_or_pos m with h | h
      · exact h
      · exact absurd (by omega) (dd_head m h b r hd)
    have hn : neg = false := by
      cases neg with
      | false => rfl
      | true => have := hneg rfl; omega
    have h1 : s.size = 1 := by rw [hsz, hm0, dd_one 0 (by omega)]; rfl
    refine EvP.neg (by omega) ?_
    rw [hn] at go ⊢
    exact go
theorem spec_l9Num_itoa (n : Int) (h0 : -1000000 ≤ n) (h1 : n ≤ 1000000) : EvP (fun k => spec_l9Num.f k (mk (Lib.itoa n))) (· = (n, true)) := by
  obtain ⟨m, neg, hm, hn, hneg, e⟩ := itoa_cases n h0 h1
  have hl := dd_seven m hm
  have hsz : (mk (Lib.itoa n)).size = (Lib.itoa n).length := mk_size _
  unfold spec_l9Num.f
  cases neg with
  | true =>
    simp only [if_true] at hn e
    obtain ⟨hb, _, _, _⟩ := bt_list (s := mk (Lib.itoa n)) (i := 0) (b := 45) (r := Lib.decDigits m) (by rw [mk_list, e]; rfl)
    have hb' : bt (mk (Lib.itoa n)) 0 = 45 := hb
    have hlen : (Lib.itoa n).length = (Lib.decDigits m).length + 1 := by rw [e]; rfl
    refine EvP.pos (by omega) (EvP.pos (by omega) ?_)
    have e45 : (bt (mk (Lib.itoa n)) 0 == 45) = true := by rw [hb']; rfl
    rw [e45]
    refine EvP.step (fun k => by rw [spec_l9Num.j0]) ?_
    refine EvP.pos rfl (EvP.pos (by omega) ?_)
    have := l9Num_j1 ((mk (Lib.itoa n)).extract 1 (mk (Lib.itoa n)).size) true m hm hneg (by rw [ext_list, mk_list, hsz, List.take_length, e]; rfl)
    simp only [if_true] at this
    rw [hn]
    rw [hn] at this
    exact this
  | false =>
    simp only [Bool.false_eq_true, if_false] at hn e
    cases hd : Lib.decDigits m with
    | nil => rw [hd] at hl; simp at hl
    | cons b r =>
      obtain ⟨hb, _, _, _⟩ := bt_list (s := mk (Lib.itoa n)) (i := 0) (b := b) (r := r) (by rw [mk_list, e, hd]; rfl)
      have hb' : bt (mk (Lib.itoa n)) 0 = (b.toNat : Int) := hb
      have hbd := dd_mem m b (by rw [hd]; simp)
      have hlen : (Lib.itoa n).length = (Lib.decDigits m).length := by rw [e]
      refine EvP.pos (by omega) (EvP.pos (by omega) ?_)
      have e45 : (bt (mk (Lib.itoa n)) 0 == 45) = false := by rw [hb']; exact beq_eq_false_iff_ne.2 (by omega)
      rw [e45]
      refine EvP.step (fun k => by rw [spec_l9Num.j0]) ?_
      refine EvP.neg (by decide) ?_
      have := l9Num_j1 (mk (Lib.itoa n)) false m hm hneg (by rw [mk_list, e])
      simp only [Bool.false_eq_true, if_false] at this
      rw [hn]
      rw [hn] at this
      exact this

/-! ### A posting's text, cut -/
def legWord (x : S45) : List UInt8 := x.f0.data.toList ++ 58 :: (Lib.itoa x.f1 ++ 58 :: Lib.itoa x.f2)
theorem legText_word (x : S45) : legText x = 32 :: legWord x := rfl
theorem ba_inj {a b : ByteArray} (h : a.toList = b.toList) : a = b := by
  rw [ByteArray.toList_eq, ByteArray.toList_eq] at h
  exact ByteArray.ext (Array.toList_inj.1 h)
theorem letters_list (s : ByteArray) : ∀ (d i : Nat), i + d = s.size → lettersB s d (i : Int) = true → ∀ b ∈ s.data.toList.drop i, 97 ≤ b.toNat ∧ b.toNat ≤ 122 := by
  intro d
  induction d with
  | zero =>
    intro i h _ b hb
    rw [List.drop_eq_nil_of_le (by rw [data_len]; omega)] at hb
    simp at hb
  | succ d ih =>
    intro i h hl b hb
    have hlt : i < s.data.toList.length := by rw [data_len]; omega
    have hd := List.drop_eq_getElem_cons hlt
    obtain ⟨hbt, _, _, _⟩ := bt_list hd
    simp only [lettersB, Bool.and_eq_true, decide_eq_true_eq] at hl
    rw [hd] at hb
    rcases List.mem_cons.1 hb with rfl | hb
    · rw [hbt] at hl
      omega
    · exact ih (i + 1) (by omega) hl.2 b hb
theorem acct_mem {s : ByteArray} (h : acctB s = true) : ∀ b ∈ s.data.toList, 97 ≤ b.toNat ∧ b.toNat ≤ 122 := by
  simp only [acctB, Bool.and_eq_true, decide_eq_true_eq] at h
  exact letters_list s s.size 0 (by omega) h.2
theorem leg_acct {x : S45} (h : legOkB x = true) : acctB x.f0 = true := by
  simp only [legOkB, legB, Bool.and_eq_true] at h
  exact h.1.1.1.1.1
theorem legWord_mem {x : S45} (h : legOkB x = true) : ∀ b ∈ legWord x, (97 ≤ b.toNat ∧ b.toNat ≤ 122) ∨ (48 ≤ b.toNat ∧ b.toNat ≤ 57) ∨ b.toNat = 58 ∨ b.toNat = 45 := by
  intro b hb
  unfold legWord at hb
  rcases List.mem_append.1 hb with hb | hb
  · exact .inl (acct_mem (leg_acct h) b hb)
  · rcases List.mem_cons.1 hb with rfl | hb
    · exact .inr (.inr (.inl rfl))
    · rcases List.mem_append.1 hb with hb | hb
      · rcases itoa_mem _ b hb with h | h
        · exact .inr (.inr (.inr h))
        · exact .inr (.inl h)
      · rcases List.mem_cons.1 hb with rfl | hb
        · exact .inr (.inr (.inl rfl))
        · rcases itoa_mem _ b hb with h | h
          · exact .inr (.inr (.inr h))
          · exact .inr (.inl h)
theorem okByte_of {b : UInt8} (h : b.toNat = 32 ∨ (97 ≤ b.toNat ∧ b.toNat ≤ 122) ∨ (48 ≤ b.toNat ∧ b.toNat ≤ 57) ∨ b.toNat = 58 ∨ b.toNat = 45) : okByte b = true := by
  simp only [okByte, Bool.or_eq_true, Bool.and_eq_true, decide_eq_true_eq]
  omega
theorem legWord_free {x : S45} (h : legOkB x = true) : (32 : UInt8) ∉ legWord x := fun hm => by
  have e : (32 : UInt8).toNat = 32 := rfl
  have := legWord_mem h 32 hm
  omega
theorem acct_free {s : ByteArray} (h : acctB s = true) : (58 : UInt8) ∉ s.data.toList := fun hm => by
  have e : (58 : UInt8).toNat = 58 := rfl
  have := acct_mem h 58 hm
  omega
theorem post_ok {id : Int} {xs : List S45} (h : xs.all legOkB = true) : (postText id xs).all okByte = true := by
  refine List.all_eq_true.2 fun b hb => okByte_of ?_
  unfold postText at hb
  rcases List.mem_append.1 hb with hb | hb
  · have := itoa_mem _ b hb
    omega
  · obtain ⟨x, hx, hb⟩ := List.mem_flatMap.1 hb
    rw [legText_word] at hb
    rcases List.mem_cons.1 hb with rfl | hb
    · exact .inl rfl
    · exact .inr (legWord_mem (List.all_eq_true.1 h x hx) b hb)
theorem split_words : ∀ (xs : List S45) (pend : List UInt8), xs.all legOkB = true → splitA 32 pend (xs.flatMap legText) = pend :: xs.map legWord := by
  intro xs
  induction xs with
  | nil => intro pend _; rfl
  | cons x r ih =>
    intro pend h
    simp only [List.all_cons, Bool.and_eq_true] at h
    rw [List.flatMap_cons, legText_word, List.cons_append, splitA_at, splitA_free _ _ _ (legWord_free h.1), List.nil_append, ih _ h.2, List.map_cons]
theorem split_post {id : Int} {xs : List S45} (h : xs.all legOkB = true) : splitA 32 [] (postText id xs) = Lib.itoa id :: xs.map legWord := by
  unfold postText
  rw [splitA_free _ _ _ (itoa_free id 32 (by decide)), List.nil_append, split_words xs _ h]
theorem split_none {c : UInt8} {w pend : List UInt8} (h : c ∉ w) : splitA c pend w = [pend ++ w] := by
  have := splitA_free w pend [] h
  rw [List.append_nil] at this
  rw [this]
  rfl
theorem split_leg {x : S45} (h : legOkB x = true) : splitA 58 [] (legWord x) = [x.f0.data.toList, Lib.itoa x.f1, Lib.itoa x.f2] := by
  unfold legWord
  rw [splitA_free _ _ _ (acct_free (leg_acct h)), splitA_at, splitA_free _ _ _ (itoa_free x.f1 58 (by decide)), splitA_at, split_none (itoa_free x.f2 58 (by decide))]
  simp
theorem index_at : ∀ (w r : List UInt8) (c : UInt8), c ∉ w → Lib.indexByte (w ++ c :: r) c = (w.length : Int) := by
  intro w
  induction w with
  | nil => intro r c _; simp [Lib.indexByte]
  | cons b w ih =>
    intro r c h
    simp only [List.mem_cons, not_or] at h
    have h1 := ih r c h.2
    have hb : (b == c) = false := beq_eq_false_iff_ne.2 (fun e => h.1 e.symm)
    rw [List.cons_append, Lib.indexByte, h1]
    simp [hb]
theorem mk_extract (l : List UInt8) (a b : Nat) : (mk l).extract a b = mk ((l.take b).drop a) := ext_mk (by rw [mk_list])
theorem drop_past (w r : List UInt8) (c : UInt8) : (w ++ c :: r).drop (w.length + 1) = r := by
  rw [List.drop_append, List.drop_eq_nil_of_le (by omega), show w.length + 1 - w.length = 1 by omega]
  rfl
theorem legRead_word {x : S45} (h : legOkB x = true) : legReadOf (mk (legWord x)) = some x := by
  obtain ⟨h1, h2, h3, h4, h5⟩ := legB_bounds h
  have c1 : colonAt (mk (legWord x)) = (x.f0.data.toList.length : Int) := by
    unfold colonAt
    rw [mk_list]
    exact index_at _ _ _ (acct_free (leg_acct h))
  have e1 : (mk (legWord x)).extract (x.f0.data.toList.length + 1) (mk (legWord x)).size = mk (Lib.itoa x.f1 ++ 58 :: Lib.itoa x.f2) := by
    rw [mk_extract, mk_size, List.take_length]
    unfold legWord
    rw [drop_past]
  have c2 : colonAt (mk (Lib.itoa x.f1 ++ 58 :: Lib.itoa x.f2)) = ((Lib.itoa x.f1).length : Int) := by
    unfold colonAt
    rw [mk_list]
    exact index_at _ _ _ (itoa_free x.f1 58 (by decide))
  have e2 : (mk (Lib.itoa x.f1 ++ 58 :: Lib.itoa x.f2)).extract 0 (Lib.itoa x.f1).length = mk (Lib.itoa x.f1) := by
    rw [mk_extract]
    simp
  have e3 : (mk (Lib.itoa x.f1 ++ 58 :: Lib.itoa x.f2)).extract ((Lib.itoa x.f1).length + 1) (mk (Lib.itoa x.f1 ++ 58 :: Lib.itoa x.f2)).size = mk (Lib.itoa x.f2) := by
    rw [mk_extract, mk_size, List.take_length, drop_past]
  have e4 : (mk (legWord x)).extract 0 x.f0.data.toList.length = x.f0 := by
    rw [mk_extract]
    unfold legWord
    rw [List.take_left', List.drop_zero, mk_of]
    rfl
  unfold legReadOf
  rw [c1, if_neg (by omega), Int.toNat_natCast, e1, c2, if_neg (by omega), Int.toNat_natCast, e2, e3, e4, numOf_itoa x.f1 (by omega) (by omega), numOf_itoa x.f2 (by omega) (by omega)]
  rfl
theorem legsRead_words : ∀ (xs : List S45), xs.all legOkB = true → legsReadOf ((xs.map legWord).map mk) = some xs := by
  intro xs
  induction xs with
  | nil => intro _; rfl
  | cons x r ih =>
    intro h
    simp only [List.all_cons, Bool.and_eq_true] at h
    simp only [List.map_cons, legsReadOf, legRead_word h.1, ih h.2, Option.bind_some]
theorem legRead_size {s : ByteArray} {x : S45} (h : legReadOf s = some x) : x.f0.size ≤ s.size := by
  unfold legReadOf at h
  split at h
  · cases h
  · split at h
    · cases h
    · obtain ⟨c, _, h⟩ := Option.bind_eq_some_iff.1 h
      obtain ⟨n, _, h⟩ := Option.bind_eq_some_iff.1 h
      obtain rfl := Option.some.inj h
      simp only [ByteArray.size_extract]
      omega
theorem legsRead_sound : ∀ (ws : List ByteArray) (xs : List S45), (∀ w ∈ ws, w.size ≤ 1048576) → legsReadOf ws = some xs → Sound xs := by
  intro ws
  induction ws with
  | nil =>
    intro xs _ h
    obtain rfl := Option.some.inj h
    intro x hx
    simp at hx
  | cons w r ih =>
    intro xs hw h
    simp only [legsReadOf] at h
    obtain ⟨l, h1, h⟩ := Option.bind_eq_some_iff.1 h
    obtain ⟨ls, h2, h⟩ := Option.bind_eq_some_iff.1 h
    obtain rfl := Option.some.inj h
    intro x hx
    rcases List.mem_cons.1 hx with rfl | hx
    · have := legRead_size h1
      have := hw w (by simp)
      omega
    · exact ih ls (fun y hy => hw y (by simp [hy])) h2 x hx
/-! ### Read, the implementation's way -/
/-- A posting that is read, or nothing. -/
def ReadR (s : ByteArray) (r : Int × List S45 × Bool) : Prop := r = (0, [], false) ∨ ∃ id xs, postB id xs = true ∧ s = mk (postText id xs) ∧ r = (id, xs, true)
theorem textB_mk {id : Int} {xs : List S45} (h : postB id xs = true) : textB id xs = mk (postText id xs) := by
  unfold textB
  rw [if_pos h]
  rfl
theorem postB_len {id : Int} {xs : List S45} (h : postB id xs = true) : 1 ≤ xs.length := by
  unfold postB headB at h
  simp only [Bool.and_eq_true, decide_eq_true_eq] at h
  exact h.1.1.2
theorem postText_length {id : Int} {xs : List S45} (h : postB id xs = true) : (postText id xs).length ≤ 300 := by
  obtain ⟨h0, h1, h2, h3⟩ := postB_bounds h
  have l1 := Lib.itoa_length_le id (by omega) (by omega)
  have l2 := legsText_length xs h3
  unfold postText
  rw [List.length_append]
  omega
theorem postText_ne (id : Int) (xs : List S45) : 1 ≤ (postText id xs).length := by
  have h : Lib.itoa id ≠ [] := by
    unfold Lib.itoa
    split
    · simp
    · exact dd_ne _
  have := List.length_pos_iff.2 h
  unfold postText
  rw [List.length_append]
  omega
theorem sound_post {id : Int} {xs : List S45} (h : postB id xs = true) : Sound xs := by
  intro x hx
  have := legB_bounds (List.all_eq_true.1 (postB_bounds h).2.2.2 x hx)
  omega
theorem impl_read_exact {id : Int} {xs : List S45} (h : postB id xs = true) : EvP (fun k => impl_PostRead.f k (mk (postText id xs))) (· = (id, xs, true)) := by
  obtain ⟨h0, h1, h2, h3⟩ := postB_bounds h
  have h4 := postB_len h
  have hl := postText_length h
  have hp : piecesOf (mk (postText id xs)) = ((Lib.itoa id :: xs.map legWord).map mk, true) := by
    rw [piecesOf_eq, mk_list, if_pos (post_ok h3), split_post h3]
  unfold impl_PostRead.f
  refine EvP.pos (by rw [mk_size]; omega) ?_
  have hc : (piecesOf (mk (postText id xs))).2 = true ∧ 2 ≤ (piecesOf (mk (postText id xs))).1.length ∧ (piecesOf (mk (postText id xs))).1.length ≤ 5 := by
    rw [hp]
    simp
    omega
  have e0 : numOf (rdOf ByteArray.empty (piecesOf (mk (postText id xs))).1 0) = some id := by
    rw [hp]
    exact numOf_itoa id (by omega) (by omega)
  have e1 : legsReadOf ((piecesOf (mk (postText id xs))).1.drop 1) = some xs := by
    rw [hp]
    exact legsRead_words xs h3
  refine EvP.pos hc ?_
  rw [e0, e1]
  refine EvP.bind (impl_PostOk_ev id xs (sound_post h)) ?_
  rintro _ rfl
  refine EvP.pos h (EvP.bind (impl_PostText_ev id xs (sound_post h)) ?_)
  rintro _ rfl
  exact EvP.pos (by rw [textB_mk h]) (EvP.now rfl)
theorem impl_read_sound (s : ByteArray) (hs : s.size ≤ 1048576) : EvP (fun k => impl_PostRead.f k s) (ReadR s) := by
  unfold impl_PostRead.f
  refine EvP.pos hs (EvP.split (fun hc => ?_) (fun _ => EvP.now (.inl rfl)))
  cases e0 : numOf (rdOf ByteArray.empty (piecesOf s).1 0) with
  | none => exact EvP.now (.inl rfl)
  | some id =>
    cases e1 : legsReadOf ((piecesOf s).1.drop 1) with
    | none => exact EvP.now (.inl rfl)
    | some xs =>
      have hx : Sound xs := legsRead_sound _ _ (fun w hw => Nat.le_trans (pieces_sizes s s.size 0 0 [] (fun x hx => by simp at hx) w (List.mem_of_mem_drop hw)) hs) e1
      refine EvP.bind (impl_PostOk_ev id xs hx) ?_
      rintro _ rfl
      refine EvP.split (fun h => ?_) (fun _ => EvP.now (.inl rfl))
      refine EvP.bind (impl_PostText_ev id xs hx) ?_
      rintro _ rfl
      refine EvP.split (fun ht => EvP.now (.inr ⟨id, xs, h, ?_, rfl⟩)) (fun _ => EvP.now (.inl rfl))
      rw [← ba_inj ht, textB_mk h]
/-! ### Read, the reference's way -/
theorem spec_l1Leg_exact {x : S45} (h : legOkB x = true) : EvP (fun k => spec_l1Leg.f k (mk (legWord x))) (· = (x.f0, x.f1, x.f2, true)) := by
  obtain ⟨h1, h2, h3, h4, h5⟩ := legB_bounds h
  have hl := legText_length h
  rw [legText_word, List.length_cons] at hl
  unfold spec_l1Leg.f
  refine EvP.bind (spec_l9Cut_ev (mk (legWord x)) 58 (by rw [mk_size]; omega)) ?_
  rintro _ rfl
  rw [mk_list, split_leg h]
  refine EvP.pos rfl (EvP.pos (by simp) (EvP.bind (spec_l9Num_itoa x.f1 (by omega) (by omega)) ?_))
  rintro _ rfl
  refine EvP.pos (by simp) (EvP.bind (spec_l9Num_itoa x.f2 (by omega) (by omega)) ?_)
  rintro _ rfl
  refine EvP.pos (by simp) (EvP.pos rfl (EvP.now ?_))
  show (mk x.f0.data.toList, x.f1, x.f2, true) = _
  rw [mk_of]
theorem rdOf_size (ws : List ByteArray) (n : Nat) (h : ∀ w ∈ ws, w.size ≤ n) (i : Int) : (rdOf ByteArray.empty ws i).size ≤ n := by
  unfold rdOf
  rcases Nat.lt_or_ge i.toNat ws.length with hi | hi
  · simp only [List.getD_eq_getElem?_getD, List.getElem?_eq_getElem hi, Option.getD_some]
    exact h _ (List.getElem_mem hi)
  · simp only [List.getD_eq_getElem?_getD, List.getElem?_eq_none hi, Option.getD_none]
    exact Nat.zero_le _
theorem cut_sizes (s : ByteArray) (c : UInt8) : ∀ w ∈ (splitA c [] s.data.toList).map mk, w.size ≤ s.size := by
  intro w hw
  obtain ⟨l, hl, rfl⟩ := List.mem_map.1 hw
  have := (splitA_len c s.data.toList []).2 l hl
  rw [data_len] at this
  rw [mk_size]
  simpa using this
theorem spec_l1Leg_any (s : ByteArray) (hs : s.size ≤ 1048576) : EvP (fun k => spec_l1Leg.f k s) (fun r => r.1.size ≤ 1048576) := by
  unfold spec_l1Leg.f
  refine EvP.bind (spec_l9Cut_ev s 58 hs) ?_
  rintro _ rfl
  have hz : ∀ i : Int, (rdOf ByteArray.empty ((splitA 58 [] s.data.toList).map mk) i).size ≤ 1048576 := fun i => Nat.le_trans (rdOf_size _ _ (cut_sizes s 58) i) hs
  refine EvP.split (fun h3 => ?_) (fun _ => EvP.now (Nat.zero_le _))
  refine EvP.pos (by omega) (EvP.bind (spec_l9Num_any _ (hz 1)) (fun a _ => ?_))
  refine EvP.pos (by omega) (EvP.bind (spec_l9Num_any _ (hz 2)) (fun b _ => ?_))
  exact EvP.pos (by omega) (EvP.split (fun _ => EvP.now (hz 0)) (fun _ => EvP.now (hz 0)))
theorem spec_read_j1 (s : ByteArray) (ok : Bool) (id : Int) (xs : List S45) (hx : Sound xs) : EvP (fun k => spec_PostRead.j1 k s ok id xs) (ReadR s) := by
  have no : EvP (fun k => spec_PostRead.j2 k true id xs) (ReadR s) := EvP.step (fun k => by rw [spec_PostRead.j2]) (EvP.pos rfl (EvP.now (.inl rfl)))
  refine EvP.step (fun k => by rw [spec_PostRead.j1]) ?_
  refine EvP.split (fun _ => ?_) (fun _ => no)
  refine EvP.bind (spec_PostOk_ev id xs hx) ?_
  rintro _ rfl
  refine EvP.split (fun h => ?_) (fun _ => no)
  refine EvP.bind (spec_PostText_ev id xs hx) ?_
  rintro _ rfl
  refine EvP.step (fun k => by rw [spec_PostRead.j2]) (EvP.split (fun _ => EvP.now (.inl rfl)) (fun ht => EvP.now (.inr ⟨id, xs, h, ?_, rfl⟩)))
  rw [← ba_inj (show (textB id xs).toList = s.toList by simpa using ht), textB_mk h]
theorem spec_read_j1_exact {id : Int} {xs : List S45} (h : postB id xs = true) : EvP (fun k => spec_PostRead.j1 k (mk (postText id xs)) true id xs) (· = (id, xs, true)) := by
  refine EvP.step (fun k => by rw [spec_PostRead.j1]) ?_
  refine EvP.pos rfl (EvP.bind (spec_PostOk_ev id xs (sound_post h)) ?_)
  rintro _ rfl
  refine EvP.pos h (EvP.bind (spec_PostText_ev id xs (sound_post h)) ?_)
  rintro _ rfl
  refine EvP.step (fun k => by rw [spec_PostRead.j2]) (EvP.neg ?_ (EvP.now rfl))
  rw [textB_mk h]
  simp
theorem spec_read_l0 (s : ByteArray) (ws : List ByteArray) (hw : ∀ w ∈ ws, w.size ≤ 1048576) (id : Int) : ∀ (d n : Nat) (ok : Bool) (xs : List S45), n + d = 6 → xs.length ≤ n → Sound xs → EvP (fun k => spec_PostRead.l0 k s ws ok (n : Int) id xs) (ReadR s) := by
  intro d
  induction d with
  | zero =>
    intro n ok xs hn hl hx
    refine EvP.step (fun k => by rw [spec_PostRead.l0]) ?_
    exact EvP.split (fun _ => EvP.neg (by omega) (spec_read_j1 s ok id xs hx)) (fun _ => spec_read_j1 s ok id xs hx)
  | succ d ih =>
    intro n ok xs hn hl hx
    refine EvP.step (fun k => by rw [spec_PostRead.l0]) ?_
    refine EvP.split (fun _ => EvP.pos (by omega) (EvP.pos (by omega) ?_)) (fun _ => spec_read_j1 s ok id xs hx)
    refine EvP.bind (spec_l1Leg_any _ (rdOf_size ws _ hw _)) (fun r hr => ?_)
    have e1 : wrap64 ((n : Int) + 1) = ((n + 1 : Nat) : Int) := (w64 (by omega) (by omega)).trans (by omega)
    have hx' : Sound (xs ++ [(⟨r.1, r.2.1, r.2.2.1⟩ : S45)]) := by
      intro y hy
      rcases List.mem_append.1 hy with hy | hy
      · exact hx y hy
      · rw [List.mem_singleton.1 hy]
        show r.1.size ≤ _
        omega
    rw [e1]
    exact EvP.split (fun _ => EvP.pos (by omega) (ih (n + 1) _ _ (by omega) (by simp; omega) hx')) (fun _ => EvP.pos (by omega) (ih (n + 1) _ _ (by omega) (by simp; omega) hx'))
theorem spec_read_sound (s : ByteArray) (hs : s.size ≤ 1048576) : EvP (fun k => spec_PostRead.f k s) (ReadR s) := by
  unfold spec_PostRead.f
  refine EvP.bind (spec_l9Cut_ev s 32 hs) ?_
  rintro _ rfl
  have hz : ∀ w ∈ (splitA 32 [] s.data.toList).map mk, w.size ≤ 1048576 := fun w hw => Nat.le_trans (cut_sizes s 32 w hw) hs
  have hne := splitA_ne 32 s.data.toList []
  have hpos : 0 < ((splitA 32 [] s.data.toList).map mk).length := by
    rw [List.length_map]
    exact List.length_pos_iff.2 hne
  refine EvP.pos (by omega) (EvP.bind (spec_l9Num_any _ (rdOf_size _ _ hz _)) (fun r _ => ?_))
  exact spec_read_l0 s _ hz r.1 5 1 r.2 [] rfl (by simp) (fun x hx => by simp at hx)
theorem spec_read_l0_exact {id : Int} {xs : List S45} (h : postB id xs = true) : ∀ (rest pre : List S45), xs = pre ++ rest → EvP (fun k => spec_PostRead.l0 k (mk (postText id xs)) ((Lib.itoa id :: xs.map legWord).map mk) true ((pre.length + 1 : Nat) : Int) id pre) (· = (id, xs, true)) := by
  obtain ⟨h0, h1, h2, h3⟩ := postB_bounds h
  intro rest
  induction rest with
  | nil =>
    intro pre e
    rw [List.append_nil] at e
    subst e
    refine EvP.step (fun k => by rw [spec_PostRead.l0]) (EvP.neg (by simp) (spec_read_j1_exact h))
  | cons x rest ih =>
    intro pre e
    have hl : xs.length = pre.length + (rest.length + 1) := by rw [e]; simp
    have hx : legOkB x = true := List.all_eq_true.1 h3 x (by rw [e]; simp)
    have hr : rdOf ByteArray.empty ((Lib.itoa id :: xs.map legWord).map mk) ((pre.length + 1 : Nat) : Int) = mk (legWord x) := by
      rw [e]
      simp [rdOf]
    refine EvP.step (fun k => by rw [spec_PostRead.l0]) (EvP.pos (by simp; omega) (EvP.pos (by omega) (EvP.pos (by omega) ?_)))
    rw [hr]
    refine EvP.bind (spec_l1Leg_exact hx) ?_
    rintro _ rfl
    have e1 : wrap64 (((pre.length + 1 : Nat) : Int) + 1) = (((pre ++ [x]).length + 1 : Nat) : Int) := by rw [w64 (by omega) (by omega)]; simp
    rw [e1]
    exact EvP.pos rfl (EvP.pos (by omega) (ih (pre ++ [x]) (by rw [e]; simp)))
theorem spec_read_exact {id : Int} {xs : List S45} (h : postB id xs = true) : EvP (fun k => spec_PostRead.f k (mk (postText id xs))) (· = (id, xs, true)) := by
  obtain ⟨h0, h1, h2, h3⟩ := postB_bounds h
  have hl := postText_length h
  unfold spec_PostRead.f
  refine EvP.bind (spec_l9Cut_ev (mk (postText id xs)) 32 (by rw [mk_size]; omega)) ?_
  rintro _ rfl
  rw [mk_list, split_post h3]
  refine EvP.pos (by simp) (EvP.bind (spec_l9Num_itoa id (by omega) (by omega)) ?_)
  rintro _ rfl
  exact spec_read_l0_exact h xs [] rfl
/-- Both read the same. -/
theorem read_same (s : ByteArray) (hs : s.size ≤ 1048576) : ∃ r : Int × List S45 × Bool, ReadR s r ∧ EvP (fun k => spec_PostRead.f k s) (· = r) ∧ EvP (fun k => impl_PostRead.f k s) (· = r) := by
  by_cases h : ∃ id xs, postB id xs = true ∧ s = mk (postText id xs)
  · obtain ⟨id, xs, hp, rfl⟩ := h
    exact ⟨(id, xs, true), .inr ⟨id, xs, hp, rfl, rfl⟩, spec_read_exact hp, impl_read_exact hp⟩
  · have no : ∀ r, ReadR s r → r = (0, [], false) := fun r hr => by
      rcases hr with hr | ⟨id, xs, hp, e, _⟩
      · exact hr
      · exact absurd ⟨id, xs, hp, e⟩ h
    exact ⟨(0, [], false), .inl rfl, (spec_read_sound s hs).mono no, (impl_read_sound s hs).mono no⟩
theorem readR_len {s : ByteArray} {r : Int × List S45 × Bool} (h : ReadR s r) : r.2.1.length ≤ 4 := by
  rcases h with rfl | ⟨id, xs, hp, _, rfl⟩
  · simp
  · exact (postB_bounds hp).2.2.1

/-! ### The reader of draws -/
/-- Bytes, at most 2000 of them. -/
structure Bytes (l : List Int) : Prop where
  len : l.length ≤ 2000
  lo : ∀ j, 0 ≤ rd l j
  hi : ∀ j, rd l j ≤ 255
theorem rd_range {l : List Int} (h : ∀ x ∈ l, 0 ≤ x ∧ x ≤ 255) (j : Int) : 0 ≤ rd l j ∧ rd l j ≤ 255 := by
  unfold rd
  rw [List.getD_eq_getElem?_getD]
  rcases Nat.lt_or_ge j.toNat l.length with hj | hj
  · rw [List.getElem?_eq_getElem hj]
    exact h _ (List.getElem_mem hj)
  · rw [List.getElem?_eq_none hj]
    simp
theorem u8_range {l : List Int} (h : ∀ x ∈ l, (Lit.int .u8 x).wf = true) : ∀ x ∈ l, 0 ≤ x ∧ x ≤ 255 := by
  intro x hx
  have := h x hx
  simp [Lit.wf, IntKind.min, IntKind.max, IntKind.signed, IntKind.bits] at this
  omega
theorem spec_l9Open_ev (l : List Int) (h : ∀ x ∈ l, (Lit.int .u8 x).wf = true) : EvP (fun _ => spec_l9Open.f l) (fun r => Bytes r.1 ∧ r.2 = 0) := by
  unfold spec_l9Open.f
  have hu := u8_range h
  refine EvP.split (fun h1 => EvP.pos (by omega) (EvP.now ⟨⟨?_, fun j => ?_, fun j => ?_⟩, rfl⟩)) (fun h1 => EvP.now ⟨⟨?_, fun j => ?_, fun j => ?_⟩, rfl⟩)
  · simp; omega
  · exact (rd_range (fun x hx => hu x (List.mem_of_mem_take hx)) j).1
  · exact (rd_range (fun x hx => hu x (List.mem_of_mem_take hx)) j).2
  · show l.length ≤ 2000
    omega
  · exact (rd_range hu j).1
  · exact (rd_range hu j).2
theorem xor_nonneg (x y : Int) (h0 : 0 ≤ x) (h1 : x < 2 ^ 62) (h2 : 0 ≤ y) (h3 : y < 2 ^ 62) : 0 ≤ bits .xor .i64 x y := by
  obtain ⟨a, rfl⟩ := Int.eq_ofNat_of_zero_le h0
  obtain ⟨b, rfl⟩ := Int.eq_ofNat_of_zero_le h2
  rw [xor64 a b (by omega) (by omega)]
  exact Int.natCast_nonneg _
/-- What a pick gives: one place on; a number below n, or 0. -/
def Picked (p n : Int) (r : Int × Int) : Prop := r.2 = p + 1 ∧ 0 ≤ r.1 ∧ (1 ≤ n → r.1 < n) ∧ (n < 1 → r.1 = 0)
theorem picked_mod {p n x : Int} (hn : ¬ n < 1) (hx : 0 ≤ x) : Picked p n (Int.tmod x n, p + 1) :=
  ⟨rfl, Int.tmod_nonneg _ hx, fun _ => Int.tmod_lt_of_pos _ (by omega), fun h => absurd h hn⟩
theorem spec_l9Rd_pick_ev (l : List Int) (hl : Bytes l) (p n : Int) (h0 : 0 ≤ p) (h1 : p ≤ 1000000000000) : EvP (fun k => spec_l9Rd_pick.f k l p n) (Picked p n) := by
  unfold spec_l9Rd_pick.f
  have e1 : wrap64 (p + 1) = p + 1 := w64 (by omega) (by omega)
  have e2 : wrap64 (p + 1 - 1) = p := by rw [w64 (by omega) (by omega)]; omega
  rw [e1]
  refine EvP.split (fun h => ?_) (fun hn => ?_)
  · refine EvP.step (fun k => by rw [spec_l9Rd_pick.j0]) (EvP.pos rfl (EvP.now ?_))
    exact ⟨rfl, Int.le_refl _, fun h' => absurd h (by omega), fun _ => rfl⟩
  · refine EvP.step (fun k => by rw [spec_l9Rd_pick.j0]) (EvP.split (fun h => EvP.now ?_) (fun hz => ?_))
    · exact ⟨rfl, Int.le_refl _, fun h' => by show (0 : Int) < n; omega, fun _ => rfl⟩
    · have hz' : ¬ (l.length : Int) = 0 := fun h => hz (by simp [h])
      have hpos : 0 < (l.length : Int) := by omega
      have hlen : (l.length : Int) ≤ 2000 := by have := hl.len; omega
      rw [e2]
      refine EvP.split (fun h => EvP.pos h0 (EvP.neg (by omega) (EvP.now ?_))) (fun h => EvP.neg hz' ?_)
      · have := hl.lo p
        have := hl.hi p
        rw [w64 (by omega) (by omega)]
        exact picked_mod hn (by omega)
      · have a0 : 0 ≤ Int.tmod p (l.length : Int) := Int.tmod_nonneg _ h0
        have a1 : Int.tmod p (l.length : Int) < (l.length : Int) := Int.tmod_lt_of_pos _ hpos
        have e7 : wrap64 (wrap64 (p * 7) + 3) = p * 7 + 3 := by rw [w64 (x := p * 7) (by omega) (by omega), w64 (by omega) (by omega)]
        have c0 : 0 ≤ Int.tmod (p * 7 + 3) (l.length : Int) := Int.tmod_nonneg _ (by omega)
        have c1 : Int.tmod (p * 7 + 3) (l.length : Int) < (l.length : Int) := Int.tmod_lt_of_pos _ hpos
        rw [e7]
        refine EvP.pos a0 (EvP.pos a1 (EvP.pos c0 (EvP.pos c1 (EvP.neg (by omega) (EvP.now ?_)))))
        have b0 := hl.lo (Int.tmod p (l.length : Int))
        have b1 := hl.hi (Int.tmod p (l.length : Int))
        have d0 := hl.lo (Int.tmod (p * 7 + 3) (l.length : Int))
        have d1 := hl.hi (Int.tmod (p * 7 + 3) (l.length : Int))
        have q0 : 0 ≤ Int.tdiv p (l.length : Int) := Int.tdiv_nonneg h0 (by omega)
        have q1 : Int.tdiv p (l.length : Int) ≤ p := by
          rw [Int.tdiv_eq_ediv_of_nonneg h0]
          exact Int.ediv_le_self _ h0
        refine picked_mod hn ?_
        generalize Int.tdiv p (l.length : Int) = q at q0 q1 ⊢
        generalize rd l (Int.tmod p (l.length : Int)) = b at b0 b1 ⊢
        generalize rd l (Int.tmod (p * 7 + 3) (l.length : Int)) = d at d0 d1 ⊢
        have f1 : wrap64 b = b := w64 (by omega) (by omega)
        have f2 : wrap64 d = d := w64 (by omega) (by omega)
        have f3 : wrap64 q = q := w64 (by omega) (by omega)
        have f4 : wrap64 (b * 131) = b * 131 := w64 (by omega) (by omega)
        have f5 : wrap64 (d * 1117) = d * 1117 := w64 (by omega) (by omega)
        have f6 : wrap64 (p * 29) = p * 29 := w64 (by omega) (by omega)
        have f7 : wrap64 (q * 53) = q * 53 := w64 (by omega) (by omega)
        have f8 : wrap64 (b * 131 + d * 1117) = b * 131 + d * 1117 := w64 (by omega) (by omega)
        have f9 : wrap64 (b * 131 + d * 1117 + p * 29) = b * 131 + d * 1117 + p * 29 := w64 (by omega) (by omega)
        have f10 : wrap64 (b * 131 + d * 1117 + p * 29 + q * 53) = b * 131 + d * 1117 + p * 29 + q * 53 := w64 (by omega) (by omega)
        rw [f1, f2, f3, f4, f5, f6, f7, f8, f9, f10]
        have g0 : 0 ≤ b * 131 + d * 1117 + p * 29 + q * 53 := by omega
        have g1 : b * 131 + d * 1117 + p * 29 + q * 53 < 2 ^ 62 := by omega
        generalize b * 131 + d * 1117 + p * 29 + q * 53 = x at g0 g1 ⊢
        have g2 : Int.tdiv x 64 = x / 64 := Int.tdiv_eq_ediv_of_nonneg g0
        rw [g2, w64 (x := x / 64) (by omega) (by omega)]
        exact xor_nonneg _ _ g0 g1 (by omega) (by omega)
/-- One of a list of texts. -/
theorem spec_l9Rd_of_ev (l : List Int) (hl : Bytes l) (p : Int) (xs : List ByteArray) (hx : 0 < xs.length) (h0 : 0 ≤ p) (h1 : p ≤ 1000000000000) : EvP (fun k => spec_l9Rd_of.f k l p xs) (fun r => r.2 = p + 1 ∧ r.1 ∈ xs) := by
  unfold spec_l9Rd_of.f
  refine EvP.bind (spec_l9Rd_pick_ev l hl p _ h0 h1) ?_
  rintro ⟨i, q⟩ ⟨hq, hi, hlt, _⟩
  have := hlt (by omega)
  simp only at hq hi this
  refine EvP.pos hi (EvP.pos this (EvP.now ⟨hq, ?_⟩))
  show xs.getD i.toNat ByteArray.empty ∈ xs
  rw [List.getD_eq_getElem?_getD, List.getElem?_eq_getElem (by omega)]
  exact List.getElem_mem _

/-- One of a list of numbers. -/
theorem spec_l9Rd_num_ev (l : List Int) (hl : Bytes l) (p : Int) (xs : List Int) (hx : 0 < xs.length) (h0 : 0 ≤ p) (h1 : p ≤ 1000000000000) : EvP (fun k => spec_l9Rd_num.f k l p xs) (fun r => r.2 = p + 1 ∧ r.1 ∈ xs) := by
  unfold spec_l9Rd_num.f
  refine EvP.bind (spec_l9Rd_pick_ev l hl p _ h0 h1) ?_
  rintro ⟨i, q⟩ ⟨hq, hi, hlt, _⟩
  have := hlt (by omega)
  simp only at hq hi this
  refine EvP.pos hi (EvP.pos this (EvP.now ⟨hq, ?_⟩))
  show xs.getD i.toNat 0 ∈ xs
  rw [List.getD_eq_getElem?_getD, List.getElem?_eq_getElem (by omega)]
  exact List.getElem_mem _

/-! ### Draws of postings -/
/-- All texts that a drawn leg's account may be. -/
def names1 : List ByteArray := [⟨#[97]⟩, ⟨#[98]⟩, ⟨#[97, 98]⟩, ⟨#[99]⟩, ⟨#[99, 97, 115, 104]⟩, ⟨#[97, 97]⟩, ⟨#[]⟩, ⟨#[65]⟩, ⟨#[97, 98, 99, 100, 101]⟩, ⟨#[97, 32, 98]⟩, ⟨#[97, 58]⟩]
theorem names1_small (u : ByteArray) (h : u ∈ names1) : u.size ≤ 5 := by
  simp only [names1, List.mem_cons, List.not_mem_nil, or_false] at h
  rcases h with rfl | rfl | rfl | rfl | rfl | rfl | rfl | rfl | rfl | rfl | rfl <;> simp [ByteArray.size]
theorem names1_none (u : ByteArray) (h : u ∈ names1) : u.toList ≠ (⟨#[110, 111, 110, 101]⟩ : ByteArray).toList := by
  simp only [names1, List.mem_cons, List.not_mem_nil, or_false] at h
  intro e
  rcases h with rfl | rfl | rfl | rfl | rfl | rfl | rfl | rfl | rfl | rfl | rfl <;> simp [ByteArray.toList_eq] at e
/-- Legs that are few, of drawn accounts. -/
structure Few (n : Nat) (xs : List S45) : Prop where
  len : xs.length ≤ n
  names : ∀ x ∈ xs, x.f0 ∈ names1
theorem Few.sound {n : Nat} {xs : List S45} (h : Few n xs) : ∀ x ∈ xs, x.f0.size ≤ 140737488351232 := fun x hx => by have := names1_small _ (h.names x hx); omega
theorem Few.set {n : Nat} {xs : List S45} (h : Few n xs) (i : Nat) (x : S45) (hx : x.f0 ∈ names1) : Few n (xs.set i x) :=
  ⟨by rw [List.length_set]; exact h.len, fun y hy => by
    rcases List.mem_or_eq_of_mem_set hy with hy | rfl
    · exact h.names y hy
    · exact hx⟩
theorem Few.snoc {n : Nat} {xs : List S45} (h : Few n xs) (hl : xs.length < n) (x : S45) (hx : x.f0 ∈ names1) : Few n (xs ++ [x]) :=
  ⟨by simp; omega, fun y hy => by
    rcases List.mem_append.1 hy with hy | hy
    · exact h.names y hy
    · obtain rfl := List.mem_singleton.1 hy
      exact hx⟩
theorem rd_mem {xs : List S45} {i : Int} (h0 : 0 ≤ i) (h1 : i < (xs.length : Int)) : rd_T45 xs i ∈ xs := by
  have hi : i.toNat < xs.length := by omega
  have e : rd_T45 xs i = xs[i.toNat] := by simp [rd_T45, List.getD_eq_getElem?_getD, List.getElem?_eq_getElem hi]
  rw [e]
  exact List.getElem_mem hi
theorem spec_l1Acct_ev (l : List Int) (hl : Bytes l) (p : Int) (h0 : 0 ≤ p) (h1 : p ≤ 900000000000) : EvP (fun k => spec_l1Acct.f k l p) (fun r => r.2 = p + 1 ∧ r.1 ∈ names1) := by
  unfold spec_l1Acct.f
  refine EvP.bind (spec_l9Rd_of_ev l hl p _ (by simp) h0 (by omega)) ?_
  rintro ⟨x, q⟩ ⟨hq, hx⟩
  refine EvP.now ⟨hq, ?_⟩
  simp only [List.mem_cons, List.not_mem_nil, or_false] at hx
  simp only [names1, List.mem_cons, List.not_mem_nil, or_false]
  rcases hx with rfl | rfl | rfl | rfl | rfl | rfl <;> simp
/-- What a drawn posting is like. -/
structure DrawnP (n : Nat) (p d : Int) (r : Int × List S45 × Int) : Prop where
  few : Few n r.2.1
  lo : p ≤ r.2.2
  hi : r.2.2 ≤ p + d
theorem two_few (a b : ByteArray) (c c' n n' : Int) (ha : a ∈ names1) (hb : b ∈ names1) : Few 5 ([⟨a, c, n⟩, ⟨b, c', n'⟩] : List S45) :=
  ⟨by simp, fun x hx => by
    simp only [List.mem_cons, List.not_mem_nil, or_false] at hx
    rcases hx with rfl | rfl
    · exact ha
    · exact hb⟩
theorem spec_l1Post_ev (l : List Int) (hl : Bytes l) (p : Int) (h0 : 0 ≤ p) (h1 : p ≤ 800000000000) : EvP (fun k => spec_l1Post.f k l p) (DrawnP 5 p 9) := by
  unfold spec_l1Post.f
  refine EvP.bind (spec_l9Rd_pick_ev l hl p _ h0 (by omega)) ?_
  rintro ⟨id, p1⟩ ⟨hp1, hid0, hid1, _⟩
  simp only at hp1 hid0 hid1
  refine EvP.bind (spec_l9Rd_num_ev l hl p1 _ (by simp) (by omega) (by omega)) ?_
  rintro ⟨n, p2⟩ ⟨hp2, hn⟩
  simp only at hp2 hn
  refine EvP.bind (spec_l9Rd_pick_ev l hl p2 _ (by omega) (by omega)) ?_
  rintro ⟨c, p3⟩ ⟨hp3, _⟩
  simp only at hp3
  refine EvP.bind (spec_l1Acct_ev l hl p3 (by omega) (by omega)) ?_
  rintro ⟨a, p4⟩ ⟨hp4, ha⟩
  simp only at hp4 ha
  refine EvP.bind (spec_l1Acct_ev l hl p4 (by omega) (by omega)) ?_
  rintro ⟨b, p5⟩ ⟨hp5, hb⟩
  simp only at hp5 hb
  refine EvP.bind (P := (· = _)) (EvP.now rfl) ?_
  rintro _ rfl
  have h2 := two_few a b (wrap64 (1 + c)) (wrap64 (1 + c)) n (wrap64 (-n)) ha hb
  refine EvP.bind (spec_l9Rd_pick_ev l hl p5 _ (by omega) (by omega)) ?_
  rintro ⟨w, p6⟩ ⟨hp6, _⟩
  simp only at hp6
  refine EvP.split (fun _ => ?_) (fun _ => EvP.split (fun _ => ?_) (fun _ => EvP.now ⟨h2, by show p ≤ p6; omega, by show p6 ≤ p + 9; omega⟩))
  · refine EvP.bind (spec_l9Rd_pick_ev l hl p6 _ (by omega) (by omega)) ?_
    rintro ⟨d, p7⟩ ⟨hp7, _⟩
    simp only at hp7
    refine EvP.bind (spec_l1Acct_ev l hl p7 (by omega) (by omega)) ?_
    rintro ⟨e, p8⟩ ⟨hp8, he⟩
    simp only at hp8 he
    refine EvP.bind (spec_l1Acct_ev l hl p8 (by omega) (by omega)) ?_
    rintro ⟨f, p9⟩ ⟨hp9, hf⟩
    simp only at hp9 hf
    refine EvP.bind (P := (· = _)) (EvP.now rfl) ?_
    rintro _ rfl
    refine EvP.pos (by simp) (EvP.now ⟨⟨by simp, fun x hx => ?_⟩, by show p ≤ p9; omega, by show p9 ≤ p + 9; omega⟩)
    simp only [List.mem_cons, List.not_mem_nil, or_false, List.mem_append] at hx
    rcases hx with (rfl | rfl) | (rfl | rfl)
    · exact ha
    · exact hb
    · exact he
    · exact hf
  · refine EvP.split (fun _ => EvP.pos (by simp) ?_) (fun _ => EvP.now ⟨h2, by show p ≤ p6; omega, by show p6 ≤ p + 9; omega⟩)
    refine EvP.bind (P := (· = _)) (EvP.now rfl) ?_
    rintro _ rfl
    refine EvP.bind (spec_l1Acct_ev l hl p6 (by omega) (by omega)) ?_
    rintro ⟨e, p7⟩ ⟨hp7, he⟩
    simp only at hp7 he
    refine EvP.pos (by simp) (EvP.now ⟨Few.snoc (h2.set _ _ ?_) (by simp) _ he, by show p ≤ p7; omega, by show p7 ≤ p + 9; omega⟩)
    have hm : rd_T45 ([⟨a, wrap64 (1 + c), n⟩, ⟨b, wrap64 (1 + c), wrap64 (-n)⟩] : List S45) 1 ∈ ([⟨a, wrap64 (1 + c), n⟩, ⟨b, wrap64 (1 + c), wrap64 (-n)⟩] : List S45) := rd_mem (by omega) (by simp)
    have h3 := h2.names _ hm
    exact h3
theorem spec_l1Bent_l0 (l : List Int) (hl : Bytes l) (n : Nat) (hn : 5 ≤ n) (hn' : n ≤ 1000) (id : Int) : ∀ (d : Nat) (p : Int) (xs : List S45), Few n xs → 0 < xs.length → 5 ≤ xs.length + d → d ≤ 5 → 0 ≤ p → p + d ≤ 900000000000 → EvP (fun k => spec_l1Bent.l0 k l p id xs) (DrawnP n p (d + 1)) := by
  intro d
  induction d with
  | zero =>
    intro p xs hx h1 h5 _ h0 hp
    refine EvP.step (fun k => by rw [spec_l1Bent.l0]) ?_
    refine EvP.bind (spec_l9Rd_pick_ev l hl p _ h0 (by omega)) ?_
    rintro ⟨v, p1⟩ ⟨hp1, hv0, hv1, _⟩
    simp only at hp1 hv0 hv1
    have hv := hv1 (by omega)
    rw [w64 (x := 4 + v) (by omega) (by omega)]
    exact EvP.neg (by omega) (EvP.now ⟨hx, by show p ≤ p1; omega, by show p1 ≤ _; omega⟩)
  | succ d ih =>
    intro p xs hx h1 h5 hd h0 hp
    refine EvP.step (fun k => by rw [spec_l1Bent.l0]) ?_
    refine EvP.bind (spec_l9Rd_pick_ev l hl p _ h0 (by omega)) ?_
    rintro ⟨v, p1⟩ ⟨hp1, hv0, hv1, _⟩
    simp only at hp1 hv0 hv1
    have hv := hv1 (by omega)
    rw [w64 (x := 4 + v) (by omega) (by omega)]
    refine EvP.split (fun hlt => EvP.pos (by omega) (EvP.pos (by omega) ?_)) (fun _ => EvP.now ⟨hx, by show p ≤ p1; omega, by show p1 ≤ _; omega⟩)
    have hm := hx.names _ (rd_mem (xs := xs) (i := 0) (by omega) (by omega))
    refine (ih p1 (xs ++ [_]) (hx.snoc (by omega) _ hm) (by simp) (by simp; omega) (by omega) (by omega) (by omega)).mono ?_
    rintro r ⟨hf, ha, hb⟩
    exact ⟨hf, by omega, by omega⟩
theorem spec_l1Bent_j1 (l : List Int) (n : Nat) (id p i : Int) (b : Bool) (xs : List S45) (hx : Few n xs) (hi : 0 ≤ i) (hi' : i < (xs.length : Int)) (d : Int) (hd : 0 ≤ d) (p0 : Int) (hp : p0 ≤ p) (hp' : p ≤ p0 + d) : EvP (fun k => spec_l1Bent.j1 k i b l p id xs) (DrawnP n p0 d) := by
  refine EvP.step (fun k => by rw [spec_l1Bent.j1]) (EvP.split (fun _ => EvP.pos hi (EvP.pos hi' (EvP.now ⟨hx.set _ _ ?_, hp, hp'⟩))) (fun _ => EvP.now ⟨hx, hp, hp'⟩))
  have hm := hx.names _ (rd_mem hi hi')
  exact hm
theorem spec_l1Copy_eq (a : Int) (xs : List S45) (h : xs.length < 4398046511104) : spec_l1Copy.f a xs = some (a, xs) := by
  unfold spec_l1Copy.f
  simp [h]
theorem spec_l1Bent_ev (l : List Int) (hl : Bytes l) (n : Nat) (hn : 5 ≤ n) (hn' : n ≤ 1000) (p id : Int) (xs : List S45) (hx : Few n xs) (h0 : 0 ≤ p) (h1 : p ≤ 800000000000) : EvP (fun k => spec_l1Bent.f k l p id xs) (DrawnP n p 9) := by
  unfold spec_l1Bent.f
  have hlen := hx.len
  rw [spec_l1Copy_eq _ _ (by omega)]
  refine EvP.bind (P := (· = _)) (EvP.now rfl) ?_
  rintro _ rfl
  dsimp only
  refine EvP.bind (P := fun r => 1 ≤ r ∧ (1 ≤ xs.length → r = (xs.length : Int))) ?_ ?_
  · unfold spec_l1Max.f
    refine EvP.split (fun hm => EvP.now ?_) (fun hm => EvP.now ?_) <;> constructor <;> omega
  rintro m ⟨hm1, hm2⟩
  refine EvP.bind (spec_l9Rd_pick_ev l hl p m h0 (by omega)) ?_
  rintro ⟨i, p1⟩ ⟨hp1, hi0, hi1, _⟩
  simp only at hp1 hi0 hi1
  have hi := hi1 hm1
  refine EvP.split (fun _ => EvP.now ⟨hx, by show p ≤ p1; omega, by show p1 ≤ _; omega⟩) (fun hne => ?_)
  have hi' : i < (xs.length : Int) := by have := hm2 (by omega); omega
  have hold := hx.names _ (rd_mem hi0 hi')
  refine EvP.bind (spec_l9Rd_pick_ev l hl p1 _ (by omega) (by omega)) ?_
  rintro ⟨w, p2⟩ ⟨hp2, _⟩
  simp only at hp2
  refine EvP.split (fun _ => ?_) (fun _ => EvP.split (fun _ => ?_) (fun _ => EvP.split (fun _ => ?_) (fun _ => EvP.split (fun _ => ?_) (fun _ => EvP.split (fun _ => ?_) (fun _ => EvP.split (fun _ => ?_) (fun _ => ?_))))))
  · refine EvP.bind (spec_l9Rd_num_ev l hl p2 _ (by simp) (by omega) (by omega)) ?_
    rintro ⟨v, p3⟩ ⟨hp3, hv⟩
    simp only at hp3 hv
    exact EvP.now ⟨hx, by show p ≤ p3; omega, by show p3 ≤ _; omega⟩
  · refine EvP.bind (spec_l9Rd_num_ev l hl p2 _ (by simp) (by omega) (by omega)) ?_
    rintro ⟨v, p3⟩ ⟨hp3, hv⟩
    simp only at hp3 hv
    exact EvP.pos hi0 (EvP.pos hi' (EvP.now ⟨hx.set _ _ hold, by show p ≤ p3; omega, by show p3 ≤ _; omega⟩))
  · refine EvP.bind (spec_l9Rd_of_ev l hl p2 _ (by simp) (by omega) (by omega)) ?_
    rintro ⟨v, p3⟩ ⟨hp3, hv⟩
    simp only at hp3 hv
    refine EvP.pos hi0 (EvP.pos hi' (EvP.now ⟨hx.set _ _ ?_, by show p ≤ p3; omega, by show p3 ≤ _; omega⟩))
    simp only [List.mem_cons, List.not_mem_nil, or_false] at hv
    simp only [names1, List.mem_cons, List.not_mem_nil, or_false]
    rcases hv with rfl | rfl | rfl | rfl | rfl <;> simp
  · refine EvP.bind (spec_l9Rd_num_ev l hl p2 _ (by simp) (by omega) (by omega)) ?_
    rintro ⟨v, p3⟩ ⟨hp3, hv⟩
    simp only at hp3 hv
    exact EvP.pos hi0 (EvP.pos hi' (EvP.now ⟨hx.set _ _ hold, by show p ≤ p3; omega, by show p3 ≤ _; omega⟩))
  · exact EvP.now ⟨⟨by simp, by simp⟩, by show p ≤ p2; omega, by show p2 ≤ _; omega⟩
  · refine (spec_l1Bent_l0 l hl n hn hn' id 5 p2 xs hx (by omega) (by omega) (by omega) (by omega) (by omega)).mono ?_
    rintro r ⟨hf, ha, hb⟩
    exact ⟨hf, by omega, by omega⟩
  · exact EvP.split (fun _ => spec_l1Bent_j1 l n id p2 i _ xs hx hi0 hi' 9 (by omega) p (by omega) (by omega)) (fun _ => spec_l1Bent_j1 l n id p2 i _ xs hx hi0 hi' 9 (by omega) p (by omega) (by omega))

/-! ### Drawn postings are postings -/
def names0 : List ByteArray := [⟨#[97]⟩, ⟨#[98]⟩, ⟨#[97, 98]⟩, ⟨#[99]⟩, ⟨#[99, 97, 115, 104]⟩, ⟨#[97, 97]⟩]
theorem names0_acct (u : ByteArray) (h : u ∈ names0) : acctB u = true := by
  simp only [names0, List.mem_cons, List.not_mem_nil, or_false] at h
  rcases h with rfl | rfl | rfl | rfl | rfl | rfl <;> rfl
theorem spec_l1Acct_ok (l : List Int) (hl : Bytes l) (p : Int) (h0 : 0 ≤ p) (h1 : p ≤ 900000000000) : EvP (fun k => spec_l1Acct.f k l p) (fun r => r.2 = p + 1 ∧ acctB r.1 = true) := by
  unfold spec_l1Acct.f
  refine EvP.bind (spec_l9Rd_of_ev l hl p _ (by simp) h0 (by omega)) ?_
  rintro ⟨x, q⟩ ⟨hq, hx⟩
  refine EvP.now ⟨hq, names0_acct _ ?_⟩
  simp only [List.mem_cons, List.not_mem_nil, or_false] at hx
  simp only [names0, List.mem_cons, List.not_mem_nil, or_false]
  rcases hx with rfl | rfl | rfl | rfl | rfl | rfl <;> simp
theorem legOk_of {a : ByteArray} {c n : Int} (ha : acctB a = true) (c1 : 1 ≤ c) (c3 : c ≤ 3) (n0 : -1000 ≤ n) (n1 : n ≤ 1000) (nz : n ≠ 0) : legOkB (⟨a, c, n⟩ : S45) = true := by
  simp [legOkB, legB, ha, c1, c3, n0, n1, nz]
structure OkP (p d : Int) (r : Int × List S45 × Int) : Prop where
  ok : postB r.1 r.2.1 = true
  lo : p ≤ r.2.2
  hi : r.2.2 ≤ p + d
theorem postB_of {id : Int} {xs : List S45} (h0 : 0 ≤ id) (h1 : id ≤ 99) (h2 : 1 ≤ xs.length) (h3 : xs.length ≤ 4) (h : ∀ x ∈ xs, legOkB x = true) : postB id xs = true := by
  have e := List.all_eq_true.2 h
  simp [postB, headB, h0, h1, h2, h3, e]
theorem spec_l1Post_ok (l : List Int) (hl : Bytes l) (p : Int) (h0 : 0 ≤ p) (h1 : p ≤ 800000000000) : EvP (fun k => spec_l1Post.f k l p) (OkP p 9) := by
  unfold spec_l1Post.f
  refine EvP.bind (spec_l9Rd_pick_ev l hl p _ h0 (by omega)) ?_
  rintro ⟨id, p1⟩ ⟨hp1, hid0, hid1, _⟩
  simp only at hp1 hid0 hid1
  have hid2 := hid1 (by omega)
  refine EvP.bind (spec_l9Rd_num_ev l hl p1 _ (by simp) (by omega) (by omega)) ?_
  rintro ⟨n, p2⟩ ⟨hp2, hn⟩
  simp only at hp2 hn
  have hn1 : 1 ≤ n ∧ n ≤ 1000 := by
    simp only [List.mem_cons, List.not_mem_nil, or_false] at hn
    omega
  refine EvP.bind (spec_l9Rd_pick_ev l hl p2 _ (by omega) (by omega)) ?_
  rintro ⟨c, p3⟩ ⟨hp3, hc0, hc1, _⟩
  simp only at hp3 hc0 hc1
  have hc2 := hc1 (by omega)
  refine EvP.bind (spec_l1Acct_ok l hl p3 (by omega) (by omega)) ?_
  rintro ⟨a, p4⟩ ⟨hp4, ha⟩
  simp only at hp4 ha
  refine EvP.bind (spec_l1Acct_ok l hl p4 (by omega) (by omega)) ?_
  rintro ⟨b, p5⟩ ⟨hp5, hb⟩
  simp only at hp5 hb
  refine EvP.bind (P := (· = _)) (EvP.now rfl) ?_
  rintro _ rfl
  have ec : wrap64 (1 + c) = 1 + c := w64 (by omega) (by omega)
  have en : wrap64 (-n) = -n := w64 (by omega) (by omega)
  have en1 : wrap64 (1 - n) = 1 - n := w64 (by omega) (by omega)
  simp only [ec, en, en1]
  have l1 : legOkB (⟨a, 1 + c, n⟩ : S45) = true := legOk_of ha (by omega) (by omega) (by omega) (by omega) (by omega)
  have l2 : legOkB (⟨b, 1 + c, -n⟩ : S45) = true := legOk_of hb (by omega) (by omega) (by omega) (by omega) (by omega)
  have two : postB id ([⟨a, 1 + c, n⟩, ⟨b, 1 + c, -n⟩] : List S45) = true := by
    refine postB_of hid0 (by omega) (by simp) (by simp) (fun x hx => ?_)
    simp only [List.mem_cons, List.not_mem_nil, or_false] at hx
    rcases hx with rfl | rfl
    · exact l1
    · exact l2
  refine EvP.bind (spec_l9Rd_pick_ev l hl p5 _ (by omega) (by omega)) ?_
  rintro ⟨w, p6⟩ ⟨hp6, _⟩
  simp only at hp6
  refine EvP.split (fun _ => ?_) (fun _ => EvP.split (fun _ => ?_) (fun _ => EvP.now ⟨two, by show p ≤ p6; omega, by show p6 ≤ p + 9; omega⟩))
  · refine EvP.bind (spec_l9Rd_pick_ev l hl p6 _ (by omega) (by omega)) ?_
    rintro ⟨d, p7⟩ ⟨hp7, hd0, hd1, _⟩
    simp only at hp7 hd0 hd1
    have hd2 := hd1 (by omega)
    refine EvP.bind (spec_l1Acct_ok l hl p7 (by omega) (by omega)) ?_
    rintro ⟨e, p8⟩ ⟨hp8, he⟩
    simp only at hp8 he
    refine EvP.bind (spec_l1Acct_ok l hl p8 (by omega) (by omega)) ?_
    rintro ⟨f, p9⟩ ⟨hp9, hf⟩
    simp only at hp9 hf
    refine EvP.bind (P := (· = _)) (EvP.now rfl) ?_
    rintro _ rfl
    have ed : wrap64 (1 + d) = 1 + d := w64 (by omega) (by omega)
    simp only [ed]
    refine EvP.pos (by simp) (EvP.now ⟨postB_of hid0 (by show id ≤ 99; omega) (by simp) (by simp) (fun x hx => ?_), by show p ≤ p9; omega, by show p9 ≤ p + 9; omega⟩)
    simp only [List.mem_cons, List.not_mem_nil, or_false, List.mem_append] at hx
    rcases hx with (rfl | rfl) | (rfl | rfl)
    · exact l1
    · exact l2
    · exact legOk_of he (by omega) (by omega) (by omega) (by omega) (by omega)
    · exact legOk_of hf (by omega) (by omega) (by omega) (by omega) (by omega)
  · refine EvP.split (fun hn2 => EvP.pos (by simp) ?_) (fun _ => EvP.now ⟨two, by show p ≤ p6; omega, by show p6 ≤ p + 9; omega⟩)
    refine EvP.bind (P := (· = _)) (EvP.now rfl) ?_
    rintro _ rfl
    refine EvP.bind (spec_l1Acct_ok l hl p6 (by omega) (by omega)) ?_
    rintro ⟨e, p7⟩ ⟨hp7, he⟩
    simp only at hp7 he
    refine EvP.pos (by simp) (EvP.now ⟨postB_of hid0 (by show id ≤ 99; omega) (by simp) (by simp) (fun x hx => ?_), by show p ≤ p7; omega, by show p7 ≤ p + 9; omega⟩)
    have hx2 : x = ⟨a, 1 + c, n⟩ ∨ x = ⟨b, 1 + c, 1 - n⟩ ∨ x = ⟨e, 1 + c, -1⟩ := by
      simpa [rd_T45] using hx
    rcases hx2 with rfl | rfl | rfl
    · exact l1
    · exact legOk_of hb (by omega) (by omega) (by omega) (by omega) (by omega)
    · exact legOk_of he (by omega) (by omega) (by omega) (by omega) (by omega)
theorem spec_DrawPostRead_ev (l0 : List Int) (h : ∀ x ∈ l0, (Lit.int .u8 x).wf = true) : EvP (fun k => spec_DrawPostRead.f k l0) (fun t => t.size ≤ 1048576) := by
  unfold spec_DrawPostRead.f
  refine EvP.bind (spec_l9Open_ev l0 h) ?_
  rintro ⟨l, p⟩ ⟨hl, hp⟩
  simp only at hp hl
  subst hp
  refine EvP.bind (spec_l1Post_ok l hl 0 (by omega) (by omega)) ?_
  rintro ⟨id, xs, p1⟩ ⟨hok, ha, hb⟩
  simp only at hok ha hb
  refine EvP.bind (spec_PostText_ev id xs (sound_post hok)) ?_
  rintro _ rfl
  rw [textB_mk hok]
  have hlen := postText_length hok
  have hlen1 := postText_ne id xs
  have hz := mk_size (postText id xs)
  refine EvP.bind (spec_l9Rd_pick_ev l hl p1 _ (by omega) (by omega)) ?_
  rintro ⟨w, p2⟩ ⟨hp2, _⟩
  simp only at hp2
  refine EvP.split (fun _ => EvP.now (by omega)) (fun _ => ?_)
  refine EvP.bind (spec_l9Rd_pick_ev l hl p2 _ (by omega) (by omega)) ?_
  rintro ⟨k, p3⟩ ⟨hp3, hk0, hk1, _⟩
  simp only at hp3 hk0 hk1
  have hk2 := hk1 (by omega)
  refine EvP.pos hk0 (EvP.pos (by omega) (EvP.bind (spec_l9Rd_of_ev l hl p3 _ (by simp) (by omega) (by omega)) ?_))
  rintro ⟨u, p4⟩ ⟨hp4, hu⟩
  simp only at hp4 hu
  have hu1 : u.size ≤ 1 := by
    simp only [List.mem_cons, List.not_mem_nil, or_false] at hu
    rcases hu with rfl | rfl | rfl | rfl | rfl | rfl | rfl <;> simp [ByteArray.size]
  have z1 : ((mk (postText id xs)).extract 0 k.toNat).size ≤ 300 := by rw [ByteArray.size_extract]; omega
  refine EvP.pos (by show ((mk (postText id xs)).extract 0 k.toNat).size + u.size ≤ _; omega) (EvP.bind (spec_l9Rd_pick_ev l hl p4 _ (by omega) (by omega)) ?_)
  rintro ⟨j, p5⟩ ⟨hp5, hj0, hj1, _⟩
  simp only at hp5 hj0 hj1
  have hj2 := hj1 (by omega)
  have ew : wrap64 (k + j) = k + j := w64 (by omega) (by omega)
  rw [ew]
  have z2 : ((mk (postText id xs)).extract (k + j).toNat (mk (postText id xs)).size).size ≤ 300 := by rw [ByteArray.size_extract]; omega
  have z3 : ((mk (postText id xs)).extract 0 k.toNat ++ u).size ≤ 301 := by rw [ByteArray.size_append]; omega
  refine EvP.pos (by show 0 ≤ k + j; omega) (EvP.pos (by show k + j ≤ _; omega) (EvP.pos (by show ((mk (postText id xs)).extract 0 k.toNat ++ u).size + ((mk (postText id xs)).extract (k + j).toNat (mk (postText id xs)).size).size ≤ _; omega) (EvP.now ?_)))
  show (((mk (postText id xs)).extract 0 k.toNat ++ u) ++ _).size ≤ _
  rw [ByteArray.size_append]
  omega

theorem spec_DrawPostOk_ev (l0 : List Int) (h : ∀ x ∈ l0, (Lit.int .u8 x).wf = true) : EvP (fun k => spec_DrawPostOk.f k l0) (fun r => Few 5 r.2) := by
  unfold spec_DrawPostOk.f
  refine EvP.bind (spec_l9Open_ev l0 h) ?_
  rintro ⟨l, p⟩ ⟨hl, hp⟩
  simp only at hp hl
  subst hp
  refine EvP.bind (spec_l1Post_ev l hl 0 (by omega) (by omega)) ?_
  rintro ⟨id, xs, p1⟩ ⟨hf, ha, hb⟩
  simp only at hf ha hb
  refine EvP.bind (spec_l1Bent_ev l hl 5 (by omega) (by omega) p1 id xs hf (by omega) (by omega)) ?_
  rintro ⟨id2, ys, p2⟩ ⟨hf2, ha2, hb2⟩
  exact EvP.now hf2
theorem spec_DrawPostText_ev (l0 : List Int) (h : ∀ x ∈ l0, (Lit.int .u8 x).wf = true) : EvP (fun k => spec_DrawPostText.f k l0) (fun r => Few 5 r.2) := by
  unfold spec_DrawPostText.f
  refine EvP.bind (spec_DrawPostOk_ev l0 h) ?_
  rintro ⟨id, xs⟩ hf
  exact EvP.now hf
theorem read_text (id : Int) (xs : List S45) : EvP (fun k => impl_PostRead.f k (textB id xs)) (· = if postB id xs = true then (id, xs, true) else (0, [], false)) := by
  by_cases h : postB id xs = true
  · rw [if_pos h, textB_mk h]
    exact impl_read_exact h
  · rw [if_neg h]
    unfold textB
    rw [if_neg h]
    refine (impl_read_sound _ (by show 0 ≤ _; omega)).mono ?_
    rintro r (hr | ⟨id', xs', _, e, _⟩)
    · exact hr
    · have e1 := congrArg ByteArray.size e
      rw [mk_size] at e1
      have e2 := postText_ne id' xs'
      have e3 : (⟨#[]⟩ : ByteArray).size = 0 := rfl
      omega
theorem FnPost (l0 : List Int) (l1 : List Int) (g0 : l0.length ≤ maxLen ∧ ∀ x ∈ l0, (Lit.int .u8 x).wf = true) (g1 : l1.length ≤ maxLen ∧ ∀ x ∈ l1, (Lit.int .u8 x).wf = true) : ∃ k, laws_FnPost.f k l0 l1 = some true := by
  refine EvP.done ?_
  have j1 : EvP (fun k => laws_FnPost.j1 k l1 false) (· = true) := by
    refine EvP.step (fun k => by rw [laws_FnPost.j1]) (EvP.neg (by decide) ?_)
    refine EvP.bind (spec_DrawPostRead_ev l1 g1.2) ?_
    intro t ht
    obtain ⟨r, hR, hS, hI⟩ := read_same t ht
    have hl := readR_len hR
    refine EvP.bind hI ?_
    rintro _ rfl
    refine EvP.bind hS ?_
    rintro _ rfl
    refine EvP.pos (by simp) (EvP.bind (impl_PostSame_ev _ _ _ _ (by omega)) ?_)
    rintro _ rfl
    refine EvP.pos (by simp [postSameB]) (EvP.split (fun hb => ?_) (fun _ => EvP.now rfl))
    rcases hR with rfl | ⟨id, xs, hp, e, rfl⟩
    · simp at hb
    · refine EvP.bind (impl_PostText_ev id xs (sound_post hp)) ?_
      rintro _ rfl
      refine EvP.pos (by rw [textB_mk hp, e]) (EvP.bind (impl_PostOk_ev id xs (sound_post hp)) ?_)
      rintro _ rfl
      exact EvP.now hp
  have j0 : ∀ b, EvP (fun k => laws_FnPost.j0 k l0 l1 b) (· = true) := by
    intro b
    refine EvP.step (fun k => by rw [laws_FnPost.j0]) (EvP.split (fun _ => EvP.now rfl) (fun _ => ?_))
    refine EvP.bind (spec_DrawPostText_ev l0 g0.2) ?_
    rintro ⟨id, xs⟩ hf
    simp only at hf ⊢
    have hs : Sound xs := hf.sound
    have h5 := hf.len
    refine EvP.bind (impl_PostText_ev id xs hs) ?_
    rintro _ rfl
    refine EvP.bind (read_text id xs) ?_
    rintro _ rfl
    refine EvP.bind (spec_PostText_ev id xs hs) ?_
    rintro _ rfl
    refine EvP.pos rfl (EvP.bind (impl_PostOk_ev id xs hs) ?_)
    rintro _ rfl
    refine EvP.bind (spec_PostOk_ev id xs hs) ?_
    rintro _ rfl
    refine EvP.neg (by simp) (EvP.bind (spec_PostOk_ev id xs hs) ?_)
    rintro _ rfl
    cases hp : postB id xs
    · rw [if_neg (by decide)]
      exact EvP.neg (by decide) (EvP.neg (by decide) j1)
    · rw [if_pos rfl]
      refine EvP.neg (by simp) (EvP.pos rfl (EvP.bind (impl_PostSame_ev id xs id xs (by omega)) ?_))
      rintro _ rfl
      have e : (!postSameB id xs id xs) = false := by simp [postSameB]
      rw [e]
      exact j1
  unfold laws_FnPost.f
  exact EvP.split (fun _ => j0 _) (fun _ => j0 _)


end Go.Proofs.YtdjohhobmipagaaDoor.Pure
