/- A posting that is ok is refused without legs, with a number that is too great, with a leg of nothing, or with too many legs, and with another leg it is another one; whatever is drawn, no condition. -/
import Derived.Test.YtemnggadcgmmkaaQFnPostBentx8
import Derived.Test.YtemnggadcgmmkaaBBase
set_option linter.unusedVariables false
set_option linter.unusedSimpArgs false
namespace Go.Proofs.Ytemnggadcgmmkaa.Pure
open Go.RowKit Go.Proofs.Ytemnggadcgmmkaa.QFnPostBent Go.Proofs.YtemnggadcgmmkaaW.PrintWords Go.Proofs.YtemnggadcgmmkaaW.PrintLast Go.Proofs.YtemnggadcgmmkaaW.PrintMore Go.Proofs.Ytemnggadcgmmkaa.B

/-! ### AcctOk -/
/-- d letters from place i on are all letters a to z. -/
def lettersB (s : ByteArray) : Nat → Int → Bool
 | 0, _ => true
 | d + 1, i => decide (97 ≤ bt s i) && decide (bt s i ≤ 122) && lettersB s d (i + 1)
def acctB (s : ByteArray) : Bool := decide (1 ≤ s.size) && decide (s.size ≤ 4) && lettersB s s.size 0
theorem spec_AcctOk_l0 (s : ByteArray) (hs : s.size ≤ 140737488351232) : ∀ (d : Nat) (i : Int), 0 ≤ i → i + d = s.size →
  EvP (fun k => spec_AcctOk.l0 k s i) (· = (decide (1 ≤ s.size) && decide (s.size ≤ 4) && lettersB s d i)) := by
 intro d
 induction d with
 | zero =>
  intro i h0 h
  refine EvP.step (fun k => by rw [spec_AcctOk.l0]) ?_
  refine EvP.neg (by omega) ?_
  refine EvP.split (fun h => ?_) (fun h => ?_)
  ·
   refine EvP.now ?_
   have e1 : decide (1 ≤ s.size) = true := decide_eq_true (by omega)
   have e2 : decide ((s.size : Int) ≤ 4) = decide (s.size ≤ 4) := by rw [decide_eq_decide]; omega
   simp only [lettersB, e1, e2, Bool.true_and, Bool.and_true]
  ·
   refine EvP.now ?_
   have e1 : decide (1 ≤ s.size) = false := decide_eq_false (by omega)
   simp only [lettersB, e1, Bool.false_and]
 | succ d ih =>
  intro i h0 h
  refine EvP.step (fun k => by rw [spec_AcctOk.l0]) ?_
  refine EvP.pos (by omega) ?_
  refine EvP.pos (by omega) ?_
  refine EvP.split (fun h1 => EvP.now ?_) (fun h1 => EvP.split (fun h2 => EvP.now ?_) (fun h2 => ?_))
  ·
   have e1 : decide (97 ≤ bt s i) = false := decide_eq_false (by omega)
   simp [lettersB, e1]
  ·
   have e1 : decide (bt s i ≤ 122) = false := decide_eq_false (by omega)
   simp [lettersB, e1]
  ·
   rw [w64 (by omega) (by omega)]
   have e1 : decide (97 ≤ bt s i) = true := decide_eq_true (by omega)
   have e2 : decide (bt s i ≤ 122) = true := decide_eq_true (by omega)
   have := ih (i + 1) (by omega) (by omega)
   simp only [lettersB, e1, e2, Bool.true_and]
   exact this
theorem spec_AcctOk_ev (s : ByteArray) (hs : s.size ≤ 140737488351232) : EvP (fun k => spec_AcctOk.f k s) (· = acctB s) :=
 spec_AcctOk_l0 s hs s.size 0 (by omega) (by omega)
theorem impl_AcctOk_l0 (s : ByteArray) (hs : s.size ≤ 140737488351232) : ∀ (d : Nat) (i : Int), 0 ≤ i → i + d = s.size →
  EvP (fun k => impl_AcctOk.l0 k s (s.size : Int) i) (· = lettersB s d i) := by
 intro d
 induction d with
 | zero =>
  intro i h0 h
  refine EvP.step (fun k => by rw [impl_AcctOk.l0]) ?_
  refine EvP.neg (by omega) ?_
  exact EvP.now (by simp [lettersB])
 | succ d ih =>
  intro i h0 h
  refine EvP.step (fun k => by rw [impl_AcctOk.l0]) ?_
  refine EvP.pos (by omega) (EvP.pos (by omega) (EvP.pos (by omega) ?_))
  refine EvP.split (fun h1 => EvP.now ?_) (fun h1 => EvP.split (fun h2 => EvP.now ?_) (fun h2 => ?_))
  ·
   have e1 : decide (97 ≤ bt s i) = false := decide_eq_false (by omega)
   simp [lettersB, e1]
  ·
   have e1 : decide (bt s i ≤ 122) = false := decide_eq_false (by omega)
   simp [lettersB, e1]
  ·
   rw [w64 (by omega) (by omega)]
   have e1 : decide (97 ≤ bt s i) = true := decide_eq_true (by omega)
   have e2 : decide (bt s i ≤ 122) = true := decide_eq_true (by omega)
   have := ih (i + 1) (by omega) (by omega)
   simp only [lettersB, e1, e2, Bool.true_and]
   exact this
theorem impl_AcctOk_ev (s : ByteArray) (hs : s.size ≤ 140737488351232) : EvP (fun k => impl_AcctOk.f k s) (· = acctB s) := by
 unfold impl_AcctOk.f acctB
 refine EvP.split (fun h => ?_) (fun h => ?_)
 ·
  refine EvP.step (fun k => by rw [impl_AcctOk.j0]) (EvP.pos rfl (EvP.now ?_))
  have e1 : decide (1 ≤ s.size) = false := decide_eq_false (by omega)
  simp [e1]
 ·
  have e1 : decide (1 ≤ s.size) = true := decide_eq_true (by omega)
  refine EvP.step (fun k => by rw [impl_AcctOk.j0]) (EvP.split (fun h1 => EvP.now ?_) (fun h1 => ?_))
  ·
   have := of_decide_eq_true h1
   have e2 : decide (s.size ≤ 4) = false := decide_eq_false (by omega)
   simp [e2]
  ·
   have : ¬ (s.size : Int) > 4 := fun h => h1 (decide_eq_true h)
   have e2 : decide (s.size ≤ 4) = true := decide_eq_true (by omega)
   simp only [e1, e2, Bool.true_and]
   exact impl_AcctOk_l0 s hs s.size 0 (by omega) (by omega)

/-! ### LegOk -/
def legB (a : ByteArray) (c n : Int) : Bool := acctB a && decide (1 ≤ c) && decide (c ≤ 3) && decide (-1000 ≤ n) && decide (n ≤ 1000) && (n != 0)
theorem spec_LegOk_ev (a : ByteArray) (c n : Int) (hs : a.size ≤ 140737488351232) : EvP (fun k => spec_LegOk.f k a c n) (· = legB a c n) := by
 unfold spec_LegOk.f
 refine EvP.bind (spec_AcctOk_ev a hs) ?_
 rintro _ rfl
 cases hA : acctB a
 ·
  exact EvP.neg (by simp) (EvP.now (by simp [legB, hA]))
 ·
  refine EvP.pos rfl ?_
  repeat' with_reducible refine EvP.split (fun _ => ?_) (fun _ => ?_)
  all_goals
   refine EvP.now ?_
   simp [legB, hA]
   try omega
theorem impl_LegOk_ev (a : ByteArray) (c n : Int) (hs : a.size ≤ 140737488351232) : EvP (fun k => impl_LegOk.f k a c n) (· = legB a c n) := by
 unfold impl_LegOk.f
 refine EvP.bind (impl_AcctOk_ev a hs) ?_
 rintro _ rfl
 cases hA : acctB a
 ·
  exact EvP.neg (by simp) (EvP.now (by simp [legB, hA]))
 ·
  refine EvP.pos rfl ?_
  repeat' with_reducible refine EvP.split (fun _ => ?_) (fun _ => ?_)
  all_goals
   refine EvP.now ?_
   simp [legB, hA]
   try omega

/-! ### PostOk -/
theorem rd_midL (pre rest : List S29) (x : S29) : rd_T29 (pre ++ x :: rest) (pre.length : Int) = x := by simp [rd_T29]
def legOkB (x : S29) : Bool := legB x.f0 x.f1 x.f2
def headB (id : Int) (xs : List S29) : Bool := decide (0 ≤ id) && decide (id ≤ 99) && decide (1 ≤ xs.length) && decide (xs.length ≤ 4)
def postB (id : Int) (xs : List S29) : Bool := headB id xs && xs.all legOkB
/-- Legs whose texts are no longer than texts are. -/
def Sound (xs : List S29) : Prop := ∀ x ∈ xs, x.f0.size ≤ 140737488351232
theorem impl_PostOk_l0 (xs : List S29) (hx : Sound xs) (h4 : xs.length ≤ 4) : ∀ (rest pre : List S29), xs = pre ++ rest → EvP (fun k => impl_PostOk.l0 k xs (xs.length : Int) (pre.length : Int)) (· = rest.all legOkB) := by
 intro rest
 induction rest with
 | nil =>
  intro pre e
  refine EvP.step (fun k => by rw [impl_PostOk.l0]) ?_
  exact EvP.neg (by simp [e]) (EvP.now rfl)
 | cons x rest ih =>
  intro pre e
  have hl : xs.length = pre.length + (rest.length + 1) := by rw [e]; simp
  refine EvP.step (fun k => by rw [impl_PostOk.l0]) (EvP.pos (by omega) (EvP.pos (by omega) (EvP.pos (by omega) ?_)))
  have hr : rd_T29 xs (pre.length : Int) = x := by rw [e]; exact rd_midL pre rest x
  rw [hr]
  have e2 : wrap64 ((pre.length : Int) + 1) = ((pre ++ [x]).length : Int) := by rw [w64 (by omega) (by omega)]; simp
  refine EvP.bind (impl_LegOk_ev x.f0 x.f1 x.f2 (hx x (by rw [e]; simp))) ?_
  rintro _ rfl
  have step := ih (pre ++ [x]) (by rw [e]; simp)
  rw [e2]
  cases hb : legB x.f0 x.f1 x.f2
  ·
   exact EvP.neg (by simp) (EvP.now (by simp [legOkB, hb]))
  ·
   refine EvP.pos rfl (step.mono ?_)
   rintro _ rfl
   simp [legOkB, hb]
theorem impl_PostOk_ev (id : Int) (xs : List S29) (hx : Sound xs) : EvP (fun k => impl_PostOk.f k id xs) (· = postB id xs) := by
 unfold impl_PostOk.f
 refine EvP.split (fun h => ?_) (fun h1 => EvP.split (fun h => ?_) (fun h2 => EvP.split (fun h => ?_) (fun h3 => ?_)))
 ·
  refine EvP.step (fun k => by rw [impl_PostOk.j0]) (EvP.pos rfl (EvP.now ?_))
  have e : decide (0 ≤ id) = false := decide_eq_false (by omega)
  simp [postB, headB, e]
 ·
  refine EvP.step (fun k => by rw [impl_PostOk.j0]) (EvP.pos rfl (EvP.now ?_))
  have e : decide (id ≤ 99) = false := decide_eq_false (by omega)
  simp [postB, headB, e]
 ·
  refine EvP.step (fun k => by rw [impl_PostOk.j0]) (EvP.pos rfl (EvP.now ?_))
  have e : decide (1 ≤ xs.length) = false := decide_eq_false (by omega)
  simp [postB, headB, e]
 ·
  refine EvP.step (fun k => by rw [impl_PostOk.j0]) (EvP.split (fun h => EvP.now ?_) (fun h => ?_))
  ·
   have := of_decide_eq_true h
   have e : decide (xs.length ≤ 4) = false := decide_eq_false (by omega)
   simp [postB, headB, e]
  ·
   have h4 : ¬ (xs.length : Int) > 4 := fun g => h (decide_eq_true g)
   have e1 : decide (0 ≤ id) = true := decide_eq_true (by omega)
   have e2 : decide (id ≤ 99) = true := decide_eq_true (by omega)
   have e3 : decide (1 ≤ xs.length) = true := decide_eq_true (by omega)
   have e4 : decide (xs.length ≤ 4) = true := decide_eq_true (by omega)
   simp only [postB, headB, e1, e2, e3, e4, Bool.true_and]
   exact impl_PostOk_l0 xs hx (by omega) xs [] rfl

theorem rd_mid36 (pre rest : List S29) (x : S29) : rd_T29 (pre ++ x :: rest) (pre.length : Int) = x := by simp [rd_T29]
def legKey (x : S29) : List UInt8 × Int × Int := (x.f0.toList, x.f1, x.f2)
def postSameB (a : Int) (xs : List S29) (b : Int) (ys : List S29) : Bool := decide (a = b ∧ xs.map legKey = ys.map legKey)

/-! ### PostSame -/
theorem legNe (x y : S29) : (!((x.f0.toList) == (y.f0.toList)) || (!((x.f1) == (y.f1)) || (!((x.f2) == (y.f2))))) = !decide (legKey x = legKey y) := by
 unfold legKey
 by_cases c1 : x.f0.toList = y.f0.toList <;> by_cases c2 : x.f1 = y.f1 <;> by_cases c3 : x.f2 = y.f2 <;> simp [c1, c2, c3]
theorem spec_PostSame_l0 (a b : Int) (xs ys : List S29) (hx : xs.length ≤ 1048576) : ∀ (r r' pre pre' : List S29), xs = pre ++ r → ys = pre' ++ r' → pre.length = pre'.length → r.length = r'.length →
  EvP (fun k => spec_PostSame.l0 k (pre.length : Int) a xs b ys) (· = decide (r.map legKey = r'.map legKey)) := by
 intro r
 induction r with
 | nil =>
  intro r' pre pre' e e' hl hr
  obtain rfl : r' = [] := List.eq_nil_of_length_eq_zero (by simpa using hr.symm)
  exact EvP.step (fun k => by rw [spec_PostSame.l0]) (EvP.neg (by simp [e]) (EvP.now (by simp)))
 | cons x r ih =>
  intro r' pre pre' e e' hl hr
  cases r' with
  | nil => simp at hr
  | cons y r' =>
   have h1 : xs.length = pre.length + (r.length + 1) := by rw [e]; simp
   have h2 : ys.length = pre'.length + (r'.length + 1) := by rw [e']; simp
   refine EvP.step (fun k => by rw [spec_PostSame.l0]) (EvP.pos (by omega) (EvP.pos (by omega) (EvP.pos (by simp at hr; omega) ?_)))
   have hrx : rd_T29 xs (pre.length : Int) = x := by rw [e]; exact rd_mid36 pre r x
   have hry : rd_T29 ys (pre.length : Int) = y := by rw [e', hl]; exact rd_mid36 pre' r' y
   rw [hrx, hry, legNe]
   have e2 : wrap64 ((pre.length : Int) + 1) = ((pre ++ [x]).length : Int) := by rw [w64 (by omega) (by omega)]; simp
   have step := ih r' (pre ++ [x]) (pre' ++ [y]) (by rw [e]; simp) (by rw [e']; simp) (by simp [hl]) (by simpa using hr)
   rw [← e2] at step
   by_cases c : legKey x = legKey y
   ·
    refine EvP.neg (by simp [c]) (step.mono ?_)
    rintro _ rfl
    simp [c]
   ·
    exact EvP.pos (by simp [c]) (EvP.now (by simp [c]))
theorem spec_PostSame_ev (a : Int) (xs : List S29) (b : Int) (ys : List S29) (hx : xs.length ≤ 1048576) : EvP (fun k => spec_PostSame.f k a xs b ys) (· = postSameB a xs b ys) := by
 unfold spec_PostSame.f postSameB
 refine EvP.split (fun h => ?_) (fun h => ?_)
 ·
  refine EvP.step (fun k => by rw [spec_PostSame.j0]) (EvP.split (fun hn => EvP.now ?_) (fun he => ?_))
  ·
   have : xs.map legKey ≠ ys.map legKey := fun he => by have := congrArg List.length he; simp at this; simp [this] at hn
   simp [this]
  ·
   have hl : xs.length = ys.length := by simp at he; omega
   refine (spec_PostSame_l0 a b xs ys hx xs ys [] [] rfl rfl rfl hl).mono ?_
   rintro _ rfl
   simp [h]
 ·
  exact EvP.step (fun k => by rw [spec_PostSame.j0]) (EvP.pos rfl (EvP.now (by simp [h])))
theorem impl_PostSame_l0 (b : Int) (xs ys : List S29) (hx : xs.length ≤ 1048576) : ∀ (r r' pre pre' : List S29), xs = pre ++ r → ys = pre' ++ r' → pre.length = pre'.length → r.length = r'.length →
  EvP (fun k => impl_PostSame.l0 k xs (xs.length : Int) (pre.length : Int) b ys) (· = decide (r.map legKey = r'.map legKey)) := by
 intro r
 induction r with
 | nil =>
  intro r' pre pre' e e' hl hr
  obtain rfl : r' = [] := List.eq_nil_of_length_eq_zero (by simpa using hr.symm)
  exact EvP.step (fun k => by rw [impl_PostSame.l0]) (EvP.neg (by simp [e]) (EvP.now (by simp)))
 | cons x r ih =>
  intro r' pre pre' e e' hl hr
  cases r' with
  | nil => simp at hr
  | cons y r' =>
   have h1 : xs.length = pre.length + (r.length + 1) := by rw [e]; simp
   have h2 : ys.length = pre'.length + (r'.length + 1) := by rw [e']; simp
   refine EvP.step (fun k => by rw [impl_PostSame.l0]) (EvP.pos (by omega) (EvP.pos (by omega) (EvP.pos (by omega) (EvP.pos (by simp at hr; omega) ?_))))
   have hrx : rd_T29 xs (pre.length : Int) = x := by rw [e]; exact rd_mid36 pre r x
   have hry : rd_T29 ys (pre.length : Int) = y := by rw [e', hl]; exact rd_mid36 pre' r' y
   rw [hrx, hry, legNe]
   have e2 : wrap64 ((pre.length : Int) + 1) = ((pre ++ [x]).length : Int) := by rw [w64 (by omega) (by omega)]; simp
   have step := ih r' (pre ++ [x]) (pre' ++ [y]) (by rw [e]; simp) (by rw [e']; simp) (by simp [hl]) (by simpa using hr)
   rw [← e2] at step
   by_cases c : legKey x = legKey y
   ·
    refine EvP.neg (by simp [c]) (step.mono ?_)
    rintro _ rfl
    simp [c]
   ·
    exact EvP.pos (by simp [c]) (EvP.now (by simp [c]))
theorem impl_PostSame_ev (a : Int) (xs : List S29) (b : Int) (ys : List S29) (hx : xs.length ≤ 1048576) : EvP (fun k => impl_PostSame.f k a xs b ys) (· = postSameB a xs b ys) := by
 unfold impl_PostSame.f postSameB
 refine EvP.split (fun h => ?_) (fun h => ?_)
 ·
  refine EvP.step (fun k => by rw [impl_PostSame.j0]) (EvP.split (fun hn => EvP.now ?_) (fun he => ?_))
  ·
   have : xs.map legKey ≠ ys.map legKey := fun he => by have := congrArg List.length he; simp at this; simp [this] at hn
   simp [this]
  ·
   have hl : xs.length = ys.length := by simp at he; omega
   refine (impl_PostSame_l0 b xs ys hx xs ys [] [] rfl rfl rfl hl).mono ?_
   rintro _ rfl
   simp [h]
 ·
  exact EvP.step (fun k => by rw [impl_PostSame.j0]) (EvP.pos rfl (EvP.now (by simp [h])))

/-! ### The reader of draws -/
/-- Bytes, at most 2000 of them. -/
structure Bytes (l : List Int) : Prop where
 len : l.length ≤ 2000
 lo : ∀ j, 0 ≤ rd l j
 hi : ∀ j, rd l j ≤ 255
theorem rd_range {l : List Int} (h : ∀ x ∈ l, 0 ≤ x ∧ x ≤ 255) (j : Int) : 0 ≤ rd l j ∧ rd l j ≤ 255 := by
 unfold rd
 rw [List.getD_eq_getElem?_getD]
 rcases Nat.lt_or_ge j.toNat l.length with hj | hj
 ·
  rw [List.getElem?_eq_getElem hj]
  exact h _ (List.getElem_mem hj)
 ·
  rw [List.getElem?_eq_none hj]
  simp
theorem u8_range {l : List Int} (h : ∀ x ∈ l, (Lit.int .u8 x).wf = true) : ∀ x ∈ l, 0 ≤ x ∧ x ≤ 255 := by
 intro x hx
 have := h x hx
 simp [Lit.wf, IntKind.min, IntKind.max, IntKind.signed, IntKind.bits] at this
 omega
theorem spec_l9Open_ev (l : List Int) (h : ∀ x ∈ l, (Lit.int .u8 x).wf = true) : EvP (fun _ => spec_l9Open.f l) (fun r => Bytes r.1 ∧ r.2 = 0) := by
 unfold spec_l9Open.f
 have hu := u8_range h
 refine EvP.split (fun h1 => EvP.pos (by omega) (EvP.now ⟨⟨?_, fun j => ?_, fun j => ?_⟩, rfl⟩)) (fun h1 => EvP.now ⟨⟨?_, fun j => ?_, fun j => ?_⟩, rfl⟩)
 ·
  simp; omega
 ·
  exact (rd_range (fun x hx => hu x (List.mem_of_mem_take hx)) j).1
 ·
  exact (rd_range (fun x hx => hu x (List.mem_of_mem_take hx)) j).2
 ·
  show l.length ≤ 2000
  omega
 ·
  exact (rd_range hu j).1
 ·
  exact (rd_range hu j).2
theorem xor_nonneg (x y : Int) (h0 : 0 ≤ x) (h1 : x < 2 ^ 62) (h2 : 0 ≤ y) (h3 : y < 2 ^ 62) : 0 ≤ bits .xor .i64 x y := by
 obtain ⟨a, rfl⟩ := Int.eq_ofNat_of_zero_le h0
 obtain ⟨b, rfl⟩ := Int.eq_ofNat_of_zero_le h2
 rw [xor64 a b (by omega) (by omega)]
 exact Int.natCast_nonneg _
/-- What a pick gives: one place on; a number below n, or 0. -/
def Picked (p n : Int) (r : Int × Int) : Prop := r.2 = p + 1 ∧ 0 ≤ r.1 ∧ (1 ≤ n → r.1 < n) ∧ (n < 1 → r.1 = 0)
theorem picked_mod {p n x : Int} (hn : ¬ n < 1) (hx : 0 ≤ x) : Picked p n (Int.tmod x n, p + 1) :=
 ⟨rfl, Int.tmod_nonneg _ hx, fun _ => Int.tmod_lt_of_pos _ (by omega), fun h => absurd h hn⟩
theorem spec_l9Rd_pick_ev (l : List Int) (hl : Bytes l) (p n : Int) (h0 : 0 ≤ p) (h1 : p ≤ 1000000000000) : EvP (fun k => spec_l9Rd_pick.f k l p n) (Picked p n) := by
 unfold spec_l9Rd_pick.f
 have e1 : wrap64 (p + 1) = p + 1 := w64 (by omega) (by omega)
 have e2 : wrap64 (p + 1 - 1) = p := by rw [w64 (by omega) (by omega)]; omega
 rw [e1]
 refine EvP.split (fun h => ?_) (fun hn => ?_)
 ·
  refine EvP.step (fun k => by rw [spec_l9Rd_pick.j0]) (EvP.pos rfl (EvP.now ?_))
  exact ⟨rfl, Int.le_refl _, fun h' => absurd h (by omega), fun _ => rfl⟩
 ·
  refine EvP.step (fun k => by rw [spec_l9Rd_pick.j0]) (EvP.split (fun h => EvP.now ?_) (fun hz => ?_))
  ·
   exact ⟨rfl, Int.le_refl _, fun h' => by show (0 : Int) < n; omega, fun _ => rfl⟩
  ·
   have hz' : ¬ (l.length : Int) = 0 := fun h => hz (by simp [h])
   have hpos : 0 < (l.length : Int) := by omega
   have hlen : (l.length : Int) ≤ 2000 := by have := hl.len; omega
   rw [e2]
   refine EvP.split (fun h => EvP.pos h0 (EvP.neg (by omega) (EvP.now ?_))) (fun h => EvP.neg hz' ?_)
   ·
    have := hl.lo p
    have := hl.hi p
    rw [w64 (by omega) (by omega)]
    exact picked_mod hn (by omega)
   ·
    have a0 : 0 ≤ Int.tmod p (l.length : Int) := Int.tmod_nonneg _ h0
    have a1 : Int.tmod p (l.length : Int) < (l.length : Int) := Int.tmod_lt_of_pos _ hpos
    have e7 : wrap64 (wrap64 (p * 7) + 3) = p * 7 + 3 := by rw [w64 (x := p * 7) (by omega) (by omega), w64 (by omega) (by omega)]
    have c0 : 0 ≤ Int.tmod (p * 7 + 3) (l.length : Int) := Int.tmod_nonneg _ (by omega)
    have c1 : Int.tmod (p * 7 + 3) (l.length : Int) < (l.length : Int) := Int.tmod_lt_of_pos _ hpos
    rw [e7]
    refine EvP.pos a0 (EvP.pos a1 (EvP.pos c0 (EvP.pos c1 (EvP.neg (by omega) (EvP.now ?_)))))
    have b0 := hl.lo (Int.tmod p (l.length : Int))
    have b1 := hl.hi (Int.tmod p (l.length : Int))
    have d0 := hl.lo (Int.tmod (p * 7 + 3) (l.length : Int))
    have d1 := hl.hi (Int.tmod (p * 7 + 3) (l.length : Int))
    have q0 : 0 ≤ Int.tdiv p (l.length : Int) := Int.tdiv_nonneg h0 (by omega)
    have q1 : Int.tdiv p (l.length : Int) ≤ p := by
     rw [Int.tdiv_eq_ediv_of_nonneg h0]
     exact Int.ediv_le_self _ h0
    refine picked_mod hn ?_
    generalize Int.tdiv p (l.length : Int) = q at q0 q1 ⊢
    generalize rd l (Int.tmod p (l.length : Int)) = b at b0 b1 ⊢
    generalize rd l (Int.tmod (p * 7 + 3) (l.length : Int)) = d at d0 d1 ⊢
    have f1 : wrap64 b = b := w64 (by omega) (by omega)
    have f2 : wrap64 d = d := w64 (by omega) (by omega)
    have f3 : wrap64 q = q := w64 (by omega) (by omega)
    have f4 : wrap64 (b * 131) = b * 131 := w64 (by omega) (by omega)
    have f5 : wrap64 (d * 1117) = d * 1117 := w64 (by omega) (by omega)
    have f6 : wrap64 (p * 29) = p * 29 := w64 (by omega) (by omega)
    have f7 : wrap64 (q * 53) = q * 53 := w64 (by omega) (by omega)
    have f8 : wrap64 (b * 131 + d * 1117) = b * 131 + d * 1117 := w64 (by omega) (by omega)
    have f9 : wrap64 (b * 131 + d * 1117 + p * 29) = b * 131 + d * 1117 + p * 29 := w64 (by omega) (by omega)
    have f10 : wrap64 (b * 131 + d * 1117 + p * 29 + q * 53) = b * 131 + d * 1117 + p * 29 + q * 53 := w64 (by omega) (by omega)
    rw [f1, f2, f3, f4, f5, f6, f7, f8, f9, f10]
    have g0 : 0 ≤ b * 131 + d * 1117 + p * 29 + q * 53 := by omega
    have g1 : b * 131 + d * 1117 + p * 29 + q * 53 < 2 ^ 62 := by omega
    generalize b * 131 + d * 1117 + p * 29 + q * 53 = x at g0 g1 ⊢
    have g2 : Int.tdiv x 64 = x / 64 := Int.tdiv_eq_ediv_of_nonneg g0
    rw [g2, w64 (x := x / 64) (by omega) (by omega)]
    exact xor_nonneg _ _ g0 g1 (by omega) (by omega)
/-- One of a list of texts. -/
theorem spec_l9Rd_of_ev (l : List Int) (hl : Bytes l) (p : Int) (xs : List ByteArray) (hx : 0 < xs.length) (h0 : 0 ≤ p) (h1 : p ≤ 1000000000000) : EvP (fun k => spec_l9Rd_of.f k l p xs) (fun r => r.2 = p + 1 ∧ r.1 ∈ xs) := by
 unfold spec_l9Rd_of.f
 refine EvP.bind (spec_l9Rd_pick_ev l hl p _ h0 h1) ?_
 rintro ⟨i, q⟩ ⟨hq, hi, hlt, _⟩
 have := hlt (by omega)
 simp only at hq hi this
 refine EvP.pos hi (EvP.pos this (EvP.now ⟨hq, ?_⟩))
 show xs.getD i.toNat ByteArray.empty ∈ xs
 rw [List.getD_eq_getElem?_getD, List.getElem?_eq_getElem (by omega)]
 exact List.getElem_mem _

/-- One of a list of numbers. -/
theorem spec_l9Rd_num_ev (l : List Int) (hl : Bytes l) (p : Int) (xs : List Int) (hx : 0 < xs.length) (h0 : 0 ≤ p) (h1 : p ≤ 1000000000000) : EvP (fun k => spec_l9Rd_num.f k l p xs) (fun r => r.2 = p + 1 ∧ r.1 ∈ xs) := by
 unfold spec_l9Rd_num.f
 refine EvP.bind (spec_l9Rd_pick_ev l hl p _ h0 h1) ?_
 rintro ⟨i, q⟩ ⟨hq, hi, hlt, _⟩
 have := hlt (by omega)
 simp only at hq hi this
 refine EvP.pos hi (EvP.pos this (EvP.now ⟨hq, ?_⟩))
 show xs.getD i.toNat 0 ∈ xs
 rw [List.getD_eq_getElem?_getD, List.getElem?_eq_getElem (by omega)]
 exact List.getElem_mem _

/-! ### Draws of postings -/
/-- All texts that a drawn leg's account may be. -/
def names1 : List ByteArray := [⟨#[97]⟩, ⟨#[98]⟩, ⟨#[97, 98]⟩, ⟨#[99]⟩, ⟨#[99, 97, 115, 104]⟩, ⟨#[97, 97]⟩, ⟨#[]⟩, ⟨#[65]⟩, ⟨#[97, 98, 99, 100, 101]⟩, ⟨#[97, 32, 98]⟩, ⟨#[97, 58]⟩]
theorem names1_small (u : ByteArray) (h : u ∈ names1) : u.size ≤ 5 := by
 simp only [names1, List.mem_cons, List.not_mem_nil, or_false] at h
 rcases h with rfl | rfl | rfl | rfl | rfl | rfl | rfl | rfl | rfl | rfl | rfl <;> simp [ByteArray.size]
theorem names1_none (u : ByteArray) (h : u ∈ names1) : u.toList ≠ (⟨#[110, 111, 110, 101]⟩ : ByteArray).toList := by
 simp only [names1, List.mem_cons, List.not_mem_nil, or_false] at h
 intro e
 rcases h with rfl | rfl | rfl | rfl | rfl | rfl | rfl | rfl | rfl | rfl | rfl <;> simp [ByteArray.toList_eq] at e
/-- Legs that are few, of drawn accounts. -/
structure Few (n : Nat) (xs : List S29) : Prop where
 len : xs.length ≤ n
 names : ∀ x ∈ xs, x.f0 ∈ names1
theorem Few.sound {n : Nat} {xs : List S29} (h : Few n xs) : ∀ x ∈ xs, x.f0.size ≤ 140737488351232 := fun x hx => by have := names1_small _ (h.names x hx); omega
theorem Few.set {n : Nat} {xs : List S29} (h : Few n xs) (i : Nat) (x : S29) (hx : x.f0 ∈ names1) : Few n (xs.set i x) :=
 ⟨by rw [List.length_set]; exact h.len, fun y hy => by
  rcases List.mem_or_eq_of_mem_set hy with hy | rfl
  ·
   exact h.names y hy
  ·
   exact hx⟩
theorem Few.snoc {n : Nat} {xs : List S29} (h : Few n xs) (hl : xs.length < n) (x : S29) (hx : x.f0 ∈ names1) : Few n (xs ++ [x]) :=
 ⟨by simp; omega, fun y hy => by
  rcases List.mem_append.1 hy with hy | hy
  ·
   exact h.names y hy
  ·
   obtain rfl := List.mem_singleton.1 hy
   exact hx⟩
theorem rd_mem {xs : List S29} {i : Int} (h0 : 0 ≤ i) (h1 : i < (xs.length : Int)) : rd_T29 xs i ∈ xs := by
 have hi : i.toNat < xs.length := by omega
 have e : rd_T29 xs i = xs[i.toNat] := by simp [rd_T29, List.getD_eq_getElem?_getD, List.getElem?_eq_getElem hi]
 rw [e]
 exact List.getElem_mem hi
theorem spec_l1Acct_ev (l : List Int) (hl : Bytes l) (p : Int) (h0 : 0 ≤ p) (h1 : p ≤ 900000000000) : EvP (fun k => spec_l1Acct.f k l p) (fun r => r.2 = p + 1 ∧ r.1 ∈ names1) := by
 unfold spec_l1Acct.f
 refine EvP.bind (spec_l9Rd_of_ev l hl p _ (by simp) h0 (by omega)) ?_
 rintro ⟨x, q⟩ ⟨hq, hx⟩
 refine EvP.now ⟨hq, ?_⟩
 simp only [List.mem_cons, List.not_mem_nil, or_false] at hx
 simp only [names1, List.mem_cons, List.not_mem_nil, or_false]
 rcases hx with rfl | rfl | rfl | rfl | rfl | rfl <;> simp
/-- What a drawn posting is like. -/
structure DrawnP (n : Nat) (p d : Int) (r : Int × List S29 × Int) : Prop where
 few : Few n r.2.1
 lo : p ≤ r.2.2
 hi : r.2.2 ≤ p + d
theorem two_few (a b : ByteArray) (c c' n n' : Int) (ha : a ∈ names1) (hb : b ∈ names1) : Few 5 ([⟨a, c, n⟩, ⟨b, c', n'⟩] : List S29) :=
 ⟨by simp, fun x hx => by
  simp only [List.mem_cons, List.not_mem_nil, or_false] at hx
  rcases hx with rfl | rfl
  ·
   exact ha
  ·
   exact hb⟩
theorem spec_l1Post_ev (l : List Int) (hl : Bytes l) (p : Int) (h0 : 0 ≤ p) (h1 : p ≤ 800000000000) : EvP (fun k => spec_l1Post.f k l p) (DrawnP 5 p 9) := by
 unfold spec_l1Post.f
 refine EvP.bind (spec_l9Rd_pick_ev l hl p _ h0 (by omega)) ?_
 rintro ⟨id, p1⟩ ⟨hp1, hid0, hid1, _⟩
 simp only at hp1 hid0 hid1
 refine EvP.bind (spec_l9Rd_num_ev l hl p1 _ (by simp) (by omega) (by omega)) ?_
 rintro ⟨n, p2⟩ ⟨hp2, hn⟩
 simp only at hp2 hn
 refine EvP.bind (spec_l9Rd_pick_ev l hl p2 _ (by omega) (by omega)) ?_
 rintro ⟨c, p3⟩ ⟨hp3, _⟩
 simp only at hp3
 refine EvP.bind (spec_l1Acct_ev l hl p3 (by omega) (by omega)) ?_
 rintro ⟨a, p4⟩ ⟨hp4, ha⟩
 simp only at hp4 ha
 refine EvP.bind (spec_l1Acct_ev l hl p4 (by omega) (by omega)) ?_
 rintro ⟨b, p5⟩ ⟨hp5, hb⟩
 simp only at hp5 hb
 refine EvP.bind (P := (· = _)) (EvP.now rfl) ?_
 rintro _ rfl
 have h2 := two_few a b (wrap64 (1 + c)) (wrap64 (1 + c)) n (wrap64 (-n)) ha hb
 refine EvP.bind (spec_l9Rd_pick_ev l hl p5 _ (by omega) (by omega)) ?_
 rintro ⟨w, p6⟩ ⟨hp6, _⟩
 simp only at hp6
 refine EvP.split (fun _ => ?_) (fun _ => EvP.split (fun _ => ?_) (fun _ => EvP.now ⟨h2, by show p ≤ p6; omega, by show p6 ≤ p + 9; omega⟩))
 ·
  refine EvP.bind (spec_l9Rd_pick_ev l hl p6 _ (by omega) (by omega)) ?_
  rintro ⟨d, p7⟩ ⟨hp7, _⟩
  simp only at hp7
  refine EvP.bind (spec_l1Acct_ev l hl p7 (by omega) (by omega)) ?_
  rintro ⟨e, p8⟩ ⟨hp8, he⟩
  simp only at hp8 he
  refine EvP.bind (spec_l1Acct_ev l hl p8 (by omega) (by omega)) ?_
  rintro ⟨f, p9⟩ ⟨hp9, hf⟩
  simp only at hp9 hf
  refine EvP.bind (P := (· = _)) (EvP.now rfl) ?_
  rintro _ rfl
  refine EvP.pos (by simp) (EvP.now ⟨⟨by simp, fun x hx => ?_⟩, by show p ≤ p9; omega, by show p9 ≤ p + 9; omega⟩)
  simp only [List.mem_cons, List.not_mem_nil, or_false, List.mem_append] at hx
  rcases hx with (rfl | rfl) | (rfl | rfl)
  ·
   exact ha
  ·
   exact hb
  ·
   exact he
  ·
   exact hf
 ·
  refine EvP.split (fun _ => EvP.pos (by simp) ?_) (fun _ => EvP.now ⟨h2, by show p ≤ p6; omega, by show p6 ≤ p + 9; omega⟩)
  refine EvP.bind (P := (· = _)) (EvP.now rfl) ?_
  rintro _ rfl
  refine EvP.bind (spec_l1Acct_ev l hl p6 (by omega) (by omega)) ?_
  rintro ⟨e, p7⟩ ⟨hp7, he⟩
  simp only at hp7 he
  refine EvP.pos (by simp) (EvP.now ⟨Few.snoc (h2.set _ _ ?_) (by simp) _ he, by show p ≤ p7; omega, by show p7 ≤ p + 9; omega⟩)
  have hm : rd_T29 ([⟨a, wrap64 (1 + c), n⟩, ⟨b, wrap64 (1 + c), wrap64 (-n)⟩] : List S29) 1 ∈ ([⟨a, wrap64 (1 + c), n⟩, ⟨b, wrap64 (1 + c), wrap64 (-n)⟩] : List S29) := rd_mem (by omega) (by simp)
  have h3 := h2.names _ hm
  exact h3
theorem spec_l1Bent_l0 (l : List Int) (hl : Bytes l) (n : Nat) (hn : 5 ≤ n) (hn' : n ≤ 1000) (id : Int) : ∀ (d : Nat) (p : Int) (xs : List S29), Few n xs → 0 < xs.length → 5 ≤ xs.length + d → d ≤ 5 → 0 ≤ p → p + d ≤ 900000000000 → EvP (fun k => spec_l1Bent.l0 k l p id xs) (DrawnP n p (d + 1)) := by
 intro d
 induction d with
 | zero =>
  intro p xs hx h1 h5 _ h0 hp
  refine EvP.step (fun k => by rw [spec_l1Bent.l0]) ?_
  refine EvP.bind (spec_l9Rd_pick_ev l hl p _ h0 (by omega)) ?_
  rintro ⟨v, p1⟩ ⟨hp1, hv0, hv1, _⟩
  simp only at hp1 hv0 hv1
  have hv := hv1 (by omega)
  rw [w64 (x := 4 + v) (by omega) (by omega)]
  exact EvP.neg (by omega) (EvP.now ⟨hx, by show p ≤ p1; omega, by show p1 ≤ _; omega⟩)
 | succ d ih =>
  intro p xs hx h1 h5 hd h0 hp
  refine EvP.step (fun k => by rw [spec_l1Bent.l0]) ?_
  refine EvP.bind (spec_l9Rd_pick_ev l hl p _ h0 (by omega)) ?_
  rintro ⟨v, p1⟩ ⟨hp1, hv0, hv1, _⟩
  simp only at hp1 hv0 hv1
  have hv := hv1 (by omega)
  rw [w64 (x := 4 + v) (by omega) (by omega)]
  refine EvP.split (fun hlt => EvP.pos (by omega) (EvP.pos (by omega) ?_)) (fun _ => EvP.now ⟨hx, by show p ≤ p1; omega, by show p1 ≤ _; omega⟩)
  have hm := hx.names _ (rd_mem (xs := xs) (i := 0) (by omega) (by omega))
  refine (ih p1 (xs ++ [_]) (hx.snoc (by omega) _ hm) (by simp) (by simp; omega) (by omega) (by omega) (by omega)).mono ?_
  rintro r ⟨hf, ha, hb⟩
  exact ⟨hf, by omega, by omega⟩
theorem spec_l1Bent_j1 (l : List Int) (n : Nat) (id p i : Int) (b : Bool) (xs : List S29) (hx : Few n xs) (hi : 0 ≤ i) (hi' : i < (xs.length : Int)) (d : Int) (hd : 0 ≤ d) (p0 : Int) (hp : p0 ≤ p) (hp' : p ≤ p0 + d) : EvP (fun k => spec_l1Bent.j1 k i b l p id xs) (DrawnP n p0 d) := by
 refine EvP.step (fun k => by rw [spec_l1Bent.j1]) (EvP.split (fun _ => EvP.pos hi (EvP.pos hi' (EvP.now ⟨hx.set _ _ ?_, hp, hp'⟩))) (fun _ => EvP.now ⟨hx, hp, hp'⟩))
 have hm := hx.names _ (rd_mem hi hi')
 exact hm
theorem spec_l1Copy_eq (a : Int) (xs : List S29) (h : xs.length < 4398046511104) : spec_l1Copy.f a xs = some (a, xs) := by
 unfold spec_l1Copy.f
 simp [h]
theorem spec_l1Bent_ev (l : List Int) (hl : Bytes l) (n : Nat) (hn : 5 ≤ n) (hn' : n ≤ 1000) (p id : Int) (xs : List S29) (hx : Few n xs) (h0 : 0 ≤ p) (h1 : p ≤ 800000000000) : EvP (fun k => spec_l1Bent.f k l p id xs) (DrawnP n p 9) := by
 unfold spec_l1Bent.f
 have hlen := hx.len
 rw [spec_l1Copy_eq _ _ (by omega)]
 refine EvP.bind (P := (· = _)) (EvP.now rfl) ?_
 rintro _ rfl
 dsimp only
 refine EvP.bind (P := fun r => 1 ≤ r ∧ (1 ≤ xs.length → r = (xs.length : Int))) ?_ ?_
 ·
  unfold spec_l1Max.f
  refine EvP.split (fun hm => EvP.now ?_) (fun hm => EvP.now ?_) <;> constructor <;> omega
 rintro m ⟨hm1, hm2⟩
 refine EvP.bind (spec_l9Rd_pick_ev l hl p m h0 (by omega)) ?_
 rintro ⟨i, p1⟩ ⟨hp1, hi0, hi1, _⟩
 simp only at hp1 hi0 hi1
 have hi := hi1 hm1
 refine EvP.split (fun _ => EvP.now ⟨hx, by show p ≤ p1; omega, by show p1 ≤ _; omega⟩) (fun hne => ?_)
 have hi' : i < (xs.length : Int) := by have := hm2 (by omega); omega
 have hold := hx.names _ (rd_mem hi0 hi')
 refine EvP.bind (spec_l9Rd_pick_ev l hl p1 _ (by omega) (by omega)) ?_
 rintro ⟨w, p2⟩ ⟨hp2, _⟩
 simp only at hp2
 refine EvP.split (fun _ => ?_) (fun _ => EvP.split (fun _ => ?_) (fun _ => EvP.split (fun _ => ?_) (fun _ => EvP.split (fun _ => ?_) (fun _ => EvP.split (fun _ => ?_) (fun _ => EvP.split (fun _ => ?_) (fun _ => ?_))))))
 ·
  refine EvP.bind (spec_l9Rd_num_ev l hl p2 _ (by simp) (by omega) (by omega)) ?_
  rintro ⟨v, p3⟩ ⟨hp3, hv⟩
  simp only at hp3 hv
  exact EvP.now ⟨hx, by show p ≤ p3; omega, by show p3 ≤ _; omega⟩
 ·
  refine EvP.bind (spec_l9Rd_num_ev l hl p2 _ (by simp) (by omega) (by omega)) ?_
  rintro ⟨v, p3⟩ ⟨hp3, hv⟩
  simp only at hp3 hv
  exact EvP.pos hi0 (EvP.pos hi' (EvP.now ⟨hx.set _ _ hold, by show p ≤ p3; omega, by show p3 ≤ _; omega⟩))
 ·
  refine EvP.bind (spec_l9Rd_of_ev l hl p2 _ (by simp) (by omega) (by omega)) ?_
  rintro ⟨v, p3⟩ ⟨hp3, hv⟩
  simp only at hp3 hv
  refine EvP.pos hi0 (EvP.pos hi' (EvP.now ⟨hx.set _ _ ?_, by show p ≤ p3; omega, by show p3 ≤ _; omega⟩))
  simp only [List.mem_cons, List.not_mem_nil, or_false] at hv
  simp only [names1, List.mem_cons, List.not_mem_nil, or_false]
  rcases hv with rfl | rfl | rfl | rfl | rfl <;> simp
 ·
  refine EvP.bind (spec_l9Rd_num_ev l hl p2 _ (by simp) (by omega) (by omega)) ?_
  rintro ⟨v, p3⟩ ⟨hp3, hv⟩
  simp only at hp3 hv
  exact EvP.pos hi0 (EvP.pos hi' (EvP.now ⟨hx.set _ _ hold, by show p ≤ p3; omega, by show p3 ≤ _; omega⟩))
 ·
  exact EvP.now ⟨⟨by simp, by simp⟩, by show p ≤ p2; omega, by show p2 ≤ _; omega⟩
 ·
  refine (spec_l1Bent_l0 l hl n hn hn' id 5 p2 xs hx (by omega) (by omega) (by omega) (by omega) (by omega)).mono ?_
  rintro r ⟨hf, ha, hb⟩
  exact ⟨hf, by omega, by omega⟩
 ·
  exact EvP.split (fun _ => spec_l1Bent_j1 l n id p2 i _ xs hx hi0 hi' 9 (by omega) p (by omega) (by omega)) (fun _ => spec_l1Bent_j1 l n id p2 i _ xs hx hi0 hi' 9 (by omega) p (by omega) (by omega))

theorem spec_bent_ev (l : List Int) (hl : Bytes l) (id : Int) (xs : List S29) (p : Int) (hf : Few 5 xs) (h0 : 0 ≤ p) (h1 : p ≤ 700000000000) : EvP (fun k => spec_l1Bent.f k l p id xs) (fun r => Few 5 r.2.1 ∧ p ≤ r.2.2 ∧ r.2.2 ≤ p + 9) :=
 (spec_l1Bent_ev l hl 5 (by omega) (by omega) p id xs hf h0 (by omega)).mono (fun r hr => ⟨hr.few, hr.lo, hr.hi⟩)
theorem spec_DrawPostSame_ev (l0 : List Int) (h : ∀ x ∈ l0, (Lit.int .u8 x).wf = true) : EvP (fun k => spec_DrawPostSame.f k l0) (fun r => Few 5 r.2.1 ∧ Few 5 r.2.2.2) := by
 unfold spec_DrawPostSame.f
 refine EvP.bind (spec_l9Open_ev l0 h) ?_
 rintro ⟨l, p⟩ ⟨hl, hp⟩
 simp only at hp hl
 refine EvP.bind (spec_l1Post_ev l hl p (by omega) (by omega)) ?_
 rintro ⟨id, xs, p1⟩ ⟨hf, ha, hb⟩
 simp only at hf ha hb
 refine EvP.bind (spec_bent_ev l hl id xs p1 hf (by omega) (by omega)) ?_
 rintro ⟨i2, x2, p2⟩ ⟨hf2, ha2, hb2⟩
 simp only at hf2 ha2 hb2
 refine EvP.bind (spec_bent_ev l hl i2 x2 p2 hf2 (by omega) (by omega)) ?_
 rintro ⟨i3, x3, p3⟩ ⟨hf3, ha3, hb3⟩
 simp only at hf3 ha3 hb3
 refine EvP.bind (spec_bent_ev l hl i3 x3 p3 hf3 (by omega) (by omega)) ?_
 rintro ⟨i4, x4, p4⟩ ⟨hf4, ha4, hb4⟩
 simp only at hf4 ha4 hb4
 refine EvP.bind (spec_bent_ev l hl i4 x4 p4 hf4 (by omega) (by omega)) ?_
 rintro ⟨i5, x5, p5⟩ ⟨hf5, _, _⟩
 exact EvP.now ⟨hf, hf5⟩
theorem spec_DrawLegOk_ev (l0 : List Int) (h : ∀ x ∈ l0, (Lit.int .u8 x).wf = true) : EvP (fun k => spec_DrawLegOk.f k l0) (fun r => r.1 ∈ names1) := by
 unfold spec_DrawLegOk.f
 refine EvP.bind (spec_l9Open_ev l0 h) ?_
 rintro ⟨l, p⟩ ⟨hl, hp⟩
 simp only at hp hl
 refine EvP.bind (spec_l1Post_ev l hl p (by omega) (by omega)) ?_
 rintro ⟨id, xs, p1⟩ ⟨hf, ha, hb⟩
 simp only at hf ha hb
 refine EvP.bind (spec_bent_ev l hl id xs p1 hf (by omega) (by omega)) ?_
 rintro ⟨i2, x2, p2⟩ ⟨hf2, ha2, hb2⟩
 simp only at hf2 ha2 hb2
 refine EvP.bind (spec_bent_ev l hl i2 x2 p2 hf2 (by omega) (by omega)) ?_
 rintro ⟨i3, x3, p3⟩ ⟨hf3, ha3, hb3⟩
 simp only at hf3 ha3 hb3
 refine EvP.bind (spec_bent_ev l hl i3 x3 p3 hf3 (by omega) (by omega)) ?_
 rintro ⟨i4, x4, p4⟩ ⟨hf4, ha4, hb4⟩
 simp only at hf4 ha4 hb4
 refine EvP.split (fun _ => EvP.now (by simp [names1])) (fun hne => ?_)
 simp only at hne ⊢
 refine EvP.bind (spec_l9Rd_pick_ev l hl p4 _ (by omega) (by omega)) ?_
 rintro ⟨v, p5⟩ ⟨_, hv0, hv1, _⟩
 simp only at hv0 hv1
 have hv := hv1 (by omega)
 exact EvP.pos hv0 (EvP.pos hv (EvP.now (hf4.names _ (rd_mem hv0 hv))))
theorem spec_DrawAcctOk_ev (l0 : List Int) (h : ∀ x ∈ l0, (Lit.int .u8 x).wf = true) : EvP (fun k => spec_DrawAcctOk.f k l0) (fun r => r.size ≤ 5) := by
 unfold spec_DrawAcctOk.f
 refine EvP.bind (spec_l9Open_ev l0 h) ?_
 rintro ⟨l, p⟩ ⟨hl, hp⟩
 simp only at hp hl
 refine EvP.bind (spec_l9Rd_of_ev l hl p _ (by simp) (by omega) (by omega)) ?_
 rintro ⟨u, p1⟩ ⟨_, hu⟩
 refine EvP.now ?_
 simp only [List.mem_cons, List.not_mem_nil, or_false] at hu
 rcases hu with rfl | rfl | rfl | rfl | rfl | rfl | rfl | rfl <;> simp [ByteArray.size]

theorem postSame_symm (a : Int) (xs : List S29) (b : Int) (ys : List S29) : postSameB a xs b ys = postSameB b ys a xs := by
 unfold postSameB
 refine decide_eq_decide.2 ⟨fun h => ⟨h.1.symm, h.2.symm⟩, fun h => ⟨h.1.symm, h.2.symm⟩⟩
theorem FnPostBent (l0 : List Int) (g0 : l0.length ≤ maxLen ∧ ∀ x ∈ l0, (Lit.int .u8 x).wf = true) : ∃ k, laws_FnPostBent.f k l0 = some true := by
 refine EvP.done ?_
 unfold laws_FnPostBent.f
 refine EvP.split (fun _ => EvP.now rfl) (fun _ => ?_)
 refine EvP.bind (spec_DrawPostSame_ev l0 g0.2) ?_
 rintro ⟨id, xs, id2, ys⟩ ⟨hf, hf2⟩
 refine EvP.bind (spec_DrawLegOk_ev l0 g0.2) ?_
 rintro ⟨la, lc, ln⟩ hla
 refine EvP.bind (spec_DrawAcctOk_ev l0 g0.2) ?_
 rintro s hs
 simp only at hf hf2 hla ⊢
 have hla' := names1_small _ hla
 have h5 := hf.len
 have h52 := hf2.len
 have hsx : Sound xs := hf.sound
 refine EvP.bind (impl_PostSame_ev id xs id2 ys (by omega)) ?_
 rintro _ rfl
 refine EvP.bind (spec_PostSame_ev id xs id2 ys (by omega)) ?_
 rintro _ rfl
 refine EvP.neg (by simp) (EvP.bind (impl_PostSame_ev id xs id2 ys (by omega)) ?_)
 rintro _ rfl
 refine EvP.bind (impl_PostSame_ev id2 ys id xs (by omega)) ?_
 rintro _ rfl
 refine EvP.neg (by rw [postSame_symm]; simp) (EvP.bind (impl_LegOk_ev la lc ln (by omega)) ?_)
 rintro _ rfl
 refine EvP.bind (spec_LegOk_ev la lc ln (by omega)) ?_
 rintro _ rfl
 refine EvP.neg (by simp) (EvP.bind (impl_AcctOk_ev s (by omega)) ?_)
 rintro _ rfl
 refine EvP.bind (spec_AcctOk_ev s (by omega)) ?_
 rintro _ rfl
 refine EvP.neg (by simp) (EvP.bind (impl_PostSame_ev id xs id xs (by omega)) ?_)
 rintro _ rfl
 have e0 : postSameB id xs id xs = true := by simp [postSameB]
 rw [e0]
 refine EvP.step (fun k => by rw [laws_FnPostBent.j0]) (EvP.neg (by simp) (EvP.bind (impl_PostOk_ev id xs hsx) ?_))
 rintro _ rfl
 refine EvP.split (fun hb => ?_) (fun _ => EvP.now rfl)
 have hid : 0 ≤ id ∧ id ≤ 99 := by
  unfold postB headB at hb
  simp only [Bool.and_eq_true, decide_eq_true_eq] at hb
  exact ⟨hb.1.1.1.1, hb.1.1.1.2⟩
 simp only [Option.bind_some, List.nil_append, List.length_nil]
 refine EvP.pos (by omega) (EvP.pos (by simp; omega) (EvP.pos (by omega) (EvP.pos (by omega) (EvP.pos (by simp; omega) ?_))))
 have q1 : postB id [] = false := by simp [postB, headB]
 have q2 : postB 100 xs = false := by simp [postB, headB]
 have q3 : postB id (xs ++ [(⟨⟨#[97]⟩, 1, 0⟩ : S29)]) = false := by simp [postB, legOkB, legB]
 have q4 : postSameB id xs 100 xs = false := by
  unfold postSameB
  exact decide_eq_false (fun h => by omega)
 have q5 : postSameB id xs id (xs ++ [(⟨⟨#[97]⟩, 1, 0⟩ : S29)]) = false := by
  unfold postSameB
  refine decide_eq_false (fun h => ?_)
  have := congrArg List.length h.2
  simp at this
 refine EvP.bind (impl_PostOk_ev id [] (fun x hx => by simp at hx)) ?_
 rintro _ rfl
 refine EvP.neg (by rw [q1]; simp) (EvP.bind (impl_PostOk_ev 100 xs hsx) ?_)
 rintro _ rfl
 refine EvP.neg (by rw [q2]; simp) (EvP.bind (impl_PostOk_ev id _ (fun x hx => ?_)) ?_)
 ·
  rcases List.mem_append.1 hx with hx | hx
  ·
   exact hsx x hx
  ·
   obtain rfl := List.mem_singleton.1 hx
   decide
 rintro _ rfl
 refine EvP.neg (by rw [q3]; simp) (EvP.split (fun _ => ?_) (fun h4 => ?_))
 ·
  refine EvP.bind (impl_PostSame_ev id xs 100 xs (by omega)) ?_
  rintro _ rfl
  refine EvP.neg (by rw [q4]; simp) (EvP.bind (impl_PostSame_ev id xs id _ (by omega)) ?_)
  rintro _ rfl
  rw [q5]
  exact EvP.now rfl
 ·
  have q6 : postB id ((xs ++ xs) ++ (xs ++ xs)) = false := by
   have : ¬ ((xs ++ xs) ++ (xs ++ xs)).length ≤ 4 := by omega
   unfold postB headB
   rw [decide_eq_false this]
   simp
  refine EvP.bind (impl_PostOk_ev id _ (fun x hx => hsx x (by simp at hx; exact hx))) ?_
  rintro _ rfl
  refine EvP.neg (by rw [q6]; simp) (EvP.bind (impl_PostSame_ev id xs 100 xs (by omega)) ?_)
  rintro _ rfl
  refine EvP.neg (by rw [q4]; simp) (EvP.bind (impl_PostSame_ev id xs id _ (by omega)) ?_)
  rintro _ rfl
  rw [q5]
  exact EvP.now rfl


end Go.Proofs.Ytemnggadcgmmkaa.Pure
