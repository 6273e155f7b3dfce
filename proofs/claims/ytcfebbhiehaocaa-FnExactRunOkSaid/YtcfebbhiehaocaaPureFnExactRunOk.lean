/- The program's RunOk answers what the reference's answers -/
import Derived.Test.YtcfebbhiehaocaaQFnExactRunOkx15
import Derived.Test.YtcfebbhiehaocaaBBase
set_option linter.unusedVariables false
set_option linter.unusedSimpArgs false
namespace Go.Proofs.Ytcfebbhiehaocaa.Pure
open Go.RowKit Go.Proofs.Ytcfebbhiehaocaa.QFnExactRunOk Go.Proofs.YtcfebbhiehaocaaW.PrintWords Go.Proofs.YtcfebbhiehaocaaW.PrintLast Go.Proofs.YtcfebbhiehaocaaW.PrintMore Go.Proofs.Ytcfebbhiehaocaa.B

theorem szEntry_ev (a0 : ByteArray) (a1 a2 : Int) (a3 : ByteArray) (a4 left : Int) (h0 : a0.size ≤ maxLen) (h3 : a3.size ≤ maxLen) (hl : 0 ≤ left) (hl' : left ≤ 1048576) :
  ∃ r, laws_szEntry.f a0 a1 a2 a3 a4 left = some r ∧ r ≤ left ∧ (0 ≤ r → (a0.size : Int) ≤ left ∧ (a3.size : Int) ≤ left) := by
 unfold maxLen at h0 h3
 unfold laws_szEntry.f
 rw [w64 (x := left - (a0.size : Int)) (by omega) (by omega)]
 split
 ·
  exact ⟨-1, rfl, by omega, by omega⟩
 ·
  rw [w64 (by omega) (by omega)]
  split
  ·
   exact ⟨-1, rfl, by omega, by omega⟩
  ·
   exact ⟨_, rfl, by omega, by omega⟩

/-! ### Entries: sizes, copies, sameness -/
theorem rd_mid25 (pre rest : List S57) (x : S57) : rd_T57 (pre ++ x :: rest) (pre.length : Int) = x := by simp [rd_T57]
theorem rd_mid28 (pre rest : List S48) (x : S48) : rd_T48 (pre ++ x :: rest) (pre.length : Int) = x := by simp [rd_T48]
def entOf (x : S57) : S48 := ⟨x.f0, x.f1, x.f2, x.f3, x.f4⟩
def entKey (x : S48) : List UInt8 × Int × Int × List UInt8 × Int := (x.f0.toList, x.f1, x.f2, x.f3.toList, x.f4)
theorem szEntryS_l0 (xs : List S57) (hx : xs.length ≤ 1048576) (h : ∀ x ∈ xs, x.f0.size ≤ maxLen ∧ x.f3.size ≤ maxLen) : ∀ (rest pre : List S57) (left : Int), xs = pre ++ rest → 0 ≤ left → left ≤ 1048576 →
  EvP (fun k => laws_szEntryS.l0 k xs left (pre.length : Int)) (fun r => r ≤ left ∧ (0 ≤ r → ∀ x ∈ rest, (x.f0.size : Int) ≤ 1048576 ∧ (x.f3.size : Int) ≤ 1048576)) := by
 intro rest
 induction rest with
 | nil =>
  intro pre left e h0 h1
  refine EvP.step (fun k => by rw [laws_szEntryS.l0]) (EvP.neg (by simp [e]) (EvP.now ⟨Int.le_refl _, by simp⟩))
 | cons x rest ih =>
  intro pre left e h0 h1
  have hl : xs.length = pre.length + (rest.length + 1) := by rw [e]; simp
  refine EvP.step (fun k => by rw [laws_szEntryS.l0]) (EvP.pos (by omega) (EvP.pos (by omega) ?_))
  have hr : rd_T57 xs (pre.length : Int) = x := by rw [e]; exact rd_mid25 pre rest x
  rw [hr]
  obtain ⟨r, hr, hle, hb⟩ := szEntry_ev x.f0 x.f1 x.f2 x.f3 x.f4 left (h x (by rw [e]; simp)).1 (h x (by rw [e]; simp)).2 h0 h1
  simp only [hr, Option.bind_some]
  refine EvP.split (fun hneg => EvP.now ⟨by omega, fun hh => by omega⟩) (fun hpos => ?_)
  have e2 : wrap64 ((pre.length : Int) + 1) = ((pre ++ [x]).length : Int) := by rw [w64 (by omega) (by omega)]; simp
  rw [e2]
  refine (ih (pre ++ [x]) r (by rw [e]; simp) (by omega) (by omega)).mono ?_
  rintro a ⟨ha, hb'⟩
  refine ⟨by omega, fun hh y hy => ?_⟩
  rcases List.mem_cons.1 hy with rfl | hy
  ·
   have := hb (by omega); omega
  ·
   exact hb' hh y hy
theorem szEntryS_ev (xs : List S57) (left : Int) (hl : xs.length ≤ maxLen) (h : ∀ x ∈ xs, x.f0.size ≤ maxLen ∧ x.f3.size ≤ maxLen) (h0 : 0 ≤ left) (h1 : left ≤ 1048576) :
  EvP (fun k => laws_szEntryS.f k xs left) (fun r => r ≤ left ∧ (0 ≤ r → xs.length ≤ 1048576 ∧ ∀ x ∈ xs, (x.f0.size : Int) ≤ 1048576 ∧ (x.f3.size : Int) ≤ 1048576)) := by
 unfold laws_szEntryS.f
 unfold maxLen at hl
 rw [w64 (by omega) (by omega)]
 refine EvP.split (fun hn => EvP.now ⟨by omega, fun hh => by omega⟩) (fun hp => ?_)
 refine (szEntryS_l0 xs (by omega) h xs [] _ rfl (by omega) (by omega)).mono ?_
 rintro r ⟨ha, hb⟩
 exact ⟨by omega, fun hh => ⟨by omega, hb hh⟩⟩
theorem toEntryS_l0 (xs : List S57) (hx : xs.length ≤ 1048576) : ∀ (rest pre : List S57), xs = pre ++ rest →
  EvP (fun k => laws_toEntryS.l0 k xs (pre.map entOf ++ List.replicate rest.length z48) (pre.length : Int)) (· = xs.map entOf) := by
 intro rest
 induction rest with
 | nil =>
  intro pre e
  refine EvP.step (fun k => by rw [laws_toEntryS.l0]) (EvP.neg (by simp [e]) (EvP.now ?_))
  simp [e]
 | cons x rest ih =>
  intro pre e
  have hl : xs.length = pre.length + (rest.length + 1) := by rw [e]; simp
  refine EvP.step (fun k => by rw [laws_toEntryS.l0]) (EvP.pos (by omega) (EvP.pos (by omega) ?_))
  have hr : rd_T57 xs (pre.length : Int) = x := by rw [e]; exact rd_mid25 pre rest x
  rw [hr]
  simp only [laws_toEntry.f, Option.bind_some]
  refine EvP.pos (by simp; omega) ?_
  have e2 : wrap64 ((pre.length : Int) + 1) = ((pre ++ [x]).length : Int) := by rw [w64 (by omega) (by omega)]; simp
  rw [e2]
  have e3 : (pre.map entOf ++ List.replicate (x :: rest).length z48).set ((pre.length : Int)).toNat (⟨x.f0, x.f1, x.f2, x.f3, x.f4⟩ : S48) = (pre ++ [x]).map entOf ++ List.replicate rest.length z48 := by
   simp [List.replicate_succ, entOf]
  rw [e3]
  exact ih (pre ++ [x]) (by rw [e]; simp)
theorem toEntryS_ev (xs : List S57) (hx : xs.length ≤ 1048576) : EvP (fun k => laws_toEntryS.f k xs) (· = xs.map entOf) := by
 unfold laws_toEntryS.f
 refine EvP.pos (by omega) (EvP.pos (by omega) ?_)
 have := toEntryS_l0 xs hx xs [] rfl
 simpa using this
theorem eqEntryS_l0 (xs ys : List S48) (hx : xs.length ≤ 1048576) : ∀ (r r' pre pre' : List S48), xs = pre ++ r → ys = pre' ++ r' → pre.length = pre'.length → r.length = r'.length →
  EvP (fun k => laws_eqEntryS.l0 k xs ys (pre.length : Int)) (· = decide (r.map entKey = r'.map entKey)) := by
 intro r
 induction r with
 | nil =>
  intro r' pre pre' e e' hl hr
  obtain rfl : r' = [] := List.eq_nil_of_length_eq_zero (by simpa using hr.symm)
  exact EvP.step (fun k => by rw [laws_eqEntryS.l0]) (EvP.neg (by simp [e]) (EvP.now (by simp)))
 | cons x r ih =>
  intro r' pre pre' e e' hl hr
  cases r' with
  | nil => simp at hr
  | cons y r' =>
   have h1 : xs.length = pre.length + (r.length + 1) := by rw [e]; simp
   have h2 : ys.length = pre'.length + (r'.length + 1) := by rw [e']; simp
   refine EvP.step (fun k => by rw [laws_eqEntryS.l0]) (EvP.pos (by omega) (EvP.pos (by omega) (EvP.pos (by simp at hr; omega) ?_)))
   have hrx : rd_T48 xs (pre.length : Int) = x := by rw [e]; exact rd_mid28 pre r x
   have hry : rd_T48 ys (pre.length : Int) = y := by rw [e', hl]; exact rd_mid28 pre' r' y
   rw [hrx, hry]
   have e2 : wrap64 ((pre.length : Int) + 1) = ((pre ++ [x]).length : Int) := by rw [w64 (by omega) (by omega)]; simp
   have step := ih r' (pre ++ [x]) (pre' ++ [y]) (by rw [e]; simp) (by rw [e']; simp) (by simp [hl]) (by simpa using hr)
   rw [← e2] at step
   have hk : laws_eqEntry.f x.f0 x.f1 x.f2 x.f3 x.f4 y.f0 y.f1 y.f2 y.f3 y.f4 = some (decide (entKey x = entKey y)) := by
    unfold laws_eqEntry.f entKey
    by_cases c1 : x.f0.toList = y.f0.toList <;> by_cases c2 : x.f1 = y.f1 <;> by_cases c3 : x.f2 = y.f2 <;> by_cases c4 : x.f3.toList = y.f3.toList <;> by_cases c5 : x.f4 = y.f4 <;> simp [c1, c2, c3, c4, c5]
   simp only [hk, Option.bind_some]
   by_cases c : entKey x = entKey y
   ·
    refine EvP.pos (by simp [c]) (step.mono ?_)
    rintro _ rfl
    simp [c]
   ·
    exact EvP.neg (by simp [c]) (EvP.now (by simp [c]))
theorem eqEntryS_ev (xs ys : List S48) (hx : xs.length ≤ 1048576) : EvP (fun k => laws_eqEntryS.f k xs ys) (· = decide (xs.map entKey = ys.map entKey)) := by
 unfold laws_eqEntryS.f
 refine EvP.split (fun h => ?_) (fun h => EvP.now ?_)
 ·
  exact eqEntryS_l0 xs ys hx xs ys [] [] rfl rfl rfl (by omega)
 ·
  have : xs.map entKey ≠ ys.map entKey := fun he => h (by have := congrArg List.length he; simp at this; omega)
  simp [this]

/-! ### A run: size, copy, sameness -/
theorem szRun_ev (xs : List S57) (a : Int) (left : Int) (hl : xs.length ≤ maxLen) (h : ∀ x ∈ xs, x.f0.size ≤ maxLen ∧ x.f3.size ≤ maxLen) (h0 : 0 ≤ left) (h1 : left ≤ 1048576) :
  EvP (fun k => laws_szRun.f k xs a left) (fun r => r ≤ left ∧ (0 ≤ r → xs.length ≤ 1048576 ∧ ∀ x ∈ xs, (x.f0.size : Int) ≤ 1048576 ∧ (x.f3.size : Int) ≤ 1048576)) := by
 unfold laws_szRun.f
 refine EvP.bind (szEntryS_ev xs left hl h h0 h1) ?_
 rintro r ⟨hr, hb⟩
 exact EvP.split (fun hn => EvP.now ⟨by omega, by omega⟩) (fun hp => EvP.now ⟨hr, hb⟩)
theorem toRun_ev (xs : List S57) (a : Int) (hx : xs.length ≤ 1048576) : EvP (fun k => laws_toRun.f k xs a) (· = (xs.map entOf, a)) := by
 unfold laws_toRun.f
 refine EvP.bind (toEntryS_ev xs hx) ?_
 rintro _ rfl
 exact EvP.now rfl

/-! ### KeyOk -/
def keyByteB (c : Int) : Bool := decide ((97 ≤ c ∧ c ≤ 122) ∨ (47 ≤ c ∧ c ≤ 57))
/-- d bytes from place i on are all a to z, 0 to 9 or a slash. -/
def keysB (s : ByteArray) : Nat → Int → Bool
 | 0, _ => true
 | d + 1, i => keyByteB (bt s i) && keysB s d (i + 1)
def keyB (s : ByteArray) : Bool := decide (1 ≤ s.size) && decide (s.size ≤ 8) && keysB s s.size 0
theorem spec_KeyOk_l0 (s : ByteArray) (hs : s.size ≤ 140737488351232) : ∀ (d : Nat) (i : Int), 0 ≤ i → i + d = s.size →
  EvP (fun k => spec_KeyOk.l0 k s i) (· = (decide (1 ≤ s.size) && decide (s.size ≤ 8) && keysB s d i)) := by
 intro d
 induction d with
 | zero =>
  intro i h0 h
  refine EvP.step (fun k => by rw [spec_KeyOk.l0]) ?_
  refine EvP.neg (by omega) ?_
  refine EvP.split (fun h => ?_) (fun h => ?_)
  ·
   refine EvP.now ?_
   have e1 : decide (1 ≤ s.size) = true := decide_eq_true (by omega)
   have e2 : decide ((s.size : Int) ≤ 8) = decide (s.size ≤ 8) := by rw [decide_eq_decide]; omega
   simp only [keysB, e1, e2, Bool.true_and, Bool.and_true]
  ·
   refine EvP.now ?_
   have e1 : decide (1 ≤ s.size) = false := decide_eq_false (by omega)
   simp only [keysB, e1, Bool.false_and]
 | succ d ih =>
  intro i h0 h
  refine EvP.step (fun k => by rw [spec_KeyOk.l0]) ?_
  refine EvP.pos (by omega) (EvP.pos (by omega) ?_)
  have := ih (i + 1) (by omega) (by omega)
  rw [w64 (by omega) (by omega)]
  repeat' with_reducible refine EvP.split (fun _ => ?_) (fun _ => ?_)
  all_goals first
   | (refine EvP.now ?_; have e1 : keyByteB (bt s i) = false := decide_eq_false (by omega); simp only [keysB, e1, Bool.false_and, Bool.and_false])
   | (have e1 : keyByteB (bt s i) = true := decide_eq_true (by omega); simp only [keysB, e1, Bool.true_and]; exact this)
theorem spec_KeyOk_ev (s : ByteArray) (hs : s.size ≤ 140737488351232) : EvP (fun k => spec_KeyOk.f k s) (· = keyB s) :=
 spec_KeyOk_l0 s hs s.size 0 (by omega) (by omega)
theorem impl_KeyOk_l0 (s : ByteArray) (hs : s.size ≤ 140737488351232) : ∀ (d : Nat) (i : Int), 0 ≤ i → i + d = s.size →
  EvP (fun k => impl_KeyOk.l0 k s (s.size : Int) i) (· = keysB s d i) := by
 intro d
 induction d with
 | zero =>
  intro i h0 h
  refine EvP.step (fun k => by rw [impl_KeyOk.l0]) ?_
  refine EvP.neg (by omega) ?_
  exact EvP.now (by simp [keysB])
 | succ d ih =>
  intro i h0 h
  refine EvP.step (fun k => by rw [impl_KeyOk.l0]) ?_
  refine EvP.pos (by omega) (EvP.pos (by omega) (EvP.pos (by omega) ?_))
  have := ih (i + 1) (by omega) (by omega)
  rw [w64 (by omega) (by omega)]
  repeat' with_reducible refine EvP.split (fun _ => ?_) (fun _ => ?_)
  all_goals first
   | (refine EvP.now ?_; have e1 : keyByteB (bt s i) = false := decide_eq_false (by omega); simp only [keysB, e1, Bool.false_and, Bool.and_false])
   | (have e1 : keyByteB (bt s i) = true := decide_eq_true (by omega); simp only [keysB, e1, Bool.true_and]; exact this)
theorem impl_KeyOk_ev (s : ByteArray) (hs : s.size ≤ 140737488351232) : EvP (fun k => impl_KeyOk.f k s) (· = keyB s) := by
 unfold impl_KeyOk.f keyB
 refine EvP.split (fun h => ?_) (fun h => ?_)
 ·
  refine EvP.step (fun k => by rw [impl_KeyOk.j0]) (EvP.pos rfl (EvP.now ?_))
  have e1 : decide (1 ≤ s.size) = false := decide_eq_false (by omega)
  simp [e1]
 ·
  have e1 : decide (1 ≤ s.size) = true := decide_eq_true (by omega)
  refine EvP.step (fun k => by rw [impl_KeyOk.j0]) (EvP.split (fun h1 => EvP.now ?_) (fun h1 => ?_))
  ·
   have := of_decide_eq_true h1
   have e2 : decide (s.size ≤ 8) = false := decide_eq_false (by omega)
   simp [e2]
  ·
   have : ¬ (s.size : Int) > 8 := fun h => h1 (decide_eq_true h)
   have e2 : decide (s.size ≤ 8) = true := decide_eq_true (by omega)
   simp only [e1, e2, Bool.true_and]
   exact impl_KeyOk_l0 s hs s.size 0 (by omega) (by omega)

/-! ### EntryOk -/
def kindB (kind : Int) (x : ByteArray) (n : Int) : Bool :=
 if kind = 1 then true else if kind = 2 then (if x.toList = ([] : List UInt8) then (n == 0) else false) else if kind = 3 then (x.toList == ([] : List UInt8)) else false
def entB (k : ByteArray) (seq kind : Int) (x : ByteArray) (n : Int) : Bool :=
 keyB k && decide (1 ≤ seq) && decide (seq ≤ 100000) && decide (x.size ≤ 60) && decide (-1000000 ≤ n) && decide (n ≤ 1000000) && kindB kind x n
theorem spec_EntryOk_j0 (b : Bool) (k : ByteArray) (seq kind : Int) (x : ByteArray) (n : Int) : EvP (fun q => spec_EntryOk.j0 q b k seq kind x n) (· = (!b && kindB kind x n)) := by
 refine EvP.step (fun k => by rw [spec_EntryOk.j0]) ?_
 cases b
 ·
  refine EvP.neg (by simp) ?_
  simp only [kindB, Bool.not_false, Bool.true_and]
  repeat' with_reducible refine EvP.split (fun _ => ?_) (fun _ => ?_)
  all_goals exact EvP.now (by simp [*])
 ·
  exact EvP.pos rfl (EvP.now (by simp))
theorem impl_EntryOk_j1 (b : Bool) (k : ByteArray) (seq kind : Int) (x : ByteArray) (n : Int) : EvP (fun q => impl_EntryOk.j1 q b k seq kind x n) (· = (!b && kindB kind x n)) := by
 refine EvP.step (fun k => by rw [impl_EntryOk.j1]) ?_
 cases b
 ·
  refine EvP.neg (by simp) ?_
  simp only [kindB, Bool.not_false, Bool.true_and]
  repeat' with_reducible refine EvP.split (fun _ => ?_) (fun _ => ?_)
  all_goals exact EvP.now (by simp [*])
 ·
  exact EvP.pos rfl (EvP.now (by simp))
theorem impl_EntryOk_j0 (b : Bool) (k : ByteArray) (seq kind : Int) (x : ByteArray) (n : Int) : EvP (fun q => impl_EntryOk.j0 q b k seq kind x n) (· = (!b && decide (-1000000 ≤ n) && decide (n ≤ 1000000) && kindB kind x n)) := by
 refine EvP.step (fun k => by rw [impl_EntryOk.j0]) ?_
 cases b
 ·
  refine EvP.neg (by simp) (EvP.split (fun h => (impl_EntryOk_j1 ..).mono ?_) (fun h => (impl_EntryOk_j1 ..).mono ?_))
  ·
   rintro _ rfl
   have e : decide (-1000000 ≤ n) = false := decide_eq_false (by omega)
   simp [e]
  ·
   rintro _ rfl
   have e : decide (-1000000 ≤ n) = true := decide_eq_true (by omega)
   have e2 : (!decide (n > 1000000)) = decide (n ≤ 1000000) := by rw [Bool.eq_iff_iff]; simp
   simp only [e, e2, Bool.not_false, Bool.true_and]
 ·
  exact EvP.pos rfl (EvP.now (by simp))
theorem spec_l3Sum_eq (n : Int) : spec_l3Sum.f n = some (decide (-1000000 ≤ n) && decide (n ≤ 1000000)) := by
 unfold spec_l3Sum.f
 split
 ·
  have e : decide (-1000000 ≤ n) = true := decide_eq_true (by omega)
  simp [e]
 ·
  have e : decide (-1000000 ≤ n) = false := decide_eq_false (by omega)
  simp [e]
theorem not_gt60 (x : ByteArray) : (!decide ((x.size : Int) > 60)) = decide (x.size ≤ 60) := by
 rw [Bool.eq_iff_iff]
 simp
 omega
theorem spec_EntryOk_ev (k : ByteArray) (seq kind : Int) (x : ByteArray) (n : Int) (hk : k.size ≤ 140737488351232) : EvP (fun q => spec_EntryOk.f q k seq kind x n) (· = entB k seq kind x n) := by
 unfold spec_EntryOk.f
 refine EvP.bind (spec_KeyOk_ev k hk) ?_
 rintro _ rfl
 simp only [spec_l3Sum_eq, Option.bind_some]
 cases hK : keyB k
 ·
  refine EvP.neg (by simp) ((spec_EntryOk_j0 ..).mono ?_)
  rintro _ rfl
  simp [entB, hK]
 ·
  refine EvP.pos rfl (EvP.split (fun h => (spec_EntryOk_j0 ..).mono ?_) (fun h => EvP.split (fun h => (spec_EntryOk_j0 ..).mono ?_) (fun h => EvP.split (fun h => (spec_EntryOk_j0 ..).mono ?_) (fun h => (spec_EntryOk_j0 ..).mono ?_))))
  ·
   rintro _ rfl
   have e : decide (1 ≤ seq) = false := decide_eq_false (by omega)
   simp [entB, hK, e]
  ·
   rintro _ rfl
   have e : decide (seq ≤ 100000) = false := decide_eq_false (by omega)
   simp [entB, hK, e]
  ·
   rintro _ rfl
   have e1 : decide (1 ≤ seq) = true := decide_eq_true (by omega)
   have e2 : decide (seq ≤ 100000) = true := decide_eq_true (by omega)
   simp only [Bool.and_eq_true] at h
   simp only [entB, hK, e1, e2, h.1, h.2, not_gt60, Bool.true_and, Bool.and_true]
  ·
   rintro _ rfl
   have : (decide (-1000000 ≤ n) && decide (n ≤ 1000000)) = false := by simpa using h
   have e : (decide (-1000000 ≤ n) && decide (n ≤ 1000000) && kindB kind x n) = false := by rw [this]; rfl
   simp only [entB, Bool.and_assoc] at e ⊢
   rw [e]
   simp
theorem impl_EntryOk_ev (k : ByteArray) (seq kind : Int) (x : ByteArray) (n : Int) (hk : k.size ≤ 140737488351232) : EvP (fun q => impl_EntryOk.f q k seq kind x n) (· = entB k seq kind x n) := by
 unfold impl_EntryOk.f
 refine EvP.bind (impl_KeyOk_ev k hk) ?_
 rintro _ rfl
 cases hK : keyB k
 ·
  refine EvP.neg (by simp) ((impl_EntryOk_j0 ..).mono ?_)
  rintro _ rfl
  simp [entB, hK]
 ·
  refine EvP.pos rfl (EvP.split (fun h => (impl_EntryOk_j0 ..).mono ?_) (fun h => EvP.split (fun h => (impl_EntryOk_j0 ..).mono ?_) (fun h => (impl_EntryOk_j0 ..).mono ?_)))
  ·
   rintro _ rfl
   have e : decide (1 ≤ seq) = false := decide_eq_false (by omega)
   simp [entB, hK, e]
  ·
   rintro _ rfl
   have e : decide (seq ≤ 100000) = false := decide_eq_false (by omega)
   simp [entB, hK, e]
  ·
   rintro _ rfl
   have e1 : decide (1 ≤ seq) = true := decide_eq_true (by omega)
   have e2 : decide (seq ≤ 100000) = true := decide_eq_true (by omega)
   simp only [entB, hK, e1, e2, not_gt60, Bool.true_and, Bool.and_true]

/-! ### EntryLess -/
def lessB (k1 : ByteArray) (s1 : Int) (k2 : ByteArray) (s2 : Int) : Bool := if k1.toList = k2.toList then decide (s1 > s2) else Op.bytesLess k1.toList k2.toList
theorem bytesLess_irrefl : ∀ l : List UInt8, Op.bytesLess l l = false := by
 intro l
 induction l with
 | nil => rfl
 | cons a l ih => simp [Op.bytesLess, ih]
theorem spec_EntryLess_eq (a0 : ByteArray) (a1 a2 : Int) (a3 : ByteArray) (a4 : Int) (b0 : ByteArray) (b1 b2 : Int) (b3 : ByteArray) (b4 : Int) : spec_EntryLess.f a0 a1 a2 a3 a4 b0 b1 b2 b3 b4 = some (lessB a0 a1 b0 b1) := by
 unfold spec_EntryLess.f lessB
 by_cases h : a0.toList = b0.toList
 ·
  rw [h, bytesLess_irrefl]
  simp
 ·
  cases hb : Op.bytesLess a0.toList b0.toList <;> simp [h]
theorem impl_EntryLess_eq (a0 : ByteArray) (a1 a2 : Int) (a3 : ByteArray) (a4 : Int) (b0 : ByteArray) (b1 b2 : Int) (b3 : ByteArray) (b4 : Int) : impl_EntryLess.f a0 a1 a2 a3 a4 b0 b1 b2 b3 b4 = some (lessB a0 a1 b0 b1) := by
 unfold impl_EntryLess.f lessB
 split <;> rfl
theorem bl_cons (a b : UInt8) (x y : List UInt8) : Op.bytesLess (a :: x) (b :: y) = true ↔ a.toNat < b.toNat ∨ (a = b ∧ Op.bytesLess x y = true) := by
 simp [Op.bytesLess, UInt8.lt_iff_toNat_lt]
theorem bl_trans : ∀ x y z : List UInt8, Op.bytesLess x y = true → Op.bytesLess y z = true → Op.bytesLess x z = true := by
 intro x
 induction x with
 | nil =>
  intro y z h k
  cases z with
  | nil => cases y <;> simp [Op.bytesLess] at k
  | cons c z => rfl
 | cons a x ih =>
  intro y z h k
  cases y with
  | nil => simp [Op.bytesLess] at h
  | cons b y =>
   cases z with
   | nil => simp [Op.bytesLess] at k
   | cons c z =>
    rw [bl_cons] at h k ⊢
    rcases h with h | ⟨rfl, h⟩ <;> rcases k with k | ⟨rfl, k⟩
    ·
     exact .inl (by omega)
    ·
     exact .inl h
    ·
     exact .inl k
    ·
     exact .inr ⟨rfl, ih _ _ h k⟩
theorem bl_asymm (x y : List UInt8) (h : Op.bytesLess x y = true) : Op.bytesLess y x = false := by
 cases k : Op.bytesLess y x
 ·
  rfl
 ·
  have := bl_trans _ _ _ h k
  rw [bytesLess_irrefl] at this
  cases this
theorem bl_total : ∀ x y : List UInt8, x ≠ y → Op.bytesLess x y = false → Op.bytesLess y x = true := by
 intro x
 induction x with
 | nil =>
  intro y h k
  cases y with
  | nil => exact absurd rfl h
  | cons b y => simp [Op.bytesLess] at k
 | cons a x ih =>
  intro y h k
  cases y with
  | nil => rfl
  | cons b y =>
   have k' : ¬ Op.bytesLess (a :: x) (b :: y) = true := by rw [k]; simp
   rw [bl_cons] at k' ⊢
   by_cases hab : a = b
   ·
    subst hab
    refine .inr ⟨rfl, ih y (fun e => h (by rw [e])) ?_⟩
    cases q : Op.bytesLess x y
    ·
     rfl
    ·
     exact absurd (.inr ⟨rfl, q⟩) k'
   ·
    refine .inl ?_
    have : a.toNat ≠ b.toNat := fun e => hab (UInt8.toNat.inj e)
    have : ¬ a.toNat < b.toNat := fun e => k' (.inl e)
    omega
theorem lessB_iff (k1 : ByteArray) (s1 : Int) (k2 : ByteArray) (s2 : Int) : lessB k1 s1 k2 s2 = true ↔ Op.bytesLess k1.toList k2.toList = true ∨ (k1.toList = k2.toList ∧ s2 < s1) := by
 unfold lessB
 split
 ·
  rename_i h
  rw [h, bytesLess_irrefl]
  simp
 ·
  rename_i h
  simp [h]
theorem lessB_irrefl (k : ByteArray) (s : Int) : lessB k s k s = false := by simp [lessB]
theorem lessB_trans {k1 k2 k3 : ByteArray} {s1 s2 s3 : Int} (h : lessB k1 s1 k2 s2 = true) (k : lessB k2 s2 k3 s3 = true) : lessB k1 s1 k3 s3 = true := by
 rw [lessB_iff] at h k ⊢
 rcases h with h | ⟨h, h'⟩ <;> rcases k with k | ⟨k, k'⟩
 ·
  exact .inl (bl_trans _ _ _ h k)
 ·
  exact .inl (k ▸ h)
 ·
  exact .inl (h ▸ k)
 ·
  exact .inr ⟨h.trans k, by omega⟩
theorem lessB_asymm {k1 k2 : ByteArray} {s1 s2 : Int} (h : lessB k1 s1 k2 s2 = true) : lessB k2 s2 k1 s1 = false := by
 cases k : lessB k2 s2 k1 s1
 ·
  rfl
 ·
  have := lessB_trans h k
  rw [lessB_irrefl] at this
  cases this
theorem lessB_total {k1 k2 : ByteArray} {s1 s2 : Int} (h : lessB k1 s1 k2 s2 = false) (k : lessB k2 s2 k1 s1 = false) : k1.toList = k2.toList ∧ s1 = s2 := by
 have h' : ¬ lessB k1 s1 k2 s2 = true := by rw [h]; simp
 have k' : ¬ lessB k2 s2 k1 s1 = true := by rw [k]; simp
 rw [lessB_iff] at h' k'
 by_cases e : k1.toList = k2.toList
 ·
  refine ⟨e, ?_⟩
  have a : ¬ s2 < s1 := fun x => h' (.inr ⟨e, x⟩)
  have b : ¬ s1 < s2 := fun x => k' (.inr ⟨e.symm, x⟩)
  omega
 ·
  cases q : Op.bytesLess k1.toList k2.toList
  ·
   exact absurd (.inl (bl_total _ _ e q)) k'
  ·
   exact absurd (.inl q) h'

/-! ### KeyMask -/
theorem spec_l4Bit_l0 (n : Nat) (hn : n ≤ 40) : ∀ (d i : Nat), i + d = n → EvP (fun k => spec_l4Bit.l0 k (n : Int) ((2 ^ i : Nat) : Int) (i : Int)) (· = ((2 ^ n : Nat) : Int)) := by
 intro d
 induction d with
 | zero =>
  intro i h
  refine EvP.step (fun k => by rw [spec_l4Bit.l0]) (EvP.neg (by omega) (EvP.now ?_))
  rw [show i = n by omega]
 | succ d ih =>
  intro i h
  refine EvP.step (fun k => by rw [spec_l4Bit.l0]) (EvP.pos (by omega) ?_)
  have h40 : 2 ^ i ≤ 2 ^ 40 := Nat.pow_le_pow_right (by decide) (by omega)
  have e : ((2 ^ i : Nat) : Int) * 2 = ((2 ^ (i + 1) : Nat) : Int) := by rw [Nat.pow_succ]; simp
  have e2 : ((i : Int) + 1) = ((i + 1 : Nat) : Int) := by simp
  have hw : wrap64 (((2 ^ i : Nat) : Int) * 2) = ((2 ^ (i + 1) : Nat) : Int) := by
   rw [e]
   have h41 : 2 ^ (i + 1) ≤ 2 ^ 41 := Nat.pow_le_pow_right (by decide) (by omega)
   generalize 2 ^ (i + 1) = z at h41 ⊢
   exact w64 (by omega) (by omega)
  rw [hw, w64 (x := (i : Int) + 1) (by omega) (by omega), e2]
  exact ih (i + 1) (by omega)
theorem spec_l4Bit_ev (n : Nat) (hn : n ≤ 40) : EvP (fun k => spec_l4Bit.f k (n : Int)) (· = ((2 ^ n : Nat) : Int)) := by
 have := spec_l4Bit_l0 n hn n 0 (by omega)
 exact this
/-- The bits from place i on are a bit and the bits from the next place on. -/
theorem shift_bit (x i : Nat) : x >>> i = 2 * (x >>> (i + 1)) + (x.testBit i).toNat := by
 rw [Nat.shiftRight_succ, Nat.testBit_eq_decide_div_mod_eq, Nat.shiftRight_eq_div_pow]
 by_cases h : x / 2 ^ i % 2 = 1
 ·
  simp only [h, decide_true, Bool.toNat_true]; omega
 ·
  simp only [h, decide_false, Bool.toNat_false]; omega
theorem int_bit (a i : Nat) (ha : a < 2 ^ 62) : (Int.tmod (wrap64 (Int.tdiv (a : Int) ((2 ^ i : Nat) : Int))) 2 = 1) ↔ a.testBit i = true := by
 have e1 : Int.tdiv (a : Int) ((2 ^ i : Nat) : Int) = ((a / 2 ^ i : Nat) : Int) := rfl
 have hle : a / 2 ^ i ≤ a := Nat.div_le_self _ _
 have hw : wrap64 ((a / 2 ^ i : Nat) : Int) = ((a / 2 ^ i : Nat) : Int) := by
  generalize a / 2 ^ i = z at hle ⊢
  exact w64 (by omega) (by omega)
 rw [e1, hw]
 have e2 : Int.tmod ((a / 2 ^ i : Nat) : Int) 2 = ((a / 2 ^ i % 2 : Nat) : Int) := rfl
 rw [e2, Nat.testBit_eq_decide_div_mod_eq, decide_eq_true_eq]
 omega
theorem spec_l4Or_l0 (a b : Nat) (ha : a < 2 ^ 62) (hb : b < 2 ^ 62) (hab : a ||| b < 2 ^ 40) : ∀ (j : Nat), j ≤ 16 →
  EvP (fun k => spec_l4Or.l0 k (a : Int) (b : Int) (((a ||| b) >>> j : Nat) : Int) ((j : Int) - 1)) (· = ((a ||| b : Nat) : Int)) := by
 intro j
 induction j with
 | zero =>
  intro _
  refine EvP.step (fun k => by rw [spec_l4Or.l0]) (EvP.neg (by omega) (EvP.now ?_))
  simp
 | succ j ih =>
  intro hj
  have hlt : (a ||| b) >>> (j + 1) < 2 ^ 40 := Nat.lt_of_le_of_lt (Nat.shiftRight_le _ _) hab
  refine EvP.step (fun k => by rw [spec_l4Or.l0]) (EvP.pos (by omega) ?_)
  have e0 : ((j + 1 : Nat) : Int) - 1 = (j : Int) := by omega
  rw [e0]
  have hp : 0 < 2 ^ j := Nat.two_pow_pos j
  have hz : ¬ ((2 ^ j : Nat) : Int) = 0 := by omega
  have ht := shift_bit (a ||| b) j
  have hto : (a ||| b).testBit j = (a.testBit j || b.testBit j) := Nat.testBit_or ..
  have hbit : ∀ x : Nat, (x.testBit j).toNat ≤ 1 := fun x => by cases x.testBit j <;> simp
  have hlt2 : (a ||| b) >>> j < 2 ^ 42 := by have := hbit (a ||| b); omega
  have hjm : wrap64 ((j : Int) - 1) = (j : Int) - 1 := w64 (by omega) (by omega)
  have hx2 : wrap64 ((((a ||| b) >>> (j + 1) : Nat) : Int) * 2) = ((((a ||| b) >>> (j + 1)) * 2 : Nat) : Int) := by rw [w64 (by omega) (by omega)]; omega
  have hx3 : wrap64 (((((a ||| b) >>> (j + 1)) * 2 : Nat) : Int) + 1) = ((((a ||| b) >>> (j + 1)) * 2 + 1 : Nat) : Int) := by rw [w64 (by omega) (by omega)]; omega
  have hlt40 : j ≤ 15 := by omega
  have hres : ∀ n : Nat, n = (a ||| b) >>> j → EvP (fun k => spec_l4Or.l0 k (a : Int) (b : Int) (n : Int) ((j : Int) - 1)) (· = ((a ||| b : Nat) : Int)) := by
   rintro n rfl
   exact ih (by omega)
  refine EvP.bind (spec_l4Bit_ev j (by omega)) ?_
  rintro _ rfl
  refine EvP.neg hz ?_
  rw [hjm, hx2, hx3]
  refine EvP.split (fun h1 => ?_) (fun h1 => ?_)
  ·
   rw [int_bit a j ha] at h1
   refine hres _ ?_
   rw [ht, hto, h1]; simp; omega
  ·
   rw [int_bit a j ha] at h1
   refine EvP.bind (spec_l4Bit_ev j (by omega)) ?_
   rintro _ rfl
   refine EvP.neg hz ?_
   refine EvP.split (fun h2 => ?_) (fun h2 => ?_)
   ·
    rw [int_bit b j hb] at h2
    refine hres _ ?_
    rw [ht, hto, h2]; simp; omega
   ·
    rw [int_bit b j hb] at h2
    refine hres _ ?_
    rw [ht, hto]
    simp only [Bool.not_eq_true] at h1 h2
    rw [h1, h2]; simp; omega

theorem spec_l4Or_ev (a b : Nat) (ha : a < 65536) (hb : b < 65536) : EvP (fun k => spec_l4Or.f k (a : Int) (b : Int)) (· = ((a ||| b : Nat) : Int)) := by
 have hab : a ||| b < 2 ^ 16 := Nat.or_lt_two_pow ha hb
 have := spec_l4Or_l0 a b (by omega) (by omega) (by omega) 16 (by omega)
 have e : (a ||| b) >>> 16 = 0 := by rw [Nat.shiftRight_eq_div_pow]; exact Nat.div_eq_of_lt hab
 rw [e] at this
 exact this
/-- What is left of 31 times h and the byte, for all bytes from place i on. -/
def hashN (s : ByteArray) : Nat → Int → Int → Int
 | 0, _, h => h
 | d + 1, i, h => hashN s d (i + 1) ((h * 31 + bt s i) % 65521)
theorem hashN_range (s : ByteArray) : ∀ (d : Nat) (i h : Int), 0 ≤ h → h < 65521 → 0 ≤ hashN s d i h ∧ hashN s d i h < 65521 := by
 intro d
 induction d with
 | zero => intro i h h0 h1; exact ⟨h0, h1⟩
 | succ d ih => intro i h h0 h1; exact ih _ _ (by omega) (by omega)
def hashI (s : ByteArray) : Int := hashN s s.size 0 7
def maskN (s : ByteArray) : Nat := 2 ^ (hashI s % 16).toNat ||| 2 ^ (hashI s / 16 % 16).toNat
theorem maskN_lt (s : ByteArray) : maskN s < 65536 := by
 have h : ∀ n : Nat, n ≤ 15 → 2 ^ n < 2 ^ 16 := fun n hn => Nat.pow_lt_pow_right (by decide) (by omega)
 exact Nat.or_lt_two_pow (h _ (by omega)) (h _ (by omega))
theorem hash_step (h b : Int) (h0 : 0 ≤ h) (h1 : h < 65521) (b0 : 0 ≤ b) (b1 : b ≤ 255) : Int.tmod (wrap64 ((wrap64 (h * 31)) + (wrap64 b))) 65521 = (h * 31 + b) % 65521 := by
 rw [w64 (x := h * 31) (by omega) (by omega), w64 (x := b) (by omega) (by omega), w64 (by omega) (by omega), Int.tmod_eq_emod_of_nonneg (by omega)]
theorem spec_KeyMask_l0 (s : ByteArray) (hs : s.size ≤ 140737488351232) : ∀ (d : Nat) (i h : Int), 0 ≤ i → i + d = s.size → 0 ≤ h → h < 65521 → hashN s d i h = hashI s →
  EvP (fun k => spec_KeyMask.l0 k s h i) (· = (maskN s : Int)) := by
 intro d
 induction d with
 | zero =>
  intro i h h0 hi hh0 hh1 he
  refine EvP.step (fun k => by rw [spec_KeyMask.l0]) (EvP.neg (by omega) ?_)
  have he' : h = hashI s := he
  have e1 : Int.tmod h 16 = ((hashI s % 16).toNat : Int) := by rw [he', Int.tmod_eq_emod_of_nonneg (by omega)]; omega
  have e2 : Int.tmod (wrap64 (Int.tdiv h 16)) 16 = ((hashI s / 16 % 16).toNat : Int) := by
   rw [Int.tdiv_eq_ediv_of_nonneg hh0, w64 (by omega) (by omega), Int.tmod_eq_emod_of_nonneg (by omega), he']; omega
  rw [e1, e2]
  refine EvP.bind (spec_l4Bit_ev _ (by omega)) ?_
  rintro _ rfl
  refine EvP.bind (spec_l4Bit_ev _ (by omega)) ?_
  rintro _ rfl
  have hp : ∀ n : Nat, n ≤ 15 → 2 ^ n < 65536 := fun n hn => Nat.lt_of_lt_of_le (Nat.pow_lt_pow_right (a := 2) (by decide) (show n < 16 by omega)) (by decide)
  refine EvP.bind (spec_l4Or_ev _ _ (hp _ (by omega)) (hp _ (by omega))) ?_
  rintro _ rfl
  exact EvP.now rfl
 | succ d ih =>
  intro i h h0 hi hh0 hh1 he
  refine EvP.step (fun k => by rw [spec_KeyMask.l0]) (EvP.pos (by omega) (EvP.pos (by omega) ?_))
  obtain ⟨b0, b1⟩ := bt_range s i
  rw [hash_step h (bt s i) hh0 hh1 b0 b1, w64 (x := i + 1) (by omega) (by omega)]
  exact ih (i + 1) _ (by omega) (by omega) (by omega) (by omega) he
theorem spec_KeyMask_ev (s : ByteArray) (hs : s.size ≤ 140737488351232) : EvP (fun k => spec_KeyMask.f k s) (· = (maskN s : Int)) :=
 spec_KeyMask_l0 s hs s.size 0 7 (by omega) (by omega) (by omega) (by omega) rfl
theorem impl_KeyMask_l0 (s : ByteArray) (hs : s.size ≤ 140737488351232) : ∀ (d : Nat) (i h : Int), 0 ≤ i → i + d = s.size → 0 ≤ h → h < 65521 → hashN s d i h = hashI s →
  EvP (fun k => impl_KeyMask.l0 k s h (s.size : Int) i) (· = (maskN s : Int)) := by
 intro d
 induction d with
 | zero =>
  intro i h h0 hi hh0 hh1 he
  refine EvP.step (fun k => by rw [impl_KeyMask.l0]) (EvP.neg (by omega) ?_)
  have he' : h = hashI s := he
  have e1 : Int.tmod h 16 = ((hashI s % 16).toNat : Int) := by rw [he', Int.tmod_eq_emod_of_nonneg (by omega)]; omega
  have e2 : Int.tmod (wrap64 (Int.tdiv h 16)) 16 = ((hashI s / 16 % 16).toNat : Int) := by
   rw [Int.tdiv_eq_ediv_of_nonneg hh0, w64 (by omega) (by omega), Int.tmod_eq_emod_of_nonneg (by omega), he']; omega
  have hp : ∀ n : Nat, n ≤ 15 → 2 ^ n < 2 ^ 62 := fun n hn => Nat.pow_lt_pow_right (a := 2) (by decide) (show n < 62 by omega)
  rw [e1, e2, shl1 _ (by omega), shl1 _ (by omega), or64 _ _ (hp _ (by omega)) (hp _ (by omega))]
  exact EvP.pos (by omega) (EvP.pos (by omega) (EvP.now rfl))
 | succ d ih =>
  intro i h h0 hi hh0 hh1 he
  refine EvP.step (fun k => by rw [impl_KeyMask.l0]) (EvP.pos (by omega) (EvP.pos (by omega) (EvP.pos (by omega) ?_)))
  obtain ⟨b0, b1⟩ := bt_range s i
  rw [Int.mul_comm 31 h, hash_step h (bt s i) hh0 hh1 b0 b1, w64 (x := i + 1) (by omega) (by omega)]
  exact ih (i + 1) _ (by omega) (by omega) (by omega) (by omega) he
theorem impl_KeyMask_ev (s : ByteArray) (hs : s.size ≤ 140737488351232) : EvP (fun k => impl_KeyMask.f k s) (· = (maskN s : Int)) :=
 impl_KeyMask_l0 s hs s.size 0 7 (by omega) (by omega) (by omega) (by omega) rfl

/-! ### The order of entries (over EntryLess) -/
def ltE (x y : S48) : Prop := lessB x.f0 x.f1 y.f0 y.f1 = true
instance (x y : S48) : Decidable (ltE x y) := inferInstanceAs (Decidable (lessB x.f0 x.f1 y.f0 y.f1 = true))
theorem ltE_asym {x y : S48} (h : ltE x y) : ¬ ltE y x := by
 unfold ltE at *
 rw [lessB_asymm h]
 simp
theorem ltE_tr {x y z : S48} (h : ltE x y) (k : ltE y z) : ltE x z := lessB_trans h k
theorem ltE_tot {x y : S48} (h : ¬ ltE x y) (k : ¬ ltE y x) : x.f0.toList = y.f0.toList ∧ x.f1 = y.f1 := by
 unfold ltE at *
 exact lessB_total (by simpa using h) (by simpa using k)
theorem ltE_congr {x y z : S48} (h : x.f0.toList = y.f0.toList) (k : x.f1 = y.f1) : (ltE x z ↔ ltE y z) ∧ (ltE z x ↔ ltE z y) := by
 unfold ltE
 rw [lessB_iff, lessB_iff, lessB_iff, lessB_iff, h, k]
 exact ⟨Iff.rfl, Iff.rfl⟩
theorem ltE_ntr {x y z : S48} (h : ¬ ltE y x) (k : ¬ ltE z y) : ¬ ltE z x := by
 intro g
 by_cases hxy : ltE x y
 ·
  by_cases hyz : ltE y z
  ·
   exact ltE_asym (ltE_tr hxy hyz) g
  ·
   obtain ⟨e1, e2⟩ := ltE_tot hyz k
   exact h ((ltE_congr e1 e2).1.2 g)
 ·
  obtain ⟨e1, e2⟩ := ltE_tot hxy h
  exact k ((ltE_congr e1 e2).2.1 g)
def cmpS (a b : List UInt8) : Int := if Op.bytesLess a b = true then -1 else if Op.bytesLess b a = true then 1 else 0
def cmpI (a b : Int) : Int := if a < b then -1 else if a > b then 1 else 0
theorem Compare_string_eq (a b : ByteArray) : cmp_Compare_string.f a b = some (cmpS a.toList b.toList) := by
 unfold cmp_Compare_string.f cmp_isNaN_string.f cmpS
 simp only [Option.bind_some, bne_self_eq_false, Bool.false_eq_true, if_false]
 split
 ·
  rfl
 ·
  split <;> rfl
theorem Compare_int_eq (a b : Int) : cmp_Compare_int.f a b = some (cmpI a b) := by
 unfold cmp_Compare_int.f cmp_isNaN_int.f cmpI
 simp only [Option.bind_some, bne_self_eq_false, Bool.false_eq_true, if_false]
 split
 ·
  rfl
 ·
  split <;> rfl
theorem Or_ev (a b : Int) : EvP (fun k => cmp_Or_int.f k [a, b]) (· = if a = 0 then b else a) := by
 unfold cmp_Or_int.f
 have r0 : rd [a, b] 0 = a := rfl
 have r1 : rd [a, b] 1 = b := rfl
 have e0 : wrap64 (0 + 1) = 1 := w64 (by omega) (by omega)
 have e1 : wrap64 (1 + 1) = 2 := w64 (by omega) (by omega)
 refine EvP.step (fun k => by rw [cmp_Or_int.l0]) (EvP.pos (by simp) (EvP.pos (by decide) (EvP.pos (by simp) ?_)))
 rw [r0, e0]
 refine EvP.split (fun h => ?_) (fun h => EvP.now (by rw [if_neg h]))
 rw [if_pos h]
 refine EvP.step (fun k => by rw [cmp_Or_int.l0]) (EvP.pos (by simp) (EvP.pos (by decide) (EvP.pos (by simp) ?_)))
 rw [r1, e1]
 refine EvP.split (fun g => ?_) (fun g => EvP.now rfl)
 exact EvP.step (fun k => by rw [cmp_Or_int.l0]) (EvP.neg (by simp) (EvP.now g.symm))
theorem cmp_ev (x y : S48) : EvP (fun k => impl_entryOrder.f k x.f0 x.f1 x.f2 x.f3 x.f4 y.f0 y.f1 y.f2 y.f3 y.f4) (fun t => t < 0 ↔ ltE x y) := by
 unfold impl_entryOrder.f
 rw [Compare_string_eq, Compare_int_eq]
 simp only [Option.bind_some]
 refine EvP.bind (Or_ev _ _) ?_
 rintro _ rfl
 refine EvP.now ?_
 unfold ltE cmpS cmpI
 rw [lessB_iff]
 by_cases h1 : Op.bytesLess x.f0.toList y.f0.toList = true
 ·
  simp [h1]
 ·
  by_cases h2 : Op.bytesLess y.f0.toList x.f0.toList = true
  ·
   have hne : x.f0.toList ≠ y.f0.toList := by
    intro e
    rw [e, bytesLess_irrefl] at h2
    cases h2
   simp [h1, h2, hne]
  ·
   have he : x.f0.toList = y.f0.toList := by
    by_cases e : x.f0.toList = y.f0.toList
    ·
     exact e
    ·
     exact absurd (bl_total _ _ e (by simpa using h1)) h2
   have hi : Op.bytesLess y.f0.toList y.f0.toList = false := bytesLess_irrefl _
   rw [he, hi]
   simp only [Bool.false_eq_true, if_false, if_true, false_or, true_and]
   by_cases h3 : y.f1 < x.f1
   ·
    simp [h3]
   ·
    by_cases h4 : y.f1 > x.f1
    ·
     simp [h3, h4]
    ·
     simp [h3, h4]

/-! ### A stable sort, one entry after another -/
theorem rd_midE (pre rest : List S48) (x : S48) : rd_T48 (pre ++ x :: rest) (pre.length : Int) = x := by simp [rd_T48]
def insRev (e : S48) : List S48 → List S48
 | [] => [e]
 | y :: ys => if ltE e y then y :: insRev e ys else e :: y :: ys
def insR (e : S48) (xs : List S48) : List S48 := (insRev e xs.reverse).reverse
def isort (xs : List S48) : List S48 := xs.foldl (fun o e => insR e o) []
theorem isort_snoc (xs : List S48) (e : S48) : isort (xs ++ [e]) = insR e (isort xs) := by simp [isort]
theorem insRev_far (e : S48) (t r : List S48) (h : ∀ y ∈ t, ltE e y) : insRev e (t ++ r) = t ++ insRev e r := by
 induction t with
 | nil => rfl
 | cons y t ih =>
  rw [List.cons_append, insRev, if_pos (h y (by simp)), ih (fun z hz => h z (by simp [hz])), List.cons_append]
theorem insR_split (e : S48) (f t : List S48) (h : ∀ y ∈ t, ltE e y) : insR e (f ++ t) = insR e f ++ t := by
 unfold insR
 rw [List.reverse_append, insRev_far e _ _ (fun y hy => h y (List.mem_reverse.1 hy)), List.reverse_append, List.reverse_reverse]
theorem insR_stop (e : S48) (f : List S48) (y : S48) (h : ¬ ltE e y) : insR e (f ++ [y]) = f ++ [y] ++ [e] := by
 unfold insR
 rw [List.reverse_append, List.reverse_singleton, List.singleton_append, insRev, if_neg h]
 simp
theorem insR_nil (e : S48) : insR e [] = [e] := rfl
theorem insRev_length (e : S48) (xs : List S48) : (insRev e xs).length = xs.length + 1 := by
 induction xs with
 | nil => rfl
 | cons y ys ih =>
  unfold insRev
  split
  ·
   rw [List.length_cons, ih, List.length_cons]
  ·
   rfl
theorem insR_length (e : S48) (xs : List S48) : (insR e xs).length = xs.length + 1 := by simp [insR, insRev_length]
theorem isort_length (xs : List S48) : (isort xs).length = xs.length := by
 have key : ∀ r : List S48, (isort r.reverse).length = r.length := by
  intro r
  induction r with
  | nil => rfl
  | cons x r ih => rw [List.reverse_cons, isort_snoc, insR_length, ih, List.length_cons]
 simpa using key xs.reverse
theorem swap_mid (A B : List S48) (y e : S48) (n m : Nat) (hn : n = A.length) (hm : m = A.length + 1) : ((A ++ y :: e :: B).set m y).set n e = A ++ e :: y :: B := by
 subst hn hm
 rw [List.set_append, if_neg (by omega), List.set_append, if_neg (by omega)]
 simp
/-- Insertion sort within a row, from place a to place b. -/
theorem insSort_l1 (pre more : List S48) (e : S48) (a b i : Int) (ha : a = (pre.length : Int)) (seg : List S48) (hbig : pre.length + seg.length + more.length ≤ 2097152) (Q : List S48 → Prop)
  (fin : EvP (fun k => impl_Entry_86.l0 k (pre ++ insR e seg ++ more) a b (wrap64 (i + 1))) Q) :
  ∀ (fr t : List S48), seg = fr.reverse ++ t → (∀ y ∈ t, ltE e y) → EvP (fun k => impl_Entry_86.l1 k (pre ++ fr.reverse ++ e :: t ++ more) a b i (a + fr.length)) Q := by
 intro fr
 induction fr with
 | nil =>
  intro t hs ht
  refine EvP.step (fun k => by rw [impl_Entry_86.l1]) (EvP.neg (by simp) ?_)
  have e1 : insR e seg = e :: t := by
   rw [hs, List.reverse_nil, insR_split e [] t ht, insR_nil]
   rfl
  rw [e1] at fin
  simpa using fin
 | cons y fr ih =>
  intro t hs ht
  have hlen : seg.length = fr.length + 1 + t.length := by rw [hs]; simp; omega
  have hL : (pre ++ (y :: fr).reverse ++ e :: t ++ more).length = pre.length + fr.length + 2 + t.length + more.length := by simp; omega
  have hx : pre ++ (y :: fr).reverse ++ e :: t ++ more = (pre ++ fr.reverse) ++ y :: e :: (t ++ more) := by simp
  have hx2 : pre ++ (y :: fr).reverse ++ e :: t ++ more = ((pre ++ fr.reverse) ++ [y]) ++ e :: (t ++ more) := by simp
  have j1 : a + ((y :: fr).length : Int) = (((pre ++ fr.reverse) ++ [y]).length : Int) := by rw [ha]; simp <;> omega
  have j0 : wrap64 (a + ((y :: fr).length : Int) - 1) = ((pre ++ fr.reverse).length : Int) := by
   rw [w64 (by rw [ha]; simp; omega) (by rw [ha]; simp; omega), ha]
   simp
   try omega
  have r1 : rd_T48 (pre ++ (y :: fr).reverse ++ e :: t ++ more) (a + ((y :: fr).length : Int)) = e := by
   rw [hx2, j1]
   exact rd_midE _ _ _
  have r0 : rd_T48 (pre ++ (y :: fr).reverse ++ e :: t ++ more) ((pre ++ fr.reverse).length : Int) = y := by
   rw [hx]
   exact rd_midE _ _ _
  refine EvP.step (fun k => by rw [impl_Entry_86.l1]) ?_
  rw [j0, r1, r0]
  refine EvP.pos (by simp; omega) (EvP.pos (by rw [ha]; omega) (EvP.pos (by rw [hL, ha]; simp; omega) (EvP.pos (by omega) (EvP.pos (by rw [hL]; simp; omega) ?_))))
  refine EvP.bind (cmp_ev e y) ?_
  intro c hc
  refine EvP.split (fun hlt => ?_) (fun hge => ?_)
  ·
   have hlt' := hc.1 hlt
   have e2 : ((pre ++ (y :: fr).reverse ++ e :: t ++ more).set (a + ((y :: fr).length : Int)).toNat y).set ((pre ++ fr.reverse).length : Int).toNat e = pre ++ fr.reverse ++ e :: (y :: t) ++ more := by
    rw [hx, swap_mid (pre ++ fr.reverse) (t ++ more) y e _ _ (by simp; omega) (by rw [j1]; simp; omega)]
    simp
   have e3 : ((pre ++ fr.reverse).length : Int) = a + (fr.length : Int) := by rw [ha]; simp
   have step := ih (y :: t) (by rw [hs]; simp) (fun z hz => by
    rcases List.mem_cons.1 hz with rfl | hz
    ·
     exact hlt'
    ·
     exact ht z hz)
   show EvP (fun k => impl_Entry_86.l1 k (((pre ++ (y :: fr).reverse ++ e :: t ++ more).set (a + ((y :: fr).length : Int)).toNat y).set ((pre ++ fr.reverse).length : Int).toNat e) a b i ((pre ++ fr.reverse).length : Int)) Q
   rw [e2, e3]
   exact step
  ·
   have hge' : ¬ ltE e y := fun h => hge (hc.2 h)
   have e1 : insR e seg = fr.reverse ++ [y] ++ [e] ++ t := by
    rw [hs, List.reverse_cons, insR_split e _ t ht, insR_stop e _ y hge']
   rw [e1] at fin
   simpa using fin
theorem insSort_l0 (pre more : List S48) (a b : Int) (ha : a = (pre.length : Int)) : ∀ (rest seg : List S48), pre.length + seg.length + rest.length + more.length ≤ 2097152 → b = ((pre.length + (isort seg).length + rest.length : Nat) : Int) → 
  EvP (fun k => impl_Entry_86.l0 k (pre ++ isort seg ++ rest ++ more) a b ((pre.length + (isort seg).length : Nat) : Int)) (· = pre ++ isort (seg ++ rest) ++ more) := by
 intro rest
 induction rest with
 | nil =>
  intro seg hbig hb
  refine EvP.step (fun k => by rw [impl_Entry_86.l0]) (EvP.neg (by rw [hb]; simp) (EvP.now (by simp)))
 | cons e rest ih =>
  intro seg hbig hb
  have hl := isort_length seg
  simp only [List.length_cons] at hbig hb
  refine EvP.step (fun k => by rw [impl_Entry_86.l0]) (EvP.pos (by rw [hb]; omega) ?_)
  have h1 := insSort_l1 pre (rest ++ more) e a b ((pre.length + (isort seg).length : Nat) : Int) ha (isort seg) (by rw [List.length_append]; omega) (· = pre ++ isort (seg ++ e :: rest) ++ more) ?_ (isort seg).reverse [] (by simp) (by simp)
  ·
   have e1 : pre ++ (isort seg).reverse.reverse ++ e :: [] ++ (rest ++ more) = pre ++ isort seg ++ e :: rest ++ more := by simp
   have e2 : a + ((isort seg).reverse.length : Int) = ((pre.length + (isort seg).length : Nat) : Int) := by rw [ha]; simp
   rw [e1, e2] at h1
   exact h1
  ·
   have step := ih (seg ++ [e]) (by simp; omega) (by rw [isort_length]; simp; omega)
   rw [isort_snoc, insR_length] at step
   have e3 : wrap64 (((pre.length + (isort seg).length : Nat) : Int) + 1) = ((pre.length + ((isort seg).length + 1) : Nat) : Int) := by rw [w64 (by omega) (by omega)]; omega
   rw [e3]
   simpa using step
theorem insSort_ev (pre xs more : List S48) (a b n : Int) (ha : a = (pre.length : Int)) (hb : b = ((pre.length + xs.length : Nat) : Int)) (hbig : pre.length + xs.length + more.length ≤ 2097152) :
  EvP (fun k => impl_Entry_86.f k (pre ++ xs ++ more) a b n) (· = pre ++ isort xs ++ more) := by
 unfold impl_Entry_86.f
 cases xs with
 | nil =>
  refine EvP.step (fun k => by rw [impl_Entry_86.l0]) (EvP.neg (by rw [hb, ha, w64 (by omega) (by omega)]; simp <;> omega) (EvP.now (by simp [isort])))
 | cons x xs =>
  have h := insSort_l0 pre more a b ha xs [x] (by simp at hbig ⊢; omega) (by rw [isort_length, hb]; simp; omega)
  have e1 : isort [x] = [x] := rfl
  rw [e1] at h
  have e2 : wrap64 (a + 1) = ((pre.length + [x].length : Nat) : Int) := by rw [ha, w64 (by omega) (by simp at hbig; omega)]; simp
  rw [e2]
  simpa using h
/-- The whole sort of no more than one block. -/
theorem sortFew_ev (xs : List S48) (n : Int) (hx : xs.length < 20) : EvP (fun k => impl_Entry_47.f k xs n) (· = isort xs) := by
 unfold impl_Entry_47.f impl_Entry_69.f
 refine EvP.bind (P := (· = isort xs)) ?_ (by rintro _ rfl; exact EvP.now rfl)
 refine EvP.step (fun k => by rw [impl_Entry_69.l0]) (EvP.neg (by omega) ?_)
 have h := insSort_ev [] xs [] 0 (xs.length : Int) n (by simp) (by simp) (by simp; omega)
 refine EvP.bind (P := (· = isort xs)) (by simpa using h) ?_
 rintro _ rfl
 exact EvP.step (fun k => by rw [impl_Entry_69.l1]) (EvP.neg (by omega) (EvP.now rfl))

/-! ### What a stable sort is: in order, and each class of equals in its old order (over ltE, ltE_asym, ltE_ntr) -/
def Srt (l : List S48) : Prop := l.Pairwise (fun x y => ¬ ltE y x)
def eqE (x y : S48) : Bool := decide (¬ ltE x y ∧ ¬ ltE y x)
def Cls (l r : List S48) : Prop := ∀ z, l.filter (eqE z) = r.filter (eqE z)
theorem eqE_refl (x : S48) : eqE x x = true := by
 have h : ¬ ltE x x := fun h => ltE_asym h h
 simp [eqE, h]
theorem Cls.refl (l : List S48) : Cls l l := fun _ => rfl
theorem Cls.symm {l r : List S48} (h : Cls l r) : Cls r l := fun z => (h z).symm
theorem Cls.trans {l r s : List S48} (h : Cls l r) (k : Cls r s) : Cls l s := fun z => (h z).trans (k z)
theorem Cls.app {a b c d : List S48} (h : Cls a b) (k : Cls c d) : Cls (a ++ c) (b ++ d) := fun z => by
 rw [List.filter_append, List.filter_append, h z, k z]
theorem Cls.mem {l r : List S48} (h : Cls l r) {x : S48} (hx : x ∈ l) : x ∈ r := by
 have h1 : x ∈ l.filter (eqE x) := List.mem_filter.2 ⟨hx, eqE_refl x⟩
 rw [h x] at h1
 exact (List.mem_filter.1 h1).1
theorem Cls.swap {X Y : List S48} (h : ∀ x ∈ X, ∀ y ∈ Y, ltE y x) : Cls (X ++ Y) (Y ++ X) := fun z => by
 rw [List.filter_append, List.filter_append]
 have key : X.filter (eqE z) = [] ∨ Y.filter (eqE z) = [] := by
  by_cases hX : X.filter (eqE z) = []
  ·
   exact .inl hX
  ·
   refine .inr (List.filter_eq_nil_iff.2 (fun y hy hzy => ?_))
   obtain ⟨x, hx⟩ := List.exists_mem_of_ne_nil _ hX
   obtain ⟨hx, hzx⟩ := List.mem_filter.1 hx
   have h1 := h x hx y hy
   simp only [eqE, decide_eq_true_eq] at hzx hzy
   exact ltE_ntr (x := x) (y := z) (z := y) hzx.1 hzy.2 h1
 rcases key with e | e <;> rw [e] <;> simp
theorem Srt.uniq : ∀ {l r : List S48}, Srt l → Srt r → Cls l r → l = r
 | [], [], _, _, _ => rfl
 | [], y :: r, _, _, h => by have := h.symm.mem (x := y) (by simp); simp at this
 | x :: l, [], _, _, h => by have := h.mem (x := x) (by simp); simp at this
 | x :: l, y :: r, hl, hr, h => by
  have hl' := List.pairwise_cons.1 hl
  have hr' := List.pairwise_cons.1 hr
  have hxr := h.mem (x := x) (by simp)
  have hyl := h.symm.mem (x := y) (by simp)
  have h1 : ¬ ltE x y := by
   rcases List.mem_cons.1 hxr with rfl | g
   ·
    exact fun k => ltE_asym k k
   ·
    exact hr'.1 x g
  have h2 : ¬ ltE y x := by
   rcases List.mem_cons.1 hyl with rfl | g
   ·
    exact fun k => ltE_asym k k
   ·
    exact hl'.1 y g
  have e1 : eqE x y = true := by simp [eqE, h1, h2]
  have hx := h x
  rw [List.filter_cons_of_pos (eqE_refl x), List.filter_cons_of_pos e1] at hx
  obtain rfl : x = y := (List.cons.inj hx).1
  have hc : Cls l r := fun z => by
   have hz := h z
   by_cases g : eqE z x = true
   ·
    rw [List.filter_cons_of_pos g, List.filter_cons_of_pos g] at hz
    exact (List.cons.inj hz).2
   ·
    rw [List.filter_cons_of_neg g, List.filter_cons_of_neg g] at hz
    exact hz
  rw [Srt.uniq hl'.2 hr'.2 hc]
theorem Srt.app {X Y : List S48} (hX : Srt X) (hY : Srt Y) (h : ∀ x ∈ X, ∀ y ∈ Y, ¬ ltE y x) : Srt (X ++ Y) := List.pairwise_append.2 ⟨hX, hY, h⟩
theorem Srt.left {X Y : List S48} (h : Srt (X ++ Y)) : Srt X := (List.pairwise_append.1 h).1
theorem Srt.right {X Y : List S48} (h : Srt (X ++ Y)) : Srt Y := (List.pairwise_append.1 h).2.1
theorem Srt.cross {X Y : List S48} (h : Srt (X ++ Y)) : ∀ x ∈ X, ∀ y ∈ Y, ¬ ltE y x := (List.pairwise_append.1 h).2.2
/-! Insertion sort is stable. -/
theorem insRev_parts (e : S48) : ∀ xs : List S48, ∃ t r, xs = t ++ r ∧ insRev e xs = t ++ e :: r ∧ (∀ y ∈ t, ltE e y) ∧ (∀ y, r.head? = some y → ¬ ltE e y)
 | [] => ⟨[], [], rfl, rfl, by simp, by simp⟩
 | y :: ys => by
  by_cases h : ltE e y
  ·
   obtain ⟨t, r, h1, h2, h3, h4⟩ := insRev_parts e ys
   refine ⟨y :: t, r, by rw [h1]; rfl, by rw [insRev, if_pos h, h2]; rfl, ?_, h4⟩
   intro z hz
   rcases List.mem_cons.1 hz with rfl | hz
   ·
    exact h
   ·
    exact h3 z hz
  ·
   refine ⟨[], y :: ys, rfl, by rw [insRev, if_neg h]; rfl, by simp, ?_⟩
   intro z hz
   obtain rfl : y = z := by simpa using hz
   exact h
theorem ltE_leT {x y z : S48} (h : ¬ ltE y x) (k : ¬ ltE z y) : ¬ ltE z x := ltE_ntr h k
theorem insR_stable (e : S48) (xs : List S48) (h : Srt xs) : Srt (insR e xs) ∧ Cls (xs ++ [e]) (insR e xs) := by
 obtain ⟨t, r, h1, h2, h3, h4⟩ := insRev_parts e xs.reverse
 have hx : xs = r.reverse ++ t.reverse := by rw [← List.reverse_reverse xs, h1, List.reverse_append]
 have hi : insR e xs = r.reverse ++ [e] ++ t.reverse := by unfold insR; rw [h2]; simp
 rw [hi]
 rw [hx] at h
 have hre : ∀ y ∈ r.reverse, ¬ ltE e y := by
  intro y hy
  rw [List.mem_reverse] at hy
  cases r with
  | nil => simp at hy
  | cons z r =>
   have hz := h4 z rfl
   rcases List.mem_cons.1 hy with rfl | hy
   ·
    exact hz
   ·
    have := h.left
    rw [List.reverse_cons] at this
    exact ltE_leT (this.cross y (by simpa using hy) z (by simp)) hz
 constructor
 ·
  refine Srt.app (Srt.app h.left (by simp [Srt]) (by simpa using hre)) h.right ?_
  intro x hx y hy
  rcases List.mem_append.1 hx with hx | hx
  ·
   exact h.cross x hx y hy
  ·
   obtain rfl : x = e := by simpa using hx
   exact ltE_asym (h3 y (List.mem_reverse.1 hy))
 ·
  rw [hx, List.append_assoc, List.append_assoc]
  refine (Cls.refl _).app (Cls.swap ?_)
  intro x hx y hy
  obtain rfl : y = e := by simpa using hy
  exact h3 x (List.mem_reverse.1 hx)
theorem isort_stable (xs : List S48) : Srt (isort xs) ∧ Cls xs (isort xs) := by
 have key : ∀ r : List S48, Srt (isort r.reverse) ∧ Cls r.reverse (isort r.reverse) := by
  intro r
  induction r with
  | nil => exact ⟨List.Pairwise.nil, Cls.refl _⟩
  | cons x r ih =>
   rw [List.reverse_cons, isort_snoc]
   have h := insR_stable x _ ih.1
   exact ⟨h.1, (ih.2.app (Cls.refl [x])).trans h.2⟩
 simpa using key xs.reverse
/-- One run out of two. -/
def Merged (X Y Z : List S48) : Prop := Srt Z ∧ Cls (X ++ Y) Z ∧ Z.length = X.length + Y.length
theorem Merged.one {X Y X1 X2 Y1 Y2 Z1 Z2 : List S48} (hX : X = X1 ++ X2) (hY : Y = Y1 ++ Y2) (sX : Srt X) (sY : Srt Y) (h12 : ∀ x ∈ X1, ∀ y ∈ Y2, ¬ ltE y x) (h21 : ∀ y ∈ Y1, ∀ x ∈ X2, ltE y x)
  (m1 : Merged X1 Y1 Z1) (m2 : Merged X2 Y2 Z2) : Merged X Y (Z1 ++ Z2) := by
 subst hX hY
 obtain ⟨s1, c1, l1⟩ := m1
 obtain ⟨s2, c2, l2⟩ := m2
 refine ⟨Srt.app s1 s2 ?_, ?_, by simp [l1, l2]; omega⟩
 ·
  intro x hx y hy
  have hx' := List.mem_append.1 (c1.symm.mem hx)
  have hy' := List.mem_append.1 (c2.symm.mem hy)
  rcases hx' with hx' | hx' <;> rcases hy' with hy' | hy'
  ·
   exact sX.cross x hx' y hy'
  ·
   exact h12 x hx' y hy'
  ·
   exact ltE_asym (h21 x hx' y hy')
  ·
   exact sY.cross x hx' y hy'
 ·
  have e1 : Cls (X1 ++ X2 ++ (Y1 ++ Y2)) (X1 ++ Y1 ++ (X2 ++ Y2)) := by
   have h := ((Cls.refl X1).app (Cls.swap (X := X2) (Y := Y1) (fun x hx y hy => h21 y hy x hx))).app (Cls.refl Y2)
   simpa [List.append_assoc] using h
  exact e1.trans (c1.app c2)
theorem Merged.nilR {X : List S48} (h : Srt X) : Merged X [] X := ⟨h, by simpa using Cls.refl X, by simp⟩
theorem Merged.nilL {Y : List S48} (h : Srt Y) : Merged [] Y Y := ⟨h, by simpa using Cls.refl Y, by simp⟩

/-! ### The stable sort of the library -/
theorem half_eq (i j : Int) (h0 : 0 ≤ i) (h1 : 0 ≤ j) (hi : i ≤ 4194304) (hj : j ≤ 4194304) : wrap64 ((IntKind.u64.wrap (wrap64 (i + j))) / 2) = (i + j) / 2 := by
 rw [w64 (x := i + j) (by omega) (by omega), IntKind.wrap_u64, Int.emod_eq_of_lt (by omega) (by omega), w64 (by omega) (by omega)]
theorem cut_at (q : Nat → Prop) (lo : Nat) : ∀ n : Nat, (∀ c, lo ≤ c → c + 1 < lo + n → q (c + 1) → q c) → ∃ s, lo ≤ s ∧ s ≤ lo + n ∧ (∀ c, lo ≤ c → c < s → q c) ∧ (∀ c, s ≤ c → c < lo + n → ¬ q c)
 | 0, _ => ⟨lo, by omega, by omega, fun c h1 h2 => by omega, fun c h1 h2 => by omega⟩
 | n + 1, h => by
  obtain ⟨s, h1, h2, h3, h4⟩ := cut_at q lo n (fun c a b => h c a (by omega))
  by_cases e : q (lo + n)
  ·
   have hs : s = lo + n := by
    rcases Nat.lt_or_ge s (lo + n) with g | g
    ·
     exfalso
     exact h4 (lo + n - 1) (by omega) (by omega) (h (lo + n - 1) (by omega) (by omega) (by rw [show lo + n - 1 + 1 = lo + n by omega]; exact e))
    ·
     omega
   refine ⟨lo + n + 1, by omega, by omega, fun c a b => ?_, fun c a b => by omega⟩
   by_cases g : c = lo + n
   ·
    rw [g]; exact e
   ·
    exact h3 c a (by omega)
  ·
   refine ⟨s, h1, by omega, h3, fun c a b => ?_⟩
   by_cases g : c = lo + n
   ·
    rw [g]; exact e
   ·
    exact h4 c a (by omega)
theorem rd_at (xs : List S48) (i : Nat) (h : i < xs.length) : rd_T48 xs (i : Int) = xs[i] := by simp [rd_T48, h]
theorem rd_in (P X R : List S48) (i : Nat) (h1 : P.length ≤ i) (h2 : i < P.length + X.length) : rd_T48 (P ++ X ++ R) (i : Int) = X[i - P.length] := by
 rw [rd_at _ i (by simp; omega), List.getElem_append_left (by simp; omega), List.getElem_append_right h1]
theorem Srt.at {X : List S48} (h : Srt X) (P R : List S48) (i j : Nat) (h1 : P.length ≤ i) (hij : i < j) (h2 : j < P.length + X.length) : ¬ ltE (rd_T48 (P ++ X ++ R) (j : Int)) (rd_T48 (P ++ X ++ R) (i : Int)) := by
 rw [rd_in P X R i h1 (by omega), rd_in P X R j (by omega) h2]
 exact (List.pairwise_iff_getElem.1 h) _ _ _ _ (by omega)
theorem Srt.atle {X : List S48} (h : Srt X) (P R : List S48) (i j : Nat) (h1 : P.length ≤ i) (hij : i ≤ j) (h2 : j < P.length + X.length) : ¬ ltE (rd_T48 (P ++ X ++ R) (j : Int)) (rd_T48 (P ++ X ++ R) (i : Int)) := by
 rcases Nat.lt_or_ge i j with g | g
 ·
  exact h.at P R i j h1 g h2
 ·
  obtain rfl : i = j := by omega
  exact fun k => ltE_asym k k
theorem mem_take_at {X : List S48} {n : Nat} {x : S48} (h : x ∈ X.take n) (P R : List S48) : ∃ i, P.length ≤ i ∧ i < P.length + n ∧ i < P.length + X.length ∧ rd_T48 (P ++ X ++ R) (i : Int) = x := by
 obtain ⟨i, hi, rfl⟩ := List.getElem_of_mem h
 simp at hi
 refine ⟨P.length + i, by omega, by omega, by omega, ?_⟩
 rw [rd_in P X R _ (by omega) (by omega)]
 simp
theorem mem_drop_at {X : List S48} {n : Nat} {x : S48} (h : x ∈ X.drop n) (P R : List S48) : ∃ i, P.length + n ≤ i ∧ i < P.length + X.length ∧ rd_T48 (P ++ X ++ R) (i : Int) = x := by
 obtain ⟨i, hi, rfl⟩ := List.getElem_of_mem h
 simp at hi
 refine ⟨P.length + (n + i), by omega, by omega, ?_⟩
 rw [rd_in P X R _ (by omega) (by omega)]
 simp
theorem swap_far (A M B : List S48) (x y : S48) (n m : Nat) (hn : n = A.length) (hm : m = A.length + 1 + M.length) : ((A ++ x :: M ++ y :: B).set n y).set m x = A ++ y :: M ++ x :: B := by
 subst hn hm
 rw [List.append_assoc, List.set_append, if_neg (by omega), List.set_append, if_neg (by omega)]
 simp only [Nat.sub_self, List.cons_append, List.set_cons_zero, List.append_assoc]
 rw [show A.length + 1 + M.length - A.length = M.length + 1 by omega, List.set_cons_succ, List.set_append, if_neg (by omega)]
 simp
theorem rd_farL (A M B : List S48) (x y : S48) (i : Int) (hi : i = (A.length : Int)) : rd_T48 (A ++ x :: M ++ y :: B) i = x := by
 subst hi
 rw [List.append_assoc, List.cons_append]
 exact rd_midE A _ x
theorem rd_farR (A M B : List S48) (x y : S48) (i : Int) (hi : i = (A.length : Int) + 1 + (M.length : Int)) : rd_T48 (A ++ x :: M ++ y :: B) i = y := by
 have e : i = ((A ++ x :: M).length : Int) := by rw [hi]; simp; omega
 rw [e]
 exact rd_midE (A ++ x :: M) B y
/-! #### swapRange -/
theorem swapRange_l0 (P M R : List S48) (a b n : Int) (ha : a = (P.length : Int)) : ∀ (A2 A1 B1 B2 : List S48), A1.length = B1.length → A2.length = B2.length → n = ((A1.length + A2.length : Nat) : Int) → b = ((P.length + A1.length + A2.length + M.length : Nat) : Int) →
  P.length + A1.length + A2.length + M.length + B1.length + B2.length + R.length ≤ 2097152 →
  EvP (fun k => impl_Entry_91.l0 k (P ++ B1 ++ A2 ++ M ++ A1 ++ B2 ++ R) a b n (A1.length : Int)) (· = P ++ (B1 ++ B2) ++ M ++ (A1 ++ A2) ++ R) := by
 intro A2
 induction A2 with
 | nil =>
  intro A1 B1 B2 h1 h2 hn hb hbig
  obtain rfl : B2 = [] := List.eq_nil_of_length_eq_zero (by simpa using h2.symm)
  refine EvP.step (fun k => by rw [impl_Entry_91.l0]) (EvP.neg (by rw [hn]; simp) (EvP.now (by simp)))
 | cons x A2 ih =>
  intro A1 B1 B2 h1 h2 hn hb hbig
  cases B2 with
  | nil => simp at h2
  | cons y B2 =>
   simp only [List.length_cons] at h2 hn hb hbig
   have ea : wrap64 (a + (A1.length : Int)) = ((P ++ B1).length : Int) := by rw [w64 (by omega) (by omega), ha]; simp; omega
   have eb : wrap64 (b + (A1.length : Int)) = ((P ++ B1).length : Int) + 1 + ((A2 ++ M ++ A1).length : Int) := by rw [w64 (by omega) (by omega), hb]; simp; omega
   have ed : P ++ B1 ++ x :: A2 ++ M ++ A1 ++ y :: B2 ++ R = (P ++ B1) ++ x :: (A2 ++ M ++ A1) ++ y :: (B2 ++ R) := by simp
   have e1 : wrap64 ((A1.length : Int) + 1) = ((A1 ++ [x]).length : Int) := by rw [w64 (by omega) (by omega)]; simp
   refine EvP.step (fun k => by rw [impl_Entry_91.l0]) ?_
   rw [ea, eb, ed, rd_farL _ _ _ x y _ rfl, rd_farR _ _ _ x y _ rfl]
   refine EvP.pos (by omega) (EvP.pos (by omega) (EvP.pos (by simp; omega) (EvP.pos (by omega) (EvP.pos (by simp; omega) ?_))))
   show EvP (fun k => impl_Entry_91.l0 k ((((P ++ B1) ++ x :: (A2 ++ M ++ A1) ++ y :: (B2 ++ R)).set ((P ++ B1).length : Int).toNat y).set (((P ++ B1).length : Int) + 1 + ((A2 ++ M ++ A1).length : Int)).toNat x) a b n (wrap64 ((A1.length : Int) + 1))) _
   rw [swap_far (P ++ B1) (A2 ++ M ++ A1) (B2 ++ R) x y _ _ (by omega) (by omega), e1]
   have h := ih (A1 ++ [x]) (B1 ++ [y]) B2 (by simp [h1]) (by omega) (by simp; omega) (by simp; omega) (by simp; omega)
   simpa using h
theorem swapRange_ev (P A M B R : List S48) (a b n q : Int) (ha : a = (P.length : Int)) (hAB : A.length = B.length) (hn : n = (A.length : Int)) (hb : b = ((P.length + A.length + M.length : Nat) : Int))
  (hbig : P.length + A.length + M.length + B.length + R.length ≤ 2097152) : EvP (fun k => impl_Entry_91.f k (P ++ A ++ M ++ B ++ R) a b n q) (· = P ++ B ++ M ++ A ++ R) := by
 unfold impl_Entry_91.f
 have h := swapRange_l0 P M R a b n ha A [] [] B rfl hAB (by rw [hn]; simp) (by rw [hb]; simp) (by simp; omega)
 simpa using h
/-! #### rotate -/
theorem rotate_l0 (m q : Int) : ∀ (N : Nat) (P A B R : List S48), A.length + B.length ≤ N → 1 ≤ A.length → 1 ≤ B.length → m = ((P.length + A.length : Nat) : Int) → P.length + A.length + B.length + R.length ≤ 2097152 →
  EvP (fun k => impl_Entry_90.l0 k (P ++ A ++ B ++ R) m q (A.length : Int) (B.length : Int)) (· = P ++ B ++ A ++ R) := by
 intro N
 induction N with
 | zero => intro P A B R h1 h2 h3; omega
 | succ N ih =>
  intro P A B R h1 h2 h3 hm hbig
  have e0 : wrap64 (m - (A.length : Int)) = (P.length : Int) := by rw [w64 (by omega) (by omega), hm]; omega
  refine EvP.step (fun k => by rw [impl_Entry_90.l0]) ?_
  rw [e0]
  refine EvP.split (fun heq => ?_) (fun hne => EvP.split (fun hgt => ?_) (fun hle => ?_))
  ·
   have h := swapRange_ev P A [] B R (P.length : Int) m (A.length : Int) q rfl (by omega) rfl (by rw [hm]; simp) (by simp; omega)
   refine EvP.bind (by simpa using h) ?_
   rintro _ rfl
   exact EvP.now (by simp)
  ·
   have e1 : (A.take B.length).length = B.length := by simp; omega
   have eA : A = A.take B.length ++ A.drop B.length := (List.take_append_drop _ _).symm
   have h := swapRange_ev P (A.take B.length) (A.drop B.length) B R (P.length : Int) m (B.length : Int) q rfl e1 (by rw [e1]) (by rw [hm, e1]; simp; omega) (by rw [e1]; simp; omega)
   have e2 : P ++ A.take B.length ++ A.drop B.length ++ B ++ R = P ++ A ++ B ++ R := by rw [List.append_assoc P, List.take_append_drop]
   rw [e2] at h
   refine EvP.bind h ?_
   rintro _ rfl
   have e3 : wrap64 ((A.length : Int) - (B.length : Int)) = ((A.drop B.length).length : Int) := by rw [w64 (by omega) (by omega)]; simp; omega
   have step := ih (P ++ B) (A.drop B.length) (A.take B.length) R (by simp; omega) (by simp; omega) (by omega) (by rw [hm]; simp; omega) (by simp; omega)
   rw [e1] at step
   rw [e3]
   have e4 : P ++ B ++ A.take B.length ++ A.drop B.length ++ R = P ++ B ++ A ++ R := by rw [List.append_assoc (P ++ B), List.take_append_drop]
   rw [e4] at step
   exact step
  ·
   have hlt : A.length < B.length := by omega
   have e1 : (B.drop (B.length - A.length)).length = A.length := by simp; omega
   have e5 : (B.take (B.length - A.length)).length = B.length - A.length := by simp
   have eb : wrap64 ((wrap64 (m + (B.length : Int))) - (A.length : Int)) = ((P.length + A.length + (B.take (B.length - A.length)).length : Nat) : Int) := by
    rw [w64 (x := m + _) (by omega) (by omega), w64 (by omega) (by omega), hm, e5]; omega
   have h := swapRange_ev P A (B.take (B.length - A.length)) (B.drop (B.length - A.length)) R (P.length : Int) ((P.length + A.length + (B.take (B.length - A.length)).length : Nat) : Int) (A.length : Int) q rfl e1.symm rfl rfl (by rw [e1, e5]; omega)
   have e2 : P ++ A ++ B.take (B.length - A.length) ++ B.drop (B.length - A.length) ++ R = P ++ A ++ B ++ R := by rw [List.append_assoc (P ++ A), List.take_append_drop]
   rw [e2] at h
   rw [eb]
   refine EvP.bind h ?_
   rintro _ rfl
   have e3 : wrap64 ((B.length : Int) - (A.length : Int)) = ((B.take (B.length - A.length)).length : Int) := by rw [w64 (by omega) (by omega), e5]; omega
   have step := ih P (B.drop (B.length - A.length)) (B.take (B.length - A.length)) (A ++ R) (by rw [e1, e5]; omega) (by omega) (by omega) (by rw [hm, e1]) (by rw [e1, e5]; simp; omega)
   rw [e1] at step
   rw [e3]
   have e4 : P ++ B.take (B.length - A.length) ++ B.drop (B.length - A.length) ++ (A ++ R) = P ++ B ++ A ++ R := by rw [List.append_assoc P, List.take_append_drop]; simp
   have e6 : P ++ B.drop (B.length - A.length) ++ B.take (B.length - A.length) ++ (A ++ R) = P ++ B.drop (B.length - A.length) ++ B.take (B.length - A.length) ++ A ++ R := by simp
   rw [e4, e6] at step
   exact step
theorem rotate_ev (P A B R : List S48) (a m b q : Int) (h2 : 1 ≤ A.length) (h3 : 1 ≤ B.length) (ha : a = (P.length : Int)) (hm : m = ((P.length + A.length : Nat) : Int)) (hb : b = ((P.length + A.length + B.length : Nat) : Int))
  (hbig : P.length + A.length + B.length + R.length ≤ 2097152) : EvP (fun k => impl_Entry_90.f k (P ++ A ++ B ++ R) a m b q) (· = P ++ B ++ A ++ R) := by
 unfold impl_Entry_90.f
 have h := rotate_l0 m q (A.length + B.length) P A B R (Nat.le_refl _) h2 h3 hm hbig
 have e1 : wrap64 (m - a) = (A.length : Int) := by rw [w64 (by omega) (by omega), hm, ha]; omega
 have e2 : wrap64 (b - m) = (B.length : Int) := by rw [w64 (by omega) (by omega), hm, hb]; omega
 rw [e1, e2]
 exact h
/-! #### symMerge: one element on the left -/
theorem sym_l1 (R : List S48) (x : S48) (i : Int) : ∀ (Y P : List S48), i = ((P.length + Y.length + 1 : Nat) : Int) → P.length + Y.length + 1 + R.length ≤ 2097152 →
  EvP (fun k => impl_Entry_87.l1 k (P ++ x :: Y ++ R) i (P.length : Int)) (· = P ++ Y ++ [x] ++ R) := by
 intro Y
 induction Y with
 | nil =>
  intro P hi hbig
  refine EvP.step (fun k => by rw [impl_Entry_87.l1]) (EvP.neg (by simp only [List.length_nil] at hi hbig; rw [hi, w64 (by omega) (by omega)]; omega) (EvP.now (by simp)))
 | cons y Y ih =>
  intro P hi hbig
  simp only [List.length_cons] at hi hbig
  have e1 : wrap64 ((P.length : Int) + 1) = ((P ++ [y]).length : Int) := by rw [w64 (by omega) (by omega)]; simp
  have e0 : wrap64 (i - 1) = ((P.length + Y.length + 1 : Nat) : Int) := by rw [w64 (by omega) (by omega), hi]; omega
  have ed : P ++ x :: y :: Y ++ R = P ++ x :: [] ++ y :: (Y ++ R) := by simp
  refine EvP.step (fun k => by rw [impl_Entry_87.l1]) ?_
  rw [e0, e1]
  have r1 : rd_T48 (P ++ x :: (y :: Y) ++ R) ((P ++ [y]).length : Int) = y := by
   rw [ed]; exact rd_farR P [] (Y ++ R) x y _ (by simp)
  have r0 : rd_T48 (P ++ x :: (y :: Y) ++ R) (P.length : Int) = x := by
   rw [ed]; exact rd_farL P [] (Y ++ R) x y _ rfl
  rw [r1, r0]
  refine EvP.pos (by omega) (EvP.pos (by omega) (EvP.pos (by simp; omega) (EvP.pos (by omega) (EvP.pos (by simp; omega) ?_))))
  show EvP (fun k => impl_Entry_87.l1 k (((P ++ x :: y :: Y ++ R).set (P.length : Int).toNat y).set ((P ++ [y]).length : Int).toNat x) i ((P ++ [y]).length : Int)) _
  rw [ed, swap_far P [] (Y ++ R) x y _ _ (by omega) (by simp)]
  have h := ih (P ++ [y]) (by rw [hi]; simp; omega) (by simp; omega)
  simpa using h
theorem sym_l0 (data : List S48) (a : Int) (x : S48) (hx : rd_T48 data a = x) (ha0 : 0 ≤ a) (ha1 : a < (data.length : Int)) (hbig : data.length ≤ 2097152) (s lo hi : Nat) (hhi : hi ≤ data.length)
  (q1 : ∀ c, lo ≤ c → c < s → ltE (rd_T48 data (c : Int)) x) (q2 : ∀ c, s ≤ c → c < hi → ¬ ltE (rd_T48 data (c : Int)) x) (Q : List S48 → Prop)
  (fin : EvP (fun k => impl_Entry_87.l1 k data (s : Int) a) Q) : ∀ (N i j : Nat), j - i ≤ N → lo ≤ i → i ≤ s → s ≤ j → j ≤ hi →
  EvP (fun k => impl_Entry_87.l0 k data a (i : Int) (j : Int)) Q := by
 intro N
 induction N with
 | zero =>
  intro i j h0 h1 h2 h3 h4
  obtain rfl : i = s := by omega
  refine EvP.step (fun k => by rw [impl_Entry_87.l0]) (EvP.neg (by omega) fin)
 | succ N ih =>
  intro i j h0 h1 h2 h3 h4
  refine EvP.step (fun k => by rw [impl_Entry_87.l0]) ?_
  rw [half_eq (i : Int) (j : Int) (by omega) (by omega) (by omega) (by omega), hx]
  refine EvP.split (fun hlt => ?_) (fun hge => ?_)
  ·
   obtain ⟨h, hh⟩ : ∃ h : Nat, ((i : Int) + (j : Int)) / 2 = (h : Int) := ⟨(i + j) / 2, by omega⟩
   have g1 : i ≤ h := by omega
   have g2 : h < j := by omega
   rw [hh]
   refine EvP.pos (by omega) (EvP.pos (by omega) (EvP.pos (by omega) (EvP.pos (by omega) ?_)))
   refine EvP.bind (cmp_ev _ _) ?_
   intro c hc
   refine EvP.split (fun hlt => ?_) (fun hge => ?_)
   ·
    have hq := hc.1 hlt
    have hs : h < s := by
     rcases Nat.lt_or_ge h s with g | g
     ·
      exact g
     ·
      exact absurd hq (q2 h g (by omega))
    have e1 : wrap64 ((h : Int) + 1) = ((h + 1 : Nat) : Int) := by rw [w64 (by omega) (by omega)]; omega
    rw [e1]
    clear e1
    exact ih (h + 1) j (by omega) (by omega) (by omega) h3 h4
   ·
    have hq : ¬ ltE _ x := fun g => hge (hc.2 g)
    have hs : s ≤ h := by
     rcases Nat.lt_or_ge h s with g | g
     ·
      exact absurd (q1 h (by omega) g) hq
     ·
      exact g
    exact ih i h (by omega) h1 h2 hs (by omega)
  ·
   obtain rfl : i = s := by omega
   exact fin
/-! #### symMerge: one element on the right -/
theorem sym_l3 (R : List S48) (y : S48) (P : List S48) : ∀ (X X2 : List S48), P.length + X.length + 1 + X2.length + R.length ≤ 2097152 →
  EvP (fun k => impl_Entry_87.l3 k (P ++ X.reverse ++ y :: X2 ++ R) (P.length : Int) ((P.length + X.length : Nat) : Int)) (· = P ++ [y] ++ X.reverse ++ X2 ++ R) := by
 intro X
 induction X with
 | nil =>
  intro X2 hbig
  refine EvP.step (fun k => by rw [impl_Entry_87.l3]) (EvP.neg (by simp) (EvP.now (by simp)))
 | cons x X ih =>
  intro X2 hbig
  simp only [List.length_cons] at hbig
  have e1 : wrap64 (((P.length + (x :: X).length : Nat) : Int) - 1) = ((P ++ X.reverse).length : Int) := by rw [w64 (by simp; omega) (by simp; omega)]; simp; omega
  have ed : P ++ (x :: X).reverse ++ y :: X2 ++ R = (P ++ X.reverse) ++ x :: [] ++ y :: (X2 ++ R) := by simp
  have e2 : ((P.length + (x :: X).length : Nat) : Int) = ((P ++ X.reverse).length : Int) + 1 + (([] : List S48).length : Int) := by simp; omega
  refine EvP.step (fun k => by rw [impl_Entry_87.l3]) ?_
  rw [e1, ed, rd_farL _ _ _ x y _ rfl, rd_farR _ _ _ x y _ e2]
  refine EvP.pos (by simp; omega) (EvP.pos (by omega) (EvP.pos (by simp; omega) (EvP.pos (by omega) (EvP.pos (by simp; omega) ?_))))
  show EvP (fun k => impl_Entry_87.l3 k ((((P ++ X.reverse) ++ x :: [] ++ y :: (X2 ++ R)).set ((P.length + (x :: X).length : Nat) : Int).toNat x).set ((P ++ X.reverse).length : Int).toNat y) (P.length : Int) ((P ++ X.reverse).length : Int)) _
  have e3 : (((P ++ X.reverse) ++ x :: [] ++ y :: (X2 ++ R)).set ((P.length + (x :: X).length : Nat) : Int).toNat x).set ((P ++ X.reverse).length : Int).toNat y = P ++ X.reverse ++ y :: (x :: X2) ++ R := by
   rw [List.set_comm _ _ (by simp; omega), swap_far (P ++ X.reverse) [] (X2 ++ R) x y _ _ (by omega) (by simp; omega)]
   simp
  have e4 : ((P ++ X.reverse).length : Int) = ((P.length + X.length : Nat) : Int) := by simp
  rw [e3, e4]
  have h := ih (x :: X2) (by simp; omega)
  simpa using h
theorem sym_l2 (data : List S48) (m : Int) (y : S48) (hy : rd_T48 data m = y) (hm0 : 0 ≤ m) (hm1 : m < (data.length : Int)) (hbig : data.length ≤ 2097152) (s lo hi : Nat) (hhi : hi ≤ data.length)
  (q1 : ∀ c, lo ≤ c → c < s → ¬ ltE y (rd_T48 data (c : Int))) (q2 : ∀ c, s ≤ c → c < hi → ltE y (rd_T48 data (c : Int))) (Q : List S48 → Prop)
  (fin : EvP (fun k => impl_Entry_87.l3 k data (s : Int) m) Q) : ∀ (N i j : Nat), j - i ≤ N → lo ≤ i → i ≤ s → s ≤ j → j ≤ hi →
  EvP (fun k => impl_Entry_87.l2 k data m (i : Int) (j : Int)) Q := by
 intro N
 induction N with
 | zero =>
  intro i j h0 h1 h2 h3 h4
  obtain rfl : i = s := by omega
  refine EvP.step (fun k => by rw [impl_Entry_87.l2]) (EvP.neg (by omega) fin)
 | succ N ih =>
  intro i j h0 h1 h2 h3 h4
  refine EvP.step (fun k => by rw [impl_Entry_87.l2]) ?_
  rw [half_eq (i : Int) (j : Int) (by omega) (by omega) (by omega) (by omega), hy]
  refine EvP.split (fun hlt => ?_) (fun hge => ?_)
  ·
   obtain ⟨h, hh⟩ : ∃ h : Nat, ((i : Int) + (j : Int)) / 2 = (h : Int) := ⟨(i + j) / 2, by omega⟩
   have g1 : i ≤ h := by omega
   have g2 : h < j := by omega
   rw [hh]
   refine EvP.pos (by omega) (EvP.pos (by omega) (EvP.pos (by omega) (EvP.pos (by omega) ?_)))
   refine EvP.bind (cmp_ev _ _) ?_
   intro c hc
   refine EvP.split (fun hlt => ?_) (fun hge => ?_)
   ·
    have hq := hc.1 hlt
    have hs : s ≤ h := by
     rcases Nat.lt_or_ge h s with g | g
     ·
      exact absurd hq (q1 h (by omega) g)
     ·
      exact g
    exact ih i h (by omega) h1 h2 hs (by omega)
   ·
    have hq : ¬ ltE y _ := fun g => hge (hc.2 g)
    have hs : h < s := by
     rcases Nat.lt_or_ge h s with g | g
     ·
      exact g
     ·
      exact absurd (q2 h g (by omega)) hq
    have e1 : wrap64 ((h : Int) + 1) = ((h + 1 : Nat) : Int) := by rw [w64 (by omega) (by omega)]; omega
    rw [e1]
    clear e1
    exact ih (h + 1) j (by omega) (by omega) (by omega) h3 h4
  ·
   obtain rfl : i = s := by omega
   exact fin
/-! #### symMerge: the middle -/
theorem sym_l4 (data : List S48) (x1 x2 x3 x4 x18 x19 x22 : Int) (hbig : data.length ≤ 2097152) (n s lo hi : Nat) (hn : x19 = (n : Int)) (hp : x22 = (n : Int) - 1) (hhi : hi ≤ data.length) (hlo : ∀ c, lo ≤ c → c < hi → c + 1 ≤ n ∧ n - 1 - c < data.length)
  (q1 : ∀ c, lo ≤ c → c < s → ¬ ltE (rd_T48 data ((n - 1 - c : Nat) : Int)) (rd_T48 data (c : Int))) (q2 : ∀ c, s ≤ c → c < hi → ltE (rd_T48 data ((n - 1 - c : Nat) : Int)) (rd_T48 data (c : Int))) (hnb : n ≤ 4194304) (Q : List S48 → Prop)
  (fin : EvP (fun k => impl_Entry_87.j6 k data x1 x2 x3 x4 x18 (s : Int) ((n : Int) - (s : Int)) (decide ((s : Int) < x2) && decide (x2 < (n : Int) - (s : Int)))) Q) : ∀ (N i j : Nat), j - i ≤ N → lo ≤ i → i ≤ s → s ≤ j → j ≤ hi →
  EvP (fun k => impl_Entry_87.l4 k data x1 x2 x3 x4 x18 x19 (i : Int) (j : Int) x22) Q := by
 intro N
 have done : ∀ i : Nat, i = s → i ≤ hi → EvP (fun k => if (i : Int) < x2 then impl_Entry_87.j6 k data x1 x2 x3 x4 x18 (i : Int) (wrap64 (x19 - (i : Int))) (decide (x2 < (wrap64 (x19 - (i : Int))))) else impl_Entry_87.j6 k data x1 x2 x3 x4 x18 (i : Int) (wrap64 (x19 - (i : Int))) false) Q := by
  intro i hi' hle
  subst hi'
  have e1 : wrap64 (x19 - (i : Int)) = (n : Int) - (i : Int) := by rw [hn, w64 (by omega) (by omega)]
  rw [e1]
  refine EvP.split (fun h => ?_) (fun h => ?_)
  ·
   simpa [h] using fin
  ·
   simpa [h] using fin
 induction N with
 | zero =>
  intro i j h0 h1 h2 h3 h4
  refine EvP.step (fun k => by rw [impl_Entry_87.l4]) (EvP.neg (by omega) (done i (by omega) (by omega)))
 | succ N ih =>
  intro i j h0 h1 h2 h3 h4
  refine EvP.step (fun k => by rw [impl_Entry_87.l4]) ?_
  rw [half_eq (i : Int) (j : Int) (by omega) (by omega) (by omega) (by omega)]
  refine EvP.split (fun hlt => ?_) (fun hge => done i (by omega) (by omega))
  obtain ⟨h, hh⟩ : ∃ h : Nat, ((i : Int) + (j : Int)) / 2 = (h : Int) := ⟨(i + j) / 2, by omega⟩
  have g1 : i ≤ h := by omega
  have g2 : h < j := by omega
  obtain ⟨b1, b2⟩ := hlo h (by omega) (by omega)
  have e0 : wrap64 (x22 - (h : Int)) = ((n - 1 - h : Nat) : Int) := by rw [hp, w64 (by omega) (by omega)]; omega
  rw [hh, e0]
  refine EvP.pos (by omega) (EvP.pos (by omega) (EvP.pos (by omega) (EvP.pos (by omega) ?_)))
  refine EvP.bind (cmp_ev _ _) ?_
  intro c hc
  refine EvP.split (fun hlt => ?_) (fun hge => ?_)
  ·
   have hq := hc.1 hlt
   have hs : s ≤ h := by
    rcases Nat.lt_or_ge h s with g | g
    ·
     exact absurd hq (q1 h (by omega) g)
    ·
     exact g
   exact ih i h (by omega) h1 h2 hs (by omega)
  ·
   have hq := fun g => hge (hc.2 g)
   have hs : h < s := by
    rcases Nat.lt_or_ge h s with g | g
    ·
     exact g
    ·
     exact absurd (q2 h g (by omega)) hq
   have e1 : wrap64 ((h : Int) + 1) = ((h + 1 : Nat) : Int) := by rw [w64 (by omega) (by omega)]; omega
   rw [e1]
   clear e1
   exact ih (h + 1) j (by omega) (by omega) (by omega) h3 h4

theorem Merged.app {X Y : List S48} (sX : Srt X) (sY : Srt Y) (h : ∀ x ∈ X, ∀ y ∈ Y, ¬ ltE y x) : Merged X Y (X ++ Y) := ⟨Srt.app sX sY h, Cls.refl _, by simp⟩
theorem symMerge_mid (N : Nat) (IH : ∀ (P X Y T : List S48), X.length + Y.length ≤ N → X ≠ [] → Y ≠ [] → Srt X → Srt Y → P.length + X.length + Y.length + T.length ≤ 2097152 → ∀ a m b q : Int, a = (P.length : Int) → m = ((P.length + X.length : Nat) : Int) → b = ((P.length + X.length + Y.length : Nat) : Int) →
   EvP (fun k => impl_Entry_87.f k (P ++ X ++ Y ++ T) a m b q) (fun r => ∃ Z, r = P ++ Z ++ T ∧ Merged X Y Z))
  (P X Y T : List S48) (hN : X.length + Y.length ≤ N + 1) (hX : 2 ≤ X.length) (hY : 2 ≤ Y.length) (sX : Srt X) (sY : Srt Y) (hbig : P.length + X.length + Y.length + T.length ≤ 2097152) (a m b q : Int)
  (ha : a = (P.length : Int)) (hm : m = ((P.length + X.length : Nat) : Int)) (hb : b = ((P.length + X.length + Y.length : Nat) : Int)) (mid n lo hi : Nat) (hmid : mid = (2 * P.length + X.length + Y.length) / 2) (hn : n = mid + (P.length + X.length))
  (hcase : (P.length + X.length > mid ∧ lo = n - (P.length + X.length + Y.length) ∧ hi = mid) ∨ (P.length + X.length ≤ mid ∧ lo = P.length ∧ hi = P.length + X.length)) :
  EvP (fun k => impl_Entry_87.j4 k (P ++ X ++ Y ++ T) a m b q (mid : Int) (n : Int) (lo : Int) (hi : Int)) (fun r => ∃ Z, r = P ++ Z ++ T ∧ Merged X Y Z) := by
 obtain ⟨data, hd⟩ : ∃ data, data = P ++ X ++ Y ++ T := ⟨_, rfl⟩
 have hd1 : data = P ++ X ++ (Y ++ T) := by rw [hd]; simp
 have hd2 : data = (P ++ X) ++ Y ++ T := hd
 have hdl : data.length = P.length + X.length + Y.length + T.length := by rw [hd]; simp; omega
 have gX : ∀ i j : Nat, P.length ≤ i → i ≤ j → j < P.length + X.length → ¬ ltE (rd_T48 data (j : Int)) (rd_T48 data (i : Int)) := by
  intro i j h1 h2 h3; rw [hd1]; exact sX.atle P (Y ++ T) i j h1 h2 h3
 have gY : ∀ i j : Nat, P.length + X.length ≤ i → i ≤ j → j < P.length + X.length + Y.length → ¬ ltE (rd_T48 data (j : Int)) (rd_T48 data (i : Int)) := by
  intro i j h1 h2 h3; rw [hd2]; exact sY.atle (P ++ X) T i j (by simpa using h1) h2 (by simpa using h3)
 have hrange : ∀ c, lo ≤ c → c < hi → P.length ≤ c ∧ c < P.length + X.length ∧ P.length + X.length ≤ n - 1 - c ∧ n - 1 - c < P.length + X.length + Y.length ∧ c + 1 ≤ n := by
  intro c h1 h2
  rcases hcase with ⟨g1, rfl, rfl⟩ | ⟨g1, rfl, rfl⟩ <;> omega
 have hlohi : lo ≤ hi := by rcases hcase with ⟨g1, rfl, rfl⟩ | ⟨g1, rfl, rfl⟩ <;> omega
 obtain ⟨s, hs1, hs2, hq1, hq2⟩ := cut_at (fun c => ¬ ltE (rd_T48 data ((n - 1 - c : Nat) : Int)) (rd_T48 data (c : Int))) lo (hi - lo) (by
  intro c h1 h2 h3
  obtain ⟨r1, r2, r3, r4, r5⟩ := hrange c h1 (by omega)
  obtain ⟨t1, t2, t3, t4, t5⟩ := hrange (c + 1) (by omega) (by omega)
  exact ltE_leT (gX c (c + 1) r1 (by omega) t2) (ltE_leT h3 (gY (n - 1 - (c + 1)) (n - 1 - c) t3 (by omega) r4)))
 rw [show lo + (hi - lo) = hi by omega] at hs2 hq2
 have hs3 : P.length ≤ s ∧ s ≤ P.length + X.length ∧ s ≤ n ∧ P.length + X.length ≤ n - s ∧ n - s ≤ P.length + X.length + Y.length ∧ s ≤ mid ∧ mid ≤ n - s := by
  rcases hcase with ⟨g1, rfl, rfl⟩ | ⟨g1, rfl, rfl⟩ <;> omega
 obtain ⟨z1, z2, z3, z4, z5, z6, z7⟩ := hs3
 obtain ⟨X1, hX1⟩ : ∃ X1, X1 = X.take (s - P.length) := ⟨_, rfl⟩
 obtain ⟨X2, hX2⟩ : ∃ X2, X2 = X.drop (s - P.length) := ⟨_, rfl⟩
 obtain ⟨Y1, hY1⟩ : ∃ Y1, Y1 = Y.take (n - s - (P.length + X.length)) := ⟨_, rfl⟩
 obtain ⟨Y2, hY2⟩ : ∃ Y2, Y2 = Y.drop (n - s - (P.length + X.length)) := ⟨_, rfl⟩
 have eX : X = X1 ++ X2 := by rw [hX1, hX2, List.take_append_drop]
 have eY : Y = Y1 ++ Y2 := by rw [hY1, hY2, List.take_append_drop]
 have lX1 : X1.length = s - P.length := by rw [hX1]; simp; omega
 have lX2 : X2.length = P.length + X.length - s := by rw [hX2]; simp; omega
 have lY1 : Y1.length = n - s - (P.length + X.length) := by rw [hY1]; simp; omega
 have lY2 : Y2.length = P.length + X.length + Y.length - (n - s) := by rw [hY2]; simp; omega
 have h12 : ∀ x ∈ X1, ∀ y ∈ Y2, ¬ ltE y x := by
  intro x hx y hy
  rw [hX1] at hx
  rw [hY2] at hy
  obtain ⟨i, i1, i2, i3, rfl⟩ := mem_take_at hx P (Y ++ T)
  obtain ⟨j, j1, j2, rfl⟩ := mem_drop_at hy (P ++ X) T
  rw [← hd1, ← hd2]
  simp only [List.length_append] at j1 j2
  have hsl : lo < s := by
   rcases hcase with ⟨g1, rfl, rfl⟩ | ⟨g1, rfl, rfl⟩ <;> omega
  have hc := hq1 (s - 1) (by omega) (by omega)
  rw [show n - 1 - (s - 1) = n - s by omega] at hc
  exact ltE_leT (gX i (s - 1) i1 (by omega) (by omega)) (ltE_leT hc (gY (n - s) j (by omega) (by omega) j2))
 have h21 : ∀ y ∈ Y1, ∀ x ∈ X2, ltE y x := by
  intro y hy x hx
  rw [hX2] at hx
  rw [hY1] at hy
  obtain ⟨i, i1, i2, rfl⟩ := mem_drop_at hx P (Y ++ T)
  obtain ⟨j, j1, j2, j3, rfl⟩ := mem_take_at hy (P ++ X) T
  rw [← hd1, ← hd2]
  simp only [List.length_append] at j1 j2 j3
  have hsh : s < hi := by
   rcases hcase with ⟨g1, rfl, rfl⟩ | ⟨g1, rfl, rfl⟩ <;> omega
  have hc := hq2 s (Nat.le_refl _) hsh
  rw [Decidable.not_not] at hc
  by_cases hlt : ltE (rd_T48 data (j : Int)) (rd_T48 data (i : Int))
  ·
   exact hlt
  ·
   exact absurd hc (ltE_leT (gX s i z1 (by omega) i2) (ltE_leT hlt (gY j (n - 1 - s) j1 (by omega) (by omega))))
 have sX1 : Srt X1 := by rw [eX] at sX; exact sX.left
 have sX2 : Srt X2 := by rw [eX] at sX; exact sX.right
 have sY1 : Srt Y1 := by rw [eY] at sY; exact sY.left
 have sY2 : Srt Y2 := by rw [eY] at sY; exact sY.right
 have hx1 := hX1
 clear hX1 hX2 hY1 hY2 hx1
 have lXX : X1.length + X2.length = X.length := by rw [eX]; simp
 have lYY : Y1.length + Y2.length = Y.length := by rw [eY]; simp
 -- the second half
 have second : ∀ Z1 : List S48, Merged X1 Y1 Z1 → EvP (fun k => if (mid : Int) < (n : Int) - (s : Int) then (if (n : Int) - (s : Int) < b then ((impl_Entry_87.f k (P ++ Z1 ++ X2 ++ Y2 ++ T) (mid : Int) ((n : Int) - (s : Int)) b q).bind fun t => (some t)) else (some (P ++ Z1 ++ X2 ++ Y2 ++ T))) else (some (P ++ Z1 ++ X2 ++ Y2 ++ T))) (fun r => ∃ Z, r = P ++ Z ++ T ∧ Merged X Y Z) := by
  intro Z1 m1
  have lZ1 := m1.2.2
  have fin : ∀ Z2 : List S48, Merged X2 Y2 Z2 → ∃ Z, P ++ Z1 ++ Z2 ++ T = P ++ Z ++ T ∧ Merged X Y Z := fun Z2 m2 => ⟨Z1 ++ Z2, by simp, Merged.one eX eY sX sY h12 h21 m1 m2⟩
  have none2 : X2 = [] ∨ Y2 = [] → ∃ Z, P ++ Z1 ++ X2 ++ Y2 ++ T = P ++ Z ++ T ∧ Merged X Y Z := by
   intro h
   obtain ⟨Z, e1, e2⟩ := fin (X2 ++ Y2) (Merged.app sX2 sY2 (by rcases h with rfl | rfl <;> simp))
   exact ⟨Z, by rw [← e1]; simp, e2⟩
  refine EvP.split (fun g1 => EvP.split (fun g2 => ?_) (fun g2 => EvP.now (none2 (.inr ?_)))) (fun g1 => EvP.now (none2 (.inl ?_)))
  ·
   have h := IH (P ++ Z1) X2 Y2 T (by omega) (by intro e; rw [e] at lX2; simp at lX2; omega) (by intro e; rw [e] at lY2; simp at lY2; omega) sX2 sY2 (by simp; omega) (mid : Int) ((n : Int) - (s : Int)) b q (by simp; omega) (by simp; omega) (by rw [hb]; simp; omega)
   refine EvP.bind h ?_
   rintro _ ⟨Z2, rfl, m2⟩
   exact EvP.now (fin Z2 m2)
  ·
   exact List.eq_nil_of_length_eq_zero (by omega)
  ·
   exact List.eq_nil_of_length_eq_zero (by omega)
 -- both halves
 have both : EvP (fun k => impl_Entry_87.j7 k (P ++ X1 ++ Y1 ++ (X2 ++ Y2 ++ T)) a b q (mid : Int) (s : Int) ((n : Int) - (s : Int))) (fun r => ∃ Z, r = P ++ Z ++ T ∧ Merged X Y Z) := by
  have same : P ++ X1 ++ Y1 ++ (X2 ++ Y2 ++ T) = P ++ (X1 ++ Y1) ++ X2 ++ Y2 ++ T := by simp
  have j8 : ∀ c : Bool, c = (decide (P.length < s) && decide (s < mid)) → EvP (fun k => impl_Entry_87.j8 k (P ++ X1 ++ Y1 ++ (X2 ++ Y2 ++ T)) a b q (mid : Int) (s : Int) ((n : Int) - (s : Int)) c) (fun r => ∃ Z, r = P ++ Z ++ T ∧ Merged X Y Z) := by
   intro c hc
   refine EvP.step (fun k => by rw [impl_Entry_87.j8]) ?_
   cases c with
   | true =>
    have hc' : P.length < s ∧ s < mid := by simpa using hc.symm
    refine EvP.pos rfl ?_
    have h := IH P X1 Y1 (X2 ++ Y2 ++ T) (by omega) (by intro e; rw [e] at lX1; simp at lX1; omega) (by intro e; rw [e] at lY1; simp at lY1; omega) sX1 sY1 (by simp; omega) a (s : Int) (mid : Int) q ha (by omega) (by omega)
    refine EvP.bind h ?_
    rintro _ ⟨Z1, rfl, m1⟩
    have h2 := second Z1 m1
    have e1 : P ++ Z1 ++ (X2 ++ Y2 ++ T) = P ++ Z1 ++ X2 ++ Y2 ++ T := by simp
    rw [e1]
    exact h2
   | false =>
    have hc' : ¬ (P.length < s ∧ s < mid) := by
     intro g
     rw [decide_eq_true g.1, decide_eq_true g.2] at hc
     cases hc
    refine EvP.neg (by simp) ?_
    rw [same]
    refine second (X1 ++ Y1) (Merged.app sX1 sY1 ?_)
    have : X1 = [] ∨ Y1 = [] := by
     by_cases g : P.length < s
     ·
      exact .inr (List.eq_nil_of_length_eq_zero (by omega))
     ·
      exact .inl (List.eq_nil_of_length_eq_zero (by omega))
    rcases this with rfl | rfl <;> simp
  refine EvP.step (fun k => by rw [impl_Entry_87.j7]) (EvP.split (fun h => j8 _ ?_) (fun h => j8 _ ?_))
  ·
   have h' : P.length < s := by omega
   have e1 : decide ((s : Int) < (mid : Int)) = decide (s < mid) := by simp
   rw [decide_eq_true h', e1]; rfl
  ·
   have h' : ¬ P.length < s := by omega
   rw [decide_eq_false h']; rfl
 refine EvP.step (fun k => by rw [impl_Entry_87.j4]) ?_
 rw [← hd, w64 (by omega) (by omega)]
 refine sym_l4 data a m b q (mid : Int) (n : Int) ((n : Int) - 1) (by omega) n s lo hi rfl rfl (by rcases hcase with ⟨g1, rfl, rfl⟩ | ⟨g1, rfl, rfl⟩ <;> omega) (fun c h1 h2 => by have := hrange c h1 h2; omega) hq1 (fun c h1 h2 => Decidable.not_not.1 (hq2 c h1 h2)) (by omega) _ ?_ (hi - lo) lo hi (Nat.le_refl _) (Nat.le_refl _) hs1 hs2 (Nat.le_refl _)
 refine EvP.step (fun k => by rw [impl_Entry_87.j6]) (EvP.split (fun h => ?_) (fun h => ?_))
 ·
  have h' : (s : Int) < m ∧ m < (n : Int) - (s : Int) := by simpa using h
  have hr := rotate_ev (P ++ X1) X2 Y1 (Y2 ++ T) (s : Int) m ((n : Int) - (s : Int)) q (by omega) (by omega) (by simp; omega) (by rw [hm]; simp; omega) (by simp; omega) (by simp; omega)
  have e1 : (P ++ X1) ++ X2 ++ Y1 ++ (Y2 ++ T) = data := by rw [hd, eX, eY]; simp
  rw [e1] at hr
  refine EvP.bind hr ?_
  rintro _ rfl
  have e2 : P ++ X1 ++ Y1 ++ X2 ++ (Y2 ++ T) = P ++ X1 ++ Y1 ++ (X2 ++ Y2 ++ T) := by simp
  rw [e2]
  exact both
 ·
  have e1 : data = P ++ X1 ++ Y1 ++ (X2 ++ Y2 ++ T) := by
   have : X2 = [] ∨ Y1 = [] := by
    by_cases g : (s : Int) < m
    ·
     refine .inr (List.eq_nil_of_length_eq_zero ?_)
     have : ¬ m < (n : Int) - (s : Int) := by
      intro g2
      exact h (by simp [g, g2])
     omega
    ·
     exact .inl (List.eq_nil_of_length_eq_zero (by omega))
   rw [hd, eX, eY]
   rcases this with rfl | rfl <;> simp
  rw [e1]
  exact both
theorem symMerge_ev : ∀ (N : Nat) (P X Y T : List S48), X.length + Y.length ≤ N → X ≠ [] → Y ≠ [] → Srt X → Srt Y → P.length + X.length + Y.length + T.length ≤ 2097152 → ∀ a m b q : Int, a = (P.length : Int) → m = ((P.length + X.length : Nat) : Int) → b = ((P.length + X.length + Y.length : Nat) : Int) →
   EvP (fun k => impl_Entry_87.f k (P ++ X ++ Y ++ T) a m b q) (fun r => ∃ Z, r = P ++ Z ++ T ∧ Merged X Y Z) := by
 intro N
 induction N with
 | zero =>
  intro P X Y T h hX
  exact absurd (List.eq_nil_of_length_eq_zero (by omega)) hX
 | succ N IH =>
  intro P X Y T hN hX hY sX sY hbig a m b q ha hm hb
  have pX : 1 ≤ X.length := by cases X with | nil => exact absurd rfl hX | cons x X => simp
  have pY : 1 ≤ Y.length := by cases Y with | nil => exact absurd rfl hY | cons x X => simp
  obtain ⟨mid, hmid⟩ : ∃ mid, mid = (2 * P.length + X.length + Y.length) / 2 := ⟨_, rfl⟩
  have e1 : wrap64 (m - a) = (X.length : Int) := by rw [w64 (by omega) (by omega), hm, ha]; omega
  have e2 : wrap64 (b - m) = (Y.length : Int) := by rw [w64 (by omega) (by omega), hm, hb]; omega
  have e3 : wrap64 ((IntKind.u64.wrap (wrap64 (a + b))) / 2) = (mid : Int) := by rw [half_eq _ _ (by omega) (by omega) (by omega) (by omega), hmid]; omega
  refine EvP.step (fun k => by rw [impl_Entry_87.f]) ?_
  rw [e1, e2, e3]
  refine EvP.split (fun hone => ?_) (fun hnot => EvP.split (fun hone => ?_) (fun hnot2 => ?_))
  ·
   -- one on the left
   match X, hX, hone with
   | [x], _, _ =>
    have hd : P ++ [x] ++ Y ++ T = (P ++ [x]) ++ Y ++ T := rfl
    have hx : rd_T48 (P ++ [x] ++ Y ++ T) a = x := by
     rw [ha, show P ++ [x] ++ Y ++ T = P ++ x :: (Y ++ T) by simp]
     exact rd_midE _ _ _
    simp only [List.length_singleton] at hm hb hbig hN
    have gY := fun i j h1 h2 h3 => sY.atle (P ++ [x]) T i j h1 h2 h3
    simp only [List.length_append, List.length_singleton] at gY
    obtain ⟨s, hs1, hs2, hq1, hq2⟩ := cut_at (fun c => ltE (rd_T48 (P ++ [x] ++ Y ++ T) (c : Int)) x) (P.length + 1) Y.length (by
     intro c h1 h2 h3
     by_cases g : ltE (rd_T48 (P ++ [x] ++ Y ++ T) (c : Int)) x
     ·
      exact g
     ·
      exact absurd h3 (ltE_leT g (gY c (c + 1) (by omega) (by omega) (by omega))))
    have lY1 : (Y.take (s - (P.length + 1))).length = s - (P.length + 1) := by simp; omega
    have h := sym_l0 (P ++ [x] ++ Y ++ T) a x hx (by omega) (by simp; omega) (by simp; omega) s (P.length + 1) (P.length + 1 + Y.length) (by simp; omega) hq1 hq2 (fun r => ∃ Z, r = P ++ Z ++ T ∧ Merged [x] Y Z) ?_ Y.length (P.length + 1) (P.length + 1 + Y.length) (by omega) (Nat.le_refl _) hs1 hs2 (Nat.le_refl _)
    ·
     rw [hm, hb]
     exact h
    ·
     have h1 := sym_l1 (Y.drop (s - (P.length + 1)) ++ T) x (s : Int) (Y.take (s - (P.length + 1))) P (by rw [lY1]; omega) (by rw [lY1]; simp; omega)
     have ed : P ++ x :: Y.take (s - (P.length + 1)) ++ (Y.drop (s - (P.length + 1)) ++ T) = P ++ [x] ++ Y ++ T := by
      rw [List.append_assoc, List.cons_append, ← List.append_assoc (Y.take _), List.take_append_drop]
      simp
     rw [ed, ← ha] at h1
     refine h1.mono ?_
     rintro _ rfl
     have sY1 : Srt (Y.take (s - (P.length + 1))) := by rw [← List.take_append_drop (s - (P.length + 1)) Y] at sY; exact sY.left
     have sY2 : Srt (Y.drop (s - (P.length + 1))) := by rw [← List.take_append_drop (s - (P.length + 1)) Y] at sY; exact sY.right
     refine ⟨Y.take (s - (P.length + 1)) ++ ([x] ++ Y.drop (s - (P.length + 1))), by simp, ?_⟩
     refine Merged.one (X1 := []) (X2 := [x]) rfl (List.take_append_drop (s - (P.length + 1)) Y).symm sX sY (by simp) ?_ (Merged.nilL sY1) (Merged.app sX sY2 ?_)
     ·
      intro y hy x' hx'
      obtain rfl : x' = x := by simpa using hx'
      obtain ⟨j, j1, j2, j3, rfl⟩ := mem_take_at hy (P ++ [x']) T
      simp only [List.length_append, List.length_singleton] at j1 j2 j3
      exact hq1 j (by omega) (by omega)
     ·
      intro x' hx' y hy
      obtain rfl : x' = x := by simpa using hx'
      obtain ⟨j, j1, j2, rfl⟩ := mem_drop_at hy (P ++ [x']) T
      simp only [List.length_append, List.length_singleton] at j1 j2
      exact hq2 j (by omega) (by omega)
   | x :: x' :: X, _, h => simp at h; omega
  ·
   -- one on the right
   match Y, hY, hone with
   | [y], _, _ =>
    have hd1 : P ++ X ++ [y] ++ T = P ++ X ++ ([y] ++ T) := by simp
    have hy : rd_T48 (P ++ X ++ [y] ++ T) m = y := by
     rw [hm, show P ++ X ++ [y] ++ T = (P ++ X) ++ y :: T by simp, show ((P.length + X.length : Nat) : Int) = ((P ++ X).length : Int) by simp]
     exact rd_midE _ _ _
    simp only [List.length_singleton] at hm hb hbig hN
    have gX := fun i j h1 h2 h3 => sX.atle P ([y] ++ T) i j h1 h2 h3
    rw [← hd1] at gX
    obtain ⟨s, hs1, hs2, hq1, hq2⟩ := cut_at (fun c => ¬ ltE y (rd_T48 (P ++ X ++ [y] ++ T) (c : Int))) P.length X.length (by
     intro c h1 h2 h3
     exact ltE_leT (gX c (c + 1) h1 (by omega) (by omega)) h3)
    have lX1 : (X.take (s - P.length)).length = s - P.length := by simp; omega
    have lX2 : (X.drop (s - P.length)).length = P.length + X.length - s := by simp; omega
    have h := sym_l2 (P ++ X ++ [y] ++ T) m y hy (by omega) (by simp; omega) (by simp; omega) s P.length (P.length + X.length) (by simp) hq1 (fun c h1 h2 => Decidable.not_not.1 (hq2 c h1 h2)) (fun r => ∃ Z, r = P ++ Z ++ T ∧ Merged X [y] Z) ?_ X.length P.length (P.length + X.length) (by omega) (Nat.le_refl _) hs1 hs2 (Nat.le_refl _)
    ·
     rw [← hm, ← ha] at h
     exact h
    ·
     have h1 := sym_l3 T y (P ++ X.take (s - P.length)) (X.drop (s - P.length)).reverse [] (by simp; omega)
     have ed : P ++ X.take (s - P.length) ++ (X.drop (s - P.length)).reverse.reverse ++ y :: [] ++ T = P ++ X ++ [y] ++ T := by
      rw [List.reverse_reverse, List.append_assoc P, List.take_append_drop]
     have e4 : ((P ++ X.take (s - P.length)).length : Int) = (s : Int) := by simp; omega
     have e5 : (((P ++ X.take (s - P.length)).length + (X.drop (s - P.length)).reverse.length : Nat) : Int) = m := by rw [hm]; simp; omega
     rw [ed, e4, e5] at h1
     refine h1.mono ?_
     rintro _ rfl
     have sX1 : Srt (X.take (s - P.length)) := by rw [← List.take_append_drop (s - P.length) X] at sX; exact sX.left
     have sX2 : Srt (X.drop (s - P.length)) := by rw [← List.take_append_drop (s - P.length) X] at sX; exact sX.right
     refine ⟨X.take (s - P.length) ++ [y] ++ X.drop (s - P.length), by simp, ?_⟩
     refine Merged.one (Y1 := [y]) (Y2 := []) (List.take_append_drop (s - P.length) X).symm rfl sX sY (by simp) ?_ (Merged.app sX1 sY ?_) (Merged.nilR sX2)
     ·
      intro y' hy' x hx
      obtain rfl : y' = y := by simpa using hy'
      obtain ⟨j, j1, j2, rfl⟩ := mem_drop_at hx P ([y'] ++ T)
      rw [← hd1]
      exact Decidable.not_not.1 (hq2 j (by omega) (by omega))
     ·
      intro x hx y' hy'
      obtain rfl : y' = y := by simpa using hy'
      obtain ⟨j, j1, j2, j3, rfl⟩ := mem_take_at hx P ([y'] ++ T)
      rw [← hd1]
      exact hq1 j (by omega) (by omega)
   | x :: x' :: X, _, h => simp at h; omega
  ·
   have e4 : wrap64 ((mid : Int) + m) = ((mid + (P.length + X.length) : Nat) : Int) := by rw [w64 (by omega) (by omega), hm]; omega
   rw [e4]
   have key := fun lo hi h => symMerge_mid N IH P X Y T hN (by omega) (by omega) sX sY hbig a m b q ha hm hb mid (mid + (P.length + X.length)) lo hi hmid rfl h
   refine EvP.split (fun hgt => ?_) (fun hle => ?_)
   ·
    have e5 : wrap64 (((mid + (P.length + X.length) : Nat) : Int) - b) = ((mid + (P.length + X.length) - (P.length + X.length + Y.length) : Nat) : Int) := by rw [w64 (by omega) (by omega), hb]; omega
    rw [e5]
    exact key _ mid (.inl ⟨by omega, rfl, rfl⟩)
   ·
    have h := key P.length (P.length + X.length) (.inr ⟨by omega, rfl, rfl⟩)
    rw [← ha, ← hm] at h
    exact h

/-! #### block by block -/
def Sorted (bs : Nat) (Bs : List (List S48)) : Prop := ∀ B ∈ Bs, B.length = bs ∧ Srt B
theorem flat_len {bs : Nat} : ∀ {Bs : List (List S48)}, Sorted bs Bs → Bs.flatten.length = bs * Bs.length
 | [], _ => by simp
 | B :: Bs, h => by
  have h1 := h B (by simp)
  have h2 := flat_len (Bs := Bs) (fun C hC => h C (by simp [hC]))
  rw [List.flatten_cons, List.length_append, h1.1, h2, List.length_cons, Nat.mul_succ, Nat.add_comm]
theorem stable_l2 (orig : List S48) (q : Int) (bs : Nat) (hbs : 1 ≤ bs) (hn : orig.length ≤ 1048576) (hlt : bs < orig.length)
  (fin : ∀ (Ds : List (List S48)) (last : List S48), Sorted (2 * bs) Ds → last.length < 2 * bs → Srt last → (Ds.flatten ++ last).length = orig.length → Cls orig (Ds.flatten ++ last) →
   EvP (fun k => impl_Entry_69.l1 k (Ds.flatten ++ last) (orig.length : Int) q ((2 * bs : Nat) : Int)) (fun r => Srt r ∧ Cls orig r)) :
  ∀ (N : Nat) (Bs Ds : List (List S48)) (last : List S48), Bs.length ≤ N → Sorted bs Bs → Sorted (2 * bs) Ds → last.length < bs → Srt last → (Ds.flatten ++ Bs.flatten ++ last).length = orig.length → Cls orig (Ds.flatten ++ Bs.flatten ++ last) →
  EvP (fun k => impl_Entry_69.l2 k (Ds.flatten ++ Bs.flatten ++ last) (orig.length : Int) q (bs : Int) (Ds.flatten.length : Int) ((Ds.flatten.length + 2 * bs : Nat) : Int)) (fun r => Srt r ∧ Cls orig r) := by
 intro N
 have w2 : wrap64 ((bs : Int) * 2) = ((2 * bs : Nat) : Int) := by rw [w64 (by omega) (by omega)]; omega
 have w2' : wrap64 (2 * (bs : Int)) = ((2 * bs : Nat) : Int) := by rw [w64 (by omega) (by omega)]; omega
 -- the end: at most one whole block is left
 have tail : ∀ (Bs Ds : List (List S48)) (last : List S48), Bs.length ≤ 1 → Sorted bs Bs → Sorted (2 * bs) Ds → last.length < bs → Srt last → (Ds.flatten ++ Bs.flatten ++ last).length = orig.length → Cls orig (Ds.flatten ++ Bs.flatten ++ last) →
   EvP (fun k => if (wrap64 ((Ds.flatten.length : Int) + (bs : Int))) < (orig.length : Int) then ((impl_Entry_87.f k (Ds.flatten ++ Bs.flatten ++ last) (Ds.flatten.length : Int) (wrap64 ((Ds.flatten.length : Int) + (bs : Int))) (orig.length : Int) q).bind fun t => (impl_Entry_69.l1 k t (orig.length : Int) q (wrap64 ((bs : Int) * 2)))) else (impl_Entry_69.l1 k (Ds.flatten ++ Bs.flatten ++ last) (orig.length : Int) q (wrap64 ((bs : Int) * 2)))) (fun r => Srt r ∧ Cls orig r) := by
  intro Bs Ds last h1 hB hD hl sl hlen hcls
  have hlen' := hlen
  simp only [List.length_append] at hlen'
  have e1 : wrap64 ((Ds.flatten.length : Int) + (bs : Int)) = ((Ds.flatten.length + bs : Nat) : Int) := by rw [w64 (by omega) (by omega)]; omega
  rw [w2, e1]
  match Bs, h1 with
  | [], _ =>
   refine EvP.neg (by simp only [List.flatten_nil, List.flatten_cons, List.append_nil, List.length_nil, List.length_append] at hlen'; omega) ?_
   rw [List.flatten_nil, List.append_nil] at hlen hcls ⊢
   exact fin Ds last hD (by omega) sl hlen hcls
  | [X], _ =>
   have hX := hB X (by simp)
   have eX : [X].flatten = X := by simp
   rw [eX] at hlen hlen' hcls ⊢
   refine EvP.split (fun hc => ?_) (fun hc => ?_)
   ·
    have h := symMerge_ev (X.length + last.length) Ds.flatten X last [] (Nat.le_refl _) (by intro e; rw [e] at hX; simp at hX; omega) (by intro e; rw [e, List.length_nil] at hlen'; omega) hX.2 sl (by rw [List.length_nil]; omega) (Ds.flatten.length : Int) ((Ds.flatten.length + bs : Nat) : Int) (orig.length : Int) q rfl (by rw [hX.1]) (by omega)
    rw [List.append_nil] at h
    refine EvP.bind h ?_
    rintro _ ⟨Z, rfl, m⟩
    rw [List.append_nil]
    refine fin Ds Z hD (by rw [m.2.2, hX.1]; omega) m.1 (by rw [List.length_append, m.2.2]; omega) ?_
    refine hcls.trans ?_
    rw [List.append_assoc]
    exact (Cls.refl _).app m.2.1
   ·
    obtain rfl : last = [] := List.eq_nil_of_length_eq_zero (by omega)
    rw [List.append_nil] at hlen hcls ⊢
    exact fin Ds X hD (by omega) hX.2 hlen hcls
 induction N with
 | zero =>
  intro Bs Ds last h1 hB hD hl sl hlen hcls
  have hlen' := hlen
  simp only [List.length_append] at hlen'
  obtain rfl : Bs = [] := List.eq_nil_of_length_eq_zero (by omega)
  refine EvP.step (fun k => by rw [impl_Entry_69.l2]) (EvP.neg (by simp only [List.flatten_nil, List.flatten_cons, List.append_nil, List.length_nil, List.length_append] at hlen'; omega) ?_)
  exact tail [] Ds last (by simp) hB hD hl sl hlen hcls
 | succ N ih =>
  intro Bs Ds last h1 hB hD hl sl hlen hcls
  have hlen' := hlen
  simp only [List.length_append] at hlen'
  refine EvP.step (fun k => by rw [impl_Entry_69.l2]) ?_
  match Bs, h1 with
  | [], _ => exact EvP.neg (by simp only [List.flatten_nil, List.flatten_cons, List.append_nil, List.length_nil, List.length_append] at hlen'; omega) (tail [] Ds last (by simp) hB hD hl sl hlen hcls)
  | [X], _ =>
   have hX := hB X (by simp)
   exact EvP.neg (by simp only [List.flatten_nil, List.flatten_cons, List.append_nil, List.length_nil, List.length_append] at hlen'; omega) (tail [X] Ds last (by simp) hB hD hl sl hlen hcls)
  | X :: Y :: Bs, h1 =>
   have hX := hB X (by simp)
   have hY := hB Y (by simp)
   have hlen2 := hlen'
   simp only [List.flatten_cons, List.length_append] at hlen2
   refine EvP.pos (by omega) ?_
   have ed : Ds.flatten ++ (X :: Y :: Bs).flatten ++ last = Ds.flatten ++ X ++ Y ++ (Bs.flatten ++ last) := by simp
   have e1 : wrap64 ((Ds.flatten.length : Int) + (bs : Int)) = ((Ds.flatten.length + X.length : Nat) : Int) := by rw [w64 (by omega) (by omega), hX.1]; omega
   have e2 : ((Ds.flatten.length + 2 * bs : Nat) : Int) = ((Ds.flatten.length + X.length + Y.length : Nat) : Int) := by rw [hX.1, hY.1]; omega
   have h := symMerge_ev (X.length + Y.length) Ds.flatten X Y (Bs.flatten ++ last) (Nat.le_refl _) (by intro e; rw [e] at hX; simp at hX; omega) (by intro e; rw [e] at hY; simp at hY; omega) hX.2 hY.2 (by simp only [List.length_append]; omega) (Ds.flatten.length : Int) ((Ds.flatten.length + X.length : Nat) : Int) ((Ds.flatten.length + X.length + Y.length : Nat) : Int) q rfl rfl rfl
   rw [ed, e1, w2', e2]
   refine EvP.bind h ?_
   rintro _ ⟨Z, rfl, m⟩
   have lZ : Z.length = 2 * bs := by rw [m.2.2, hX.1, hY.1]; omega
   have lDZ : (Ds ++ [Z]).flatten.length = Ds.flatten.length + 2 * bs := by rw [List.flatten_append, List.length_append, List.flatten_cons, List.flatten_nil, List.append_nil, lZ]
   have step := ih Bs (Ds ++ [Z]) last (by simp at h1; omega) (fun C hC => hB C (by simp [hC])) (by
    intro C hC
    rcases List.mem_append.1 hC with hC | hC
    ·
     exact hD C hC
    ·
     obtain rfl : C = Z := by simpa using hC
     exact ⟨lZ, m.1⟩) hl sl (by rw [List.length_append, List.length_append, lDZ]; omega) (by
    refine hcls.trans ?_
    rw [ed]
    have := ((Cls.refl Ds.flatten).app m.2.1).app (Cls.refl (Bs.flatten ++ last))
    simpa using this)
   have e3 : Ds.flatten ++ Z ++ (Bs.flatten ++ last) = (Ds ++ [Z]).flatten ++ Bs.flatten ++ last := by simp
   have e4 : ((Ds.flatten.length + X.length + Y.length : Nat) : Int) = ((Ds ++ [Z]).flatten.length : Int) := by rw [lDZ, hX.1, hY.1]; omega
   have e5 : wrap64 (((Ds ++ [Z]).flatten.length : Int) + ((2 * bs : Nat) : Int)) = (((Ds ++ [Z]).flatten.length + 2 * bs : Nat) : Int) := by
    clear w2 w2' e1 tail ih h step
    rw [lDZ, w64 (by omega) (by omega)]; omega
   rw [e3, e4, e5]
   exact step
theorem stable_l1 (orig : List S48) (q : Int) (hn : orig.length ≤ 1048576) : ∀ (N bs : Nat) (Bs : List (List S48)) (last : List S48), orig.length - bs ≤ N → 1 ≤ bs → bs ≤ 4194304 → Sorted bs Bs → last.length < bs → Srt last → (Bs.flatten ++ last).length = orig.length → Cls orig (Bs.flatten ++ last) →
  EvP (fun k => impl_Entry_69.l1 k (Bs.flatten ++ last) (orig.length : Int) q (bs : Int)) (fun r => Srt r ∧ Cls orig r) := by
 intro N
 have small : ∀ (bs : Nat) (Bs : List (List S48)) (last : List S48), 1 ≤ bs → ¬ bs < orig.length → Sorted bs Bs → last.length < bs → Srt last → (Bs.flatten ++ last).length = orig.length → Cls orig (Bs.flatten ++ last) →
   EvP (fun k => impl_Entry_69.l1 k (Bs.flatten ++ last) (orig.length : Int) q (bs : Int)) (fun r => Srt r ∧ Cls orig r) := by
  intro bs Bs last hb hge hB hl sl hlen hcls
  refine EvP.step (fun k => by rw [impl_Entry_69.l1]) (EvP.neg (by omega) (EvP.now ⟨?_, hcls⟩))
  simp only [List.length_append] at hlen
  cases Bs with
  | nil => simpa using sl
  | cons X Bs =>
   have hX := hB X (by simp)
   simp only [List.flatten_cons, List.length_append] at hlen
   obtain rfl : last = [] := List.eq_nil_of_length_eq_zero (by omega)
   cases Bs with
   | nil => simpa using hX.2
   | cons Y Bs =>
    have hY := hB Y (by simp)
    simp only [List.flatten_cons, List.length_append] at hlen
    omega
 induction N with
 | zero =>
  intro bs Bs last h0 hb hb2 hB hl sl hlen hcls
  exact small bs Bs last hb (by omega) hB hl sl hlen hcls
 | succ N ih =>
  intro bs Bs last h0 hb hb2 hB hl sl hlen hcls
  by_cases hlt : bs < orig.length
  ·
   refine EvP.step (fun k => by rw [impl_Entry_69.l1]) (EvP.pos (by omega) ?_)
   have w2' : wrap64 (2 * (bs : Int)) = ((2 * bs : Nat) : Int) := by rw [w64 (by omega) (by omega)]; omega
   rw [w2']
   have h := stable_l2 orig q bs hb hn hlt (fun Ds last' hD hl' sl' hlen' hcls' => ih (2 * bs) Ds last' (by omega) (by omega) (by omega) hD hl' sl' hlen' hcls') Bs.length Bs [] last (Nat.le_refl _) hB (fun C hC => by simp at hC) hl sl (by simpa using hlen) (by simpa using hcls)
   simpa using h
  ·
   exact small bs Bs last hb hlt hB hl sl hlen hcls
theorem stable_l0 (orig : List S48) (q : Int) (hn : orig.length ≤ 1048576) : ∀ (N : Nat) (rest : List S48) (Bs : List (List S48)), rest.length ≤ N → Sorted 20 Bs → (Bs.flatten ++ rest).length = orig.length → Cls orig (Bs.flatten ++ rest) →
  EvP (fun k => impl_Entry_69.l0 k (Bs.flatten ++ rest) (orig.length : Int) q 20 (Bs.flatten.length : Int) ((Bs.flatten.length + 20 : Nat) : Int)) (fun r => Srt r ∧ Cls orig r) := by
 intro N
 have few : ∀ (rest : List S48) (Bs : List (List S48)), rest.length < 20 → Sorted 20 Bs → (Bs.flatten ++ rest).length = orig.length → Cls orig (Bs.flatten ++ rest) →
   EvP (fun k => impl_Entry_69.l0 k (Bs.flatten ++ rest) (orig.length : Int) q 20 (Bs.flatten.length : Int) ((Bs.flatten.length + 20 : Nat) : Int)) (fun r => Srt r ∧ Cls orig r) := by
  intro rest Bs h0 hB hlen hcls
  have hlen' := hlen
  simp only [List.length_append] at hlen'
  have st := isort_stable rest
  refine EvP.step (fun k => by rw [impl_Entry_69.l0]) (EvP.neg (by omega) ?_)
  have h := insSort_ev Bs.flatten rest [] (Bs.flatten.length : Int) (orig.length : Int) q rfl (by omega) (by rw [List.length_nil]; omega)
  rw [List.append_nil, List.append_nil] at h
  refine EvP.bind h ?_
  rintro _ rfl
  exact stable_l1 orig q hn orig.length 20 Bs (isort rest) (by omega) (by omega) (by omega) hB (by rw [isort_length]; exact h0) st.1 (by rw [List.length_append, isort_length]; omega) (hcls.trans ((Cls.refl _).app st.2))
 induction N with
 | zero =>
  intro rest Bs h0 hB hlen hcls
  exact few rest Bs (by omega) hB hlen hcls
 | succ N ih =>
  intro rest Bs h0 hB hlen hcls
  by_cases hlt : rest.length < 20
  ·
   exact few rest Bs hlt hB hlen hcls
  ·
   have hlen' := hlen
   simp only [List.length_append] at hlen'
   have lt : (rest.take 20).length = 20 := by simp; omega
   have ld : (rest.drop 20).length = rest.length - 20 := by simp
   have st := isort_stable (rest.take 20)
   have er : Bs.flatten ++ rest = Bs.flatten ++ rest.take 20 ++ rest.drop 20 := by rw [List.append_assoc, List.take_append_drop]
   refine EvP.step (fun k => by rw [impl_Entry_69.l0]) (EvP.pos (by omega) ?_)
   have h := insSort_ev Bs.flatten (rest.take 20) (rest.drop 20) (Bs.flatten.length : Int) ((Bs.flatten.length + 20 : Nat) : Int) q rfl (by rw [lt]) (by rw [lt, ld]; omega)
   rw [← er] at h
   refine EvP.bind h ?_
   rintro _ rfl
   have li : (isort (rest.take 20)).length = 20 := by rw [isort_length, lt]
   have e2 : (Bs ++ [isort (rest.take 20)]).flatten.length = Bs.flatten.length + 20 := by rw [List.flatten_append, List.length_append, List.flatten_cons, List.flatten_nil, List.append_nil, li]
   have step := ih (rest.drop 20) (Bs ++ [isort (rest.take 20)]) (by omega) (by
    intro C hC
    rcases List.mem_append.1 hC with hC | hC
    ·
     exact hB C hC
    ·
     obtain rfl : C = isort (rest.take 20) := by simpa using hC
     exact ⟨li, st.1⟩) (by rw [List.length_append, e2]; omega) (by
    refine hcls.trans ?_
    rw [er]
    have := ((Cls.refl Bs.flatten).app st.2).app (Cls.refl (rest.drop 20))
    simpa using this)
   have e1 : Bs.flatten ++ isort (rest.take 20) ++ rest.drop 20 = (Bs ++ [isort (rest.take 20)]).flatten ++ rest.drop 20 := by simp
   have e3 : wrap64 (((Bs.flatten.length + 20 : Nat) : Int) + 20) = (((Bs ++ [isort (rest.take 20)]).flatten.length + 20 : Nat) : Int) := by rw [w64 (by omega) (by omega), e2]; omega
   have e4 : ((Bs.flatten.length + 20 : Nat) : Int) = ((Bs ++ [isort (rest.take 20)]).flatten.length : Int) := by rw [e2]
   rw [e1, e3, e4]
   exact step
/-- The whole sort. -/
theorem sortStable_ev (xs : List S48) (n : Int) (hx : xs.length ≤ 1048576) : EvP (fun k => impl_Entry_47.f k xs n) (· = isort xs) := by
 unfold impl_Entry_47.f impl_Entry_69.f
 refine EvP.bind (P := (· = isort xs)) ?_ (by rintro _ rfl; exact EvP.now rfl)
 have h := stable_l0 xs n hx xs.length xs [] (Nat.le_refl _) (fun C hC => by simp at hC) (by simp) (by simpa using Cls.refl xs)
 refine EvP.mono (P := fun r => Srt r ∧ Cls xs r) (by simpa using h) ?_
 rintro r ⟨h1, h2⟩
 have st := isort_stable xs
 exact h1.uniq st.1 (h2.symm.trans st.2)
theorem isort_of_srt {xs : List S48} (h : Srt xs) : isort xs = xs := (isort_stable xs).1.uniq h (isort_stable xs).2.symm

/-! ### Entries right and in order; their marks -/
def rightFrom : Option S48 → List S48 → Bool
 | _, [] => true
 | p, x :: r => entB x.f0 x.f1 x.f2 x.f3 x.f4 && ((match p with | none => true | some y => lessB y.f0 y.f1 x.f0 x.f1) && rightFrom (some x) r)
def rightB (xs : List S48) : Bool := rightFrom none xs
def KeysSmall (xs : List S48) : Prop := ∀ x ∈ xs, x.f0.size ≤ 140737488351232
theorem last_snoc (pre : List S48) (x : S48) : (pre ++ [x]).getLast? = some x := by simp
theorem rd_prev (pre rest : List S48) (y : S48) (h : pre.getLast? = some y) (h0 : 0 < pre.length) : rd_T48 (pre ++ rest) ((pre.length : Int) - 1) = y := by
 obtain ⟨ini, rfl⟩ := List.getLast?_eq_some_iff.1 h
 have e : (((ini ++ [y]).length : Int) - 1) = (ini.length : Int) := by simp
 rw [e, List.append_assoc]
 exact rd_midE ini rest y
theorem spec_l4Right_l0 (xs : List S48) (hx : xs.length ≤ 1048576) (hk : KeysSmall xs) : ∀ (rest pre : List S48), xs = pre ++ rest → EvP (fun k => spec_l4Right.l0 k xs (pre.length : Int)) (· = rightFrom pre.getLast? rest) := by
 intro rest
 induction rest with
 | nil =>
  intro pre e
  refine EvP.step (fun k => by rw [spec_l4Right.l0]) (EvP.neg (by simp [e]) (EvP.now (by cases pre.getLast? <;> rfl)))
 | cons x rest ih =>
  intro pre e
  have hl : xs.length = pre.length + (rest.length + 1) := by rw [e]; simp
  have hr : rd_T48 xs (pre.length : Int) = x := by rw [e]; exact rd_midE pre rest x
  refine EvP.step (fun k => by rw [spec_l4Right.l0]) (EvP.pos (by omega) (EvP.pos (by omega) ?_))
  rw [hr]
  refine EvP.bind (spec_EntryOk_ev _ _ _ _ _ (hk x (by rw [e]; simp))) ?_
  rintro _ rfl
  have e2 : wrap64 ((pre.length : Int) + 1) = ((pre ++ [x]).length : Int) := by rw [w64 (by omega) (by omega)]; simp
  have step := ih (pre ++ [x]) (by rw [e]; simp)
  rw [last_snoc] at step
  refine EvP.split (fun hb => EvP.split (fun hpos => ?_) (fun hpos => ?_)) (fun hb => EvP.now ?_)
  ·
   have hp : 0 < pre.length := by omega
   obtain ⟨y, hy⟩ : ∃ y, pre.getLast? = some y := by
    cases h : pre.getLast? with
    | none => rw [List.getLast?_eq_none_iff] at h; rw [h] at hp; simp at hp
    | some y => exact ⟨y, rfl⟩
   have e3 : wrap64 ((pre.length : Int) - 1) = (pre.length : Int) - 1 := w64 (by omega) (by omega)
   have hr2 : rd_T48 xs ((pre.length : Int) - 1) = y := by rw [e]; exact rd_prev pre _ y hy hp
   rw [e3, hr2, spec_EntryLess_eq]
   simp only [Option.bind_some]
   refine EvP.pos (by omega) (EvP.pos (by omega) (EvP.split (fun hc => ?_) (fun hc => EvP.now ?_)))
   ·
    rw [e2]
    refine step.mono ?_
    rintro _ rfl
    simp [rightFrom, hb, hy, hc]
   ·
    simp [rightFrom, hy, hc]
  ·
   obtain rfl : pre = [] := List.eq_nil_of_length_eq_zero (by omega)
   rw [e2]
   refine step.mono ?_
   rintro _ rfl
   simp [rightFrom, hb]
  ·
   simp [rightFrom, hb]
theorem spec_l4Right_ev (xs : List S48) (hx : xs.length ≤ 1048576) (hk : KeysSmall xs) : EvP (fun k => spec_l4Right.f k xs) (· = rightB xs) := spec_l4Right_l0 xs hx hk xs [] rfl
theorem impl_inOrder_l0 (xs : List S48) (hx : xs.length ≤ 1048576) (hk : KeysSmall xs) : ∀ (rest pre : List S48), xs = pre ++ rest → EvP (fun k => impl_inOrder.l0 k xs xs (xs.length : Int) (pre.length : Int)) (· = rightFrom pre.getLast? rest) := by
 intro rest
 induction rest with
 | nil =>
  intro pre e
  refine EvP.step (fun k => by rw [impl_inOrder.l0]) (EvP.neg (by simp [e]) (EvP.now (by cases pre.getLast? <;> rfl)))
 | cons x rest ih =>
  intro pre e
  have hl : xs.length = pre.length + (rest.length + 1) := by rw [e]; simp
  have hr : rd_T48 xs (pre.length : Int) = x := by rw [e]; exact rd_midE pre rest x
  refine EvP.step (fun k => by rw [impl_inOrder.l0]) (EvP.pos (by omega) (EvP.pos (by omega) (EvP.pos (by omega) ?_)))
  rw [hr]
  refine EvP.bind (impl_EntryOk_ev _ _ _ _ _ (hk x (by rw [e]; simp))) ?_
  rintro _ rfl
  have e2 : wrap64 ((pre.length : Int) + 1) = ((pre ++ [x]).length : Int) := by rw [w64 (by omega) (by omega)]; simp
  have step := ih (pre ++ [x]) (by rw [e]; simp)
  rw [last_snoc] at step
  refine EvP.split (fun hb => EvP.split (fun hpos => ?_) (fun hpos => ?_)) (fun hb => EvP.now ?_)
  ·
   have hp : 0 < pre.length := by omega
   obtain ⟨y, hy⟩ : ∃ y, pre.getLast? = some y := by
    cases h : pre.getLast? with
    | none => rw [List.getLast?_eq_none_iff] at h; rw [h] at hp; simp at hp
    | some y => exact ⟨y, rfl⟩
   have e3 : wrap64 ((pre.length : Int) - 1) = (pre.length : Int) - 1 := w64 (by omega) (by omega)
   have hr2 : rd_T48 xs ((pre.length : Int) - 1) = y := by rw [e]; exact rd_prev pre _ y hy hp
   rw [e3, hr2, impl_EntryLess_eq]
   simp only [Option.bind_some]
   refine EvP.pos (by omega) (EvP.pos (by omega) (EvP.split (fun hc => ?_) (fun hc => EvP.now ?_)))
   ·
    rw [e2]
    refine step.mono ?_
    rintro _ rfl
    simp [rightFrom, hb, hy, hc]
   ·
    simp [rightFrom, hy, hc]
  ·
   obtain rfl : pre = [] := List.eq_nil_of_length_eq_zero (by omega)
   rw [e2]
   refine step.mono ?_
   rintro _ rfl
   simp [rightFrom, hb]
  ·
   simp [rightFrom, hb]
theorem impl_inOrder_ev (xs : List S48) (hx : xs.length ≤ 1048576) (hk : KeysSmall xs) : EvP (fun k => impl_inOrder.f k xs) (· = rightB xs) := impl_inOrder_l0 xs hx hk xs [] rfl
theorem right_strict : ∀ (xs : List S48) (p : Option S48), rightFrom p xs = true → xs.Pairwise (fun x y => ltE x y) ∧ ∀ y, p = some y → ∀ x ∈ xs, ltE y x
 | [], _, _ => ⟨List.Pairwise.nil, fun _ _ x hx => by simp at hx⟩
 | x :: xs, p, h => by
  simp only [rightFrom, Bool.and_eq_true] at h
  obtain ⟨h1, h2, h3⟩ := h
  obtain ⟨i1, i2⟩ := right_strict xs (some x) h3
  refine ⟨List.pairwise_cons.2 ⟨i2 x rfl, i1⟩, ?_⟩
  rintro y rfl z hz
  have hyx : ltE y x := h2
  rcases List.mem_cons.1 hz with rfl | hz
  ·
   exact hyx
  ·
   exact ltE_tr hyx (i2 x rfl z hz)
theorem right_srt {xs : List S48} (h : rightB xs = true) : Srt xs := (right_strict xs none h).1.imp (fun g => ltE_asym g)

/-! ### The marks of many keys; a run made -/
def maskAll (xs : List S48) : Nat := xs.foldl (fun m x => m ||| maskN x.f0) 0
theorem maskAll_snoc (xs : List S48) (x : S48) : maskAll (xs ++ [x]) = maskAll xs ||| maskN x.f0 := by simp [maskAll]
theorem maskAll_lt (xs : List S48) : maskAll xs < 65536 := by
 have key : ∀ (ys : List S48) (m : Nat), m < 65536 → ys.foldl (fun m x => m ||| maskN x.f0) m < 65536 := by
  intro ys
  induction ys with
  | nil => intro m h; exact h
  | cons y ys ih => intro m h; exact ih _ (Nat.or_lt_two_pow (n := 16) h (maskN_lt y.f0))
 exact key xs 0 (by omega)
theorem spec_l4Mask_l0 (xs : List S48) (hx : xs.length ≤ 1048576) (hk : KeysSmall xs) : ∀ (rest pre : List S48), xs = pre ++ rest → EvP (fun k => spec_l4Mask.l0 k xs (maskAll pre : Int) (pre.length : Int)) (· = (maskAll xs : Int)) := by
 intro rest
 induction rest with
 | nil =>
  intro pre e
  refine EvP.step (fun k => by rw [spec_l4Mask.l0]) (EvP.neg (by simp [e]) (EvP.now (by simp [e])))
 | cons x rest ih =>
  intro pre e
  have hl : xs.length = pre.length + (rest.length + 1) := by rw [e]; simp
  have hr : rd_T48 xs (pre.length : Int) = x := by rw [e]; exact rd_midE pre rest x
  refine EvP.step (fun k => by rw [spec_l4Mask.l0]) (EvP.pos (by omega) (EvP.pos (by omega) ?_))
  rw [hr]
  refine EvP.bind (spec_KeyMask_ev _ (hk x (by rw [e]; simp))) ?_
  rintro _ rfl
  refine EvP.bind (spec_l4Or_ev _ _ (maskAll_lt pre) (maskN_lt x.f0)) ?_
  rintro _ rfl
  have e2 : wrap64 ((pre.length : Int) + 1) = ((pre ++ [x]).length : Int) := by rw [w64 (by omega) (by omega)]; simp
  have step := ih (pre ++ [x]) (by rw [e]; simp)
  rw [maskAll_snoc] at step
  rw [e2]
  exact step
theorem spec_l4Mask_ev (xs : List S48) (hx : xs.length ≤ 1048576) (hk : KeysSmall xs) : EvP (fun k => spec_l4Mask.f k xs) (· = (maskAll xs : Int)) := spec_l4Mask_l0 xs hx hk xs [] rfl
def runB (xs : List S48) (m : Int) : Bool := decide (1 ≤ xs.length) && (decide (xs.length ≤ 150) && (rightB xs && decide (m = (maskAll xs : Int))))
theorem spec_RunOk_ev (xs : List S48) (m : Int) (hx : xs.length ≤ 1048576) (hk : KeysSmall xs) : EvP (fun k => spec_RunOk.f k xs m) (· = runB xs m) := by
 unfold spec_RunOk.f runB
 refine EvP.split (fun h1 => EvP.split (fun h2 => ?_) (fun h2 => EvP.now ?_)) (fun h1 => EvP.now ?_)
 ·
  refine EvP.bind (spec_l4Right_ev xs hx hk) ?_
  rintro _ rfl
  refine EvP.split (fun h3 => ?_) (fun h3 => EvP.now (by simp [h3]))
  refine EvP.bind (spec_l4Mask_ev xs hx hk) ?_
  rintro _ rfl
  refine EvP.now ?_
  rw [decide_eq_true (show 1 ≤ xs.length by omega), decide_eq_true (show xs.length ≤ 150 by omega), h3]
  rfl
 ·
  rw [decide_eq_false (show ¬ xs.length ≤ 150 by omega)]
  simp
 ·
  rw [decide_eq_false (show ¬ 1 ≤ xs.length by omega)]
  rfl
theorem impl_RunOf_l0 (xs ys : List S48) (hx : xs.length ≤ 1048576) (hk : KeysSmall xs) : ∀ (rest pre : List S48), xs = pre ++ rest → EvP (fun k => impl_RunOf.l0 k ys (maskAll pre : Int) xs (xs.length : Int) (pre.length : Int)) (· = (ys, (maskAll xs : Int), true)) := by
 intro rest
 induction rest with
 | nil =>
  intro pre e
  refine EvP.step (fun k => by rw [impl_RunOf.l0]) (EvP.neg (by simp [e]) (EvP.now (by simp [e])))
 | cons x rest ih =>
  intro pre e
  have hl : xs.length = pre.length + (rest.length + 1) := by rw [e]; simp
  have hr : rd_T48 xs (pre.length : Int) = x := by rw [e]; exact rd_midE pre rest x
  refine EvP.step (fun k => by rw [impl_RunOf.l0]) (EvP.pos (by omega) (EvP.pos (by omega) (EvP.pos (by omega) ?_)))
  rw [hr]
  refine EvP.bind (impl_KeyMask_ev _ (hk x (by rw [e]; simp))) ?_
  rintro _ rfl
  have h1 := maskAll_lt pre
  have h2 := maskN_lt x.f0
  have e2 : wrap64 ((pre.length : Int) + 1) = ((pre ++ [x]).length : Int) := by rw [w64 (by omega) (by omega)]; simp
  have step := ih (pre ++ [x]) (by rw [e]; simp)
  rw [maskAll_snoc, ← or64 _ _ (Nat.lt_trans h1 (by decide)) (Nat.lt_trans h2 (by decide))] at step
  rw [e2]
  exact step
theorem small_isort {xs : List S48} (h : KeysSmall xs) : KeysSmall (isort xs) := fun x hx => h x ((isort_stable xs).2.symm.mem hx)
def madeB (xs : List S48) : Bool := decide (1 ≤ xs.length) && (decide (xs.length ≤ 150) && rightB (isort xs))
def made (xs : List S48) : List S48 × Int × Bool := if madeB xs = true then (isort xs, (maskAll (isort xs) : Int), true) else ([], 0, false)
theorem impl_RunOf_ev (xs : List S48) (hx : xs.length ≤ 1048576) (hk : KeysSmall xs) : EvP (fun k => impl_RunOf.f k xs) (· = made xs) := by
 have j0 : ∀ b : Bool, b = (decide (xs.length < 1) || decide (150 < xs.length)) → EvP (fun k => impl_RunOf.j0 k xs b) (· = made xs) := by
  intro b hb
  refine EvP.step (fun k => by rw [impl_RunOf.j0]) (EvP.split (fun h => EvP.now ?_) (fun h => ?_))
  ·
   rw [h] at hb
   have hor : xs.length < 1 ∨ 150 < xs.length := by simpa using hb.symm
   have hm : madeB xs = false := by
    unfold madeB
    rcases hor with g | g
    ·
     rw [decide_eq_false (show ¬ 1 ≤ xs.length by omega)]; rfl
    ·
     rw [decide_eq_false (show ¬ xs.length ≤ 150 by omega)]; simp
   unfold made
   rw [hm]
   rfl
  ·
   have hb' : b = false := by simpa using h
   rw [hb'] at hb
   have hand : ¬ xs.length < 1 ∧ ¬ 150 < xs.length := by simpa using hb.symm
   obtain ⟨h1, h2⟩ := hand
   refine EvP.pos (by simp; omega) ?_
   simp only [Option.bind_some, List.nil_append]
   refine EvP.bind (sortStable_ev xs _ hx) ?_
   rintro _ rfl
   have hl := isort_length xs
   refine EvP.bind (impl_inOrder_ev (isort xs) (by omega) (small_isort hk)) ?_
   rintro _ rfl
   have hm : madeB xs = rightB (isort xs) := by
    unfold madeB
    rw [decide_eq_true (show 1 ≤ xs.length by omega), decide_eq_true (show xs.length ≤ 150 by omega)]
    rfl
   unfold made
   rw [hm]
   refine EvP.split (fun hr => ?_) (fun hr => EvP.now (by rw [if_neg hr]))
   rw [if_pos hr]
   have h := impl_RunOf_l0 (isort xs) (isort xs) (by omega) (small_isort hk) (isort xs) [] rfl
   rw [hl] at h
   exact h
 unfold impl_RunOf.f
 refine EvP.split (fun h => j0 _ ?_) (fun h => j0 _ ?_)
 ·
  rw [decide_eq_true (show xs.length < 1 by omega)]; rfl
 ·
  rw [decide_eq_false (show ¬ xs.length < 1 by omega), Bool.false_or, Bool.eq_iff_iff, decide_eq_true_iff, decide_eq_true_iff]
  omega
theorem entNe (x y : S48) : (!((x.f0.toList) == (y.f0.toList)) || (!((x.f1) == (y.f1)) || (!((x.f2) == (y.f2)) || (!((x.f3.toList) == (y.f3.toList)) || (!((x.f4) == (y.f4))))))) = !decide (entKey x = entKey y) := by
 unfold entKey
 by_cases c1 : x.f0.toList = y.f0.toList <;> by_cases c2 : x.f1 = y.f1 <;> by_cases c3 : x.f2 = y.f2 <;> by_cases c4 : x.f3.toList = y.f3.toList <;> by_cases c5 : x.f4 = y.f4 <;> simp [c1, c2, c3, c4, c5]
theorem impl_Entry_l0 (xs ys : List S48) (hx : xs.length ≤ 1048576) : ∀ (r r' pre pre' : List S48), xs = pre ++ r → ys = pre' ++ r' → pre.length = pre'.length → r.length = r'.length →
  EvP (fun k => impl_Entry_67.l0 k xs ys (xs.length : Int) (pre.length : Int)) (· = decide (r.map entKey = r'.map entKey)) := by
 intro r
 induction r with
 | nil =>
  intro r' pre pre' e e' hl hr
  obtain rfl : r' = [] := List.eq_nil_of_length_eq_zero (by simpa using hr.symm)
  exact EvP.step (fun k => by rw [impl_Entry_67.l0]) (EvP.neg (by simp [e]) (EvP.now (by simp)))
 | cons x r ih =>
  intro r' pre pre' e e' hl hr
  cases r' with
  | nil => simp at hr
  | cons y r' =>
   have h1 : xs.length = pre.length + (r.length + 1) := by rw [e]; simp
   have h2 : ys.length = pre'.length + (r'.length + 1) := by rw [e']; simp
   refine EvP.step (fun k => by rw [impl_Entry_67.l0]) (EvP.pos (by omega) (EvP.pos (by omega) (EvP.pos (by omega) (EvP.pos (by simp at hr; omega) ?_))))
   have hrx : rd_T48 xs (pre.length : Int) = x := by rw [e]; exact rd_midE pre r x
   have hry : rd_T48 ys (pre.length : Int) = y := by rw [e', hl]; exact rd_midE pre' r' y
   rw [hrx, hry, entNe]
   have e2 : wrap64 ((pre.length : Int) + 1) = ((pre ++ [x]).length : Int) := by rw [w64 (by omega) (by omega)]; simp
   have step := ih r' (pre ++ [x]) (pre' ++ [y]) (by rw [e]; simp) (by rw [e']; simp) (by simp [hl]) (by simpa using hr)
   rw [← e2] at step
   by_cases c : entKey x = entKey y
   ·
    refine EvP.neg (by simp [c]) (step.mono ?_)
    rintro _ rfl
    simp [c]
   ·
    exact EvP.pos (by simp [c]) (EvP.now (by simp [c]))
theorem impl_Entry_ev (xs ys : List S48) (hx : xs.length ≤ 1048576) : EvP (fun k => impl_Entry_67.f k xs ys) (· = decide (xs.map entKey = ys.map entKey)) := by
 unfold impl_Entry_67.f
 refine EvP.split (fun h => ?_) (fun h => EvP.now ?_)
 ·
  exact impl_Entry_l0 xs ys hx xs ys [] [] rfl rfl rfl (by omega)
 ·
  have : xs.map entKey ≠ ys.map entKey := fun he => h (by have := congrArg List.length he; simp at this; omega)
  simp [this]
def runSameB (xs : List S48) (a : Int) (ys : List S48) (b : Int) : Bool := decide (a = b ∧ xs.map entKey = ys.map entKey)
theorem impl_RunSame_ev (xs : List S48) (a : Int) (ys : List S48) (b : Int) (hx : xs.length ≤ 1048576) : EvP (fun k => impl_RunSame.f k xs a ys b) (· = runSameB xs a ys b) := by
 unfold impl_RunSame.f runSameB
 refine EvP.split (fun h => EvP.bind (impl_Entry_ev xs ys hx) ?_) (fun h => EvP.now (by simp [h]))
 rintro _ rfl
 exact EvP.now (by simp [h])
theorem entKey_inj {x y : S48} (h : entKey x = entKey y) : x = y := by
 cases x with
 | mk a b c d e =>
  cases y with
  | mk a' b' c' d' e' =>
   simp only [entKey, Prod.mk.injEq] at h
   obtain ⟨h1, h2, h3, h4, h5⟩ := h
   rw [ByteArray.toList_eq, ByteArray.toList_eq] at h1 h4
   have e1 : a = a' := ByteArray.ext (Array.toList_inj.1 h1)
   have e4 : d = d' := ByteArray.ext (Array.toList_inj.1 h4)
   rw [e1, h2, h3, e4, h5]
theorem entKeys_inj : ∀ {xs ys : List S48}, xs.map entKey = ys.map entKey → xs = ys
 | [], [], _ => rfl
 | [], _ :: _, h => by simp at h
 | _ :: _, [], h => by simp at h
 | x :: xs, y :: ys, h => by
  simp only [List.map_cons, List.cons.injEq] at h
  rw [entKey_inj h.1, entKeys_inj h.2]
theorem impl_RunOk_ev (xs : List S48) (m : Int) (hx : xs.length ≤ 1048576) (hk : KeysSmall xs) : EvP (fun k => impl_RunOk.f k xs m) (· = runB xs m) := by
 unfold impl_RunOk.f
 refine EvP.bind (impl_RunOf_ev xs hx hk) ?_
 rintro _ rfl
 have hl := isort_length xs
 unfold made
 by_cases hm : madeB xs = true
 ·
  rw [if_pos hm]
  refine EvP.pos rfl (EvP.bind (impl_RunSame_ev (isort xs) _ xs m (by omega)) ?_)
  rintro _ rfl
  refine EvP.now ?_
  unfold madeB at hm
  simp only [Bool.and_eq_true, decide_eq_true_eq] at hm
  obtain ⟨h1, h2, h3⟩ := hm
  unfold runSameB runB
  rw [decide_eq_true h1, decide_eq_true h2, Bool.true_and, Bool.true_and, Bool.eq_iff_iff, Bool.and_eq_true, decide_eq_true_eq, decide_eq_true_eq]
  constructor
  ·
   rintro ⟨e1, e2⟩
   have e3 := entKeys_inj e2
   rw [e3] at h3 e1
   exact ⟨h3, e1.symm⟩
  ·
   rintro ⟨g1, g2⟩
   have e3 := isort_of_srt (right_srt g1)
   rw [e3]
   exact ⟨g2.symm, rfl⟩
 ·
  rw [if_neg hm]
  refine EvP.neg (by simp) (EvP.now ?_)
  have : runB xs m ≠ true := by
   intro hr
   apply hm
   unfold runB at hr
   simp only [Bool.and_eq_true, decide_eq_true_eq] at hr
   unfold madeB
   rw [decide_eq_true hr.1, decide_eq_true hr.2.1, isort_of_srt (right_srt hr.2.2.1), hr.2.2.1]
   rfl
  cases h : runB xs m
  ·
   rfl
  ·
   exact absurd h this
theorem eqRun_ev (xs : List S48) (a : Int) (ys : List S48) (b : Int) (hx : xs.length ≤ 1048576) : EvP (fun k => laws_eqRun.f k xs a ys b) (· = runSameB xs a ys b) := by
 unfold laws_eqRun.f runSameB
 refine EvP.bind (eqEntryS_ev xs ys hx) ?_
 rintro _ rfl
 by_cases c : xs.map entKey = ys.map entKey
 ·
  refine EvP.pos (by simp [c]) (EvP.split (fun h => EvP.now ?_) (fun h => EvP.now ?_))
  ·
   simp [h, c]
  ·
   simp [h]
 ·
  exact EvP.neg (by simp [c]) (EvP.now (by simp [c]))
theorem runSame_refl (xs : List S48) (a : Int) : runSameB xs a xs a = true := by simp [runSameB]

theorem FnExactRunOk (l0_0 : List S57) (a0_1 : Int)
  (g0 : (l0_0.length ≤ maxLen ∧ ∀ x ∈ l0_0, x.f0.size ≤ maxLen ∧ (Lit.int .i64 x.f1).wf = true ∧ (Lit.int .i64 x.f2).wf = true ∧ x.f3.size ≤ maxLen ∧ (Lit.int .i64 x.f4).wf = true) ∧ (Lit.int .i64 a0_1).wf = true) :
  ∃ k, laws_FnExactRunOk.f k l0_0 a0_1 = some true := by
 refine EvP.done ?_
 unfold laws_FnExactRunOk.f
 refine EvP.bind (szRun_ev l0_0 a0_1 1048576 g0.1.1 (fun x hx => ⟨(g0.1.2 x hx).1, (g0.1.2 x hx).2.2.2.1⟩) (by omega) (by omega)) ?_
 rintro r ⟨hr, hb⟩
 refine EvP.split (fun _ => EvP.now rfl) (fun hp => ?_)
 obtain ⟨n0, s0⟩ := hb (by omega)
 have n1 : (l0_0.map entOf).length ≤ 1048576 := by simpa using n0
 have hk : KeysSmall (l0_0.map entOf) := by
  intro y hy
  obtain ⟨x, hx, rfl⟩ := List.mem_map.1 hy
  have := (s0 x hx).1
  show x.f0.size ≤ _
  omega
 refine EvP.bind (toRun_ev l0_0 a0_1 n0) ?_
 rintro _ rfl
 refine EvP.bind (spec_RunOk_ev _ _ n1 hk) ?_
 rintro _ rfl
 refine EvP.bind (toRun_ev l0_0 a0_1 n0) ?_
 rintro _ rfl
 refine EvP.bind (impl_RunOk_ev _ _ n1 hk) ?_
 rintro _ rfl
 refine EvP.neg (by simp) ?_
 refine EvP.bind (toRun_ev l0_0 a0_1 n0) ?_
 rintro _ rfl
 refine EvP.bind (eqRun_ev _ _ _ _ n1) ?_
 rintro _ rfl
 exact EvP.pos (runSame_refl _ _) (EvP.now rfl)


end Go.Proofs.Ytcfebbhiehaocaa.Pure
