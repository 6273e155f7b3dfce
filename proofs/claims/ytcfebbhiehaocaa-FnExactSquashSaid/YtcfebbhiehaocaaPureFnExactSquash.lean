/- Squash tells what the reference tells, changes no argument and returns memory of its own, for every list of entries, all times and either flag; no condition. -/
import Derived.Test.YtcfebbhiehaocaaQFnExactSquashx14
import Derived.Test.YtcfebbhiehaocaaBBase
set_option linter.unusedVariables false
set_option linter.unusedSimpArgs false
namespace Go.Proofs.Ytcfebbhiehaocaa.Pure
open Go.RowKit Go.Proofs.Ytcfebbhiehaocaa.QFnExactSquash Go.Proofs.YtcfebbhiehaocaaW.PrintWords Go.Proofs.YtcfebbhiehaocaaW.PrintLast Go.Proofs.YtcfebbhiehaocaaW.PrintMore Go.Proofs.Ytcfebbhiehaocaa.B

theorem rd_midE (pre rest : List S48) (x : S48) : rd_T48 (pre ++ x :: rest) (pre.length : Int) = x := by simp [rd_T48]

theorem szEntry_ev (a0 : ByteArray) (a1 a2 : Int) (a3 : ByteArray) (a4 left : Int) (h0 : a0.size ≤ maxLen) (h3 : a3.size ≤ maxLen) (hl : 0 ≤ left) (hl' : left ≤ 1048576) :
  ∃ r, laws_szEntry.f a0 a1 a2 a3 a4 left = some r ∧ r ≤ left ∧ (0 ≤ r → (a0.size : Int) ≤ left ∧ (a3.size : Int) ≤ left) := by
 unfold maxLen at h0 h3
 unfold laws_szEntry.f
 rw [w64 (x := left - (a0.size : Int)) (by omega) (by omega)]
 split
 ·
  exact ⟨-1, rfl, by omega, by omega⟩
 ·
  rw [w64 (by omega) (by omega)]
  split
  ·
   exact ⟨-1, rfl, by omega, by omega⟩
  ·
   exact ⟨_, rfl, by omega, by omega⟩

/-! ### Entries: sizes, copies, sameness -/
theorem rd_mid25 (pre rest : List S57) (x : S57) : rd_T57 (pre ++ x :: rest) (pre.length : Int) = x := by simp [rd_T57]
theorem rd_mid28 (pre rest : List S48) (x : S48) : rd_T48 (pre ++ x :: rest) (pre.length : Int) = x := by simp [rd_T48]
def entOf (x : S57) : S48 := ⟨x.f0, x.f1, x.f2, x.f3, x.f4⟩
def entKey (x : S48) : List UInt8 × Int × Int × List UInt8 × Int := (x.f0.toList, x.f1, x.f2, x.f3.toList, x.f4)
theorem szEntryS_l0 (xs : List S57) (hx : xs.length ≤ 1048576) (h : ∀ x ∈ xs, x.f0.size ≤ maxLen ∧ x.f3.size ≤ maxLen) : ∀ (rest pre : List S57) (left : Int), xs = pre ++ rest → 0 ≤ left → left ≤ 1048576 →
  EvP (fun k => laws_szEntryS.l0 k xs left (pre.length : Int)) (fun r => r ≤ left ∧ (0 ≤ r → ∀ x ∈ rest, (x.f0.size : Int) ≤ 1048576 ∧ (x.f3.size : Int) ≤ 1048576)) := by
 intro rest
 induction rest with
 | nil =>
  intro pre left e h0 h1
  refine EvP.step (fun k => by rw [laws_szEntryS.l0]) (EvP.neg (by simp [e]) (EvP.now ⟨Int.le_refl _, by simp⟩))
 | cons x rest ih =>
  intro pre left e h0 h1
  have hl : xs.length = pre.length + (rest.length + 1) := by rw [e]; simp
  refine EvP.step (fun k => by rw [laws_szEntryS.l0]) (EvP.pos (by omega) (EvP.pos (by omega) ?_))
  have hr : rd_T57 xs (pre.length : Int) = x := by rw [e]; exact rd_mid25 pre rest x
  rw [hr]
  obtain ⟨r, hr, hle, hb⟩ := szEntry_ev x.f0 x.f1 x.f2 x.f3 x.f4 left (h x (by rw [e]; simp)).1 (h x (by rw [e]; simp)).2 h0 h1
  simp only [hr, Option.bind_some]
  refine EvP.split (fun hneg => EvP.now ⟨by omega, fun hh => by omega⟩) (fun hpos => ?_)
  have e2 : wrap64 ((pre.length : Int) + 1) = ((pre ++ [x]).length : Int) := by rw [w64 (by omega) (by omega)]; simp
  rw [e2]
  refine (ih (pre ++ [x]) r (by rw [e]; simp) (by omega) (by omega)).mono ?_
  rintro a ⟨ha, hb'⟩
  refine ⟨by omega, fun hh y hy => ?_⟩
  rcases List.mem_cons.1 hy with rfl | hy
  ·
   have := hb (by omega); omega
  ·
   exact hb' hh y hy
theorem szEntryS_ev (xs : List S57) (left : Int) (hl : xs.length ≤ maxLen) (h : ∀ x ∈ xs, x.f0.size ≤ maxLen ∧ x.f3.size ≤ maxLen) (h0 : 0 ≤ left) (h1 : left ≤ 1048576) :
  EvP (fun k => laws_szEntryS.f k xs left) (fun r => r ≤ left ∧ (0 ≤ r → xs.length ≤ 1048576 ∧ ∀ x ∈ xs, (x.f0.size : Int) ≤ 1048576 ∧ (x.f3.size : Int) ≤ 1048576)) := by
 unfold laws_szEntryS.f
 unfold maxLen at hl
 rw [w64 (by omega) (by omega)]
 refine EvP.split (fun hn => EvP.now ⟨by omega, fun hh => by omega⟩) (fun hp => ?_)
 refine (szEntryS_l0 xs (by omega) h xs [] _ rfl (by omega) (by omega)).mono ?_
 rintro r ⟨ha, hb⟩
 exact ⟨by omega, fun hh => ⟨by omega, hb hh⟩⟩
theorem toEntryS_l0 (xs : List S57) (hx : xs.length ≤ 1048576) : ∀ (rest pre : List S57), xs = pre ++ rest →
  EvP (fun k => laws_toEntryS.l0 k xs (pre.map entOf ++ List.replicate rest.length z48) (pre.length : Int)) (· = xs.map entOf) := by
 intro rest
 induction rest with
 | nil =>
  intro pre e
  refine EvP.step (fun k => by rw [laws_toEntryS.l0]) (EvP.neg (by simp [e]) (EvP.now ?_))
  simp [e]
 | cons x rest ih =>
  intro pre e
  have hl : xs.length = pre.length + (rest.length + 1) := by rw [e]; simp
  refine EvP.step (fun k => by rw [laws_toEntryS.l0]) (EvP.pos (by omega) (EvP.pos (by omega) ?_))
  have hr : rd_T57 xs (pre.length : Int) = x := by rw [e]; exact rd_mid25 pre rest x
  rw [hr]
  simp only [laws_toEntry.f, Option.bind_some]
  refine EvP.pos (by simp; omega) ?_
  have e2 : wrap64 ((pre.length : Int) + 1) = ((pre ++ [x]).length : Int) := by rw [w64 (by omega) (by omega)]; simp
  rw [e2]
  have e3 : (pre.map entOf ++ List.replicate (x :: rest).length z48).set ((pre.length : Int)).toNat (⟨x.f0, x.f1, x.f2, x.f3, x.f4⟩ : S48) = (pre ++ [x]).map entOf ++ List.replicate rest.length z48 := by
   simp [List.replicate_succ, entOf]
  rw [e3]
  exact ih (pre ++ [x]) (by rw [e]; simp)
theorem toEntryS_ev (xs : List S57) (hx : xs.length ≤ 1048576) : EvP (fun k => laws_toEntryS.f k xs) (· = xs.map entOf) := by
 unfold laws_toEntryS.f
 refine EvP.pos (by omega) (EvP.pos (by omega) ?_)
 have := toEntryS_l0 xs hx xs [] rfl
 simpa using this
theorem eqEntryS_l0 (xs ys : List S48) (hx : xs.length ≤ 1048576) : ∀ (r r' pre pre' : List S48), xs = pre ++ r → ys = pre' ++ r' → pre.length = pre'.length → r.length = r'.length →
  EvP (fun k => laws_eqEntryS.l0 k xs ys (pre.length : Int)) (· = decide (r.map entKey = r'.map entKey)) := by
 intro r
 induction r with
 | nil =>
  intro r' pre pre' e e' hl hr
  obtain rfl : r' = [] := List.eq_nil_of_length_eq_zero (by simpa using hr.symm)
  exact EvP.step (fun k => by rw [laws_eqEntryS.l0]) (EvP.neg (by simp [e]) (EvP.now (by simp)))
 | cons x r ih =>
  intro r' pre pre' e e' hl hr
  cases r' with
  | nil => simp at hr
  | cons y r' =>
   have h1 : xs.length = pre.length + (r.length + 1) := by rw [e]; simp
   have h2 : ys.length = pre'.length + (r'.length + 1) := by rw [e']; simp
   refine EvP.step (fun k => by rw [laws_eqEntryS.l0]) (EvP.pos (by omega) (EvP.pos (by omega) (EvP.pos (by simp at hr; omega) ?_)))
   have hrx : rd_T48 xs (pre.length : Int) = x := by rw [e]; exact rd_mid28 pre r x
   have hry : rd_T48 ys (pre.length : Int) = y := by rw [e', hl]; exact rd_mid28 pre' r' y
   rw [hrx, hry]
   have e2 : wrap64 ((pre.length : Int) + 1) = ((pre ++ [x]).length : Int) := by rw [w64 (by omega) (by omega)]; simp
   have step := ih r' (pre ++ [x]) (pre' ++ [y]) (by rw [e]; simp) (by rw [e']; simp) (by simp [hl]) (by simpa using hr)
   rw [← e2] at step
   have hk : laws_eqEntry.f x.f0 x.f1 x.f2 x.f3 x.f4 y.f0 y.f1 y.f2 y.f3 y.f4 = some (decide (entKey x = entKey y)) := by
    unfold laws_eqEntry.f entKey
    by_cases c1 : x.f0.toList = y.f0.toList <;> by_cases c2 : x.f1 = y.f1 <;> by_cases c3 : x.f2 = y.f2 <;> by_cases c4 : x.f3.toList = y.f3.toList <;> by_cases c5 : x.f4 = y.f4 <;> simp [c1, c2, c3, c4, c5]
   simp only [hk, Option.bind_some]
   by_cases c : entKey x = entKey y
   ·
    refine EvP.pos (by simp [c]) (step.mono ?_)
    rintro _ rfl
    simp [c]
   ·
    exact EvP.neg (by simp [c]) (EvP.now (by simp [c]))
theorem eqEntryS_ev (xs ys : List S48) (hx : xs.length ≤ 1048576) : EvP (fun k => laws_eqEntryS.f k xs ys) (· = decide (xs.map entKey = ys.map entKey)) := by
 unfold laws_eqEntryS.f
 refine EvP.split (fun h => ?_) (fun h => EvP.now ?_)
 ·
  exact eqEntryS_l0 xs ys hx xs ys [] [] rfl rfl rfl (by omega)
 ·
  have : xs.map entKey ≠ ys.map entKey := fun he => h (by have := congrArg List.length he; simp at this; omega)
  simp [this]

/-! ### KeyOk -/
def keyByteB (c : Int) : Bool := decide ((97 ≤ c ∧ c ≤ 122) ∨ (47 ≤ c ∧ c ≤ 57))
/-- d bytes from place i on are all a to z, 0 to 9 or a slash. -/
def keysB (s : ByteArray) : Nat → Int → Bool
 | 0, _ => true
 | d + 1, i => keyByteB (bt s i) && keysB s d (i + 1)
def keyB (s : ByteArray) : Bool := decide (1 ≤ s.size) && decide (s.size ≤ 8) && keysB s s.size 0
theorem spec_KeyOk_l0 (s : ByteArray) (hs : s.size ≤ 140737488351232) : ∀ (d : Nat) (i : Int), 0 ≤ i → i + d = s.size →
  EvP (fun k => spec_KeyOk.l0 k s i) (· = (decide (1 ≤ s.size) && decide (s.size ≤ 8) && keysB s d i)) := by
 intro d
 induction d with
 | zero =>
  intro i h0 h
  refine EvP.step (fun k => by rw [spec_KeyOk.l0]) ?_
  refine EvP.neg (by omega) ?_
  refine EvP.split (fun h => ?_) (fun h => ?_)
  ·
   refine EvP.now ?_
   have e1 : decide (1 ≤ s.size) = true := decide_eq_true (by omega)
   have e2 : decide ((s.size : Int) ≤ 8) = decide (s.size ≤ 8) := by rw [decide_eq_decide]; omega
   simp only [keysB, e1, e2, Bool.true_and, Bool.and_true]
  ·
   refine EvP.now ?_
   have e1 : decide (1 ≤ s.size) = false := decide_eq_false (by omega)
   simp only [keysB, e1, Bool.false_and]
 | succ d ih =>
  intro i h0 h
  refine EvP.step (fun k => by rw [spec_KeyOk.l0]) ?_
  refine EvP.pos (by omega) (EvP.pos (by omega) ?_)
  have := ih (i + 1) (by omega) (by omega)
  rw [w64 (by omega) (by omega)]
  repeat' with_reducible refine EvP.split (fun _ => ?_) (fun _ => ?_)
  all_goals first
   | (refine EvP.now ?_; have e1 : keyByteB (bt s i) = false := decide_eq_false (by omega); simp only [keysB, e1, Bool.false_and, Bool.and_false])
   | (have e1 : keyByteB (bt s i) = true := decide_eq_true (by omega); simp only [keysB, e1, Bool.true_and]; exact this)
theorem spec_KeyOk_ev (s : ByteArray) (hs : s.size ≤ 140737488351232) : EvP (fun k => spec_KeyOk.f k s) (· = keyB s) :=
 spec_KeyOk_l0 s hs s.size 0 (by omega) (by omega)
theorem impl_KeyOk_l0 (s : ByteArray) (hs : s.size ≤ 140737488351232) : ∀ (d : Nat) (i : Int), 0 ≤ i → i + d = s.size →
  EvP (fun k => impl_KeyOk.l0 k s (s.size : Int) i) (· = keysB s d i) := by
 intro d
 induction d with
 | zero =>
  intro i h0 h
  refine EvP.step (fun k => by rw [impl_KeyOk.l0]) ?_
  refine EvP.neg (by omega) ?_
  exact EvP.now (by simp [keysB])
 | succ d ih =>
  intro i h0 h
  refine EvP.step (fun k => by rw [impl_KeyOk.l0]) ?_
  refine EvP.pos (by omega) (EvP.pos (by omega) (EvP.pos (by omega) ?_))
  have := ih (i + 1) (by omega) (by omega)
  rw [w64 (by omega) (by omega)]
  repeat' with_reducible refine EvP.split (fun _ => ?_) (fun _ => ?_)
  all_goals first
   | (refine EvP.now ?_; have e1 : keyByteB (bt s i) = false := decide_eq_false (by omega); simp only [keysB, e1, Bool.false_and, Bool.and_false])
   | (have e1 : keyByteB (bt s i) = true := decide_eq_true (by omega); simp only [keysB, e1, Bool.true_and]; exact this)
theorem impl_KeyOk_ev (s : ByteArray) (hs : s.size ≤ 140737488351232) : EvP (fun k => impl_KeyOk.f k s) (· = keyB s) := by
 unfold impl_KeyOk.f keyB
 refine EvP.split (fun h => ?_) (fun h => ?_)
 ·
  refine EvP.step (fun k => by rw [impl_KeyOk.j0]) (EvP.pos rfl (EvP.now ?_))
  have e1 : decide (1 ≤ s.size) = false := decide_eq_false (by omega)
  simp [e1]
 ·
  have e1 : decide (1 ≤ s.size) = true := decide_eq_true (by omega)
  refine EvP.step (fun k => by rw [impl_KeyOk.j0]) (EvP.split (fun h1 => EvP.now ?_) (fun h1 => ?_))
  ·
   have := of_decide_eq_true h1
   have e2 : decide (s.size ≤ 8) = false := decide_eq_false (by omega)
   simp [e2]
  ·
   have : ¬ (s.size : Int) > 8 := fun h => h1 (decide_eq_true h)
   have e2 : decide (s.size ≤ 8) = true := decide_eq_true (by omega)
   simp only [e1, e2, Bool.true_and]
   exact impl_KeyOk_l0 s hs s.size 0 (by omega) (by omega)

/-! ### EntryOk -/
def kindB (kind : Int) (x : ByteArray) (n : Int) : Bool :=
 if kind = 1 then true else if kind = 2 then (if x.toList = ([] : List UInt8) then (n == 0) else false) else if kind = 3 then (x.toList == ([] : List UInt8)) else false
def entB (k : ByteArray) (seq kind : Int) (x : ByteArray) (n : Int) : Bool :=
 keyB k && decide (1 ≤ seq) && decide (seq ≤ 100000) && decide (x.size ≤ 60) && decide (-1000000 ≤ n) && decide (n ≤ 1000000) && kindB kind x n
theorem spec_EntryOk_j0 (b : Bool) (k : ByteArray) (seq kind : Int) (x : ByteArray) (n : Int) : EvP (fun q => spec_EntryOk.j0 q b k seq kind x n) (· = (!b && kindB kind x n)) := by
 refine EvP.step (fun k => by rw [spec_EntryOk.j0]) ?_
 cases b
 ·
  refine EvP.neg (by simp) ?_
  simp only [kindB, Bool.not_false, Bool.true_and]
  repeat' with_reducible refine EvP.split (fun _ => ?_) (fun _ => ?_)
  all_goals exact EvP.now (by simp [*])
 ·
  exact EvP.pos rfl (EvP.now (by simp))
theorem impl_EntryOk_j1 (b : Bool) (k : ByteArray) (seq kind : Int) (x : ByteArray) (n : Int) : EvP (fun q => impl_EntryOk.j1 q b k seq kind x n) (· = (!b && kindB kind x n)) := by
 refine EvP.step (fun k => by rw [impl_EntryOk.j1]) ?_
 cases b
 ·
  refine EvP.neg (by simp) ?_
  simp only [kindB, Bool.not_false, Bool.true_and]
  repeat' with_reducible refine EvP.split (fun _ => ?_) (fun _ => ?_)
  all_goals exact EvP.now (by simp [*])
 ·
  exact EvP.pos rfl (EvP.now (by simp))
theorem impl_EntryOk_j0 (b : Bool) (k : ByteArray) (seq kind : Int) (x : ByteArray) (n : Int) : EvP (fun q => impl_EntryOk.j0 q b k seq kind x n) (· = (!b && decide (-1000000 ≤ n) && decide (n ≤ 1000000) && kindB kind x n)) := by
 refine EvP.step (fun k => by rw [impl_EntryOk.j0]) ?_
 cases b
 ·
  refine EvP.neg (by simp) (EvP.split (fun h => (impl_EntryOk_j1 ..).mono ?_) (fun h => (impl_EntryOk_j1 ..).mono ?_))
  ·
   rintro _ rfl
   have e : decide (-1000000 ≤ n) = false := decide_eq_false (by omega)
   simp [e]
  ·
   rintro _ rfl
   have e : decide (-1000000 ≤ n) = true := decide_eq_true (by omega)
   have e2 : (!decide (n > 1000000)) = decide (n ≤ 1000000) := by rw [Bool.eq_iff_iff]; simp
   simp only [e, e2, Bool.not_false, Bool.true_and]
 ·
  exact EvP.pos rfl (EvP.now (by simp))
theorem spec_l3Sum_eq (n : Int) : spec_l3Sum.f n = some (decide (-1000000 ≤ n) && decide (n ≤ 1000000)) := by
 unfold spec_l3Sum.f
 split
 ·
  have e : decide (-1000000 ≤ n) = true := decide_eq_true (by omega)
  simp [e]
 ·
  have e : decide (-1000000 ≤ n) = false := decide_eq_false (by omega)
  simp [e]
theorem not_gt60 (x : ByteArray) : (!decide ((x.size : Int) > 60)) = decide (x.size ≤ 60) := by
 rw [Bool.eq_iff_iff]
 simp
 omega
theorem spec_EntryOk_ev (k : ByteArray) (seq kind : Int) (x : ByteArray) (n : Int) (hk : k.size ≤ 140737488351232) : EvP (fun q => spec_EntryOk.f q k seq kind x n) (· = entB k seq kind x n) := by
 unfold spec_EntryOk.f
 refine EvP.bind (spec_KeyOk_ev k hk) ?_
 rintro _ rfl
 simp only [spec_l3Sum_eq, Option.bind_some]
 cases hK : keyB k
 ·
  refine EvP.neg (by simp) ((spec_EntryOk_j0 ..).mono ?_)
  rintro _ rfl
  simp [entB, hK]
 ·
  refine EvP.pos rfl (EvP.split (fun h => (spec_EntryOk_j0 ..).mono ?_) (fun h => EvP.split (fun h => (spec_EntryOk_j0 ..).mono ?_) (fun h => EvP.split (fun h => (spec_EntryOk_j0 ..).mono ?_) (fun h => (spec_EntryOk_j0 ..).mono ?_))))
  ·
   rintro _ rfl
   have e : decide (1 ≤ seq) = false := decide_eq_false (by omega)
   simp [entB, hK, e]
  ·
   rintro _ rfl
   have e : decide (seq ≤ 100000) = false := decide_eq_false (by omega)
   simp [entB, hK, e]
  ·
   rintro _ rfl
   have e1 : decide (1 ≤ seq) = true := decide_eq_true (by omega)
   have e2 : decide (seq ≤ 100000) = true := decide_eq_true (by omega)
   simp only [Bool.and_eq_true] at h
   simp only [entB, hK, e1, e2, h.1, h.2, not_gt60, Bool.true_and, Bool.and_true]
  ·
   rintro _ rfl
   have : (decide (-1000000 ≤ n) && decide (n ≤ 1000000)) = false := by simpa using h
   have e : (decide (-1000000 ≤ n) && decide (n ≤ 1000000) && kindB kind x n) = false := by rw [this]; rfl
   simp only [entB, Bool.and_assoc] at e ⊢
   rw [e]
   simp
theorem impl_EntryOk_ev (k : ByteArray) (seq kind : Int) (x : ByteArray) (n : Int) (hk : k.size ≤ 140737488351232) : EvP (fun q => impl_EntryOk.f q k seq kind x n) (· = entB k seq kind x n) := by
 unfold impl_EntryOk.f
 refine EvP.bind (impl_KeyOk_ev k hk) ?_
 rintro _ rfl
 cases hK : keyB k
 ·
  refine EvP.neg (by simp) ((impl_EntryOk_j0 ..).mono ?_)
  rintro _ rfl
  simp [entB, hK]
 ·
  refine EvP.pos rfl (EvP.split (fun h => (impl_EntryOk_j0 ..).mono ?_) (fun h => EvP.split (fun h => (impl_EntryOk_j0 ..).mono ?_) (fun h => (impl_EntryOk_j0 ..).mono ?_)))
  ·
   rintro _ rfl
   have e : decide (1 ≤ seq) = false := decide_eq_false (by omega)
   simp [entB, hK, e]
  ·
   rintro _ rfl
   have e : decide (seq ≤ 100000) = false := decide_eq_false (by omega)
   simp [entB, hK, e]
  ·
   rintro _ rfl
   have e1 : decide (1 ≤ seq) = true := decide_eq_true (by omega)
   have e2 : decide (seq ≤ 100000) = true := decide_eq_true (by omega)
   simp only [entB, hK, e1, e2, not_gt60, Bool.true_and, Bool.and_true]

/-! ### EntryLess -/
def lessB (k1 : ByteArray) (s1 : Int) (k2 : ByteArray) (s2 : Int) : Bool := if k1.toList = k2.toList then decide (s1 > s2) else Op.bytesLess k1.toList k2.toList
theorem bytesLess_irrefl : ∀ l : List UInt8, Op.bytesLess l l = false := by
 intro l
 induction l with
 | nil => rfl
 | cons a l ih => simp [Op.bytesLess, ih]
theorem spec_EntryLess_eq (a0 : ByteArray) (a1 a2 : Int) (a3 : ByteArray) (a4 : Int) (b0 : ByteArray) (b1 b2 : Int) (b3 : ByteArray) (b4 : Int) : spec_EntryLess.f a0 a1 a2 a3 a4 b0 b1 b2 b3 b4 = some (lessB a0 a1 b0 b1) := by
 unfold spec_EntryLess.f lessB
 by_cases h : a0.toList = b0.toList
 ·
  rw [h, bytesLess_irrefl]
  simp
 ·
  cases hb : Op.bytesLess a0.toList b0.toList <;> simp [h]
theorem impl_EntryLess_eq (a0 : ByteArray) (a1 a2 : Int) (a3 : ByteArray) (a4 : Int) (b0 : ByteArray) (b1 b2 : Int) (b3 : ByteArray) (b4 : Int) : impl_EntryLess.f a0 a1 a2 a3 a4 b0 b1 b2 b3 b4 = some (lessB a0 a1 b0 b1) := by
 unfold impl_EntryLess.f lessB
 split <;> rfl
theorem bl_cons (a b : UInt8) (x y : List UInt8) : Op.bytesLess (a :: x) (b :: y) = true ↔ a.toNat < b.toNat ∨ (a = b ∧ Op.bytesLess x y = true) := by
 simp [Op.bytesLess, UInt8.lt_iff_toNat_lt]
theorem bl_trans : ∀ x y z : List UInt8, Op.bytesLess x y = true → Op.bytesLess y z = true → Op.bytesLess x z = true := by
 intro x
 induction x with
 | nil =>
  intro y z h k
  cases z with
  | nil => cases y <;> simp [Op.bytesLess] at k
  | cons c z => rfl
 | cons a x ih =>
  intro y z h k
  cases y with
  | nil => simp [Op.bytesLess] at h
  | cons b y =>
   cases z with
   | nil => simp [Op.bytesLess] at k
   | cons c z =>
    rw [bl_cons] at h k ⊢
    rcases h with h | ⟨rfl, h⟩ <;> rcases k with k | ⟨rfl, k⟩
    ·
     exact .inl (by omega)
    ·
     exact .inl h
    ·
     exact .inl k
    ·
     exact .inr ⟨rfl, ih _ _ h k⟩
theorem bl_asymm (x y : List UInt8) (h : Op.bytesLess x y = true) : Op.bytesLess y x = false := by
 cases k : Op.bytesLess y x
 ·
  rfl
 ·
  have := bl_trans _ _ _ h k
  rw [bytesLess_irrefl] at this
  cases this
theorem bl_total : ∀ x y : List UInt8, x ≠ y → Op.bytesLess x y = false → Op.bytesLess y x = true := by
 intro x
 induction x with
 | nil =>
  intro y h k
  cases y with
  | nil => exact absurd rfl h
  | cons b y => simp [Op.bytesLess] at k
 | cons a x ih =>
  intro y h k
  cases y with
  | nil => rfl
  | cons b y =>
   have k' : ¬ Op.bytesLess (a :: x) (b :: y) = true := by rw [k]; simp
   rw [bl_cons] at k' ⊢
   by_cases hab : a = b
   ·
    subst hab
    refine .inr ⟨rfl, ih y (fun e => h (by rw [e])) ?_⟩
    cases q : Op.bytesLess x y
    ·
     rfl
    ·
     exact absurd (.inr ⟨rfl, q⟩) k'
   ·
    refine .inl ?_
    have : a.toNat ≠ b.toNat := fun e => hab (UInt8.toNat.inj e)
    have : ¬ a.toNat < b.toNat := fun e => k' (.inl e)
    omega
theorem lessB_iff (k1 : ByteArray) (s1 : Int) (k2 : ByteArray) (s2 : Int) : lessB k1 s1 k2 s2 = true ↔ Op.bytesLess k1.toList k2.toList = true ∨ (k1.toList = k2.toList ∧ s2 < s1) := by
 unfold lessB
 split
 ·
  rename_i h
  rw [h, bytesLess_irrefl]
  simp
 ·
  rename_i h
  simp [h]
theorem lessB_irrefl (k : ByteArray) (s : Int) : lessB k s k s = false := by simp [lessB]
theorem lessB_trans {k1 k2 k3 : ByteArray} {s1 s2 s3 : Int} (h : lessB k1 s1 k2 s2 = true) (k : lessB k2 s2 k3 s3 = true) : lessB k1 s1 k3 s3 = true := by
 rw [lessB_iff] at h k ⊢
 rcases h with h | ⟨h, h'⟩ <;> rcases k with k | ⟨k, k'⟩
 ·
  exact .inl (bl_trans _ _ _ h k)
 ·
  exact .inl (k ▸ h)
 ·
  exact .inl (h ▸ k)
 ·
  exact .inr ⟨h.trans k, by omega⟩
theorem lessB_asymm {k1 k2 : ByteArray} {s1 s2 : Int} (h : lessB k1 s1 k2 s2 = true) : lessB k2 s2 k1 s1 = false := by
 cases k : lessB k2 s2 k1 s1
 ·
  rfl
 ·
  have := lessB_trans h k
  rw [lessB_irrefl] at this
  cases this
theorem lessB_total {k1 k2 : ByteArray} {s1 s2 : Int} (h : lessB k1 s1 k2 s2 = false) (k : lessB k2 s2 k1 s1 = false) : k1.toList = k2.toList ∧ s1 = s2 := by
 have h' : ¬ lessB k1 s1 k2 s2 = true := by rw [h]; simp
 have k' : ¬ lessB k2 s2 k1 s1 = true := by rw [k]; simp
 rw [lessB_iff] at h' k'
 by_cases e : k1.toList = k2.toList
 ·
  refine ⟨e, ?_⟩
  have a : ¬ s2 < s1 := fun x => h' (.inr ⟨e, x⟩)
  have b : ¬ s1 < s2 := fun x => k' (.inr ⟨e.symm, x⟩)
  omega
 ·
  cases q : Op.bytesLess k1.toList k2.toList
  ·
   exact absurd (.inl (bl_total _ _ e q)) k'
  ·
   exact absurd (.inl q) h'

/-! ### Entries right and in order; their marks -/
def rightFrom : Option S48 → List S48 → Bool
 | _, [] => true
 | p, x :: r => entB x.f0 x.f1 x.f2 x.f3 x.f4 && ((match p with | none => true | some y => lessB y.f0 y.f1 x.f0 x.f1) && rightFrom (some x) r)
def rightB (xs : List S48) : Bool := rightFrom none xs
def KeysSmall (xs : List S48) : Prop := ∀ x ∈ xs, x.f0.size ≤ 140737488351232
theorem last_snoc (pre : List S48) (x : S48) : (pre ++ [x]).getLast? = some x := by simp
theorem rd_prev (pre rest : List S48) (y : S48) (h : pre.getLast? = some y) (h0 : 0 < pre.length) : rd_T48 (pre ++ rest) ((pre.length : Int) - 1) = y := by
 obtain ⟨ini, rfl⟩ := List.getLast?_eq_some_iff.1 h
 have e : (((ini ++ [y]).length : Int) - 1) = (ini.length : Int) := by simp
 rw [e, List.append_assoc]
 exact rd_midE ini rest y
theorem spec_l4Right_l0 (xs : List S48) (hx : xs.length ≤ 1048576) (hk : KeysSmall xs) : ∀ (rest pre : List S48), xs = pre ++ rest → EvP (fun k => spec_l4Right.l0 k xs (pre.length : Int)) (· = rightFrom pre.getLast? rest) := by
 intro rest
 induction rest with
 | nil =>
  intro pre e
  refine EvP.step (fun k => by rw [spec_l4Right.l0]) (EvP.neg (by simp [e]) (EvP.now (by cases pre.getLast? <;> rfl)))
 | cons x rest ih =>
  intro pre e
  have hl : xs.length = pre.length + (rest.length + 1) := by rw [e]; simp
  have hr : rd_T48 xs (pre.length : Int) = x := by rw [e]; exact rd_midE pre rest x
  refine EvP.step (fun k => by rw [spec_l4Right.l0]) (EvP.pos (by omega) (EvP.pos (by omega) ?_))
  rw [hr]
  refine EvP.bind (spec_EntryOk_ev _ _ _ _ _ (hk x (by rw [e]; simp))) ?_
  rintro _ rfl
  have e2 : wrap64 ((pre.length : Int) + 1) = ((pre ++ [x]).length : Int) := by rw [w64 (by omega) (by omega)]; simp
  have step := ih (pre ++ [x]) (by rw [e]; simp)
  rw [last_snoc] at step
  refine EvP.split (fun hb => EvP.split (fun hpos => ?_) (fun hpos => ?_)) (fun hb => EvP.now ?_)
  ·
   have hp : 0 < pre.length := by omega
   obtain ⟨y, hy⟩ : ∃ y, pre.getLast? = some y := by
    cases h : pre.getLast? with
    | none => rw [List.getLast?_eq_none_iff] at h; rw [h] at hp; simp at hp
    | some y => exact ⟨y, rfl⟩
   have e3 : wrap64 ((pre.length : Int) - 1) = (pre.length : Int) - 1 := w64 (by omega) (by omega)
   have hr2 : rd_T48 xs ((pre.length : Int) - 1) = y := by rw [e]; exact rd_prev pre _ y hy hp
   rw [e3, hr2, spec_EntryLess_eq]
   simp only [Option.bind_some]
   refine EvP.pos (by omega) (EvP.pos (by omega) (EvP.split (fun hc => ?_) (fun hc => EvP.now ?_)))
   ·
    rw [e2]
    refine step.mono ?_
    rintro _ rfl
    simp [rightFrom, hb, hy, hc]
   ·
    simp [rightFrom, hy, hc]
  ·
   obtain rfl : pre = [] := List.eq_nil_of_length_eq_zero (by omega)
   rw [e2]
   refine step.mono ?_
   rintro _ rfl
   simp [rightFrom, hb]
  ·
   simp [rightFrom, hb]
theorem spec_l4Right_ev (xs : List S48) (hx : xs.length ≤ 1048576) (hk : KeysSmall xs) : EvP (fun k => spec_l4Right.f k xs) (· = rightB xs) := spec_l4Right_l0 xs hx hk xs [] rfl
theorem impl_inOrder_l0 (xs : List S48) (hx : xs.length ≤ 1048576) (hk : KeysSmall xs) : ∀ (rest pre : List S48), xs = pre ++ rest → EvP (fun k => impl_inOrder.l0 k xs xs (xs.length : Int) (pre.length : Int)) (· = rightFrom pre.getLast? rest) := by
 intro rest
 induction rest with
 | nil =>
  intro pre e
  refine EvP.step (fun k => by rw [impl_inOrder.l0]) (EvP.neg (by simp [e]) (EvP.now (by cases pre.getLast? <;> rfl)))
 | cons x rest ih =>
  intro pre e
  have hl : xs.length = pre.length + (rest.length + 1) := by rw [e]; simp
  have hr : rd_T48 xs (pre.length : Int) = x := by rw [e]; exact rd_midE pre rest x
  refine EvP.step (fun k => by rw [impl_inOrder.l0]) (EvP.pos (by omega) (EvP.pos (by omega) (EvP.pos (by omega) ?_)))
  rw [hr]
  refine EvP.bind (impl_EntryOk_ev _ _ _ _ _ (hk x (by rw [e]; simp))) ?_
  rintro _ rfl
  have e2 : wrap64 ((pre.length : Int) + 1) = ((pre ++ [x]).length : Int) := by rw [w64 (by omega) (by omega)]; simp
  have step := ih (pre ++ [x]) (by rw [e]; simp)
  rw [last_snoc] at step
  refine EvP.split (fun hb => EvP.split (fun hpos => ?_) (fun hpos => ?_)) (fun hb => EvP.now ?_)
  ·
   have hp : 0 < pre.length := by omega
   obtain ⟨y, hy⟩ : ∃ y, pre.getLast? = some y := by
    cases h : pre.getLast? with
    | none => rw [List.getLast?_eq_none_iff] at h; rw [h] at hp; simp at hp
    | some y => exact ⟨y, rfl⟩
   have e3 : wrap64 ((pre.length : Int) - 1) = (pre.length : Int) - 1 := w64 (by omega) (by omega)
   have hr2 : rd_T48 xs ((pre.length : Int) - 1) = y := by rw [e]; exact rd_prev pre _ y hy hp
   rw [e3, hr2, impl_EntryLess_eq]
   simp only [Option.bind_some]
   refine EvP.pos (by omega) (EvP.pos (by omega) (EvP.split (fun hc => ?_) (fun hc => EvP.now ?_)))
   ·
    rw [e2]
    refine step.mono ?_
    rintro _ rfl
    simp [rightFrom, hb, hy, hc]
   ·
    simp [rightFrom, hy, hc]
  ·
   obtain rfl : pre = [] := List.eq_nil_of_length_eq_zero (by omega)
   rw [e2]
   refine step.mono ?_
   rintro _ rfl
   simp [rightFrom, hb]
  ·
   simp [rightFrom, hb]
theorem impl_inOrder_ev (xs : List S48) (hx : xs.length ≤ 1048576) (hk : KeysSmall xs) : EvP (fun k => impl_inOrder.f k xs) (· = rightB xs) := impl_inOrder_l0 xs hx hk xs [] rfl
/-! ### Squashing, told in plain lists -/
def sumOk (n : Int) : Bool := decide (-1000000 ≤ n) && decide (n ≤ 1000000)
def EntP (x : S48) : Prop := x.f2 = 1 ∨ (x.f2 = 2 ∧ x.f4 = 0) ∨ x.f2 = 3
theorem entP_of {x : S48} (h : entB x.f0 x.f1 x.f2 x.f3 x.f4 = true) : EntP x := by
 unfold entB at h
 simp only [Bool.and_eq_true] at h
 have hk := h.2
 unfold kindB at hk
 unfold EntP
 split at hk
 ·
  exact .inl (by assumption)
 ·
  split at hk
  ·
   split at hk
   ·
    exact .inr (.inl ⟨by assumption, by simpa using hk⟩)
   ·
    cases hk
  ·
   split at hk
   ·
    exact .inr (.inr (by assumption))
   ·
    cases hk
theorem right_ents : ∀ (xs : List S48) (p : Option S48), rightFrom p xs = true → ∀ x ∈ xs, entB x.f0 x.f1 x.f2 x.f3 x.f4 = true
 | [], _, _, x, hx => by simp at hx
 | y :: xs, p, h, x, hx => by
  simp only [rightFrom, Bool.and_eq_true] at h
  rcases List.mem_cons.1 hx with rfl | hx
  ·
   exact h.1
  ·
   exact right_ents xs (some y) h.2.2 x hx
def joinOf : List S48 → ByteArray × Int × Int × ByteArray × Int
 | [] => (⟨#[]⟩, 0, 3, ⟨#[]⟩, 0)
 | e :: r => (e.f0, e.f1, (oneGo (e :: r) true 0).1, (oneGo (e :: r) true 0).2.1, (oneGo (e :: r) true 0).2.2)
def classB (c : List S48) (b : Bool) : List S48 := sqOne c b (joinOf c)
theorem squashClass_eq (c : List S48) (h : c ≠ []) (b : Bool) : impl_squashClass.f c b = some (classB c b) := by
 cases c with
 | nil => exact absurd rfl h
 | cons e r => rfl
theorem spec_l4Join_l0 (xs : List S48) (hx : xs.length ≤ 1048576) (hp : ∀ x ∈ xs, EntP x) (k0 : ByteArray) (s0 : Int) : ∀ (rest pre : List S48) (n : Int), xs = pre ++ rest → -9223372036854775808 ≤ n → n ≤ 9223372036854775807 →
  EvP (fun k => spec_l4Join.l0 k xs (pre.length : Int) k0 s0 3 (⟨#[]⟩ : ByteArray) n) (· = (k0, s0, (oneGo rest pre.isEmpty n).1, (oneGo rest pre.isEmpty n).2.1, (oneGo rest pre.isEmpty n).2.2, sumOk (oneGo rest pre.isEmpty n).2.2)) := by
 intro rest
 induction rest with
 | nil =>
  intro pre n e h0 h1
  refine EvP.step (fun k => by rw [spec_l4Join.l0]) (EvP.neg (by simp [e]) ?_)
  simp only [spec_l3Sum_eq, Option.bind_some]
  exact EvP.now rfl
 | cons x rest ih =>
  intro pre n e h0 h1
  have hl : xs.length = pre.length + (rest.length + 1) := by rw [e]; simp
  have hr : rd_T48 xs (pre.length : Int) = x := by rw [e]; exact rd_midE pre rest x
  refine EvP.step (fun k => by rw [spec_l4Join.l0]) (EvP.pos (by omega) (EvP.pos (by omega) ?_))
  rw [hr]
  simp only [spec_l3Sum_eq, Option.bind_some]
  rcases hp x (by rw [e]; simp) with h | ⟨h, h'⟩ | h
  ·
   refine EvP.pos h (EvP.now ?_)
   rw [oneGo, if_neg (show ¬ x.f2 = 3 by omega), if_pos h]
   rfl
  ·
   refine EvP.neg (by omega) (EvP.pos h ?_)
   have hw : wrap64 (n + x.f4) = n := by rw [h', Int.add_zero]; exact w64 h0 h1
   have hone : oneGo (x :: rest) pre.isEmpty n = if pre.isEmpty = true then (2, ⟨#[]⟩, n) else (1, ⟨#[]⟩, n) := by rw [oneGo, if_neg (show ¬ x.f2 = 3 by omega), if_neg (show ¬ x.f2 = 1 by omega)]
   rw [hw, hone]
   refine EvP.split (fun hz => EvP.now ?_) (fun hz => EvP.now ?_)
   ·
    have : pre = [] := List.eq_nil_of_length_eq_zero (by omega)
    subst this
    rfl
   ·
    have : pre.isEmpty = false := by
     cases pre with
     | nil => exact absurd rfl hz
     | cons => rfl
    rw [this]
    rfl
  ·
   refine EvP.neg (by omega) (EvP.neg (by omega) ?_)
   have e2 : wrap64 ((pre.length : Int) + 1) = ((pre ++ [x]).length : Int) := by rw [w64 (by omega) (by omega)]; simp
   have hw := w64r (n + x.f4)
   have step := ih (pre ++ [x]) (wrap64 (n + x.f4)) (by rw [e]; simp) hw.1 hw.2
   have he : (pre ++ [x]).isEmpty = false := by cases pre <;> rfl
   rw [he] at step
   rw [e2, oneGo, if_pos h]
   exact step
theorem spec_l4Join_ev (c : List S48) (hc : c ≠ []) (hx : c.length ≤ 1048576) (hp : ∀ x ∈ c, EntP x) :
  EvP (fun k => spec_l4Join.f k c) (· = ((joinOf c).1, (joinOf c).2.1, (joinOf c).2.2.1, (joinOf c).2.2.2.1, (joinOf c).2.2.2.2, sumOk (joinOf c).2.2.2.2)) := by
 cases c with
 | nil => exact absurd rfl hc
 | cons e r =>
  unfold spec_l4Join.f
  have hr : rd_T48 (e :: r) 0 = e := by simp [rd_T48]
  rw [hr]
  exact EvP.pos (by simp) (spec_l4Join_l0 (e :: r) hx hp e.f0 e.f1 (e :: r) [] 0 rfl (by omega) (by omega))
theorem spec_l4Class_ev (c : List S48) (hc : c ≠ []) (hx : c.length ≤ 1048576) (hp : ∀ x ∈ c, EntP x) (b : Bool) : EvP (fun k => spec_l4Class.f k c b) (· = classB c b) := by
 unfold spec_l4Class.f
 refine EvP.bind (spec_l4Join_ev c hc hx hp) ?_
 rintro _ rfl
 obtain ⟨⟨j0, j1, j2, j3, j4⟩, hj⟩ : ∃ o, joinOf c = o := ⟨_, rfl⟩
 have hB : classB c b = sqOne c b (j0, j1, j2, j3, j4) := by unfold classB; rw [hj]
 rw [hB, hj]
 simp only
 by_cases hs : sumOk j4 = true
 ·
  have hlim : ¬ (j4 > 1000000 ∨ j4 < -1000000) := by
   unfold sumOk at hs
   simp only [Bool.and_eq_true, decide_eq_true_eq] at hs
   omega
  refine EvP.pos hs ?_
  unfold sqOne
  rw [if_neg hlim]
  cases b with
  | true =>
   refine EvP.pos rfl (EvP.step (fun k => by rw [spec_l4Class.j0]) ?_)
   by_cases h2 : j2 = 2
   ·
    exact EvP.pos (by simp [h2]) (EvP.now (by simp [h2]))
   ·
    refine EvP.neg (by simp [h2]) (EvP.pos rfl (EvP.split (fun h3 => EvP.now ?_) (fun h3 => EvP.now ?_)))
    ·
     simp [h2, h3]
    ·
     simp [h2, h3]
  | false =>
   refine EvP.neg (by simp) (EvP.step (fun k => by rw [spec_l4Class.j0]) (EvP.neg (by simp) (EvP.neg (by simp) (EvP.now ?_))))
   simp
 ·
  have hlim : j4 > 1000000 ∨ j4 < -1000000 := by
   unfold sumOk at hs
   simp only [Bool.and_eq_true, decide_eq_true_eq] at hs
   omega
  refine EvP.neg hs ?_
  unfold sqOne
  rw [if_pos hlim]
  simp only [Option.bind_some, List.nil_append, List.length_nil]
  exact EvP.pos (by omega) (EvP.now rfl)
def partsB : List (List S48) → Bool → List (List S48) × Bool
 | [], b => ([], b)
 | c :: cs, b => (classB c (partsB cs b).2 :: (partsB cs b).1, (partsB cs b).2 && decide ((classB c (partsB cs b).2).length = 0))
theorem sqParts_eq : ∀ (cs : List (List S48)), (∀ c ∈ cs, c ≠ []) → ∀ b, sqParts cs b = some (partsB cs b)
 | [], _, _ => rfl
 | c :: cs, h, b => by
  unfold sqParts
  rw [sqParts_eq cs (fun x hx => h x (by simp [hx])) b, Option.bind_some, squashClass_eq c (h c (by simp))]
  rfl
theorem classB_len {c : List S48} (h : c ≠ []) (b : Bool) : (classB c b).length ≤ c.length := by
 have h1 : 1 ≤ c.length := by cases c with | nil => exact absurd rfl h | cons => simp
 unfold classB sqOne
 split
 ·
  exact Nat.le_refl _
 ·
  split
  ·
   simp
  ·
   simpa using h1
theorem partsB_len : ∀ (cs : List (List S48)), (∀ c ∈ cs, c ≠ []) → ∀ b, (partsB cs b).1.flatten.length ≤ cs.flatten.length
 | [], _, _ => Nat.le_refl _
 | c :: cs, h, b => by
  have h1 := classB_len (h c (by simp)) (partsB cs b).2
  have h2 := partsB_len cs (fun x hx => h x (by simp [hx])) b
  simp only [partsB, List.flatten_cons, List.length_append]
  omega
theorem flat_drop (cs : List (List S48)) (m : Nat) : (cs.drop m).flatten.length ≤ cs.flatten.length := by
 have h := congrArg List.length (congrArg List.flatten (List.take_append_drop m cs))
 rw [List.flatten_append, List.length_append] at h
 omega
theorem spec_l4Left_l0 (cs : List (List S48)) (hc : ∀ c ∈ cs, c ≠ [] ∧ c.length ≤ 1048576 ∧ ∀ x ∈ c, EntP x) (hn : cs.length ≤ 1048576) (hf : cs.flatten.length ≤ 1048576) (b : Bool) : ∀ m : Nat, m ≤ cs.length →
  EvP (fun k => spec_l4Left.l0 k cs (partsB (cs.drop m) b).2 (partsB (cs.drop m) b).1.flatten ((m : Int) - 1)) (· = (partsB cs b).1.flatten) := by
 intro m
 induction m with
 | zero =>
  intro _
  exact EvP.step (g := fun k => spec_l4Left.l0 k cs (partsB (cs.drop 0) b).2 (partsB (cs.drop 0) b).1.flatten (((0 : Nat) : Int) - 1)) (f := fun _ => some (partsB (cs.drop 0) b).1.flatten) (fun k => by rw [spec_l4Left.l0, if_neg (by omega)]) (EvP.now rfl)
 | succ m ih =>
  intro hm
  have hr : rd_L4 cs ((m : Nat) : Int) = cs[m] := by simp [rd_L4, List.getD_eq_getElem?_getD, List.getElem?_eq_getElem (show m < cs.length by omega)]
  have hd : cs.drop m = cs[m] :: cs.drop (m + 1) := List.drop_eq_getElem_cons (by omega)
  obtain ⟨h1, h2, h3⟩ := hc cs[m] (List.getElem_mem _)
  have e1 : ((m + 1 : Nat) : Int) - 1 = (m : Int) := by omega
  have step := ih (by omega)
  rw [hd] at step
  simp only [partsB] at step
  have hl1 := classB_len h1 (partsB (cs.drop (m + 1)) b).2
  have hl2 := partsB_len (cs.drop (m + 1)) (fun x hx => (hc x (List.mem_of_mem_drop hx)).1) b
  have hl3 := flat_drop cs (m + 1)
  rw [e1]
  refine EvP.step (fun k => by rw [spec_l4Left.l0]) (EvP.pos (by omega) (EvP.pos (by omega) (EvP.pos (by omega) ?_)))
  rw [hr]
  refine EvP.bind (spec_l4Class_ev _ h1 h2 h3 _) ?_
  rintro _ rfl
  have e2 : wrap64 ((m : Int) - 1) = (m : Int) - 1 := w64 (by omega) (by omega)
  simp only [Option.bind_some, List.nil_append, List.length_nil, e2]
  refine EvP.split (fun hpos => EvP.pos (by omega) (EvP.pos (by omega) ?_)) (fun hneg => EvP.pos (by omega) (EvP.pos (by omega) ?_))
  ·
   have hb : ((partsB (cs.drop (m + 1)) b).2 && decide ((classB cs[m] (partsB (cs.drop (m + 1)) b).2).length = 0)) = false := by
    rw [decide_eq_false (by omega), Bool.and_false]
   rw [hb] at step
   exact step
  ·
   have hb : ((partsB (cs.drop (m + 1)) b).2 && decide ((classB cs[m] (partsB (cs.drop (m + 1)) b).2).length = 0)) = (partsB (cs.drop (m + 1)) b).2 := by
    rw [decide_eq_true (by omega), Bool.and_true]
   rw [hb] at step
   exact step
theorem spec_l4Left_ev (cs : List (List S48)) (hc : ∀ c ∈ cs, c ≠ [] ∧ c.length ≤ 1048576 ∧ ∀ x ∈ c, EntP x) (hn : cs.length ≤ 1048576) (hf : cs.flatten.length ≤ 1048576) (b : Bool) : EvP (fun k => spec_l4Left.f k cs b) (· = (partsB cs b).1.flatten) := by
 have h := spec_l4Left_l0 cs hc hn hf b cs.length (Nat.le_refl _)
 rw [List.drop_length] at h
 unfold spec_l4Left.f
 rw [w64 (by omega) (by omega)]
 exact h
theorem spec_l4Apart_ev (snaps : List Int) (hs : snaps.length ≤ 1048576) (x y : S48) : EvP (fun k => spec_l4Apart.f k snaps y.f1 x.f1) (· = partedB x y snaps) := by
 have key : ∀ (rest pre : List Int), snaps = pre ++ rest → EvP (fun k => spec_l4Apart.l0 k snaps y.f1 x.f1 (pre.length : Int)) (· = partedB x y rest) := by
  intro rest
  induction rest with
  | nil =>
   intro pre e
   exact EvP.step (f := fun _ => some false) (fun k => by rw [spec_l4Apart.l0, if_neg (by simp [e])]) (EvP.now rfl)
  | cons s rest ih =>
   intro pre e
   have hl : snaps.length = pre.length + (rest.length + 1) := by rw [e]; simp
   have hr : rd snaps (pre.length : Int) = s := by rw [e]; simp [rd]
   have e2 : wrap64 ((pre.length : Int) + 1) = ((pre ++ [s]).length : Int) := by rw [w64 (by omega) (by omega)]; simp
   have step := ih (pre ++ [s]) (by rw [e]; simp)
   refine EvP.step (fun k => by rw [spec_l4Apart.l0]) (EvP.pos (by omega) (EvP.pos (by omega) ?_))
   rw [hr, e2]
   refine EvP.split (fun h1 => EvP.split (fun h2 => EvP.now ?_) (fun h2 => step.mono ?_)) (fun h1 => step.mono ?_)
   ·
    simp [partedB, h1, h2]
   ·
    rintro _ rfl
    simp [partedB, h2]
   ·
    rintro _ rfl
    simp [partedB, h1]
 exact key snaps [] rfl
theorem spec_l4Classes_l1 (xs : List S48) (snaps : List Int) (hx : xs.length ≤ 1048576) (hs : snaps.length ≤ 1048576) : ∀ (f s i : Nat) (acc : List (List S48)), i + f = xs.length + 1 → s < i → i ≤ xs.length → acc.length ≤ s →
  EvP (fun k => spec_l4Classes.l1 k xs snaps acc (s : Int) (i : Int)) (· = acc ++ (cutAt (apAt xs snaps) xs.length f s i).map (clsL xs)) := by
 intro f
 induction f with
 | zero => intro s i acc h1 h2 h3; omega
 | succ f ih =>
  intro s i acc h1 h2 h3 ha
  have e1 : wrap64 ((i : Int) - 1) = (i : Int) - 1 := w64 (by omega) (by omega)
  have e2 : wrap64 ((i : Int) + 1) = ((i + 1 : Nat) : Int) := by rw [w64 (by omega) (by omega)]; omega
  have hcut : EvP (fun k => spec_l4Classes.l0 k xs snaps (acc ++ [clsL xs (s, i)]) (i : Int)) (· = acc ++ (clsL xs (s, i) :: (cutAt (apAt xs snaps) xs.length f i (i + 1)).map (clsL xs))) := by
   refine EvP.step (fun k => by rw [spec_l4Classes.l0]) (EvP.split (fun hi => ?_) (fun hi => EvP.now ?_))
   ·
    rw [e2]
    refine (ih i (i + 1) (acc ++ [clsL xs (s, i)]) (by omega) (by omega) (by omega) (by simp; omega)).mono ?_
    rintro _ rfl
    simp
   ·
    obtain rfl : f = 0 := by omega
    simp [cutAt]
  have hsl : ((xs.take ((i : Int)).toNat).drop ((s : Int)).toNat) = clsL xs (s, i) := by rw [Int.toNat_natCast, Int.toNat_natCast]; rfl
  refine EvP.step (fun k => by rw [spec_l4Classes.l1]) (EvP.split (fun hi => ?_) (fun hi => ?_))
  ·
   rw [e1]
   refine EvP.pos (by omega) (EvP.pos (by omega) (EvP.pos (by omega) ?_))
   refine EvP.bind (spec_l4Apart_ev snaps hs (rd_T48 xs ((i : Int) - 1)) (rd_T48 xs (i : Int))) ?_
   rintro _ rfl
   refine EvP.split (fun hap => ?_) (fun hap => ?_)
   ·
    rw [hsl]
    refine EvP.pos (by omega) (EvP.pos (by omega) (EvP.pos (by omega) (EvP.pos (by omega) (hcut.mono ?_))))
    rintro _ rfl
    rw [cutAt_cut (fun h => by have h' : apAt xs snaps i = true := hap; rw [h'] at h; cases h.2)]
    rfl
   ·
    rw [e2]
    refine (ih s (i + 1) acc (by omega) (by omega) (by omega) ha).mono ?_
    rintro _ rfl
    rw [cutAt_on (by omega) (show apAt xs snaps i = false from Bool.eq_false_iff.2 hap)]
  ·
   rw [hsl]
   refine EvP.pos (by omega) (EvP.pos (by omega) (EvP.pos (by omega) (EvP.pos (by omega) (hcut.mono ?_))))
   rintro _ rfl
   rw [cutAt_cut (fun h => by omega)]
   rfl
theorem spec_l4Classes_ev (xs : List S48) (snaps : List Int) (hx : xs.length ≤ 1048576) (hs : snaps.length ≤ 1048576) : EvP (fun k => spec_l4Classes.f k xs snaps) (· = classesL xs snaps) := by
 unfold spec_l4Classes.f classesL classCuts
 refine EvP.step (fun k => by rw [spec_l4Classes.l0]) (EvP.split (fun h => ?_) (fun h => EvP.now ?_))
 ·
  have := spec_l4Classes_l1 xs snaps hx hs xs.length 0 1 [] (by omega) (by omega) (by omega) (by simp)
  rw [List.nil_append] at this
  rw [show wrap64 (0 + 1) = ((1 : Nat) : Int) from (w64 (by omega) (by omega)).trans (by omega)]
  exact this
 ·
  have : xs.length = 0 := by omega
  rw [this]
  rfl
theorem cut_flat (ap : Nat → Bool) (xs : List S48) : ∀ f s i, i + f = xs.length + 1 → s < i → i ≤ xs.length → ((cutAt ap xs.length f s i).map (clsL xs)).flatten = xs.drop s := by
 intro f
 induction f with
 | zero => intro s i h1 h2 h3; omega
 | succ f ih =>
  intro s i h1 h2 h3
  rw [cutAt]
  split
  ·
   exact ih s (i + 1) (by omega) (by omega) (by omega)
  ·
   rw [List.map_cons, List.flatten_cons]
   have hsplit : xs.drop s = clsL xs (s, i) ++ xs.drop i := by
    have h := congrArg (List.drop s) (List.take_append_drop i xs)
    rw [List.drop_append] at h
    rw [← h]
    unfold clsL
    congr 1
    rw [List.length_take, show s - min i xs.length = 0 by omega]
    rfl
   by_cases hi : i < xs.length
   ·
    rw [ih i (i + 1) (by omega) (by omega) (by omega), hsplit]
   ·
    obtain rfl : f = 0 := by omega
    rw [hsplit, List.drop_eq_nil_of_le (by omega)]
    simp [cutAt]
theorem classesL_flat (xs : List S48) (snaps : List Int) : (classesL xs snaps).flatten = xs := by
 unfold classesL classCuts
 cases h : xs.length with
 | zero => rw [List.eq_nil_of_length_eq_zero h]; rfl
 | succ n =>
  have := cut_flat (apAt xs snaps) xs xs.length 0 1 (by omega) (by omega) (by omega)
  rw [← h]
  exact this
theorem classesL_ne (xs : List S48) (snaps : List Int) : ∀ c ∈ classesL xs snaps, c ≠ [] ∧ ∀ x ∈ c, x ∈ xs := by
 intro c hc
 obtain ⟨p, hp, rfl⟩ := List.mem_map.1 hc
 have hb := classCuts_bound xs snaps p hp
 have hl := clsL_length hb.1 hb.2
 exact ⟨fun e => by rw [e] at hl; simp at hl; omega, fun x hx => List.mem_of_mem_take (List.mem_of_mem_drop hx)⟩
theorem classesL_len (xs : List S48) (snaps : List Int) : ∀ c ∈ classesL xs snaps, c.length ≤ xs.length := by
 intro c hc
 obtain ⟨p, hp, rfl⟩ := List.mem_map.1 hc
 have hb := classCuts_bound xs snaps p hp
 have hl := clsL_length hb.1 hb.2
 omega
def keyL (xs : List S48) (snaps : List Int) (b : Bool) : List S48 := (partsB (classesL xs snaps) b).1.flatten
theorem keyL_len (xs : List S48) (snaps : List Int) (b : Bool) : (keyL xs snaps b).length ≤ xs.length := by
 have h := partsB_len (classesL xs snaps) (fun c hc => (classesL_ne xs snaps c hc).1) b
 rw [classesL_flat] at h
 exact h
theorem squashKey_eq (xs : List S48) (snaps : List Int) (b : Bool) (hx : xs.length ≤ 1048576) : impl_squashKey.f xs snaps b = some (keyL xs snaps b) := by
 have h := keyL_len xs snaps b
 unfold impl_squashKey.f
 rw [if_pos (by omega), sqParts_eq _ (fun c hc => (classesL_ne xs snaps c hc).1), Option.bind_some]
 unfold keyL at h
 rw [if_pos (by omega)]
 rfl
theorem spec_key_ev (xs : List S48) (snaps : List Int) (b : Bool) (hx : xs.length ≤ 1048576) (hs : snaps.length ≤ 1048576) (hp : ∀ x ∈ xs, EntP x) : EvP (fun k => spec_l4Left.f k (classesL xs snaps) b) (· = keyL xs snaps b) := by
 refine spec_l4Left_ev _ (fun c hc => ⟨(classesL_ne xs snaps c hc).1, Nat.le_trans (classesL_len xs snaps c hc) hx, fun x hx' => hp x ((classesL_ne xs snaps c hc).2 x hx')⟩) ?_ (by rw [classesL_flat]; exact hx) b
 unfold classesL
 rw [List.length_map]
 exact Nat.le_trans (classCuts_len xs snaps) hx
/-- Where the entries of one key begin and end. -/
def grpAt (xs : List S48) : Nat → Nat → Nat → List (Nat × Nat)
 | 0, _, _ => []
 | f + 1, s, i => if i < xs.length ∧ (rd_T48 xs (i : Int)).f0.toList = (rd_T48 xs (s : Int)).f0.toList then grpAt xs f s (i + 1) else (s, i) :: grpAt xs f i (i + 1)
def grpL (xs : List S48) (snaps : List Int) (b : Bool) (ps : List (Nat × Nat)) : List S48 := (ps.map fun p => keyL (clsL xs p) snaps b).flatten
def squashB (xs : List S48) (snaps : List Int) (b : Bool) : List S48 := grpL xs snaps b (grpAt xs xs.length 0 1)
def sqB (xs : List S48) (snaps : List Int) (b : Bool) : List S48 := if rightB xs = true then squashB xs snaps b else []
theorem clsL_sub {xs : List S48} {p : Nat × Nat} : ∀ x ∈ clsL xs p, x ∈ xs := fun x hx => List.mem_of_mem_take (List.mem_of_mem_drop hx)
theorem spec_Squash_l1 (xs : List S48) (snaps : List Int) (b : Bool) (hx : xs.length ≤ 1048576) (hs : snaps.length ≤ 1048576) (hp : ∀ x ∈ xs, EntP x) : ∀ (f s i : Nat) (acc : List S48), i + f = xs.length + 1 → s < i → i ≤ xs.length → acc.length ≤ s →
  EvP (fun k => spec_Squash.l1 k xs snaps b acc (s : Int) (i : Int)) (· = acc ++ grpL xs snaps b (grpAt xs f s i)) := by
 intro f
 induction f with
 | zero => intro s i acc h1 h2 h3; omega
 | succ f ih =>
  intro s i acc h1 h2 h3 ha
  have e2 : wrap64 ((i : Int) + 1) = ((i + 1 : Nat) : Int) := by rw [w64 (by omega) (by omega)]; omega
  have hcl : (clsL xs (s, i)).length = i - s := clsL_length h2 h3
  have hk := keyL_len (clsL xs (s, i)) snaps b
  have hcut : EvP (fun k => spec_Squash.l0 k xs snaps b (acc ++ keyL (clsL xs (s, i)) snaps b) (i : Int)) (· = acc ++ grpL xs snaps b ((s, i) :: grpAt xs f i (i + 1))) := by
   refine EvP.step (fun k => by rw [spec_Squash.l0]) (EvP.split (fun hi => ?_) (fun hi => EvP.now ?_))
   ·
    rw [e2]
    refine (ih i (i + 1) _ (by omega) (by omega) (by omega) (by rw [List.length_append]; omega)).mono ?_
    rintro _ rfl
    simp [grpL]
   ·
    obtain rfl : f = 0 := by omega
    simp [grpAt, grpL]
  have hsl : ((xs.take ((i : Int)).toNat).drop ((s : Int)).toNat) = clsL xs (s, i) := by rw [Int.toNat_natCast, Int.toNat_natCast]; rfl
  have hend : EvP (fun k => (spec_l4Classes.f k (clsL xs (s, i)) snaps).bind fun t => (spec_l4Left.f k t b).bind fun t2 => (if acc.length + t2.length < 2513169434916 then (spec_Squash.l0 k xs snaps b (acc ++ t2) (i : Int)) else (none))) (· = acc ++ grpL xs snaps b ((s, i) :: grpAt xs f i (i + 1))) := by
   refine EvP.bind (spec_l4Classes_ev _ snaps (by omega) hs) ?_
   rintro _ rfl
   refine EvP.bind (spec_key_ev _ snaps b (by omega) hs (fun x hx' => hp x (clsL_sub x hx'))) ?_
   rintro _ rfl
   exact EvP.pos (by omega) hcut
  refine EvP.step (fun k => by rw [spec_Squash.l1]) (EvP.split (fun hi => ?_) (fun hi => ?_))
  ·
   refine EvP.pos (by omega) (EvP.pos (by omega) (EvP.pos (by omega) (EvP.split (fun hq => ?_) (fun hq => ?_))))
   ·
    rw [e2]
    refine (ih s (i + 1) acc (by omega) (by omega) (by omega) ha).mono ?_
    rintro _ rfl
    rw [grpAt, if_pos ⟨by omega, hq⟩]
   ·
    rw [hsl]
    refine EvP.pos (by omega) (EvP.pos (by omega) (hend.mono ?_))
    rintro _ rfl
    rw [grpAt, if_neg (fun h => hq h.2)]
  ·
   rw [hsl]
   refine EvP.pos (by omega) (EvP.pos (by omega) (EvP.pos (by omega) (hend.mono ?_)))
   rintro _ rfl
   rw [grpAt, if_neg (fun h => hi (by have := h.1; omega))]
theorem impl_Squash_l1 (xs : List S48) (snaps : List Int) (b : Bool) (hx : xs.length ≤ 1048576) : ∀ (f s i : Nat) (acc : List S48), i + f = xs.length + 1 → s < i → i ≤ xs.length → acc.length ≤ s →
  EvP (fun k => impl_Squash.l1 k xs snaps b acc (s : Int) (i : Int)) (· = acc ++ grpL xs snaps b (grpAt xs f s i)) := by
 intro f
 induction f with
 | zero => intro s i acc h1 h2 h3; omega
 | succ f ih =>
  intro s i acc h1 h2 h3 ha
  have e2 : wrap64 ((i : Int) + 1) = ((i + 1 : Nat) : Int) := by rw [w64 (by omega) (by omega)]; omega
  have hcl : (clsL xs (s, i)).length = i - s := clsL_length h2 h3
  have hk := keyL_len (clsL xs (s, i)) snaps b
  have hcut : EvP (fun k => impl_Squash.l0 k xs snaps b (acc ++ keyL (clsL xs (s, i)) snaps b) (i : Int)) (· = acc ++ grpL xs snaps b ((s, i) :: grpAt xs f i (i + 1))) := by
   refine EvP.step (fun k => by rw [impl_Squash.l0]) (EvP.split (fun hi => ?_) (fun hi => EvP.now ?_))
   ·
    rw [e2]
    refine (ih i (i + 1) _ (by omega) (by omega) (by omega) (by rw [List.length_append]; omega)).mono ?_
    rintro _ rfl
    simp [grpL]
   ·
    obtain rfl : f = 0 := by omega
    simp [grpAt, grpL]
  have hsl : ((xs.take ((i : Int)).toNat).drop ((s : Int)).toNat) = clsL xs (s, i) := by rw [Int.toNat_natCast, Int.toNat_natCast]; rfl
  refine EvP.step (fun k => by rw [impl_Squash.l1]) (EvP.split (fun hi => ?_) (fun hi => ?_))
  ·
   refine EvP.pos (by omega) (EvP.pos (by omega) (EvP.pos (by omega) (EvP.split (fun hq => ?_) (fun hq => ?_))))
   ·
    rw [e2]
    refine (ih s (i + 1) acc (by omega) (by omega) (by omega) ha).mono ?_
    rintro _ rfl
    rw [grpAt, if_pos ⟨by omega, hq⟩]
   ·
    rw [hsl, squashKey_eq _ snaps b (by omega)]
    simp only [Option.bind_some]
    refine EvP.pos (by omega) (EvP.pos (by omega) (EvP.pos (by omega) (hcut.mono ?_)))
    rintro _ rfl
    rw [grpAt, if_neg (fun h => hq h.2)]
  ·
   rw [hsl, squashKey_eq _ snaps b (by omega)]
   simp only [Option.bind_some]
   refine EvP.pos (by omega) (EvP.pos (by omega) (EvP.pos (by omega) (EvP.pos (by omega) (hcut.mono ?_))))
   rintro _ rfl
   rw [grpAt, if_neg (fun h => hi (by have := h.1; omega))]
theorem spec_Squash_ev (xs : List S48) (snaps : List Int) (b : Bool) (hx : xs.length ≤ 1048576) (hs : snaps.length ≤ 1048576) (hk : KeysSmall xs) : EvP (fun k => spec_Squash.f k xs snaps b) (· = sqB xs snaps b) := by
 unfold spec_Squash.f sqB
 simp only [Option.bind_some]
 refine EvP.bind (spec_l4Right_ev xs hx hk) ?_
 rintro _ rfl
 refine EvP.split (fun hr => ?_) (fun hr => EvP.now (by rw [if_neg hr]))
 rw [if_pos hr]
 refine EvP.step (fun k => by rw [spec_Squash.l0]) (EvP.split (fun h => ?_) (fun h => EvP.now ?_))
 ·
  have := spec_Squash_l1 xs snaps b hx hs (fun x hx' => entP_of (right_ents xs none hr x hx')) xs.length 0 1 [] (by omega) (by omega) (by omega) (by simp)
  rw [List.nil_append] at this
  rw [show wrap64 (0 + 1) = ((1 : Nat) : Int) from (w64 (by omega) (by omega)).trans (by omega)]
  exact this
 ·
  have : xs = [] := List.eq_nil_of_length_eq_zero (by omega)
  subst this
  rfl
theorem impl_Squash_ev (xs : List S48) (snaps : List Int) (b : Bool) (hx : xs.length ≤ 1048576) (hk : KeysSmall xs) : EvP (fun k => impl_Squash.f k xs snaps b) (· = sqB xs snaps b) := by
 unfold impl_Squash.f sqB
 refine EvP.bind (impl_inOrder_ev xs hx hk) ?_
 rintro _ rfl
 refine EvP.split (fun hr => ?_) (fun hr => EvP.now (by rw [if_neg hr]))
 rw [if_pos hr]
 refine EvP.step (fun k => by rw [impl_Squash.l0]) (EvP.split (fun h => ?_) (fun h => EvP.now ?_))
 ·
  have := impl_Squash_l1 xs snaps b hx xs.length 0 1 [] (by omega) (by omega) (by omega) (by simp)
  rw [List.nil_append] at this
  rw [show wrap64 (0 + 1) = ((1 : Nat) : Int) from (w64 (by omega) (by omega)).trans (by omega)]
  exact this
 ·
  have : xs = [] := List.eq_nil_of_length_eq_zero (by omega)
  subst this
  rfl

/-! ### Marks -/
theorem markText_ev (a : Int) (h0 : 0 ≤ a) (h1 : a ≤ 2 ^ 61) : EvP (fun k => laws_markText.f k a) (fun _ => True) := by
 have key : ∀ (n : Nat) (m : Nat) (a : Int) (s : ByteArray), a.toNat < n → n ≤ m → 0 ≤ a → a ≤ 2 ^ 61 → s.size + n ≤ 2 ^ 62 + 64 → EvP (fun k => laws_markText.l0 k a s) (fun _ => True) := by
  intro n
  induction n with
  | zero => intro m a s h; omega
  | succ n ih =>
   intro m a s hn hm h0 h1 hs
   refine EvP.step (fun k => by rw [laws_markText.l0]) (EvP.split (fun hp => ?_) (fun hp => ?_))
   ·
    simp only [Option.bind_some]
    have hz : (strOfNums [(wrap64 (48 + (Int.tmod a 10))) % 256]).size = 1 := rfl
    refine EvP.pos (by rw [hz]; omega) ?_
    have e : wrap64 (Int.tdiv a 10) = a / 10 := by rw [Int.tdiv_eq_ediv_of_nonneg h0]; exact w64 (by omega) (by omega)
    rw [e]
    exact ih m _ _ (by omega) (by omega) (by omega) (by omega) (by rw [ByteArray.size_append, hz]; omega)
   ·
    exact EvP.pos (by omega) (EvP.now trivial)
 unfold laws_markText.f
 refine EvP.split (fun _ => EvP.now trivial) (fun h => ?_)
 exact key (a.toNat + 1) (a.toNat + 1) a _ (by omega) (by omega) h0 h1 (by show 0 + _ ≤ _; omega)
/-- Entries as they are marked from a number on. -/
def MarkedE : Int → List S48 → Prop
 | _, [] => True
 | a, y :: ys => EvP (fun k => laws_markText.f k a) (· = y.f0) ∧ y.f1 = a + 1 ∧ y.f2 = a + 2 ∧ EvP (fun k => laws_markText.f k (a + 3)) (· = y.f3) ∧ y.f4 = a + 4 ∧ MarkedE (a + 5) ys
theorem set_mE (pre rest : List S48) (x y : S48) : (pre ++ x :: rest).set ((pre.length : Int)).toNat y = pre ++ y :: rest := by simp
set_option maxHeartbeats 1000000 in
theorem markEntryS_ev (xs : List S48) (a : Int) (h0 : 0 ≤ a) (hn : a + 5 * xs.length ≤ 2 ^ 60) : EvP (fun k => laws_markEntryS.f k xs a) (fun t => t.1 = a + 5 * xs.length ∧ t.2.length = xs.length ∧ MarkedE a t.2) := by
 have key : ∀ (rest pre : List S48) (a : Int), 0 ≤ a → a + 5 * rest.length ≤ 2 ^ 60 → pre.length + rest.length ≤ 2 ^ 60 →
   EvP (fun k => laws_markEntryS.l0 k (pre ++ rest) a (pre.length : Int)) (fun t => t.1 = a + 5 * rest.length ∧ ∃ zs, t.2 = pre ++ zs ∧ zs.length = rest.length ∧ MarkedE a zs) := by
  intro rest
  induction rest with
  | nil =>
   intro pre a h0 hn hl
   exact EvP.step (f := fun _ => some (a, pre ++ [])) (fun k => by rw [laws_markEntryS.l0, if_neg (by simp)]) (EvP.now ⟨by simp, [], rfl, rfl, trivial⟩)
  | cons x rest ih =>
   intro pre a h0 hn hl
   simp only [List.length_cons] at hn hl
   refine EvP.step (fun k => by rw [laws_markEntryS.l0]) (EvP.pos (by simp; omega) ?_)
   obtain ⟨s, hs, _⟩ := markText_ev a h0 (by omega)
   refine EvP.bind (P := (· = s)) ⟨s, hs, rfl⟩ ?_
   intro s' hs'
   obtain rfl : s' = s := hs'
   refine EvP.pos (by omega) ?_
   have b1 : 0 ≤ a + 5 := by omega
   have b2 : a + 5 + 5 * (rest.length : Int) ≤ 2 ^ 60 := by omega
   have b3 : ∀ y : S48, (pre ++ [y]).length + rest.length ≤ 2 ^ 60 := fun y => by simp; omega
   have b4 : a + 5 + 5 * (rest.length : Int) = a + 5 * ((rest.length + 1 : Nat) : Int) := by omega
   obtain ⟨u, hu, _⟩ := markText_ev (a + 3) (by omega) (by omega)
   have w1 : wrap64 (a + 1) = a + 1 := w64 (by omega) (by omega)
   have w2 : wrap64 (a + 1 + 1) = a + 2 := (w64 (by omega) (by omega)).trans (by omega)
   have w3 : wrap64 (a + 2 + 1) = a + 3 := (w64 (by omega) (by omega)).trans (by omega)
   have w4 : wrap64 (a + 3 + 1) = a + 4 := (w64 (by omega) (by omega)).trans (by omega)
   have w5 : wrap64 (a + 4 + 1) = a + 5 := (w64 (by omega) (by omega)).trans (by omega)
   have e2 : wrap64 ((pre.length : Int) + 1) = ((pre.length + 1 : Nat) : Int) := (w64 (by omega) (by omega)).trans (by omega)
   simp only [Option.bind_some, w1, w2, w3, w4, w5, e2, set_mE, rd_midE]
   refine EvP.bind (P := (· = u)) ⟨u, hu, rfl⟩ ?_
   intro u' hu'
   obtain rfl : u' = u := hu'
   have step := ih (pre ++ [⟨s', a + 1, a + 2, u', a + 4⟩]) (a + 5) b1 b2 (b3 _)
   rw [List.length_append, List.length_singleton, List.append_assoc] at step
   refine step.mono ?_
   rintro t ⟨g1, zs, g2, g3, g4⟩
   refine ⟨by rw [g1, List.length_cons]; exact b4, ⟨s', a + 1, a + 2, u', a + 4⟩ :: zs, by rw [g2]; simp, by simp [g3], ⟨s', hs, rfl⟩, rfl, rfl, ⟨u', hu, rfl⟩, rfl, g4⟩
 refine (key xs [] a h0 hn (by simp; omega)).mono ?_
 rintro t ⟨g1, zs, g2, g3, g4⟩
 rw [List.nil_append] at g2
 subst g2
 exact ⟨g1, g3, g4⟩
theorem heldEntryS_ev (zs : List S48) (a : Int) (hm : MarkedE a zs) (h0 : 0 ≤ a) (hn : a + 5 * zs.length ≤ 2 ^ 60) : EvP (fun k => laws_heldEntryS.f k zs a) (· = a + 5 * zs.length) := by
 have key : ∀ (rest pre : List S48) (a : Int), MarkedE a rest → 0 ≤ a → a + 5 * rest.length ≤ 2 ^ 60 → pre.length + rest.length ≤ 2 ^ 60 → EvP (fun k => laws_heldEntryS.l0 k (pre ++ rest) a (pre.length : Int)) (· = a + 5 * rest.length) := by
  intro rest
  induction rest with
  | nil =>
   intro pre a hm h0 hn hl
   exact EvP.step (f := fun _ => some a) (fun k => by rw [laws_heldEntryS.l0, if_neg (by simp)]) (EvP.now (by simp))
  | cons x rest ih =>
   intro pre a hm h0 hn hl
   simp only [List.length_cons] at hn hl
   obtain ⟨m1, m2, m3, m4, m5, m6⟩ := hm
   have b1 : 0 ≤ a + 5 := by omega
   have b2 : a + 5 + 5 * (rest.length : Int) ≤ 2 ^ 60 := by omega
   have b3 : (pre ++ [x]).length + rest.length ≤ 2 ^ 60 := by simp; omega
   have b4 : a + 5 + 5 * (rest.length : Int) = a + 5 * ((rest.length + 1 : Nat) : Int) := by omega
   have b5 : (pre.length : Int) < ((pre ++ x :: rest).length : Int) := by simp; omega
   have b6 : (0 : Int) ≤ (pre.length : Int) := by omega
   have w1 : wrap64 (a + 1) = a + 1 := w64 (by omega) (by omega)
   have w2 : wrap64 (a + 1 + 1) = a + 2 := (w64 (by omega) (by omega)).trans (by omega)
   have w3 : wrap64 (a + 2 + 1) = a + 3 := (w64 (by omega) (by omega)).trans (by omega)
   have w4 : wrap64 (a + 3 + 1) = a + 4 := (w64 (by omega) (by omega)).trans (by omega)
   have w5 : wrap64 (a + 4 + 1) = a + 5 := (w64 (by omega) (by omega)).trans (by omega)
   have e2 : wrap64 ((pre.length : Int) + 1) = ((pre ++ [x]).length : Int) := by rw [w64 (by omega) (by omega)]; simp
   refine EvP.step (fun k => by rw [laws_heldEntryS.l0]) (EvP.pos b5 (EvP.pos b6 ?_))
   refine EvP.bind m1 ?_
   rintro _ rfl
   rw [rd_midE, w1, w2, w3, w4, w5, e2]
   refine EvP.pos rfl (EvP.pos m2 (EvP.pos m3 ?_))
   refine EvP.bind m4 ?_
   rintro _ rfl
   have step := ih (pre ++ [x]) (a + 5) m6 b1 b2 b3
   rw [List.append_assoc] at step
   refine EvP.pos rfl (EvP.pos m5 (step.mono ?_))
   rintro _ rfl
   rw [List.length_cons]
   exact b4
 exact key zs [] a hm h0 hn (by simp; omega)

/-! ### Rows of whole numbers: copies, sameness, marks -/
theorem rd_midI (pre rest : List Int) (x : Int) : rd (pre ++ x :: rest) (pre.length : Int) = x := by simp [rd]
theorem toIntS_ev (xs : List Int) (hx : xs.length ≤ 1048576) : EvP (fun k => laws_toIntS.f k xs) (· = xs) := by
 have key : ∀ (rest pre : List Int), xs = pre ++ rest → EvP (fun k => laws_toIntS.l0 k xs (pre ++ List.replicate rest.length 0) (pre.length : Int)) (· = xs) := by
  intro rest
  induction rest with
  | nil =>
   intro pre e
   refine EvP.step (fun k => by rw [laws_toIntS.l0]) (EvP.neg (by simp [e]) (EvP.now ?_))
   simp [e]
  | cons x rest ih =>
   intro pre e
   have hl : xs.length = pre.length + (rest.length + 1) := by rw [e]; simp
   have hr : rd xs (pre.length : Int) = x := by rw [e]; exact rd_midI pre rest x
   have e2 : wrap64 ((pre.length : Int) + 1) = ((pre ++ [x]).length : Int) := by rw [w64 (by omega) (by omega)]; simp
   have e3 : (pre ++ List.replicate (x :: rest).length (0 : Int)).set ((pre.length : Int)).toNat x = (pre ++ [x]) ++ List.replicate rest.length 0 := by simp [List.replicate_succ]
   refine EvP.step (fun k => by rw [laws_toIntS.l0]) (EvP.pos (by omega) (EvP.pos (by omega) (EvP.pos (by simp; omega) ?_)))
   rw [hr, e2, e3]
   exact ih (pre ++ [x]) (by rw [e]; simp)
 unfold laws_toIntS.f
 refine EvP.pos (by omega) (EvP.pos (by omega) ?_)
 rw [Int.toNat_natCast]
 exact key xs [] rfl
theorem eqIntS_same (xs : List Int) (hx : xs.length ≤ 1048576) : EvP (fun k => laws_eqIntS.f k xs xs) (· = true) := by
 have key : ∀ (rest pre : List Int), xs = pre ++ rest → EvP (fun k => laws_eqIntS.l0 k xs xs (pre.length : Int)) (· = true) := by
  intro rest
  induction rest with
  | nil =>
   intro pre e
   exact EvP.step (f := fun _ => some true) (fun k => by rw [laws_eqIntS.l0, if_neg (by simp [e])]) (EvP.now rfl)
  | cons x rest ih =>
   intro pre e
   have hl : xs.length = pre.length + (rest.length + 1) := by rw [e]; simp
   have e2 : wrap64 ((pre.length : Int) + 1) = ((pre ++ [x]).length : Int) := by rw [w64 (by omega) (by omega)]; simp
   refine EvP.step (fun k => by rw [laws_eqIntS.l0]) (EvP.pos (by omega) (EvP.pos (by omega) (EvP.pos (by omega) (EvP.pos rfl ?_))))
   rw [e2]
   exact ih (pre ++ [x]) (by rw [e]; simp)
 unfold laws_eqIntS.f
 exact EvP.pos rfl (key xs [] rfl)
theorem markIntS_ev (xs : List Int) (a : Int) (h0 : 0 ≤ a) (hn : a + xs.length ≤ 2 ^ 60) : EvP (fun k => laws_markIntS.f k xs a) (fun t => 0 ≤ t.1) := by
 have key : ∀ (m : Nat) (ys : List Int) (i : Nat) (a : Int), ys.length = i + m → 0 ≤ a → a + m ≤ 2 ^ 60 → i + m ≤ 2 ^ 60 → EvP (fun k => laws_markIntS.l0 k ys a (i : Int)) (fun t => 0 ≤ t.1) := by
  intro m
  induction m with
  | zero =>
   intro ys i a hl h0 hn hi
   exact EvP.step (f := fun _ => some (a, ys)) (fun k => by rw [laws_markIntS.l0, if_neg (by omega)]) (EvP.now h0)
  | succ m ih =>
   intro ys i a hl h0 hn hi
   have w1 : wrap64 (a + 1) = a + 1 := w64 (by omega) (by omega)
   have e2 : wrap64 ((i : Int) + 1) = ((i + 1 : Nat) : Int) := (w64 (by omega) (by omega)).trans (by omega)
   refine EvP.step (fun k => by rw [laws_markIntS.l0]) (EvP.pos (by omega) (EvP.pos (by omega) ?_))
   rw [w1, e2]
   exact ih _ (i + 1) (a + 1) (by simp; omega) (by omega) (by omega) (by omega)
 exact key xs.length xs 0 a (by omega) h0 hn (by omega)

theorem eqEntryS_same (xs : List S48) (hx : xs.length ≤ 1048576) : EvP (fun k => laws_eqEntryS.f k xs xs) (· = true) := (eqEntryS_ev xs xs hx).mono (by rintro _ rfl; simp)
theorem grpL_len (xs : List S48) (snaps : List Int) (b : Bool) : ∀ f s i, i + f = xs.length + 1 → s < i → i ≤ xs.length → (grpL xs snaps b (grpAt xs f s i)).length ≤ xs.length - s := by
 intro f
 induction f with
 | zero => intro s i h1 h2 h3; omega
 | succ f ih =>
  intro s i h1 h2 h3
  rw [grpAt]
  split
  ·
   rename_i h
   exact ih s (i + 1) (by omega) (by omega) (by omega)
  ·
   have hk := keyL_len (clsL xs (s, i)) snaps b
   have hc : (clsL xs (s, i)).length = i - s := clsL_length h2 h3
   have e : (grpL xs snaps b ((s, i) :: grpAt xs f i (i + 1))).length = (keyL (clsL xs (s, i)) snaps b).length + (grpL xs snaps b (grpAt xs f i (i + 1))).length := by simp [grpL]
   rw [e]
   by_cases hi : i < xs.length
   ·
    have := ih i (i + 1) (by omega) (by omega) (by omega)
    omega
   ·
    obtain rfl : f = 0 := by omega
    have e0 : (grpL xs snaps b (grpAt xs 0 i (i + 1))).length = 0 := by simp [grpAt, grpL]
    omega
theorem sqB_len (xs : List S48) (snaps : List Int) (b : Bool) : (sqB xs snaps b).length ≤ xs.length := by
 unfold sqB
 split
 ·
  unfold squashB
  cases h : xs.length with
  | zero => simp [grpAt, grpL]
  | succ n =>
   have := grpL_len xs snaps b xs.length 0 1 (by omega) (by omega) (by omega)
   rw [h] at this
   exact this
 ·
  simp
theorem FnExactSquash (l0 : List S57) (l1 : List Int) (a2 : Bool)
  (g0 : l0.length ≤ maxLen ∧ ∀ x ∈ l0, x.f0.size ≤ maxLen ∧ (Lit.int .i64 x.f1).wf = true ∧ (Lit.int .i64 x.f2).wf = true ∧ x.f3.size ≤ maxLen ∧ (Lit.int .i64 x.f4).wf = true) (g1 : l1.length ≤ maxLen ∧ ∀ x ∈ l1, (Lit.int .i64 x).wf = true) (g2 : True) :
  ∃ k, laws_FnExactSquash.f k l0 l1 a2 = some true := by
 refine EvP.done ?_
 unfold laws_FnExactSquash.f
 refine EvP.split (fun _ => EvP.now rfl) (fun hs0 => ?_)
 have hs : l1.length ≤ 1048576 := by omega
 refine EvP.bind (szEntryS_ev l0 1048576 g0.1 (fun x hx => ⟨(g0.2 x hx).1, (g0.2 x hx).2.2.2.1⟩) (by omega) (by omega)) ?_
 rintro r ⟨hr, hb⟩
 refine EvP.split (fun _ => EvP.now rfl) (fun hp => ?_)
 obtain ⟨n0, s0⟩ := hb (by omega)
 have n1 : (l0.map entOf).length ≤ 1048576 := by simpa using n0
 have hk : KeysSmall (l0.map entOf) := by
  intro y hy
  obtain ⟨x, hx, rfl⟩ := List.mem_map.1 hy
  have := (s0 x hx).1
  show x.f0.size ≤ _
  omega
 have hq := sqB_len (l0.map entOf) l1 a2
 have hq2 : (sqB (l0.map entOf) l1 a2).length ≤ 1048576 := Nat.le_trans hq n1
 refine EvP.bind (toEntryS_ev l0 n0) ?_
 rintro _ rfl
 refine EvP.bind (toIntS_ev l1 hs) ?_
 rintro _ rfl
 refine EvP.bind (spec_Squash_ev _ _ a2 n1 hs hk) ?_
 rintro _ rfl
 refine EvP.bind (toEntryS_ev l0 n0) ?_
 rintro _ rfl
 refine EvP.bind (toIntS_ev _ hs) ?_
 rintro _ rfl
 refine EvP.bind (impl_Squash_ev _ _ a2 n1 hk) ?_
 rintro _ rfl
 refine EvP.bind (eqEntryS_same _ hq2) ?_
 rintro _ rfl
 refine EvP.pos rfl (EvP.bind (toEntryS_ev l0 n0) ?_)
 rintro _ rfl
 refine EvP.bind (eqEntryS_same _ n1) ?_
 rintro _ rfl
 refine EvP.pos rfl (EvP.bind (toIntS_ev _ hs) ?_)
 rintro _ rfl
 refine EvP.bind (eqIntS_same _ hs) ?_
 rintro _ rfl
 refine EvP.pos rfl (EvP.bind (markEntryS_ev _ 1 (by omega) (by omega)) ?_)
 rintro ⟨t1, y1⟩ ⟨h1, h2, h3⟩
 refine EvP.bind (markIntS_ev _ t1 (by simp only at h1; omega) (by simp only at h1; omega)) ?_
 rintro ⟨t2, y2⟩ h4
 refine EvP.neg (by simp only at h4 ⊢; omega) (EvP.bind (eqEntryS_same _ hq2) ?_)
 rintro _ rfl
 refine EvP.pos rfl (EvP.bind (markEntryS_ev _ 1 (by omega) (by omega)) ?_)
 rintro ⟨t3, y3⟩ ⟨h5, h6, h7⟩
 simp only at h5 h6 h7
 refine EvP.bind (heldEntryS_ev y3 1 h7 (by omega) (by omega)) ?_
 rintro _ rfl
 refine EvP.neg (by omega) (EvP.pos (by simp only; omega) ?_)
 refine EvP.bind (toEntryS_ev l0 n0) ?_
 rintro _ rfl
 refine EvP.bind (toIntS_ev _ hs) ?_
 rintro _ rfl
 refine EvP.bind (impl_Squash_ev _ _ a2 n1 hk) ?_
 rintro _ rfl
 refine EvP.bind (eqEntryS_same _ hq2) ?_
 rintro _ rfl
 refine EvP.pos rfl (EvP.bind (heldEntryS_ev y3 1 h7 (by omega) (by omega)) ?_)
 rintro _ rfl
 exact EvP.neg (by omega) (EvP.pos (by simp only; omega) (EvP.now rfl))


end Go.Proofs.Ytcfebbhiehaocaa.Pure
