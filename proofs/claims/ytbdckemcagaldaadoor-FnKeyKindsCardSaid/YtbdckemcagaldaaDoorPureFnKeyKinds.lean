/- Key kinds do not overlap, for every code. -/
import Derived.Test.YtbdckemcagaldaaDoorQFnKeyKindsx4
import Derived.Test.YtbdckemcagaldaaDoorBBase
set_option linter.unusedVariables false
set_option linter.unusedSimpArgs false
namespace Go.Proofs.YtbdckemcagaldaaDoor.Pure
open Go.RowKit Go.Proofs.YtbdckemcagaldaaDoor.QFnKeyKinds Go.Proofs.YtbdckemcagaldaaDoorW.PrintWords Go.Proofs.YtbdckemcagaldaaDoorW.PrintLast Go.Proofs.YtbdckemcagaldaaDoorW.PrintMore Go.Proofs.YtbdckemcagaldaaDoor.B

/-! ### AcctOk -/
/-- d letters from place i on are all letters a to z. -/
def lettersB (s : ByteArray) : Nat → Int → Bool
  | 0, _ => true
  | d + 1, i => decide (97 ≤ bt s i) && decide (bt s i ≤ 122) && lettersB s d (i + 1)
def acctB (s : ByteArray) : Bool := decide (1 ≤ s.size) && decide (s.size ≤ 4) && lettersB s s.size 0
theorem spec_AcctOk_l0 (s : ByteArray) (hs : s.size ≤ 140737488351232) : ∀ (d : Nat) (i : Int), 0 ≤ i → i + d = s.size →
    EvP (fun k => spec_AcctOk.l0 k s i) (· = (decide (1 ≤ s.size) && decide (s.size ≤ 4) && lettersB s d i)) := by
  intro d
  induction d with
  | zero =>
    intro i h0 h
    refine EvP.step (fun k => by rw [spec_AcctOk.l0]) ?_
    refine EvP.neg (by omega) ?_
    refine EvP.split (fun h => ?_) (fun h => ?_)
    · refine EvP.now ?_
      have e1 : decide (1 ≤ s.size) = true := decide_eq_true (by omega)
      have e2 : decide ((s.size : Int) ≤ 4) = decide (s.size ≤ 4) := by rw [decide_eq_decide]; omega
      simp only [lettersB, e1, e2, Bool.true_and, Bool.and_true]
    · refine EvP.now ?_
      have e1 : decide (1 ≤ s.size) = false := decide_eq_false (by omega)
      simp only [lettersB, e1, Bool.false_and]
  | succ d ih =>
    intro i h0 h
    refine EvP.step (fun k => by rw [spec_AcctOk.l0]) ?_
    refine EvP.pos (by omega) ?_
    refine EvP.pos (by omega) ?_
    refine EvP.split (fun h1 => EvP.now ?_) (fun h1 => EvP.split (fun h2 => EvP.now ?_) (fun h2 => ?_))
    · have e1 : decide (97 ≤ bt s i) = false := decide_eq_false (by omega)
      simp [lettersB, e1]
    · have e1 : decide (bt s i ≤ 122) = false := decide_eq_false (by omega)
      simp [lettersB, e1]
    · rw [w64 (by omega) (by omega)]
      have e1 : decide (97 ≤ bt s i) = true := decide_eq_true (by omega)
      have e2 : decide (bt s i ≤ 122) = true := decide_eq_true (by omega)
      have := ih (i + 1) (by omega) (by omega)
      simp only [lettersB, e1, e2, Bool.true_and]
      exact this
theorem spec_AcctOk_ev (s : ByteArray) (hs : s.size ≤ 140737488351232) : EvP (fun k => spec_AcctOk.f k s) (· = acctB s) :=
  spec_AcctOk_l0 s hs s.size 0 (by omega) (by omega)
theorem impl_AcctOk_l0 (s : ByteArray) (hs : s.size ≤ 140737488351232) : ∀ (d : Nat) (i : Int), 0 ≤ i → i + d = s.size →
    EvP (fun k => impl_AcctOk.l0 k s (s.size : Int) i) (· = lettersB s d i) := by
  intro d
  induction d with
  | zero =>
    intro i h0 h
    refine EvP.step (fun k => by rw [impl_AcctOk.l0]) ?_
    refine EvP.neg (by omega) ?_
    exact EvP.now (by simp [lettersB])
  | succ d ih =>
    intro i h0 h
    refine EvP.step (fun k => by rw [impl_AcctOk.l0]) ?_
    refine EvP.pos (by omega) (EvP.pos (by omega) (EvP.pos (by omega) ?_))
    refine EvP.split (fun h1 => EvP.now ?_) (fun h1 => EvP.split (fun h2 => EvP.now ?_) (fun h2 => ?_))
    · have e1 : decide (97 ≤ bt s i) = false := decide_eq_false (by omega)
      simp [lettersB, e1]
    · have e1 : decide (bt s i ≤ 122) = false := decide_eq_false (by omega)
      simp [lettersB, e1]
    · rw [w64 (by omega) (by omega)]
      have e1 : decide (97 ≤ bt s i) = true := decide_eq_true (by omega)
      have e2 : decide (bt s i ≤ 122) = true := decide_eq_true (by omega)
      have := ih (i + 1) (by omega) (by omega)
      simp only [lettersB, e1, e2, Bool.true_and]
      exact this
theorem impl_AcctOk_ev (s : ByteArray) (hs : s.size ≤ 140737488351232) : EvP (fun k => impl_AcctOk.f k s) (· = acctB s) := by
  unfold impl_AcctOk.f acctB
  refine EvP.split (fun h => ?_) (fun h => ?_)
  · refine EvP.step (fun k => by rw [impl_AcctOk.j0]) (EvP.pos rfl (EvP.now ?_))
    have e1 : decide (1 ≤ s.size) = false := decide_eq_false (by omega)
    simp [e1]
  · have e1 : decide (1 ≤ s.size) = true := decide_eq_true (by omega)
    refine EvP.step (fun k => by rw [impl_AcctOk.j0]) (EvP.split (fun h1 => EvP.now ?_) (fun h1 => ?_))
    · have := of_decide_eq_true h1
      have e2 : decide (s.size ≤ 4) = false := decide_eq_false (by omega)
      simp [e2]
    · have : ¬ (s.size : Int) > 4 := fun h => h1 (decide_eq_true h)
      have e2 : decide (s.size ≤ 4) = true := decide_eq_true (by omega)
      simp only [e1, e2, Bool.true_and]
      exact impl_AcctOk_l0 s hs s.size 0 (by omega) (by omega)

/-! ### KeyOk -/
def keyByteB (c : Int) : Bool := decide ((97 ≤ c ∧ c ≤ 122) ∨ (47 ≤ c ∧ c ≤ 57))
/-- d bytes from place i on are all a to z, 0 to 9 or a slash. -/
def keysB (s : ByteArray) : Nat → Int → Bool
  | 0, _ => true
  | d + 1, i => keyByteB (bt s i) && keysB s d (i + 1)
def keyB (s : ByteArray) : Bool := decide (1 ≤ s.size) && decide (s.size ≤ 8) && keysB s s.size 0
theorem spec_KeyOk_l0 (s : ByteArray) (hs : s.size ≤ 140737488351232) : ∀ (d : Nat) (i : Int), 0 ≤ i → i + d = s.size →
    EvP (fun k => spec_KeyOk.l0 k s i) (· = (decide (1 ≤ s.size) && decide (s.size ≤ 8) && keysB s d i)) := by
  intro d
  induction d with
  | zero =>
    intro i h0 h
    refine EvP.step (fun k => by rw [spec_KeyOk.l0]) ?_
    refine EvP.neg (by omega) ?_
    refine EvP.split (fun h => ?_) (fun h => ?_)
    · refine EvP.now ?_
      have e1 : decide (1 ≤ s.size) = true := decide_eq_true (by omega)
      have e2 : decide ((s.size : Int) ≤ 8) = decide (s.size ≤ 8) := by rw [decide_eq_decide]; omega
      simp only [keysB, e1, e2, Bool.true_and, Bool.and_true]
    · refine EvP.now ?_
      have e1 : decide (1 ≤ s.size) = false := decide_eq_false (by omega)
      simp only [keysB, e1, Bool.false_and]
  | succ d ih =>
    intro i h0 h
    refine EvP.step (fun k => by rw [spec_KeyOk.l0]) ?_
    refine EvP.pos (by omega) (EvP.pos (by omega) ?_)
    have := ih (i + 1) (by omega) (by omega)
    rw [w64 (by omega) (by omega)]
    repeat' with_reducible refine EvP.split (fun _ => ?_) (fun _ => ?_)
    all_goals first
      | (refine EvP.now ?_; have e1 : keyByteB (bt s i) = false := decide_eq_false (by omega); simp only [keysB, e1, Bool.false_and, Bool.and_false])
      | (have e1 : keyByteB (bt s i) = true := decide_eq_true (by omega); simp only [keysB, e1, Bool.true_and]; exact this)
theorem spec_KeyOk_ev (s : ByteArray) (hs : s.size ≤ 140737488351232) : EvP (fun k => spec_KeyOk.f k s) (· = keyB s) :=
  spec_KeyOk_l0 s hs s.size 0 (by omega) (by omega)
theorem impl_KeyOk_l0 (s : ByteArray) (hs : s.size ≤ 140737488351232) : ∀ (d : Nat) (i : Int), 0 ≤ i → i + d = s.size →
    EvP (fun k => impl_KeyOk.l0 k s (s.size : Int) i) (· = keysB s d i) := by
  intro d
  induction d with
  | zero =>
    intro i h0 h
    refine EvP.step (fun k => by rw [impl_KeyOk.l0]) ?_
    refine EvP.neg (by omega) ?_
    exact EvP.now (by simp [keysB])
  | succ d ih =>
    intro i h0 h
    refine EvP.step (fun k => by rw [impl_KeyOk.l0]) ?_
    refine EvP.pos (by omega) (EvP.pos (by omega) (EvP.pos (by omega) ?_))
    have := ih (i + 1) (by omega) (by omega)
    rw [w64 (by omega) (by omega)]
    repeat' with_reducible refine EvP.split (fun _ => ?_) (fun _ => ?_)
    all_goals first
      | (refine EvP.now ?_; have e1 : keyByteB (bt s i) = false := decide_eq_false (by omega); simp only [keysB, e1, Bool.false_and, Bool.and_false])
      | (have e1 : keyByteB (bt s i) = true := decide_eq_true (by omega); simp only [keysB, e1, Bool.true_and]; exact this)
theorem impl_KeyOk_ev (s : ByteArray) (hs : s.size ≤ 140737488351232) : EvP (fun k => impl_KeyOk.f k s) (· = keyB s) := by
  unfold impl_KeyOk.f keyB
  refine EvP.split (fun h => ?_) (fun h => ?_)
  · refine EvP.step (fun k => by rw [impl_KeyOk.j0]) (EvP.pos rfl (EvP.now ?_))
    have e1 : decide (1 ≤ s.size) = false := decide_eq_false (by omega)
    simp [e1]
  · have e1 : decide (1 ≤ s.size) = true := decide_eq_true (by omega)
    refine EvP.step (fun k => by rw [impl_KeyOk.j0]) (EvP.split (fun h1 => EvP.now ?_) (fun h1 => ?_))
    · have := of_decide_eq_true h1
      have e2 : decide (s.size ≤ 8) = false := decide_eq_false (by omega)
      simp [e2]
    · have : ¬ (s.size : Int) > 8 := fun h => h1 (decide_eq_true h)
      have e2 : decide (s.size ≤ 8) = true := decide_eq_true (by omega)
      simp only [e1, e2, Bool.true_and]
      exact impl_KeyOk_l0 s hs s.size 0 (by omega) (by omega)

/-! ### Keys of two digits -/
def dig (d : Nat) : ByteArray := ⟨#[UInt8.ofNat (48 + d)]⟩
theorem dig_num (d : Nat) (h : d ≤ 9) : strOfNums [(wrap64 (48 + (d : Int))) % 256] = dig d := by
  have e : (wrap64 (48 + (d : Int))) % 256 = ((48 + d : Nat) : Int) := by unfold wrap64; omega
  rw [e]
  simp only [strOfNums, dig, List.map_cons, List.map_nil, Int.toNat_natCast]
theorem dig_ev (d : Nat) (h : d ≤ 9) : EvP (fun k => spec_l9Dec.f k (d : Int)) (· = dig d) := by
  refine EvP.step (fun k => by rw [spec_l9Dec.f]) (EvP.neg (by omega) (EvP.neg (by omega) ?_))
  refine EvP.step (fun k => by rw [spec_l9Dec.l0]) (EvP.neg (by omega) ?_)
  simp only [Option.bind_some]
  rw [dig_num d h]
  refine EvP.pos (by show 1 + 0 ≤ _; omega) (EvP.now ?_)
  exact ByteArray.ext (by simp [ByteArray.data_append])

theorem l3Two_ev (n : Nat) (h : n ≤ 99) : EvP (fun k => spec_l3Two.f k (n : Int)) (· = dig (n / 10) ++ dig (n % 10)) := by
  unfold spec_l3Two.f
  have e1 : wrap64 (Int.tdiv (n : Int) 10) = ((n / 10 : Nat) : Int) := by rw [Int.tdiv_eq_ediv_of_nonneg (by omega), w64 (by omega) (by omega)]; omega
  have e2 : Int.tmod (n : Int) 10 = ((n % 10 : Nat) : Int) := by rw [Int.tmod_eq_emod_of_nonneg (by omega)]; omega
  rw [e1, e2]
  refine EvP.bind (dig_ev (n / 10) (by omega)) ?_
  rintro _ rfl
  refine EvP.bind (dig_ev (n % 10) (by omega)) ?_
  rintro _ rfl
  exact EvP.pos (by show 1 + 1 ≤ _; omega) (EvP.now rfl)
/-- A key of two digits, or nothing. -/
def twoB (c : UInt8) (n : Int) : ByteArray := if n < 0 then ⟨#[]⟩ else if n > 99 then ⟨#[]⟩ else ⟨#[c, 47, UInt8.ofNat (48 + n.toNat / 10), UInt8.ofNat (48 + n.toNat % 10)]⟩
theorem two_cat (c : UInt8) (n : Nat) : (⟨#[c, 47]⟩ : ByteArray) ++ (dig (n / 10) ++ dig (n % 10)) = ⟨#[c, 47, UInt8.ofNat (48 + n / 10), UInt8.ofNat (48 + n % 10)]⟩ := ByteArray.ext (by simp [ByteArray.data_append, dig])
theorem keyTwo_eq (c : UInt8) (n : Int) : impl_keyTwo.f (c.toNat : Int) n 99 = some (twoB c n) := by
  unfold impl_keyTwo.f twoB
  have hc := c.toNat_lt
  by_cases h : n < 0
  · rw [if_pos (.inl h), if_pos h]
  · rw [if_neg h]
    by_cases h2 : n > 99
    · rw [if_pos (.inr h2), if_pos h2]
    · rw [if_neg (by omega), if_neg h2, if_pos ⟨by omega, by omega, by omega⟩]
      unfold keyTwoB
      simp

theorem spec_KeyId_ev (n : Int) : EvP (fun k => spec_KeyId.f k n) (· = twoB 105 n) := by
  unfold spec_KeyId.f twoB
  refine EvP.split (fun h => EvP.now (by rw [if_pos h])) (fun h => ?_)
  rw [if_neg h]
  refine EvP.split (fun h2 => EvP.now (by rw [if_pos h2])) (fun h2 => ?_)
  rw [if_neg h2]
  obtain ⟨m, rfl⟩ : ∃ m : Nat, n = m := ⟨n.toNat, by omega⟩
  refine EvP.bind (l3Two_ev m (by omega)) ?_
  rintro _ rfl
  refine EvP.pos (by show 2 + 2 ≤ _; omega) (EvP.now ?_)
  rw [Int.toNat_natCast]
  exact two_cat 105 m
theorem impl_KeyId_eq (n : Int) : impl_KeyId.f n = some (twoB 105 n) := by
  unfold impl_KeyId.f
  rw [show (105 : Int) = ((105 : UInt8).toNat : Int) from rfl, keyTwo_eq]
  rfl

theorem spec_KeyLog_ev (n : Int) : EvP (fun k => spec_KeyLog.f k n) (· = twoB 106 n) := by
  unfold spec_KeyLog.f twoB
  refine EvP.split (fun h => EvP.now (by rw [if_pos h])) (fun h => ?_)
  rw [if_neg h]
  refine EvP.split (fun h2 => EvP.now (by rw [if_pos h2])) (fun h2 => ?_)
  rw [if_neg h2]
  obtain ⟨m, rfl⟩ : ∃ m : Nat, n = m := ⟨n.toNat, by omega⟩
  refine EvP.bind (l3Two_ev m (by omega)) ?_
  rintro _ rfl
  refine EvP.pos (by show 2 + 2 ≤ _; omega) (EvP.now ?_)
  rw [Int.toNat_natCast]
  exact two_cat 106 m
theorem impl_KeyLog_eq (n : Int) : impl_KeyLog.f n = some (twoB 106 n) := by
  unfold impl_KeyLog.f
  rw [show (106 : Int) = ((106 : UInt8).toNat : Int) from rfl, keyTwo_eq]
  rfl

/-! ### The key of a balance -/
def balK (a : ByteArray) (c : Int) : ByteArray := if acctB a = true then (if c < 1 then ⟨#[]⟩ else if c > 3 then ⟨#[]⟩ else (((⟨#[98, 47]⟩ : ByteArray) ++ a) ++ (⟨#[47]⟩ : ByteArray)) ++ dig c.toNat) else ⟨#[]⟩
theorem spec_KeyBal_ev (a : ByteArray) (c : Int) (ha : a.size ≤ 1048576) : EvP (fun k => spec_KeyBal.f k a c) (· = balK a c) := by
  unfold spec_KeyBal.f balK
  refine EvP.bind (spec_AcctOk_ev a (by omega)) ?_
  rintro _ rfl
  refine EvP.split (fun h => ?_) (fun h => EvP.now (by rw [if_neg h]))
  rw [if_pos h]
  refine EvP.split (fun h1 => EvP.now (by rw [if_pos h1])) (fun h1 => ?_)
  rw [if_neg h1]
  refine EvP.split (fun h2 => EvP.now (by rw [if_pos h2])) (fun h2 => ?_)
  rw [if_neg h2]
  obtain ⟨m, rfl⟩ : ∃ m : Nat, c = m := ⟨c.toNat, by omega⟩
  refine EvP.bind (dig_ev m (by omega)) ?_
  rintro _ rfl
  refine EvP.pos ⟨ha, by show 1 ≤ _; omega⟩ (EvP.now ?_)
  rw [Int.toNat_natCast]
theorem impl_KeyBal_ev (a : ByteArray) (c : Int) (ha : a.size ≤ 1048576) : EvP (fun k => impl_KeyBal.f k a c) (· = balK a c) := by
  unfold impl_KeyBal.f balK
  refine EvP.bind (impl_AcctOk_ev a (by omega)) ?_
  rintro _ rfl
  refine EvP.split (fun h => ?_) (fun h => EvP.now (by rw [if_neg h]))
  rw [if_pos h]
  refine EvP.split (fun h1 => EvP.now (by rw [if_pos h1])) (fun h1 => ?_)
  rw [if_neg h1]
  refine EvP.split (fun h2 => EvP.now (by rw [if_pos h2])) (fun h2 => ?_)
  rw [if_neg h2]
  refine EvP.pos ha (EvP.now ?_)
  unfold keyBalB dig
  refine ByteArray.ext ?_
  have e : Lib.decDigits c.toNat = [UInt8.ofNat (48 + c.toNat)] := by
    unfold Lib.decDigits
    rw [dif_pos (by omega)]
  rw [e]
  simp [ByteArray.data_append]

/-! ### The reader of draws -/
/-- Bytes, at most 2000 of them. -/
structure Bytes (l : List Int) : Prop where
  len : l.length ≤ 2000
  lo : ∀ j, 0 ≤ rd l j
  hi : ∀ j, rd l j ≤ 255
theorem rd_range {l : List Int} (h : ∀ x ∈ l, 0 ≤ x ∧ x ≤ 255) (j : Int) : 0 ≤ rd l j ∧ rd l j ≤ 255 := by
  unfold rd
  rw [List.getD_eq_getElem?_getD]
  rcases Nat.lt_or_ge j.toNat l.length with hj | hj
  · rw [List.getElem?_eq_getElem hj]
    exact h _ (List.getElem_mem hj)
  · rw [List.getElem?_eq_none hj]
    simp
theorem u8_range {l : List Int} (h : ∀ x ∈ l, (Lit.int .u8 x).wf = true) : ∀ x ∈ l, 0 ≤ x ∧ x ≤ 255 := by
  intro x hx
  have := h x hx
  simp [Lit.wf, IntKind.min, IntKind.max, IntKind.signed, IntKind.bits] at this
  omega
theorem spec_l9Open_ev (l : List Int) (h : ∀ x ∈ l, (Lit.int .u8 x).wf = true) : EvP (fun _ => spec_l9Open.f l) (fun r => Bytes r.1 ∧ r.2 = 0) := by
  unfold spec_l9Open.f
  have hu := u8_range h
  refine EvP.split (fun h1 => EvP.pos (by omega) (EvP.now ⟨⟨?_, fun j => ?_, fun j => ?_⟩, rfl⟩)) (fun h1 => EvP.now ⟨⟨?_, fun j => ?_, fun j => ?_⟩, rfl⟩)
  · simp; omega
  · exact (rd_range (fun x hx => hu x (List.mem_of_mem_take hx)) j).1
  · exact (rd_range (fun x hx => hu x (List.mem_of_mem_take hx)) j).2
  · show l.length ≤ 2000
    omega
  · exact (rd_range hu j).1
  · exact (rd_range hu j).2
theorem xor_nonneg (x y : Int) (h0 : 0 ≤ x) (h1 : x < 2 ^ 62) (h2 : 0 ≤ y) (h3 : y < 2 ^ 62) : 0 ≤ bits .xor .i64 x y := by
  obtain ⟨a, rfl⟩ := Int.eq_ofNat_of_zero_le h0
  obtain ⟨b, rfl⟩ := Int.eq_ofNat_of_zero_le h2
  rw [xor64 a b (by omega) (by omega)]
  exact Int.natCast_nonneg _
/-- What a pick gives: one place on; a number below n, or 0. -/
def Picked (p n : Int) (r : Int × Int) : Prop := r.2 = p + 1 ∧ 0 ≤ r.1 ∧ (1 ≤ n → r.1 < n) ∧ (n < 1 → r.1 = 0)
theorem picked_mod {p n x : Int} (hn : ¬ n < 1) (hx : 0 ≤ x) : Picked p n (Int.tmod x n, p + 1) :=
  ⟨rfl, Int.tmod_nonneg _ hx, fun _ => Int.tmod_lt_of_pos _ (by omega), fun h => absurd h hn⟩
theorem spec_l9Rd_pick_ev (l : List Int) (hl : Bytes l) (p n : Int) (h0 : 0 ≤ p) (h1 : p ≤ 1000000000000) : EvP (fun k => spec_l9Rd_pick.f k l p n) (Picked p n) := by
  unfold spec_l9Rd_pick.f
  have e1 : wrap64 (p + 1) = p + 1 := w64 (by omega) (by omega)
  have e2 : wrap64 (p + 1 - 1) = p := by rw [w64 (by omega) (by omega)]; omega
  rw [e1]
  refine EvP.split (fun h => ?_) (fun hn => ?_)
  · refine EvP.step (fun k => by rw [spec_l9Rd_pick.j0]) (EvP.pos rfl (EvP.now ?_))
    exact ⟨rfl, Int.le_refl _, fun h' => absurd h (by omega), fun _ => rfl⟩
  · refine EvP.step (fun k => by rw [spec_l9Rd_pick.j0]) (EvP.split (fun h => EvP.now ?_) (fun hz => ?_))
    · exact ⟨rfl, Int.le_refl _, fun h' => by show (0 : Int) < n; omega, fun _ => rfl⟩
    · have hz' : ¬ (l.length : Int) = 0 := fun h => hz (by simp [h])
      have hpos : 0 < (l.length : Int) := by omega
      have hlen : (l.length : Int) ≤ 2000 := by have := hl.len; omega
      rw [e2]
      refine EvP.split (fun h => EvP.pos h0 (EvP.neg (by omega) (EvP.now ?_))) (fun h => EvP.neg hz' ?_)
      · have := hl.lo p
        have := hl.hi p
        rw [w64 (by omega) (by omega)]
        exact picked_mod hn (by omega)
      · have a0 : 0 ≤ Int.tmod p (l.length : Int) := Int.tmod_nonneg _ h0
        have a1 : Int.tmod p (l.length : Int) < (l.length : Int) := Int.tmod_lt_of_pos _ hpos
        have e7 : wrap64 (wrap64 (p * 7) + 3) = p * 7 + 3 := by rw [w64 (x := p * 7) (by omega) (by omega), w64 (by omega) (by omega)]
        have c0 : 0 ≤ Int.tmod (p * 7 + 3) (l.length : Int) := Int.tmod_nonneg _ (by omega)
        have c1 : Int.tmod (p * 7 + 3) (l.length : Int) < (l.length : Int) := Int.tmod_lt_of_pos _ hpos
        rw [e7]
        refine EvP.pos a0 (EvP.pos a1 (EvP.pos c0 (EvP.pos c1 (EvP.neg (by omega) (EvP.now ?_)))))
        have b0 := hl.lo (Int.tmod p (l.length : Int))
        have b1 := hl.hi (Int.tmod p (l.length : Int))
        have d0 := hl.lo (Int.tmod (p * 7 + 3) (l.length : Int))
        have d1 := hl.hi (Int.tmod (p * 7 + 3) (l.length : Int))
        have q0 : 0 ≤ Int.tdiv p (l.length : Int) := Int.tdiv_nonneg h0 (by omega)
        have q1 : Int.tdiv p (l.length : Int) ≤ p := by
          rw [Int.tdiv_eq_ediv_of_nonneg h0]
          exact Int.ediv_le_self _ h0
        refine picked_mod hn ?_
        generalize Int.tdiv p (l.length : Int) = q at q0 q1 ⊢
        generalize rd l (Int.tmod p (l.length : Int)) = b at b0 b1 ⊢
        generalize rd l (Int.tmod (p * 7 + 3) (l.length : Int)) = d at d0 d1 ⊢
        have f1 : wrap64 b = b := w64 (by omega) (by omega)
        have f2 : wrap64 d = d := w64 (by omega) (by omega)
        have f3 : wrap64 q = q := w64 (by omega) (by omega)
        have f4 : wrap64 (b * 131) = b * 131 := w64 (by omega) (by omega)
        have f5 : wrap64 (d * 1117) = d * 1117 := w64 (by omega) (by omega)
        have f6 : wrap64 (p * 29) = p * 29 := w64 (by omega) (by omega)
        have f7 : wrap64 (q * 53) = q * 53 := w64 (by omega) (by omega)
        have f8 : wrap64 (b * 131 + d * 1117) = b * 131 + d * 1117 := w64 (by omega) (by omega)
        have f9 : wrap64 (b * 131 + d * 1117 + p * 29) = b * 131 + d * 1117 + p * 29 := w64 (by omega) (by omega)
        have f10 : wrap64 (b * 131 + d * 1117 + p * 29 + q * 53) = b * 131 + d * 1117 + p * 29 + q * 53 := w64 (by omega) (by omega)
        rw [f1, f2, f3, f4, f5, f6, f7, f8, f9, f10]
        have g0 : 0 ≤ b * 131 + d * 1117 + p * 29 + q * 53 := by omega
        have g1 : b * 131 + d * 1117 + p * 29 + q * 53 < 2 ^ 62 := by omega
        generalize b * 131 + d * 1117 + p * 29 + q * 53 = x at g0 g1 ⊢
        have g2 : Int.tdiv x 64 = x / 64 := Int.tdiv_eq_ediv_of_nonneg g0
        rw [g2, w64 (x := x / 64) (by omega) (by omega)]
        exact xor_nonneg _ _ g0 g1 (by omega) (by omega)
/-- One of a list of texts. -/
theorem spec_l9Rd_of_ev (l : List Int) (hl : Bytes l) (p : Int) (xs : List ByteArray) (hx : 0 < xs.length) (h0 : 0 ≤ p) (h1 : p ≤ 1000000000000) : EvP (fun k => spec_l9Rd_of.f k l p xs) (fun r => r.2 = p + 1 ∧ r.1 ∈ xs) := by
  unfold spec_l9Rd_of.f
  refine EvP.bind (spec_l9Rd_pick_ev l hl p _ h0 h1) ?_
  rintro ⟨i, q⟩ ⟨hq, hi, hlt, _⟩
  have := hlt (by omega)
  simp only at hq hi this
  refine EvP.pos hi (EvP.pos this (EvP.now ⟨hq, ?_⟩))
  show xs.getD i.toNat ByteArray.empty ∈ xs
  rw [List.getD_eq_getElem?_getD, List.getElem?_eq_getElem (by omega)]
  exact List.getElem_mem _

/-- One of a list of numbers. -/
theorem spec_l9Rd_num_ev (l : List Int) (hl : Bytes l) (p : Int) (xs : List Int) (hx : 0 < xs.length) (h0 : 0 ≤ p) (h1 : p ≤ 1000000000000) : EvP (fun k => spec_l9Rd_num.f k l p xs) (fun r => r.2 = p + 1 ∧ r.1 ∈ xs) := by
  unfold spec_l9Rd_num.f
  refine EvP.bind (spec_l9Rd_pick_ev l hl p _ h0 h1) ?_
  rintro ⟨i, q⟩ ⟨hq, hi, hlt, _⟩
  have := hlt (by omega)
  simp only at hq hi this
  refine EvP.pos hi (EvP.pos this (EvP.now ⟨hq, ?_⟩))
  show xs.getD i.toNat 0 ∈ xs
  rw [List.getD_eq_getElem?_getD, List.getElem?_eq_getElem (by omega)]
  exact List.getElem_mem _

/-! ### Bytes in their order -/
theorem bytesLess_irrefl : ∀ l : List UInt8, Op.bytesLess l l = false := by
  intro l
  induction l with
  | nil => rfl
  | cons a l ih => simp [Op.bytesLess, ih]
theorem bl_cons (a b : UInt8) (x y : List UInt8) : Op.bytesLess (a :: x) (b :: y) = true ↔ a.toNat < b.toNat ∨ (a = b ∧ Op.bytesLess x y = true) := by
  simp [Op.bytesLess, UInt8.lt_iff_toNat_lt]
theorem bl_trans : ∀ x y z : List UInt8, Op.bytesLess x y = true → Op.bytesLess y z = true → Op.bytesLess x z = true := by
  intro x
  induction x with
  | nil =>
    intro y z h k
    cases z with
    | nil => cases y <;> simp [Op.bytesLess] at k
    | cons c z => rfl
  | cons a x ih =>
    intro y z h k
    cases y with
    | nil => simp [Op.bytesLess] at h
    | cons b y =>
      cases z with
      | nil => simp [Op.bytesLess] at k
      | cons c z =>
        rw [bl_cons] at h k ⊢
        rcases h with h | ⟨rfl, h⟩ <;> rcases k with k | ⟨rfl, k⟩
        · exact .inl (by omega)
        · exact .inl h
        · exact .inl k
        · exact .inr ⟨rfl, ih _ _ h k⟩
theorem bl_asymm (x y : List UInt8) (h : Op.bytesLess x y = true) : Op.bytesLess y x = false := by
  cases k : Op.bytesLess y x
  · rfl
  · have := bl_trans _ _ _ h k
    rw [bytesLess_irrefl] at this
    cases this
theorem bl_total : ∀ x y : List UInt8, x ≠ y → Op.bytesLess x y = false → Op.bytesLess y x = true := by
  intro x
  induction x with
  | nil =>
    intro y h k
    cases y with
    | nil => exact absurd rfl h
    | cons b y => simp [Op.bytesLess] at k
  | cons a x ih =>
    intro y h k
    cases y with
    | nil => rfl
    | cons b y =>
      have k' : ¬ Op.bytesLess (a :: x) (b :: y) = true := by rw [k]; simp
      rw [bl_cons] at k' ⊢
      by_cases hab : a = b
      · subst hab
        refine .inr ⟨rfl, ih y (fun e => h (by rw [e])) ?_⟩
        cases q : Op.bytesLess x y
        · rfl
        · exact absurd (.inr ⟨rfl, q⟩) k'
      · refine .inl ?_
        have : a.toNat ≠ b.toNat := fun e => hab (UInt8.toNat.inj e)
        have : ¬ a.toNat < b.toNat := fun e => k' (.inl e)
        omega

/-! ### Drawn keys -/
def accs : List ByteArray := [⟨#[97]⟩, ⟨#[97, 98]⟩, ⟨#[97, 98, 99]⟩, ⟨#[99, 97, 115, 104]⟩, ⟨#[98]⟩, ⟨#[122]⟩]
theorem spec_DrawKeyBal_ev (l0 : List Int) (h : ∀ x ∈ l0, (Lit.int .u8 x).wf = true) : EvP (fun k => spec_DrawKeyBal.f k l0) (fun t => t.1.size ≤ 1048576 ∧ (acctB t.1 = true → t.1 ∈ accs)) := by
  unfold spec_DrawKeyBal.f
  refine EvP.bind (spec_l9Open_ev l0 h) ?_
  rintro ⟨l, p⟩ ⟨hl, hp⟩
  simp only at hp hl
  refine EvP.bind (spec_l9Rd_of_ev l hl p _ (by simp) (by omega) (by omega)) ?_
  rintro ⟨a, p1⟩ ⟨hp1, ha⟩
  simp only at hp1 ha
  refine EvP.bind (spec_l9Rd_num_ev l hl p1 _ (by simp) (by omega) (by omega)) ?_
  rintro ⟨c, p2⟩ ⟨_, _⟩
  refine EvP.now ?_
  simp only [List.mem_cons, List.not_mem_nil, or_false] at ha
  have e1 : acctB ⟨#[]⟩ = false := by decide +kernel
  have e2 : acctB ⟨#[65]⟩ = false := by decide +kernel
  rcases ha with rfl | rfl | rfl | rfl | rfl | rfl | rfl | rfl
  all_goals refine ⟨by simp [ByteArray.size], fun hb => ?_⟩
  all_goals first | (simp [accs]; done) | (rw [e1] at hb; cases hb) | (rw [e2] at hb; cases hb)
theorem balK_none (a : ByteArray) (c : Int) : ((balK a c).toList != ([] : List UInt8)) = (acctB a && decide (c ≥ 1) && decide (c ≤ 3)) := by
  have e0 : (⟨#[]⟩ : ByteArray).toList = [] := by rw [ByteArray.toList_eq]
  unfold balK
  by_cases h : acctB a = true
  · rw [if_pos h, h]
    by_cases h1 : c < 1
    · rw [if_pos h1, e0]
      have : decide (c ≥ 1) = false := decide_eq_false (by omega)
      simp [this]
    · rw [if_neg h1]
      have e1 : decide (c ≥ 1) = true := decide_eq_true (by omega)
      by_cases h2 : c > 3
      · rw [if_pos h2, e0]
        have : decide (c ≤ 3) = false := decide_eq_false (by omega)
        simp [this]
      · rw [if_neg h2]
        have e2 : decide (c ≤ 3) = true := decide_eq_true (by omega)
        rw [e1, e2, ByteArray.toList_eq]
        simp [ByteArray.data_append]
  · rw [if_neg h, e0]
    have : acctB a = false := by simpa using h
    simp [this]
theorem balK_size (a : ByteArray) (c : Int) (h : a.size ≤ 1048576) : (balK a c).size ≤ 140737488351232 := by
  unfold balK
  split
  · split
    · simp [ByteArray.size]
    · split
      · simp [ByteArray.size]
      · rw [ByteArray.size_append, ByteArray.size_append, ByteArray.size_append]
        have e1 : (⟨#[98, 47]⟩ : ByteArray).size = 2 := rfl
        have e2 : (⟨#[47]⟩ : ByteArray).size = 1 := rfl
        have e3 : (dig c.toNat).size = 1 := rfl
        omega
  · simp [ByteArray.size]
theorem one_three {c : Int} (h : c ≥ 1) (h2 : c ≤ 3) : c ∈ ([1, 2, 3] : List Int) := by
  have : c = 1 ∨ c = 2 ∨ c = 3 := by omega
  simpa using this
theorem balK_key : ∀ a ∈ accs, ∀ c ∈ ([1, 2, 3] : List Int), keyB (balK a c) = true := by decide +kernel
theorem balK_order : ∀ a ∈ accs, ∀ c ∈ ([1, 2, 3] : List Int), ∀ b ∈ accs, ∀ d ∈ ([1, 2, 3] : List Int),
    Op.bytesLess (balK a c).data.toList (balK b d).data.toList = (Op.bytesLess a.data.toList b.data.toList || ((a.data.toList == b.data.toList) && decide (c < d))) ∧ ((balK a c).data.toList == (balK b d).data.toList) = ((a.data.toList == b.data.toList) && (c == d)) := by decide +kernel

def nums8 : List Int := [0, 1, 9, 10, 42, 99, 100, -1]
theorem spec_DrawKeyId_ev (l0 : List Int) (h : ∀ x ∈ l0, (Lit.int .u8 x).wf = true) : EvP (fun k => spec_DrawKeyId.f k l0) (fun t => t ∈ nums8) := by
  unfold spec_DrawKeyId.f
  refine EvP.bind (spec_l9Open_ev l0 h) ?_
  rintro ⟨l, p⟩ ⟨hl, hp⟩
  simp only at hp hl
  refine EvP.bind (spec_l9Rd_num_ev l hl p _ (by simp) (by omega) (by omega)) ?_
  rintro ⟨c, p2⟩ ⟨_, hc⟩
  exact EvP.now hc
theorem spec_DrawKeyLog_ev (l0 : List Int) (h : ∀ x ∈ l0, (Lit.int .u8 x).wf = true) : EvP (fun k => spec_DrawKeyLog.f k l0) (fun t => t ∈ nums8) := by
  unfold spec_DrawKeyLog.f
  refine EvP.bind (spec_l9Open_ev l0 h) ?_
  rintro ⟨l, p⟩ ⟨hl, hp⟩
  simp only at hp hl
  refine EvP.bind (spec_l9Rd_num_ev l hl p _ (by simp) (by omega) (by omega)) ?_
  rintro ⟨c, p2⟩ ⟨_, hc⟩
  exact EvP.now hc
theorem spec_DrawKeyOk_ev (l0 : List Int) (h : ∀ x ∈ l0, (Lit.int .u8 x).wf = true) : EvP (fun k => spec_DrawKeyOk.f k l0) (fun s => s.size ≤ 140737488351232) := by
  unfold spec_DrawKeyOk.f
  refine EvP.bind (spec_l9Open_ev l0 h) ?_
  rintro ⟨l, p⟩ ⟨hl, hp⟩
  simp only at hp hl
  refine EvP.bind (spec_l9Rd_of_ev l hl p _ (by simp) (by omega) (by omega)) ?_
  rintro ⟨s, p2⟩ ⟨_, hs⟩
  refine EvP.now ?_
  simp only [List.mem_cons, List.not_mem_nil, or_false] at hs
  show s.size ≤ _
  rcases hs with rfl | rfl | rfl | rfl | rfl | rfl | rfl | rfl | rfl | rfl | rfl <;> exact of_decide_eq_true rfl
theorem two_table : ∀ m ∈ nums8, ((twoB 105 m).data.toList != ([] : List UInt8)) = (decide (m ≥ 0) && decide (m ≤ 99)) ∧ ((twoB 106 m).data.toList != ([] : List UInt8)) = (decide (m ≥ 0) && decide (m ≤ 99)) := by decide +kernel
theorem two_key : ∀ m ∈ ([0, 1, 9, 10, 42, 99] : List Int), keyB (twoB 105 m) = true ∧ keyB (twoB 106 m) = true ∧ (twoB 105 m).size ≤ 140737488351232 ∧ (twoB 106 m).size ≤ 140737488351232 ∧ Op.bytesLess [] (twoB 105 m).data.toList = true := by decide +kernel
theorem two_order : ∀ m ∈ ([0, 1, 9, 10, 42, 99] : List Int), ∀ n ∈ ([0, 1, 9, 10, 42, 99] : List Int), Op.bytesLess (twoB 105 m).data.toList (twoB 105 n).data.toList = decide (m < n) ∧ Op.bytesLess (twoB 106 m).data.toList (twoB 106 n).data.toList = decide (m < n) ∧ Op.bytesLess (twoB 105 m).data.toList (twoB 106 n).data.toList = true := by decide +kernel
theorem bal_ahead : ∀ a ∈ accs, ∀ c ∈ ([1, 2, 3] : List Int), ∀ m ∈ ([0, 1, 9, 10, 42, 99] : List Int), Op.bytesLess (balK a c).data.toList (twoB 105 m).data.toList = true := by decide +kernel
theorem six {m : Int} (h : m ∈ nums8) (h0 : m ≥ 0) (h1 : m ≤ 99) : m ∈ ([0, 1, 9, 10, 42, 99] : List Int) := by
  simp only [nums8, List.mem_cons, List.not_mem_nil, or_false] at h ⊢
  omega
theorem FnKeyKinds (l0 l1 : List Int) (g0 : l0.length ≤ maxLen ∧ ∀ x ∈ l0, (Lit.int .u8 x).wf = true) (g1 : l1.length ≤ maxLen ∧ ∀ x ∈ l1, (Lit.int .u8 x).wf = true) : ∃ k, laws_FnKeyKinds.f k l0 l1 = some true := by
  refine EvP.done ?_
  unfold laws_FnKeyKinds.f
  refine EvP.split (fun _ => EvP.now rfl) (fun _ => ?_)
  refine EvP.split (fun _ => EvP.now rfl) (fun _ => ?_)
  refine EvP.bind (spec_DrawKeyId_ev l0 g0.2) ?_
  intro m hm
  refine EvP.bind (spec_DrawKeyLog_ev l1 g1.2) ?_
  intro n hn
  refine EvP.bind (spec_DrawKeyBal_ev l0 g0.2) ?_
  rintro ⟨a, c⟩ ⟨sa, ma⟩
  dsimp only at sa ma ⊢
  refine EvP.bind (spec_DrawKeyOk_ev l1 g1.2) ?_
  intro s hs
  simp only [impl_KeyId_eq, impl_KeyLog_eq, Option.bind_some]
  refine EvP.bind (impl_KeyBal_ev a c sa) ?_
  rintro _ rfl
  refine EvP.bind (spec_KeyId_ev m) ?_
  rintro _ rfl
  refine EvP.pos rfl ?_
  refine EvP.bind (spec_KeyLog_ev n) ?_
  rintro _ rfl
  refine EvP.pos rfl ?_
  refine EvP.bind (spec_KeyBal_ev a c sa) ?_
  rintro _ rfl
  refine EvP.pos rfl ?_
  refine EvP.bind (impl_KeyOk_ev s hs) ?_
  rintro _ rfl
  refine EvP.bind (spec_KeyOk_ev s hs) ?_
  rintro _ rfl
  refine EvP.neg (by simp) ?_
  have tm := (two_table m hm).1
  have tn := (two_table n hn).2
  rw [← ByteArray.toList_eq] at tm tn
  have last : m ≥ 0 → n ≥ 0 → ¬ (twoB 105 m).toList = [] → ¬ (twoB 106 n).toList = [] →
      EvP (fun k => if ((Op.bytesLess (twoB 105 m).toList (twoB 105 n).toList) == (decide (m < n))) = true then (if ((Op.bytesLess (twoB 106 m).toList (twoB 106 n).toList) == (decide (m < n))) = true then (if (Op.bytesLess (balK a c).toList (twoB 105 m).toList) = true then (if (Op.bytesLess (twoB 105 m).toList (twoB 106 n).toList) = true then ((impl_KeyOk.f k (twoB 105 m)).bind fun t180 => (if t180 = true then ((impl_KeyOk.f k (twoB 106 n)).bind fun t181 => (some t181)) else (none))) else (none)) else (none)) else (none)) else (none)) (· = true) := by
    intro h0 h1 nx ny
    have e1 : (decide (m ≥ 0) && decide (m ≤ 99)) = true := by rw [← tm]; simpa using nx
    have e2 : (decide (n ≥ 0) && decide (n ≤ 99)) = true := by rw [← tn]; simpa using ny
    simp only [Bool.and_eq_true, decide_eq_true_eq] at e1 e2
    have m6 := six hm e1.1 e1.2
    have n6 := six hn e2.1 e2.2
    obtain ⟨o1, o2, _⟩ := two_order m m6 n n6
    obtain ⟨_, _, o3⟩ := two_order m m6 n n6
    obtain ⟨k1, _, z1, _, low⟩ := two_key m m6
    obtain ⟨_, k2, _, z2, _⟩ := two_key n n6
    have ob : Op.bytesLess (balK a c).data.toList (twoB 105 m).data.toList = true := by
      by_cases hb : acctB a = true ∧ c ≥ 1 ∧ c ≤ 3
      · exact bal_ahead a (ma hb.1) c (one_three hb.2.1 hb.2.2) m m6
      · have : balK a c = ⟨#[]⟩ := by
          unfold balK
          by_cases h : acctB a = true
          · rw [if_pos h]
            by_cases h1 : c < 1
            · rw [if_pos h1]
            · rw [if_neg h1, if_pos (Int.not_le.1 (fun h3 => hb ⟨h, by omega, h3⟩))]
          · rw [if_neg h]
        rw [this]
        exact low
    rw [← ByteArray.toList_eq, ← ByteArray.toList_eq] at o1 o2 o3 ob
    refine EvP.pos (by rw [o1]; simp) (EvP.pos (by rw [o2]; simp) (EvP.pos ob (EvP.pos o3 ?_)))
    refine EvP.bind (impl_KeyOk_ev _ z1) ?_
    rintro _ rfl
    refine EvP.pos k1 ?_
    refine EvP.bind (impl_KeyOk_ev _ z2) ?_
    rintro _ rfl
    exact EvP.now k2
  by_cases h0 : m ≥ 0
  · rw [decide_eq_true h0, Bool.true_and] at tm
    refine EvP.pos h0 (EvP.neg (by rw [tm]; simp) ?_)
    by_cases h1 : n ≥ 0
    · rw [decide_eq_true h1, Bool.true_and] at tn
      refine EvP.pos h1 (EvP.neg (by rw [tn]; simp) ?_)
      exact EvP.split (fun _ => EvP.now rfl) (fun nx => EvP.split (fun _ => EvP.now rfl) (fun ny => last h0 h1 nx ny))
    · have e1 : decide (n ≥ 0) = false := decide_eq_false h1
      rw [e1, Bool.false_and] at tn
      have ey : (twoB 106 n).toList = [] := by simpa using tn
      refine EvP.neg h1 (EvP.neg (by rw [tn]; simp) ?_)
      exact EvP.split (fun _ => EvP.now rfl) (fun nx => EvP.pos ey (EvP.now rfl))
  · have e0 : decide (m ≥ 0) = false := decide_eq_false h0
    rw [e0, Bool.false_and] at tm
    have ex : (twoB 105 m).toList = [] := by simpa using tm
    refine EvP.neg h0 (EvP.neg (by rw [tm]; simp) ?_)
    by_cases h1 : n ≥ 0
    · rw [decide_eq_true h1, Bool.true_and] at tn
      exact EvP.pos h1 (EvP.neg (by rw [tn]; simp) (EvP.pos ex (EvP.now rfl)))
    · have e1 : decide (n ≥ 0) = false := decide_eq_false h1
      rw [e1, Bool.false_and] at tn
      exact EvP.neg h1 (EvP.neg (by rw [tn]; simp) (EvP.pos ex (EvP.now rfl)))


end Go.Proofs.YtbdckemcagaldaaDoor.Pure
