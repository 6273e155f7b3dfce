/- The program's key is the reference's, for all arguments. -/
import Derived.Test.YtbdckemcagaldaaDoorQFnExactKeyBalx1
import Derived.Test.YtbdckemcagaldaaDoorBBase
set_option linter.unusedVariables false
set_option linter.unusedSimpArgs false
namespace Go.Proofs.YtbdckemcagaldaaDoor.Pure
open Go.RowKit Go.Proofs.YtbdckemcagaldaaDoor.QFnExactKeyBal Go.Proofs.YtbdckemcagaldaaDoorW.PrintWords Go.Proofs.YtbdckemcagaldaaDoorW.PrintLast Go.Proofs.YtbdckemcagaldaaDoorW.PrintMore Go.Proofs.YtbdckemcagaldaaDoor.B

/-! ### AcctOk -/
/-- d letters from place i on are all letters a to z. -/
def lettersB (s : ByteArray) : Nat → Int → Bool
  | 0, _ => true
  | d + 1, i => decide (97 ≤ bt s i) && decide (bt s i ≤ 122) && lettersB s d (i + 1)
def acctB (s : ByteArray) : Bool := decide (1 ≤ s.size) && decide (s.size ≤ 4) && lettersB s s.size 0
theorem spec_AcctOk_l0 (s : ByteArray) (hs : s.size ≤ 140737488351232) : ∀ (d : Nat) (i : Int), 0 ≤ i → i + d = s.size →
    EvP (fun k => spec_AcctOk.l0 k s i) (· = (decide (1 ≤ s.size) && decide (s.size ≤ 4) && lettersB s d i)) := by
  intro d
  induction d with
  | zero =>
    intro i h0 h
    refine EvP.step (fun k => by rw [spec_AcctOk.l0]) ?_
    refine EvP.neg (by omega) ?_
    refine EvP.split (fun h => ?_) (fun h => ?_)
    · refine EvP.now ?_
      have e1 : decide (1 ≤ s.size) = true := decide_eq_true (by omega)
      have e2 : decide ((s.size : Int) ≤ 4) = decide (s.size ≤ 4) := by rw [decide_eq_decide]; omega
      simp only [lettersB, e1, e2, Bool.true_and, Bool.and_true]
    · refine EvP.now ?_
      have e1 : decide (1 ≤ s.size) = false := decide_eq_false (by omega)
      simp only [lettersB, e1, Bool.false_and]
  | succ d ih =>
    intro i h0 h
    refine EvP.step (fun k => by rw [spec_AcctOk.l0]) ?_
    refine EvP.pos (by omega) ?_
    refine EvP.pos (by omega) ?_
    refine EvP.split (fun h1 => EvP.now ?_) (fun h1 => EvP.split (fun h2 => EvP.now ?_) (fun h2 => ?_))
    · have e1 : decide (97 ≤ bt s i) = false := decide_eq_false (by omega)
      simp [lettersB, e1]
    · have e1 : decide (bt s i ≤ 122) = false := decide_eq_false (by omega)
      simp [lettersB, e1]
    · rw [w64 (by omega) (by omega)]
      have e1 : decide (97 ≤ bt s i) = true := decide_eq_true (by omega)
      have e2 : decide (bt s i ≤ 122) = true := decide_eq_true (by omega)
      have := ih (i + 1) (by omega) (by omega)
      simp only [lettersB, e1, e2, Bool.true_and]
      exact this
theorem spec_AcctOk_ev (s : ByteArray) (hs : s.size ≤ 140737488351232) : EvP (fun k => spec_AcctOk.f k s) (· = acctB s) :=
  spec_AcctOk_l0 s hs s.size 0 (by omega) (by omega)
theorem impl_AcctOk_l0 (s : ByteArray) (hs : s.size ≤ 140737488351232) : ∀ (d : Nat) (i : Int), 0 ≤ i → i + d = s.size →
    EvP (fun k => impl_AcctOk.l0 k s (s.size : Int) i) (· = lettersB s d i) := by
  intro d
  induction d with
  | zero =>
    intro i h0 h
    refine EvP.step (fun k => by rw [impl_AcctOk.l0]) ?_
    refine EvP.neg (by omega) ?_
    exact EvP.now (by simp [lettersB])
  | succ d ih =>
    intro i h0 h
    refine EvP.step (fun k => by rw [impl_AcctOk.l0]) ?_
    refine EvP.pos (by omega) (EvP.pos (by omega) (EvP.pos (by omega) ?_))
    refine EvP.split (fun h1 => EvP.now ?_) (fun h1 => EvP.split (fun h2 => EvP.now ?_) (fun h2 => ?_))
    · have e1 : decide (97 ≤ bt s i) = false := decide_eq_false (by omega)
      simp [lettersB, e1]
    · have e1 : decide (bt s i ≤ 122) = false := decide_eq_false (by omega)
      simp [lettersB, e1]
    · rw [w64 (by omega) (by omega)]
      have e1 : decide (97 ≤ bt s i) = true := decide_eq_true (by omega)
      have e2 : decide (bt s i ≤ 122) = true := decide_eq_true (by omega)
      have := ih (i + 1) (by omega) (by omega)
      simp only [lettersB, e1, e2, Bool.true_and]
      exact this
theorem impl_AcctOk_ev (s : ByteArray) (hs : s.size ≤ 140737488351232) : EvP (fun k => impl_AcctOk.f k s) (· = acctB s) := by
  unfold impl_AcctOk.f acctB
  refine EvP.split (fun h => ?_) (fun h => ?_)
  · refine EvP.step (fun k => by rw [impl_AcctOk.j0]) (EvP.pos rfl (EvP.now ?_))
    have e1 : decide (1 ≤ s.size) = false := decide_eq_false (by omega)
    simp [e1]
  · have e1 : decide (1 ≤ s.size) = true := decide_eq_true (by omega)
    refine EvP.step (fun k => by rw [impl_AcctOk.j0]) (EvP.split (fun h1 => EvP.now ?_) (fun h1 => ?_))
    · have := of_decide_eq_true h1
      have e2 : decide (s.size ≤ 4) = false := decide_eq_false (by omega)
      simp [e2]
    · have : ¬ (s.size : Int) > 4 := fun h => h1 (decide_eq_true h)
      have e2 : decide (s.size ≤ 4) = true := decide_eq_true (by omega)
      simp only [e1, e2, Bool.true_and]
      exact impl_AcctOk_l0 s hs s.size 0 (by omega) (by omega)

/-! ### Keys of two digits -/
def dig (d : Nat) : ByteArray := ⟨#[UInt8.ofNat (48 + d)]⟩
theorem dig_num (d : Nat) (h : d ≤ 9) : strOfNums [(wrap64 (48 + (d : Int))) % 256] = dig d := by
  have e : (wrap64 (48 + (d : Int))) % 256 = ((48 + d : Nat) : Int) := by unfold wrap64; omega
  rw [e]
  simp only [strOfNums, dig, List.map_cons, List.map_nil, Int.toNat_natCast]
theorem dig_ev (d : Nat) (h : d ≤ 9) : EvP (fun k => spec_l9Dec.f k (d : Int)) (· = dig d) := by
  refine EvP.step (fun k => by rw [spec_l9Dec.f]) (EvP.neg (by omega) (EvP.neg (by omega) ?_))
  refine EvP.step (fun k => by rw [spec_l9Dec.l0]) (EvP.neg (by omega) ?_)
  simp only [Option.bind_some]
  rw [dig_num d h]
  refine EvP.pos (by show 1 + 0 ≤ _; omega) (EvP.now ?_)
  exact ByteArray.ext (by simp [ByteArray.data_append])

/-! ### The key of a balance -/
def balK (a : ByteArray) (c : Int) : ByteArray := if acctB a = true then (if c < 1 then ⟨#[]⟩ else if c > 3 then ⟨#[]⟩ else (((⟨#[98, 47]⟩ : ByteArray) ++ a) ++ (⟨#[47]⟩ : ByteArray)) ++ dig c.toNat) else ⟨#[]⟩
theorem spec_KeyBal_ev (a : ByteArray) (c : Int) (ha : a.size ≤ 1048576) : EvP (fun k => spec_KeyBal.f k a c) (· = balK a c) := by
  unfold spec_KeyBal.f balK
  refine EvP.bind (spec_AcctOk_ev a (by omega)) ?_
  rintro _ rfl
  refine EvP.split (fun h => ?_) (fun h => EvP.now (by rw [if_neg h]))
  rw [if_pos h]
  refine EvP.split (fun h1 => EvP.now (by rw [if_pos h1])) (fun h1 => ?_)
  rw [if_neg h1]
  refine EvP.split (fun h2 => EvP.now (by rw [if_pos h2])) (fun h2 => ?_)
  rw [if_neg h2]
  obtain ⟨m, rfl⟩ : ∃ m : Nat, c = m := ⟨c.toNat, by omega⟩
  refine EvP.bind (dig_ev m (by omega)) ?_
  rintro _ rfl
  refine EvP.pos ⟨ha, by show 1 ≤ _; omega⟩ (EvP.now ?_)
  rw [Int.toNat_natCast]
theorem impl_KeyBal_ev (a : ByteArray) (c : Int) (ha : a.size ≤ 1048576) : EvP (fun k => impl_KeyBal.f k a c) (· = balK a c) := by
  unfold impl_KeyBal.f balK
  refine EvP.bind (impl_AcctOk_ev a (by omega)) ?_
  rintro _ rfl
  refine EvP.split (fun h => ?_) (fun h => EvP.now (by rw [if_neg h]))
  rw [if_pos h]
  refine EvP.split (fun h1 => EvP.now (by rw [if_pos h1])) (fun h1 => ?_)
  rw [if_neg h1]
  refine EvP.split (fun h2 => EvP.now (by rw [if_pos h2])) (fun h2 => ?_)
  rw [if_neg h2]
  refine EvP.pos ha (EvP.now ?_)
  unfold keyBalB dig
  refine ByteArray.ext ?_
  have e : Lib.decDigits c.toNat = [UInt8.ofNat (48 + c.toNat)] := by
    unfold Lib.decDigits
    rw [dif_pos (by omega)]
  rw [e]
  simp [ByteArray.data_append]

theorem FnExactKeyBal (a0 : ByteArray) (a1 : Int) (g0 : a0.size ≤ maxLen) (g1 : (Lit.int .i64 a1).wf = true) : ∃ k, laws_FnExactKeyBal.f k a0 a1 = some true := by
  refine EvP.done ?_
  unfold laws_FnExactKeyBal.f
  refine EvP.split (fun _ => EvP.now rfl) (fun h => ?_)
  refine EvP.bind (spec_KeyBal_ev a0 a1 (by omega)) ?_
  rintro _ rfl
  refine EvP.bind (impl_KeyBal_ev a0 a1 (by omega)) ?_
  rintro _ rfl
  exact EvP.pos rfl (EvP.now rfl)


end Go.Proofs.YtbdckemcagaldaaDoor.Pure
