/- The program's key of a place in the book is the reference's, for all arguments. -/
import Derived.Test.YtbdckemcagaldaaDoorQFnExactKeyLogx1
import Derived.Test.YtbdckemcagaldaaDoorBBase
set_option linter.unusedVariables false
set_option linter.unusedSimpArgs false
namespace Go.Proofs.YtbdckemcagaldaaDoor.Pure
open Go.RowKit Go.Proofs.YtbdckemcagaldaaDoor.QFnExactKeyLog Go.Proofs.YtbdckemcagaldaaDoorW.PrintWords Go.Proofs.YtbdckemcagaldaaDoorW.PrintLast Go.Proofs.YtbdckemcagaldaaDoorW.PrintMore Go.Proofs.YtbdckemcagaldaaDoor.B

/-! ### Keys of two digits -/
def dig (d : Nat) : ByteArray := ⟨#[UInt8.ofNat (48 + d)]⟩
theorem dig_num (d : Nat) (h : d ≤ 9) : strOfNums [(wrap64 (48 + (d : Int))) % 256] = dig d := by
  have e : (wrap64 (48 + (d : Int))) % 256 = ((48 + d : Nat) : Int) := by unfold wrap64; omega
  rw [e]
  simp only [strOfNums, dig, List.map_cons, List.map_nil, Int.toNat_natCast]
theorem dig_ev (d : Nat) (h : d ≤ 9) : EvP (fun k => spec_l9Dec.f k (d : Int)) (· = dig d) := by
  refine EvP.step (fun k => by rw [spec_l9Dec.f]) (EvP.neg (by omega) (EvP.neg (by omega) ?_))
  refine EvP.step (fun k => by rw [spec_l9Dec.l0]) (EvP.neg (by omega) ?_)
  simp only [Option.bind_some]
  rw [dig_num d h]
  refine EvP.pos (by show 1 + 0 ≤ _; omega) (EvP.now ?_)
  exact ByteArray.ext (by simp [ByteArray.data_append])

theorem l3Two_ev (n : Nat) (h : n ≤ 99) : EvP (fun k => spec_l3Two.f k (n : Int)) (· = dig (n / 10) ++ dig (n % 10)) := by
  unfold spec_l3Two.f
  have e1 : wrap64 (Int.tdiv (n : Int) 10) = ((n / 10 : Nat) : Int) := by rw [Int.tdiv_eq_ediv_of_nonneg (by omega), w64 (by omega) (by omega)]; omega
  have e2 : Int.tmod (n : Int) 10 = ((n % 10 : Nat) : Int) := by rw [Int.tmod_eq_emod_of_nonneg (by omega)]; omega
  rw [e1, e2]
  refine EvP.bind (dig_ev (n / 10) (by omega)) ?_
  rintro _ rfl
  refine EvP.bind (dig_ev (n % 10) (by omega)) ?_
  rintro _ rfl
  exact EvP.pos (by show 1 + 1 ≤ _; omega) (EvP.now rfl)
/-- A key of two digits, or nothing. -/
def twoB (c : UInt8) (n : Int) : ByteArray := if n < 0 then ⟨#[]⟩ else if n > 99 then ⟨#[]⟩ else ⟨#[c, 47, UInt8.ofNat (48 + n.toNat / 10), UInt8.ofNat (48 + n.toNat % 10)]⟩
theorem two_cat (c : UInt8) (n : Nat) : (⟨#[c, 47]⟩ : ByteArray) ++ (dig (n / 10) ++ dig (n % 10)) = ⟨#[c, 47, UInt8.ofNat (48 + n / 10), UInt8.ofNat (48 + n % 10)]⟩ := ByteArray.ext (by simp [ByteArray.data_append, dig])
theorem keyTwo_eq (c : UInt8) (n : Int) : impl_keyTwo.f (c.toNat : Int) n 99 = some (twoB c n) := by
  unfold impl_keyTwo.f twoB
  have hc := c.toNat_lt
  by_cases h : n < 0
  · rw [if_pos (.inl h), if_pos h]
  · rw [if_neg h]
    by_cases h2 : n > 99
    · rw [if_pos (.inr h2), if_pos h2]
    · rw [if_neg (by omega), if_neg h2, if_pos ⟨by omega, by omega, by omega⟩]
      unfold keyTwoB
      simp

theorem spec_KeyLog_ev (n : Int) : EvP (fun k => spec_KeyLog.f k n) (· = twoB 106 n) := by
  unfold spec_KeyLog.f twoB
  refine EvP.split (fun h => EvP.now (by rw [if_pos h])) (fun h => ?_)
  rw [if_neg h]
  refine EvP.split (fun h2 => EvP.now (by rw [if_pos h2])) (fun h2 => ?_)
  rw [if_neg h2]
  obtain ⟨m, rfl⟩ : ∃ m : Nat, n = m := ⟨n.toNat, by omega⟩
  refine EvP.bind (l3Two_ev m (by omega)) ?_
  rintro _ rfl
  refine EvP.pos (by show 2 + 2 ≤ _; omega) (EvP.now ?_)
  rw [Int.toNat_natCast]
  exact two_cat 106 m
theorem impl_KeyLog_eq (n : Int) : impl_KeyLog.f n = some (twoB 106 n) := by
  unfold impl_KeyLog.f
  rw [show (106 : Int) = ((106 : UInt8).toNat : Int) from rfl, keyTwo_eq]
  rfl

theorem FnExactKeyLog (a0 : Int) (g0 : (Lit.int .i64 a0).wf = true) : ∃ k, laws_FnExactKeyLog.f k a0 = some true := by
  refine EvP.done ?_
  unfold laws_FnExactKeyLog.f
  refine EvP.bind (spec_KeyLog_ev a0) ?_
  rintro _ rfl
  rw [impl_KeyLog_eq]
  simp only [Option.bind_some]
  exact EvP.pos trivial (EvP.now rfl)


end Go.Proofs.YtbdckemcagaldaaDoor.Pure
