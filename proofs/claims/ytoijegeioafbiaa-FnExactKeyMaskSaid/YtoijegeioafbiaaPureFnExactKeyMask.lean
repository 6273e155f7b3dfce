/- KeyMask of the program answers as the reference's, for every text. -/
import Derived.Test.YtoijegeioafbiaaPFnExactKeyMaskx1
import Derived.Test.YtoijegeioafbiaaBBase
set_option linter.unusedVariables false
set_option linter.unusedSimpArgs false
namespace Go.Proofs.Ytoijegeioafbiaa.Pure
open Go.RowKit Go.Proofs.Ytoijegeioafbiaa.PFnExactKeyMask Go.Proofs.YtoijegeioafbiaaW.PrintWords Go.Proofs.YtoijegeioafbiaaW.PrintLast Go.Proofs.YtoijegeioafbiaaW.PrintMore Go.Proofs.Ytoijegeioafbiaa.B

/-! ### KeyMask -/
theorem spec_l4Bit_l0 (n : Nat) (hn : n ≤ 40) : ∀ (d i : Nat), i + d = n → EvP (fun k => spec_l4Bit.l0 k (n : Int) ((2 ^ i : Nat) : Int) (i : Int)) (· = ((2 ^ n : Nat) : Int)) := by
  intro d
  induction d with
  | zero =>
    intro i h
    refine EvP.step (fun k => by rw [spec_l4Bit.l0]) (EvP.neg (by omega) (EvP.now ?_))
    rw [show i = n by omega]
  | succ d ih =>
    intro i h
    refine EvP.step (fun k => by rw [spec_l4Bit.l0]) (EvP.pos (by omega) ?_)
    have h40 : 2 ^ i ≤ 2 ^ 40 := Nat.pow_le_pow_right (by decide) (by omega)
    have e : ((2 ^ i : Nat) : Int) * 2 = ((2 ^ (i + 1) : Nat) : Int) := by rw [Nat.pow_succ]; simp
    have e2 : ((i : Int) + 1) = ((i + 1 : Nat) : Int) := by simp
    have hw : wrap64 (((2 ^ i : Nat) : Int) * 2) = ((2 ^ (i + 1) : Nat) : Int) := by
      rw [e]
      have h41 : 2 ^ (i + 1) ≤ 2 ^ 41 := Nat.pow_le_pow_right (by decide) (by omega)
      generalize 2 ^ (i + 1) = z at h41 ⊢
      exact w64 (by omega) (by omega)
    rw [hw, w64 (x := (i : Int) + 1) (by omega) (by omega), e2]
    exact ih (i + 1) (by omega)
theorem spec_l4Bit_ev (n : Nat) (hn : n ≤ 40) : EvP (fun k => spec_l4Bit.f k (n : Int)) (· = ((2 ^ n : Nat) : Int)) := by
  have := spec_l4Bit_l0 n hn n 0 (by omega)
  exact this
/-- The bits from place i on are a bit and the bits from the next place on. -/
theorem shift_bit (x i : Nat) : x >>> i = 2 * (x >>> (i + 1)) + (x.testBit i).toNat := by
  rw [Nat.shiftRight_succ, Nat.testBit_eq_decide_div_mod_eq, Nat.shiftRight_eq_div_pow]
  by_cases h : x / 2 ^ i % 2 = 1
  · simp only [h, decide_true, Bool.toNat_true]; omega
  · simp only [h, decide_false, Bool.toNat_false]; omega
theorem int_bit (a i : Nat) (ha : a < 2 ^ 62) : (Int.tmod (wrap64 (Int.tdiv (a : Int) ((2 ^ i : Nat) : Int))) 2 = 1) ↔ a.testBit i = true := by
  have e1 : Int.tdiv (a : Int) ((2 ^ i : Nat) : Int) = ((a / 2 ^ i : Nat) : Int) := rfl
  have hle : a / 2 ^ i ≤ a := Nat.div_le_self _ _
  have hw : wrap64 ((a / 2 ^ i : Nat) : Int) = ((a / 2 ^ i : Nat) : Int) := by
    generalize a / 2 ^ i = z at hle ⊢
    exact w64 (by omega) (by omega)
  rw [e1, hw]
  have e2 : Int.tmod ((a / 2 ^ i : Nat) : Int) 2 = ((a / 2 ^ i % 2 : Nat) : Int) := rfl
  rw [e2, Nat.testBit_eq_decide_div_mod_eq, decide_eq_true_eq]
  omega
theorem spec_l4Or_l0 (a b : Nat) (ha : a < 2 ^ 62) (hb : b < 2 ^ 62) (hab : a ||| b < 2 ^ 40) : ∀ (j : Nat), j ≤ 16 →
    EvP (fun k => spec_l4Or.l0 k (a : Int) (b : Int) (((a ||| b) >>> j : Nat) : Int) ((j : Int) - 1)) (· = ((a ||| b : Nat) : Int)) := by
  intro j
  induction j with
  | zero =>
    intro _
    refine EvP.step (fun k => by rw [spec_l4Or.l0]) (EvP.neg (by omega) (EvP.now ?_))
    simp
  | succ j ih =>
    intro hj
    have hlt : (a ||| b) >>> (j + 1) < 2 ^ 40 := Nat.lt_of_le_of_lt (Nat.shiftRight_le _ _) hab
    refine EvP.step (fun k => by rw [spec_l4Or.l0]) (EvP.pos (by omega) ?_)
    have e0 : ((j + 1 : Nat) : Int) - 1 = (j : Int) := by omega
    rw [e0]
    have hp : 0 < 2 ^ j := Nat.two_pow_pos j
    have hz : ¬ ((2 ^ j : Nat) : Int) = 0 := by omega
    have ht := shift_bit (a ||| b) j
    have hto : (a ||| b).testBit j = (a.testBit j || b.testBit j) := Nat.testBit_or ..
    have hbit : ∀ x : Nat, (x.testBit j).toNat ≤ 1 := fun x => by cases x.testBit j <;> simp
    have hlt2 : (a ||| b) >>> j < 2 ^ 42 := by have := hbit (a ||| b); omega
    have hjm : wrap64 ((j : Int) - 1) = (j : Int) - 1 := w64 (by omega) (by omega)
    have hx2 : wrap64 ((((a ||| b) >>> (j + 1) : Nat) : Int) * 2) = ((((a ||| b) >>> (j + 1)) * 2 : Nat) : Int) := by rw [w64 (by omega) (by omega)]; omega
    have hx3 : wrap64 (((((a ||| b) >>> (j + 1)) * 2 : Nat) : Int) + 1) = ((((a ||| b) >>> (j + 1)) * 2 + 1 : Nat) : Int) := by rw [w64 (by omega) (by omega)]; omega
    have hlt40 : j ≤ 15 := by omega
    have hres : ∀ n : Nat, n = (a ||| b) >>> j → EvP (fun k => spec_l4Or.l0 k (a : Int) (b : Int) (n : Int) ((j : Int) - 1)) (· = ((a ||| b : Nat) : Int)) := by
      rintro n rfl
      exact ih (by omega)
    refine EvP.bind (spec_l4Bit_ev j (by omega)) ?_
    rintro _ rfl
    refine EvP.neg hz ?_
    rw [hjm, hx2, hx3]
    refine EvP.split (fun h1 => ?_) (fun h1 => ?_)
    · rw [int_bit a j ha] at h1
      refine hres _ ?_
      rw [ht, hto, h1]; simp; omega
    · rw [int_bit a j ha] at h1
      refine EvP.bind (spec_l4Bit_ev j (by omega)) ?_
      rintro _ rfl
      refine EvP.neg hz ?_
      refine EvP.split (fun h2 => ?_) (fun h2 => ?_)
      · rw [int_bit b j hb] at h2
        refine hres _ ?_
        rw [ht, hto, h2]; simp; omega
      · rw [int_bit b j hb] at h2
        refine hres _ ?_
        rw [ht, hto]
        simp only [Bool.not_eq_true] at h1 h2
        rw [h1, h2]; simp; omega

theorem spec_l4Or_ev (a b : Nat) (ha : a < 65536) (hb : b < 65536) : EvP (fun k => spec_l4Or.f k (a : Int) (b : Int)) (· = ((a ||| b : Nat) : Int)) := by
  have hab : a ||| b < 2 ^ 16 := Nat.or_lt_two_pow ha hb
  have := spec_l4Or_l0 a b (by omega) (by omega) (by omega) 16 (by omega)
  have e : (a ||| b) >>> 16 = 0 := by rw [Nat.shiftRight_eq_div_pow]; exact Nat.div_eq_of_lt hab
  rw [e] at this
  exact this
/-- What is left of 31 times h and the byte, for all bytes from place i on. -/
def hashN (s : ByteArray) : Nat → Int → Int → Int
  | 0, _, h => h
  | d + 1, i, h => hashN s d (i + 1) ((h * 31 + bt s i) % 65521)
theorem hashN_range (s : ByteArray) : ∀ (d : Nat) (i h : Int), 0 ≤ h → h < 65521 → 0 ≤ hashN s d i h ∧ hashN s d i h < 65521 := by
  intro d
  induction d with
  | zero => intro i h h0 h1; exact ⟨h0, h1⟩
  | succ d ih => intro i h h0 h1; exact ih _ _ (by omega) (by omega)
def hashI (s : ByteArray) : Int := hashN s s.size 0 7
def maskN (s : ByteArray) : Nat := 2 ^ (hashI s % 16).toNat ||| 2 ^ (hashI s / 16 % 16).toNat
theorem maskN_lt (s : ByteArray) : maskN s < 65536 := by
  have h : ∀ n : Nat, n ≤ 15 → 2 ^ n < 2 ^ 16 := fun n hn => Nat.pow_lt_pow_right (by decide) (by omega)
  exact Nat.or_lt_two_pow (h _ (by omega)) (h _ (by omega))
theorem hash_step (h b : Int) (h0 : 0 ≤ h) (h1 : h < 65521) (b0 : 0 ≤ b) (b1 : b ≤ 255) : Int.tmod (wrap64 ((wrap64 (h * 31)) + (wrap64 b))) 65521 = (h * 31 + b) % 65521 := by
  rw [w64 (x := h * 31) (by omega) (by omega), w64 (x := b) (by omega) (by omega), w64 (by omega) (by omega), Int.tmod_eq_emod_of_nonneg (by omega)]
theorem spec_KeyMask_l0 (s : ByteArray) (hs : s.size ≤ 140737488351232) : ∀ (d : Nat) (i h : Int), 0 ≤ i → i + d = s.size → 0 ≤ h → h < 65521 → hashN s d i h = hashI s →
    EvP (fun k => spec_KeyMask.l0 k s h i) (· = (maskN s : Int)) := by
  intro d
  induction d with
  | zero =>
    intro i h h0 hi hh0 hh1 he
    refine EvP.step (fun k => by rw [spec_KeyMask.l0]) (EvP.neg (by omega) ?_)
    have he' : h = hashI s := he
    have e1 : Int.tmod h 16 = ((hashI s % 16).toNat : Int) := by rw [he', Int.tmod_eq_emod_of_nonneg (by omega)]; omega
    have e2 : Int.tmod (wrap64 (Int.tdiv h 16)) 16 = ((hashI s / 16 % 16).toNat : Int) := by
      rw [Int.tdiv_eq_ediv_of_nonneg hh0, w64 (by omega) (by omega), Int.tmod_eq_emod_of_nonneg (by omega), he']; omega
    rw [e1, e2]
    refine EvP.bind (spec_l4Bit_ev _ (by omega)) ?_
    rintro _ rfl
    refine EvP.bind (spec_l4Bit_ev _ (by omega)) ?_
    rintro _ rfl
    have hp : ∀ n : Nat, n ≤ 15 → 2 ^ n < 65536 := fun n hn => Nat.lt_of_lt_of_le (Nat.pow_lt_pow_right (a := 2) (by decide) (show n < 16 by omega)) (by decide)
    refine EvP.bind (spec_l4Or_ev _ _ (hp _ (by omega)) (hp _ (by omega))) ?_
    rintro _ rfl
    exact EvP.now rfl
  | succ d ih =>
    intro i h h0 hi hh0 hh1 he
    refine EvP.step (fun k => by rw [spec_KeyMask.l0]) (EvP.pos (by omega) (EvP.pos (by omega) ?_))
    obtain ⟨b0, b1⟩ := bt_range s i
    rw [hash_step h (bt s i) hh0 hh1 b0 b1, w64 (x := i + 1) (by omega) (by omega)]
    exact ih (i + 1) _ (by omega) (by omega) (by omega) (by omega) he
theorem spec_KeyMask_ev (s : ByteArray) (hs : s.size ≤ 140737488351232) : EvP (fun k => spec_KeyMask.f k s) (· = (maskN s : Int)) :=
  spec_KeyMask_l0 s hs s.size 0 7 (by omega) (by omega) (by omega) (by omega) rfl
theorem impl_KeyMask_l0 (s : ByteArray) (hs : s.size ≤ 140737488351232) : ∀ (d : Nat) (i h : Int), 0 ≤ i → i + d = s.size → 0 ≤ h → h < 65521 → hashN s d i h = hashI s →
    EvP (fun k => impl_KeyMask.l0 k s h (s.size : Int) i) (· = (maskN s : Int)) := by
  intro d
  induction d with
  | zero =>
    intro i h h0 hi hh0 hh1 he
    refine EvP.step (fun k => by rw [impl_KeyMask.l0]) (EvP.neg (by omega) ?_)
    have he' : h = hashI s := he
    have e1 : Int.tmod h 16 = ((hashI s % 16).toNat : Int) := by rw [he', Int.tmod_eq_emod_of_nonneg (by omega)]; omega
    have e2 : Int.tmod (wrap64 (Int.tdiv h 16)) 16 = ((hashI s / 16 % 16).toNat : Int) := by
      rw [Int.tdiv_eq_ediv_of_nonneg hh0, w64 (by omega) (by omega), Int.tmod_eq_emod_of_nonneg (by omega), he']; omega
    have hp : ∀ n : Nat, n ≤ 15 → 2 ^ n < 2 ^ 62 := fun n hn => Nat.pow_lt_pow_right (a := 2) (by decide) (show n < 62 by omega)
    rw [e1, e2, shl1 _ (by omega), shl1 _ (by omega), or64 _ _ (hp _ (by omega)) (hp _ (by omega))]
    exact EvP.pos (by omega) (EvP.pos (by omega) (EvP.now rfl))
  | succ d ih =>
    intro i h h0 hi hh0 hh1 he
    refine EvP.step (fun k => by rw [impl_KeyMask.l0]) (EvP.pos (by omega) (EvP.pos (by omega) (EvP.pos (by omega) ?_)))
    obtain ⟨b0, b1⟩ := bt_range s i
    rw [Int.mul_comm 31 h, hash_step h (bt s i) hh0 hh1 b0 b1, w64 (x := i + 1) (by omega) (by omega)]
    exact ih (i + 1) _ (by omega) (by omega) (by omega) (by omega) he
theorem impl_KeyMask_ev (s : ByteArray) (hs : s.size ≤ 140737488351232) : EvP (fun k => impl_KeyMask.f k s) (· = (maskN s : Int)) :=
  impl_KeyMask_l0 s hs s.size 0 7 (by omega) (by omega) (by omega) (by omega) rfl

theorem FnExactKeyMask : laws_FnExactKeyMask.Pure := by
  intro s hs
  refine EvP.done ?_
  unfold laws_FnExactKeyMask.f
  refine EvP.split (fun _ => EvP.now rfl) (fun _ => ?_)
  refine EvP.bind (spec_KeyMask_ev s hs) ?_
  rintro _ rfl
  refine EvP.bind (impl_KeyMask_ev s hs) ?_
  rintro _ rfl
  exact EvP.pos rfl (EvP.now rfl)


end Go.Proofs.Ytoijegeioafbiaa.Pure
