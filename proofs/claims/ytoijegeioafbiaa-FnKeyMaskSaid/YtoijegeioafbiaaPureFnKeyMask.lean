/- Filter marks are one or two bits: for every drawn key. -/
import Derived.Test.YtoijegeioafbiaaPFnKeyMaskx2
import Derived.Test.YtoijegeioafbiaaBBase
set_option linter.unusedVariables false
set_option linter.unusedSimpArgs false
namespace Go.Proofs.Ytoijegeioafbiaa.Pure
open Go.RowKit Go.Proofs.Ytoijegeioafbiaa.PFnKeyMask Go.Proofs.YtoijegeioafbiaaW.PrintWords Go.Proofs.YtoijegeioafbiaaW.PrintLast Go.Proofs.YtoijegeioafbiaaW.PrintMore Go.Proofs.Ytoijegeioafbiaa.B

/-! ### KeyMask -/
theorem spec_l4Bit_l0 (n : Nat) (hn : n ≤ 40) : ∀ (d i : Nat), i + d = n → EvP (fun k => spec_l4Bit.l0 k (n : Int) ((2 ^ i : Nat) : Int) (i : Int)) (· = ((2 ^ n : Nat) : Int)) := by
  intro d
  induction d with
  | zero =>
    intro i h
    refine EvP.step (fun k => by rw [spec_l4Bit.l0]) (EvP.neg (by omega) (EvP.now ?_))
    rw [show i = n by omega]
  | succ d ih =>
    intro i h
    refine EvP.step (fun k => by rw [spec_l4Bit.l0]) (EvP.pos (by omega) ?_)
    have h40 : 2 ^ i ≤ 2 ^ 40 := Nat.pow_le_pow_right (by decide) (by omega)
    have e : ((2 ^ i : Nat) : Int) * 2 = ((2 ^ (i + 1) : Nat) : Int) := by rw [Nat.pow_succ]; simp
    have e2 : ((i : Int) + 1) = ((i + 1 : Nat) : Int) := by simp
    have hw : wrap64 (((2 ^ i : Nat) : Int) * 2) = ((2 ^ (i + 1) : Nat) : Int) := by
      rw [e]
      have h41 : 2 ^ (i + 1) ≤ 2 ^ 41 := Nat.pow_le_pow_right (by decide) (by omega)
      generalize 2 ^ (i + 1) = z at h41 ⊢
      exact w64 (by omega) (by omega)
    rw [hw, w64 (x := (i : Int) + 1) (by omega) (by omega), e2]
    exact ih (i + 1) (by omega)
theorem spec_l4Bit_ev (n : Nat) (hn : n ≤ 40) : EvP (fun k => spec_l4Bit.f k (n : Int)) (· = ((2 ^ n : Nat) : Int)) := by
  have := spec_l4Bit_l0 n hn n 0 (by omega)
  exact this
/-- The bits from place i on are a bit and the bits from the next place on. -/
theorem shift_bit (x i : Nat) : x >>> i = 2 * (x >>> (i + 1)) + (x.testBit i).toNat := by
  rw [Nat.shiftRight_succ, Nat.testBit_eq_decide_div_mod_eq, Nat.shiftRight_eq_div_pow]
  by_cases h : x / 2 ^ i % 2 = 1
  · simp only [h, decide_true, Bool.toNat_true]; omega
  · simp only [h, decide_false, Bool.toNat_false]; omega
theorem int_bit (a i : Nat) (ha : a < 2 ^ 62) : (Int.tmod (wrap64 (Int.tdiv (a : Int) ((2 ^ i : Nat) : Int))) 2 = 1) ↔ a.testBit i = true := by
  have e1 : Int.tdiv (a : Int) ((2 ^ i : Nat) : Int) = ((a / 2 ^ i : Nat) : Int) := rfl
  have hle : a / 2 ^ i ≤ a := Nat.div_le_self _ _
  have hw : wrap64 ((a / 2 ^ i : Nat) : Int) = ((a / 2 ^ i : Nat) : Int) := by
    generalize a / 2 ^ i = z at hle ⊢
    exact w64 (by omega) (by omega)
  rw [e1, hw]
  have e2 : Int.tmod ((a / 2 ^ i : Nat) : Int) 2 = ((a / 2 ^ i % 2 : Nat) : Int) := rfl
  rw [e2, Nat.testBit_eq_decide_div_mod_eq, decide_eq_true_eq]
  omega
theorem spec_l4Or_l0 (a b : Nat) (ha : a < 2 ^ 62) (hb : b < 2 ^ 62) (hab : a ||| b < 2 ^ 40) : ∀ (j : Nat), j ≤ 16 →
    EvP (fun k => spec_l4Or.l0 k (a : Int) (b : Int) (((a ||| b) >>> j : Nat) : Int) ((j : Int) - 1)) (· = ((a ||| b : Nat) : Int)) := by
  intro j
  induction j with
  | zero =>
    intro _
    refine EvP.step (fun k => by rw [spec_l4Or.l0]) (EvP.neg (by omega) (EvP.now ?_))
    simp
  | succ j ih =>
    intro hj
    have hlt : (a ||| b) >>> (j + 1) < 2 ^ 40 := Nat.lt_of_le_of_lt (Nat.shiftRight_le _ _) hab
    refine EvP.step (fun k => by rw [spec_l4Or.l0]) (EvP.pos (by omega) ?_)
    have e0 : ((j + 1 : Nat) : Int) - 1 = (j : Int) := by omega
    rw [e0]
    have hp : 0 < 2 ^ j := Nat.two_pow_pos j
    have hz : ¬ ((2 ^ j : Nat) : Int) = 0 := by omega
    have ht := shift_bit (a ||| b) j
    have hto : (a ||| b).testBit j = (a.testBit j || b.testBit j) := Nat.testBit_or ..
    have hbit : ∀ x : Nat, (x.testBit j).toNat ≤ 1 := fun x => by cases x.testBit j <;> simp
    have hlt2 : (a ||| b) >>> j < 2 ^ 42 := by have := hbit (a ||| b); omega
    have hjm : wrap64 ((j : Int) - 1) = (j : Int) - 1 := w64 (by omega) (by omega)
    have hx2 : wrap64 ((((a ||| b) >>> (j + 1) : Nat) : Int) * 2) = ((((a ||| b) >>> (j + 1)) * 2 : Nat) : Int) := by rw [w64 (by omega) (by omega)]; omega
    have hx3 : wrap64 (((((a ||| b) >>> (j + 1)) * 2 : Nat) : Int) + 1) = ((((a ||| b) >>> (j + 1)) * 2 + 1 : Nat) : Int) := by rw [w64 (by omega) (by omega)]; omega
    have hlt40 : j ≤ 15 := by omega
    have hres : ∀ n : Nat, n = (a ||| b) >>> j → EvP (fun k => spec_l4Or.l0 k (a : Int) (b : Int) (n : Int) ((j : Int) - 1)) (· = ((a ||| b : Nat) : Int)) := by
      rintro n rfl
      exact ih (by omega)
    refine EvP.bind (spec_l4Bit_ev j (by omega)) ?_
    rintro _ rfl
    refine EvP.neg hz ?_
    rw [hjm, hx2, hx3]
    refine EvP.split (fun h1 => ?_) (fun h1 => ?_)
    · rw [int_bit a j ha] at h1
      refine hres _ ?_
      rw [ht, hto, h1]; simp; omega
    · rw [int_bit a j ha] at h1
      refine EvP.bind (spec_l4Bit_ev j (by omega)) ?_
      rintro _ rfl
      refine EvP.neg hz ?_
      refine EvP.split (fun h2 => ?_) (fun h2 => ?_)
      · rw [int_bit b j hb] at h2
        refine hres _ ?_
        rw [ht, hto, h2]; simp; omega
      · rw [int_bit b j hb] at h2
        refine hres _ ?_
        rw [ht, hto]
        simp only [Bool.not_eq_true] at h1 h2
        rw [h1, h2]; simp; omega

theorem spec_l4Or_ev (a b : Nat) (ha : a < 65536) (hb : b < 65536) : EvP (fun k => spec_l4Or.f k (a : Int) (b : Int)) (· = ((a ||| b : Nat) : Int)) := by
  have hab : a ||| b < 2 ^ 16 := Nat.or_lt_two_pow ha hb
  have := spec_l4Or_l0 a b (by omega) (by omega) (by omega) 16 (by omega)
  have e : (a ||| b) >>> 16 = 0 := by rw [Nat.shiftRight_eq_div_pow]; exact Nat.div_eq_of_lt hab
  rw [e] at this
  exact this
/-- What is left of 31 times h and the byte, for all bytes from place i on. -/
def hashN (s : ByteArray) : Nat → Int → Int → Int
  | 0, _, h => h
  | d + 1, i, h => hashN s d (i + 1) ((h * 31 + bt s i) % 65521)
theorem hashN_range (s : ByteArray) : ∀ (d : Nat) (i h : Int), 0 ≤ h → h < 65521 → 0 ≤ hashN s d i h ∧ hashN s d i h < 65521 := by
  intro d
  induction d with
  | zero => intro i h h0 h1; exact ⟨h0, h1⟩
  | succ d ih => intro i h h0 h1; exact ih _ _ (by omega) (by omega)
def hashI (s : ByteArray) : Int := hashN s s.size 0 7
def maskN (s : ByteArray) : Nat := 2 ^ (hashI s % 16).toNat ||| 2 ^ (hashI s / 16 % 16).toNat
theorem maskN_lt (s : ByteArray) : maskN s < 65536 := by
  have h : ∀ n : Nat, n ≤ 15 → 2 ^ n < 2 ^ 16 := fun n hn => Nat.pow_lt_pow_right (by decide) (by omega)
  exact Nat.or_lt_two_pow (h _ (by omega)) (h _ (by omega))
theorem hash_step (h b : Int) (h0 : 0 ≤ h) (h1 : h < 65521) (b0 : 0 ≤ b) (b1 : b ≤ 255) : Int.tmod (wrap64 ((wrap64 (h * 31)) + (wrap64 b))) 65521 = (h * 31 + b) % 65521 := by
  rw [w64 (x := h * 31) (by omega) (by omega), w64 (x := b) (by omega) (by omega), w64 (by omega) (by omega), Int.tmod_eq_emod_of_nonneg (by omega)]
theorem spec_KeyMask_l0 (s : ByteArray) (hs : s.size ≤ 140737488351232) : ∀ (d : Nat) (i h : Int), 0 ≤ i → i + d = s.size → 0 ≤ h → h < 65521 → hashN s d i h = hashI s →
    EvP (fun k => spec_KeyMask.l0 k s h i) (· = (maskN s : Int)) := by
  intro d
  induction d with
  | zero =>
    intro i h h0 hi hh0 hh1 he
    refine EvP.step (fun k => by rw [spec_KeyMask.l0]) (EvP.neg (by omega) ?_)
    have he' : h = hashI s := he
    have e1 : Int.tmod h 16 = ((hashI s % 16).toNat : Int) := by rw [he', Int.tmod_eq_emod_of_nonneg (by omega)]; omega
    have e2 : Int.tmod (wrap64 (Int.tdiv h 16)) 16 = ((hashI s / 16 % 16).toNat : Int) := by
      rw [Int.tdiv_eq_ediv_of_nonneg hh0, w64 (by omega) (by omega), Int.tmod_eq_emod_of_nonneg (by omega), he']; omega
    rw [e1, e2]
    refine EvP.bind (spec_l4Bit_ev _ (by omega)) ?_
    rintro _ rfl
    refine EvP.bind (spec_l4Bit_ev _ (by omega)) ?_
    rintro _ rfl
    have hp : ∀ n : Nat, n ≤ 15 → 2 ^ n < 65536 := fun n hn => Nat.lt_of_lt_of_le (Nat.pow_lt_pow_right (a := 2) (by decide) (show n < 16 by omega)) (by decide)
    refine EvP.bind (spec_l4Or_ev _ _ (hp _ (by omega)) (hp _ (by omega))) ?_
    rintro _ rfl
    exact EvP.now rfl
  | succ d ih =>
    intro i h h0 hi hh0 hh1 he
    refine EvP.step (fun k => by rw [spec_KeyMask.l0]) (EvP.pos (by omega) (EvP.pos (by omega) ?_))
    obtain ⟨b0, b1⟩ := bt_range s i
    rw [hash_step h (bt s i) hh0 hh1 b0 b1, w64 (x := i + 1) (by omega) (by omega)]
    exact ih (i + 1) _ (by omega) (by omega) (by omega) (by omega) he
theorem spec_KeyMask_ev (s : ByteArray) (hs : s.size ≤ 140737488351232) : EvP (fun k => spec_KeyMask.f k s) (· = (maskN s : Int)) :=
  spec_KeyMask_l0 s hs s.size 0 7 (by omega) (by omega) (by omega) (by omega) rfl
theorem impl_KeyMask_l0 (s : ByteArray) (hs : s.size ≤ 140737488351232) : ∀ (d : Nat) (i h : Int), 0 ≤ i → i + d = s.size → 0 ≤ h → h < 65521 → hashN s d i h = hashI s →
    EvP (fun k => impl_KeyMask.l0 k s h (s.size : Int) i) (· = (maskN s : Int)) := by
  intro d
  induction d with
  | zero =>
    intro i h h0 hi hh0 hh1 he
    refine EvP.step (fun k => by rw [impl_KeyMask.l0]) (EvP.neg (by omega) ?_)
    have he' : h = hashI s := he
    have e1 : Int.tmod h 16 = ((hashI s % 16).toNat : Int) := by rw [he', Int.tmod_eq_emod_of_nonneg (by omega)]; omega
    have e2 : Int.tmod (wrap64 (Int.tdiv h 16)) 16 = ((hashI s / 16 % 16).toNat : Int) := by
      rw [Int.tdiv_eq_ediv_of_nonneg hh0, w64 (by omega) (by omega), Int.tmod_eq_emod_of_nonneg (by omega), he']; omega
    have hp : ∀ n : Nat, n ≤ 15 → 2 ^ n < 2 ^ 62 := fun n hn => Nat.pow_lt_pow_right (a := 2) (by decide) (show n < 62 by omega)
    rw [e1, e2, shl1 _ (by omega), shl1 _ (by omega), or64 _ _ (hp _ (by omega)) (hp _ (by omega))]
    exact EvP.pos (by omega) (EvP.pos (by omega) (EvP.now rfl))
  | succ d ih =>
    intro i h h0 hi hh0 hh1 he
    refine EvP.step (fun k => by rw [impl_KeyMask.l0]) (EvP.pos (by omega) (EvP.pos (by omega) (EvP.pos (by omega) ?_)))
    obtain ⟨b0, b1⟩ := bt_range s i
    rw [Int.mul_comm 31 h, hash_step h (bt s i) hh0 hh1 b0 b1, w64 (x := i + 1) (by omega) (by omega)]
    exact ih (i + 1) _ (by omega) (by omega) (by omega) (by omega) he
theorem impl_KeyMask_ev (s : ByteArray) (hs : s.size ≤ 140737488351232) : EvP (fun k => impl_KeyMask.f k s) (· = (maskN s : Int)) :=
  impl_KeyMask_l0 s hs s.size 0 7 (by omega) (by omega) (by omega) (by omega) rfl

/-! ### The reader of draws -/
/-- Bytes, at most 2000 of them. -/
structure Bytes (l : List Int) : Prop where
  len : l.length ≤ 2000
  lo : ∀ j, 0 ≤ rd l j
  hi : ∀ j, rd l j ≤ 255
theorem rd_range {l : List Int} (h : ∀ x ∈ l, 0 ≤ x ∧ x ≤ 255) (j : Int) : 0 ≤ rd l j ∧ rd l j ≤ 255 := by
  unfold rd
  rw [List.getD_eq_getElem?_getD]
  rcases Nat.lt_or_ge j.toNat l.length with hj | hj
  · rw [List.getElem?_eq_getElem hj]
    exact h _ (List.getElem_mem hj)
  · rw [List.getElem?_eq_none hj]
    simp
theorem u8_range {l : List Int} (h : ∀ x ∈ l, (Lit.int .u8 x).wf = true) : ∀ x ∈ l, 0 ≤ x ∧ x ≤ 255 := by
  intro x hx
  have := h x hx
  simp [Lit.wf, IntKind.min, IntKind.max, IntKind.signed, IntKind.bits] at this
  omega
theorem spec_l9Open_ev (l : List Int) (h : ∀ x ∈ l, (Lit.int .u8 x).wf = true) : EvP (fun _ => spec_l9Open.f l) (fun r => Bytes r.1 ∧ r.2 = 0) := by
  unfold spec_l9Open.f
  have hu := u8_range h
  refine EvP.split (fun h1 => EvP.pos (by omega) (EvP.now ⟨⟨?_, fun j => ?_, fun j => ?_⟩, rfl⟩)) (fun h1 => EvP.now ⟨⟨?_, fun j => ?_, fun j => ?_⟩, rfl⟩)
  · simp; omega
  · exact (rd_range (fun x hx => hu x (List.mem_of_mem_take hx)) j).1
  · exact (rd_range (fun x hx => hu x (List.mem_of_mem_take hx)) j).2
  · show l.length ≤ 2000
    omega
  · exact (rd_range hu j).1
  · exact (rd_range hu j).2
theorem xor_nonneg (x y : Int) (h0 : 0 ≤ x) (h1 : x < 2 ^ 62) (h2 : 0 ≤ y) (h3 : y < 2 ^ 62) : 0 ≤ bits .xor .i64 x y := by
  obtain ⟨a, rfl⟩ := Int.eq_ofNat_of_zero_le h0
  obtain ⟨b, rfl⟩ := Int.eq_ofNat_of_zero_le h2
  rw [xor64 a b (by omega) (by omega)]
  exact Int.natCast_nonneg _
/-- What a pick gives: one place on; a number below n, or 0. -/
def Picked (p n : Int) (r : Int × Int) : Prop := r.2 = p + 1 ∧ 0 ≤ r.1 ∧ (1 ≤ n → r.1 < n) ∧ (n < 1 → r.1 = 0)
theorem picked_mod {p n x : Int} (hn : ¬ n < 1) (hx : 0 ≤ x) : Picked p n (Int.tmod x n, p + 1) :=
  ⟨rfl, Int.tmod_nonneg _ hx, fun _ => Int.tmod_lt_of_pos _ (by omega), fun h => absurd h hn⟩
theorem spec_l9Rd_pick_ev (l : List Int) (hl : Bytes l) (p n : Int) (h0 : 0 ≤ p) (h1 : p ≤ 1000000000000) : EvP (fun k => spec_l9Rd_pick.f k l p n) (Picked p n) := by
  unfold spec_l9Rd_pick.f
  have e1 : wrap64 (p + 1) = p + 1 := w64 (by omega) (by omega)
  have e2 : wrap64 (p + 1 - 1) = p := by rw [w64 (by omega) (by omega)]; omega
  rw [e1]
  refine EvP.split (fun h => ?_) (fun hn => ?_)
  · refine EvP.step (fun k => by rw [spec_l9Rd_pick.j0]) (EvP.pos rfl (EvP.now ?_))
    exact ⟨rfl, Int.le_refl _, fun h' => absurd h (by omega), fun _ => rfl⟩
  · refine EvP.step (fun k => by rw [spec_l9Rd_pick.j0]) (EvP.split (fun h => EvP.now ?_) (fun hz => ?_))
    · exact ⟨rfl, Int.le_refl _, fun h' => by show (0 : Int) < n; omega, fun _ => rfl⟩
    · have hz' : ¬ (l.length : Int) = 0 := fun h => hz (by simp [h])
      have hpos : 0 < (l.length : Int) := by omega
      have hlen : (l.length : Int) ≤ 2000 := by have := hl.len; omega
      rw [e2]
      refine EvP.split (fun h => EvP.pos h0 (EvP.neg (by omega) (EvP.now ?_))) (fun h => EvP.neg hz' ?_)
      · have := hl.lo p
        have := hl.hi p
        rw [w64 (by omega) (by omega)]
        exact picked_mod hn (by omega)
      · have a0 : 0 ≤ Int.tmod p (l.length : Int) := Int.tmod_nonneg _ h0
        have a1 : Int.tmod p (l.length : Int) < (l.length : Int) := Int.tmod_lt_of_pos _ hpos
        have e7 : wrap64 (wrap64 (p * 7) + 3) = p * 7 + 3 := by rw [w64 (x := p * 7) (by omega) (by omega), w64 (by omega) (by omega)]
        have c0 : 0 ≤ Int.tmod (p * 7 + 3) (l.length : Int) := Int.tmod_nonneg _ (by omega)
        have c1 : Int.tmod (p * 7 + 3) (l.length : Int) < (l.length : Int) := Int.tmod_lt_of_pos _ hpos
        rw [e7]
        refine EvP.pos a0 (EvP.pos a1 (EvP.pos c0 (EvP.pos c1 (EvP.neg (by omega) (EvP.now ?_)))))
        have b0 := hl.lo (Int.tmod p (l.length : Int))
        have b1 := hl.hi (Int.tmod p (l.length : Int))
        have d0 := hl.lo (Int.tmod (p * 7 + 3) (l.length : Int))
        have d1 := hl.hi (Int.tmod (p * 7 + 3) (l.length : Int))
        have q0 : 0 ≤ Int.tdiv p (l.length : Int) := Int.tdiv_nonneg h0 (by omega)
        have q1 : Int.tdiv p (l.length : Int) ≤ p := by
          rw [Int.tdiv_eq_ediv_of_nonneg h0]
          exact Int.ediv_le_self _ h0
        refine picked_mod hn ?_
        generalize Int.tdiv p (l.length : Int) = q at q0 q1 ⊢
        generalize rd l (Int.tmod p (l.length : Int)) = b at b0 b1 ⊢
        generalize rd l (Int.tmod (p * 7 + 3) (l.length : Int)) = d at d0 d1 ⊢
        have f1 : wrap64 b = b := w64 (by omega) (by omega)
        have f2 : wrap64 d = d := w64 (by omega) (by omega)
        have f3 : wrap64 q = q := w64 (by omega) (by omega)
        have f4 : wrap64 (b * 131) = b * 131 := w64 (by omega) (by omega)
        have f5 : wrap64 (d * 1117) = d * 1117 := w64 (by omega) (by omega)
        have f6 : wrap64 (p * 29) = p * 29 := w64 (by omega) (by omega)
        have f7 : wrap64 (q * 53) = q * 53 := w64 (by omega) (by omega)
        have f8 : wrap64 (b * 131 + d * 1117) = b * 131 + d * 1117 := w64 (by omega) (by omega)
        have f9 : wrap64 (b * 131 + d * 1117 + p * 29) = b * 131 + d * 1117 + p * 29 := w64 (by omega) (by omega)
        have f10 : wrap64 (b * 131 + d * 1117 + p * 29 + q * 53) = b * 131 + d * 1117 + p * 29 + q * 53 := w64 (by omega) (by omega)
        rw [f1, f2, f3, f4, f5, f6, f7, f8, f9, f10]
        have g0 : 0 ≤ b * 131 + d * 1117 + p * 29 + q * 53 := by omega
        have g1 : b * 131 + d * 1117 + p * 29 + q * 53 < 2 ^ 62 := by omega
        generalize b * 131 + d * 1117 + p * 29 + q * 53 = x at g0 g1 ⊢
        have g2 : Int.tdiv x 64 = x / 64 := Int.tdiv_eq_ediv_of_nonneg g0
        rw [g2, w64 (x := x / 64) (by omega) (by omega)]
        exact xor_nonneg _ _ g0 g1 (by omega) (by omega)
/-- One of a list of texts. -/
theorem spec_l9Rd_of_ev (l : List Int) (hl : Bytes l) (p : Int) (xs : List ByteArray) (hx : 0 < xs.length) (h0 : 0 ≤ p) (h1 : p ≤ 1000000000000) : EvP (fun k => spec_l9Rd_of.f k l p xs) (fun r => r.2 = p + 1 ∧ r.1 ∈ xs) := by
  unfold spec_l9Rd_of.f
  refine EvP.bind (spec_l9Rd_pick_ev l hl p _ h0 h1) ?_
  rintro ⟨i, q⟩ ⟨hq, hi, hlt, _⟩
  have := hlt (by omega)
  simp only at hq hi this
  refine EvP.pos hi (EvP.pos this (EvP.now ⟨hq, ?_⟩))
  show xs.getD i.toNat ByteArray.empty ∈ xs
  rw [List.getD_eq_getElem?_getD, List.getElem?_eq_getElem (by omega)]
  exact List.getElem_mem _

theorem spec_l3Key_ev (l : List Int) (hl : Bytes l) (p : Int) (h0 : 0 ≤ p) (h1 : p ≤ 1000000000000) : EvP (fun k => spec_l3Key.f k l p) (fun r => r.2 = p + 1 ∧ r.1 ∈ ([⟨#[97]⟩, ⟨#[98]⟩, ⟨#[97, 98]⟩, ⟨#[98, 47, 97, 47, 49]⟩, ⟨#[98, 47, 97, 98, 47, 49]⟩, ⟨#[99]⟩] : List ByteArray)) := by
  unfold spec_l3Key.f
  refine EvP.bind (spec_l9Rd_of_ev l hl p _ (by simp) h0 h1) ?_
  rintro ⟨x, q⟩ h
  exact EvP.now h

theorem spec_DrawKeyMask_ev (l0 : List Int) (h : ∀ x ∈ l0, (Lit.int .u8 x).wf = true) : EvP (fun k => spec_DrawKeyMask.f k l0) (fun s => s.size ≤ 140737488351232) := by
  unfold spec_DrawKeyMask.f
  refine EvP.bind (spec_l9Open_ev l0 h) ?_
  rintro ⟨l, p⟩ ⟨hl, hp⟩
  simp only at hp hl
  refine EvP.bind (spec_l3Key_ev l hl p (by omega) (by omega)) ?_
  rintro ⟨x, p1⟩ ⟨hp1, hx⟩
  simp only at hp1 hx
  refine EvP.bind (spec_l3Key_ev l hl p1 (by omega) (by omega)) ?_
  rintro ⟨y, p2⟩ ⟨hp2, hy⟩
  simp only at hp2 hy
  refine EvP.bind (spec_l9Rd_of_ev l hl p2 _ (by simp) (by omega) (by omega)) ?_
  rintro ⟨z, p3⟩ ⟨_, hz⟩
  refine EvP.now ?_
  simp only [List.mem_cons, List.not_mem_nil, or_false] at hx hy hz
  have small : ∀ u : ByteArray, u = ⟨#[97]⟩ ∨ u = ⟨#[98]⟩ ∨ u = ⟨#[97, 98]⟩ ∨ u = ⟨#[98, 47, 97, 47, 49]⟩ ∨ u = ⟨#[98, 47, 97, 98, 47, 49]⟩ ∨ u = ⟨#[99]⟩ → u.size ≤ 100 := by
    rintro u (rfl | rfl | rfl | rfl | rfl | rfl) <;> simp [ByteArray.size]
  have hz' : z.size ≤ 100 := by
    rcases hz with rfl | rfl | rfl | rfl | rfl | rfl | rfl
    · exact small _ hx
    · exact small _ hy
    all_goals simp [ByteArray.size]
  exact Nat.le_trans hz' (by decide)
/-- How many bits of a number are 1. -/
def onesN : Nat → Nat → Nat
  | 0, _ => 0
  | d + 1, x => x % 2 + onesN d (x / 2)
theorem laws_FnKeyMask_l0 (m c : Nat) (hm : m < 65536) : ∀ (d x n : Nat), x < 2 ^ d → d ≤ 16 → n + onesN d x = c → n ≤ 100 → 1 ≤ c → c ≤ 2 →
    EvP (fun k => laws_FnKeyMask.l0 k (m : Int) (n : Int) (x : Int)) (· = true) := by
  intro d
  induction d with
  | zero =>
    intro x n hx _ hn _ h1 h2
    have hx0 : x = 0 := by simpa using hx
    subst hx0
    have hn' : n = c := by simpa [onesN] using hn
    refine EvP.step (fun k => by rw [laws_FnKeyMask.l0]) (EvP.neg (by omega) (EvP.pos (by omega) (EvP.pos (by omega) (EvP.now ?_))))
    exact decide_eq_true (by omega)
  | succ d ih =>
    intro x n hx hd hn hb h1 h2
    refine EvP.step (fun k => by rw [laws_FnKeyMask.l0]) (EvP.split (fun hpos => ?_) (fun hneg => ?_))
    · have e1 : wrap64 ((n : Int) + Int.tmod (x : Int) 2) = ((n + x % 2 : Nat) : Int) := by
        have : Int.tmod (x : Int) 2 = ((x % 2 : Nat) : Int) := rfl
        rw [this, w64 (by omega) (by omega)]
        omega
      have hx40 : x < 2 ^ 17 := Nat.lt_of_lt_of_le hx (Nat.pow_le_pow_right (by decide) (by omega))
      have e2 : wrap64 (Int.tdiv (x : Int) 2) = ((x / 2 : Nat) : Int) := by
        have : Int.tdiv (x : Int) 2 = ((x / 2 : Nat) : Int) := rfl
        rw [this, w64 (by omega) (by omega)]
      rw [e1, e2]
      refine ih (x / 2) (n + x % 2) ?_ (by omega) ?_ (by simp only [onesN] at hn; omega) h1 h2
      · rw [Nat.pow_succ] at hx; omega
      · simp only [onesN] at hn; omega
    · have hx0 : x = 0 := by omega
      subst hx0
      have hz : ∀ d, onesN d 0 = 0 := by
        intro d
        induction d with
        | zero => rfl
        | succ d ih => simp [onesN, ih]
      rw [hz] at hn
      refine EvP.pos (by omega) (EvP.pos (by omega) (EvP.now ?_))
      exact decide_eq_true (by omega)
theorem ones_two : ∀ a : Fin 16, ∀ b : Fin 16, 1 ≤ onesN 16 (2 ^ a.val ||| 2 ^ b.val) ∧ onesN 16 (2 ^ a.val ||| 2 ^ b.val) ≤ 2 := by decide
theorem FnKeyMask (l0 : List Int) (g0 : l0.length ≤ maxLen ∧ ∀ x ∈ l0, (Lit.int .u8 x).wf = true) : ∃ k, laws_FnKeyMask.f k l0 = some true := by
  have hw := g0.2
  refine EvP.done ?_
  unfold laws_FnKeyMask.f
  refine EvP.split (fun _ => EvP.now rfl) (fun _ => ?_)
  refine EvP.bind (spec_DrawKeyMask_ev l0 hw) ?_
  intro s hs
  refine EvP.bind (impl_KeyMask_ev s hs) ?_
  rintro _ rfl
  refine EvP.bind (spec_KeyMask_ev s hs) ?_
  rintro _ rfl
  refine EvP.pos rfl ?_
  have h : 1 ≤ onesN 16 (maskN s) ∧ onesN 16 (maskN s) ≤ 2 := ones_two ⟨(hashI s % 16).toNat, by omega⟩ ⟨(hashI s / 16 % 16).toNat, by omega⟩
  exact laws_FnKeyMask_l0 (maskN s) _ (maskN_lt s) 16 (maskN s) 0 (maskN_lt s) (by omega) (by omega) (by omega) h.1 h.2


end Go.Proofs.Ytoijegeioafbiaa.Pure
