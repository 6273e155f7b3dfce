/- Entries are strictly ordered: for all drawn entries. -/
import Derived.Test.YtoijegeioafbiaaQFnEntryLessx3
import Derived.Test.YtoijegeioafbiaaBBase
set_option linter.unusedVariables false
set_option linter.unusedSimpArgs false
namespace Go.Proofs.Ytoijegeioafbiaa.Pure
open Go.RowKit Go.Proofs.Ytoijegeioafbiaa.QFnEntryLess Go.Proofs.YtoijegeioafbiaaW.PrintWords Go.Proofs.YtoijegeioafbiaaW.PrintLast Go.Proofs.YtoijegeioafbiaaW.PrintMore Go.Proofs.Ytoijegeioafbiaa.B

/-! ### EntryLess -/
def lessB (k1 : ByteArray) (s1 : Int) (k2 : ByteArray) (s2 : Int) : Bool := if k1.toList = k2.toList then decide (s1 > s2) else Op.bytesLess k1.toList k2.toList
theorem bytesLess_irrefl : ∀ l : List UInt8, Op.bytesLess l l = false := by
  intro l
  induction l with
  | nil => rfl
  | cons a l ih => simp [Op.bytesLess, ih]
theorem spec_EntryLess_eq (a0 : ByteArray) (a1 a2 : Int) (a3 : ByteArray) (a4 : Int) (b0 : ByteArray) (b1 b2 : Int) (b3 : ByteArray) (b4 : Int) : spec_EntryLess.f a0 a1 a2 a3 a4 b0 b1 b2 b3 b4 = some (lessB a0 a1 b0 b1) := by
  unfold spec_EntryLess.f lessB
  by_cases h : a0.toList = b0.toList
  · rw [h, bytesLess_irrefl]
    simp
  · cases hb : Op.bytesLess a0.toList b0.toList <;> simp [h]
theorem impl_EntryLess_eq (a0 : ByteArray) (a1 a2 : Int) (a3 : ByteArray) (a4 : Int) (b0 : ByteArray) (b1 b2 : Int) (b3 : ByteArray) (b4 : Int) : impl_EntryLess.f a0 a1 a2 a3 a4 b0 b1 b2 b3 b4 = some (lessB a0 a1 b0 b1) := by
  unfold impl_EntryLess.f lessB
  split <;> rfl
theorem bl_cons (a b : UInt8) (x y : List UInt8) : Op.bytesLess (a :: x) (b :: y) = true ↔ a.toNat < b.toNat ∨ (a = b ∧ Op.bytesLess x y = true) := by
  simp [Op.bytesLess, UInt8.lt_iff_toNat_lt]
theorem bl_trans : ∀ x y z : List UInt8, Op.bytesLess x y = true → Op.bytesLess y z = true → Op.bytesLess x z = true := by
  intro x
  induction x with
  | nil =>
    intro y z h k
    cases z with
    | nil => cases y <;> simp [Op.bytesLess] at k
    | cons c z => rfl
  | cons a x ih =>
    intro y z h k
    cases y with
    | nil => simp [Op.bytesLess] at h
    | cons b y =>
      cases z with
      | nil => simp [Op.bytesLess] at k
      | cons c z =>
        rw [bl_cons] at h k ⊢
        rcases h with h | ⟨rfl, h⟩ <;> rcases k with k | ⟨rfl, k⟩
        · exact .inl (by omega)
        · exact .inl h
        · exact .inl k
        · exact .inr ⟨rfl, ih _ _ h k⟩
theorem bl_asymm (x y : List UInt8) (h : Op.bytesLess x y = true) : Op.bytesLess y x = false := by
  cases k : Op.bytesLess y x
  · rfl
  · have := bl_trans _ _ _ h k
    rw [bytesLess_irrefl] at this
    cases this
theorem bl_total : ∀ x y : List UInt8, x ≠ y → Op.bytesLess x y = false → Op.bytesLess y x = true := by
  intro x
  induction x with
  | nil =>
    intro y h k
    cases y with
    | nil => exact absurd rfl h
    | cons b y => simp [Op.bytesLess] at k
  | cons a x ih =>
    intro y h k
    cases y with
    | nil => rfl
    | cons b y =>
      have k' : ¬ Op.bytesLess (a :: x) (b :: y) = true := by rw [k]; simp
      rw [bl_cons] at k' ⊢
      by_cases hab : a = b
      · subst hab
        refine .inr ⟨rfl, ih y (fun e => h (by rw [e])) ?_⟩
        cases q : Op.bytesLess x y
        · rfl
        · exact absurd (.inr ⟨rfl, q⟩) k'
      · refine .inl ?_
        have : a.toNat ≠ b.toNat := fun e => hab (UInt8.toNat.inj e)
        have : ¬ a.toNat < b.toNat := fun e => k' (.inl e)
        omega
theorem lessB_iff (k1 : ByteArray) (s1 : Int) (k2 : ByteArray) (s2 : Int) : lessB k1 s1 k2 s2 = true ↔ Op.bytesLess k1.toList k2.toList = true ∨ (k1.toList = k2.toList ∧ s2 < s1) := by
  unfold lessB
  split
  · rename_i h
    rw [h, bytesLess_irrefl]
    simp
  · rename_i h
    simp [h]
theorem lessB_irrefl (k : ByteArray) (s : Int) : lessB k s k s = false := by simp [lessB]
theorem lessB_trans {k1 k2 k3 : ByteArray} {s1 s2 s3 : Int} (h : lessB k1 s1 k2 s2 = true) (k : lessB k2 s2 k3 s3 = true) : lessB k1 s1 k3 s3 = true := by
  rw [lessB_iff] at h k ⊢
  rcases h with h | ⟨h, h'⟩ <;> rcases k with k | ⟨k, k'⟩
  · exact .inl (bl_trans _ _ _ h k)
  · exact .inl (k ▸ h)
  · exact .inl (h ▸ k)
  · exact .inr ⟨h.trans k, by omega⟩
theorem lessB_asymm {k1 k2 : ByteArray} {s1 s2 : Int} (h : lessB k1 s1 k2 s2 = true) : lessB k2 s2 k1 s1 = false := by
  cases k : lessB k2 s2 k1 s1
  · rfl
  · have := lessB_trans h k
    rw [lessB_irrefl] at this
    cases this
theorem lessB_total {k1 k2 : ByteArray} {s1 s2 : Int} (h : lessB k1 s1 k2 s2 = false) (k : lessB k2 s2 k1 s1 = false) : k1.toList = k2.toList ∧ s1 = s2 := by
  have h' : ¬ lessB k1 s1 k2 s2 = true := by rw [h]; simp
  have k' : ¬ lessB k2 s2 k1 s1 = true := by rw [k]; simp
  rw [lessB_iff] at h' k'
  by_cases e : k1.toList = k2.toList
  · refine ⟨e, ?_⟩
    have a : ¬ s2 < s1 := fun x => h' (.inr ⟨e, x⟩)
    have b : ¬ s1 < s2 := fun x => k' (.inr ⟨e.symm, x⟩)
    omega
  · cases q : Op.bytesLess k1.toList k2.toList
    · exact absurd (.inl (bl_total _ _ e q)) k'
    · exact absurd (.inl q) h'

/-! ### The reader of draws -/
/-- Bytes, at most 2000 of them. -/
structure Bytes (l : List Int) : Prop where
  len : l.length ≤ 2000
  lo : ∀ j, 0 ≤ rd l j
  hi : ∀ j, rd l j ≤ 255
theorem rd_range {l : List Int} (h : ∀ x ∈ l, 0 ≤ x ∧ x ≤ 255) (j : Int) : 0 ≤ rd l j ∧ rd l j ≤ 255 := by
  unfold rd
  rw [List.getD_eq_getElem?_getD]
  rcases Nat.lt_or_ge j.toNat l.length with hj | hj
  · rw [List.getElem?_eq_getElem hj]
    exact h _ (List.getElem_mem hj)
  · rw [List.getElem?_eq_none hj]
    simp
theorem u8_range {l : List Int} (h : ∀ x ∈ l, (Lit.int .u8 x).wf = true) : ∀ x ∈ l, 0 ≤ x ∧ x ≤ 255 := by
  intro x hx
  have := h x hx
  simp [Lit.wf, IntKind.min, IntKind.max, IntKind.signed, IntKind.bits] at this
  omega
theorem spec_l9Open_ev (l : List Int) (h : ∀ x ∈ l, (Lit.int .u8 x).wf = true) : EvP (fun _ => spec_l9Open.f l) (fun r => Bytes r.1 ∧ r.2 = 0) := by
  unfold spec_l9Open.f
  have hu := u8_range h
  refine EvP.split (fun h1 => EvP.pos (by omega) (EvP.now ⟨⟨?_, fun j => ?_, fun j => ?_⟩, rfl⟩)) (fun h1 => EvP.now ⟨⟨?_, fun j => ?_, fun j => ?_⟩, rfl⟩)
  · simp; omega
  · exact (rd_range (fun x hx => hu x (List.mem_of_mem_take hx)) j).1
  · exact (rd_range (fun x hx => hu x (List.mem_of_mem_take hx)) j).2
  · show l.length ≤ 2000
    omega
  · exact (rd_range hu j).1
  · exact (rd_range hu j).2
theorem xor_nonneg (x y : Int) (h0 : 0 ≤ x) (h1 : x < 2 ^ 62) (h2 : 0 ≤ y) (h3 : y < 2 ^ 62) : 0 ≤ bits .xor .i64 x y := by
  obtain ⟨a, rfl⟩ := Int.eq_ofNat_of_zero_le h0
  obtain ⟨b, rfl⟩ := Int.eq_ofNat_of_zero_le h2
  rw [xor64 a b (by omega) (by omega)]
  exact Int.natCast_nonneg _
/-- What a pick gives: one place on; a number below n, or 0. -/
def Picked (p n : Int) (r : Int × Int) : Prop := r.2 = p + 1 ∧ 0 ≤ r.1 ∧ (1 ≤ n → r.1 < n) ∧ (n < 1 → r.1 = 0)
theorem picked_mod {p n x : Int} (hn : ¬ n < 1) (hx : 0 ≤ x) : Picked p n (Int.tmod x n, p + 1) :=
  ⟨rfl, Int.tmod_nonneg _ hx, fun _ => Int.tmod_lt_of_pos _ (by omega), fun h => absurd h hn⟩
theorem spec_l9Rd_pick_ev (l : List Int) (hl : Bytes l) (p n : Int) (h0 : 0 ≤ p) (h1 : p ≤ 1000000000000) : EvP (fun k => spec_l9Rd_pick.f k l p n) (Picked p n) := by
  unfold spec_l9Rd_pick.f
  have e1 : wrap64 (p + 1) = p + 1 := w64 (by omega) (by omega)
  have e2 : wrap64 (p + 1 - 1) = p := by rw [w64 (by omega) (by omega)]; omega
  rw [e1]
  refine EvP.split (fun h => ?_) (fun hn => ?_)
  · refine EvP.step (fun k => by rw [spec_l9Rd_pick.j0]) (EvP.pos rfl (EvP.now ?_))
    exact ⟨rfl, Int.le_refl _, fun h' => absurd h (by omega), fun _ => rfl⟩
  · refine EvP.step (fun k => by rw [spec_l9Rd_pick.j0]) (EvP.split (fun h => EvP.now ?_) (fun hz => ?_))
    · exact ⟨rfl, Int.le_refl _, fun h' => by show (0 : Int) < n; omega, fun _ => rfl⟩
    · have hz' : ¬ (l.length : Int) = 0 := fun h => hz (by simp [h])
      have hpos : 0 < (l.length : Int) := by omega
      have hlen : (l.length : Int) ≤ 2000 := by have := hl.len; omega
      rw [e2]
      refine EvP.split (fun h => EvP.pos h0 (EvP.neg (by omega) (EvP.now ?_))) (fun h => EvP.neg hz' ?_)
      · have := hl.lo p
        have := hl.hi p
        rw [w64 (by omega) (by omega)]
        exact picked_mod hn (by omega)
      · have a0 : 0 ≤ Int.tmod p (l.length : Int) := Int.tmod_nonneg _ h0
        have a1 : Int.tmod p (l.length : Int) < (l.length : Int) := Int.tmod_lt_of_pos _ hpos
        have e7 : wrap64 (wrap64 (p * 7) + 3) = p * 7 + 3 := by rw [w64 (x := p * 7) (by omega) (by omega), w64 (by omega) (by omega)]
        have c0 : 0 ≤ Int.tmod (p * 7 + 3) (l.length : Int) := Int.tmod_nonneg _ (by omega)
        have c1 : Int.tmod (p * 7 + 3) (l.length : Int) < (l.length : Int) := Int.tmod_lt_of_pos _ hpos
        rw [e7]
        refine EvP.pos a0 (EvP.pos a1 (EvP.pos c0 (EvP.pos c1 (EvP.neg (by omega) (EvP.now ?_)))))
        have b0 := hl.lo (Int.tmod p (l.length : Int))
        have b1 := hl.hi (Int.tmod p (l.length : Int))
        have d0 := hl.lo (Int.tmod (p * 7 + 3) (l.length : Int))
        have d1 := hl.hi (Int.tmod (p * 7 + 3) (l.length : Int))
        have q0 : 0 ≤ Int.tdiv p (l.length : Int) := Int.tdiv_nonneg h0 (by omega)
        have q1 : Int.tdiv p (l.length : Int) ≤ p := by
          rw [Int.tdiv_eq_ediv_of_nonneg h0]
          exact Int.ediv_le_self _ h0
        refine picked_mod hn ?_
        generalize Int.tdiv p (l.length : Int) = q at q0 q1 ⊢
        generalize rd l (Int.tmod p (l.length : Int)) = b at b0 b1 ⊢
        generalize rd l (Int.tmod (p * 7 + 3) (l.length : Int)) = d at d0 d1 ⊢
        have f1 : wrap64 b = b := w64 (by omega) (by omega)
        have f2 : wrap64 d = d := w64 (by omega) (by omega)
        have f3 : wrap64 q = q := w64 (by omega) (by omega)
        have f4 : wrap64 (b * 131) = b * 131 := w64 (by omega) (by omega)
        have f5 : wrap64 (d * 1117) = d * 1117 := w64 (by omega) (by omega)
        have f6 : wrap64 (p * 29) = p * 29 := w64 (by omega) (by omega)
        have f7 : wrap64 (q * 53) = q * 53 := w64 (by omega) (by omega)
        have f8 : wrap64 (b * 131 + d * 1117) = b * 131 + d * 1117 := w64 (by omega) (by omega)
        have f9 : wrap64 (b * 131 + d * 1117 + p * 29) = b * 131 + d * 1117 + p * 29 := w64 (by omega) (by omega)
        have f10 : wrap64 (b * 131 + d * 1117 + p * 29 + q * 53) = b * 131 + d * 1117 + p * 29 + q * 53 := w64 (by omega) (by omega)
        rw [f1, f2, f3, f4, f5, f6, f7, f8, f9, f10]
        have g0 : 0 ≤ b * 131 + d * 1117 + p * 29 + q * 53 := by omega
        have g1 : b * 131 + d * 1117 + p * 29 + q * 53 < 2 ^ 62 := by omega
        generalize b * 131 + d * 1117 + p * 29 + q * 53 = x at g0 g1 ⊢
        have g2 : Int.tdiv x 64 = x / 64 := Int.tdiv_eq_ediv_of_nonneg g0
        rw [g2, w64 (x := x / 64) (by omega) (by omega)]
        exact xor_nonneg _ _ g0 g1 (by omega) (by omega)
/-- One of a list of texts. -/
theorem spec_l9Rd_of_ev (l : List Int) (hl : Bytes l) (p : Int) (xs : List ByteArray) (hx : 0 < xs.length) (h0 : 0 ≤ p) (h1 : p ≤ 1000000000000) : EvP (fun k => spec_l9Rd_of.f k l p xs) (fun r => r.2 = p + 1 ∧ r.1 ∈ xs) := by
  unfold spec_l9Rd_of.f
  refine EvP.bind (spec_l9Rd_pick_ev l hl p _ h0 h1) ?_
  rintro ⟨i, q⟩ ⟨hq, hi, hlt, _⟩
  have := hlt (by omega)
  simp only at hq hi this
  refine EvP.pos hi (EvP.pos this (EvP.now ⟨hq, ?_⟩))
  show xs.getD i.toNat ByteArray.empty ∈ xs
  rw [List.getD_eq_getElem?_getD, List.getElem?_eq_getElem (by omega)]
  exact List.getElem_mem _

/-- One of a list of numbers. -/
theorem spec_l9Rd_num_ev (l : List Int) (hl : Bytes l) (p : Int) (xs : List Int) (hx : 0 < xs.length) (h0 : 0 ≤ p) (h1 : p ≤ 1000000000000) : EvP (fun k => spec_l9Rd_num.f k l p xs) (fun r => r.2 = p + 1 ∧ r.1 ∈ xs) := by
  unfold spec_l9Rd_num.f
  refine EvP.bind (spec_l9Rd_pick_ev l hl p _ h0 h1) ?_
  rintro ⟨i, q⟩ ⟨hq, hi, hlt, _⟩
  have := hlt (by omega)
  simp only at hq hi this
  refine EvP.pos hi (EvP.pos this (EvP.now ⟨hq, ?_⟩))
  show xs.getD i.toNat 0 ∈ xs
  rw [List.getD_eq_getElem?_getD, List.getElem?_eq_getElem (by omega)]
  exact List.getElem_mem _

theorem spec_l3Key_ev (l : List Int) (hl : Bytes l) (p : Int) (h0 : 0 ≤ p) (h1 : p ≤ 1000000000000) : EvP (fun k => spec_l3Key.f k l p) (fun r => r.2 = p + 1 ∧ r.1 ∈ ([⟨#[97]⟩, ⟨#[98]⟩, ⟨#[97, 98]⟩, ⟨#[98, 47, 97, 47, 49]⟩, ⟨#[98, 47, 97, 98, 47, 49]⟩, ⟨#[99]⟩] : List ByteArray)) := by
  unfold spec_l3Key.f
  refine EvP.bind (spec_l9Rd_of_ev l hl p _ (by simp) h0 h1) ?_
  rintro ⟨x, q⟩ h
  exact EvP.now h

/-! ### Draws of entries -/
theorem spec_l9Many_l0 : ∀ (d : Nat) (n : Int) (x y : ByteArray), d ≤ 40 → 0 ≤ n → n < 2 ^ d → x.size * 2 ^ d ≤ 2 ^ 40 → y.size + x.size * 2 ^ d ≤ 2 ^ 41 + x.size → EvP (fun k => spec_l9Many.l0 k x n y) (fun r => r.size + x.size ≤ y.size + x.size * 2 ^ d) := by
  intro d
  induction d with
  | zero =>
    intro n x y _ h0 h1 _ _
    have : n = 0 := by simp at h1; omega
    subst this
    refine EvP.step (fun k => by rw [spec_l9Many.l0]) ?_
    exact EvP.neg (by omega) (EvP.now (by omega))
  | succ d ih =>
    intro n x y hd40 h0 h1 h2 h3
    have e : x.size * 2 ^ (d + 1) = x.size * 2 ^ d + x.size * 2 ^ d := by rw [Nat.pow_succ, ← Nat.mul_assoc]; omega
    have e' : (x ++ x).size * 2 ^ d = x.size * 2 ^ d + x.size * 2 ^ d := by rw [ByteArray.size_append, Nat.add_mul]
    have hx : x.size ≤ x.size * 2 ^ d := Nat.le_mul_of_pos_right _ (Nat.two_pow_pos d)
    have h41 : (2 : Int) ^ (d + 1) ≤ 2 ^ 40 := by exact_mod_cast Nat.pow_le_pow_right (n := 2) (by decide) hd40
    rw [e] at h2 h3 ⊢
    generalize hP : x.size * 2 ^ d = P at *
    refine EvP.step (fun k => by rw [spec_l9Many.l0]) (EvP.split (fun hp => ?_) (fun hn => EvP.now (by omega)))
    have hd : wrap64 (Int.tdiv n 2) = n / 2 := by
      rw [Int.tdiv_eq_ediv_of_nonneg h0]
      exact w64 (by omega) (by omega)
    have hn2 : n / 2 < 2 ^ d := by rw [Int.pow_succ] at h1; omega
    rw [hd]
    refine EvP.split (fun hodd => EvP.pos (by omega) (EvP.pos (by omega) ?_)) (fun heven => EvP.pos (by omega) ?_)
    · refine (ih (n / 2) (x ++ x) (y ++ x) (by omega) (by omega) hn2 (by omega) (by rw [e', ByteArray.size_append, ByteArray.size_append]; omega)).mono ?_
      intro r hr
      rw [e', ByteArray.size_append, ByteArray.size_append] at hr
      omega
    · refine (ih (n / 2) (x ++ x) y (by omega) (by omega) hn2 (by omega) (by rw [e', ByteArray.size_append]; omega)).mono ?_
      intro r hr
      rw [e', ByteArray.size_append] at hr
      omega
theorem spec_l9Many_ev (x : ByteArray) (n : Int) (h0 : 0 ≤ n) (h1 : n < 64) (hx : x.size ≤ 16) : EvP (fun k => spec_l9Many.f k x n) (fun r => r.size ≤ 1024) := by
  refine (spec_l9Many_l0 6 n x ⟨#[]⟩ (by omega) h0 (by omega) (by omega) ?_).mono ?_
  · have : (⟨#[]⟩ : ByteArray).size = 0 := rfl
    omega
  · intro r hr
    have : (⟨#[]⟩ : ByteArray).size = 0 := rfl
    omega
/-- What a drawn entry is like. -/
structure Drawn (seq p : Int) (r : ByteArray × Int × Int × ByteArray × Int × Int) : Prop where
  key : r.1 ∈ ([⟨#[97]⟩, ⟨#[98]⟩, ⟨#[97, 98]⟩, ⟨#[98, 47, 97, 47, 49]⟩, ⟨#[98, 47, 97, 98, 47, 49]⟩, ⟨#[99]⟩] : List ByteArray)
  seq : r.2.1 = seq
  kind : r.2.2.1 = 1 ∨ r.2.2.1 = 2 ∨ r.2.2.1 = 3
  text : r.2.2.2.1.size ≤ 3
  bare : r.2.2.1 ≠ 1 → r.2.2.2.1 = ⟨#[]⟩
  lo : -7 ≤ r.2.2.2.2.1
  hi : r.2.2.2.2.1 ≤ 100
  del : r.2.2.1 = 2 → r.2.2.2.2.1 = 0
  next : p ≤ r.2.2.2.2.2 ∧ r.2.2.2.2.2 ≤ p + 5
theorem keys_small (u : ByteArray) (h : u ∈ ([⟨#[97]⟩, ⟨#[98]⟩, ⟨#[97, 98]⟩, ⟨#[98, 47, 97, 47, 49]⟩, ⟨#[98, 47, 97, 98, 47, 49]⟩, ⟨#[99]⟩] : List ByteArray)) : u.size ≤ 6 := by
  simp only [List.mem_cons, List.not_mem_nil, or_false] at h
  rcases h with rfl | rfl | rfl | rfl | rfl | rfl <;> simp [ByteArray.size]
theorem texts_small (u : ByteArray) (h : u ∈ ([⟨#[]⟩, ⟨#[120]⟩, ⟨#[121, 121]⟩, ⟨#[122, 122, 122]⟩] : List ByteArray)) : u.size ≤ 3 := by
  simp only [List.mem_cons, List.not_mem_nil, or_false] at h
  rcases h with rfl | rfl | rfl | rfl <;> simp [ByteArray.size]
theorem spec_l3Entry_ev (l : List Int) (hl : Bytes l) (p seq : Int) (h0 : 0 ≤ p) (h1 : p ≤ 900000000000) : EvP (fun k => spec_l3Entry.f k l p seq) (Drawn seq p) := by
  unfold spec_l3Entry.f
  refine EvP.bind (spec_l3Key_ev l hl p h0 (by omega)) ?_
  rintro ⟨key, p1⟩ ⟨hp1, hkey⟩
  simp only at hp1 hkey
  refine EvP.bind (spec_l9Rd_num_ev l hl p1 _ (by simp) (by omega) (by omega)) ?_
  rintro ⟨kind, p2⟩ ⟨hp2, hkind⟩
  simp only [List.mem_cons, List.not_mem_nil, or_false] at hp2 hkind
  refine EvP.split (fun h2 => EvP.neg (by omega) (EvP.now ?_)) (fun h2 => ?_)
  · exact ⟨hkey, rfl, by show kind = 1 ∨ kind = 2 ∨ kind = 3; omega, by simp [ByteArray.size], fun _ => rfl, by show (-7 : Int) ≤ 0; omega, by show (0 : Int) ≤ 100; omega, fun _ => rfl, by show p ≤ p2 ∧ p2 ≤ p + 5; omega⟩
  · refine EvP.bind (spec_l9Rd_num_ev l hl p2 _ (by simp) (by omega) (by omega)) ?_
    rintro ⟨n, p3⟩ ⟨hp3, hn⟩
    simp only [List.mem_cons, List.not_mem_nil, or_false] at hp3 hn
    refine EvP.split (fun h3 => ?_) (fun h3 => EvP.now ?_)
    · refine EvP.bind (spec_l9Rd_of_ev l hl p3 _ (by simp) (by omega) (by omega)) ?_
      rintro ⟨x, p4⟩ ⟨hp4, hx⟩
      simp only at hp4 hx
      exact EvP.now ⟨hkey, rfl, by show kind = 1 ∨ kind = 2 ∨ kind = 3; omega, texts_small x hx, fun h => absurd h3 h, by show (-7 : Int) ≤ n; omega, by show n ≤ 100; omega, fun h => absurd h h2, by show p ≤ p4 ∧ p4 ≤ p + 5; omega⟩
    · exact ⟨hkey, rfl, by show kind = 1 ∨ kind = 2 ∨ kind = 3; omega, by simp [ByteArray.size], fun _ => rfl, by show (-7 : Int) ≤ n; omega, by show n ≤ 100; omega, fun h => absurd h h2, by show p ≤ p3 ∧ p3 ≤ p + 5; omega⟩
/-- What bending leaves: the key and the text are small, the reader is a little on. -/
def Bent (p : Int) (r : ByteArray × Int × Int × ByteArray × Int × Int) : Prop := r.1.size ≤ 9 ∧ r.2.2.2.1.size ≤ 1024 ∧ p ≤ r.2.2.2.2.2 ∧ r.2.2.2.2.2 ≤ p + 3
theorem bent_keys_small (u : ByteArray) (h : u ∈ ([⟨#[]⟩, ⟨#[65]⟩, ⟨#[97, 32, 98]⟩, ⟨#[97, 98, 99, 100, 101, 102, 103, 104, 105]⟩, ⟨#[97, 98, 99, 100, 101, 102, 103, 104]⟩, ⟨#[48, 47, 57]⟩] : List ByteArray)) : u.size ≤ 9 := by
  simp only [List.mem_cons, List.not_mem_nil, or_false] at h
  rcases h with rfl | rfl | rfl | rfl | rfl | rfl <;> simp [ByteArray.size]
theorem spec_l3Bent_ev (l : List Int) (hl : Bytes l) (p : Int) (key : ByteArray) (seq kind : Int) (text : ByteArray) (n : Int) (hk : key.size ≤ 9) (ht : text.size ≤ 1024) (h0 : 0 ≤ p) (h1 : p ≤ 900000000000) : EvP (fun k => spec_l3Bent.f k l p key seq kind text n) (Bent p) := by
  unfold spec_l3Bent.f
  refine EvP.bind (spec_l9Rd_pick_ev l hl p 48 h0 (by omega)) ?_
  rintro ⟨c, p1⟩ ⟨hp1, _⟩
  simp only at hp1
  refine EvP.split (fun _ => ?_) (fun _ => EvP.split (fun _ => ?_) (fun _ => EvP.split (fun _ => ?_) (fun _ => EvP.split (fun _ => ?_) (fun _ => EvP.split (fun _ => ?_) (fun _ => EvP.now ?_)))))
  · refine EvP.bind (spec_l9Rd_of_ev l hl p1 _ (by simp) (by omega) (by omega)) ?_
    rintro ⟨x, p2⟩ ⟨hp2, hx⟩
    simp only at hp2 hx
    exact EvP.now ⟨bent_keys_small x hx, ht, by show p ≤ p2; omega, by show p2 ≤ p + 3; omega⟩
  · refine EvP.bind (spec_l9Rd_num_ev l hl p1 _ (by simp) (by omega) (by omega)) ?_
    rintro ⟨x, p2⟩ ⟨hp2, _⟩
    simp only at hp2
    exact EvP.now ⟨hk, ht, by show p ≤ p2; omega, by show p2 ≤ p + 3; omega⟩
  · refine EvP.bind (spec_l9Rd_num_ev l hl p1 _ (by simp) (by omega) (by omega)) ?_
    rintro ⟨x, p2⟩ ⟨hp2, _⟩
    simp only at hp2
    exact EvP.now ⟨hk, ht, by show p ≤ p2; omega, by show p2 ≤ p + 3; omega⟩
  · refine EvP.bind (spec_l9Rd_num_ev l hl p1 _ (by simp) (by omega) (by omega)) ?_
    rintro ⟨x, p2⟩ ⟨hp2, _⟩
    simp only at hp2
    exact EvP.now ⟨hk, ht, by show p ≤ p2; omega, by show p2 ≤ p + 3; omega⟩
  · refine EvP.bind (spec_l9Many_ev ⟨#[116]⟩ 60 (by omega) (by omega) (by simp [ByteArray.size])) ?_
    intro a ha
    refine EvP.bind (spec_l9Many_ev ⟨#[116]⟩ 61 (by omega) (by omega) (by simp [ByteArray.size])) ?_
    intro b hb
    refine EvP.bind (spec_l9Rd_of_ev l hl p1 _ (by simp) (by omega) (by omega)) ?_
    rintro ⟨x, p2⟩ ⟨hp2, hx⟩
    simp only [List.mem_cons, List.not_mem_nil, or_false] at hp2 hx
    have hxs : x.size ≤ 1024 := by
      rcases hx with rfl | rfl | rfl
      · simp [ByteArray.size]
      · exact ha
      · exact hb
    exact EvP.now ⟨hk, hxs, by show p ≤ p2; omega, by show p2 ≤ p + 3; omega⟩
  · exact ⟨hk, ht, by show p ≤ p1; omega, by show p1 ≤ p + 3; omega⟩

theorem spec_DrawEntryLess_ev (l0 : List Int) (h : ∀ x ∈ l0, (Lit.int .u8 x).wf = true) : EvP (fun k => spec_DrawEntryLess.f k l0) (fun _ => True) := by
  unfold spec_DrawEntryLess.f
  refine EvP.bind (spec_l9Open_ev l0 h) ?_
  rintro ⟨l, p⟩ ⟨hl, hp⟩
  simp only at hp hl
  refine EvP.bind (spec_l9Rd_pick_ev l hl p 4 (by omega) (by omega)) ?_
  rintro ⟨s, p1⟩ ⟨hp1, _⟩
  simp only at hp1
  refine EvP.bind (spec_l3Entry_ev l hl p1 _ (by omega) (by omega)) ?_
  intro e he
  have h1 := keys_small _ he.key
  have h2 := he.text
  have h3 := he.next
  refine EvP.bind (spec_l3Bent_ev l hl _ _ _ _ _ _ (by omega) (by omega) (by omega) (by omega)) ?_
  rintro r ⟨_, _, h4, h5⟩
  refine EvP.bind (spec_l9Rd_pick_ev l hl _ 4 (by omega) (by omega)) ?_
  rintro ⟨s', p2⟩ ⟨hp2, _⟩
  simp only at hp2
  refine EvP.bind (spec_l3Entry_ev l hl p2 _ (by omega) (by omega)) ?_
  intro e' he'
  have h1' := keys_small _ he'.key
  have h2' := he'.text
  have h3' := he'.next
  refine EvP.bind (spec_l3Bent_ev l hl _ _ _ _ _ _ (by omega) (by omega) (by omega) (by omega)) ?_
  intro r' _
  exact EvP.now trivial
theorem not_irrefl (a0 : ByteArray) (a1 : Int) : (!lessB a0 a1 a0 a1) = true := by rw [lessB_irrefl]; rfl
theorem laws_FnEntryLess_j1 (a0 : ByteArray) (a1 a2 : Int) (a3 : ByteArray) (a4 : Int) (b0 : ByteArray) (b1 b2 : Int) (b3 : ByteArray) (b4 : Int) (c0 : ByteArray) (c1 c2 : Int) (c3 : ByteArray) (c4 : Int) :
    EvP (fun k => laws_FnEntryLess.j1 k (lessB a0 a1 b0 b1) (lessB b0 b1 a0 a1) false a0 a1 a2 a3 a4 b0 b1 b2 b3 b4 c0 c1 c2 c3 c4) (· = true) := by
  refine EvP.step (fun k => by rw [laws_FnEntryLess.j1]) (EvP.neg (by simp) ?_)
  simp only [impl_EntryLess_eq, Option.bind_some]
  have last : EvP (fun _ => some (!lessB a0 a1 a0 a1)) (· = true) := EvP.now (not_irrefl a0 a1)
  have same : lessB a0 a1 b0 b1 = true → a0.toList = b0.toList → (true == (a1 != b1)) = true := by
    intro h e
    rw [lessB_iff] at h
    rcases h with h | ⟨_, h⟩
    · rw [e, bytesLess_irrefl] at h
      cases h
    · have : a1 ≠ b1 := by omega
      simp [this]
  cases hx : lessB a0 a1 b0 b1
  · refine EvP.neg (by simp) ?_
    cases hy : lessB b0 b1 a0 a1
    · obtain ⟨e, e'⟩ := lessB_total hx hy
      exact EvP.pos e (EvP.pos (by simp [e']) last)
    · refine EvP.split (fun e => ?_) (fun e => EvP.pos (by simp) last)
      rw [lessB_iff] at hy
      rcases hy with hy | ⟨_, hy⟩
      · rw [e, bytesLess_irrefl] at hy
        cases hy
      · have : a1 ≠ b1 := by omega
        exact EvP.pos (by simp [this]) last
  · refine EvP.pos rfl ?_
    cases hz : lessB b0 b1 c0 c1
    · refine EvP.neg (by simp) (EvP.split (fun e => EvP.pos (same hx e) last) (fun e => EvP.pos (by simp) last))
    · refine EvP.pos rfl (EvP.pos (lessB_trans hx hz) (EvP.split (fun e => EvP.pos (same hx e) last) (fun e => EvP.pos (by simp) last)))
theorem FnEntryLess (l0 l1 : List Int) (g0 : l0.length ≤ maxLen ∧ ∀ x ∈ l0, (Lit.int .u8 x).wf = true) (g1 : l1.length ≤ maxLen ∧ ∀ x ∈ l1, (Lit.int .u8 x).wf = true) : ∃ k, laws_FnEntryLess.f k l0 l1 = some true := by
  refine EvP.done ?_
  unfold laws_FnEntryLess.f
  have key : ∀ b : Bool, EvP (fun k => laws_FnEntryLess.j0 k l0 l1 b) (· = true) := by
    intro b
    refine EvP.step (fun k => by rw [laws_FnEntryLess.j0]) (EvP.split (fun _ => EvP.now rfl) (fun _ => ?_))
    refine EvP.bind (spec_DrawEntryLess_ev l0 g0.2) ?_
    rintro ⟨a0, a1, a2, a3, a4, b0, b1, b2, b3, b4⟩ _
    refine EvP.bind (spec_DrawEntryLess_ev l1 g1.2) ?_
    rintro ⟨c0, c1, c2, c3, c4, d0, d1, d2, d3, d4⟩ _
    simp only [impl_EntryLess_eq, spec_EntryLess_eq, Option.bind_some]
    refine EvP.neg (by simp) (EvP.neg (by simp) ?_)
    cases hx : lessB a0 a1 b0 b1
    · refine EvP.neg (by simp) ?_
      have := laws_FnEntryLess_j1 a0 a1 a2 a3 a4 b0 b1 b2 b3 b4 c0 c1 c2 c3 c4
      rw [hx] at this
      exact this
    · refine EvP.pos rfl ?_
      have := laws_FnEntryLess_j1 a0 a1 a2 a3 a4 b0 b1 b2 b3 b4 c0 c1 c2 c3 c4
      rw [hx, lessB_asymm hx] at this
      rw [lessB_asymm hx]
      exact this
  exact EvP.split (fun _ => key _) (fun _ => key _)


end Go.Proofs.Ytoijegeioafbiaa.Pure
