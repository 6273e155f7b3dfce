/- Merges are additive, and puts and deletes reset: for all drawn cells and entries. -/
import Derived.Test.YtbdckemcagaldaaQFnCellDox4
import Derived.Test.YtbdckemcagaldaaBBase
set_option linter.unusedVariables false
set_option linter.unusedSimpArgs false
namespace Go.Proofs.Ytbdckemcagaldaa.Pure
open Go.RowKit Go.Proofs.Ytbdckemcagaldaa.QFnCellDo Go.Proofs.YtbdckemcagaldaaW.PrintWords Go.Proofs.YtbdckemcagaldaaW.PrintLast Go.Proofs.YtbdckemcagaldaaW.PrintMore Go.Proofs.Ytbdckemcagaldaa.B

/-! ### CellDo -/
theorem spec_CellDo_eq (a0_0 : Bool) (a0_1 : ByteArray) (a0_2 : Int) (a1_0 : ByteArray) (a1_1 : Int) (a1_2 : Int) (a1_3 : ByteArray) (a1_4 : Int) : spec_CellDo.f a0_0 a0_1 a0_2 a1_0 a1_1 a1_2 a1_3 a1_4 = some (cellDo a0_0 a0_1 a0_2 a1_2 a1_3 a1_4) := by
  unfold spec_CellDo.f cellDo
  repeat' split
  all_goals rfl

/-! ### The reader of draws -/
/-- Bytes, at most 2000 of them. -/
structure Bytes (l : List Int) : Prop where
  len : l.length ≤ 2000
  lo : ∀ j, 0 ≤ rd l j
  hi : ∀ j, rd l j ≤ 255
theorem rd_range {l : List Int} (h : ∀ x ∈ l, 0 ≤ x ∧ x ≤ 255) (j : Int) : 0 ≤ rd l j ∧ rd l j ≤ 255 := by
  unfold rd
  rw [List.getD_eq_getElem?_getD]
  rcases Nat.lt_or_ge j.toNat l.length with hj | hj
  · rw [List.getElem?_eq_getElem hj]
    exact h _ (List.getElem_mem hj)
  · rw [List.getElem?_eq_none hj]
    simp
theorem u8_range {l : List Int} (h : ∀ x ∈ l, (Lit.int .u8 x).wf = true) : ∀ x ∈ l, 0 ≤ x ∧ x ≤ 255 := by
  intro x hx
  have := h x hx
  simp [Lit.wf, IntKind.min, IntKind.max, IntKind.signed, IntKind.bits] at this
  omega
theorem spec_l9Open_ev (l : List Int) (h : ∀ x ∈ l, (Lit.int .u8 x).wf = true) : EvP (fun _ => spec_l9Open.f l) (fun r => Bytes r.1 ∧ r.2 = 0) := by
  unfold spec_l9Open.f
  have hu := u8_range h
  refine EvP.split (fun h1 => EvP.pos (by omega) (EvP.now ⟨⟨?_, fun j => ?_, fun j => ?_⟩, rfl⟩)) (fun h1 => EvP.now ⟨⟨?_, fun j => ?_, fun j => ?_⟩, rfl⟩)
  · simp; omega
  · exact (rd_range (fun x hx => hu x (List.mem_of_mem_take hx)) j).1
  · exact (rd_range (fun x hx => hu x (List.mem_of_mem_take hx)) j).2
  · show l.length ≤ 2000
    omega
  · exact (rd_range hu j).1
  · exact (rd_range hu j).2
theorem xor_nonneg (x y : Int) (h0 : 0 ≤ x) (h1 : x < 2 ^ 62) (h2 : 0 ≤ y) (h3 : y < 2 ^ 62) : 0 ≤ bits .xor .i64 x y := by
  obtain ⟨a, rfl⟩ := Int.eq_ofNat_of_zero_le h0
  obtain ⟨b, rfl⟩ := Int.eq_ofNat_of_zero_le h2
  rw [xor64 a b (by omega) (by omega)]
  exact Int.natCast_nonneg _
/-- What a pick gives: one place on; a number below n, or 0. -/
def Picked (p n : Int) (r : Int × Int) : Prop := r.2 = p + 1 ∧ 0 ≤ r.1 ∧ (1 ≤ n → r.1 < n) ∧ (n < 1 → r.1 = 0)
theorem picked_mod {p n x : Int} (hn : ¬ n < 1) (hx : 0 ≤ x) : Picked p n (Int.tmod x n, p + 1) :=
  ⟨rfl, Int.tmod_nonneg _ hx, fun _ => Int.tmod_lt_of_pos _ (by omega), fun h => absurd h hn⟩
theorem spec_l9Rd_pick_ev (l : List Int) (hl : Bytes l) (p n : Int) (h0 : 0 ≤ p) (h1 : p ≤ 1000000000000) : EvP (fun k => spec_l9Rd_pick.f k l p n) (Picked p n) := by
  unfold spec_l9Rd_pick.f
  have e1 : wrap64 (p + 1) = p + 1 := w64 (by omega) (by omega)
  have e2 : wrap64 (p + 1 - 1) = p := by rw [w64 (by omega) (by omega)]; omega
  rw [e1]
  refine EvP.split (fun h => ?_) (fun hn => ?_)
  · refine EvP.step (fun k => by rw [spec_l9Rd_pick.j0]) (EvP.pos rfl (EvP.now ?_))
    exact ⟨rfl, Int.le_refl _, fun h' => absurd h (by omega), fun _ => rfl⟩
  · refine EvP.step (fun k => by rw [spec_l9Rd_pick.j0]) (EvP.split (fun h => EvP.now ?_) (fun hz => ?_))
    · exact ⟨rfl, Int.le_refl _, fun h' => by show (0 : Int) < n; omega, fun _ => rfl⟩
    · have hz' : ¬ (l.length : Int) = 0 := fun h => hz (by simp [h])
      have hpos : 0 < (l.length : Int) := by omega
      have hlen : (l.length : Int) ≤ 2000 := by have := hl.len; omega
      rw [e2]
      refine EvP.split (fun h => EvP.pos h0 (EvP.neg (by omega) (EvP.now ?_))) (fun h => EvP.neg hz' ?_)
      · have := hl.lo p
        have := hl.hi p
        rw [w64 (by omega) (by omega)]
        exact picked_mod hn (by omega)
      · have a0 : 0 ≤ Int.tmod p (l.length : Int) := Int.tmod_nonneg _ h0
        have a1 : Int.tmod p (l.length : Int) < (l.length : Int) := Int.tmod_lt_of_pos _ hpos
        have e7 : wrap64 (wrap64 (p * 7) + 3) = p * 7 + 3 := by rw [w64 (x := p * 7) (by omega) (by omega), w64 (by omega) (by omega)]
        have c0 : 0 ≤ Int.tmod (p * 7 + 3) (l.length : Int) := Int.tmod_nonneg _ (by omega)
        have c1 : Int.tmod (p * 7 + 3) (l.length : Int) < (l.length : Int) := Int.tmod_lt_of_pos _ hpos
        rw [e7]
        refine EvP.pos a0 (EvP.pos a1 (EvP.pos c0 (EvP.pos c1 (EvP.neg (by omega) (EvP.now ?_)))))
        have b0 := hl.lo (Int.tmod p (l.length : Int))
        have b1 := hl.hi (Int.tmod p (l.length : Int))
        have d0 := hl.lo (Int.tmod (p * 7 + 3) (l.length : Int))
        have d1 := hl.hi (Int.tmod (p * 7 + 3) (l.length : Int))
        have q0 : 0 ≤ Int.tdiv p (l.length : Int) := Int.tdiv_nonneg h0 (by omega)
        have q1 : Int.tdiv p (l.length : Int) ≤ p := by
          rw [Int.tdiv_eq_ediv_of_nonneg h0]
          exact Int.ediv_le_self _ h0
        refine picked_mod hn ?_
        generalize Int.tdiv p (l.length : Int) = q at q0 q1 ⊢
        generalize rd l (Int.tmod p (l.length : Int)) = b at b0 b1 ⊢
        generalize rd l (Int.tmod (p * 7 + 3) (l.length : Int)) = d at d0 d1 ⊢
        have f1 : wrap64 b = b := w64 (by omega) (by omega)
        have f2 : wrap64 d = d := w64 (by omega) (by omega)
        have f3 : wrap64 q = q := w64 (by omega) (by omega)
        have f4 : wrap64 (b * 131) = b * 131 := w64 (by omega) (by omega)
        have f5 : wrap64 (d * 1117) = d * 1117 := w64 (by omega) (by omega)
        have f6 : wrap64 (p * 29) = p * 29 := w64 (by omega) (by omega)
        have f7 : wrap64 (q * 53) = q * 53 := w64 (by omega) (by omega)
        have f8 : wrap64 (b * 131 + d * 1117) = b * 131 + d * 1117 := w64 (by omega) (by omega)
        have f9 : wrap64 (b * 131 + d * 1117 + p * 29) = b * 131 + d * 1117 + p * 29 := w64 (by omega) (by omega)
        have f10 : wrap64 (b * 131 + d * 1117 + p * 29 + q * 53) = b * 131 + d * 1117 + p * 29 + q * 53 := w64 (by omega) (by omega)
        rw [f1, f2, f3, f4, f5, f6, f7, f8, f9, f10]
        have g0 : 0 ≤ b * 131 + d * 1117 + p * 29 + q * 53 := by omega
        have g1 : b * 131 + d * 1117 + p * 29 + q * 53 < 2 ^ 62 := by omega
        generalize b * 131 + d * 1117 + p * 29 + q * 53 = x at g0 g1 ⊢
        have g2 : Int.tdiv x 64 = x / 64 := Int.tdiv_eq_ediv_of_nonneg g0
        rw [g2, w64 (x := x / 64) (by omega) (by omega)]
        exact xor_nonneg _ _ g0 g1 (by omega) (by omega)
/-- One of a list of texts. -/
theorem spec_l9Rd_of_ev (l : List Int) (hl : Bytes l) (p : Int) (xs : List ByteArray) (hx : 0 < xs.length) (h0 : 0 ≤ p) (h1 : p ≤ 1000000000000) : EvP (fun k => spec_l9Rd_of.f k l p xs) (fun r => r.2 = p + 1 ∧ r.1 ∈ xs) := by
  unfold spec_l9Rd_of.f
  refine EvP.bind (spec_l9Rd_pick_ev l hl p _ h0 h1) ?_
  rintro ⟨i, q⟩ ⟨hq, hi, hlt, _⟩
  have := hlt (by omega)
  simp only at hq hi this
  refine EvP.pos hi (EvP.pos this (EvP.now ⟨hq, ?_⟩))
  show xs.getD i.toNat ByteArray.empty ∈ xs
  rw [List.getD_eq_getElem?_getD, List.getElem?_eq_getElem (by omega)]
  exact List.getElem_mem _

/-- One of a list of numbers. -/
theorem spec_l9Rd_num_ev (l : List Int) (hl : Bytes l) (p : Int) (xs : List Int) (hx : 0 < xs.length) (h0 : 0 ≤ p) (h1 : p ≤ 1000000000000) : EvP (fun k => spec_l9Rd_num.f k l p xs) (fun r => r.2 = p + 1 ∧ r.1 ∈ xs) := by
  unfold spec_l9Rd_num.f
  refine EvP.bind (spec_l9Rd_pick_ev l hl p _ h0 h1) ?_
  rintro ⟨i, q⟩ ⟨hq, hi, hlt, _⟩
  have := hlt (by omega)
  simp only at hq hi this
  refine EvP.pos hi (EvP.pos this (EvP.now ⟨hq, ?_⟩))
  show xs.getD i.toNat 0 ∈ xs
  rw [List.getD_eq_getElem?_getD, List.getElem?_eq_getElem (by omega)]
  exact List.getElem_mem _

theorem spec_l3Key_ev (l : List Int) (hl : Bytes l) (p : Int) (h0 : 0 ≤ p) (h1 : p ≤ 1000000000000) : EvP (fun k => spec_l3Key.f k l p) (fun r => r.2 = p + 1 ∧ r.1 ∈ ([⟨#[97]⟩, ⟨#[98]⟩, ⟨#[97, 98]⟩, ⟨#[98, 47, 97, 47, 49]⟩, ⟨#[98, 47, 97, 98, 47, 49]⟩, ⟨#[99]⟩] : List ByteArray)) := by
  unfold spec_l3Key.f
  refine EvP.bind (spec_l9Rd_of_ev l hl p _ (by simp) h0 h1) ?_
  rintro ⟨x, q⟩ h
  exact EvP.now h

/-- What a drawn entry is like. -/
structure Drawn (seq p : Int) (r : ByteArray × Int × Int × ByteArray × Int × Int) : Prop where
  key : r.1 ∈ ([⟨#[97]⟩, ⟨#[98]⟩, ⟨#[97, 98]⟩, ⟨#[98, 47, 97, 47, 49]⟩, ⟨#[98, 47, 97, 98, 47, 49]⟩, ⟨#[99]⟩] : List ByteArray)
  seq : r.2.1 = seq
  kind : r.2.2.1 = 1 ∨ r.2.2.1 = 2 ∨ r.2.2.1 = 3
  text : r.2.2.2.1.size ≤ 3
  bare : r.2.2.1 ≠ 1 → r.2.2.2.1 = ⟨#[]⟩
  lo : -7 ≤ r.2.2.2.2.1
  hi : r.2.2.2.2.1 ≤ 100
  del : r.2.2.1 = 2 → r.2.2.2.2.1 = 0
  next : p ≤ r.2.2.2.2.2 ∧ r.2.2.2.2.2 ≤ p + 5
theorem keys_small (u : ByteArray) (h : u ∈ ([⟨#[97]⟩, ⟨#[98]⟩, ⟨#[97, 98]⟩, ⟨#[98, 47, 97, 47, 49]⟩, ⟨#[98, 47, 97, 98, 47, 49]⟩, ⟨#[99]⟩] : List ByteArray)) : u.size ≤ 6 := by
  simp only [List.mem_cons, List.not_mem_nil, or_false] at h
  rcases h with rfl | rfl | rfl | rfl | rfl | rfl <;> simp [ByteArray.size]
theorem texts_small (u : ByteArray) (h : u ∈ ([⟨#[]⟩, ⟨#[120]⟩, ⟨#[121, 121]⟩, ⟨#[122, 122, 122]⟩] : List ByteArray)) : u.size ≤ 3 := by
  simp only [List.mem_cons, List.not_mem_nil, or_false] at h
  rcases h with rfl | rfl | rfl | rfl <;> simp [ByteArray.size]
theorem spec_l3Entry_ev (l : List Int) (hl : Bytes l) (p seq : Int) (h0 : 0 ≤ p) (h1 : p ≤ 900000000000) : EvP (fun k => spec_l3Entry.f k l p seq) (Drawn seq p) := by
  unfold spec_l3Entry.f
  refine EvP.bind (spec_l3Key_ev l hl p h0 (by omega)) ?_
  rintro ⟨key, p1⟩ ⟨hp1, hkey⟩
  simp only at hp1 hkey
  refine EvP.bind (spec_l9Rd_num_ev l hl p1 _ (by simp) (by omega) (by omega)) ?_
  rintro ⟨kind, p2⟩ ⟨hp2, hkind⟩
  simp only [List.mem_cons, List.not_mem_nil, or_false] at hp2 hkind
  refine EvP.split (fun h2 => EvP.neg (by omega) (EvP.now ?_)) (fun h2 => ?_)
  · exact ⟨hkey, rfl, by show kind = 1 ∨ kind = 2 ∨ kind = 3; omega, by simp [ByteArray.size], fun _ => rfl, by show (-7 : Int) ≤ 0; omega, by show (0 : Int) ≤ 100; omega, fun _ => rfl, by show p ≤ p2 ∧ p2 ≤ p + 5; omega⟩
  · refine EvP.bind (spec_l9Rd_num_ev l hl p2 _ (by simp) (by omega) (by omega)) ?_
    rintro ⟨n, p3⟩ ⟨hp3, hn⟩
    simp only [List.mem_cons, List.not_mem_nil, or_false] at hp3 hn
    refine EvP.split (fun h3 => ?_) (fun h3 => EvP.now ?_)
    · refine EvP.bind (spec_l9Rd_of_ev l hl p3 _ (by simp) (by omega) (by omega)) ?_
      rintro ⟨x, p4⟩ ⟨hp4, hx⟩
      simp only at hp4 hx
      exact EvP.now ⟨hkey, rfl, by show kind = 1 ∨ kind = 2 ∨ kind = 3; omega, texts_small x hx, fun h => absurd h3 h, by show (-7 : Int) ≤ n; omega, by show n ≤ 100; omega, fun h => absurd h h2, by show p ≤ p4 ∧ p4 ≤ p + 5; omega⟩
    · exact ⟨hkey, rfl, by show kind = 1 ∨ kind = 2 ∨ kind = 3; omega, by simp [ByteArray.size], fun _ => rfl, by show (-7 : Int) ≤ n; omega, by show n ≤ 100; omega, fun h => absurd h h2, by show p ≤ p3 ∧ p3 ≤ p + 5; omega⟩

theorem wrap_in (a b : Int) : wrap64 (wrap64 a + b) = wrap64 (a + b) := by
  unfold wrap64
  omega
theorem wrap_in2 (a b : Int) : wrap64 (a + wrap64 b) = wrap64 (a + b) := by
  unfold wrap64
  omega
theorem spec_DrawCellDo_l0 (l : List Int) (hl : Bytes l) : ∀ (d : Nat) (n p : Int) (b : Bool) (t : ByteArray) (c : Int), n ≤ d → 0 ≤ p → p + 5 * d ≤ 900000000000 → d ≤ 100 → EvP (fun k => spec_DrawCellDo.l0 k n l p b t c) (fun _ => True) := by
  intro d
  induction d with
  | zero =>
    intro n p b t c hn h0 h1 _
    refine EvP.step (fun k => by rw [spec_DrawCellDo.l0]) (EvP.neg (by omega) ?_)
    refine EvP.bind (spec_l3Entry_ev l hl p 2 h0 (by omega)) ?_
    intro e he
    have h3 := he.next
    refine EvP.bind (spec_l9Rd_pick_ev l hl _ 16 (by omega) (by omega)) ?_
    rintro ⟨s, p2⟩ ⟨hp2, _⟩
    simp only at hp2
    refine EvP.split (fun _ => ?_) (fun _ => EvP.now trivial)
    refine EvP.bind (spec_l9Rd_num_ev l hl _ _ (by simp) (by omega) (by omega)) ?_
    intro _ _
    exact EvP.now trivial
  | succ d ih =>
    intro n p b t c hn h0 h1 hd
    refine EvP.step (fun k => by rw [spec_DrawCellDo.l0]) (EvP.split (fun hp => ?_) (fun hp => ?_))
    · refine EvP.bind (spec_l3Entry_ev l hl p 1 h0 (by omega)) ?_
      intro e he
      have h3 := he.next
      simp only [spec_CellDo_eq, Option.bind_some]
      rw [w64 (by omega) (by omega)]
      exact ih _ _ _ _ _ (by omega) (by omega) (by omega) (by omega)
    · refine EvP.bind (spec_l3Entry_ev l hl p 2 h0 (by omega)) ?_
      intro e he
      have h3 := he.next
      refine EvP.bind (spec_l9Rd_pick_ev l hl _ 16 (by omega) (by omega)) ?_
      rintro ⟨s, p2⟩ ⟨hp2, _⟩
      simp only at hp2
      refine EvP.split (fun _ => ?_) (fun _ => EvP.now trivial)
      refine EvP.bind (spec_l9Rd_num_ev l hl _ _ (by simp) (by omega) (by omega)) ?_
      intro _ _
      exact EvP.now trivial
theorem spec_DrawCellDo_ev (l0 : List Int) (h : ∀ x ∈ l0, (Lit.int .u8 x).wf = true) : EvP (fun k => spec_DrawCellDo.f k l0) (fun _ => True) := by
  unfold spec_DrawCellDo.f
  refine EvP.bind (spec_l9Open_ev l0 h) ?_
  rintro ⟨l, p⟩ ⟨hl, hp⟩
  simp only at hp hl
  refine EvP.bind (spec_l9Rd_pick_ev l hl p 4 (by omega) (by omega)) ?_
  rintro ⟨s, p1⟩ ⟨hp1, _, hs, _⟩
  simp only at hp1 hs
  have := hs (by omega)
  exact spec_DrawCellDo_l0 l hl 4 s p1 _ _ _ (by omega) (by omega) (by omega) (by omega)
theorem laws_FnCellDo_j1 (b : Bool) (t : ByteArray) (c : Int) (k : ByteArray) (s q : Int) (x : ByteArray) (n : Int) (b' : Bool) (t' : ByteArray) (c' : Int) (k' : ByteArray) (s' q' : Int) (x' : ByteArray) (n' : Int) :
    EvP (fun z => laws_FnCellDo.j1 z false b t c k s q x n b' t' c' k' s' q' x' n' (cellDo b t c q x n).1 (cellDo b t c q x n).2.1 (cellDo b t c q x n).2.2) (· = true) := by
  refine EvP.step (fun k => by rw [laws_FnCellDo.j1]) (EvP.neg (by simp) ?_)
  simp only [impl_CellDo.f, Option.bind_some]
  refine EvP.split (fun h1 => ?_) (fun h1 => EvP.split (fun h2 => ?_) (fun h2 => EvP.split (fun h3 => ?_) (fun h3 => ?_)))
  · refine EvP.pos (by simp [cellDo, h1]) (EvP.now (by simp [cellDo, h1]))
  · refine EvP.pos (by simp [cellDo, h2]) (EvP.now (by simp [cellDo, h2, ByteArray.toList_eq]))
  · have e1 : wrap64 (wrap64 (c + n) + n') = wrap64 (wrap64 (c + n') + n) := by rw [wrap_in, wrap_in]; congr 1; omega
    have e2 : wrap64 (wrap64 (c + n) + n') = wrap64 (c + wrap64 (n + n')) := by rw [wrap_in, wrap_in2]; congr 1; omega
    refine EvP.pos (by simp [cellDo, h3, e1]) (EvP.pos (by simp [cellDo, h3, e2]) (EvP.pos (by simp [cellDo, h3]) (EvP.now (by simp [cellDo, h3]))))
  · exact EvP.now (by simp [cellDo, h1, h2, h3])
theorem FnCellDo (l0 l1 : List Int) (g0 : l0.length ≤ maxLen ∧ ∀ x ∈ l0, (Lit.int .u8 x).wf = true) (g1 : l1.length ≤ maxLen ∧ ∀ x ∈ l1, (Lit.int .u8 x).wf = true) : ∃ k, laws_FnCellDo.f k l0 l1 = some true := by
  refine EvP.done ?_
  unfold laws_FnCellDo.f
  have key : ∀ b : Bool, EvP (fun k => laws_FnCellDo.j0 k l0 l1 b) (· = true) := by
    intro b
    refine EvP.step (fun k => by rw [laws_FnCellDo.j0]) (EvP.split (fun _ => EvP.now rfl) (fun _ => ?_))
    refine EvP.bind (spec_DrawCellDo_ev l0 g0.2) ?_
    rintro ⟨b, t, c, k, s, q, x, n⟩ _
    refine EvP.bind (spec_DrawCellDo_ev l1 g1.2) ?_
    rintro ⟨b', t', c', k', s', q', x', n'⟩ _
    simp only [impl_CellDo.f, spec_CellDo_eq, Option.bind_some]
    refine EvP.neg (by simp) ?_
    have e : (!((cellDo b' t' c' q' x' n').1 == (cellDo b' t' c' q' x' n').1) || (!((cellDo b' t' c' q' x' n').2.1.toList == (cellDo b' t' c' q' x' n').2.1.toList) || (!((cellDo b' t' c' q' x' n').2.2 == (cellDo b' t' c' q' x' n').2.2)))) = false := by simp
    rw [e]
    exact laws_FnCellDo_j1 ..
  exact EvP.split (fun _ => key _) (fun _ => key _)


end Go.Proofs.Ytbdckemcagaldaa.Pure
