/- A cell is its last reset plus what was added since. -/
import Derived.Test.YtbdckemcagaldaaQFnCellSumx8
import Derived.Test.YtbdckemcagaldaaBBase
set_option linter.unusedVariables false
set_option linter.unusedSimpArgs false
namespace Go.Proofs.Ytbdckemcagaldaa.Pure
open Go.RowKit Go.Proofs.Ytbdckemcagaldaa.QFnCellSum Go.Proofs.YtbdckemcagaldaaW.PrintWords Go.Proofs.YtbdckemcagaldaaW.PrintLast Go.Proofs.YtbdckemcagaldaaW.PrintMore Go.Proofs.Ytbdckemcagaldaa.B

/-! ### CellDo -/
theorem spec_CellDo_eq (a0_0 : Bool) (a0_1 : ByteArray) (a0_2 : Int) (a1_0 : ByteArray) (a1_1 : Int) (a1_2 : Int) (a1_3 : ByteArray) (a1_4 : Int) : spec_CellDo.f a0_0 a0_1 a0_2 a1_0 a1_1 a1_2 a1_3 a1_4 = some (cellDo a0_0 a0_1 a0_2 a1_2 a1_3 a1_4) := by
  unfold spec_CellDo.f cellDo
  repeat' split
  all_goals rfl

/-! ### The reader of draws -/
/-- Bytes, at most 2000 of them. -/
structure Bytes (l : List Int) : Prop where
  len : l.length ≤ 2000
  lo : ∀ j, 0 ≤ rd l j
  hi : ∀ j, rd l j ≤ 255
theorem rd_range {l : List Int} (h : ∀ x ∈ l, 0 ≤ x ∧ x ≤ 255) (j : Int) : 0 ≤ rd l j ∧ rd l j ≤ 255 := by
  unfold rd
  rw [List.getD_eq_getElem?_getD]
  rcases Nat.lt_or_ge j.toNat l.length with hj | hj
  · rw [List.getElem?_eq_getElem hj]
    exact h _ (List.getElem_mem hj)
  · rw [List.getElem?_eq_none hj]
    simp
theorem u8_range {l : List Int} (h : ∀ x ∈ l, (Lit.int .u8 x).wf = true) : ∀ x ∈ l, 0 ≤ x ∧ x ≤ 255 := by
  intro x hx
  have := h x hx
  simp [Lit.wf, IntKind.min, IntKind.max, IntKind.signed, IntKind.bits] at this
  omega
theorem spec_l9Open_ev (l : List Int) (h : ∀ x ∈ l, (Lit.int .u8 x).wf = true) : EvP (fun _ => spec_l9Open.f l) (fun r => Bytes r.1 ∧ r.2 = 0) := by
  unfold spec_l9Open.f
  have hu := u8_range h
  refine EvP.split (fun h1 => EvP.pos (by omega) (EvP.now ⟨⟨?_, fun j => ?_, fun j => ?_⟩, rfl⟩)) (fun h1 => EvP.now ⟨⟨?_, fun j => ?_, fun j => ?_⟩, rfl⟩)
  · simp; omega
  · exact (rd_range (fun x hx => hu x (List.mem_of_mem_take hx)) j).1
  · exact (rd_range (fun x hx => hu x (List.mem_of_mem_take hx)) j).2
  · show l.length ≤ 2000
    omega
  · exact (rd_range hu j).1
  · exact (rd_range hu j).2
theorem xor_nonneg (x y : Int) (h0 : 0 ≤ x) (h1 : x < 2 ^ 62) (h2 : 0 ≤ y) (h3 : y < 2 ^ 62) : 0 ≤ bits .xor .i64 x y := by
  obtain ⟨a, rfl⟩ := Int.eq_ofNat_of_zero_le h0
  obtain ⟨b, rfl⟩ := Int.eq_ofNat_of_zero_le h2
  rw [xor64 a b (by omega) (by omega)]
  exact Int.natCast_nonneg _
/-- What a pick gives: one place on; a number below n, or 0. -/
def Picked (p n : Int) (r : Int × Int) : Prop := r.2 = p + 1 ∧ 0 ≤ r.1 ∧ (1 ≤ n → r.1 < n) ∧ (n < 1 → r.1 = 0)
theorem picked_mod {p n x : Int} (hn : ¬ n < 1) (hx : 0 ≤ x) : Picked p n (Int.tmod x n, p + 1) :=
  ⟨rfl, Int.tmod_nonneg _ hx, fun _ => Int.tmod_lt_of_pos _ (by omega), fun h => absurd h hn⟩
theorem spec_l9Rd_pick_ev (l : List Int) (hl : Bytes l) (p n : Int) (h0 : 0 ≤ p) (h1 : p ≤ 1000000000000) : EvP (fun k => spec_l9Rd_pick.f k l p n) (Picked p n) := by
  unfold spec_l9Rd_pick.f
  have e1 : wrap64 (p + 1) = p + 1 := w64 (by omega) (by omega)
  have e2 : wrap64 (p + 1 - 1) = p := by rw [w64 (by omega) (by omega)]; omega
  rw [e1]
  refine EvP.split (fun h => ?_) (fun hn => ?_)
  · refine EvP.step (fun k => by rw [spec_l9Rd_pick.j0]) (EvP.pos rfl (EvP.now ?_))
    exact ⟨rfl, Int.le_refl _, fun h' => absurd h (by omega), fun _ => rfl⟩
  · refine EvP.step (fun k => by rw [spec_l9Rd_pick.j0]) (EvP.split (fun h => EvP.now ?_) (fun hz => ?_))
    · exact ⟨rfl, Int.le_refl _, fun h' => by show (0 : Int) < n; omega, fun _ => rfl⟩
    · have hz' : ¬ (l.length : Int) = 0 := fun h => hz (by simp [h])
      have hpos : 0 < (l.length : Int) := by omega
      have hlen : (l.length : Int) ≤ 2000 := by have := hl.len; omega
      rw [e2]
      refine EvP.split (fun h => EvP.pos h0 (EvP.neg (by omega) (EvP.now ?_))) (fun h => EvP.neg hz' ?_)
      · have := hl.lo p
        have := hl.hi p
        rw [w64 (by omega) (by omega)]
        exact picked_mod hn (by omega)
      · have a0 : 0 ≤ Int.tmod p (l.length : Int) := Int.tmod_nonneg _ h0
        have a1 : Int.tmod p (l.length : Int) < (l.length : Int) := Int.tmod_lt_of_pos _ hpos
        have e7 : wrap64 (wrap64 (p * 7) + 3) = p * 7 + 3 := by rw [w64 (x := p * 7) (by omega) (by omega), w64 (by omega) (by omega)]
        have c0 : 0 ≤ Int.tmod (p * 7 + 3) (l.length : Int) := Int.tmod_nonneg _ (by omega)
        have c1 : Int.tmod (p * 7 + 3) (l.length : Int) < (l.length : Int) := Int.tmod_lt_of_pos _ hpos
        rw [e7]
        refine EvP.pos a0 (EvP.pos a1 (EvP.pos c0 (EvP.pos c1 (EvP.neg (by omega) (EvP.now ?_)))))
        have b0 := hl.lo (Int.tmod p (l.length : Int))
        have b1 := hl.hi (Int.tmod p (l.length : Int))
        have d0 := hl.lo (Int.tmod (p * 7 + 3) (l.length : Int))
        have d1 := hl.hi (Int.tmod (p * 7 + 3) (l.length : Int))
        have q0 : 0 ≤ Int.tdiv p (l.length : Int) := Int.tdiv_nonneg h0 (by omega)
        have q1 : Int.tdiv p (l.length : Int) ≤ p := by
          rw [Int.tdiv_eq_ediv_of_nonneg h0]
          exact Int.ediv_le_self _ h0
        refine picked_mod hn ?_
        generalize Int.tdiv p (l.length : Int) = q at q0 q1 ⊢
        generalize rd l (Int.tmod p (l.length : Int)) = b at b0 b1 ⊢
        generalize rd l (Int.tmod (p * 7 + 3) (l.length : Int)) = d at d0 d1 ⊢
        have f1 : wrap64 b = b := w64 (by omega) (by omega)
        have f2 : wrap64 d = d := w64 (by omega) (by omega)
        have f3 : wrap64 q = q := w64 (by omega) (by omega)
        have f4 : wrap64 (b * 131) = b * 131 := w64 (by omega) (by omega)
        have f5 : wrap64 (d * 1117) = d * 1117 := w64 (by omega) (by omega)
        have f6 : wrap64 (p * 29) = p * 29 := w64 (by omega) (by omega)
        have f7 : wrap64 (q * 53) = q * 53 := w64 (by omega) (by omega)
        have f8 : wrap64 (b * 131 + d * 1117) = b * 131 + d * 1117 := w64 (by omega) (by omega)
        have f9 : wrap64 (b * 131 + d * 1117 + p * 29) = b * 131 + d * 1117 + p * 29 := w64 (by omega) (by omega)
        have f10 : wrap64 (b * 131 + d * 1117 + p * 29 + q * 53) = b * 131 + d * 1117 + p * 29 + q * 53 := w64 (by omega) (by omega)
        rw [f1, f2, f3, f4, f5, f6, f7, f8, f9, f10]
        have g0 : 0 ≤ b * 131 + d * 1117 + p * 29 + q * 53 := by omega
        have g1 : b * 131 + d * 1117 + p * 29 + q * 53 < 2 ^ 62 := by omega
        generalize b * 131 + d * 1117 + p * 29 + q * 53 = x at g0 g1 ⊢
        have g2 : Int.tdiv x 64 = x / 64 := Int.tdiv_eq_ediv_of_nonneg g0
        rw [g2, w64 (x := x / 64) (by omega) (by omega)]
        exact xor_nonneg _ _ g0 g1 (by omega) (by omega)
/-- One of a list of texts. -/
theorem spec_l9Rd_of_ev (l : List Int) (hl : Bytes l) (p : Int) (xs : List ByteArray) (hx : 0 < xs.length) (h0 : 0 ≤ p) (h1 : p ≤ 1000000000000) : EvP (fun k => spec_l9Rd_of.f k l p xs) (fun r => r.2 = p + 1 ∧ r.1 ∈ xs) := by
  unfold spec_l9Rd_of.f
  refine EvP.bind (spec_l9Rd_pick_ev l hl p _ h0 h1) ?_
  rintro ⟨i, q⟩ ⟨hq, hi, hlt, _⟩
  have := hlt (by omega)
  simp only at hq hi this
  refine EvP.pos hi (EvP.pos this (EvP.now ⟨hq, ?_⟩))
  show xs.getD i.toNat ByteArray.empty ∈ xs
  rw [List.getD_eq_getElem?_getD, List.getElem?_eq_getElem (by omega)]
  exact List.getElem_mem _

/-- One of a list of numbers. -/
theorem spec_l9Rd_num_ev (l : List Int) (hl : Bytes l) (p : Int) (xs : List Int) (hx : 0 < xs.length) (h0 : 0 ≤ p) (h1 : p ≤ 1000000000000) : EvP (fun k => spec_l9Rd_num.f k l p xs) (fun r => r.2 = p + 1 ∧ r.1 ∈ xs) := by
  unfold spec_l9Rd_num.f
  refine EvP.bind (spec_l9Rd_pick_ev l hl p _ h0 h1) ?_
  rintro ⟨i, q⟩ ⟨hq, hi, hlt, _⟩
  have := hlt (by omega)
  simp only at hq hi this
  refine EvP.pos hi (EvP.pos this (EvP.now ⟨hq, ?_⟩))
  show xs.getD i.toNat 0 ∈ xs
  rw [List.getD_eq_getElem?_getD, List.getElem?_eq_getElem (by omega)]
  exact List.getElem_mem _

theorem spec_l3Key_ev (l : List Int) (hl : Bytes l) (p : Int) (h0 : 0 ≤ p) (h1 : p ≤ 1000000000000) : EvP (fun k => spec_l3Key.f k l p) (fun r => r.2 = p + 1 ∧ r.1 ∈ ([⟨#[97]⟩, ⟨#[98]⟩, ⟨#[97, 98]⟩, ⟨#[98, 47, 97, 47, 49]⟩, ⟨#[98, 47, 97, 98, 47, 49]⟩, ⟨#[99]⟩] : List ByteArray)) := by
  unfold spec_l3Key.f
  refine EvP.bind (spec_l9Rd_of_ev l hl p _ (by simp) h0 h1) ?_
  rintro ⟨x, q⟩ h
  exact EvP.now h

/-- What a drawn entry is like. -/
structure Drawn (seq p : Int) (r : ByteArray × Int × Int × ByteArray × Int × Int) : Prop where
  key : r.1 ∈ ([⟨#[97]⟩, ⟨#[98]⟩, ⟨#[97, 98]⟩, ⟨#[98, 47, 97, 47, 49]⟩, ⟨#[98, 47, 97, 98, 47, 49]⟩, ⟨#[99]⟩] : List ByteArray)
  seq : r.2.1 = seq
  kind : r.2.2.1 = 1 ∨ r.2.2.1 = 2 ∨ r.2.2.1 = 3
  text : r.2.2.2.1.size ≤ 3
  bare : r.2.2.1 ≠ 1 → r.2.2.2.1 = ⟨#[]⟩
  lo : -7 ≤ r.2.2.2.2.1
  hi : r.2.2.2.2.1 ≤ 100
  del : r.2.2.1 = 2 → r.2.2.2.2.1 = 0
  next : p ≤ r.2.2.2.2.2 ∧ r.2.2.2.2.2 ≤ p + 5
theorem keys_small (u : ByteArray) (h : u ∈ ([⟨#[97]⟩, ⟨#[98]⟩, ⟨#[97, 98]⟩, ⟨#[98, 47, 97, 47, 49]⟩, ⟨#[98, 47, 97, 98, 47, 49]⟩, ⟨#[99]⟩] : List ByteArray)) : u.size ≤ 6 := by
  simp only [List.mem_cons, List.not_mem_nil, or_false] at h
  rcases h with rfl | rfl | rfl | rfl | rfl | rfl <;> simp [ByteArray.size]
theorem texts_small (u : ByteArray) (h : u ∈ ([⟨#[]⟩, ⟨#[120]⟩, ⟨#[121, 121]⟩, ⟨#[122, 122, 122]⟩] : List ByteArray)) : u.size ≤ 3 := by
  simp only [List.mem_cons, List.not_mem_nil, or_false] at h
  rcases h with rfl | rfl | rfl | rfl <;> simp [ByteArray.size]
theorem spec_l3Entry_ev (l : List Int) (hl : Bytes l) (p seq : Int) (h0 : 0 ≤ p) (h1 : p ≤ 900000000000) : EvP (fun k => spec_l3Entry.f k l p seq) (Drawn seq p) := by
  unfold spec_l3Entry.f
  refine EvP.bind (spec_l3Key_ev l hl p h0 (by omega)) ?_
  rintro ⟨key, p1⟩ ⟨hp1, hkey⟩
  simp only at hp1 hkey
  refine EvP.bind (spec_l9Rd_num_ev l hl p1 _ (by simp) (by omega) (by omega)) ?_
  rintro ⟨kind, p2⟩ ⟨hp2, hkind⟩
  simp only [List.mem_cons, List.not_mem_nil, or_false] at hp2 hkind
  refine EvP.split (fun h2 => EvP.neg (by omega) (EvP.now ?_)) (fun h2 => ?_)
  · exact ⟨hkey, rfl, by show kind = 1 ∨ kind = 2 ∨ kind = 3; omega, by simp [ByteArray.size], fun _ => rfl, by show (-7 : Int) ≤ 0; omega, by show (0 : Int) ≤ 100; omega, fun _ => rfl, by show p ≤ p2 ∧ p2 ≤ p + 5; omega⟩
  · refine EvP.bind (spec_l9Rd_num_ev l hl p2 _ (by simp) (by omega) (by omega)) ?_
    rintro ⟨n, p3⟩ ⟨hp3, hn⟩
    simp only [List.mem_cons, List.not_mem_nil, or_false] at hp3 hn
    refine EvP.split (fun h3 => ?_) (fun h3 => EvP.now ?_)
    · refine EvP.bind (spec_l9Rd_of_ev l hl p3 _ (by simp) (by omega) (by omega)) ?_
      rintro ⟨x, p4⟩ ⟨hp4, hx⟩
      simp only at hp4 hx
      exact EvP.now ⟨hkey, rfl, by show kind = 1 ∨ kind = 2 ∨ kind = 3; omega, texts_small x hx, fun h => absurd h3 h, by show (-7 : Int) ≤ n; omega, by show n ≤ 100; omega, fun h => absurd h h2, by show p ≤ p4 ∧ p4 ≤ p + 5; omega⟩
    · exact ⟨hkey, rfl, by show kind = 1 ∨ kind = 2 ∨ kind = 3; omega, by simp [ByteArray.size], fun _ => rfl, by show (-7 : Int) ≤ n; omega, by show n ≤ 100; omega, fun h => absurd h h2, by show p ≤ p3 ∧ p3 ≤ p + 5; omega⟩

/-! ### Sums that wrap, as plain sums -/
def plainBy {α : Type} (f : α → Int) : List α → Int
  | [] => 0
  | x :: xs => f x + plainBy f xs
theorem plainBy_append {α : Type} (f : α → Int) (xs ys : List α) : plainBy f (xs ++ ys) = plainBy f xs + plainBy f ys := by
  induction xs with
  | nil => simp [plainBy]
  | cons x xs ih => simp [plainBy, ih, Int.add_assoc]
theorem plainBy_reverse {α : Type} (f : α → Int) (xs : List α) : plainBy f xs.reverse = plainBy f xs := by
  induction xs with
  | nil => rfl
  | cons x xs ih =>
    rw [List.reverse_cons, plainBy_append, ih]
    simp only [plainBy]
    omega
theorem plainBy_map {α β : Type} (f : β → Int) (g : α → β) (xs : List α) : plainBy f (xs.map g) = plainBy (fun x => f (g x)) xs := by
  induction xs with
  | nil => rfl
  | cons x xs ih => simp [plainBy, ih]
theorem plainBy_congr {α : Type} (f g : α → Int) (xs : List α) (h : ∀ x ∈ xs, f x = g x) : plainBy f xs = plainBy g xs := by
  induction xs with
  | nil => rfl
  | cons x xs ih =>
    simp only [plainBy]
    rw [h x (by simp), ih (fun y hy => h y (by simp [hy]))]
theorem plainBy_neg {α : Type} (f : α → Int) (xs : List α) : plainBy (fun x => -f x) xs = -plainBy f xs := by
  induction xs with
  | nil => rfl
  | cons x xs ih => simp only [plainBy, ih]; omega
theorem plainBy_add {α : Type} (f g : α → Int) (xs : List α) : plainBy (fun x => f x + g x) xs = plainBy f xs + plainBy g xs := by
  induction xs with
  | nil => rfl
  | cons x xs ih => simp only [plainBy, ih]; omega
theorem wrap_add (a b : Int) : wrap64 (wrap64 a + b) = wrap64 (a + b) := by
  unfold wrap64
  omega
theorem wrap_add2 (a b : Int) : wrap64 (a + wrap64 b) = wrap64 (a + b) := by
  unfold wrap64
  omega
theorem wrap_neg (a : Int) : wrap64 (-wrap64 a) = wrap64 (-a) := by
  unfold wrap64
  omega
theorem wrap_wrap (a : Int) : wrap64 (wrap64 a) = wrap64 a := by
  unfold wrap64
  omega

/-! ### The order by time -/
def ltE (x y : S31) : Prop := x.f1 < y.f1
instance (x y : S31) : Decidable (ltE x y) := inferInstanceAs (Decidable (x.f1 < y.f1))
theorem cmp_ev (x y : S31) : EvP (fun k => impl_CellAll_1.f x.f0 x.f1 x.f2 x.f3 x.f4 y.f0 y.f1 y.f2 y.f3 y.f4) (fun t => t < 0 ↔ ltE x y) := by
  unfold impl_CellAll_1.f cmp_Compare_int.f cmp_isNaN_int.f
  simp only [Option.bind_some, bne_self_eq_false, Bool.false_eq_true, if_false]
  unfold ltE
  by_cases h : x.f1 < y.f1
  · simp only [if_pos h, Option.bind_some]
    exact EvP.now (by simp [h])
  · by_cases g : x.f1 > y.f1
    · simp only [if_neg h, if_pos g, Option.bind_some]
      exact EvP.now (by simp [h])
    · simp only [if_neg h, if_neg g, Option.bind_some]
      exact EvP.now (by simp [h])

/-! ### A stable sort, one entry after another -/
theorem rd_midE (pre rest : List S31) (x : S31) : rd_T31 (pre ++ x :: rest) (pre.length : Int) = x := by simp [rd_T31]
def insRev (e : S31) : List S31 → List S31
  | [] => [e]
  | y :: ys => if ltE e y then y :: insRev e ys else e :: y :: ys
def insR (e : S31) (xs : List S31) : List S31 := (insRev e xs.reverse).reverse
def isort (xs : List S31) : List S31 := xs.foldl (fun o e => insR e o) []
theorem isort_snoc (xs : List S31) (e : S31) : isort (xs ++ [e]) = insR e (isort xs) := by simp [isort]
theorem insRev_far (e : S31) (t r : List S31) (h : ∀ y ∈ t, ltE e y) : insRev e (t ++ r) = t ++ insRev e r := by
  induction t with
  | nil => rfl
  | cons y t ih =>
    rw [List.cons_append, insRev, if_pos (h y (by simp)), ih (fun z hz => h z (by simp [hz])), List.cons_append]
theorem insR_split (e : S31) (f t : List S31) (h : ∀ y ∈ t, ltE e y) : insR e (f ++ t) = insR e f ++ t := by
  unfold insR
  rw [List.reverse_append, insRev_far e _ _ (fun y hy => h y (List.mem_reverse.1 hy)), List.reverse_append, List.reverse_reverse]
theorem insR_stop (e : S31) (f : List S31) (y : S31) (h : ¬ ltE e y) : insR e (f ++ [y]) = f ++ [y] ++ [e] := by
  unfold insR
  rw [List.reverse_append, List.reverse_singleton, List.singleton_append, insRev, if_neg h]
  simp
theorem insR_nil (e : S31) : insR e [] = [e] := rfl
theorem insRev_length (e : S31) (xs : List S31) : (insRev e xs).length = xs.length + 1 := by
  induction xs with
  | nil => rfl
  | cons y ys ih =>
    unfold insRev
    split
    · rw [List.length_cons, ih, List.length_cons]
    · rfl
theorem insR_length (e : S31) (xs : List S31) : (insR e xs).length = xs.length + 1 := by simp [insR, insRev_length]
theorem isort_length (xs : List S31) : (isort xs).length = xs.length := by
  have key : ∀ r : List S31, (isort r.reverse).length = r.length := by
    intro r
    induction r with
    | nil => rfl
    | cons x r ih => rw [List.reverse_cons, isort_snoc, insR_length, ih, List.length_cons]
  simpa using key xs.reverse
theorem swap_mid (A B : List S31) (y e : S31) (n m : Nat) (hn : n = A.length) (hm : m = A.length + 1) : ((A ++ y :: e :: B).set m y).set n e = A ++ e :: y :: B := by
  subst hn hm
  rw [List.set_append, if_neg (by omega), List.set_append, if_neg (by omega)]
  simp
/-- Insertion sort within a row, from place a to place b. -/
theorem insSort_l1 (pre more : List S31) (e : S31) (a b i : Int) (ha : a = (pre.length : Int)) (seg : List S31) (hbig : pre.length + seg.length + more.length ≤ 2097152) (Q : List S31 → Prop)
    (fin : EvP (fun k => impl_Entry_38.l0 k (pre ++ insR e seg ++ more) a b (wrap64 (i + 1))) Q) :
    ∀ (fr t : List S31), seg = fr.reverse ++ t → (∀ y ∈ t, ltE e y) → EvP (fun k => impl_Entry_38.l1 k (pre ++ fr.reverse ++ e :: t ++ more) a b i (a + fr.length)) Q := by
  intro fr
  induction fr with
  | nil =>
    intro t hs ht
    refine EvP.step (fun k => by rw [impl_Entry_38.l1]) (EvP.neg (by simp) ?_)
    have e1 : insR e seg = e :: t := by
      rw [hs, List.reverse_nil, insR_split e [] t ht, insR_nil]
      rfl
    rw [e1] at fin
    simpa using fin
  | cons y fr ih =>
    intro t hs ht
    have hlen : seg.length = fr.length + 1 + t.length := by rw [hs]; simp; omega
    have hL : (pre ++ (y :: fr).reverse ++ e :: t ++ more).length = pre.length + fr.length + 2 + t.length + more.length := by simp; omega
    have hx : pre ++ (y :: fr).reverse ++ e :: t ++ more = (pre ++ fr.reverse) ++ y :: e :: (t ++ more) := by simp
    have hx2 : pre ++ (y :: fr).reverse ++ e :: t ++ more = ((pre ++ fr.reverse) ++ [y]) ++ e :: (t ++ more) := by simp
    have j1 : a + ((y :: fr).length : Int) = (((pre ++ fr.reverse) ++ [y]).length : Int) := by rw [ha]; simp <;> omega
    have j0 : wrap64 (a + ((y :: fr).length : Int) - 1) = ((pre ++ fr.reverse).length : Int) := by
      rw [w64 (by rw [ha]; simp; omega) (by rw [ha]; simp; omega), ha]
      simp
      try omega
    have r1 : rd_T31 (pre ++ (y :: fr).reverse ++ e :: t ++ more) (a + ((y :: fr).length : Int)) = e := by
      rw [hx2, j1]
      exact rd_midE _ _ _
    have r0 : rd_T31 (pre ++ (y :: fr).reverse ++ e :: t ++ more) ((pre ++ fr.reverse).length : Int) = y := by
      rw [hx]
      exact rd_midE _ _ _
    refine EvP.step (fun k => by rw [impl_Entry_38.l1]) ?_
    rw [j0, r1, r0]
    refine EvP.pos (by simp; omega) (EvP.pos (by rw [ha]; omega) (EvP.pos (by rw [hL, ha]; simp; omega) (EvP.pos (by omega) (EvP.pos (by rw [hL]; simp; omega) ?_))))
    refine EvP.bind (cmp_ev e y) ?_
    intro c hc
    refine EvP.split (fun hlt => ?_) (fun hge => ?_)
    · have hlt' := hc.1 hlt
      have e2 : ((pre ++ (y :: fr).reverse ++ e :: t ++ more).set (a + ((y :: fr).length : Int)).toNat y).set ((pre ++ fr.reverse).length : Int).toNat e = pre ++ fr.reverse ++ e :: (y :: t) ++ more := by
        rw [hx, swap_mid (pre ++ fr.reverse) (t ++ more) y e _ _ (by simp; omega) (by rw [j1]; simp; omega)]
        simp
      have e3 : ((pre ++ fr.reverse).length : Int) = a + (fr.length : Int) := by rw [ha]; simp
      have step := ih (y :: t) (by rw [hs]; simp) (fun z hz => by
        rcases List.mem_cons.1 hz with rfl | hz
        · exact hlt'
        · exact ht z hz)
      show EvP (fun k => impl_Entry_38.l1 k (((pre ++ (y :: fr).reverse ++ e :: t ++ more).set (a + ((y :: fr).length : Int)).toNat y).set ((pre ++ fr.reverse).length : Int).toNat e) a b i ((pre ++ fr.reverse).length : Int)) Q
      rw [e2, e3]
      exact step
    · have hge' : ¬ ltE e y := fun h => hge (hc.2 h)
      have e1 : insR e seg = fr.reverse ++ [y] ++ [e] ++ t := by
        rw [hs, List.reverse_cons, insR_split e _ t ht, insR_stop e _ y hge']
      rw [e1] at fin
      simpa using fin
theorem insSort_l0 (pre more : List S31) (a b : Int) (ha : a = (pre.length : Int)) : ∀ (rest seg : List S31), pre.length + seg.length + rest.length + more.length ≤ 2097152 → b = ((pre.length + (isort seg).length + rest.length : Nat) : Int) → 
    EvP (fun k => impl_Entry_38.l0 k (pre ++ isort seg ++ rest ++ more) a b ((pre.length + (isort seg).length : Nat) : Int)) (· = pre ++ isort (seg ++ rest) ++ more) := by
  intro rest
  induction rest with
  | nil =>
    intro seg hbig hb
    refine EvP.step (fun k => by rw [impl_Entry_38.l0]) (EvP.neg (by rw [hb]; simp) (EvP.now (by simp)))
  | cons e rest ih =>
    intro seg hbig hb
    have hl := isort_length seg
    simp only [List.length_cons] at hbig hb
    refine EvP.step (fun k => by rw [impl_Entry_38.l0]) (EvP.pos (by rw [hb]; omega) ?_)
    have h1 := insSort_l1 pre (rest ++ more) e a b ((pre.length + (isort seg).length : Nat) : Int) ha (isort seg) (by rw [List.length_append]; omega) (· = pre ++ isort (seg ++ e :: rest) ++ more) ?_ (isort seg).reverse [] (by simp) (by simp)
    · have e1 : pre ++ (isort seg).reverse.reverse ++ e :: [] ++ (rest ++ more) = pre ++ isort seg ++ e :: rest ++ more := by simp
      have e2 : a + ((isort seg).reverse.length : Int) = ((pre.length + (isort seg).length : Nat) : Int) := by rw [ha]; simp
      rw [e1, e2] at h1
      exact h1
    · have step := ih (seg ++ [e]) (by simp; omega) (by rw [isort_length]; simp; omega)
      rw [isort_snoc, insR_length] at step
      have e3 : wrap64 (((pre.length + (isort seg).length : Nat) : Int) + 1) = ((pre.length + ((isort seg).length + 1) : Nat) : Int) := by rw [w64 (by omega) (by omega)]; omega
      rw [e3]
      simpa using step
theorem insSort_ev (pre xs more : List S31) (a b n : Int) (ha : a = (pre.length : Int)) (hb : b = ((pre.length + xs.length : Nat) : Int)) (hbig : pre.length + xs.length + more.length ≤ 2097152) :
    EvP (fun k => impl_Entry_38.f k (pre ++ xs ++ more) a b n) (· = pre ++ isort xs ++ more) := by
  unfold impl_Entry_38.f
  cases xs with
  | nil =>
    refine EvP.step (fun k => by rw [impl_Entry_38.l0]) (EvP.neg (by rw [hb, ha, w64 (by omega) (by omega)]; simp <;> omega) (EvP.now (by simp [isort])))
  | cons x xs =>
    have h := insSort_l0 pre more a b ha xs [x] (by simp at hbig ⊢; omega) (by rw [isort_length, hb]; simp; omega)
    have e1 : isort [x] = [x] := rfl
    rw [e1] at h
    have e2 : wrap64 (a + 1) = ((pre.length + [x].length : Nat) : Int) := by rw [ha, w64 (by omega) (by simp at hbig; omega)]; simp
    rw [e2]
    simpa using h
/-- The whole sort of no more than one block. -/
theorem sortFew_ev (xs : List S31) (n : Int) (hx : xs.length < 20) : EvP (fun k => impl_Entry_25.f k xs n) (· = isort xs) := by
  unfold impl_Entry_25.f impl_Entry_35.f
  refine EvP.bind (P := (· = isort xs)) ?_ (by rintro _ rfl; exact EvP.now rfl)
  refine EvP.step (fun k => by rw [impl_Entry_35.l0]) (EvP.neg (by omega) ?_)
  have h := insSort_ev [] xs [] 0 (xs.length : Int) n (by simp) (by simp) (by simp; omega)
  refine EvP.bind (P := (· = isort xs)) (by simpa using h) ?_
  rintro _ rfl
  exact EvP.step (fun k => by rw [impl_Entry_35.l1]) (EvP.neg (by omega) (EvP.now rfl))

/-! ### Cells of many entries -/
def keepE (key : ByteArray) (seq : Int) (x : S31) : Bool := decide (x.f0.toList = key.toList) && decide (x.f1 ≤ seq)
theorem spec_l3Cut_l1 (xs : List S31) (key : ByteArray) (seq i : Int) (e : S31) (hi0 : 0 ≤ i) (hi1 : i < (xs.length : Int)) (he : rd_T31 xs i = e) (out : List S31) (ho : out.length ≤ 1048576) (Q : List S31 → Prop)
    (fin : EvP (fun k => spec_l3Cut.l0 k xs key seq (insR e out) (wrap64 (i + 1))) Q) :
    ∀ (fr t : List S31), out = fr.reverse ++ t → (∀ y ∈ t, ltE e y) → EvP (fun k => spec_l3Cut.l1 k xs key seq out i (fr.length : Int)) Q := by
  intro fr
  induction fr with
  | nil =>
    intro t hs ht
    have e1 : insR e out = e :: t := by
      rw [hs, List.reverse_nil, insR_split e [] t ht, insR_nil]
      rfl
    have e2 : out = t := by simpa using hs
    rw [e1] at fin
    refine EvP.step (fun k => by rw [spec_l3Cut.l1]) (EvP.neg (by simp) ?_)
    rw [he, e2]
    rw [e2] at ho
    simp only [Option.bind_some]
    refine EvP.pos (by simp) (EvP.pos (by simp) (EvP.pos (by simp; omega) (EvP.pos hi0 (EvP.pos hi1 (EvP.pos (by simp) (EvP.pos (by simp; omega) ?_))))))
    simpa using fin
  | cons y fr ih =>
    intro t hs ht
    have hlen : out.length = fr.length + 1 + t.length := by rw [hs]; simp; omega
    have hx : out = fr.reverse ++ y :: t := by rw [hs]; simp
    have j0 : wrap64 (((y :: fr).length : Int) - 1) = (fr.reverse.length : Int) := by
      rw [w64 (by simp <;> omega) (by simp <;> omega)]
      simp
    have r0 : rd_T31 out (fr.reverse.length : Int) = y := by
      rw [hx]
      exact rd_midE _ _ _
    refine EvP.step (fun k => by rw [spec_l3Cut.l1]) (EvP.pos (by simp <;> omega) ?_)
    rw [j0, he, r0]
    refine EvP.pos (by omega) (EvP.pos (by rw [hlen]; simp <;> omega) (EvP.pos hi0 (EvP.pos hi1 (EvP.split (fun hlt => ?_) (fun hge => ?_)))))
    · rw [List.length_reverse]
      exact ih (y :: t) hx (fun z hz => by
        rcases List.mem_cons.1 hz with rfl | hz
        · exact hlt
        · exact ht z hz)
    · have hge' : ¬ ltE e y := hge
      have e1 : insR e out = fr.reverse ++ [y] ++ [e] ++ t := by
        rw [hs, List.reverse_cons, insR_split e _ t ht, insR_stop e _ y hge']
      rw [e1] at fin
      have hn : ((y :: fr).length : Int).toNat = (fr.reverse ++ [y]).length := by simp
      have ht1 : out.take ((y :: fr).length : Int).toNat = fr.reverse ++ [y] := by
        rw [hn, show out = (fr.reverse ++ [y]) ++ t by rw [hx]; simp]
        exact List.take_left
      have ht2 : out.drop ((y :: fr).length : Int).toNat = t := by
        rw [hn, show out = (fr.reverse ++ [y]) ++ t by rw [hx]; simp]
        exact List.drop_left
      simp only [Option.bind_some]
      rw [ht1, ht2]
      refine EvP.pos (by omega) (EvP.pos (by rw [hlen]; simp <;> omega) (EvP.pos (by simp <;> omega) (EvP.pos (by simp <;> omega) (EvP.pos (by simp <;> omega) ?_))))
      simpa using fin
theorem spec_l3Cut_l0 (xs : List S31) (key : ByteArray) (seq : Int) (hn : xs.length ≤ 1048576) : ∀ (rest pre : List S31), xs = pre ++ rest →
    EvP (fun k => spec_l3Cut.l0 k xs key seq (isort (pre.filter (keepE key seq))) (pre.length : Int)) (· = isort (xs.filter (keepE key seq))) := by
  intro rest
  induction rest with
  | nil =>
    intro pre e
    refine EvP.step (fun k => by rw [spec_l3Cut.l0]) (EvP.neg (by simp [e]) (EvP.now (by simp [e])))
  | cons x rest ih =>
    intro pre e
    have hl : xs.length = pre.length + (rest.length + 1) := by rw [e]; simp
    refine EvP.step (fun k => by rw [spec_l3Cut.l0]) (EvP.pos (by omega) (EvP.pos (by omega) ?_))
    have hr : rd_T31 xs (pre.length : Int) = x := by rw [e]; exact rd_midE pre rest x
    have e2 : wrap64 ((pre.length : Int) + 1) = ((pre ++ [x]).length : Int) := by rw [w64 (by omega) (by omega)]; simp
    have step := ih (pre ++ [x]) (by rw [e]; simp)
    rw [← e2, List.filter_append] at step
    have hfl : (isort (pre.filter (keepE key seq))).length ≤ 1048576 := by
      rw [isort_length]
      exact Nat.le_trans (List.length_filter_le _ _) (by omega)
    have key1 : ∀ b : Bool, b = !keepE key seq x → EvP (fun k => spec_l3Cut.j1 k xs key seq (isort (pre.filter (keepE key seq))) (pre.length : Int) b) (· = isort (xs.filter (keepE key seq))) := by
      intro b hb
      cases hk : keepE key seq x
      · have hb' : b = true := by rw [hb, hk]; rfl
        subst hb'
        rw [show [x].filter (keepE key seq) = [] by simp [hk], List.append_nil] at step
        exact EvP.step (fun k => by rw [spec_l3Cut.j1]) (EvP.pos rfl step)
      · have hb' : b = false := by rw [hb, hk]; rfl
        subst hb'
        rw [show [x].filter (keepE key seq) = [x] by simp [hk], isort_snoc] at step
        refine EvP.step (fun k => by rw [spec_l3Cut.j1]) (EvP.neg (by simp) ?_)
        have h1 := spec_l3Cut_l1 xs key seq (pre.length : Int) x (by omega) (by omega) hr _ hfl _ step (isort (pre.filter (keepE key seq))).reverse [] (by simp) (by simp)
        simpa using h1
    rw [hr]
    refine EvP.split (fun h => key1 _ ?_) (fun h => key1 _ ?_)
    · rw [Bool.eq_iff_iff]
      simp [keepE, h]
    · simp [keepE, h]
theorem spec_l3Cut_ev (xs : List S31) (key : ByteArray) (seq : Int) (hn : xs.length ≤ 1048576) : EvP (fun k => spec_l3Cut.f k xs key seq) (· = isort (xs.filter (keepE key seq))) :=
  spec_l3Cut_l0 xs key seq hn xs [] rfl
/-- What entries do to a cell, one after another. -/
def doAll (c : Bool × ByteArray × Int) (xs : List S31) : Bool × ByteArray × Int := xs.foldl (fun c x => cellDo c.1 c.2.1 c.2.2 x.f2 x.f3 x.f4) c
theorem doAll_snoc (c : Bool × ByteArray × Int) (xs : List S31) (x : S31) : doAll c (xs ++ [x]) = cellDo (doAll c xs).1 (doAll c xs).2.1 (doAll c xs).2.2 x.f2 x.f3 x.f4 := by simp [doAll]
def noCell : Bool × ByteArray × Int := (false, ⟨#[]⟩, 0)
def cellOf (xs : List S31) (key : ByteArray) (seq : Int) : Bool × ByteArray × Int := doAll noCell (isort (xs.filter (keepE key seq)))
theorem spec_CellAll_l0 (xs : List S31) (hn : xs.length ≤ 1048576) : ∀ (rest pre : List S31), xs = pre ++ rest →
    EvP (fun k => spec_CellAll.l0 k xs (pre.length : Int) (doAll noCell pre).1 (doAll noCell pre).2.1 (doAll noCell pre).2.2) (· = doAll noCell xs) := by
  intro rest
  induction rest with
  | nil =>
    intro pre e
    refine EvP.step (fun k => by rw [spec_CellAll.l0]) (EvP.neg (by simp [e]) (EvP.now (by simp [e])))
  | cons x rest ih =>
    intro pre e
    have hl : xs.length = pre.length + (rest.length + 1) := by rw [e]; simp
    refine EvP.step (fun k => by rw [spec_CellAll.l0]) (EvP.pos (by omega) (EvP.pos (by omega) ?_))
    have hr : rd_T31 xs (pre.length : Int) = x := by rw [e]; exact rd_midE pre rest x
    rw [hr]
    simp only [spec_CellDo_eq, Option.bind_some]
    have e2 : wrap64 ((pre.length : Int) + 1) = ((pre ++ [x]).length : Int) := by rw [w64 (by omega) (by omega)]; simp
    have step := ih (pre ++ [x]) (by rw [e]; simp)
    rw [doAll_snoc] at step
    rw [e2]
    exact step
theorem spec_CellAll_ev (xs : List S31) (key : ByteArray) (seq : Int) (hn : xs.length ≤ 1048576) : EvP (fun k => spec_CellAll.f k xs key seq) (· = cellOf xs key seq) := by
  unfold spec_CellAll.f
  refine EvP.bind (spec_l3Cut_ev xs key seq hn) ?_
  rintro _ rfl
  have hl : (isort (xs.filter (keepE key seq))).length ≤ 1048576 := by
    rw [isort_length]
    exact Nat.le_trans (List.length_filter_le _ _) hn
  exact spec_CellAll_l0 _ hl (isort (xs.filter (keepE key seq))) [] rfl
theorem impl_CellAll_l1 (xs : List S31) (hn : xs.length ≤ 1048576) : ∀ (rest pre : List S31), xs = pre ++ rest →
    EvP (fun k => impl_CellAll.l1 k xs (xs.length : Int) (pre.length : Int) (doAll noCell pre).1 (doAll noCell pre).2.1 (doAll noCell pre).2.2) (· = doAll noCell xs) := by
  intro rest
  induction rest with
  | nil =>
    intro pre e
    refine EvP.step (fun k => by rw [impl_CellAll.l1]) (EvP.neg (by simp [e]) (EvP.now (by simp [e])))
  | cons x rest ih =>
    intro pre e
    have hl : xs.length = pre.length + (rest.length + 1) := by rw [e]; simp
    refine EvP.step (fun k => by rw [impl_CellAll.l1]) (EvP.pos (by omega) (EvP.pos (by omega) (EvP.pos (by omega) ?_)))
    have hr : rd_T31 xs (pre.length : Int) = x := by rw [e]; exact rd_midE pre rest x
    rw [hr]
    simp only [impl_CellDo.f, Option.bind_some]
    have e2 : wrap64 ((pre.length : Int) + 1) = ((pre ++ [x]).length : Int) := by rw [w64 (by omega) (by omega)]; simp
    have step := ih (pre ++ [x]) (by rw [e]; simp)
    rw [doAll_snoc] at step
    rw [e2]
    exact step
theorem impl_CellAll_l0 (xs : List S31) (key : ByteArray) (seq : Int) (hn : xs.length ≤ 1048576) (hsort : ∀ n, EvP (fun k => impl_Entry_25.f k (xs.filter (keepE key seq)) n) (· = isort (xs.filter (keepE key seq)))) : ∀ (rest pre : List S31), xs = pre ++ rest →
    EvP (fun k => impl_CellAll.l0 k key seq (pre.filter (keepE key seq)) xs (xs.length : Int) (pre.length : Int)) (· = cellOf xs key seq) := by
  intro rest
  induction rest with
  | nil =>
    intro pre e
    obtain rfl : xs = pre := by simpa using e
    refine EvP.step (fun k => by rw [impl_CellAll.l0]) (EvP.neg (by omega) ?_)
    refine EvP.bind (hsort _) ?_
    rintro _ rfl
    have hl : (isort (xs.filter (keepE key seq))).length ≤ 1048576 := by
      rw [isort_length]
      exact Nat.le_trans (List.length_filter_le _ _) hn
    have h := impl_CellAll_l1 _ hl (isort (xs.filter (keepE key seq))) [] rfl
    rw [isort_length] at h
    exact h
  | cons x rest ih =>
    intro pre e
    have hl : xs.length = pre.length + (rest.length + 1) := by rw [e]; simp
    refine EvP.step (fun k => by rw [impl_CellAll.l0]) (EvP.pos (by omega) (EvP.pos (by omega) (EvP.pos (by omega) ?_)))
    have hr : rd_T31 xs (pre.length : Int) = x := by rw [e]; exact rd_midE pre rest x
    rw [hr]
    have e2 : wrap64 ((pre.length : Int) + 1) = ((pre ++ [x]).length : Int) := by rw [w64 (by omega) (by omega)]; simp
    have step := ih (pre ++ [x]) (by rw [e]; simp)
    rw [← e2, List.filter_append] at step
    have hfl : (pre.filter (keepE key seq)).length ≤ 1048576 := Nat.le_trans (List.length_filter_le _ _) (by omega)
    refine EvP.split (fun h => EvP.split (fun g => EvP.pos (by omega) ?_) (fun g => ?_)) (fun h => ?_)
    · rw [show [x].filter (keepE key seq) = [x] by simp [keepE, h, g]] at step
      exact step
    · rw [show [x].filter (keepE key seq) = [] by simp [keepE, g], List.append_nil] at step
      exact step
    · rw [show [x].filter (keepE key seq) = [] by simp [keepE, h], List.append_nil] at step
      exact step
theorem impl_CellAll_few (xs : List S31) (key : ByteArray) (seq : Int) (hn : xs.length < 20) : EvP (fun k => impl_CellAll.f k xs key seq) (· = cellOf xs key seq) :=
  impl_CellAll_l0 xs key seq (by omega) (fun n => sortFew_ev _ n (Nat.lt_of_le_of_lt (List.length_filter_le _ _) hn)) xs [] rfl

/-! ### Sorting what stands apart -/
def Apart (xs : List S31) : Prop := xs.Pairwise (fun x y => x.f1 ≠ y.f1)
def Asc (xs : List S31) : Prop := xs.Pairwise (fun x y => x.f1 < y.f1)
theorem insRev_perm (e : S31) (xs : List S31) : (insRev e xs).Perm (e :: xs) := by
  induction xs with
  | nil => exact List.Perm.refl _
  | cons y ys ih =>
    unfold insRev
    split
    · exact (List.Perm.cons y ih).trans (List.Perm.swap e y ys)
    · exact List.Perm.refl _
theorem insR_perm (e : S31) (xs : List S31) : (insR e xs).Perm (e :: xs) :=
  (List.reverse_perm _).trans ((insRev_perm e _).trans (List.Perm.cons e (List.reverse_perm xs)))
theorem isort_perm (xs : List S31) : (isort xs).Perm xs := by
  have key : ∀ r : List S31, (isort r.reverse).Perm r := by
    intro r
    induction r with
    | nil => exact List.Perm.refl _
    | cons x r ih =>
      rw [List.reverse_cons, isort_snoc]
      exact (insR_perm x _).trans (List.Perm.cons x ih)
  have h := key xs.reverse
  rw [List.reverse_reverse] at h
  exact h.trans (List.reverse_perm xs)
theorem insRev_desc (e : S31) (xs : List S31) (h : xs.Pairwise (fun x y => y.f1 < x.f1)) (hd : ∀ y ∈ xs, y.f1 ≠ e.f1) : (insRev e xs).Pairwise (fun x y => y.f1 < x.f1) := by
  induction xs with
  | nil => simp [insRev]
  | cons y ys ih =>
    rw [List.pairwise_cons] at h
    unfold insRev
    split
    · rename_i hlt
      rw [List.pairwise_cons]
      refine ⟨fun z hz => ?_, ih h.2 (fun z hz => hd z (by simp [hz]))⟩
      rcases List.mem_cons.1 ((insRev_perm e ys).mem_iff.1 hz) with rfl | hz
      · exact hlt
      · exact h.1 z hz
    · rename_i hge
      have hy : y.f1 < e.f1 := by
        have := hd y (by simp)
        have : ¬ e.f1 < y.f1 := hge
        omega
      rw [List.pairwise_cons, List.pairwise_cons]
      refine ⟨fun z hz => ?_, h.1, h.2⟩
      rcases List.mem_cons.1 hz with rfl | hz
      · exact hy
      · have := h.1 z hz
        omega
theorem insR_asc (e : S31) (xs : List S31) (h : Asc xs) (hd : ∀ y ∈ xs, y.f1 ≠ e.f1) : Asc (insR e xs) := by
  unfold Asc insR
  rw [List.pairwise_reverse]
  exact insRev_desc e _ (by rw [List.pairwise_reverse]; exact h) (fun y hy => hd y (List.mem_reverse.1 hy))
theorem isort_asc (xs : List S31) (h : Apart xs) : Asc (isort xs) := by
  have key : ∀ r : List S31, Apart r → Asc (isort r.reverse) := by
    intro r
    induction r with
    | nil => intro _; exact List.Pairwise.nil
    | cons x r ih =>
      intro h
      have h' := List.pairwise_cons.1 h
      rw [List.reverse_cons, isort_snoc]
      refine insR_asc x _ (ih h'.2) (fun y hy => ?_)
      have hy' : y ∈ r := by
        have := (isort_perm r.reverse).mem_iff.1 hy
        exact List.mem_reverse.1 this
      exact fun g => h'.1 y hy' g.symm
  have h2 := key xs.reverse (by
    unfold Apart
    rw [List.pairwise_reverse]
    exact h.imp (fun g => fun e => g e.symm))
  rw [List.reverse_reverse] at h2
  exact h2
theorem Asc.uniq {xs ys : List S31} (hx : Asc xs) (hy : Asc ys) (hp : xs.Perm ys) : xs = ys :=
  List.Perm.eq_of_pairwise (fun a b _ _ h1 h2 => absurd h1 (by omega)) hx hy hp
theorem Apart.perm {xs ys : List S31} (h : Apart xs) (hp : xs.Perm ys) : Apart ys :=
  (hp.pairwise_iff (fun g => fun e => g e.symm)).1 h
theorem isort_of_perm {xs ys : List S31} (hp : xs.Perm ys) (h : Apart xs) : isort xs = isort ys :=
  (isort_asc xs h).uniq (isort_asc ys (h.perm hp)) ((isort_perm xs).trans (hp.trans (isort_perm ys).symm))
theorem Asc.apart {xs : List S31} (h : Asc xs) : Apart xs := h.imp (fun g => by omega)
theorem isort_of_asc {xs : List S31} (h : Asc xs) : isort xs = xs := (isort_asc xs h.apart).uniq h (isort_perm xs)
theorem cellOf_perm {xs ys : List S31} (hp : xs.Perm ys) (h : Apart xs) (key : ByteArray) (seq : Int) : cellOf xs key seq = cellOf ys key seq := by
  unfold cellOf
  rw [isort_of_perm (hp.filter _) (List.Pairwise.filter _ h)]

/-! ### Draws of lists of entries -/
def keys6 : List ByteArray := [⟨#[97]⟩, ⟨#[98]⟩, ⟨#[97, 98]⟩, ⟨#[98, 47, 97, 47, 49]⟩, ⟨#[98, 47, 97, 98, 47, 49]⟩, ⟨#[99]⟩]
/-- What a drawn entry of a list is like. -/
structure Item (hi : Int) (x : S31) : Prop where
  key : x.f0 ∈ keys6
  one : 1 ≤ x.f1
  top : x.f1 ≤ hi
  kind : x.f2 = 1 ∨ x.f2 = 2 ∨ x.f2 = 3
  bare : x.f2 ≠ 1 → x.f3 = ⟨#[]⟩
  del : x.f2 = 2 → x.f4 = 0
  nlo : -7 ≤ x.f4
  nhi : x.f4 ≤ 100
theorem Item.mono {a b : Int} {x : S31} (h : Item a x) (hab : a ≤ b) : Item b x := ⟨h.key, h.one, Int.le_trans h.top hab, h.kind, h.bare, h.del, h.nlo, h.nhi⟩
theorem spec_l3List_l0 (l : List Int) (hl : Bytes l) : ∀ (d : Nat) (out : List S31) (s p : Int), d ≤ 100 → out.length + d ≤ 1000 → 0 ≤ s → s + 2 * d ≤ 1000000 → 0 ≤ p → p + 10 * d ≤ 800000000000 → Apart out → (∀ x ∈ out, Item s x) →
    EvP (fun k => spec_l3List.l0 k out s (d : Int) l p) (fun r => Apart r.1 ∧ r.1.length ≤ out.length + d ∧ (∀ x ∈ r.1, Item (s + 2 * d) x) ∧ p ≤ r.2 ∧ r.2 ≤ p + 10 * d) := by
  intro d
  induction d with
  | zero =>
    intro out s p _ _ _ _ hp0 hp1 ha hi
    refine EvP.step (fun k => by rw [spec_l3List.l0]) (EvP.neg (by simp) (EvP.now ⟨ha, by simp, fun x hx => (hi x hx).mono (by omega), by omega, by omega⟩))
  | succ d ih =>
    intro out s p hd ho hs0 hs1 hp0 hp1 ha hi
    refine EvP.step (fun k => by rw [spec_l3List.l0]) (EvP.pos (by omega) ?_)
    refine EvP.bind (spec_l9Rd_pick_ev l hl p 2 (by omega) (by omega)) ?_
    rintro ⟨v, p1⟩ ⟨hp, hv0, hv1, _⟩
    simp only at hp hv0 hv1
    have hv := hv1 (by omega)
    have ws : wrap64 (wrap64 (s + 1) + v) = s + 1 + v := by rw [w64 (x := s + 1) (by omega) (by omega), w64 (by omega) (by omega)]
    have wd : wrap64 (((d + 1 : Nat) : Int) - 1) = (d : Int) := by rw [w64 (by omega) (by omega)]; omega
    rw [ws, wd]
    refine EvP.bind (spec_l3Entry_ev l hl p1 (s + 1 + v) (by omega) (by omega)) ?_
    rintro ⟨key, seq, kind, text, n, p2⟩ hE
    have e1 := hE.seq
    have e2 := hE.next
    simp only at e1 e2
    refine EvP.bind (spec_l9Rd_pick_ev l hl p2 2 (by omega) (by omega)) ?_
    rintro ⟨w, p3⟩ ⟨hp3, _⟩
    simp only at hp3
    have hit : Item (s + 1 + v) (⟨key, seq, kind, text, n⟩ : S31) := ⟨hE.key, by show 1 ≤ seq; omega, by show seq ≤ _; omega, hE.kind, hE.bare, hE.del, hE.lo, hE.hi⟩
    have hne : ∀ y ∈ out, y.f1 ≠ (⟨key, seq, kind, text, n⟩ : S31).f1 := fun y hy => by
      have := (hi y hy).top
      show y.f1 ≠ seq
      omega
    refine EvP.split (fun _ => EvP.pos (by omega) ?_) (fun _ => ?_)
    · refine (ih (out ++ [⟨key, seq, kind, text, n⟩]) (s + 1 + v) p3 (by omega) (by simp; omega) (by omega) (by omega) (by omega) (by omega) ?_ ?_).mono ?_
      · refine List.pairwise_append.2 ⟨ha, List.pairwise_singleton _ _, fun x hx y hy => ?_⟩
        obtain rfl := List.mem_singleton.1 hy
        exact hne x hx
      · intro x hx
        rcases List.mem_append.1 hx with hx | hx
        · exact (hi x hx).mono (by omega)
        · obtain rfl := List.mem_singleton.1 hx
          exact hit
      · rintro r ⟨h1, h2, h3, h4, h5⟩
        exact ⟨h1, by simp at h2; omega, fun x hx => (h3 x hx).mono (by omega), by omega, by omega⟩
    · simp only [Option.bind_some]
      refine EvP.pos (by simp; omega) ?_
      refine (ih ([⟨key, seq, kind, text, n⟩] ++ out) (s + 1 + v) p3 (by omega) (by simp; omega) (by omega) (by omega) (by omega) (by omega) ?_ ?_).mono ?_
      · refine List.pairwise_cons.2 ⟨fun y hy => ?_, ha⟩
        exact (hne y hy).symm
      · intro x hx
        rcases List.mem_cons.1 hx with rfl | hx
        · exact hit
        · exact (hi x hx).mono (by omega)
      · rintro r ⟨h1, h2, h3, h4, h5⟩
        exact ⟨h1, by simp at h2; omega, fun x hx => (h3 x hx).mono (by omega), by omega, by omega⟩
theorem spec_DrawCellAll_ev (l0 : List Int) (h : ∀ x ∈ l0, (Lit.int .u8 x).wf = true) : EvP (fun k => spec_DrawCellAll.f k l0) (fun r => Apart r.1 ∧ r.1.length ≤ 12 ∧ (∀ x ∈ r.1, Item 100 x) ∧ r.2.1 ∈ keys6 ∧ 0 ≤ r.2.2 ∧ r.2.2 < 20) := by
  unfold spec_DrawCellAll.f
  refine EvP.bind (spec_l9Open_ev l0 h) ?_
  rintro ⟨l, p⟩ ⟨hl, hp⟩
  simp only at hp hl
  refine EvP.bind (P := fun r => Apart r.1 ∧ r.1.length ≤ 12 ∧ (∀ x ∈ r.1, Item 100 x) ∧ p ≤ r.2 ∧ r.2 ≤ p + 1000) ?_ ?_
  · unfold spec_l3List.f
    rw [w64 (x := 12 + 1) (by omega) (by omega)]
    refine EvP.bind (spec_l9Rd_pick_ev l hl p (12 + 1) (by omega) (by omega)) ?_
    rintro ⟨d, p1⟩ ⟨hp1, hd0, hd1, _⟩
    simp only at hp1 hd0 hd1
    have hd := hd1 (by omega)
    have h := spec_l3List_l0 l hl d.toNat [] 0 p1 (by omega) (by simp; omega) (by omega) (by omega) (by omega) (by omega) List.Pairwise.nil (by simp)
    have ed : ((d.toNat : Nat) : Int) = d := by omega
    rw [ed] at h
    refine h.mono ?_
    rintro r ⟨h1, h2, h3, h4, h5⟩
    exact ⟨h1, by simp at h2; omega, fun x hx => (h3 x hx).mono (by omega), by omega, by omega⟩
  rintro ⟨xs, p2⟩ ⟨h1, h2, h3, h4, h5⟩
  simp only at h1 h2 h3 h4 h5
  refine EvP.bind (spec_l3Key_ev l hl p2 (by omega) (by omega)) ?_
  rintro ⟨key, p3⟩ ⟨hp3, hkey⟩
  simp only at hp3 hkey
  refine EvP.bind (spec_l9Rd_pick_ev l hl p3 20 (by omega) (by omega)) ?_
  rintro ⟨s, p4⟩ ⟨_, hs0, hs1, _⟩
  exact EvP.now ⟨h1, h2, h3, hkey, hs0, hs1 (by omega)⟩

theorem cell_ne_self (c : Bool × ByteArray × Int) : (!(c.1 == c.1) || (!(c.2.1.toList == c.2.1.toList) || (!(c.2.2 == c.2.2)))) = false := by simp
theorem cell_eq_self (c : Bool × ByteArray × Int) : (c.1 == c.1 && (c.2.1.toList == c.2.1.toList && (c.2.2 == c.2.2))) = true := by simp
theorem filter_split (p q r : S31 → Bool) (h : ∀ x, p x = (q x || r x)) (hd : ∀ x, q x = true → r x = false) : ∀ xs : List S31, (xs.filter p).Perm (xs.filter q ++ xs.filter r) := by
  intro xs
  induction xs with
  | nil => exact List.Perm.refl _
  | cons x xs ih =>
    have hx := h x
    cases hq : q x
    · cases hr : r x
      · rw [hq, hr] at hx
        rw [List.filter_cons, List.filter_cons, List.filter_cons, hx, hq, hr]
        exact ih
      · rw [hq, hr] at hx
        rw [List.filter_cons, List.filter_cons, List.filter_cons, hx, hq, hr]
        exact (List.Perm.cons x ih).trans List.perm_middle.symm
    · have hr := hd x hq
      rw [hq, hr] at hx
      rw [List.filter_cons, List.filter_cons, List.filter_cons, hx, hq, hr]
      exact List.Perm.cons x ih
theorem doAll_append (c : Bool × ByteArray × Int) (xs ys : List S31) : doAll c (xs ++ ys) = doAll (doAll c xs) ys := by simp [doAll]

/-! ### The law -/
def nOf (x : S31) : Int := x.f4
def livens (x : S31) : Bool := x.f2 != 2
def isPut (x : S31) : Bool := decide (x.f2 = 1)
def textOf (xs : List S31) : ByteArray := xs.foldl (fun t x => if x.f2 = 1 then x.f3 else t) ⟨#[]⟩
theorem textOf_snoc (xs : List S31) (x : S31) : textOf (xs ++ [x]) = if x.f2 = 1 then x.f3 else textOf xs := by simp [textOf]
theorem textOf_puts (xs : List S31) : textOf (xs.filter isPut) = textOf xs := by
  have key : ∀ r : List S31, textOf (r.reverse.filter isPut) = textOf r.reverse := by
    intro r
    induction r with
    | nil => rfl
    | cons x r ih =>
      rw [List.reverse_cons, List.filter_append, textOf_snoc]
      by_cases h : x.f2 = 1
      · rw [show [x].filter isPut = [x] by simp [isPut, h], textOf_snoc, if_pos h, if_pos h]
      · rw [show [x].filter isPut = [] by simp [isPut, h], List.append_nil, if_neg h, ih]
  have h := key xs.reverse
  rwa [List.reverse_reverse] at h
theorem plainBy_perm (f : S31 → Int) {xs ys : List S31} (h : xs.Perm ys) : plainBy f xs = plainBy f ys := by
  induction h with
  | nil => rfl
  | cons x _ ih => simp only [plainBy, ih]
  | swap x y l => simp only [plainBy]; omega
  | trans _ _ h1 h2 => exact h1.trans h2
theorem adds_do : ∀ (R : List S31) (c : Bool × ByteArray × Int), (∀ x ∈ R, x.f2 = 3) → wrap64 c.2.2 = c.2.2 → doAll c R = (c.1 || R.any livens, c.2.1, wrap64 (c.2.2 + plainBy nOf R)) := by
  intro R
  induction R with
  | nil =>
    intro c _ hc
    simp [doAll, plainBy, hc]
  | cons x R ih =>
    intro c hR hc
    have hx := hR x (by simp)
    have h1 : doAll c (x :: R) = doAll (cellDo c.1 c.2.1 c.2.2 x.f2 x.f3 x.f4) R := rfl
    have h2 : cellDo c.1 c.2.1 c.2.2 x.f2 x.f3 x.f4 = (true, c.2.1, wrap64 (c.2.2 + x.f4)) := by simp [cellDo, hx]
    rw [h1, h2, ih _ (fun y hy => hR y (by simp [hy])) (wrap_wrap _)]
    have h3 : livens x = true := by simp [livens, hx]
    simp only [List.any_cons, h3, Bool.true_or, Bool.or_true, plainBy]
    rw [wrap_add]
    congr 3
    simp only [nOf]
    omega
def lateE (key : ByteArray) (seq t : Int) (x : S31) : Bool := keepE key seq x && decide (t ≤ x.f1)
def earlyE (key : ByteArray) (seq t : Int) (x : S31) : Bool := keepE key seq x && decide (x.f1 < t)
/-- What the last time of a reset is. -/
structure LastAt (V : List S31) (t : Int) : Prop where
  nonneg : 0 ≤ t
  at_ : t = 0 ∨ ∃ e ∈ V, e.f2 ≠ 3 ∧ e.f1 = t
  top : ∀ e ∈ V, e.f2 ≠ 3 → e.f1 ≤ t
theorem cellOf_cut (xs : List S31) (key : ByteArray) (seq t : Int) (ha : Apart xs) : isort (xs.filter (keepE key seq)) = isort (xs.filter (earlyE key seq t)) ++ isort (xs.filter (lateE key seq t)) := by
  have hs : (xs.filter (keepE key seq)).Perm (xs.filter (earlyE key seq t) ++ xs.filter (lateE key seq t)) := by
    refine filter_split _ _ _ (fun x => ?_) (fun x hx => ?_) xs
    · rw [Bool.eq_iff_iff]
      simp only [earlyE, lateE, Bool.and_eq_true, Bool.or_eq_true, decide_eq_true_eq]
      constructor
      · intro h
        by_cases g : x.f1 < t
        · exact .inl ⟨h, g⟩
        · exact .inr ⟨h, by omega⟩
      · rintro (h | h)
        · exact h.1
        · exact h.1
    · simp only [earlyE, Bool.and_eq_true, decide_eq_true_eq] at hx
      simp only [lateE, Bool.and_eq_false_iff, decide_eq_false_iff_not]
      exact .inr (by omega)
  have h1 : Asc (isort (xs.filter (keepE key seq))) := isort_asc _ (List.Pairwise.filter _ ha)
  have h2 : Asc (isort (xs.filter (earlyE key seq t))) := isort_asc _ (List.Pairwise.filter _ ha)
  have h3 : Asc (isort (xs.filter (lateE key seq t))) := isort_asc _ (List.Pairwise.filter _ ha)
  have h4 : Asc (isort (xs.filter (earlyE key seq t)) ++ isort (xs.filter (lateE key seq t))) := by
    refine List.pairwise_append.2 ⟨h2, h3, fun a g1 b g2 => ?_⟩
    have g3 := (List.mem_filter.1 ((isort_perm _).mem_iff.1 g1)).2
    have g4 := (List.mem_filter.1 ((isort_perm _).mem_iff.1 g2)).2
    simp only [earlyE, lateE, Bool.and_eq_true, decide_eq_true_eq] at g3 g4
    omega
  exact h1.uniq h4 ((isort_perm _).trans (hs.trans (List.Perm.append (isort_perm _).symm (isort_perm _).symm)))
theorem cellOf_sum (xs : List S31) (key : ByteArray) (seq t : Int) (ha : Apart xs) (hi : ∀ x ∈ xs, Item 100 x) (ht : LastAt (xs.filter (keepE key seq)) t) :
    cellOf xs key seq = ((xs.filter (lateE key seq t)).any livens, textOf (xs.filter (lateE key seq t)), wrap64 (plainBy nOf (xs.filter (lateE key seq t)))) := by
  have hp := isort_perm (xs.filter (lateE key seq t))
  have hasc : Asc (isort (xs.filter (lateE key seq t))) := isort_asc _ (List.Pairwise.filter _ ha)
  have hmem : ∀ x, x ∈ isort (xs.filter (lateE key seq t)) → x ∈ xs ∧ keepE key seq x = true ∧ t ≤ x.f1 := by
    intro x hx
    have h := List.mem_filter.1 (hp.mem_iff.1 hx)
    simp only [lateE, Bool.and_eq_true, decide_eq_true_eq] at h
    exact ⟨h.1, h.2.1, h.2.2⟩
  have hany : (xs.filter (lateE key seq t)).any livens = (isort (xs.filter (lateE key seq t))).any livens := by
    rw [Bool.eq_iff_iff, List.any_eq_true, List.any_eq_true]
    constructor
    · rintro ⟨x, hx, h⟩
      exact ⟨x, hp.mem_iff.2 hx, h⟩
    · rintro ⟨x, hx, h⟩
      exact ⟨x, hp.mem_iff.1 hx, h⟩
  have hplain := plainBy_perm nOf hp
  have hputs : ((isort (xs.filter (lateE key seq t))).filter isPut).Perm ((xs.filter (lateE key seq t)).filter isPut) := hp.filter _
  unfold cellOf
  rw [cellOf_cut xs key seq t ha, doAll_append, hany, ← hplain, ← textOf_puts (xs.filter (lateE key seq t))]
  generalize hc : doAll noCell (isort (xs.filter (earlyE key seq t))) = c
  generalize (xs.filter (lateE key seq t)).filter isPut = U at hputs ⊢
  rcases ht.at_ with h0 | ⟨e, heV, hek, het⟩
  · -- nothing resets: all is added
    have hadd : ∀ x ∈ isort (xs.filter (lateE key seq t)), x.f2 = 3 := by
      intro x hx
      obtain ⟨h1, h2, h3⟩ := hmem x hx
      by_cases g : x.f2 = 3
      · exact g
      · have := ht.top x (List.mem_filter.2 ⟨h1, h2⟩) g
        have := (hi x h1).one
        omega
    have hearly : xs.filter (earlyE key seq t) = [] := List.filter_eq_nil_iff.2 (fun x hx => by
      have := (hi x hx).one
      simp only [earlyE, Bool.and_eq_true, decide_eq_true_eq]
      omega)
    rw [hearly] at hc
    have hc' : noCell = c := hc
    subst hc'
    rw [adds_do _ _ hadd (w64 (by simp [noCell]) (by simp [noCell]))]
    have hU : U = [] := by
      have : (isort (xs.filter (lateE key seq t))).filter isPut = [] := List.filter_eq_nil_iff.2 (fun x hx => by simp [isPut, hadd x hx])
      rw [this] at hputs
      exact hputs.symm.eq_nil
    rw [hU]
    simp [noCell, textOf]
  · -- the last reset, then what is added
    have heW : e ∈ isort (xs.filter (lateE key seq t)) := by
      refine hp.mem_iff.2 (List.mem_filter.2 ⟨(List.mem_filter.1 heV).1, ?_⟩)
      simp only [lateE, Bool.and_eq_true, decide_eq_true_eq]
      exact ⟨(List.mem_filter.1 heV).2, by omega⟩
    generalize isort (xs.filter (lateE key seq t)) = W at heW hasc hmem hputs ⊢
    cases W with
    | nil => simp at heW
    | cons h R =>
      have hRgt := (List.pairwise_cons.1 hasc).1
      have hh := (hmem h (by simp)).2.2
      have heh : e = h := by
        rcases List.mem_cons.1 heW with g | g
        · exact g
        · have := hRgt e g
          omega
      subst heh
      have hadd : ∀ x ∈ R, x.f2 = 3 := by
        intro x hx
        obtain ⟨h1, h2, h3⟩ := hmem x (by simp [hx])
        by_cases g : x.f2 = 3
        · exact g
        · have := ht.top x (List.mem_filter.2 ⟨h1, h2⟩) g
          have := hRgt x hx
          omega
      have hit := hi e (List.mem_filter.1 heV).1
      have hRputs : R.filter isPut = [] := List.filter_eq_nil_iff.2 (fun x hx => by simp [isPut, hadd x hx])
      have h1 : doAll c (e :: R) = doAll (cellDo c.1 c.2.1 c.2.2 e.f2 e.f3 e.f4) R := rfl
      rw [h1]
      rcases hit.kind with k | k | k
      · have h2 : cellDo c.1 c.2.1 c.2.2 e.f2 e.f3 e.f4 = (true, e.f3, e.f4) := by simp [cellDo, k]
        have hU : U = [e] := by
          rw [List.filter_cons, if_pos (by simp [isPut, k]), hRputs] at hputs
          exact List.perm_singleton.1 hputs.symm
        rw [h2, adds_do _ _ hadd (w64 (by have := hit.nlo; show _ ≤ e.f4; omega) (by have := hit.nhi; show e.f4 ≤ _; omega)), hU]
        have h3 : livens e = true := by simp [livens, k]
        simp [textOf, k, h3, plainBy, nOf]
      · have h2 : cellDo c.1 c.2.1 c.2.2 e.f2 e.f3 e.f4 = (false, ⟨#[]⟩, 0) := by simp [cellDo, k]
        have hU : U = [] := by
          rw [List.filter_cons, if_neg (by simp [isPut, k]), hRputs] at hputs
          exact hputs.symm.eq_nil
        rw [h2, adds_do _ _ hadd (w64 (by simp) (by simp)), hU]
        have h3 : livens e = false := by simp [livens, k]
        simp [textOf, h3, plainBy, nOf, hit.del k]
      · exact absurd k hek
theorem laws_FnCellSum_l1 (xs : List S31) (key : ByteArray) (seq t : Int) (hn : xs.length ≤ 12) (c : Bool × ByteArray × Int)
    (hc : c = ((xs.filter (lateE key seq t)).any livens, textOf (xs.filter (lateE key seq t)), wrap64 (plainBy nOf (xs.filter (lateE key seq t))))) : ∀ (rest pre : List S31), xs = pre ++ rest →
    EvP (fun k => laws_FnCellSum.l1 k xs key seq t (wrap64 (plainBy nOf (pre.filter (lateE key seq t)))) (textOf (pre.filter (lateE key seq t))) ((pre.filter (lateE key seq t)).any livens) (pre.length : Int) c.1 c.2.1 c.2.2) (· = true) := by
  intro rest
  induction rest with
  | nil =>
    intro pre e
    obtain rfl : xs = pre := by simpa using e
    refine EvP.step (fun k => by rw [laws_FnCellSum.l1]) (EvP.neg (by omega) (EvP.now ?_))
    rw [hc]
    simp
  | cons y rest ih =>
    intro pre e
    have hl : xs.length = pre.length + (rest.length + 1) := by rw [e]; simp
    refine EvP.step (fun k => by rw [laws_FnCellSum.l1]) (EvP.pos (by omega) (EvP.pos (by omega) ?_))
    have hr : rd_T31 xs (pre.length : Int) = y := by rw [e]; exact rd_midE pre rest y
    rw [hr]
    have e2 : wrap64 ((pre.length : Int) + 1) = ((pre ++ [y]).length : Int) := by rw [w64 (by omega) (by omega)]; simp
    have step := ih (pre ++ [y]) (by rw [e]; simp)
    rw [← e2, List.filter_append] at step
    refine EvP.split (fun h => EvP.split (fun g => EvP.split (fun q => ?_) (fun q => ?_)) (fun g => ?_)) (fun h => ?_)
    · have hone : [y].filter (lateE key seq t) = [y] := by simp [lateE, keepE, h, g]; omega
      rw [hone, plainBy_append, textOf_snoc, List.any_append] at step
      have e3 : wrap64 (wrap64 (plainBy nOf (pre.filter (lateE key seq t))) + y.f4) = wrap64 (plainBy nOf (pre.filter (lateE key seq t)) + plainBy nOf [y]) := by
        rw [wrap_add]
        simp [plainBy, nOf]
      rw [e3]
      have e4 : [y].any livens = (y.f2 != 2) := by simp [livens]
      rw [e4] at step
      refine EvP.split (fun ha => EvP.split (fun hk => ?_) (fun hk => ?_)) (fun ha => EvP.split (fun hk => ?_) (fun hk => ?_))
      · rw [ha, Bool.true_or, if_pos hk] at step
        exact step
      · rw [ha, Bool.true_or, if_neg hk] at step
        exact step
      · rw [Bool.eq_false_iff.2 ha, Bool.false_or, if_pos hk] at step
        exact step
      · rw [Bool.eq_false_iff.2 ha, Bool.false_or, if_neg hk] at step
        exact step
    · rw [show [y].filter (lateE key seq t) = [] by simp [lateE]; intro _; omega, List.append_nil] at step
      exact step
    · rw [show [y].filter (lateE key seq t) = [] by simp [lateE, keepE, g], List.append_nil] at step
      exact step
    · rw [show [y].filter (lateE key seq t) = [] by simp [lateE, keepE, h], List.append_nil] at step
      exact step
theorem laws_FnCellSum_l0 (xs : List S31) (key : ByteArray) (seq : Int) (hn : xs.length ≤ 12) (ha : Apart xs) (hi : ∀ x ∈ xs, Item 100 x) : ∀ (rest pre : List S31) (t : Int), xs = pre ++ rest → LastAt (pre.filter (keepE key seq)) t →
    EvP (fun k => laws_FnCellSum.l0 k xs key seq t (pre.length : Int) (cellOf xs key seq).1 (cellOf xs key seq).2.1 (cellOf xs key seq).2.2) (· = true) := by
  intro rest
  induction rest with
  | nil =>
    intro pre t e hL
    obtain rfl : xs = pre := by simpa using e
    refine EvP.step (fun k => by rw [laws_FnCellSum.l0]) (EvP.neg (by omega) ?_)
    have h := laws_FnCellSum_l1 xs key seq t hn _ (cellOf_sum xs key seq t ha hi hL) xs [] rfl
    have e0 : wrap64 (plainBy nOf (([] : List S31).filter (lateE key seq t))) = 0 := (w64 (x := 0) (by omega) (by omega))
    rw [e0] at h
    exact h
  | cons y rest ih =>
    intro pre t e hL
    have hl : xs.length = pre.length + (rest.length + 1) := by rw [e]; simp
    refine EvP.step (fun k => by rw [laws_FnCellSum.l0]) (EvP.pos (by omega) (EvP.pos (by omega) ?_))
    have hr : rd_T31 xs (pre.length : Int) = y := by rw [e]; exact rd_midE pre rest y
    rw [hr]
    have e2 : wrap64 ((pre.length : Int) + 1) = ((pre ++ [y]).length : Int) := by rw [w64 (by omega) (by omega)]; simp
    rw [e2]
    have hy1 := (hi y (by rw [e]; simp)).one
    have none : keepE key seq y = false → LastAt ((pre ++ [y]).filter (keepE key seq)) t := fun h => by
      rw [List.filter_append, show [y].filter (keepE key seq) = [] by simp [h], List.append_nil]
      exact hL
    have some_ : keepE key seq y = true → ∀ x, x ∈ (pre ++ [y]).filter (keepE key seq) ↔ x ∈ pre.filter (keepE key seq) ∨ x = y := fun h x => by
      rw [List.filter_append, show [y].filter (keepE key seq) = [y] by simp [h]]
      simp
    refine EvP.split (fun h => EvP.split (fun g => ?_) (fun g => ?_)) (fun h => ?_)
    · have hk : keepE key seq y = true := by simp [keepE, h, g]
      refine EvP.split (fun q => ?_) (fun q => EvP.split (fun r => ?_) (fun r => ?_))
      · refine ih (pre ++ [y]) t (by rw [e]; simp) ⟨hL.nonneg, ?_, fun x hx hk3 => ?_⟩
        · rcases hL.at_ with h0 | ⟨z, h1, h2, h3⟩
          · exact .inl h0
          · exact .inr ⟨z, (some_ hk z).2 (.inl h1), h2, h3⟩
        · rcases (some_ hk x).1 hx with h1 | rfl
          · exact hL.top x h1 hk3
          · exact absurd q hk3
      · refine ih (pre ++ [y]) y.f1 (by rw [e]; simp) ⟨by omega, .inr ⟨y, (some_ hk y).2 (.inr rfl), q, rfl⟩, fun x hx hk3 => ?_⟩
        rcases (some_ hk x).1 hx with h1 | rfl
        · have := hL.top x h1 hk3
          omega
        · exact Int.le_refl _
      · refine ih (pre ++ [y]) t (by rw [e]; simp) ⟨hL.nonneg, ?_, fun x hx hk3 => ?_⟩
        · rcases hL.at_ with h0 | ⟨z, h1, h2, h3⟩
          · exact .inl h0
          · exact .inr ⟨z, (some_ hk z).2 (.inl h1), h2, h3⟩
        · rcases (some_ hk x).1 hx with h1 | rfl
          · exact hL.top x h1 hk3
          · omega
    · exact ih (pre ++ [y]) t (by rw [e]; simp) (none (by simp [keepE, g]))
    · exact ih (pre ++ [y]) t (by rw [e]; simp) (none (by simp [keepE, h]))
theorem FnCellSum (l0 : List Int) (g0 : l0.length ≤ maxLen ∧ ∀ x ∈ l0, (Lit.int .u8 x).wf = true) : ∃ k, laws_FnCellSum.f k l0 = some true := by
  refine EvP.done ?_
  unfold laws_FnCellSum.f
  refine EvP.split (fun _ => EvP.now rfl) (fun _ => ?_)
  refine EvP.bind (spec_DrawCellAll_ev l0 g0.2) ?_
  rintro ⟨xs, key, seq⟩ ⟨ha, hn, hi, hk, hs0, hs1⟩
  simp only at ha hn hi hk hs0 hs1
  refine EvP.bind (impl_CellAll_few xs key seq (by omega)) ?_
  rintro _ rfl
  refine EvP.bind (spec_CellAll_ev xs key seq (by omega)) ?_
  rintro _ rfl
  refine EvP.neg (by rw [cell_ne_self]; simp) ?_
  exact laws_FnCellSum_l0 xs key seq hn ha hi xs [] 0 rfl ⟨Int.le_refl _, .inl rfl, by simp⟩


end Go.Proofs.Ytbdckemcagaldaa.Pure
