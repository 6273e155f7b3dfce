/- Squashed entries are in order and well formed, and squashing them again changes nothing; without times to be kept each key has one at most; whatever is drawn, no condition. -/
import Derived.Test.YtcfebbhiehaocaaQFnSquashTwicex15
import Derived.Test.YtcfebbhiehaocaaBBase
set_option linter.unusedVariables false
set_option linter.unusedSimpArgs false
namespace Go.Proofs.Ytcfebbhiehaocaa.Pure
open Go.RowKit Go.Proofs.Ytcfebbhiehaocaa.QFnSquashTwice Go.Proofs.YtcfebbhiehaocaaW.PrintWords Go.Proofs.YtcfebbhiehaocaaW.PrintLast Go.Proofs.YtcfebbhiehaocaaW.PrintMore Go.Proofs.Ytcfebbhiehaocaa.B

theorem rd_midE (pre rest : List S48) (x : S48) : rd_T48 (pre ++ x :: rest) (pre.length : Int) = x := by simp [rd_T48]

def entKey (x : S48) : List UInt8 × Int × Int × List UInt8 × Int := (x.f0.toList, x.f1, x.f2, x.f3.toList, x.f4)
theorem entNe (x y : S48) : (!((x.f0.toList) == (y.f0.toList)) || (!((x.f1) == (y.f1)) || (!((x.f2) == (y.f2)) || (!((x.f3.toList) == (y.f3.toList)) || (!((x.f4) == (y.f4))))))) = !decide (entKey x = entKey y) := by
 unfold entKey
 by_cases c1 : x.f0.toList = y.f0.toList <;> by_cases c2 : x.f1 = y.f1 <;> by_cases c3 : x.f2 = y.f2 <;> by_cases c4 : x.f3.toList = y.f3.toList <;> by_cases c5 : x.f4 = y.f4 <;> simp [c1, c2, c3, c4, c5]

/-! ### KeyOk -/
def keyByteB (c : Int) : Bool := decide ((97 ≤ c ∧ c ≤ 122) ∨ (47 ≤ c ∧ c ≤ 57))
/-- d bytes from place i on are all a to z, 0 to 9 or a slash. -/
def keysB (s : ByteArray) : Nat → Int → Bool
 | 0, _ => true
 | d + 1, i => keyByteB (bt s i) && keysB s d (i + 1)
def keyB (s : ByteArray) : Bool := decide (1 ≤ s.size) && decide (s.size ≤ 8) && keysB s s.size 0
theorem spec_KeyOk_l0 (s : ByteArray) (hs : s.size ≤ 140737488351232) : ∀ (d : Nat) (i : Int), 0 ≤ i → i + d = s.size →
  EvP (fun k => spec_KeyOk.l0 k s i) (· = (decide (1 ≤ s.size) && decide (s.size ≤ 8) && keysB s d i)) := by
 intro d
 induction d with
 | zero =>
  intro i h0 h
  refine EvP.step (fun k => by rw [spec_KeyOk.l0]) ?_
  refine EvP.neg (by omega) ?_
  refine EvP.split (fun h => ?_) (fun h => ?_)
  ·
   refine EvP.now ?_
   have e1 : decide (1 ≤ s.size) = true := decide_eq_true (by omega)
   have e2 : decide ((s.size : Int) ≤ 8) = decide (s.size ≤ 8) := by rw [decide_eq_decide]; omega
   simp only [keysB, e1, e2, Bool.true_and, Bool.and_true]
  ·
   refine EvP.now ?_
   have e1 : decide (1 ≤ s.size) = false := decide_eq_false (by omega)
   simp only [keysB, e1, Bool.false_and]
 | succ d ih =>
  intro i h0 h
  refine EvP.step (fun k => by rw [spec_KeyOk.l0]) ?_
  refine EvP.pos (by omega) (EvP.pos (by omega) ?_)
  have := ih (i + 1) (by omega) (by omega)
  rw [w64 (by omega) (by omega)]
  repeat' with_reducible refine EvP.split (fun _ => ?_) (fun _ => ?_)
  all_goals first
   | (refine EvP.now ?_; have e1 : keyByteB (bt s i) = false := decide_eq_false (by omega); simp only [keysB, e1, Bool.false_and, Bool.and_false])
   | (have e1 : keyByteB (bt s i) = true := decide_eq_true (by omega); simp only [keysB, e1, Bool.true_and]; exact this)
theorem spec_KeyOk_ev (s : ByteArray) (hs : s.size ≤ 140737488351232) : EvP (fun k => spec_KeyOk.f k s) (· = keyB s) :=
 spec_KeyOk_l0 s hs s.size 0 (by omega) (by omega)
theorem impl_KeyOk_l0 (s : ByteArray) (hs : s.size ≤ 140737488351232) : ∀ (d : Nat) (i : Int), 0 ≤ i → i + d = s.size →
  EvP (fun k => impl_KeyOk.l0 k s (s.size : Int) i) (· = keysB s d i) := by
 intro d
 induction d with
 | zero =>
  intro i h0 h
  refine EvP.step (fun k => by rw [impl_KeyOk.l0]) ?_
  refine EvP.neg (by omega) ?_
  exact EvP.now (by simp [keysB])
 | succ d ih =>
  intro i h0 h
  refine EvP.step (fun k => by rw [impl_KeyOk.l0]) ?_
  refine EvP.pos (by omega) (EvP.pos (by omega) (EvP.pos (by omega) ?_))
  have := ih (i + 1) (by omega) (by omega)
  rw [w64 (by omega) (by omega)]
  repeat' with_reducible refine EvP.split (fun _ => ?_) (fun _ => ?_)
  all_goals first
   | (refine EvP.now ?_; have e1 : keyByteB (bt s i) = false := decide_eq_false (by omega); simp only [keysB, e1, Bool.false_and, Bool.and_false])
   | (have e1 : keyByteB (bt s i) = true := decide_eq_true (by omega); simp only [keysB, e1, Bool.true_and]; exact this)
theorem impl_KeyOk_ev (s : ByteArray) (hs : s.size ≤ 140737488351232) : EvP (fun k => impl_KeyOk.f k s) (· = keyB s) := by
 unfold impl_KeyOk.f keyB
 refine EvP.split (fun h => ?_) (fun h => ?_)
 ·
  refine EvP.step (fun k => by rw [impl_KeyOk.j0]) (EvP.pos rfl (EvP.now ?_))
  have e1 : decide (1 ≤ s.size) = false := decide_eq_false (by omega)
  simp [e1]
 ·
  have e1 : decide (1 ≤ s.size) = true := decide_eq_true (by omega)
  refine EvP.step (fun k => by rw [impl_KeyOk.j0]) (EvP.split (fun h1 => EvP.now ?_) (fun h1 => ?_))
  ·
   have := of_decide_eq_true h1
   have e2 : decide (s.size ≤ 8) = false := decide_eq_false (by omega)
   simp [e2]
  ·
   have : ¬ (s.size : Int) > 8 := fun h => h1 (decide_eq_true h)
   have e2 : decide (s.size ≤ 8) = true := decide_eq_true (by omega)
   simp only [e1, e2, Bool.true_and]
   exact impl_KeyOk_l0 s hs s.size 0 (by omega) (by omega)

/-! ### EntryOk -/
def kindB (kind : Int) (x : ByteArray) (n : Int) : Bool :=
 if kind = 1 then true else if kind = 2 then (if x.toList = ([] : List UInt8) then (n == 0) else false) else if kind = 3 then (x.toList == ([] : List UInt8)) else false
def entB (k : ByteArray) (seq kind : Int) (x : ByteArray) (n : Int) : Bool :=
 keyB k && decide (1 ≤ seq) && decide (seq ≤ 100000) && decide (x.size ≤ 60) && decide (-1000000 ≤ n) && decide (n ≤ 1000000) && kindB kind x n
theorem spec_EntryOk_j0 (b : Bool) (k : ByteArray) (seq kind : Int) (x : ByteArray) (n : Int) : EvP (fun q => spec_EntryOk.j0 q b k seq kind x n) (· = (!b && kindB kind x n)) := by
 refine EvP.step (fun k => by rw [spec_EntryOk.j0]) ?_
 cases b
 ·
  refine EvP.neg (by simp) ?_
  simp only [kindB, Bool.not_false, Bool.true_and]
  repeat' with_reducible refine EvP.split (fun _ => ?_) (fun _ => ?_)
  all_goals exact EvP.now (by simp [*])
 ·
  exact EvP.pos rfl (EvP.now (by simp))
theorem impl_EntryOk_j1 (b : Bool) (k : ByteArray) (seq kind : Int) (x : ByteArray) (n : Int) : EvP (fun q => impl_EntryOk.j1 q b k seq kind x n) (· = (!b && kindB kind x n)) := by
 refine EvP.step (fun k => by rw [impl_EntryOk.j1]) ?_
 cases b
 ·
  refine EvP.neg (by simp) ?_
  simp only [kindB, Bool.not_false, Bool.true_and]
  repeat' with_reducible refine EvP.split (fun _ => ?_) (fun _ => ?_)
  all_goals exact EvP.now (by simp [*])
 ·
  exact EvP.pos rfl (EvP.now (by simp))
theorem impl_EntryOk_j0 (b : Bool) (k : ByteArray) (seq kind : Int) (x : ByteArray) (n : Int) : EvP (fun q => impl_EntryOk.j0 q b k seq kind x n) (· = (!b && decide (-1000000 ≤ n) && decide (n ≤ 1000000) && kindB kind x n)) := by
 refine EvP.step (fun k => by rw [impl_EntryOk.j0]) ?_
 cases b
 ·
  refine EvP.neg (by simp) (EvP.split (fun h => (impl_EntryOk_j1 ..).mono ?_) (fun h => (impl_EntryOk_j1 ..).mono ?_))
  ·
   rintro _ rfl
   have e : decide (-1000000 ≤ n) = false := decide_eq_false (by omega)
   simp [e]
  ·
   rintro _ rfl
   have e : decide (-1000000 ≤ n) = true := decide_eq_true (by omega)
   have e2 : (!decide (n > 1000000)) = decide (n ≤ 1000000) := by rw [Bool.eq_iff_iff]; simp
   simp only [e, e2, Bool.not_false, Bool.true_and]
 ·
  exact EvP.pos rfl (EvP.now (by simp))
theorem spec_l3Sum_eq (n : Int) : spec_l3Sum.f n = some (decide (-1000000 ≤ n) && decide (n ≤ 1000000)) := by
 unfold spec_l3Sum.f
 split
 ·
  have e : decide (-1000000 ≤ n) = true := decide_eq_true (by omega)
  simp [e]
 ·
  have e : decide (-1000000 ≤ n) = false := decide_eq_false (by omega)
  simp [e]
theorem not_gt60 (x : ByteArray) : (!decide ((x.size : Int) > 60)) = decide (x.size ≤ 60) := by
 rw [Bool.eq_iff_iff]
 simp
 omega
theorem spec_EntryOk_ev (k : ByteArray) (seq kind : Int) (x : ByteArray) (n : Int) (hk : k.size ≤ 140737488351232) : EvP (fun q => spec_EntryOk.f q k seq kind x n) (· = entB k seq kind x n) := by
 unfold spec_EntryOk.f
 refine EvP.bind (spec_KeyOk_ev k hk) ?_
 rintro _ rfl
 simp only [spec_l3Sum_eq, Option.bind_some]
 cases hK : keyB k
 ·
  refine EvP.neg (by simp) ((spec_EntryOk_j0 ..).mono ?_)
  rintro _ rfl
  simp [entB, hK]
 ·
  refine EvP.pos rfl (EvP.split (fun h => (spec_EntryOk_j0 ..).mono ?_) (fun h => EvP.split (fun h => (spec_EntryOk_j0 ..).mono ?_) (fun h => EvP.split (fun h => (spec_EntryOk_j0 ..).mono ?_) (fun h => (spec_EntryOk_j0 ..).mono ?_))))
  ·
   rintro _ rfl
   have e : decide (1 ≤ seq) = false := decide_eq_false (by omega)
   simp [entB, hK, e]
  ·
   rintro _ rfl
   have e : decide (seq ≤ 100000) = false := decide_eq_false (by omega)
   simp [entB, hK, e]
  ·
   rintro _ rfl
   have e1 : decide (1 ≤ seq) = true := decide_eq_true (by omega)
   have e2 : decide (seq ≤ 100000) = true := decide_eq_true (by omega)
   simp only [Bool.and_eq_true] at h
   simp only [entB, hK, e1, e2, h.1, h.2, not_gt60, Bool.true_and, Bool.and_true]
  ·
   rintro _ rfl
   have : (decide (-1000000 ≤ n) && decide (n ≤ 1000000)) = false := by simpa using h
   have e : (decide (-1000000 ≤ n) && decide (n ≤ 1000000) && kindB kind x n) = false := by rw [this]; rfl
   simp only [entB, Bool.and_assoc] at e ⊢
   rw [e]
   simp
theorem impl_EntryOk_ev (k : ByteArray) (seq kind : Int) (x : ByteArray) (n : Int) (hk : k.size ≤ 140737488351232) : EvP (fun q => impl_EntryOk.f q k seq kind x n) (· = entB k seq kind x n) := by
 unfold impl_EntryOk.f
 refine EvP.bind (impl_KeyOk_ev k hk) ?_
 rintro _ rfl
 cases hK : keyB k
 ·
  refine EvP.neg (by simp) ((impl_EntryOk_j0 ..).mono ?_)
  rintro _ rfl
  simp [entB, hK]
 ·
  refine EvP.pos rfl (EvP.split (fun h => (impl_EntryOk_j0 ..).mono ?_) (fun h => EvP.split (fun h => (impl_EntryOk_j0 ..).mono ?_) (fun h => (impl_EntryOk_j0 ..).mono ?_)))
  ·
   rintro _ rfl
   have e : decide (1 ≤ seq) = false := decide_eq_false (by omega)
   simp [entB, hK, e]
  ·
   rintro _ rfl
   have e : decide (seq ≤ 100000) = false := decide_eq_false (by omega)
   simp [entB, hK, e]
  ·
   rintro _ rfl
   have e1 : decide (1 ≤ seq) = true := decide_eq_true (by omega)
   have e2 : decide (seq ≤ 100000) = true := decide_eq_true (by omega)
   simp only [entB, hK, e1, e2, not_gt60, Bool.true_and, Bool.and_true]

/-! ### EntryLess -/
def lessB (k1 : ByteArray) (s1 : Int) (k2 : ByteArray) (s2 : Int) : Bool := if k1.toList = k2.toList then decide (s1 > s2) else Op.bytesLess k1.toList k2.toList
theorem bytesLess_irrefl : ∀ l : List UInt8, Op.bytesLess l l = false := by
 intro l
 induction l with
 | nil => rfl
 | cons a l ih => simp [Op.bytesLess, ih]
theorem spec_EntryLess_eq (a0 : ByteArray) (a1 a2 : Int) (a3 : ByteArray) (a4 : Int) (b0 : ByteArray) (b1 b2 : Int) (b3 : ByteArray) (b4 : Int) : spec_EntryLess.f a0 a1 a2 a3 a4 b0 b1 b2 b3 b4 = some (lessB a0 a1 b0 b1) := by
 unfold spec_EntryLess.f lessB
 by_cases h : a0.toList = b0.toList
 ·
  rw [h, bytesLess_irrefl]
  simp
 ·
  cases hb : Op.bytesLess a0.toList b0.toList <;> simp [h]
theorem impl_EntryLess_eq (a0 : ByteArray) (a1 a2 : Int) (a3 : ByteArray) (a4 : Int) (b0 : ByteArray) (b1 b2 : Int) (b3 : ByteArray) (b4 : Int) : impl_EntryLess.f a0 a1 a2 a3 a4 b0 b1 b2 b3 b4 = some (lessB a0 a1 b0 b1) := by
 unfold impl_EntryLess.f lessB
 split <;> rfl
theorem bl_cons (a b : UInt8) (x y : List UInt8) : Op.bytesLess (a :: x) (b :: y) = true ↔ a.toNat < b.toNat ∨ (a = b ∧ Op.bytesLess x y = true) := by
 simp [Op.bytesLess, UInt8.lt_iff_toNat_lt]
theorem bl_trans : ∀ x y z : List UInt8, Op.bytesLess x y = true → Op.bytesLess y z = true → Op.bytesLess x z = true := by
 intro x
 induction x with
 | nil =>
  intro y z h k
  cases z with
  | nil => cases y <;> simp [Op.bytesLess] at k
  | cons c z => rfl
 | cons a x ih =>
  intro y z h k
  cases y with
  | nil => simp [Op.bytesLess] at h
  | cons b y =>
   cases z with
   | nil => simp [Op.bytesLess] at k
   | cons c z =>
    rw [bl_cons] at h k ⊢
    rcases h with h | ⟨rfl, h⟩ <;> rcases k with k | ⟨rfl, k⟩
    ·
     exact .inl (by omega)
    ·
     exact .inl h
    ·
     exact .inl k
    ·
     exact .inr ⟨rfl, ih _ _ h k⟩
theorem bl_asymm (x y : List UInt8) (h : Op.bytesLess x y = true) : Op.bytesLess y x = false := by
 cases k : Op.bytesLess y x
 ·
  rfl
 ·
  have := bl_trans _ _ _ h k
  rw [bytesLess_irrefl] at this
  cases this
theorem bl_total : ∀ x y : List UInt8, x ≠ y → Op.bytesLess x y = false → Op.bytesLess y x = true := by
 intro x
 induction x with
 | nil =>
  intro y h k
  cases y with
  | nil => exact absurd rfl h
  | cons b y => simp [Op.bytesLess] at k
 | cons a x ih =>
  intro y h k
  cases y with
  | nil => rfl
  | cons b y =>
   have k' : ¬ Op.bytesLess (a :: x) (b :: y) = true := by rw [k]; simp
   rw [bl_cons] at k' ⊢
   by_cases hab : a = b
   ·
    subst hab
    refine .inr ⟨rfl, ih y (fun e => h (by rw [e])) ?_⟩
    cases q : Op.bytesLess x y
    ·
     rfl
    ·
     exact absurd (.inr ⟨rfl, q⟩) k'
   ·
    refine .inl ?_
    have : a.toNat ≠ b.toNat := fun e => hab (UInt8.toNat.inj e)
    have : ¬ a.toNat < b.toNat := fun e => k' (.inl e)
    omega
theorem lessB_iff (k1 : ByteArray) (s1 : Int) (k2 : ByteArray) (s2 : Int) : lessB k1 s1 k2 s2 = true ↔ Op.bytesLess k1.toList k2.toList = true ∨ (k1.toList = k2.toList ∧ s2 < s1) := by
 unfold lessB
 split
 ·
  rename_i h
  rw [h, bytesLess_irrefl]
  simp
 ·
  rename_i h
  simp [h]
theorem lessB_irrefl (k : ByteArray) (s : Int) : lessB k s k s = false := by simp [lessB]
theorem lessB_trans {k1 k2 k3 : ByteArray} {s1 s2 s3 : Int} (h : lessB k1 s1 k2 s2 = true) (k : lessB k2 s2 k3 s3 = true) : lessB k1 s1 k3 s3 = true := by
 rw [lessB_iff] at h k ⊢
 rcases h with h | ⟨h, h'⟩ <;> rcases k with k | ⟨k, k'⟩
 ·
  exact .inl (bl_trans _ _ _ h k)
 ·
  exact .inl (k ▸ h)
 ·
  exact .inl (h ▸ k)
 ·
  exact .inr ⟨h.trans k, by omega⟩
theorem lessB_asymm {k1 k2 : ByteArray} {s1 s2 : Int} (h : lessB k1 s1 k2 s2 = true) : lessB k2 s2 k1 s1 = false := by
 cases k : lessB k2 s2 k1 s1
 ·
  rfl
 ·
  have := lessB_trans h k
  rw [lessB_irrefl] at this
  cases this
theorem lessB_total {k1 k2 : ByteArray} {s1 s2 : Int} (h : lessB k1 s1 k2 s2 = false) (k : lessB k2 s2 k1 s1 = false) : k1.toList = k2.toList ∧ s1 = s2 := by
 have h' : ¬ lessB k1 s1 k2 s2 = true := by rw [h]; simp
 have k' : ¬ lessB k2 s2 k1 s1 = true := by rw [k]; simp
 rw [lessB_iff] at h' k'
 by_cases e : k1.toList = k2.toList
 ·
  refine ⟨e, ?_⟩
  have a : ¬ s2 < s1 := fun x => h' (.inr ⟨e, x⟩)
  have b : ¬ s1 < s2 := fun x => k' (.inr ⟨e.symm, x⟩)
  omega
 ·
  cases q : Op.bytesLess k1.toList k2.toList
  ·
   exact absurd (.inl (bl_total _ _ e q)) k'
  ·
   exact absurd (.inl q) h'

/-! ### Entries right and in order; their marks -/
def rightFrom : Option S48 → List S48 → Bool
 | _, [] => true
 | p, x :: r => entB x.f0 x.f1 x.f2 x.f3 x.f4 && ((match p with | none => true | some y => lessB y.f0 y.f1 x.f0 x.f1) && rightFrom (some x) r)
def rightB (xs : List S48) : Bool := rightFrom none xs
def KeysSmall (xs : List S48) : Prop := ∀ x ∈ xs, x.f0.size ≤ 140737488351232
theorem last_snoc (pre : List S48) (x : S48) : (pre ++ [x]).getLast? = some x := by simp
theorem rd_prev (pre rest : List S48) (y : S48) (h : pre.getLast? = some y) (h0 : 0 < pre.length) : rd_T48 (pre ++ rest) ((pre.length : Int) - 1) = y := by
 obtain ⟨ini, rfl⟩ := List.getLast?_eq_some_iff.1 h
 have e : (((ini ++ [y]).length : Int) - 1) = (ini.length : Int) := by simp
 rw [e, List.append_assoc]
 exact rd_midE ini rest y
theorem spec_l4Right_l0 (xs : List S48) (hx : xs.length ≤ 1048576) (hk : KeysSmall xs) : ∀ (rest pre : List S48), xs = pre ++ rest → EvP (fun k => spec_l4Right.l0 k xs (pre.length : Int)) (· = rightFrom pre.getLast? rest) := by
 intro rest
 induction rest with
 | nil =>
  intro pre e
  refine EvP.step (fun k => by rw [spec_l4Right.l0]) (EvP.neg (by simp [e]) (EvP.now (by cases pre.getLast? <;> rfl)))
 | cons x rest ih =>
  intro pre e
  have hl : xs.length = pre.length + (rest.length + 1) := by rw [e]; simp
  have hr : rd_T48 xs (pre.length : Int) = x := by rw [e]; exact rd_midE pre rest x
  refine EvP.step (fun k => by rw [spec_l4Right.l0]) (EvP.pos (by omega) (EvP.pos (by omega) ?_))
  rw [hr]
  refine EvP.bind (spec_EntryOk_ev _ _ _ _ _ (hk x (by rw [e]; simp))) ?_
  rintro _ rfl
  have e2 : wrap64 ((pre.length : Int) + 1) = ((pre ++ [x]).length : Int) := by rw [w64 (by omega) (by omega)]; simp
  have step := ih (pre ++ [x]) (by rw [e]; simp)
  rw [last_snoc] at step
  refine EvP.split (fun hb => EvP.split (fun hpos => ?_) (fun hpos => ?_)) (fun hb => EvP.now ?_)
  ·
   have hp : 0 < pre.length := by omega
   obtain ⟨y, hy⟩ : ∃ y, pre.getLast? = some y := by
    cases h : pre.getLast? with
    | none => rw [List.getLast?_eq_none_iff] at h; rw [h] at hp; simp at hp
    | some y => exact ⟨y, rfl⟩
   have e3 : wrap64 ((pre.length : Int) - 1) = (pre.length : Int) - 1 := w64 (by omega) (by omega)
   have hr2 : rd_T48 xs ((pre.length : Int) - 1) = y := by rw [e]; exact rd_prev pre _ y hy hp
   rw [e3, hr2, spec_EntryLess_eq]
   simp only [Option.bind_some]
   refine EvP.pos (by omega) (EvP.pos (by omega) (EvP.split (fun hc => ?_) (fun hc => EvP.now ?_)))
   ·
    rw [e2]
    refine step.mono ?_
    rintro _ rfl
    simp [rightFrom, hb, hy, hc]
   ·
    simp [rightFrom, hy, hc]
  ·
   obtain rfl : pre = [] := List.eq_nil_of_length_eq_zero (by omega)
   rw [e2]
   refine step.mono ?_
   rintro _ rfl
   simp [rightFrom, hb]
  ·
   simp [rightFrom, hb]
theorem spec_l4Right_ev (xs : List S48) (hx : xs.length ≤ 1048576) (hk : KeysSmall xs) : EvP (fun k => spec_l4Right.f k xs) (· = rightB xs) := spec_l4Right_l0 xs hx hk xs [] rfl
theorem impl_inOrder_l0 (xs : List S48) (hx : xs.length ≤ 1048576) (hk : KeysSmall xs) : ∀ (rest pre : List S48), xs = pre ++ rest → EvP (fun k => impl_inOrder.l0 k xs xs (xs.length : Int) (pre.length : Int)) (· = rightFrom pre.getLast? rest) := by
 intro rest
 induction rest with
 | nil =>
  intro pre e
  refine EvP.step (fun k => by rw [impl_inOrder.l0]) (EvP.neg (by simp [e]) (EvP.now (by cases pre.getLast? <;> rfl)))
 | cons x rest ih =>
  intro pre e
  have hl : xs.length = pre.length + (rest.length + 1) := by rw [e]; simp
  have hr : rd_T48 xs (pre.length : Int) = x := by rw [e]; exact rd_midE pre rest x
  refine EvP.step (fun k => by rw [impl_inOrder.l0]) (EvP.pos (by omega) (EvP.pos (by omega) (EvP.pos (by omega) ?_)))
  rw [hr]
  refine EvP.bind (impl_EntryOk_ev _ _ _ _ _ (hk x (by rw [e]; simp))) ?_
  rintro _ rfl
  have e2 : wrap64 ((pre.length : Int) + 1) = ((pre ++ [x]).length : Int) := by rw [w64 (by omega) (by omega)]; simp
  have step := ih (pre ++ [x]) (by rw [e]; simp)
  rw [last_snoc] at step
  refine EvP.split (fun hb => EvP.split (fun hpos => ?_) (fun hpos => ?_)) (fun hb => EvP.now ?_)
  ·
   have hp : 0 < pre.length := by omega
   obtain ⟨y, hy⟩ : ∃ y, pre.getLast? = some y := by
    cases h : pre.getLast? with
    | none => rw [List.getLast?_eq_none_iff] at h; rw [h] at hp; simp at hp
    | some y => exact ⟨y, rfl⟩
   have e3 : wrap64 ((pre.length : Int) - 1) = (pre.length : Int) - 1 := w64 (by omega) (by omega)
   have hr2 : rd_T48 xs ((pre.length : Int) - 1) = y := by rw [e]; exact rd_prev pre _ y hy hp
   rw [e3, hr2, impl_EntryLess_eq]
   simp only [Option.bind_some]
   refine EvP.pos (by omega) (EvP.pos (by omega) (EvP.split (fun hc => ?_) (fun hc => EvP.now ?_)))
   ·
    rw [e2]
    refine step.mono ?_
    rintro _ rfl
    simp [rightFrom, hb, hy, hc]
   ·
    simp [rightFrom, hy, hc]
  ·
   obtain rfl : pre = [] := List.eq_nil_of_length_eq_zero (by omega)
   rw [e2]
   refine step.mono ?_
   rintro _ rfl
   simp [rightFrom, hb]
  ·
   simp [rightFrom, hb]
theorem impl_inOrder_ev (xs : List S48) (hx : xs.length ≤ 1048576) (hk : KeysSmall xs) : EvP (fun k => impl_inOrder.f k xs) (· = rightB xs) := impl_inOrder_l0 xs hx hk xs [] rfl
/-! ### Squashing, told in plain lists -/
def sumOk (n : Int) : Bool := decide (-1000000 ≤ n) && decide (n ≤ 1000000)
def EntP (x : S48) : Prop := x.f2 = 1 ∨ (x.f2 = 2 ∧ x.f4 = 0) ∨ x.f2 = 3
theorem entP_of {x : S48} (h : entB x.f0 x.f1 x.f2 x.f3 x.f4 = true) : EntP x := by
 unfold entB at h
 simp only [Bool.and_eq_true] at h
 have hk := h.2
 unfold kindB at hk
 unfold EntP
 split at hk
 ·
  exact .inl (by assumption)
 ·
  split at hk
  ·
   split at hk
   ·
    exact .inr (.inl ⟨by assumption, by simpa using hk⟩)
   ·
    cases hk
  ·
   split at hk
   ·
    exact .inr (.inr (by assumption))
   ·
    cases hk
theorem right_ents : ∀ (xs : List S48) (p : Option S48), rightFrom p xs = true → ∀ x ∈ xs, entB x.f0 x.f1 x.f2 x.f3 x.f4 = true
 | [], _, _, x, hx => by simp at hx
 | y :: xs, p, h, x, hx => by
  simp only [rightFrom, Bool.and_eq_true] at h
  rcases List.mem_cons.1 hx with rfl | hx
  ·
   exact h.1
  ·
   exact right_ents xs (some y) h.2.2 x hx
def joinOf : List S48 → ByteArray × Int × Int × ByteArray × Int
 | [] => (⟨#[]⟩, 0, 3, ⟨#[]⟩, 0)
 | e :: r => (e.f0, e.f1, (oneGo (e :: r) true 0).1, (oneGo (e :: r) true 0).2.1, (oneGo (e :: r) true 0).2.2)
def classB (c : List S48) (b : Bool) : List S48 := sqOne c b (joinOf c)
theorem squashClass_eq (c : List S48) (h : c ≠ []) (b : Bool) : impl_squashClass.f c b = some (classB c b) := by
 cases c with
 | nil => exact absurd rfl h
 | cons e r => rfl
theorem joinGo_one : ∀ (c : List S48) (first : Bool) (n : Int), (∀ x ∈ c, EntP x) → -9223372036854775808 ≤ n → n ≤ 9223372036854775807 → joinGo c first n = oneGo c first n
 | [], _, _, _, _, _ => rfl
 | e :: r, first, n, hp, h0, h1 => by
  rw [joinGo, oneGo]
  rcases hp e (by simp) with h | ⟨h, h'⟩ | h
  ·
   rw [if_pos h, if_neg (show ¬ e.f2 = 3 by omega), if_pos h]
  ·
   have hw : wrap64 (n + e.f4) = n := by rw [h', Int.add_zero]; exact w64 h0 h1
   rw [if_neg (show ¬ e.f2 = 1 by omega), if_pos h, if_neg (show ¬ e.f2 = 3 by omega), if_neg (show ¬ e.f2 = 1 by omega), hw]
   split <;> rfl
  ·
   have hw := w64r (n + e.f4)
   rw [if_neg (show ¬ e.f2 = 1 by omega), if_neg (show ¬ e.f2 = 2 by omega), if_pos h]
   exact joinGo_one r false _ (fun x hx => hp x (by simp [hx])) hw.1 hw.2
theorem spec_l4Join_ev (c : List S48) (hc : c ≠ []) (hx : c.length ≤ 1048576) (hp : ∀ x ∈ c, EntP x) :
  EvP (fun k => spec_l4Join.f k c) (· = ((joinOf c).1, (joinOf c).2.1, (joinOf c).2.2.1, (joinOf c).2.2.2.1, (joinOf c).2.2.2.2, sumOk (joinOf c).2.2.2.2)) := by
 cases c with
 | nil => exact absurd rfl hc
 | cons e r =>
  unfold spec_l4Join.f
  simp only [joinGo_one (e :: r) true 0 hp (by omega) (by omega), spec_l3Sum_eq, Option.bind_some]
  exact EvP.now rfl
theorem spec_l4Class_ev (c : List S48) (hc : c ≠ []) (hx : c.length ≤ 1048576) (hp : ∀ x ∈ c, EntP x) (b : Bool) : EvP (fun k => spec_l4Class.f k c b) (· = classB c b) := by
 unfold spec_l4Class.f
 refine EvP.bind (spec_l4Join_ev c hc hx hp) ?_
 rintro _ rfl
 obtain ⟨⟨j0, j1, j2, j3, j4⟩, hj⟩ : ∃ o, joinOf c = o := ⟨_, rfl⟩
 have hB : classB c b = sqOne c b (j0, j1, j2, j3, j4) := by unfold classB; rw [hj]
 rw [hB, hj]
 simp only
 by_cases hs : sumOk j4 = true
 ·
  have hlim : ¬ (j4 > 1000000 ∨ j4 < -1000000) := by
   unfold sumOk at hs
   simp only [Bool.and_eq_true, decide_eq_true_eq] at hs
   omega
  refine EvP.pos hs ?_
  unfold sqOne
  rw [if_neg hlim]
  cases b with
  | true =>
   refine EvP.pos rfl (EvP.step (fun k => by rw [spec_l4Class.j0]) ?_)
   by_cases h2 : j2 = 2
   ·
    exact EvP.pos (by simp [h2]) (EvP.now (by simp [h2]))
   ·
    refine EvP.neg (by simp [h2]) (EvP.pos rfl (EvP.split (fun h3 => EvP.now ?_) (fun h3 => EvP.now ?_)))
    ·
     simp [h2, h3]
    ·
     simp [h2, h3]
  | false =>
   refine EvP.neg (by simp) (EvP.step (fun k => by rw [spec_l4Class.j0]) (EvP.neg (by simp) (EvP.neg (by simp) (EvP.now ?_))))
   simp
 ·
  have hlim : j4 > 1000000 ∨ j4 < -1000000 := by
   unfold sumOk at hs
   simp only [Bool.and_eq_true, decide_eq_true_eq] at hs
   omega
  refine EvP.neg hs ?_
  unfold sqOne
  rw [if_pos hlim]
  simp only [Option.bind_some, List.nil_append, List.length_nil]
  exact EvP.pos (by omega) (EvP.now rfl)
def partsB : List (List S48) → Bool → List (List S48) × Bool
 | [], b => ([], b)
 | c :: cs, b => (classB c (partsB cs b).2 :: (partsB cs b).1, (partsB cs b).2 && decide ((classB c (partsB cs b).2).length = 0))
theorem sqParts_eq : ∀ (cs : List (List S48)), (∀ c ∈ cs, c ≠ []) → ∀ b, sqParts cs b = some (partsB cs b)
 | [], _, _ => rfl
 | c :: cs, h, b => by
  unfold sqParts
  rw [sqParts_eq cs (fun x hx => h x (by simp [hx])) b, Option.bind_some, squashClass_eq c (h c (by simp))]
  rfl
theorem classB_len {c : List S48} (h : c ≠ []) (b : Bool) : (classB c b).length ≤ c.length := by
 have h1 : 1 ≤ c.length := by cases c with | nil => exact absurd rfl h | cons => simp
 unfold classB sqOne
 split
 ·
  exact Nat.le_refl _
 ·
  split
  ·
   simp
  ·
   simpa using h1
theorem partsB_len : ∀ (cs : List (List S48)), (∀ c ∈ cs, c ≠ []) → ∀ b, (partsB cs b).1.flatten.length ≤ cs.flatten.length
 | [], _, _ => Nat.le_refl _
 | c :: cs, h, b => by
  have h1 := classB_len (h c (by simp)) (partsB cs b).2
  have h2 := partsB_len cs (fun x hx => h x (by simp [hx])) b
  simp only [partsB, List.flatten_cons, List.length_append]
  omega
theorem flat_drop (cs : List (List S48)) (m : Nat) : (cs.drop m).flatten.length ≤ cs.flatten.length := by
 have h := congrArg List.length (congrArg List.flatten (List.take_append_drop m cs))
 rw [List.flatten_append, List.length_append] at h
 omega
theorem spec_l4Left_l0 (cs : List (List S48)) (hc : ∀ c ∈ cs, c ≠ [] ∧ c.length ≤ 1048576 ∧ ∀ x ∈ c, EntP x) (hn : cs.length ≤ 1048576) (hf : cs.flatten.length ≤ 1048576) (b : Bool) : ∀ m : Nat, m ≤ cs.length →
  EvP (fun k => spec_l4Left.l0 k cs (partsB (cs.drop m) b).2 (partsB (cs.drop m) b).1.flatten ((m : Int) - 1)) (· = (partsB cs b).1.flatten) := by
 intro m
 induction m with
 | zero =>
  intro _
  exact EvP.step (g := fun k => spec_l4Left.l0 k cs (partsB (cs.drop 0) b).2 (partsB (cs.drop 0) b).1.flatten (((0 : Nat) : Int) - 1)) (f := fun _ => some (partsB (cs.drop 0) b).1.flatten) (fun k => by rw [spec_l4Left.l0, if_neg (by omega)]) (EvP.now rfl)
 | succ m ih =>
  intro hm
  have hr : rd_L3 cs ((m : Nat) : Int) = cs[m] := by simp [rd_L3, List.getD_eq_getElem?_getD, List.getElem?_eq_getElem (show m < cs.length by omega)]
  have hd : cs.drop m = cs[m] :: cs.drop (m + 1) := List.drop_eq_getElem_cons (by omega)
  obtain ⟨h1, h2, h3⟩ := hc cs[m] (List.getElem_mem _)
  have e1 : ((m + 1 : Nat) : Int) - 1 = (m : Int) := by omega
  have step := ih (by omega)
  rw [hd] at step
  simp only [partsB] at step
  have hl1 := classB_len h1 (partsB (cs.drop (m + 1)) b).2
  have hl2 := partsB_len (cs.drop (m + 1)) (fun x hx => (hc x (List.mem_of_mem_drop hx)).1) b
  have hl3 := flat_drop cs (m + 1)
  rw [e1]
  refine EvP.step (fun k => by rw [spec_l4Left.l0]) (EvP.pos (by omega) (EvP.pos (by omega) (EvP.pos (by omega) ?_)))
  rw [hr]
  refine EvP.bind (spec_l4Class_ev _ h1 h2 h3 _) ?_
  rintro _ rfl
  have e2 : wrap64 ((m : Int) - 1) = (m : Int) - 1 := w64 (by omega) (by omega)
  simp only [Option.bind_some, List.nil_append, List.length_nil, e2]
  refine EvP.split (fun hpos => EvP.pos (by omega) (EvP.pos (by omega) ?_)) (fun hneg => EvP.pos (by omega) (EvP.pos (by omega) ?_))
  ·
   have hb : ((partsB (cs.drop (m + 1)) b).2 && decide ((classB cs[m] (partsB (cs.drop (m + 1)) b).2).length = 0)) = false := by
    rw [decide_eq_false (by omega), Bool.and_false]
   rw [hb] at step
   exact step
  ·
   have hb : ((partsB (cs.drop (m + 1)) b).2 && decide ((classB cs[m] (partsB (cs.drop (m + 1)) b).2).length = 0)) = (partsB (cs.drop (m + 1)) b).2 := by
    rw [decide_eq_true (by omega), Bool.and_true]
   rw [hb] at step
   exact step
theorem spec_l4Left_ev (cs : List (List S48)) (hc : ∀ c ∈ cs, c ≠ [] ∧ c.length ≤ 1048576 ∧ ∀ x ∈ c, EntP x) (hn : cs.length ≤ 1048576) (hf : cs.flatten.length ≤ 1048576) (b : Bool) : EvP (fun k => spec_l4Left.f k cs b) (· = (partsB cs b).1.flatten) := by
 have h := spec_l4Left_l0 cs hc hn hf b cs.length (Nat.le_refl _)
 rw [List.drop_length] at h
 unfold spec_l4Left.f
 rw [w64 (by omega) (by omega)]
 exact h
theorem spec_l4Apart_ev (snaps : List Int) (hs : snaps.length ≤ 1048576) (x y : S48) : EvP (fun k => spec_l4Apart.f k snaps y.f1 x.f1) (· = partedB x y snaps) := by
 have key : ∀ (rest pre : List Int), snaps = pre ++ rest → EvP (fun k => spec_l4Apart.l0 k snaps y.f1 x.f1 (pre.length : Int)) (· = partedB x y rest) := by
  intro rest
  induction rest with
  | nil =>
   intro pre e
   exact EvP.step (f := fun _ => some false) (fun k => by rw [spec_l4Apart.l0, if_neg (by simp [e])]) (EvP.now rfl)
  | cons s rest ih =>
   intro pre e
   have hl : snaps.length = pre.length + (rest.length + 1) := by rw [e]; simp
   have hr : rd snaps (pre.length : Int) = s := by rw [e]; simp [rd]
   have e2 : wrap64 ((pre.length : Int) + 1) = ((pre ++ [s]).length : Int) := by rw [w64 (by omega) (by omega)]; simp
   have step := ih (pre ++ [s]) (by rw [e]; simp)
   refine EvP.step (fun k => by rw [spec_l4Apart.l0]) (EvP.pos (by omega) (EvP.pos (by omega) ?_))
   rw [hr, e2]
   refine EvP.split (fun h1 => EvP.split (fun h2 => EvP.now ?_) (fun h2 => step.mono ?_)) (fun h1 => step.mono ?_)
   ·
    simp [partedB, h1, h2]
   ·
    rintro _ rfl
    simp [partedB, h2]
   ·
    rintro _ rfl
    simp [partedB, h1]
 exact key snaps [] rfl
theorem spec_l4Classes_l1 (xs : List S48) (snaps : List Int) (hx : xs.length ≤ 1048576) (hs : snaps.length ≤ 1048576) : ∀ (f s i : Nat) (acc : List (List S48)), i + f = xs.length + 1 → s < i → i ≤ xs.length → acc.length ≤ s →
  EvP (fun k => spec_l4Classes.l1 k xs snaps acc (s : Int) (i : Int)) (· = acc ++ (cutAt (apAt xs snaps) xs.length f s i).map (clsL xs)) := by
 intro f
 induction f with
 | zero => intro s i acc h1 h2 h3; omega
 | succ f ih =>
  intro s i acc h1 h2 h3 ha
  have e1 : wrap64 ((i : Int) - 1) = (i : Int) - 1 := w64 (by omega) (by omega)
  have e2 : wrap64 ((i : Int) + 1) = ((i + 1 : Nat) : Int) := by rw [w64 (by omega) (by omega)]; omega
  have hcut : EvP (fun k => spec_l4Classes.l0 k xs snaps (acc ++ [clsL xs (s, i)]) (i : Int)) (· = acc ++ (clsL xs (s, i) :: (cutAt (apAt xs snaps) xs.length f i (i + 1)).map (clsL xs))) := by
   refine EvP.step (fun k => by rw [spec_l4Classes.l0]) (EvP.split (fun hi => ?_) (fun hi => EvP.now ?_))
   ·
    rw [e2]
    refine (ih i (i + 1) (acc ++ [clsL xs (s, i)]) (by omega) (by omega) (by omega) (by simp; omega)).mono ?_
    rintro _ rfl
    simp
   ·
    obtain rfl : f = 0 := by omega
    simp [cutAt]
  have hsl : ((xs.take ((i : Int)).toNat).drop ((s : Int)).toNat) = clsL xs (s, i) := by rw [Int.toNat_natCast, Int.toNat_natCast]; rfl
  refine EvP.step (fun k => by rw [spec_l4Classes.l1]) (EvP.split (fun hi => ?_) (fun hi => ?_))
  ·
   rw [e1]
   refine EvP.pos (by omega) (EvP.pos (by omega) (EvP.pos (by omega) ?_))
   refine EvP.bind (spec_l4Apart_ev snaps hs (rd_T48 xs ((i : Int) - 1)) (rd_T48 xs (i : Int))) ?_
   rintro _ rfl
   refine EvP.split (fun hap => ?_) (fun hap => ?_)
   ·
    rw [hsl]
    refine EvP.pos (by omega) (EvP.pos (by omega) (EvP.pos (by omega) (EvP.pos (by omega) (hcut.mono ?_))))
    rintro _ rfl
    rw [cutAt_cut (fun h => by have h' : apAt xs snaps i = true := hap; rw [h'] at h; cases h.2)]
    rfl
   ·
    rw [e2]
    refine (ih s (i + 1) acc (by omega) (by omega) (by omega) ha).mono ?_
    rintro _ rfl
    rw [cutAt_on (by omega) (show apAt xs snaps i = false from Bool.eq_false_iff.2 hap)]
  ·
   rw [hsl]
   refine EvP.pos (by omega) (EvP.pos (by omega) (EvP.pos (by omega) (EvP.pos (by omega) (hcut.mono ?_))))
   rintro _ rfl
   rw [cutAt_cut (fun h => by omega)]
   rfl
theorem spec_l4Classes_ev (xs : List S48) (snaps : List Int) (hx : xs.length ≤ 1048576) (hs : snaps.length ≤ 1048576) : EvP (fun k => spec_l4Classes.f k xs snaps) (· = classesL xs snaps) := by
 unfold spec_l4Classes.f classesL classCuts
 refine EvP.step (fun k => by rw [spec_l4Classes.l0]) (EvP.split (fun h => ?_) (fun h => EvP.now ?_))
 ·
  have := spec_l4Classes_l1 xs snaps hx hs xs.length 0 1 [] (by omega) (by omega) (by omega) (by simp)
  rw [List.nil_append] at this
  rw [show wrap64 (0 + 1) = ((1 : Nat) : Int) from (w64 (by omega) (by omega)).trans (by omega)]
  exact this
 ·
  have : xs.length = 0 := by omega
  rw [this]
  rfl
theorem cut_flat (ap : Nat → Bool) (xs : List S48) : ∀ f s i, i + f = xs.length + 1 → s < i → i ≤ xs.length → ((cutAt ap xs.length f s i).map (clsL xs)).flatten = xs.drop s := by
 intro f
 induction f with
 | zero => intro s i h1 h2 h3; omega
 | succ f ih =>
  intro s i h1 h2 h3
  rw [cutAt]
  split
  ·
   exact ih s (i + 1) (by omega) (by omega) (by omega)
  ·
   rw [List.map_cons, List.flatten_cons]
   have hsplit : xs.drop s = clsL xs (s, i) ++ xs.drop i := by
    have h := congrArg (List.drop s) (List.take_append_drop i xs)
    rw [List.drop_append] at h
    rw [← h]
    unfold clsL
    congr 1
    rw [List.length_take, show s - min i xs.length = 0 by omega]
    rfl
   by_cases hi : i < xs.length
   ·
    rw [ih i (i + 1) (by omega) (by omega) (by omega), hsplit]
   ·
    obtain rfl : f = 0 := by omega
    rw [hsplit, List.drop_eq_nil_of_le (by omega)]
    simp [cutAt]
theorem classesL_flat (xs : List S48) (snaps : List Int) : (classesL xs snaps).flatten = xs := by
 unfold classesL classCuts
 cases h : xs.length with
 | zero => rw [List.eq_nil_of_length_eq_zero h]; rfl
 | succ n =>
  have := cut_flat (apAt xs snaps) xs xs.length 0 1 (by omega) (by omega) (by omega)
  rw [← h]
  exact this
theorem classesL_ne (xs : List S48) (snaps : List Int) : ∀ c ∈ classesL xs snaps, c ≠ [] ∧ ∀ x ∈ c, x ∈ xs := by
 intro c hc
 obtain ⟨p, hp, rfl⟩ := List.mem_map.1 hc
 have hb := classCuts_bound xs snaps p hp
 have hl := clsL_length hb.1 hb.2
 exact ⟨fun e => by rw [e] at hl; simp at hl; omega, fun x hx => List.mem_of_mem_take (List.mem_of_mem_drop hx)⟩
theorem classesL_len (xs : List S48) (snaps : List Int) : ∀ c ∈ classesL xs snaps, c.length ≤ xs.length := by
 intro c hc
 obtain ⟨p, hp, rfl⟩ := List.mem_map.1 hc
 have hb := classCuts_bound xs snaps p hp
 have hl := clsL_length hb.1 hb.2
 omega
def keyL (xs : List S48) (snaps : List Int) (b : Bool) : List S48 := (partsB (classesL xs snaps) b).1.flatten
theorem keyL_len (xs : List S48) (snaps : List Int) (b : Bool) : (keyL xs snaps b).length ≤ xs.length := by
 have h := partsB_len (classesL xs snaps) (fun c hc => (classesL_ne xs snaps c hc).1) b
 rw [classesL_flat] at h
 exact h
theorem squashKey_eq (xs : List S48) (snaps : List Int) (b : Bool) (hx : xs.length ≤ 1048576) : impl_squashKey.f xs snaps b = some (keyL xs snaps b) := by
 have h := keyL_len xs snaps b
 unfold impl_squashKey.f
 rw [if_pos (by omega), sqParts_eq _ (fun c hc => (classesL_ne xs snaps c hc).1), Option.bind_some]
 unfold keyL at h
 rw [if_pos (by omega)]
 rfl
theorem spec_key_ev (xs : List S48) (snaps : List Int) (b : Bool) (hx : xs.length ≤ 1048576) (hs : snaps.length ≤ 1048576) (hp : ∀ x ∈ xs, EntP x) : EvP (fun k => spec_l4Left.f k (classesL xs snaps) b) (· = keyL xs snaps b) := by
 refine spec_l4Left_ev _ (fun c hc => ⟨(classesL_ne xs snaps c hc).1, Nat.le_trans (classesL_len xs snaps c hc) hx, fun x hx' => hp x ((classesL_ne xs snaps c hc).2 x hx')⟩) ?_ (by rw [classesL_flat]; exact hx) b
 unfold classesL
 rw [List.length_map]
 exact Nat.le_trans (classCuts_len xs snaps) hx
/-- Where the entries of one key begin and end. -/
def grpAt (xs : List S48) : Nat → Nat → Nat → List (Nat × Nat)
 | 0, _, _ => []
 | f + 1, s, i => if i < xs.length ∧ (rd_T48 xs (i : Int)).f0.toList = (rd_T48 xs (s : Int)).f0.toList then grpAt xs f s (i + 1) else (s, i) :: grpAt xs f i (i + 1)
def grpL (xs : List S48) (snaps : List Int) (b : Bool) (ps : List (Nat × Nat)) : List S48 := (ps.map fun p => keyL (clsL xs p) snaps b).flatten
def squashB (xs : List S48) (snaps : List Int) (b : Bool) : List S48 := grpL xs snaps b (grpAt xs xs.length 0 1)
def sqB (xs : List S48) (snaps : List Int) (b : Bool) : List S48 := if rightB xs = true then squashB xs snaps b else []
theorem clsL_sub {xs : List S48} {p : Nat × Nat} : ∀ x ∈ clsL xs p, x ∈ xs := fun x hx => List.mem_of_mem_take (List.mem_of_mem_drop hx)
theorem spec_Squash_l1 (xs : List S48) (snaps : List Int) (b : Bool) (hx : xs.length ≤ 1048576) (hs : snaps.length ≤ 1048576) (hp : ∀ x ∈ xs, EntP x) : ∀ (f s i : Nat) (acc : List S48), i + f = xs.length + 1 → s < i → i ≤ xs.length → acc.length ≤ s →
  EvP (fun k => spec_Squash.l1 k xs snaps b acc (s : Int) (i : Int)) (· = acc ++ grpL xs snaps b (grpAt xs f s i)) := by
 intro f
 induction f with
 | zero => intro s i acc h1 h2 h3; omega
 | succ f ih =>
  intro s i acc h1 h2 h3 ha
  have e2 : wrap64 ((i : Int) + 1) = ((i + 1 : Nat) : Int) := by rw [w64 (by omega) (by omega)]; omega
  have hcl : (clsL xs (s, i)).length = i - s := clsL_length h2 h3
  have hk := keyL_len (clsL xs (s, i)) snaps b
  have hcut : EvP (fun k => spec_Squash.l0 k xs snaps b (acc ++ keyL (clsL xs (s, i)) snaps b) (i : Int)) (· = acc ++ grpL xs snaps b ((s, i) :: grpAt xs f i (i + 1))) := by
   refine EvP.step (fun k => by rw [spec_Squash.l0]) (EvP.split (fun hi => ?_) (fun hi => EvP.now ?_))
   ·
    rw [e2]
    refine (ih i (i + 1) _ (by omega) (by omega) (by omega) (by rw [List.length_append]; omega)).mono ?_
    rintro _ rfl
    simp [grpL]
   ·
    obtain rfl : f = 0 := by omega
    simp [grpAt, grpL]
  have hsl : ((xs.take ((i : Int)).toNat).drop ((s : Int)).toNat) = clsL xs (s, i) := by rw [Int.toNat_natCast, Int.toNat_natCast]; rfl
  have hend : EvP (fun k => (spec_l4Classes.f k (clsL xs (s, i)) snaps).bind fun t => (spec_l4Left.f k t b).bind fun t2 => (if acc.length + t2.length < 2513169434916 then (spec_Squash.l0 k xs snaps b (acc ++ t2) (i : Int)) else (none))) (· = acc ++ grpL xs snaps b ((s, i) :: grpAt xs f i (i + 1))) := by
   refine EvP.bind (spec_l4Classes_ev _ snaps (by omega) hs) ?_
   rintro _ rfl
   refine EvP.bind (spec_key_ev _ snaps b (by omega) hs (fun x hx' => hp x (clsL_sub x hx'))) ?_
   rintro _ rfl
   exact EvP.pos (by omega) hcut
  refine EvP.step (fun k => by rw [spec_Squash.l1]) (EvP.split (fun hi => ?_) (fun hi => ?_))
  ·
   refine EvP.pos (by omega) (EvP.pos (by omega) (EvP.pos (by omega) (EvP.split (fun hq => ?_) (fun hq => ?_))))
   ·
    rw [e2]
    refine (ih s (i + 1) acc (by omega) (by omega) (by omega) ha).mono ?_
    rintro _ rfl
    rw [grpAt, if_pos ⟨by omega, hq⟩]
   ·
    rw [hsl]
    refine EvP.pos (by omega) (EvP.pos (by omega) (hend.mono ?_))
    rintro _ rfl
    rw [grpAt, if_neg (fun h => hq h.2)]
  ·
   rw [hsl]
   refine EvP.pos (by omega) (EvP.pos (by omega) (EvP.pos (by omega) (hend.mono ?_)))
   rintro _ rfl
   rw [grpAt, if_neg (fun h => hi (by have := h.1; omega))]
theorem impl_Squash_l1 (xs : List S48) (snaps : List Int) (b : Bool) (hx : xs.length ≤ 1048576) : ∀ (f s i : Nat) (acc : List S48), i + f = xs.length + 1 → s < i → i ≤ xs.length → acc.length ≤ s →
  EvP (fun k => impl_Squash.l1 k xs snaps b acc (s : Int) (i : Int)) (· = acc ++ grpL xs snaps b (grpAt xs f s i)) := by
 intro f
 induction f with
 | zero => intro s i acc h1 h2 h3; omega
 | succ f ih =>
  intro s i acc h1 h2 h3 ha
  have e2 : wrap64 ((i : Int) + 1) = ((i + 1 : Nat) : Int) := by rw [w64 (by omega) (by omega)]; omega
  have hcl : (clsL xs (s, i)).length = i - s := clsL_length h2 h3
  have hk := keyL_len (clsL xs (s, i)) snaps b
  have hcut : EvP (fun k => impl_Squash.l0 k xs snaps b (acc ++ keyL (clsL xs (s, i)) snaps b) (i : Int)) (· = acc ++ grpL xs snaps b ((s, i) :: grpAt xs f i (i + 1))) := by
   refine EvP.step (fun k => by rw [impl_Squash.l0]) (EvP.split (fun hi => ?_) (fun hi => EvP.now ?_))
   ·
    rw [e2]
    refine (ih i (i + 1) _ (by omega) (by omega) (by omega) (by rw [List.length_append]; omega)).mono ?_
    rintro _ rfl
    simp [grpL]
   ·
    obtain rfl : f = 0 := by omega
    simp [grpAt, grpL]
  have hsl : ((xs.take ((i : Int)).toNat).drop ((s : Int)).toNat) = clsL xs (s, i) := by rw [Int.toNat_natCast, Int.toNat_natCast]; rfl
  refine EvP.step (fun k => by rw [impl_Squash.l1]) (EvP.split (fun hi => ?_) (fun hi => ?_))
  ·
   refine EvP.pos (by omega) (EvP.pos (by omega) (EvP.pos (by omega) (EvP.split (fun hq => ?_) (fun hq => ?_))))
   ·
    rw [e2]
    refine (ih s (i + 1) acc (by omega) (by omega) (by omega) ha).mono ?_
    rintro _ rfl
    rw [grpAt, if_pos ⟨by omega, hq⟩]
   ·
    rw [hsl, squashKey_eq _ snaps b (by omega)]
    simp only [Option.bind_some]
    refine EvP.pos (by omega) (EvP.pos (by omega) (EvP.pos (by omega) (hcut.mono ?_)))
    rintro _ rfl
    rw [grpAt, if_neg (fun h => hq h.2)]
  ·
   rw [hsl, squashKey_eq _ snaps b (by omega)]
   simp only [Option.bind_some]
   refine EvP.pos (by omega) (EvP.pos (by omega) (EvP.pos (by omega) (EvP.pos (by omega) (hcut.mono ?_))))
   rintro _ rfl
   rw [grpAt, if_neg (fun h => hi (by have := h.1; omega))]
theorem spec_Squash_ev (xs : List S48) (snaps : List Int) (b : Bool) (hx : xs.length ≤ 1048576) (hs : snaps.length ≤ 1048576) (hk : KeysSmall xs) : EvP (fun k => spec_Squash.f k xs snaps b) (· = sqB xs snaps b) := by
 unfold spec_Squash.f sqB
 simp only [Option.bind_some]
 refine EvP.bind (spec_l4Right_ev xs hx hk) ?_
 rintro _ rfl
 refine EvP.split (fun hr => ?_) (fun hr => EvP.now (by rw [if_neg hr]))
 rw [if_pos hr]
 refine EvP.step (fun k => by rw [spec_Squash.l0]) (EvP.split (fun h => ?_) (fun h => EvP.now ?_))
 ·
  have := spec_Squash_l1 xs snaps b hx hs (fun x hx' => entP_of (right_ents xs none hr x hx')) xs.length 0 1 [] (by omega) (by omega) (by omega) (by simp)
  rw [List.nil_append] at this
  rw [show wrap64 (0 + 1) = ((1 : Nat) : Int) from (w64 (by omega) (by omega)).trans (by omega)]
  exact this
 ·
  have : xs = [] := List.eq_nil_of_length_eq_zero (by omega)
  subst this
  rfl
theorem impl_Squash_ev (xs : List S48) (snaps : List Int) (b : Bool) (hx : xs.length ≤ 1048576) (hk : KeysSmall xs) : EvP (fun k => impl_Squash.f k xs snaps b) (· = sqB xs snaps b) := by
 unfold impl_Squash.f sqB
 refine EvP.bind (impl_inOrder_ev xs hx hk) ?_
 rintro _ rfl
 refine EvP.split (fun hr => ?_) (fun hr => EvP.now (by rw [if_neg hr]))
 rw [if_pos hr]
 refine EvP.step (fun k => by rw [impl_Squash.l0]) (EvP.split (fun h => ?_) (fun h => EvP.now ?_))
 ·
  have := impl_Squash_l1 xs snaps b hx xs.length 0 1 [] (by omega) (by omega) (by omega) (by simp)
  rw [List.nil_append] at this
  rw [show wrap64 (0 + 1) = ((1 : Nat) : Int) from (w64 (by omega) (by omega)).trans (by omega)]
  exact this
 ·
  have : xs = [] := List.eq_nil_of_length_eq_zero (by omega)
  subst this
  rfl
theorem grpL_len (xs : List S48) (snaps : List Int) (b : Bool) : ∀ f s i, i + f = xs.length + 1 → s < i → i ≤ xs.length → (grpL xs snaps b (grpAt xs f s i)).length ≤ xs.length - s := by
 intro f
 induction f with
 | zero => intro s i h1 h2 h3; omega
 | succ f ih =>
  intro s i h1 h2 h3
  rw [grpAt]
  split
  ·
   rename_i h
   exact ih s (i + 1) (by omega) (by omega) (by omega)
  ·
   have hk := keyL_len (clsL xs (s, i)) snaps b
   have hc : (clsL xs (s, i)).length = i - s := clsL_length h2 h3
   have e : (grpL xs snaps b ((s, i) :: grpAt xs f i (i + 1))).length = (keyL (clsL xs (s, i)) snaps b).length + (grpL xs snaps b (grpAt xs f i (i + 1))).length := by simp [grpL]
   rw [e]
   by_cases hi : i < xs.length
   ·
    have := ih i (i + 1) (by omega) (by omega) (by omega)
    omega
   ·
    obtain rfl : f = 0 := by omega
    have e0 : (grpL xs snaps b (grpAt xs 0 i (i + 1))).length = 0 := by simp [grpAt, grpL]
    omega
theorem sqB_len (xs : List S48) (snaps : List Int) (b : Bool) : (sqB xs snaps b).length ≤ xs.length := by
 unfold sqB
 split
 ·
  unfold squashB
  cases h : xs.length with
  | zero => simp [grpAt, grpL]
  | succ n =>
   have := grpL_len xs snaps b xs.length 0 1 (by omega) (by omega) (by omega)
   rw [h] at this
   exact this
 ·
  simp

/-! ### The reader of draws -/
/-- Bytes, at most 2000 of them. -/
structure Bytes (l : List Int) : Prop where
 len : l.length ≤ 2000
 lo : ∀ j, 0 ≤ rd l j
 hi : ∀ j, rd l j ≤ 255
theorem rd_range {l : List Int} (h : ∀ x ∈ l, 0 ≤ x ∧ x ≤ 255) (j : Int) : 0 ≤ rd l j ∧ rd l j ≤ 255 := by
 unfold rd
 rw [List.getD_eq_getElem?_getD]
 rcases Nat.lt_or_ge j.toNat l.length with hj | hj
 ·
  rw [List.getElem?_eq_getElem hj]
  exact h _ (List.getElem_mem hj)
 ·
  rw [List.getElem?_eq_none hj]
  simp
theorem u8_range {l : List Int} (h : ∀ x ∈ l, (Lit.int .u8 x).wf = true) : ∀ x ∈ l, 0 ≤ x ∧ x ≤ 255 := by
 intro x hx
 have := h x hx
 simp [Lit.wf, IntKind.min, IntKind.max, IntKind.signed, IntKind.bits] at this
 omega
theorem spec_l9Open_ev (l : List Int) (h : ∀ x ∈ l, (Lit.int .u8 x).wf = true) : EvP (fun _ => spec_l9Open.f l) (fun r => Bytes r.1 ∧ r.2 = 0) := by
 unfold spec_l9Open.f
 have hu := u8_range h
 refine EvP.split (fun h1 => EvP.pos (by omega) (EvP.now ⟨⟨?_, fun j => ?_, fun j => ?_⟩, rfl⟩)) (fun h1 => EvP.now ⟨⟨?_, fun j => ?_, fun j => ?_⟩, rfl⟩)
 ·
  simp; omega
 ·
  exact (rd_range (fun x hx => hu x (List.mem_of_mem_take hx)) j).1
 ·
  exact (rd_range (fun x hx => hu x (List.mem_of_mem_take hx)) j).2
 ·
  show l.length ≤ 2000
  omega
 ·
  exact (rd_range hu j).1
 ·
  exact (rd_range hu j).2
theorem xor_nonneg (x y : Int) (h0 : 0 ≤ x) (h1 : x < 2 ^ 62) (h2 : 0 ≤ y) (h3 : y < 2 ^ 62) : 0 ≤ bits .xor .i64 x y := by
 obtain ⟨a, rfl⟩ := Int.eq_ofNat_of_zero_le h0
 obtain ⟨b, rfl⟩ := Int.eq_ofNat_of_zero_le h2
 rw [xor64 a b (by omega) (by omega)]
 exact Int.natCast_nonneg _
/-- What a pick gives: one place on; a number below n, or 0. -/
def Picked (p n : Int) (r : Int × Int) : Prop := r.2 = p + 1 ∧ 0 ≤ r.1 ∧ (1 ≤ n → r.1 < n) ∧ (n < 1 → r.1 = 0)
theorem picked_mod {p n x : Int} (hn : ¬ n < 1) (hx : 0 ≤ x) : Picked p n (Int.tmod x n, p + 1) :=
 ⟨rfl, Int.tmod_nonneg _ hx, fun _ => Int.tmod_lt_of_pos _ (by omega), fun h => absurd h hn⟩
theorem spec_l9Rd_pick_ev (l : List Int) (hl : Bytes l) (p n : Int) (h0 : 0 ≤ p) (h1 : p ≤ 1000000000000) : EvP (fun k => spec_l9Rd_pick.f k l p n) (Picked p n) := by
 unfold spec_l9Rd_pick.f
 have e1 : wrap64 (p + 1) = p + 1 := w64 (by omega) (by omega)
 have e2 : wrap64 (p + 1 - 1) = p := by rw [w64 (by omega) (by omega)]; omega
 rw [e1]
 refine EvP.split (fun h => ?_) (fun hn => ?_)
 ·
  refine EvP.step (fun k => by rw [spec_l9Rd_pick.j0]) (EvP.pos rfl (EvP.now ?_))
  exact ⟨rfl, Int.le_refl _, fun h' => absurd h (by omega), fun _ => rfl⟩
 ·
  refine EvP.step (fun k => by rw [spec_l9Rd_pick.j0]) (EvP.split (fun h => EvP.now ?_) (fun hz => ?_))
  ·
   exact ⟨rfl, Int.le_refl _, fun h' => by show (0 : Int) < n; omega, fun _ => rfl⟩
  ·
   have hz' : ¬ (l.length : Int) = 0 := fun h => hz (by simp [h])
   have hpos : 0 < (l.length : Int) := by omega
   have hlen : (l.length : Int) ≤ 2000 := by have := hl.len; omega
   rw [e2]
   refine EvP.split (fun h => EvP.pos h0 (EvP.neg (by omega) (EvP.now ?_))) (fun h => EvP.neg hz' ?_)
   ·
    have := hl.lo p
    have := hl.hi p
    rw [w64 (by omega) (by omega)]
    exact picked_mod hn (by omega)
   ·
    have a0 : 0 ≤ Int.tmod p (l.length : Int) := Int.tmod_nonneg _ h0
    have a1 : Int.tmod p (l.length : Int) < (l.length : Int) := Int.tmod_lt_of_pos _ hpos
    have e7 : wrap64 (wrap64 (p * 7) + 3) = p * 7 + 3 := by rw [w64 (x := p * 7) (by omega) (by omega), w64 (by omega) (by omega)]
    have c0 : 0 ≤ Int.tmod (p * 7 + 3) (l.length : Int) := Int.tmod_nonneg _ (by omega)
    have c1 : Int.tmod (p * 7 + 3) (l.length : Int) < (l.length : Int) := Int.tmod_lt_of_pos _ hpos
    rw [e7]
    refine EvP.pos a0 (EvP.pos a1 (EvP.pos c0 (EvP.pos c1 (EvP.neg (by omega) (EvP.now ?_)))))
    have b0 := hl.lo (Int.tmod p (l.length : Int))
    have b1 := hl.hi (Int.tmod p (l.length : Int))
    have d0 := hl.lo (Int.tmod (p * 7 + 3) (l.length : Int))
    have d1 := hl.hi (Int.tmod (p * 7 + 3) (l.length : Int))
    have q0 : 0 ≤ Int.tdiv p (l.length : Int) := Int.tdiv_nonneg h0 (by omega)
    have q1 : Int.tdiv p (l.length : Int) ≤ p := by
     rw [Int.tdiv_eq_ediv_of_nonneg h0]
     exact Int.ediv_le_self _ h0
    refine picked_mod hn ?_
    generalize Int.tdiv p (l.length : Int) = q at q0 q1 ⊢
    generalize rd l (Int.tmod p (l.length : Int)) = b at b0 b1 ⊢
    generalize rd l (Int.tmod (p * 7 + 3) (l.length : Int)) = d at d0 d1 ⊢
    have f1 : wrap64 b = b := w64 (by omega) (by omega)
    have f2 : wrap64 d = d := w64 (by omega) (by omega)
    have f3 : wrap64 q = q := w64 (by omega) (by omega)
    have f4 : wrap64 (b * 131) = b * 131 := w64 (by omega) (by omega)
    have f5 : wrap64 (d * 1117) = d * 1117 := w64 (by omega) (by omega)
    have f6 : wrap64 (p * 29) = p * 29 := w64 (by omega) (by omega)
    have f7 : wrap64 (q * 53) = q * 53 := w64 (by omega) (by omega)
    have f8 : wrap64 (b * 131 + d * 1117) = b * 131 + d * 1117 := w64 (by omega) (by omega)
    have f9 : wrap64 (b * 131 + d * 1117 + p * 29) = b * 131 + d * 1117 + p * 29 := w64 (by omega) (by omega)
    have f10 : wrap64 (b * 131 + d * 1117 + p * 29 + q * 53) = b * 131 + d * 1117 + p * 29 + q * 53 := w64 (by omega) (by omega)
    rw [f1, f2, f3, f4, f5, f6, f7, f8, f9, f10]
    have g0 : 0 ≤ b * 131 + d * 1117 + p * 29 + q * 53 := by omega
    have g1 : b * 131 + d * 1117 + p * 29 + q * 53 < 2 ^ 62 := by omega
    generalize b * 131 + d * 1117 + p * 29 + q * 53 = x at g0 g1 ⊢
    have g2 : Int.tdiv x 64 = x / 64 := Int.tdiv_eq_ediv_of_nonneg g0
    rw [g2, w64 (x := x / 64) (by omega) (by omega)]
    exact xor_nonneg _ _ g0 g1 (by omega) (by omega)
/-- One of a list of texts. -/
theorem spec_l9Rd_of_ev (l : List Int) (hl : Bytes l) (p : Int) (xs : List ByteArray) (hx : 0 < xs.length) (h0 : 0 ≤ p) (h1 : p ≤ 1000000000000) : EvP (fun k => spec_l9Rd_of.f k l p xs) (fun r => r.2 = p + 1 ∧ r.1 ∈ xs) := by
 unfold spec_l9Rd_of.f
 refine EvP.bind (spec_l9Rd_pick_ev l hl p _ h0 h1) ?_
 rintro ⟨i, q⟩ ⟨hq, hi, hlt, _⟩
 have := hlt (by omega)
 simp only at hq hi this
 refine EvP.pos hi (EvP.pos this (EvP.now ⟨hq, ?_⟩))
 show xs.getD i.toNat ByteArray.empty ∈ xs
 rw [List.getD_eq_getElem?_getD, List.getElem?_eq_getElem (by omega)]
 exact List.getElem_mem _

/-- One of a list of numbers. -/
theorem spec_l9Rd_num_ev (l : List Int) (hl : Bytes l) (p : Int) (xs : List Int) (hx : 0 < xs.length) (h0 : 0 ≤ p) (h1 : p ≤ 1000000000000) : EvP (fun k => spec_l9Rd_num.f k l p xs) (fun r => r.2 = p + 1 ∧ r.1 ∈ xs) := by
 unfold spec_l9Rd_num.f
 refine EvP.bind (spec_l9Rd_pick_ev l hl p _ h0 h1) ?_
 rintro ⟨i, q⟩ ⟨hq, hi, hlt, _⟩
 have := hlt (by omega)
 simp only at hq hi this
 refine EvP.pos hi (EvP.pos this (EvP.now ⟨hq, ?_⟩))
 show xs.getD i.toNat 0 ∈ xs
 rw [List.getD_eq_getElem?_getD, List.getElem?_eq_getElem (by omega)]
 exact List.getElem_mem _

theorem spec_l3Key_ev (l : List Int) (hl : Bytes l) (p : Int) (h0 : 0 ≤ p) (h1 : p ≤ 1000000000000) : EvP (fun k => spec_l3Key.f k l p) (fun r => r.2 = p + 1 ∧ r.1 ∈ ([⟨#[97]⟩, ⟨#[98]⟩, ⟨#[97, 98]⟩, ⟨#[98, 47, 97, 47, 49]⟩, ⟨#[98, 47, 97, 98, 47, 49]⟩, ⟨#[99]⟩] : List ByteArray)) := by
 unfold spec_l3Key.f
 refine EvP.bind (spec_l9Rd_of_ev l hl p _ (by simp) h0 h1) ?_
 rintro ⟨x, q⟩ h
 exact EvP.now h

/-- What a drawn entry is like. -/
structure Drawn (seq p : Int) (r : ByteArray × Int × Int × ByteArray × Int × Int) : Prop where
 key : r.1 ∈ ([⟨#[97]⟩, ⟨#[98]⟩, ⟨#[97, 98]⟩, ⟨#[98, 47, 97, 47, 49]⟩, ⟨#[98, 47, 97, 98, 47, 49]⟩, ⟨#[99]⟩] : List ByteArray)
 seq : r.2.1 = seq
 kind : r.2.2.1 = 1 ∨ r.2.2.1 = 2 ∨ r.2.2.1 = 3
 text : r.2.2.2.1.size ≤ 3
 bare : r.2.2.1 ≠ 1 → r.2.2.2.1 = ⟨#[]⟩
 lo : -7 ≤ r.2.2.2.2.1
 hi : r.2.2.2.2.1 ≤ 100
 del : r.2.2.1 = 2 → r.2.2.2.2.1 = 0
 next : p ≤ r.2.2.2.2.2 ∧ r.2.2.2.2.2 ≤ p + 5
theorem keys_small (u : ByteArray) (h : u ∈ ([⟨#[97]⟩, ⟨#[98]⟩, ⟨#[97, 98]⟩, ⟨#[98, 47, 97, 47, 49]⟩, ⟨#[98, 47, 97, 98, 47, 49]⟩, ⟨#[99]⟩] : List ByteArray)) : u.size ≤ 6 := by
 simp only [List.mem_cons, List.not_mem_nil, or_false] at h
 rcases h with rfl | rfl | rfl | rfl | rfl | rfl <;> simp [ByteArray.size]
theorem texts_small (u : ByteArray) (h : u ∈ ([⟨#[]⟩, ⟨#[120]⟩, ⟨#[121, 121]⟩, ⟨#[122, 122, 122]⟩] : List ByteArray)) : u.size ≤ 3 := by
 simp only [List.mem_cons, List.not_mem_nil, or_false] at h
 rcases h with rfl | rfl | rfl | rfl <;> simp [ByteArray.size]
theorem spec_l3Entry_ev (l : List Int) (hl : Bytes l) (p seq : Int) (h0 : 0 ≤ p) (h1 : p ≤ 900000000000) : EvP (fun k => spec_l3Entry.f k l p seq) (Drawn seq p) := by
 unfold spec_l3Entry.f
 refine EvP.bind (spec_l3Key_ev l hl p h0 (by omega)) ?_
 rintro ⟨key, p1⟩ ⟨hp1, hkey⟩
 simp only at hp1 hkey
 refine EvP.bind (spec_l9Rd_num_ev l hl p1 _ (by simp) (by omega) (by omega)) ?_
 rintro ⟨kind, p2⟩ ⟨hp2, hkind⟩
 simp only [List.mem_cons, List.not_mem_nil, or_false] at hp2 hkind
 refine EvP.split (fun h2 => EvP.neg (by omega) (EvP.now ?_)) (fun h2 => ?_)
 ·
  exact ⟨hkey, rfl, by show kind = 1 ∨ kind = 2 ∨ kind = 3; omega, by simp [ByteArray.size], fun _ => rfl, by show (-7 : Int) ≤ 0; omega, by show (0 : Int) ≤ 100; omega, fun _ => rfl, by show p ≤ p2 ∧ p2 ≤ p + 5; omega⟩
 ·
  refine EvP.bind (spec_l9Rd_num_ev l hl p2 _ (by simp) (by omega) (by omega)) ?_
  rintro ⟨n, p3⟩ ⟨hp3, hn⟩
  simp only [List.mem_cons, List.not_mem_nil, or_false] at hp3 hn
  refine EvP.split (fun h3 => ?_) (fun h3 => EvP.now ?_)
  ·
   refine EvP.bind (spec_l9Rd_of_ev l hl p3 _ (by simp) (by omega) (by omega)) ?_
   rintro ⟨x, p4⟩ ⟨hp4, hx⟩
   simp only at hp4 hx
   exact EvP.now ⟨hkey, rfl, by show kind = 1 ∨ kind = 2 ∨ kind = 3; omega, texts_small x hx, fun h => absurd h3 h, by show (-7 : Int) ≤ n; omega, by show n ≤ 100; omega, fun h => absurd h h2, by show p ≤ p4 ∧ p4 ≤ p + 5; omega⟩
  ·
   exact ⟨hkey, rfl, by show kind = 1 ∨ kind = 2 ∨ kind = 3; omega, by simp [ByteArray.size], fun _ => rfl, by show (-7 : Int) ≤ n; omega, by show n ≤ 100; omega, fun h => absurd h h2, by show p ≤ p3 ∧ p3 ≤ p + 5; omega⟩

/-! ### Draws of lists of entries -/
def keys6 : List ByteArray := [⟨#[97]⟩, ⟨#[98]⟩, ⟨#[97, 98]⟩, ⟨#[98, 47, 97, 47, 49]⟩, ⟨#[98, 47, 97, 98, 47, 49]⟩, ⟨#[99]⟩]
/-- No two of one time. -/
def Apart (xs : List S48) : Prop := xs.Pairwise (fun x y => x.f1 ≠ y.f1)
/-- What a drawn entry of a list is like. -/
structure Item (hi : Int) (x : S48) : Prop where
 key : x.f0 ∈ keys6
 one : 1 ≤ x.f1
 top : x.f1 ≤ hi
 kind : x.f2 = 1 ∨ x.f2 = 2 ∨ x.f2 = 3
 bare : x.f2 ≠ 1 → x.f3 = ⟨#[]⟩
 del : x.f2 = 2 → x.f4 = 0
 nlo : -7 ≤ x.f4
 nhi : x.f4 ≤ 100
theorem Item.mono {a b : Int} {x : S48} (h : Item a x) (hab : a ≤ b) : Item b x := ⟨h.key, h.one, Int.le_trans h.top hab, h.kind, h.bare, h.del, h.nlo, h.nhi⟩
theorem spec_l3List_l0 (l : List Int) (hl : Bytes l) : ∀ (d : Nat) (out : List S48) (s p : Int), d ≤ 100 → out.length + d ≤ 1000 → 0 ≤ s → s + 2 * d ≤ 1000000 → 0 ≤ p → p + 10 * d ≤ 800000000000 → Apart out → (∀ x ∈ out, Item s x) →
  EvP (fun k => spec_l3List.l0 k out s (d : Int) l p) (fun r => Apart r.1 ∧ r.1.length ≤ out.length + d ∧ (∀ x ∈ r.1, Item (s + 2 * d) x) ∧ p ≤ r.2 ∧ r.2 ≤ p + 10 * d) := by
 intro d
 induction d with
 | zero =>
  intro out s p _ _ _ _ hp0 hp1 ha hi
  refine EvP.step (fun k => by rw [spec_l3List.l0]) (EvP.neg (by simp) (EvP.now ⟨ha, by simp, fun x hx => (hi x hx).mono (by omega), by omega, by omega⟩))
 | succ d ih =>
  intro out s p hd ho hs0 hs1 hp0 hp1 ha hi
  refine EvP.step (fun k => by rw [spec_l3List.l0]) (EvP.pos (by omega) ?_)
  refine EvP.bind (spec_l9Rd_pick_ev l hl p 2 (by omega) (by omega)) ?_
  rintro ⟨v, p1⟩ ⟨hp, hv0, hv1, _⟩
  simp only at hp hv0 hv1
  have hv := hv1 (by omega)
  have ws : wrap64 (wrap64 (s + 1) + v) = s + 1 + v := by rw [w64 (x := s + 1) (by omega) (by omega), w64 (by omega) (by omega)]
  have wd : wrap64 (((d + 1 : Nat) : Int) - 1) = (d : Int) := by rw [w64 (by omega) (by omega)]; omega
  rw [ws, wd]
  refine EvP.bind (spec_l3Entry_ev l hl p1 (s + 1 + v) (by omega) (by omega)) ?_
  rintro ⟨key, seq, kind, text, n, p2⟩ hE
  have e1 := hE.seq
  have e2 := hE.next
  simp only at e1 e2
  refine EvP.bind (spec_l9Rd_pick_ev l hl p2 2 (by omega) (by omega)) ?_
  rintro ⟨w, p3⟩ ⟨hp3, _⟩
  simp only at hp3
  have hit : Item (s + 1 + v) (⟨key, seq, kind, text, n⟩ : S48) := ⟨hE.key, by show 1 ≤ seq; omega, by show seq ≤ _; omega, hE.kind, hE.bare, hE.del, hE.lo, hE.hi⟩
  have hne : ∀ y ∈ out, y.f1 ≠ (⟨key, seq, kind, text, n⟩ : S48).f1 := fun y hy => by
   have := (hi y hy).top
   show y.f1 ≠ seq
   omega
  refine EvP.split (fun _ => EvP.pos (by omega) ?_) (fun _ => ?_)
  ·
   refine (ih (out ++ [⟨key, seq, kind, text, n⟩]) (s + 1 + v) p3 (by omega) (by simp; omega) (by omega) (by omega) (by omega) (by omega) ?_ ?_).mono ?_
   ·
    refine List.pairwise_append.2 ⟨ha, List.pairwise_singleton _ _, fun x hx y hy => ?_⟩
    obtain rfl := List.mem_singleton.1 hy
    exact hne x hx
   ·
    intro x hx
    rcases List.mem_append.1 hx with hx | hx
    ·
     exact (hi x hx).mono (by omega)
    ·
     obtain rfl := List.mem_singleton.1 hx
     exact hit
   ·
    rintro r ⟨h1, h2, h3, h4, h5⟩
    exact ⟨h1, by simp at h2; omega, fun x hx => (h3 x hx).mono (by omega), by omega, by omega⟩
  ·
   simp only [Option.bind_some]
   refine EvP.pos (by simp; omega) ?_
   refine (ih ([⟨key, seq, kind, text, n⟩] ++ out) (s + 1 + v) p3 (by omega) (by simp; omega) (by omega) (by omega) (by omega) (by omega) ?_ ?_).mono ?_
   ·
    refine List.pairwise_cons.2 ⟨fun y hy => ?_, ha⟩
    exact (hne y hy).symm
   ·
    intro x hx
    rcases List.mem_cons.1 hx with rfl | hx
    ·
     exact hit
    ·
     exact (hi x hx).mono (by omega)
   ·
    rintro r ⟨h1, h2, h3, h4, h5⟩
    exact ⟨h1, by simp at h2; omega, fun x hx => (h3 x hx).mono (by omega), by omega, by omega⟩
theorem spec_l3List_ev (l : List Int) (hl : Bytes l) (p many : Int) (h0 : 0 ≤ p) (h1 : p ≤ 500000000000) (hm0 : 0 ≤ many) (hm1 : many ≤ 40) : EvP (fun k => spec_l3List.f k l p many) (fun r => Apart r.1 ∧ (r.1.length : Int) ≤ many ∧ (∀ x ∈ r.1, Item 1000 x) ∧ p ≤ r.2 ∧ r.2 ≤ p + 1000) := by
 unfold spec_l3List.f
 rw [w64 (x := many + 1) (by omega) (by omega)]
 refine EvP.bind (spec_l9Rd_pick_ev l hl p (many + 1) (by omega) (by omega)) ?_
 rintro ⟨d, p1⟩ ⟨hp1, hd0, hd1, _⟩
 simp only at hp1 hd0 hd1
 have hd := hd1 (by omega)
 have h := spec_l3List_l0 l hl d.toNat [] 0 p1 (by omega) (by simp; omega) (by omega) (by omega) (by omega) (by omega) List.Pairwise.nil (by simp)
 have ed : ((d.toNat : Nat) : Int) = d := by omega
 rw [ed] at h
 refine h.mono ?_
 rintro r ⟨h1, h2, h3, h4, h5⟩
 exact ⟨h1, by simp at h2; omega, fun x hx => (h3 x hx).mono (by omega), by omega, by omega⟩

/-! ### Draws of what is squashed -/
theorem spec_l4Put_ev (xs : List S48) (hx : xs.length ≤ 1000) (e : S48) : EvP (fun k => spec_l4Put.f k xs e.f0 e.f1 e.f2 e.f3 e.f4) (fun r => r.length = xs.length + 1 ∧ ∀ x ∈ r, x = e ∨ x ∈ xs) := by
 have fin : ∀ d : Nat, d ≤ xs.length → (xs.take d ++ [e] ++ xs.drop d).length = xs.length + 1 ∧ ∀ x ∈ xs.take d ++ [e] ++ xs.drop d, x = e ∨ x ∈ xs := by
  intro d hd
  refine ⟨by simp; omega, fun x hx => ?_⟩
  simp only [List.mem_append, List.mem_singleton] at hx
  rcases hx with (h | h) | h
  ·
   exact .inr (List.mem_of_mem_take h)
  ·
   exact .inl h
  ·
   exact .inr (List.mem_of_mem_drop h)
 have key : ∀ d : Nat, d ≤ xs.length → EvP (fun k => spec_l4Put.l0 k xs (d : Int) e.f0 e.f1 e.f2 e.f3 e.f4) (fun r => r.length = xs.length + 1 ∧ ∀ x ∈ r, x = e ∨ x ∈ xs) := by
  intro d
  induction d with
  | zero =>
   intro _
   refine EvP.step (fun k => by rw [spec_l4Put.l0]) (EvP.neg (by omega) ?_)
   simp only [Option.bind_some, List.nil_append, List.length_nil, Int.toNat_natCast]
   refine EvP.pos (by omega) (EvP.pos (by omega) (EvP.pos (by simp; omega) (EvP.pos (by simp) (EvP.pos (by simp) (EvP.pos (by simp; omega) (EvP.now ?_))))))
   exact fin 0 (by omega)
  | succ d ih =>
   intro hd
   have e1 : wrap64 (((d + 1 : Nat) : Int) - 1) = (d : Int) := by rw [w64 (by omega) (by omega)]; omega
   refine EvP.step (fun k => by rw [spec_l4Put.l0]) (EvP.pos (by omega) ?_)
   rw [e1]
   refine EvP.pos (by omega) (EvP.pos (by omega) ?_)
   simp only [spec_EntryLess_eq, Option.bind_some]
   refine EvP.split (fun _ => ih (by omega)) (fun _ => ?_)
   simp only [Option.bind_some, List.nil_append, List.length_nil, Int.toNat_natCast]
   refine EvP.pos (by omega) (EvP.pos (by omega) (EvP.pos (by simp; omega) (EvP.pos (by simp; omega) (EvP.pos (by simp; omega) (EvP.pos (by simp; omega) (EvP.now ?_))))))
   exact fin (d + 1) hd
 exact key xs.length (Nat.le_refl _)
theorem spec_l4Sort_ev (xs : List S48) (hx : xs.length ≤ 100) : EvP (fun k => spec_l4Sort.f k xs) (fun r => r.length = xs.length ∧ ∀ x ∈ r, x ∈ xs) := by
 have key : ∀ (rest pre out : List S48), xs = pre ++ rest → out.length = pre.length → (∀ x ∈ out, x ∈ xs) → EvP (fun k => spec_l4Sort.l0 k xs out (pre.length : Int)) (fun r => r.length = xs.length ∧ ∀ x ∈ r, x ∈ xs) := by
  intro rest
  induction rest with
  | nil =>
   intro pre out e ho hm
   exact EvP.step (f := fun _ => some out) (fun k => by rw [spec_l4Sort.l0, if_neg (by simp [e])]) (EvP.now ⟨by rw [ho, e]; simp, hm⟩)
  | cons x rest ih =>
   intro pre out e ho hm
   have hl : xs.length = pre.length + (rest.length + 1) := by rw [e]; simp
   have hr : rd_T48 xs (pre.length : Int) = x := by rw [e]; exact rd_midE pre rest x
   have e2 : wrap64 ((pre.length : Int) + 1) = ((pre ++ [x]).length : Int) := by rw [w64 (by omega) (by omega)]; simp
   refine EvP.step (fun k => by rw [spec_l4Sort.l0]) (EvP.pos (by omega) (EvP.pos (by omega) ?_))
   rw [hr, e2]
   refine EvP.bind (spec_l4Put_ev out (by omega) x) ?_
   rintro out2 ⟨h1, h2⟩
   refine ih (pre ++ [x]) out2 (by rw [e]; simp) (by rw [h1, ho]; simp) (fun y hy => ?_)
   rcases h2 y hy with rfl | h
   ·
    rw [e]; simp
   ·
    exact hm y h
 exact key xs [] [] rfl rfl (by simp)
theorem spec_l4Ents_ev (l : List Int) (hl : Bytes l) (p many : Int) (h0 : 0 ≤ p) (h1 : p ≤ 500000000000) (hm0 : 0 ≤ many) (hm1 : many ≤ 40) : EvP (fun k => spec_l4Ents.f k l p many) (fun r => (r.1.length : Int) ≤ many ∧ (∀ x ∈ r.1, Item 1000 x) ∧ p ≤ r.2 ∧ r.2 ≤ p + 1000) := by
 unfold spec_l4Ents.f
 refine EvP.bind (spec_l3List_ev l hl p many h0 h1 hm0 hm1) ?_
 rintro ⟨xs, p1⟩ ⟨_, h2, h3, h4, h5⟩
 simp only at h2 h3 h4 h5
 refine EvP.bind (spec_l4Sort_ev xs (by omega)) ?_
 rintro r ⟨h6, h7⟩
 exact EvP.now ⟨by simp only; omega, fun x hx => h3 x (h7 x hx), h4, h5⟩
theorem spec_l4Snaps_ev (l : List Int) (hl : Bytes l) (p : Int) (h0 : 0 ≤ p) (h1 : p ≤ 500000000000) : EvP (fun k => spec_l4Snaps.f k l p) (fun r => r.1.length ≤ 3 ∧ (∀ s ∈ r.1, 0 ≤ s ∧ s < 20) ∧ p ≤ r.2 ∧ r.2 ≤ p + 10) := by
 have key : ∀ (d : Nat) (out : List Int) (q : Int), d ≤ 3 → out.length + d ≤ 3 → (∀ s ∈ out, 0 ≤ s ∧ s < 20) → 0 ≤ q → q + d ≤ 600000000000 → EvP (fun k => spec_l4Snaps.l0 k out (d : Int) l q) (fun r => r.1.length ≤ 3 ∧ (∀ s ∈ r.1, 0 ≤ s ∧ s < 20) ∧ q ≤ r.2 ∧ r.2 ≤ q + d) := by
  intro d
  induction d with
  | zero =>
   intro out q _ ho hs hq0 hq1
   exact EvP.step (f := fun _ => some (out, q)) (fun k => by rw [spec_l4Snaps.l0, if_neg (by omega)]) (EvP.now ⟨ho, hs, Int.le_refl _, by simp⟩)
  | succ d ih =>
   intro out q hd ho hs hq0 hq1
   have e1 : wrap64 (((d + 1 : Nat) : Int) - 1) = (d : Int) := by rw [w64 (by omega) (by omega)]; omega
   refine EvP.step (fun k => by rw [spec_l4Snaps.l0]) (EvP.pos (by omega) ?_)
   refine EvP.bind (spec_l9Rd_pick_ev l hl q 20 (by omega) (by omega)) ?_
   rintro ⟨v, q1⟩ ⟨hq, hv0, hv1, _⟩
   simp only at hq hv0 hv1
   have hv := hv1 (by omega)
   have b1 : (out ++ [v]).length + d ≤ 3 := by simp; omega
   have b2 : out.length < 17592186044416 := by omega
   have b3 : 0 ≤ q1 ∧ q1 + d ≤ 600000000000 ∧ d ≤ 3 := by omega
   rw [e1]
   clear e1
   refine EvP.pos b2 ((ih (out ++ [v]) q1 b3.2.2 b1 ?_ b3.1 b3.2.1).mono ?_)
   ·
    intro s hs'
    rcases List.mem_append.1 hs' with h | h
    ·
     exact hs s h
    ·
     obtain rfl := List.mem_singleton.1 h
     exact ⟨hv0, hv⟩
   ·
    rintro r ⟨g1, g2, g3, g4⟩
    exact ⟨g1, g2, by omega, by omega⟩
 unfold spec_l4Snaps.f
 refine EvP.bind (spec_l9Rd_pick_ev l hl p 4 (by omega) (by omega)) ?_
 rintro ⟨d, p1⟩ ⟨hp1, hd0, hd1, _⟩
 simp only at hp1 hd0 hd1
 have hd := hd1 (by omega)
 have h := key d.toNat [] p1 (by omega) (by simp; omega) (by simp) (by omega) (by omega)
 have ed : ((d.toNat : Nat) : Int) = d := by omega
 rw [ed] at h
 refine h.mono ?_
 rintro r ⟨g1, g2, g3, g4⟩
 exact ⟨g1, g2, by omega, by omega⟩
def bigOf (e : S48) (n : Int) : S48 := ⟨e.f0, e.f1, e.f2, e.f3, n⟩
/-- Drawn entries, the first's number perhaps made great. -/
def TopOf (top : List S48) : Prop := top.length ≤ 14 ∧ ((∀ x ∈ top, Item 1000 x) ∨ ∃ (e : S48) (rest : List S48) (n : Int), (∀ x ∈ e :: rest, Item 1000 x) ∧ e.f2 ≠ 2 ∧ (n = 1000000 ∨ n = -1000000) ∧ top = bigOf e n :: rest)
/-- What is drawn: such entries, perhaps the first once more behind them; times. -/
def DrawnSq (r : List S48 × List Int × Bool) : Prop := (r.2.1.length ≤ 3 ∧ ∀ s ∈ r.2.1, 0 ≤ s ∧ s < 20) ∧ ∃ top, TopOf top ∧ (r.1 = top ∨ ∃ (e : S48) (rest : List S48), top = e :: rest ∧ 1 ≤ rest.length ∧ r.1 = top ++ [e])
theorem spec_DrawSquash_j2 (l : List Int) (hl : Bytes l) (p : Int) (h0 : 0 ≤ p) (h1 : p ≤ 500000000000) (top : List S48) (ht : TopOf top) (b : Bool) (hb : b = true → 1 < top.length) : EvP (fun k => spec_DrawSquash.j2 k top b l p) DrawnSq := by
 refine EvP.step (fun k => by rw [spec_DrawSquash.j2]) (EvP.split (fun hbt => ?_) (fun _ => ?_))
 ·
  have hlen := hb hbt
  cases top with
  | nil => simp at hlen
  | cons e rest =>
   have hr : rd_T48 (e :: rest) 0 = e := by simp [rd_T48]
   have h14 := ht.1
   rw [hr]
   refine EvP.pos (by simp) (EvP.pos (by omega) ?_)
   refine EvP.bind (spec_l4Snaps_ev l hl p h0 h1) ?_
   rintro ⟨ss, p1⟩ ⟨g1, g2, g3, g4⟩
   simp only at g1 g2 g3 g4
   refine EvP.bind (spec_l9Rd_pick_ev l hl p1 2 (by omega) (by omega)) ?_
   intro r _
   exact EvP.now ⟨⟨g1, g2⟩, e :: rest, ht, .inr ⟨e, rest, rfl, by simp at hlen; omega, rfl⟩⟩
 ·
  refine EvP.bind (spec_l4Snaps_ev l hl p h0 h1) ?_
  rintro ⟨ss, p1⟩ ⟨g1, g2, g3, g4⟩
  simp only at g1 g2 g3 g4
  refine EvP.bind (spec_l9Rd_pick_ev l hl p1 2 (by omega) (by omega)) ?_
  intro r _
  exact EvP.now ⟨⟨g1, g2⟩, top, ht, .inl rfl⟩
theorem spec_DrawSquash_j1 (l : List Int) (hl : Bytes l) (p : Int) (h0 : 0 ≤ p) (h1 : p ≤ 400000000000) (top : List S48) (ht : TopOf top) : EvP (fun k => spec_DrawSquash.j1 k top l p) DrawnSq := by
 refine EvP.step (fun k => by rw [spec_DrawSquash.j1]) (EvP.split (fun hgt => ?_) (fun _ => ?_))
 ·
  refine EvP.bind (spec_l9Rd_pick_ev l hl p 24 (by omega) (by omega)) ?_
  rintro ⟨v, p1⟩ ⟨hp, _⟩
  simp only at hp
  exact spec_DrawSquash_j2 l hl p1 (by omega) (by omega) top ht _ (fun _ => by omega)
 ·
  exact spec_DrawSquash_j2 l hl p h0 (by omega) top ht false (by simp)
theorem spec_DrawSquash_ev (l0 : List Int) (h : ∀ x ∈ l0, (Lit.int .u8 x).wf = true) : EvP (fun k => spec_DrawSquash.f k l0) DrawnSq := by
 unfold spec_DrawSquash.f
 refine EvP.bind (spec_l9Open_ev l0 h) ?_
 rintro ⟨l, p⟩ ⟨hl, hp⟩
 simp only at hp hl
 refine EvP.bind (spec_l4Ents_ev l hl p 14 (by omega) (by omega) (by omega) (by omega)) ?_
 rintro ⟨xs, p1⟩ ⟨h1, h2, h3, h4⟩
 simp only at h1 h2 h3 h4
 have htop : TopOf xs := ⟨by omega, .inl h2⟩
 have j0f : ∀ q : Int, 0 ≤ q → q ≤ 1000000 → EvP (fun k => spec_DrawSquash.j0 k xs false l q) DrawnSq := fun q hq0 hq1 =>
  EvP.step (fun k => by rw [spec_DrawSquash.j0]) (EvP.neg (by simp) (spec_DrawSquash_j1 l hl q hq0 (by omega) xs htop))
 simp only
 refine EvP.split (fun hpos => EvP.pos hpos (EvP.split (fun _ => j0f p1 (by omega) (by omega)) (fun hk => ?_))) (fun _ => j0f p1 (by omega) (by omega))
 cases xs with
 | nil => simp at hpos
 | cons e rest =>
  have hr : rd_T48 (e :: rest) 0 = e := by simp [rd_T48]
  rw [hr] at hk
  refine EvP.bind (spec_l9Rd_pick_ev l hl p1 16 (by omega) (by omega)) ?_
  rintro ⟨v, p2⟩ ⟨hp2, _⟩
  simp only at hp2
  refine EvP.step (fun k => by rw [spec_DrawSquash.j0]) (EvP.split (fun _ => ?_) (fun _ => spec_DrawSquash_j1 l hl p2 (by omega) (by omega) _ htop))
  refine EvP.bind (spec_l9Rd_num_ev l hl p2 [1000000, -1000000] (by simp) (by omega) (by omega)) ?_
  rintro ⟨n, p3⟩ ⟨hp3, hn⟩
  simp only at hp3 hn
  rw [hr]
  refine EvP.pos hpos (spec_DrawSquash_j1 l hl p3 (by omega) (by omega) _ ⟨by simpa using htop.1, .inr ⟨e, rest, n, h2, hk, by simpa using hn, rfl⟩⟩)
theorem drawn_small {r : List S48 × List Int × Bool} (h : DrawnSq r) : r.1.length ≤ 15 ∧ KeysSmall r.1 := by
 obtain ⟨_, top, ⟨h14, hT⟩, hr⟩ := h
 have hk : ∀ x ∈ top, x.f0.size ≤ 140737488351232 := by
  intro x hx
  have hi : ∀ y : S48, Item 1000 y → y.f0.size ≤ 140737488351232 := fun y hy => by
   have := keys_small y.f0 hy.key
   omega
  rcases hT with hT | ⟨e, rest, n, h1, _, _, rfl⟩
  ·
   exact hi x (hT x hx)
  ·
   rcases List.mem_cons.1 hx with rfl | hx
   ·
    exact hi e (h1 e (by simp))
   ·
    exact hi x (h1 x (by simp [hx]))
 rcases hr with hr | ⟨e, rest, h1, h2, hr⟩
 ·
  rw [hr]; exact ⟨by omega, hk⟩
 ·
  rw [hr]
  refine ⟨by simp; omega, fun x hx => ?_⟩
  rcases List.mem_append.1 hx with hx | hx
  ·
   exact hk x hx
  ·
   obtain rfl := List.mem_singleton.1 hx
   exact hk x (by rw [h1]; simp)

theorem wpEnts_ev (xs ys : List S48) (hx : xs.length ≤ 1048576) : EvP (fun k => laws_wpEnts.f k xs ys) (· = decide (xs.map entKey = ys.map entKey)) := by
 have key : ∀ (r r' pre pre' : List S48), xs = pre ++ r → ys = pre' ++ r' → pre.length = pre'.length → r.length = r'.length → EvP (fun k => laws_wpEnts.l0 k xs ys (pre.length : Int)) (· = decide (r.map entKey = r'.map entKey)) := by
  intro r
  induction r with
  | nil =>
   intro r' pre pre' e e' hl hr
   obtain rfl : r' = [] := List.eq_nil_of_length_eq_zero (by simpa using hr.symm)
   exact EvP.step (f := fun _ => some true) (fun k => by rw [laws_wpEnts.l0, if_neg (by simp [e])]) (EvP.now (by simp))
  | cons x r ih =>
   intro r' pre pre' e e' hl hr
   cases r' with
   | nil => simp at hr
   | cons y r' =>
    have h1 : xs.length = pre.length + (r.length + 1) := by rw [e]; simp
    have h2 : ys.length = pre'.length + (r'.length + 1) := by rw [e']; simp
    have hrx : rd_T48 xs (pre.length : Int) = x := by rw [e]; exact rd_midE pre r x
    have hry : rd_T48 ys (pre.length : Int) = y := by rw [e', hl]; exact rd_midE pre' r' y
    have e2 : wrap64 ((pre.length : Int) + 1) = ((pre ++ [x]).length : Int) := by rw [w64 (by omega) (by omega)]; simp
    have step := ih r' (pre ++ [x]) (pre' ++ [y]) (by rw [e]; simp) (by rw [e']; simp) (by simp [hl]) (by simpa using hr)
    refine EvP.step (fun k => by rw [laws_wpEnts.l0]) (EvP.pos (by omega) (EvP.pos (by omega) (EvP.pos (by simp at hr; omega) ?_)))
    rw [hrx, hry, entNe, e2]
    by_cases c : entKey x = entKey y
    ·
     refine EvP.neg (by simp [c]) (step.mono ?_)
     rintro _ rfl
     simp [c]
    ·
     exact EvP.pos (by simp [c]) (EvP.now (by simp [c]))
 unfold laws_wpEnts.f
 refine EvP.split (fun h => ?_) (fun h => EvP.now ?_)
 ·
  exact key xs ys [] [] rfl rfl rfl (by omega)
 ·
  have : xs.map entKey ≠ ys.map entKey := fun he => h (by have := congrArg List.length he; simp at this; omega)
  simp [this]
theorem wpEnts_same (xs : List S48) (hx : xs.length ≤ 1048576) : EvP (fun k => laws_wpEnts.f k xs xs) (· = true) := (wpEnts_ev xs xs hx).mono (by rintro _ rfl; simp)
theorem rd_mem (xs : List S48) (i : Nat) (h : i < xs.length) : rd_T48 xs (i : Int) ∈ xs := by
 unfold rd_T48
 rw [Int.toNat_natCast, List.getD_eq_getElem?_getD, List.getElem?_eq_getElem h]
 exact List.getElem_mem h
/-- Times that part the same entries cut the same classes. -/
theorem cuts_congr {xs : List S48} {s t : List Int} (h : ∀ x ∈ xs, ∀ y ∈ xs, partedB x y s = partedB x y t) : classCuts xs s = classCuts xs t := by
 have key : ∀ f a i, 1 ≤ i → cutAt (apAt xs s) xs.length f a i = cutAt (apAt xs t) xs.length f a i := by
  intro f
  induction f with
  | zero => intro a i _; rfl
  | succ f ih =>
   intro a i hi
   by_cases hn : i < xs.length
   ·
    have hx := rd_mem xs (i - 1) (by omega)
    have hy := rd_mem xs i hn
    have ei : ((i - 1 : Nat) : Int) = (i : Int) - 1 := by omega
    rw [ei] at hx
    have he : apAt xs s i = apAt xs t i := h _ hx _ hy
    rw [cutAt, cutAt, he, ih a (i + 1) (by omega), ih i (i + 1) (by omega)]
   ·
    rw [cutAt, cutAt, if_neg (fun q => hn q.1), if_neg (fun q => hn q.1), ih i (i + 1) (by omega)]
 exact key xs.length 0 1 (Nat.le_refl _)
theorem sqB_congr {xs : List S48} {s t : List Int} {b : Bool} (h : rightB xs = true → ∀ x ∈ xs, ∀ y ∈ xs, partedB x y s = partedB x y t) : sqB xs s b = sqB xs t b := by
 unfold sqB
 by_cases hr : rightB xs = true
 ·
  rw [if_pos hr, if_pos hr]
  unfold squashB grpL
  congr 1
  refine List.map_congr_left (fun p _ => ?_)
  unfold keyL classesL
  rw [cuts_congr (fun x hx y hy => h hr x (clsL_sub x hx) y (clsL_sub y hy))]
 ·
  rw [if_neg hr, if_neg hr]
theorem parted_iff (x y : S48) (s : List Int) : partedB x y s = true ↔ ∃ t ∈ s, y.f1 ≤ t ∧ t < x.f1 := by simp [partedB]
theorem seq_range {xs : List S48} (hr : rightB xs = true) : ∀ x ∈ xs, 1 ≤ x.f1 ∧ x.f1 ≤ 100000 := by
 intro x hx
 have h := right_ents xs none hr x hx
 unfold entB at h
 simp only [Bool.and_eq_true, decide_eq_true_eq] at h
 exact ⟨h.1.1.1.1.1.2, h.1.1.1.1.2⟩

/-! ### How few entries are left -/
def SmallN (xs : List S48) : Prop := ∀ x ∈ xs, -2000 ≤ x.f4 ∧ x.f4 ≤ 2000
theorem oneGo_small : ∀ (c : List S48) (first : Bool) (n : Int) (m : Nat), SmallN c → -(2000 * (m : Int)) ≤ n → n ≤ 2000 * (m : Int) → m + c.length ≤ 500 → -1000000 ≤ (oneGo c first n).2.2 ∧ (oneGo c first n).2.2 ≤ 1000000
 | [], first, n, m, _, h0, h1, hm => by
  have hm' : m ≤ 500 := by simpa using hm
  simp only [oneGo]
  omega
 | e :: r, first, n, m, hs, h0, h1, hm => by
  have he := hs e (by simp)
  have hl : m + (r.length + 1) ≤ 500 := by simpa using hm
  have hw : wrap64 (n + e.f4) = n + e.f4 := w64 (by omega) (by omega)
  rw [oneGo, hw]
  clear hw
  split
  ·
   exact oneGo_small r false (n + e.f4) (m + 1) (fun x hx => hs x (by simp [hx])) (by omega) (by omega) (by omega)
  ·
   split
   ·
    simp only
    omega
   ·
    split <;> simp only <;> omega
theorem oneGo_false : ∀ (c : List S48) (n : Int), (oneGo c false n).1 = 1 ∨ (oneGo c false n).1 = 3
 | [], n => .inr rfl
 | e :: r, n => by
  rw [oneGo]
  split
  ·
   exact oneGo_false r _
  ·
   split
   ·
    exact .inl rfl
   ·
    exact .inl (by rw [if_neg (by simp)])
theorem oneGo_kind (e : S48) (r : List S48) (n : Int) : ((oneGo (e :: r) true n).1 = 1 ∨ (oneGo (e :: r) true n).1 = 3) ∧ (e.f2 = 3 ∨ e.f2 = 1) ∨ (oneGo (e :: r) true n).1 = 2 ∧ e.f2 ≠ 3 ∧ e.f2 ≠ 1 := by
 rw [oneGo]
 split
 ·
  exact .inl ⟨oneGo_false r _, .inl (by assumption)⟩
 ·
  split
  ·
   exact .inl ⟨.inl rfl, .inr (by assumption)⟩
  ·
   exact .inr ⟨by rw [if_pos rfl], by assumption, by assumption⟩
def SmallC (c : List S48) : Prop := c ≠ [] ∧ c.length ≤ 100 ∧ SmallN c
/-- The least that is left of a class: nothing, or one entry of its first's key, that is a Put where it is the last of the lowest. -/
theorem classB_small {c : List S48} (h : SmallC c) (b : Bool) :
  (∃ x, classB c b = [x] ∧ x.f0 = (joinOf c).1 ∧ (b = true → x.f2 = 1)) ∨ classB c b = [] ∧ b = true ∧ ∃ e r, c = e :: r ∧ e.f2 ≠ 3 ∧ e.f2 ≠ 1 := by
 obtain ⟨h1, h2, h3⟩ := h
 cases c with
 | nil => exact absurd rfl h1
 | cons e r =>
  have hs := oneGo_small (e :: r) true 0 0 h3 (by omega) (by omega) (by omega)
  have hk := oneGo_kind e r 0
  unfold classB sqOne
  rw [if_neg (show ¬ ((joinOf (e :: r)).2.2.2.2 > 1000000 ∨ (joinOf (e :: r)).2.2.2.2 < -1000000) from fun hc => by have hc' : (oneGo (e :: r) true 0).2.2 > 1000000 ∨ (oneGo (e :: r) true 0).2.2 < -1000000 := hc; omega)]
  have ej : (joinOf (e :: r)).2.2.1 = (oneGo (e :: r) true 0).1 := rfl
  rw [ej]
  rcases hk with ⟨hk, _⟩ | ⟨hk, h4, h5⟩
  ·
   rw [if_neg (by omega)]
   refine .inl ⟨_, rfl, rfl, fun hb => ?_⟩
   rcases hk with hk | hk
   ·
    rw [if_neg (by omega)]
    exact hk
   ·
    rw [if_pos ⟨hb, hk⟩]
  ·
   by_cases hb : b = true
   ·
    rw [if_pos ⟨hb, hk⟩]
    exact .inr ⟨rfl, hb, e, r, rfl, h4, h5⟩
   ·
    rw [if_neg (fun q => hb q.1)]
    exact .inl ⟨_, rfl, rfl, fun q => absurd q hb⟩
/-- Nothing is left of the lowest but where each class is nothing; the last that is left is a Put. -/
theorem parts_low : ∀ (cs : List (List S48)), (∀ c ∈ cs, SmallC c) → ((partsB cs true).1.flatten = [] → (partsB cs true).2 = true) ∧ ∀ x, (partsB cs true).1.flatten.getLast? = some x → x.f2 = 1
 | [], _ => ⟨fun _ => rfl, fun x hx => by simp [partsB] at hx⟩
 | c :: cs, h => by
  obtain ⟨h2, h3⟩ := parts_low cs (fun x hx => h x (by simp [hx]))
  have hc := classB_small (h c (by simp)) (partsB cs true).2
  simp only [partsB, List.flatten_cons]
  constructor
  ·
   intro he
   obtain ⟨h4, h5⟩ := List.append_eq_nil_iff.1 he
   rw [h2 h5] at h4 ⊢
   simp [h4]
  ·
   intro x hx
   by_cases hr : (partsB cs true).1.flatten = []
   ·
    rw [h2 hr, hr, List.append_nil] at hx
    rw [h2 hr] at hc
    rcases hc with ⟨y, e, _, hy⟩ | ⟨e, _⟩
    ·
     rw [e] at hx
     obtain rfl : y = x := by simpa using hx
     exact hy rfl
    ·
     rw [e] at hx
     simp at hx
   ·
    obtain ⟨y, hy⟩ : ∃ y, (partsB cs true).1.flatten.getLast? = some y := by
     cases hq : (partsB cs true).1.flatten.getLast? with
     | none => exact absurd (List.getLast?_eq_none_iff.1 hq) hr
     | some y => exact ⟨y, rfl⟩
    rw [List.getLast?_append, hy] at hx
    obtain rfl : y = x := by simpa using hx
    exact h3 y hy
theorem classes_small {xs : List S48} (hl : xs.length ≤ 100) (hs : SmallN xs) (snaps : List Int) : ∀ c ∈ classesL xs snaps, SmallC c := fun c hc =>
 ⟨(classesL_ne xs snaps c hc).1, Nat.le_trans (classesL_len xs snaps c hc) hl, fun x hx => hs x ((classesL_ne xs snaps c hc).2 x hx)⟩
theorem cutAt_none {ap : Nat → Bool} {n : Nat} (h : ∀ i, ap i = false) : ∀ f s i, i + f = n + 1 → 1 ≤ i → i ≤ n → cutAt ap n f s i = [(s, n)] := by
 intro f
 induction f with
 | zero => intro s i h1 h2 h3; omega
 | succ f ih =>
  intro s i h1 h2 h3
  by_cases hi : i < n
  ·
   rw [cutAt_on hi (h i)]
   exact ih s (i + 1) (by omega) (by omega) (by omega)
  ·
   obtain rfl : i = n := by omega
   obtain rfl : f = 0 := by omega
   rw [cutAt_cut (fun q => hi q.1)]
   rfl
theorem classes_none {xs : List S48} (h : xs ≠ []) : classesL xs [] = [xs] := by
 unfold classesL classCuts
 have hl : 1 ≤ xs.length := by cases xs with | nil => exact absurd rfl h | cons => simp
 rw [cutAt_none (ap := apAt xs []) (fun _ => rfl) xs.length 0 1 (by omega) (by omega) hl]
 simp [clsL]
/-- A stretch of one key. -/
def GrpOk (xs : List S48) (p : Nat × Nat) : Prop := p.1 < p.2 ∧ p.2 ≤ xs.length ∧ ∀ j, p.1 ≤ j → j < p.2 → (rd_T48 xs (j : Int)).f0.toList = (rd_T48 xs (p.1 : Int)).f0.toList
theorem grp_ok (xs : List S48) : ∀ f s i, i + f = xs.length + 1 → s < i → i ≤ xs.length → (∀ j, s ≤ j → j < i → (rd_T48 xs (j : Int)).f0.toList = (rd_T48 xs (s : Int)).f0.toList) → ∀ p ∈ grpAt xs f s i, GrpOk xs p := by
 intro f
 induction f with
 | zero => intro s i h1 h2 h3; omega
 | succ f ih =>
  intro s i h1 h2 h3 hk p hp
  rw [grpAt] at hp
  split at hp
  ·
   rename_i h
   refine ih s (i + 1) (by omega) (by omega) (by omega) (fun j h4 h5 => ?_) p hp
   by_cases hj : j = i
   ·
    rw [hj]; exact h.2
   ·
    exact hk j h4 (by omega)
  ·
   rcases List.mem_cons.1 hp with rfl | hp
   ·
    exact ⟨h2, h3, hk⟩
   ·
    by_cases hi : i < xs.length
    ·
     refine ih i (i + 1) (by omega) (by omega) (by omega) (fun j h4 h5 => ?_) p hp
     obtain rfl : j = i := by omega
     rfl
    ·
     obtain rfl : f = 0 := by omega
     simp [grpAt] at hp
theorem grp_all (xs : List S48) : ∀ p ∈ grpAt xs xs.length 0 1, GrpOk xs p := by
 cases h : xs.length with
 | zero => intro p hp; simp [grpAt] at hp
 | succ n =>
  have := grp_ok xs xs.length 0 1 (by omega) (by omega) (by omega) (fun j h1 h2 => by rw [show j = 0 by omega])
  rw [h] at this
  exact this
theorem clsL_rd {xs : List S48} {p : Nat × Nat} (h2 : p.2 ≤ xs.length) (j : Nat) (hj : p.1 + j < p.2) : rd_T48 (clsL xs p) (j : Int) = rd_T48 xs ((p.1 + j : Nat) : Int) := by
 unfold rd_T48 clsL
 rw [Int.toNat_natCast, Int.toNat_natCast, List.getD_eq_getElem?_getD, List.getD_eq_getElem?_getD, List.getElem?_drop, List.getElem?_take, if_pos hj]
theorem clsL_key {xs : List S48} {p : Nat × Nat} (h : GrpOk xs p) : ∀ y ∈ clsL xs p, y.f0.toList = (rd_T48 xs (p.1 : Int)).f0.toList := by
 intro y hy
 obtain ⟨h1, h2, h3⟩ := h
 obtain ⟨j, hj, rfl⟩ := List.mem_iff_getElem.1 hy
 have hl := clsL_length h1 h2
 have e := clsL_rd h2 j (by omega)
 have e2 : rd_T48 (clsL xs p) (j : Int) = (clsL xs p)[j] := by simp [rd_T48, List.getD_eq_getElem?_getD, List.getElem?_eq_getElem hj]
 rw [← e2, e]
 exact h3 _ (by omega) (by omega)
theorem clsL_small {xs : List S48} (hl : xs.length ≤ 100) (hs : SmallN xs) (p : Nat × Nat) : (clsL xs p).length ≤ 100 ∧ SmallN (clsL xs p) := by
 refine ⟨?_, fun x hx => hs x (clsL_sub x hx)⟩
 unfold clsL
 rw [List.length_drop, List.length_take]
 omega
theorem grpL_cons (xs : List S48) (snaps : List Int) (b : Bool) (p : Nat × Nat) (ps : List (Nat × Nat)) : grpL xs snaps b (p :: ps) = keyL (clsL xs p) snaps b ++ grpL xs snaps b ps := by simp [grpL]
theorem parts_keys : ∀ (cs : List (List S48)), (∀ c ∈ cs, SmallC c) → ∀ b, ∀ x ∈ (partsB cs b).1.flatten, ∃ c ∈ cs, x.f0 = (joinOf c).1
 | [], _, _, x, hx => by simp [partsB] at hx
 | c :: cs, h, b, x, hx => by
  simp only [partsB, List.flatten_cons, List.mem_append] at hx
  rcases hx with hx | hx
  ·
   rcases classB_small (h c (by simp)) (partsB cs b).2 with ⟨y, e, hy, _⟩ | ⟨e, _⟩
   ·
    rw [e] at hx
    obtain rfl := List.mem_singleton.1 hx
    exact ⟨c, by simp, hy⟩
   ·
    rw [e] at hx
    simp at hx
  ·
   obtain ⟨d, hd, e⟩ := parts_keys cs (fun x hx => h x (by simp [hx])) b x hx
   exact ⟨d, by simp [hd], e⟩
theorem keyL_keys {xs : List S48} (hl : xs.length ≤ 100) (hs : SmallN xs) (snaps : List Int) (b : Bool) : ∀ x ∈ keyL xs snaps b, ∃ y ∈ xs, x.f0 = y.f0 := by
 intro x hx
 obtain ⟨c, hc, e⟩ := parts_keys _ (classes_small hl hs snaps) b x hx
 obtain ⟨h1, h2⟩ := classesL_ne xs snaps c hc
 cases c with
 | nil => exact absurd rfl h1
 | cons y r => exact ⟨y, h2 y (by simp), e⟩

/-! ### Squashing what is squashed -/
theorem oneGo_near : ∀ (c : List S48) (first : Bool) (n : Int), (∀ x ∈ c, -100 ≤ x.f4 ∧ x.f4 ≤ 100) → c.length ≤ 100 → -2000000 ≤ n → n ≤ 2000000 → n - 100 * (c.length : Int) ≤ (oneGo c first n).2.2 ∧ (oneGo c first n).2.2 ≤ n + 100 * (c.length : Int) := by
 have key : ∀ (c : List S48) (first : Bool) (n : Int), (∀ x ∈ c, -100 ≤ x.f4 ∧ x.f4 ≤ 100) → -9000000 + 100 * (c.length : Int) ≤ n → n + 100 * (c.length : Int) ≤ 9000000 → n - 100 * (c.length : Int) ≤ (oneGo c first n).2.2 ∧ (oneGo c first n).2.2 ≤ n + 100 * (c.length : Int) := by
  intro c
  induction c with
  | nil => intro first n _ _ _; simp [oneGo]
  | cons e r ih =>
   intro first n hs h0 h1
   have he := hs e (by simp)
   rw [List.length_cons] at h0 h1 ⊢
   have hw : wrap64 (n + e.f4) = n + e.f4 := w64 (by omega) (by omega)
   rw [oneGo, hw]
   clear hw
   split
   ·
    have := ih false (n + e.f4) (fun x hx => hs x (by simp [hx])) (by omega) (by omega)
    omega
   ·
    split
    ·
     simp only
     omega
    ·
     split <;> simp only <;> omega
 intro c first n hs hl h0 h1
 exact key c first n hs (by omega) (by omega)
theorem oneGo_good : ∀ (c : List S48) (first : Bool) (n : Int), ((oneGo c first n).1 = 1 ∧ ((oneGo c first n).2.1 = ⟨#[]⟩ ∨ ∃ e ∈ c, (oneGo c first n).2.1 = e.f3)) ∨ ((oneGo c first n).1 = 3 ∧ (oneGo c first n).2.1 = ⟨#[]⟩) ∨ ((oneGo c first n).1 = 2 ∧ (oneGo c first n).2.1 = ⟨#[]⟩ ∧ (oneGo c first n).2.2 = n ∧ first = true)
 | [], first, n => .inr (.inl ⟨rfl, rfl⟩)
 | e :: r, first, n => by
  rw [oneGo]
  split
  ·
   rcases oneGo_good r false (wrap64 (n + e.f4)) with ⟨h1, h2⟩ | h | ⟨_, _, _, h⟩
   ·
    rcases h2 with h2 | ⟨x, hx, h2⟩
    ·
     exact .inl ⟨h1, .inl h2⟩
    ·
     exact .inl ⟨h1, .inr ⟨x, by simp [hx], h2⟩⟩
   ·
    exact .inr (.inl h)
   ·
    cases h
  ·
   split
   ·
    exact .inl ⟨rfl, .inr ⟨e, by simp, rfl⟩⟩
   ·
    split
    ·
     exact .inr (.inr ⟨rfl, rfl, rfl, by assumption⟩)
    ·
     exact .inl ⟨rfl, .inl rfl⟩
/-- What a squashed entry is like. -/
def Good (x : S48) : Prop := (x.f2 = 1 ∨ (x.f2 = 2 ∧ x.f3 = ⟨#[]⟩ ∧ x.f4 = 0) ∨ (x.f2 = 3 ∧ x.f3 = ⟨#[]⟩)) ∧ -2000 ≤ x.f4 ∧ x.f4 ≤ 2000
theorem classB_one {e : S48} {r : List S48} (h : -1000000 ≤ (oneGo (e :: r) true 0).2.2 ∧ (oneGo (e :: r) true 0).2.2 ≤ 1000000) (b : Bool) :
  classB (e :: r) b = if b = true ∧ (oneGo (e :: r) true 0).1 = 2 then [] else [⟨e.f0, e.f1, if b = true ∧ (oneGo (e :: r) true 0).1 = 3 then 1 else (oneGo (e :: r) true 0).1, (oneGo (e :: r) true 0).2.1, (oneGo (e :: r) true 0).2.2⟩] := by
 unfold classB sqOne
 rw [if_neg (show ¬ ((joinOf (e :: r)).2.2.2.2 > 1000000 ∨ (joinOf (e :: r)).2.2.2.2 < -1000000) from fun hc => by have hc' : (oneGo (e :: r) true 0).2.2 > 1000000 ∨ (oneGo (e :: r) true 0).2.2 < -1000000 := hc; omega)]
 rfl
theorem classB_self {x : S48} (h : Good x) (b : Bool) (hb : b = true → x.f2 = 1) : classB [x] b = [x] := by
 obtain ⟨hk, h0, h1⟩ := h
 have hw : wrap64 x.f4 = x.f4 := w64 (by omega) (by omega)
 have hs := oneGo_small [x] true 0 0 (fun y hy => by obtain rfl := List.mem_singleton.1 hy; exact ⟨h0, h1⟩) (by omega) (by omega) (by simp)
 rw [classB_one hs]
 obtain ⟨f0, f1, f2, f3, f4⟩ := x
 simp only at hk hw hb ⊢
 rcases hk with h | ⟨h, h2, h3⟩ | ⟨h, h2⟩
 ·
  subst h
  simp [oneGo, hw]
 ·
  subst h h2 h3
  cases b with
  | true => exact absurd (hb rfl) (by decide)
  | false => simp [oneGo]
 ·
  subst h h2
  cases b with
  | true => exact absurd (hb rfl) (by decide)
  | false => simp [oneGo, hw]
theorem parts_self : ∀ (L : List S48) (b : Bool), (∀ x ∈ L, Good x) → (b = true → ∀ x, L.getLast? = some x → x.f2 = 1) → partsB (L.map fun x => [x]) b = (L.map (fun x => [x]), b && decide (L.length = 0))
 | [], b, _, _ => by cases b <;> rfl
 | x :: L, b, hg, hb => by
  have ih := parts_self L b (fun y hy => hg y (by simp [hy])) (fun h y hy => hb h y (by rw [List.getLast?_cons, hy]; rfl))
  have hc : classB [x] (b && decide (L.length = 0)) = [x] := by
   refine classB_self (hg x (by simp)) _ (fun h => ?_)
   simp only [Bool.and_eq_true, decide_eq_true_eq] at h
   have : L = [] := List.eq_nil_of_length_eq_zero h.2
   subst this
   exact hb h.1 x rfl
  simp only [List.map_cons, partsB, ih, hc]
  simp
def ParR (snaps : List Int) (x y : S48) : Prop := ∃ t ∈ snaps, y.f1 ≤ t ∧ t < x.f1
theorem rd_at (xs : List S48) (i : Nat) (h : i < xs.length) : rd_T48 xs (i : Int) = xs[i] := by simp [rd_T48, List.getD_eq_getElem?_getD, List.getElem?_eq_getElem h]
theorem classes_self {L : List S48} {snaps : List Int} (h : L.Pairwise (ParR snaps)) : classesL L snaps = L.map fun x => [x] := by
 have key : ∀ f s, s + 1 + f = L.length + 1 → s + 1 ≤ L.length → (cutAt (apAt L snaps) L.length f s (s + 1)).map (clsL L) = (L.drop s).map fun x => [x] := by
  intro f
  induction f with
  | zero => intro s h1 h2; omega
  | succ f ih =>
   intro s h1 h2
   have hd : L.drop s = L[s] :: L.drop (s + 1) := List.drop_eq_getElem_cons (by omega)
   have hc : clsL L (s, s + 1) = [L[s]] := by
    have e : (L.take (s + 1)).drop s = [L[s]] := by
     rw [List.drop_take, hd, show s + 1 - s = 1 by omega]
     rfl
    exact e
   by_cases hs : s + 1 < L.length
   ·
    have hap : apAt L snaps (s + 1) = true := by
     unfold apAt
     have e1 : (((s + 1 : Nat) : Int) - 1) = (s : Int) := by omega
     rw [e1, rd_at L s (by omega), rd_at L (s + 1) hs, parted_iff]
     exact List.pairwise_iff_getElem.1 h s (s + 1) (by omega) hs (by omega)
    rw [cutAt_cut (fun q => by rw [hap] at q; cases q.2), List.map_cons, hc, ih (s + 1) (by omega) (by omega), hd]
    rfl
   ·
    obtain rfl : f = 0 := by omega
    rw [cutAt_cut (fun q => hs q.1), List.map_cons, hc, hd, List.drop_eq_nil_of_le (by omega)]
    rfl
 unfold classesL classCuts
 cases hl : L.length with
 | zero =>
  have : L = [] := List.eq_nil_of_length_eq_zero hl
  subst this
  rfl
 | succ n =>
  have := key L.length 0 (by omega) (by omega)
  rw [hl] at this
  exact this
theorem flat_one : ∀ L : List S48, (L.map fun x => [x]).flatten = L
 | [] => rfl
 | x :: L => by rw [List.map_cons, List.flatten_cons, flat_one L]; rfl
theorem keyL_self {L : List S48} {snaps : List Int} {b : Bool} (h : L.Pairwise (ParR snaps)) (hg : ∀ x ∈ L, Good x) (hb : b = true → ∀ x, L.getLast? = some x → x.f2 = 1) : keyL L snaps b = L := by
 unfold keyL
 rw [classes_self h, parts_self L b hg hb]
 exact flat_one L
def LtR (x y : S48) : Prop := lessB x.f0 x.f1 y.f0 y.f1 = true
theorem right_pw : ∀ (xs : List S48) (p : Option S48), rightFrom p xs = true → xs.Pairwise LtR ∧ ∀ y, p = some y → ∀ x ∈ xs, LtR y x
 | [], _, _ => ⟨List.Pairwise.nil, fun _ _ x hx => by simp at hx⟩
 | x :: xs, p, h => by
  simp only [rightFrom, Bool.and_eq_true] at h
  obtain ⟨h1, h2, h3⟩ := h
  obtain ⟨i1, i2⟩ := right_pw xs (some x) h3
  refine ⟨List.pairwise_cons.2 ⟨i2 x rfl, i1⟩, ?_⟩
  rintro y rfl z hz
  have hyx : LtR y x := h2
  rcases List.mem_cons.1 hz with rfl | hz
  ·
   exact hyx
  ·
   exact lessB_trans hyx (i2 x rfl z hz)
theorem right_of : ∀ (ys : List S48) (p : Option S48), (∀ y ∈ ys, entB y.f0 y.f1 y.f2 y.f3 y.f4 = true) → ys.Pairwise LtR → (∀ z, p = some z → ∀ y ∈ ys, LtR z y) → rightFrom p ys = true
 | [], _, _, _, _ => rfl
 | y :: ys, p, h1, h2, h3 => by
  have h2' := List.pairwise_cons.1 h2
  simp only [rightFrom, Bool.and_eq_true]
  refine ⟨h1 y (by simp), ?_, right_of ys (some y) (fun z hz => h1 z (by simp [hz])) h2'.2 (fun z hz w hw => by obtain rfl := Option.some.inj hz; exact h2'.1 w hw)⟩
  cases p with
  | none => rfl
  | some z => exact h3 z rfl y (by simp)
/-- A stretch of one key, its times falling. -/
theorem grp_falls {xs : List S48} (hr : xs.Pairwise LtR) {p : Nat × Nat} (h : GrpOk xs p) : (clsL xs p).Pairwise (fun x y => y.f1 < x.f1) := by
 have hs : (clsL xs p).Pairwise LtR := (hr.sublist (List.take_sublist _ _)).sublist (List.drop_sublist _ _)
 refine hs.imp_of_mem (fun {x y} hx hy hl => ?_)
 have hk := (clsL_key h x hx).trans (clsL_key h y hy).symm
 unfold LtR lessB at hl
 rw [if_pos hk] at hl
 exact of_decide_eq_true hl
theorem cut_pairs (ap : Nat → Bool) (n : Nat) : ∀ f s i, i + f = n + 1 → s < i → i ≤ n → (∀ q ∈ cutAt ap n f s i, q.1 < n ∧ (q.1 = s ∨ (i ≤ q.1 ∧ ap q.1 = true))) ∧ (cutAt ap n f s i).Pairwise (fun p q => p.1 < q.1 ∧ q.1 < n ∧ ap q.1 = true) := by
 intro f
 induction f with
 | zero => intro s i h1 h2 h3; omega
 | succ f ih =>
  intro s i h1 h2 h3
  by_cases hc : i < n ∧ ap i = false
  ·
   rw [cutAt_on hc.1 hc.2]
   obtain ⟨g1, g2⟩ := ih s (i + 1) (by omega) (by omega) (by omega)
   refine ⟨fun q hq => ?_, g2⟩
   obtain ⟨k1, k2⟩ := g1 q hq
   refine ⟨k1, ?_⟩
   rcases k2 with k2 | k2
   ·
    exact .inl k2
   ·
    exact .inr ⟨by omega, k2.2⟩
  ·
   rw [cutAt_cut hc]
   by_cases hi : i < n
   ·
    have hap : ap i = true := by
     cases h : ap i with
     | true => rfl
     | false => exact absurd ⟨hi, h⟩ hc
    obtain ⟨g1, g2⟩ := ih i (i + 1) (by omega) (by omega) (by omega)
    have g : ∀ q ∈ cutAt ap n f i (i + 1), i ≤ q.1 ∧ q.1 < n ∧ ap q.1 = true := by
     intro q hq
     obtain ⟨k1, k2⟩ := g1 q hq
     rcases k2 with k2 | k2
     ·
      exact ⟨by omega, k1, by rw [k2]; exact hap⟩
     ·
      exact ⟨by omega, k1, k2.2⟩
    refine ⟨fun q hq => ?_, List.pairwise_cons.2 ⟨fun q hq => ?_, g2⟩⟩
    ·
     rcases List.mem_cons.1 hq with rfl | hq
     ·
      exact ⟨by simp only; omega, .inl rfl⟩
     ·
      have := g q hq
      exact ⟨this.2.1, .inr ⟨this.1, this.2.2⟩⟩
    ·
     have := g q hq
     exact ⟨by simp only; omega, this.2⟩
   ·
    obtain rfl : f = 0 := by omega
    refine ⟨fun q hq => ?_, by simp [cutAt]⟩
    simp only [cutAt, List.mem_singleton] at hq
    subst hq
    exact ⟨by simp only; omega, .inl rfl⟩
/-- Classes: what is ahead is parted from what is behind. -/
def ClsR (snaps : List Int) (c d : List S48) : Prop := ∀ e r e' r', c = e :: r → d = e' :: r' → ParR snaps e e'
theorem classes_pairs {c : List S48} (hf : c.Pairwise (fun x y => y.f1 < x.f1)) (snaps : List Int) : (classesL c snaps).Pairwise (ClsR snaps) := by
 unfold classesL classCuts
 cases hl : c.length with
 | zero => exact List.Pairwise.nil
 | succ n =>
  rw [List.pairwise_map, ← hl]
  have hb := classCuts_bound c snaps
  unfold classCuts at hb
  obtain ⟨_, g⟩ := cut_pairs (apAt c snaps) c.length c.length 0 1 (by omega) (by omega) (by omega)
  refine g.imp_of_mem (fun {p q} hp hq h => ?_)
  obtain ⟨h1, h2, h3⟩ := h
  rintro e r e' r' he he'
  have hd : ∀ (p : Nat × Nat) (e : S48) (r : List S48), p ∈ cutAt (apAt c snaps) c.length c.length 0 1 → clsL c p = e :: r → rd_T48 c (p.1 : Int) = e := by
   intro p e r hp he
   have hpb := hb p hp
   have := clsL_rd hpb.2 0 (by omega)
   rw [he] at this
   simpa [rd_T48] using this.symm
  have e1 := hd p e r hp he
  have e2 := hd q e' r' hq he'
  unfold apAt at h3
  have e3 : ((q.1 : Int) - 1) = ((q.1 - 1 : Nat) : Int) := by omega
  rw [e3, parted_iff, e2] at h3
  obtain ⟨t, ht, k1, k2⟩ := h3
  refine ⟨t, ht, k1, ?_⟩
  rw [rd_at c (q.1 - 1) (by omega)] at k2
  rw [← e1, rd_at c p.1 (by omega)]
  by_cases hpq : p.1 = q.1 - 1
  ·
   have : c[p.1] = c[q.1 - 1] := by congr 1
   rw [this]
   exact k2
  ·
   have := List.pairwise_iff_getElem.1 hf p.1 (q.1 - 1) (by omega) (by omega) (by omega)
   omega
def Tiny (c : List S48) : Prop := c ≠ [] ∧ c.length ≤ 15 ∧ (∀ x ∈ c, -100 ≤ x.f4 ∧ x.f4 ≤ 100) ∧ ∀ x ∈ c, entB x.f0 x.f1 x.f2 x.f3 x.f4 = true
theorem tiny_small {c : List S48} (h : Tiny c) : SmallC c := ⟨h.1, by have := h.2.1; omega, fun x hx => by have := h.2.2.1 x hx; omega⟩
theorem text_small {x : S48} (h : entB x.f0 x.f1 x.f2 x.f3 x.f4 = true) : x.f3.size ≤ 60 := by
 unfold entB at h
 simp only [Bool.and_eq_true, decide_eq_true_eq] at h
 exact h.1.1.1.2
theorem classB_tiny {e : S48} {r : List S48} (h : Tiny (e :: r)) (b : Bool) : ∀ x ∈ classB (e :: r) b, x.f0 = e.f0 ∧ x.f1 = e.f1 ∧ Good x ∧ x.f3.size ≤ 60 := by
 intro x hx
 obtain ⟨_, h2, h3, h4⟩ := h
 have hn := oneGo_near (e :: r) true 0 h3 (by omega) (by omega) (by omega)
 have hb : -2000 ≤ (oneGo (e :: r) true 0).2.2 ∧ (oneGo (e :: r) true 0).2.2 ≤ 2000 := by omega
 rw [classB_one (by omega)] at hx
 by_cases hv : b = true ∧ (oneGo (e :: r) true 0).1 = 2
 ·
  rw [if_pos hv] at hx
  simp at hx
 ·
  rw [if_neg hv] at hx
  obtain rfl := List.mem_singleton.1 hx
  refine ⟨rfl, rfl, ?_⟩
  rcases oneGo_good (e :: r) true 0 with ⟨g1, g2⟩ | ⟨g1, g2⟩ | ⟨g1, g2, g3, _⟩
  ·
   refine ⟨⟨.inl ?_, hb⟩, ?_⟩
   ·
    simp only [g1]
    rw [if_neg (by simp)]
   ·
    rcases g2 with g2 | ⟨y, hy, g2⟩
    ·
     simp only [g2]
     decide
    ·
     simp only [g2]
     exact text_small (h4 y hy)
  ·
   refine ⟨⟨?_, hb⟩, by simp only [g2]; decide⟩
   by_cases hbt : b = true
   ·
    exact .inl (by simp only [g1]; rw [if_pos ⟨hbt, trivial⟩])
   ·
    exact .inr (.inr ⟨by simp only [g1]; rw [if_neg (fun q => hbt q.1)], g2⟩)
  ·
   refine ⟨⟨.inr (.inl ⟨?_, g2, g3⟩), hb⟩, by simp only [g2]; decide⟩
   simp only [g1]
   rw [if_neg (fun q => by have := q.2; omega)]
theorem ent_of {e x : S48} (he : entB e.f0 e.f1 e.f2 e.f3 e.f4 = true) (h0 : x.f0 = e.f0) (h1 : x.f1 = e.f1) (hg : Good x) (ht : x.f3.size ≤ 60) : entB x.f0 x.f1 x.f2 x.f3 x.f4 = true := by
 unfold entB at he ⊢
 simp only [Bool.and_eq_true, decide_eq_true_eq] at he ⊢
 obtain ⟨hk, hn⟩ := hg
 rw [h0, h1]
 refine ⟨⟨⟨⟨he.1.1.1.1, ht⟩, by omega⟩, by omega⟩, ?_⟩
 unfold kindB
 rcases hk with h | ⟨h, h2, h3⟩ | ⟨h, h2⟩
 ·
  rw [if_pos h]
 ·
  rw [if_neg (by omega), if_pos h, h2, if_pos (by rw [ByteArray.toList_eq]), h3]
  rfl
 ·
  rw [if_neg (by omega), if_neg (by omega), if_pos h, h2, ByteArray.toList_eq]
  rfl
theorem parts_tiny : ∀ (cs : List (List S48)), (∀ c ∈ cs, Tiny c) → ∀ b, ∀ x ∈ (partsB cs b).1.flatten, ∃ c ∈ cs, ∃ e r, c = e :: r ∧ x.f0 = e.f0 ∧ x.f1 = e.f1 ∧ Good x ∧ x.f3.size ≤ 60
 | [], _, _, x, hx => by simp [partsB] at hx
 | c :: cs, h, b, x, hx => by
  simp only [partsB, List.flatten_cons, List.mem_append] at hx
  rcases hx with hx | hx
  ·
   have hc := h c (by simp)
   cases c with
   | nil => exact absurd rfl hc.1
   | cons e r => exact ⟨_, by simp, e, r, rfl, classB_tiny hc _ x hx⟩
  ·
   obtain ⟨d, hd, g⟩ := parts_tiny cs (fun x hx => h x (by simp [hx])) b x hx
   exact ⟨d, by simp [hd], g⟩
theorem parts_pair (snaps : List Int) : ∀ (cs : List (List S48)), (∀ c ∈ cs, Tiny c) → cs.Pairwise (ClsR snaps) → ∀ b, (partsB cs b).1.flatten.Pairwise (ParR snaps)
 | [], _, _, _ => List.Pairwise.nil
 | c :: cs, h, hp, b => by
  obtain ⟨hp1, hp2⟩ := List.pairwise_cons.1 hp
  have ih := parts_pair snaps cs (fun x hx => h x (by simp [hx])) hp2 b
  have hc := h c (by simp)
  simp only [partsB, List.flatten_cons]
  refine List.pairwise_append.2 ⟨?_, ih, fun x hx y hy => ?_⟩
  ·
   rcases classB_small (tiny_small hc) (partsB cs b).2 with ⟨z, e, _⟩ | ⟨e, _⟩ <;> rw [e] <;> simp
  ·
   cases c with
   | nil => exact absurd rfl hc.1
   | cons e r =>
    have hx' := (classB_tiny hc _ x hx).2.1
    obtain ⟨d, hd, e', r', hd', _, hy', _⟩ := parts_tiny cs (fun x hx => h x (by simp [hx])) b y hy
    obtain ⟨t, ht, k1, k2⟩ := hp1 d hd e r e' r' rfl hd'
    exact ⟨t, ht, by omega, by omega⟩
theorem keyL_nil {L : List S48} (hl : L.length ≤ 100) (hs : SmallN L) (b : Bool) : (keyL L [] b).length ≤ 1 := by
 cases L with
 | nil => cases b <;> simp [keyL, classesL, classCuts, cutAt, partsB]
 | cons e r =>
  unfold keyL
  rw [classes_none (by simp)]
  simp only [partsB, List.flatten_cons, List.flatten_nil, List.append_nil]
  rcases classB_small (c := e :: r) ⟨by simp, hl, hs⟩ b with ⟨x, q, _⟩ | ⟨q, _⟩ <;> rw [q] <;> simp
structure Sqd (xs : List S48) (snaps : List Int) (b : Bool) (p : Nat × Nat) (L : List S48) : Prop where
 par : L.Pairwise (ParR snaps)
 from_ : ∀ x ∈ L, ∃ e ∈ clsL xs p, x.f0 = e.f0 ∧ x.f1 = e.f1 ∧ Good x ∧ x.f3.size ≤ 60
 low : b = true → ∀ x, L.getLast? = some x → x.f2 = 1
theorem grp_sqd {xs : List S48} (hr : rightB xs = true) (hl : xs.length ≤ 15) (hs : ∀ x ∈ xs, -100 ≤ x.f4 ∧ x.f4 ≤ 100) (snaps : List Int) (b : Bool) {p : Nat × Nat} (h : GrpOk xs p) : Sqd xs snaps b p (keyL (clsL xs p) snaps b) := by
 have hlen : (clsL xs p).length ≤ 15 := by
  have h1 := clsL_length h.1 h.2.1
  have h2 := h.2.1
  omega
 have ht : ∀ c ∈ classesL (clsL xs p) snaps, Tiny c := fun c hc => by
  obtain ⟨h1, h2⟩ := classesL_ne (clsL xs p) snaps c hc
  exact ⟨h1, Nat.le_trans (classesL_len _ snaps c hc) hlen, fun x hx => hs x (clsL_sub x (h2 x hx)), fun x hx => right_ents xs none hr x (clsL_sub x (h2 x hx))⟩
 have hf := grp_falls (right_pw xs none hr).1 h
 refine ⟨parts_pair snaps _ ht (classes_pairs hf snaps) b, fun x hx => ?_, fun hb x hx => ?_⟩
 ·
  obtain ⟨c, hc, e, r, he, g⟩ := parts_tiny _ ht b x hx
  exact ⟨e, (classesL_ne (clsL xs p) snaps c hc).2 e (by rw [he]; simp), g⟩
 ·
  subst hb
  exact (parts_low _ (fun c hc => tiny_small (ht c hc))).2 x hx
theorem key_le {xs : List S48} (hr : xs.Pairwise LtR) {i j : Nat} (hij : i ≤ j) (hj : j < xs.length) : (rd_T48 xs (i : Int)).f0.toList = (rd_T48 xs (j : Int)).f0.toList ∨ Op.bytesLess (rd_T48 xs (i : Int)).f0.toList (rd_T48 xs (j : Int)).f0.toList = true := by
 by_cases h : i = j
 ·
  exact .inl (by rw [h])
 ·
  have := List.pairwise_iff_getElem.1 hr i j (by omega) hj (by omega)
  rw [← rd_at xs i (by omega), ← rd_at xs j hj] at this
  rcases (lessB_iff ..).1 this with g | g
  ·
   exact .inr g
  ·
   exact .inl g.1
theorem grp_pairs {xs : List S48} (hr : xs.Pairwise LtR) : ∀ f s i, i + f = xs.length + 1 → s < i → i ≤ xs.length → (∀ j, s ≤ j → j < i → (rd_T48 xs (j : Int)).f0.toList = (rd_T48 xs (s : Int)).f0.toList) → (∀ q ∈ grpAt xs f s i, s ≤ q.1 ∧ q.1 < xs.length) ∧ (grpAt xs f s i).Pairwise (fun p q => Op.bytesLess (rd_T48 xs (p.1 : Int)).f0.toList (rd_T48 xs (q.1 : Int)).f0.toList = true) := by
 intro f
 induction f with
 | zero => intro s i h1 h2 h3; omega
 | succ f ih =>
  intro s i h1 h2 h3 hk
  rw [grpAt]
  split
  ·
   rename_i h
   refine ih s (i + 1) (by omega) (by omega) (by omega) (fun j h4 h5 => ?_)
   by_cases hj : j = i
   ·
    rw [hj]; exact h.2
   ·
    exact hk j h4 (by omega)
  ·
   rename_i h
   by_cases hi : i < xs.length
   ·
    obtain ⟨g1, g2⟩ := ih i (i + 1) (by omega) (by omega) (by omega) (fun j h4 h5 => by rw [show j = i by omega])
    refine ⟨fun q hq => ?_, List.pairwise_cons.2 ⟨fun q hq => ?_, g2⟩⟩
    ·
     rcases List.mem_cons.1 hq with rfl | hq
     ·
      exact ⟨Nat.le_refl _, by simp only; omega⟩
     ·
      have := g1 q hq
      omega
    ·
     have hne : ¬ (rd_T48 xs (i : Int)).f0.toList = (rd_T48 xs (s : Int)).f0.toList := fun e => h ⟨hi, e⟩
     have hlt : Op.bytesLess (rd_T48 xs (s : Int)).f0.toList (rd_T48 xs (i : Int)).f0.toList = true := by
      rcases key_le hr (show s ≤ i by omega) hi with e | e
      ·
       exact absurd e.symm hne
      ·
       exact e
     have hq' := g1 q hq
     rcases key_le hr hq'.1 hq'.2 with e | e
     ·
      rw [← e]; exact hlt
     ·
      exact bl_trans _ _ _ hlt e
   ·
    obtain rfl : f = 0 := by omega
    refine ⟨fun q hq => ?_, by simp [grpAt]⟩
    simp only [grpAt, List.mem_singleton] at hq
    subst hq
    exact ⟨Nat.le_refl _, by simp only; omega⟩
theorem rd_app (pre B rest : List S48) (j : Nat) (hj : j < B.length) : rd_T48 (pre ++ (B ++ rest)) ((pre.length + j : Nat) : Int) ∈ B := by
 unfold rd_T48
 rw [Int.toNat_natCast, List.getD_eq_getElem?_getD, List.getElem?_append_right (by omega), Nat.add_sub_cancel_left, List.getElem?_append_left hj, List.getElem?_eq_getElem hj]
 exact List.getElem_mem hj
/-- Stretches of one key each, one behind the other, are found again. -/
theorem grp_blocks (xs : List S48) : ∀ (f : Nat) (bs : List (List S48)) (pre B : List S48) (i : Nat), xs = pre ++ (B ++ bs.flatten) → i + f = xs.length + 1 → pre.length < i → i ≤ pre.length + B.length → (∀ C ∈ B :: bs, C ≠ [] ∧ ∀ x ∈ C, ∀ y ∈ C, x.f0.toList = y.f0.toList) → (B :: bs).Pairwise (fun C D => ∀ x ∈ C, ∀ y ∈ D, x.f0.toList ≠ y.f0.toList) → (grpAt xs f pre.length i).map (clsL xs) = B :: bs := by
 intro f
 induction f with
 | zero =>
  intro bs pre B i e h1 h2 h3
  have : xs.length = pre.length + (B.length + bs.flatten.length) := by rw [e]; simp
  omega
 | succ f ih =>
  intro bs pre B i e h1 h2 h3 hb hp
  have hlen : xs.length = pre.length + (B.length + bs.flatten.length) := by rw [e]; simp
  have hs : rd_T48 xs (pre.length : Int) ∈ B := by
   have := rd_app pre B bs.flatten 0 (by omega)
   rw [← e] at this
   exact this
  rw [grpAt]
  by_cases hi : i < pre.length + B.length
  ·
   have hm : rd_T48 xs (i : Int) ∈ B := by
    have := rd_app pre B bs.flatten (i - pre.length) (by omega)
    rw [← e, show pre.length + (i - pre.length) = i by omega] at this
    exact this
   rw [if_pos ⟨by omega, (hb B (by simp)).2 _ hm _ hs⟩]
   exact ih bs pre B (i + 1) e (by omega) (by omega) (by omega) hb hp
  ·
   have ei : i = pre.length + B.length := by omega
   have hcl : clsL xs (pre.length, i) = B := by
    unfold clsL
    rw [e, ei, ← List.append_assoc, List.take_left' (by simp), List.drop_left]
   cases bs with
   | nil =>
    have hn : ¬ i < xs.length := by simp at hlen; omega
    rw [if_neg (fun q => hn q.1)]
    obtain rfl : f = 0 := by simp at hlen; omega
    rw [List.map_cons, hcl]
    rfl
   | cons C bs =>
    have hC := hb C (by simp)
    have hCl : 1 ≤ C.length := by
     cases C with
     | nil => exact absurd rfl hC.1
     | cons => simp
    have e2 : xs = (pre ++ B) ++ (C ++ bs.flatten) := by rw [e]; simp
    have hm : rd_T48 xs (i : Int) ∈ C := by
     have := rd_app (pre ++ B) C bs.flatten 0 (by omega)
     rw [← e2, show (pre ++ B).length + 0 = i by rw [List.length_append]; omega] at this
     exact this
    have hp' := List.pairwise_cons.1 hp
    rw [if_neg (fun q => hp'.1 C (by simp) _ hs _ hm q.2.symm), List.map_cons, hcl]
    have := ih bs (pre ++ B) C (i + 1) e2 (by omega) (by rw [List.length_append]; omega) (by rw [List.length_append]; omega) (fun D hD => hb D (by simp at hD ⊢; exact .inr hD)) hp'.2
    rw [List.length_append, ← ei] at this
    rw [this]
theorem grp_same {xs : List S48} {snaps : List Int} {b : Bool} {p : Nat × Nat} (h : GrpOk xs p) {L : List S48} (hL : Sqd xs snaps b p L) : ∀ x ∈ L, x.f0.toList = (rd_T48 xs (p.1 : Int)).f0.toList := by
 intro x hx
 obtain ⟨e, he, h0, _⟩ := hL.from_ x hx
 rw [h0]
 exact clsL_key h e he
theorem grp_pw {xs : List S48} (hr : rightB xs = true) : (grpAt xs xs.length 0 1).Pairwise (fun p q => Op.bytesLess (rd_T48 xs (p.1 : Int)).f0.toList (rd_T48 xs (q.1 : Int)).f0.toList = true) := by
 cases h : xs.length with
 | zero => simp [grpAt]
 | succ n =>
  have := (grp_pairs (right_pw xs none hr).1 xs.length 0 1 (by omega) (by omega) (by omega) (fun j h1 h2 => by rw [show j = 0 by omega])).2
  rw [h] at this
  exact this
theorem blocks_all {xs : List S48} (bs : List (List S48)) (e : xs = bs.flatten) (hb : ∀ C ∈ bs, C ≠ [] ∧ ∀ x ∈ C, ∀ y ∈ C, x.f0.toList = y.f0.toList) (hp : bs.Pairwise (fun C D => ∀ x ∈ C, ∀ y ∈ D, x.f0.toList ≠ y.f0.toList)) : (grpAt xs xs.length 0 1).map (clsL xs) = bs := by
 cases bs with
 | nil => subst e; rfl
 | cons B bs =>
  have hB := (hb B (by simp)).1
  have h1 : 1 ≤ B.length := by
   cases B with
   | nil => exact absurd rfl hB
   | cons => simp
  have hlen : xs.length = B.length + bs.flatten.length := by rw [e]; simp
  exact grp_blocks xs xs.length bs [] B 1 (by rw [e]; simp) (by omega) (by simp) (by simp; omega) hb hp
structure Twice (xs : List S48) (snaps : List Int) (b : Bool) (out : List S48) : Prop where
 right : rightB out = true
 good : ∀ x ∈ out, Good x
 same : sqB out snaps b = out
 one : (sqB out [] b).Pairwise (fun x y => x.f0.toList ≠ y.f0.toList)
theorem sq_twice {xs : List S48} (hr : rightB xs = true) (hl : xs.length ≤ 15) (hs : ∀ x ∈ xs, -100 ≤ x.f4 ∧ x.f4 ≤ 100) (snaps : List Int) (b : Bool) : Twice xs snaps b (sqB xs snaps b) := by
 have hg := grp_all xs
 have hpw := grp_pw hr
 have hq := fun p hp => grp_sqd hr hl hs snaps b (hg p hp)
 have hlen := sqB_len xs snaps b
 obtain ⟨ps, hps⟩ : ∃ ps, grpAt xs xs.length 0 1 = ps := ⟨_, rfl⟩
 obtain ⟨out, hout⟩ : ∃ out, sqB xs snaps b = out := ⟨_, rfl⟩
 have e0 : (ps.map fun p => keyL (clsL xs p) snaps b).flatten = out := by
  rw [← hout, ← hps]
  unfold sqB
  rw [if_pos hr]
  rfl
 rw [hps] at hg hpw hq
 rw [hout] at hlen ⊢
 obtain ⟨bs, hbs⟩ : ∃ bs, (ps.map fun p => keyL (clsL xs p) snaps b).filter (fun l => !l.isEmpty) = bs := ⟨_, rfl⟩
 have e1 : bs.flatten = out := by rw [← hbs, List.flatten_filter_not_isEmpty]; exact e0
 have hm : ∀ C ∈ bs, C ≠ [] ∧ ∃ p ∈ ps, Sqd xs snaps b p C := by
  intro C hC
  rw [← hbs] at hC
  obtain ⟨h1, h2⟩ := List.mem_filter.1 hC
  obtain ⟨p, hp, rfl⟩ := List.mem_map.1 h1
  exact ⟨fun q => by rw [q] at h2; simp at h2, p, hp, hq p hp⟩
 have hk : bs.Pairwise (fun C D => ∀ x ∈ C, ∀ y ∈ D, Op.bytesLess x.f0.toList y.f0.toList = true) := by
  rw [← hbs]
  refine List.Pairwise.filter _ (List.pairwise_map.2 (hpw.imp_of_mem (fun {p q} hp hq' h x hx y hy => ?_)))
  rw [grp_same (hg p hp) (hq p hp) x hx, grp_same (hg q hq') (hq q hq') y hy]
  exact h
 have hb1 : ∀ C ∈ bs, C ≠ [] ∧ ∀ x ∈ C, ∀ y ∈ C, x.f0.toList = y.f0.toList := fun C hC => by
  obtain ⟨h1, p, hp, h2⟩ := hm C hC
  exact ⟨h1, fun x hx y hy => (grp_same (hg p hp) h2 x hx).trans (grp_same (hg p hp) h2 y hy).symm⟩
 have ne : ∀ x y : S48, Op.bytesLess x.f0.toList y.f0.toList = true → x.f0.toList ≠ y.f0.toList := fun x y h q => by rw [q, bytesLess_irrefl] at h; cases h
 have hp1 : bs.Pairwise (fun C D => ∀ x ∈ C, ∀ y ∈ D, x.f0.toList ≠ y.f0.toList) := hk.imp (fun h x hx y hy => ne x y (h x hx y hy))
 have hin : ∀ x ∈ out, ∃ C ∈ bs, x ∈ C := fun x hx => by rw [← e1] at hx; exact List.mem_flatten.1 hx
 have hgood : ∀ x ∈ out, Good x := fun x hx => by
  obtain ⟨C, hC, hxC⟩ := hin x hx
  obtain ⟨_, p, hp, h2⟩ := hm C hC
  obtain ⟨e, he, _, _, g, _⟩ := h2.from_ x hxC
  exact g
 have hright : rightB out = true := by
  refine right_of out none (fun x hx => ?_) ?_ (fun z hz => by cases hz)
  ·
   obtain ⟨C, hC, hxC⟩ := hin x hx
   obtain ⟨_, p, hp, h2⟩ := hm C hC
   obtain ⟨e, he, g0, g1, g2, g3⟩ := h2.from_ x hxC
   exact ent_of (right_ents xs none hr e (clsL_sub e he)) g0 g1 g2 g3
  ·
   rw [← e1]
   refine List.pairwise_flatten.2 ⟨fun C hC => ?_, hk.imp (fun h x hx y hy => (lessB_iff ..).2 (.inl (h x hx y hy)))⟩
   obtain ⟨_, p, hp, h2⟩ := hm C hC
   refine h2.par.imp_of_mem (fun {x y} hx hy h => (lessB_iff ..).2 (.inr ⟨(hb1 C hC).2 x hx y hy, ?_⟩))
   obtain ⟨t, _, k1, k2⟩ := h
   omega
 have hblk := blocks_all bs e1.symm hb1 hp1
 have hsq : ∀ s : List Int, sqB out s b = (bs.map fun C => keyL C s b).flatten := by
  intro s
  unfold sqB squashB grpL
  rw [if_pos hright, ← hblk, List.map_map]
  rfl
 have hsm : ∀ C ∈ bs, C.length ≤ 100 ∧ SmallN C := fun C hC => by
  have hsub : ∀ x ∈ C, x ∈ out := fun x hx => by rw [← e1]; exact List.mem_flatten.2 ⟨C, hC, hx⟩
  have hle : C.length ≤ out.length := by
   rw [← e1]
   exact (List.sublist_flatten_of_mem hC).length_le
  exact ⟨by omega, fun x hx => (hgood x (hsub x hx)).2⟩
 refine ⟨hright, hgood, ?_, ?_⟩
 ·
  rw [hsq]
  have : (bs.map fun C => keyL C snaps b) = bs := by
   conv => rhs; rw [← List.map_id bs]
   refine List.map_congr_left (fun C hC => ?_)
   obtain ⟨_, p, hp, h2⟩ := hm C hC
   exact keyL_self h2.par (fun x hx => hgood x (by rw [← e1]; exact List.mem_flatten.2 ⟨C, hC, hx⟩)) h2.low
  rw [this, e1]
 ·
  rw [hsq]
  refine List.pairwise_flatten.2 ⟨fun D hD => ?_, List.pairwise_map.2 (hp1.imp_of_mem (fun {C D} hC hD h x hx y hy => ?_))⟩
  ·
   obtain ⟨C, hC, rfl⟩ := List.mem_map.1 hD
   have h1 := keyL_nil (hsm C hC).1 (hsm C hC).2 b
   match h : keyL C [] b with
   | [] => exact List.Pairwise.nil
   | [x] => simp
   | x :: y :: r => rw [h] at h1; simp at h1
  ·
   obtain ⟨x', hx', ex⟩ := keyL_keys (hsm C hC).1 (hsm C hC).2 [] b x hx
   obtain ⟨y', hy', ey⟩ := keyL_keys (hsm D hD).1 (hsm D hD).2 [] b y hy
   rw [ex, ey]
   exact h x' hx' y' hy'

theorem keys_right {ys : List S48} (h : rightB ys = true) : KeysSmall ys := by
 intro x hx
 have h := right_ents ys none h x hx
 unfold entB keyB at h
 simp only [Bool.and_eq_true, decide_eq_true_eq] at h
 have := h.1.1.1.1.1.1.1.2
 omega
theorem grp_first (xs : List S48) : ∀ f s i, i + f = xs.length + 1 → s < i → i ≤ xs.length → ∃ j ps, grpAt xs f s i = (s, j) :: ps ∧ i ≤ j ∧ j ≤ xs.length := by
 intro f
 induction f with
 | zero => intro s i h1 h2 h3; omega
 | succ f ih =>
  intro s i h1 h2 h3
  rw [grpAt]
  split
  ·
   rename_i h
   obtain ⟨j, ps, e, h4, h5⟩ := ih s (i + 1) (by omega) (by omega) (by omega)
   exact ⟨j, ps, e, by omega, h5⟩
  ·
   exact ⟨i, _, rfl, Nat.le_refl _, h3⟩
/-- A great first number stays great. -/
theorem sq_big {x0 : S48} {rest : List S48} (hr : rightB (x0 :: rest) = true) (hl : (x0 :: rest).length ≤ 15) (hs : ∀ x ∈ rest, -100 ≤ x.f4 ∧ x.f4 ≤ 100) (hk : x0.f2 = 1 ∨ x0.f2 = 3) (hn : x0.f4 = 1000000 ∨ x0.f4 = -1000000) (snaps : List Int) (b : Bool) :
  ∃ y tl, sqB (x0 :: rest) snaps b = y :: tl ∧ entB y.f0 y.f1 y.f2 y.f3 y.f4 = true ∧ ((x0.f4 = 1000000 ∧ y.f4 > 2000) ∨ (x0.f4 = -1000000 ∧ y.f4 < -2000)) := by
 have he0 := right_ents _ none hr x0 (by simp)
 obtain ⟨j, ps, e, h4, h5⟩ := grp_first (x0 :: rest) (x0 :: rest).length 0 1 (by omega) (by omega) (by simp)
 have hcl : clsL (x0 :: rest) (0, j) = x0 :: rest.take (j - 1) := by
  unfold clsL
  obtain ⟨m, rfl⟩ : ∃ m, j = m + 1 := ⟨j - 1, by omega⟩
  simp
 have hf := classesL_flat (clsL (x0 :: rest) (0, j)) snaps
 have hne := classesL_ne (clsL (x0 :: rest) (0, j)) snaps
 obtain ⟨cs, hcs⟩ : ∃ cs, classesL (clsL (x0 :: rest) (0, j)) snaps = cs := ⟨_, rfl⟩
 rw [hcs] at hf hne
 cases cs with
 | nil => rw [hcl] at hf; simp at hf
 | cons c cs =>
  have hc := hne c (by simp)
  cases c with
  | nil => exact absurd rfl hc.1
  | cons x1 r =>
   rw [hcl] at hf
   simp only [List.flatten_cons, List.cons_append, List.cons.injEq] at hf
   obtain ⟨rfl, hf2⟩ := hf
   have hsub : ∀ x ∈ r, x ∈ rest := fun x hx => List.mem_of_mem_take (by rw [← hf2]; simp [hx])
   have hrl : r.length ≤ 14 := by
    have := congrArg List.length hf2
    rw [List.length_append, List.length_take] at this
    simp at hl
    omega
   have hsq : ∃ tl, sqB (x1 :: rest) snaps b = classB (x1 :: r) (partsB cs b).2 ++ tl := by
    unfold sqB squashB
    rw [if_pos hr, e, grpL_cons]
    unfold keyL
    rw [hcs]
    simp only [partsB, List.flatten_cons, List.append_assoc]
    exact ⟨_, rfl⟩
   obtain ⟨tl, htl⟩ := hsq
   have hw : wrap64 (0 + x1.f4) = x1.f4 := by
    rw [Int.zero_add]
    exact w64 (by omega) (by omega)
   have hnear : x1.f4 - 1400 ≤ (oneGo (x1 :: r) true 0).2.2 ∧ (oneGo (x1 :: r) true 0).2.2 ≤ x1.f4 + 1400 := by
    rw [oneGo, hw]
    clear hw
    split
    ·
     have := oneGo_near r false x1.f4 (fun x hx => hs x (hsub x hx)) (by omega) (by omega) (by omega)
     omega
    ·
     split
     ·
      simp only
      omega
     ·
      omega
   have hgood := oneGo_good (x1 :: r) true 0
   have hkind := oneGo_kind x1 r 0
   clear hw
   by_cases hbig : (oneGo (x1 :: r) true 0).2.2 > 1000000 ∨ (oneGo (x1 :: r) true 0).2.2 < -1000000
   ·
    have hB : classB (x1 :: r) (partsB cs b).2 = x1 :: r := by
     unfold classB sqOne
     exact if_pos hbig
    rw [hB] at htl
    exact ⟨x1, r ++ tl, htl, he0, by omega⟩
   ·
    have hB := classB_one (e := x1) (r := r) (by omega) (partsB cs b).2
    have hk2 : (oneGo (x1 :: r) true 0).1 = 1 ∨ (oneGo (x1 :: r) true 0).1 = 3 := by
     rcases hkind with ⟨h, _⟩ | ⟨_, h, h'⟩
     ·
      exact h
     ·
      omega
    rw [if_neg (fun q => by have := q.2; omega)] at hB
    rw [hB] at htl
    refine ⟨_, tl, htl, ?_, by simp only; omega⟩
    unfold entB at he0 ⊢
    simp only [Bool.and_eq_true, decide_eq_true_eq] at he0 ⊢
    have ht : (oneGo (x1 :: r) true 0).2.1.size ≤ 60 ∧ ((oneGo (x1 :: r) true 0).1 = 3 → (oneGo (x1 :: r) true 0).2.1 = ⟨#[]⟩) := by
     rcases hgood with ⟨g1, g2⟩ | ⟨g1, g2⟩ | ⟨g1, _⟩
     ·
      refine ⟨?_, fun q => by omega⟩
      rcases g2 with g2 | ⟨y, hy, g2⟩
      ·
       rw [g2]; decide
      ·
       rw [g2]
       refine text_small (right_ents _ none hr y ?_)
       rcases List.mem_cons.1 hy with rfl | hy
       ·
        simp
       ·
        simp [hsub y hy]
     ·
      exact ⟨by rw [g2]; decide, fun _ => g2⟩
     ·
      omega
    refine ⟨⟨⟨⟨he0.1.1.1.1, ht.1⟩, by omega⟩, by omega⟩, ?_⟩
    unfold kindB
    by_cases h3 : (partsB cs b).2 = true ∧ (oneGo (x1 :: r) true 0).1 = 3
    ·
     rw [if_pos h3, if_pos rfl]
    ·
     rw [if_neg h3]
     rcases hk2 with h | h
     ·
      rw [if_pos h]
     ·
      rw [if_neg (by omega), if_neg (by omega), if_pos h, ht.2 h, ByteArray.toList_eq]
      rfl
theorem twice_nil (xs : List S48) (snaps : List Int) (b : Bool) : Twice xs snaps b [] := by
 have h : ∀ s, sqB [] s b = [] := fun s => by simp [sqB, rightB, rightFrom, squashB, grpL, grpAt]
 exact ⟨rfl, fun x hx => by simp at hx, h snaps, by rw [h]; exact List.Pairwise.nil⟩
theorem twice_l0 (xs : List S48) (snaps : List Int) (b : Bool) (out : List S48) (ho : out.length ≤ 15) (T : Twice xs snaps b out) : EvP (fun k => laws_FnSquashTwice.l0 k xs snaps b out 0) (· = true) := by
 have hk := keys_right T.right
 have hpw := (right_pw out none T.right).1
 have hone := sqB_len out [] b
 obtain ⟨one, h1⟩ : ∃ one, sqB out [] b = one := ⟨_, rfl⟩
 have hdiff := T.one
 rw [h1] at hone hdiff
 have fin : EvP (fun k => (impl_Squash.f k out snaps b).bind fun t => (laws_wpEnts.f k t out).bind fun t2 => some t2) (· = true) := by
  refine EvP.bind (impl_Squash_ev out snaps b (by omega) hk) ?_
  rintro _ rfl
  rw [T.same]
  refine EvP.bind (wpEnts_same out (by omega)) ?_
  rintro _ rfl
  exact EvP.now rfl
 have l1 : ∀ (m i : Nat), 1 ≤ i → i ≤ 100 → one.length ≤ i + m → EvP (fun k => laws_FnSquashTwice.l1 k snaps b out one (i : Int)) (· = true) := by
  intro m
  induction m with
  | zero =>
   intro i _ _ hi
   exact EvP.step (fun k => by rw [laws_FnSquashTwice.l1]) (EvP.neg (by omega) fin)
  | succ m ih =>
   intro i hi0 hi1 hi
   by_cases h : i < one.length
   ·
    have e1 : wrap64 ((i : Int) - 1) = ((i - 1 : Nat) : Int) := by rw [w64 (by omega) (by omega)]; omega
    have e2 : wrap64 ((i : Int) + 1) = ((i + 1 : Nat) : Int) := by rw [w64 (by omega) (by omega)]; omega
    have hne := List.pairwise_iff_getElem.1 hdiff (i - 1) i (by omega) h (by omega)
    rw [← rd_at one (i - 1) (by omega), ← rd_at one i h] at hne
    have step := ih (i + 1) (by omega) (by omega) (by omega)
    refine EvP.step (fun k => by rw [laws_FnSquashTwice.l1]) ?_
    rw [e1, e2]
    clear e1 e2
    exact EvP.pos (by omega) (EvP.pos (by omega) (EvP.pos (by omega) (EvP.pos (by omega) (EvP.neg (fun q => hne q.symm) step))))
   ·
    exact EvP.step (fun k => by rw [laws_FnSquashTwice.l1]) (EvP.neg (by omega) fin)
 have key : ∀ (m i : Nat), i + m = out.length → EvP (fun k => laws_FnSquashTwice.l0 k xs snaps b out (i : Int)) (· = true) := by
  intro m
  induction m with
  | zero =>
   intro i hi
   refine EvP.step (fun k => by rw [laws_FnSquashTwice.l0]) (EvP.neg (by omega) ?_)
   refine EvP.bind (impl_Squash_ev out [] b (by omega) hk) ?_
   rintro _ rfl
   rw [h1]
   exact l1 one.length 1 (Nat.le_refl _) (by omega) (by omega)
  | succ m ih =>
   intro i hi
   have hmem : rd_T48 out (i : Int) ∈ out := rd_mem out i (by omega)
   have hent := right_ents out none T.right _ hmem
   have hgd := (T.good _ hmem).2
   have hkx := hk _ hmem
   have e2 : wrap64 ((i : Int) + 1) = ((i + 1 : Nat) : Int) := by rw [w64 (by omega) (by omega)]; omega
   have step := ih (i + 1) (by omega)
   refine EvP.step (fun k => by rw [laws_FnSquashTwice.l0]) ?_
   rw [e2]
   clear e2
   refine EvP.pos (by omega) (EvP.pos (by omega) (EvP.bind (impl_EntryOk_ev _ _ _ _ _ hkx) ?_))
   rintro _ rfl
   refine EvP.pos hent (EvP.split (fun hpos => ?_) (fun _ => EvP.neg (by omega) (EvP.neg (by omega) step)))
   have e1 : wrap64 ((i : Int) - 1) = ((i - 1 : Nat) : Int) := by rw [w64 (by omega) (by omega)]; omega
   have hlt := List.pairwise_iff_getElem.1 hpw (i - 1) i (by omega) (by omega) (by omega)
   rw [← rd_at out (i - 1) (by omega), ← rd_at out i (by omega)] at hlt
   rw [e1]
   clear e1
   simp only [impl_EntryLess_eq, Option.bind_some]
   exact EvP.pos (by omega) (EvP.pos (by omega) (EvP.pos hlt (EvP.neg (by omega) (EvP.neg (by omega) step))))
 exact key out.length 0 (by omega)
theorem FnSquashTwice (l0 : List Int) (g0 : l0.length ≤ maxLen ∧ ∀ x ∈ l0, (Lit.int .u8 x).wf = true) : ∃ k, laws_FnSquashTwice.f k l0 = some true := by
 refine EvP.done ?_
 unfold laws_FnSquashTwice.f
 refine EvP.split (fun _ => EvP.now rfl) (fun _ => ?_)
 refine EvP.bind (spec_DrawSquash_ev l0 g0.2) ?_
 rintro ⟨xs, snaps, b⟩ hd
 obtain ⟨n1, hk⟩ := drawn_small hd
 have hs := hd.1.1
 simp only at n1 hk hs ⊢
 have hq := sqB_len xs snaps b
 refine EvP.bind (impl_Squash_ev xs snaps b (by omega) hk) ?_
 rintro _ rfl
 refine EvP.bind (spec_Squash_ev xs snaps b (by omega) (by omega) hk) ?_
 rintro _ rfl
 refine EvP.bind (wpEnts_same _ (by omega)) ?_
 rintro _ rfl
 refine EvP.pos rfl ?_
 by_cases hr : rightB xs = true
 ·
  obtain ⟨_, top, ⟨h14, hT⟩, hx⟩ := hd
  simp only at hx
  rcases hx with rfl | ⟨e, rest, rfl, _, rfl⟩
  ·
   rcases hT with hT | ⟨e, rest, n, hi, hk2, hn, rfl⟩
   ·
    exact twice_l0 xs snaps b _ (by omega) (sq_twice hr n1 (fun x hx => by have h1 := (hT x hx).nlo; have h2 := (hT x hx).nhi; omega) snaps b)
   ·
    have hke := (hi e (by simp)).kind
    obtain ⟨y, tl, hsq, hent, hy⟩ := sq_big (x0 := bigOf e n) hr n1 (fun x hx => by have h1 := (hi x (by simp [hx])).nlo; have h2 := (hi x (by simp [hx])).nhi; omega) (by show e.f2 = 1 ∨ e.f2 = 3; omega) hn snaps b
    rw [hsq]
    have hr0 : rd_T48 (y :: tl) 0 = y := by simp [rd_T48]
    have hr1 : rd_T48 (bigOf e n :: rest) 0 = bigOf e n := by simp [rd_T48]
    have hky : y.f0.size ≤ 140737488351232 := by
     have h := hent
     unfold entB keyB at h
     simp only [Bool.and_eq_true, decide_eq_true_eq] at h
     have := h.1.1.1.1.1.1.1.2
     omega
    refine EvP.step (fun k => by rw [laws_FnSquashTwice.l0]) (EvP.pos (by simp <;> omega) (EvP.pos (by omega) ?_))
    rw [hr0, hr1]
    refine EvP.bind (impl_EntryOk_ev _ _ _ _ _ hky) ?_
    rintro _ rfl
    refine EvP.pos hent (EvP.neg (by omega) ?_)
    rcases hy with ⟨h1, h2⟩ | ⟨h1, h2⟩
    ·
     exact EvP.pos h2 (EvP.pos (by simp <;> omega) (EvP.pos (by simp <;> omega) (EvP.pos (by rw [h1]; decide) (EvP.now rfl))))
    ·
     exact EvP.neg (by omega) (EvP.pos h2 (EvP.pos (by simp <;> omega) (EvP.pos (by simp <;> omega) (EvP.neg (by rw [h1]; decide) (EvP.now (by rw [h1]; decide))))))
  ·
   have h := List.pairwise_append.1 (right_pw _ none hr).1
   have h2 : LtR e e := h.2.2 e (by simp) e (by simp)
   unfold LtR at h2
   rw [lessB_irrefl] at h2
   cases h2
 ·
  have h0 : sqB xs snaps b = [] := by unfold sqB; rw [if_neg hr]
  rw [h0]
  exact twice_l0 xs snaps b [] (by simp) (twice_nil xs snaps b)


end Go.Proofs.Ytcfebbhiehaocaa.Pure
