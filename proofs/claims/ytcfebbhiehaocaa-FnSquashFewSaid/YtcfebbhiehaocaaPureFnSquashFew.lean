/- Squash leaves few entries: whatever is drawn, no more with fewer times, no more at the lowest, at most as many for each key as there are stretches between times; at the lowest each key's last is a Put; no condition. -/
import Derived.Test.YtcfebbhiehaocaaQFnSquashFewx15
import Derived.Test.YtcfebbhiehaocaaBBase
set_option linter.unusedVariables false
set_option linter.unusedSimpArgs false
namespace Go.Proofs.Ytcfebbhiehaocaa.Pure
open Go.RowKit Go.Proofs.Ytcfebbhiehaocaa.QFnSquashFew Go.Proofs.YtcfebbhiehaocaaW.PrintWords Go.Proofs.YtcfebbhiehaocaaW.PrintLast Go.Proofs.YtcfebbhiehaocaaW.PrintMore Go.Proofs.Ytcfebbhiehaocaa.B

theorem rd_midE (pre rest : List S48) (x : S48) : rd_T48 (pre ++ x :: rest) (pre.length : Int) = x := by simp [rd_T48]

def entKey (x : S48) : List UInt8 × Int × Int × List UInt8 × Int := (x.f0.toList, x.f1, x.f2, x.f3.toList, x.f4)
theorem entNe (x y : S48) : (!((x.f0.toList) == (y.f0.toList)) || (!((x.f1) == (y.f1)) || (!((x.f2) == (y.f2)) || (!((x.f3.toList) == (y.f3.toList)) || (!((x.f4) == (y.f4))))))) = !decide (entKey x = entKey y) := by
 unfold entKey
 by_cases c1 : x.f0.toList = y.f0.toList <;> by_cases c2 : x.f1 = y.f1 <;> by_cases c3 : x.f2 = y.f2 <;> by_cases c4 : x.f3.toList = y.f3.toList <;> by_cases c5 : x.f4 = y.f4 <;> simp [c1, c2, c3, c4, c5]

/-! ### KeyOk -/
def keyByteB (c : Int) : Bool := decide ((97 ≤ c ∧ c ≤ 122) ∨ (47 ≤ c ∧ c ≤ 57))
/-- d bytes from place i on are all a to z, 0 to 9 or a slash. -/
def keysB (s : ByteArray) : Nat → Int → Bool
 | 0, _ => true
 | d + 1, i => keyByteB (bt s i) && keysB s d (i + 1)
def keyB (s : ByteArray) : Bool := decide (1 ≤ s.size) && decide (s.size ≤ 8) && keysB s s.size 0
theorem spec_KeyOk_l0 (s : ByteArray) (hs : s.size ≤ 140737488351232) : ∀ (d : Nat) (i : Int), 0 ≤ i → i + d = s.size →
  EvP (fun k => spec_KeyOk.l0 k s i) (· = (decide (1 ≤ s.size) && decide (s.size ≤ 8) && keysB s d i)) := by
 intro d
 induction d with
 | zero =>
  intro i h0 h
  refine EvP.step (fun k => by rw [spec_KeyOk.l0]) ?_
  refine EvP.neg (by omega) ?_
  refine EvP.split (fun h => ?_) (fun h => ?_)
  ·
   refine EvP.now ?_
   have e1 : decide (1 ≤ s.size) = true := decide_eq_true (by omega)
   have e2 : decide ((s.size : Int) ≤ 8) = decide (s.size ≤ 8) := by rw [decide_eq_decide]; omega
   simp only [keysB, e1, e2, Bool.true_and, Bool.and_true]
  ·
   refine EvP.now ?_
   have e1 : decide (1 ≤ s.size) = false := decide_eq_false (by omega)
   simp only [keysB, e1, Bool.false_and]
 | succ d ih =>
  intro i h0 h
  refine EvP.step (fun k => by rw [spec_KeyOk.l0]) ?_
  refine EvP.pos (by omega) (EvP.pos (by omega) ?_)
  have := ih (i + 1) (by omega) (by omega)
  rw [w64 (by omega) (by omega)]
  repeat' with_reducible refine EvP.split (fun _ => ?_) (fun _ => ?_)
  all_goals first
   | (refine EvP.now ?_; have e1 : keyByteB (bt s i) = false := decide_eq_false (by omega); simp only [keysB, e1, Bool.false_and, Bool.and_false])
   | (have e1 : keyByteB (bt s i) = true := decide_eq_true (by omega); simp only [keysB, e1, Bool.true_and]; exact this)
theorem spec_KeyOk_ev (s : ByteArray) (hs : s.size ≤ 140737488351232) : EvP (fun k => spec_KeyOk.f k s) (· = keyB s) :=
 spec_KeyOk_l0 s hs s.size 0 (by omega) (by omega)
theorem impl_KeyOk_l0 (s : ByteArray) (hs : s.size ≤ 140737488351232) : ∀ (d : Nat) (i : Int), 0 ≤ i → i + d = s.size →
  EvP (fun k => impl_KeyOk.l0 k s (s.size : Int) i) (· = keysB s d i) := by
 intro d
 induction d with
 | zero =>
  intro i h0 h
  refine EvP.step (fun k => by rw [impl_KeyOk.l0]) ?_
  refine EvP.neg (by omega) ?_
  exact EvP.now (by simp [keysB])
 | succ d ih =>
  intro i h0 h
  refine EvP.step (fun k => by rw [impl_KeyOk.l0]) ?_
  refine EvP.pos (by omega) (EvP.pos (by omega) (EvP.pos (by omega) ?_))
  have := ih (i + 1) (by omega) (by omega)
  rw [w64 (by omega) (by omega)]
  repeat' with_reducible refine EvP.split (fun _ => ?_) (fun _ => ?_)
  all_goals first
   | (refine EvP.now ?_; have e1 : keyByteB (bt s i) = false := decide_eq_false (by omega); simp only [keysB, e1, Bool.false_and, Bool.and_false])
   | (have e1 : keyByteB (bt s i) = true := decide_eq_true (by omega); simp only [keysB, e1, Bool.true_and]; exact this)
theorem impl_KeyOk_ev (s : ByteArray) (hs : s.size ≤ 140737488351232) : EvP (fun k => impl_KeyOk.f k s) (· = keyB s) := by
 unfold impl_KeyOk.f keyB
 refine EvP.split (fun h => ?_) (fun h => ?_)
 ·
  refine EvP.step (fun k => by rw [impl_KeyOk.j0]) (EvP.pos rfl (EvP.now ?_))
  have e1 : decide (1 ≤ s.size) = false := decide_eq_false (by omega)
  simp [e1]
 ·
  have e1 : decide (1 ≤ s.size) = true := decide_eq_true (by omega)
  refine EvP.step (fun k => by rw [impl_KeyOk.j0]) (EvP.split (fun h1 => EvP.now ?_) (fun h1 => ?_))
  ·
   have := of_decide_eq_true h1
   have e2 : decide (s.size ≤ 8) = false := decide_eq_false (by omega)
   simp [e2]
  ·
   have : ¬ (s.size : Int) > 8 := fun h => h1 (decide_eq_true h)
   have e2 : decide (s.size ≤ 8) = true := decide_eq_true (by omega)
   simp only [e1, e2, Bool.true_and]
   exact impl_KeyOk_l0 s hs s.size 0 (by omega) (by omega)

/-! ### EntryOk -/
def kindB (kind : Int) (x : ByteArray) (n : Int) : Bool :=
 if kind = 1 then true else if kind = 2 then (if x.toList = ([] : List UInt8) then (n == 0) else false) else if kind = 3 then (x.toList == ([] : List UInt8)) else false
def entB (k : ByteArray) (seq kind : Int) (x : ByteArray) (n : Int) : Bool :=
 keyB k && decide (1 ≤ seq) && decide (seq ≤ 100000) && decide (x.size ≤ 60) && decide (-1000000 ≤ n) && decide (n ≤ 1000000) && kindB kind x n
theorem spec_EntryOk_j0 (b : Bool) (k : ByteArray) (seq kind : Int) (x : ByteArray) (n : Int) : EvP (fun q => spec_EntryOk.j0 q b k seq kind x n) (· = (!b && kindB kind x n)) := by
 refine EvP.step (fun k => by rw [spec_EntryOk.j0]) ?_
 cases b
 ·
  refine EvP.neg (by simp) ?_
  simp only [kindB, Bool.not_false, Bool.true_and]
  repeat' with_reducible refine EvP.split (fun _ => ?_) (fun _ => ?_)
  all_goals exact EvP.now (by simp [*])
 ·
  exact EvP.pos rfl (EvP.now (by simp))
theorem impl_EntryOk_j1 (b : Bool) (k : ByteArray) (seq kind : Int) (x : ByteArray) (n : Int) : EvP (fun q => impl_EntryOk.j1 q b k seq kind x n) (· = (!b && kindB kind x n)) := by
 refine EvP.step (fun k => by rw [impl_EntryOk.j1]) ?_
 cases b
 ·
  refine EvP.neg (by simp) ?_
  simp only [kindB, Bool.not_false, Bool.true_and]
  repeat' with_reducible refine EvP.split (fun _ => ?_) (fun _ => ?_)
  all_goals exact EvP.now (by simp [*])
 ·
  exact EvP.pos rfl (EvP.now (by simp))
theorem impl_EntryOk_j0 (b : Bool) (k : ByteArray) (seq kind : Int) (x : ByteArray) (n : Int) : EvP (fun q => impl_EntryOk.j0 q b k seq kind x n) (· = (!b && decide (-1000000 ≤ n) && decide (n ≤ 1000000) && kindB kind x n)) := by
 refine EvP.step (fun k => by rw [impl_EntryOk.j0]) ?_
 cases b
 ·
  refine EvP.neg (by simp) (EvP.split (fun h => (impl_EntryOk_j1 ..).mono ?_) (fun h => (impl_EntryOk_j1 ..).mono ?_))
  ·
   rintro _ rfl
   have e : decide (-1000000 ≤ n) = false := decide_eq_false (by omega)
   simp [e]
  ·
   rintro _ rfl
   have e : decide (-1000000 ≤ n) = true := decide_eq_true (by omega)
   have e2 : (!decide (n > 1000000)) = decide (n ≤ 1000000) := by rw [Bool.eq_iff_iff]; simp
   simp only [e, e2, Bool.not_false, Bool.true_and]
 ·
  exact EvP.pos rfl (EvP.now (by simp))
theorem spec_l3Sum_eq (n : Int) : spec_l3Sum.f n = some (decide (-1000000 ≤ n) && decide (n ≤ 1000000)) := by
 unfold spec_l3Sum.f
 split
 ·
  have e : decide (-1000000 ≤ n) = true := decide_eq_true (by omega)
  simp [e]
 ·
  have e : decide (-1000000 ≤ n) = false := decide_eq_false (by omega)
  simp [e]
theorem not_gt60 (x : ByteArray) : (!decide ((x.size : Int) > 60)) = decide (x.size ≤ 60) := by
 rw [Bool.eq_iff_iff]
 simp
 omega
theorem spec_EntryOk_ev (k : ByteArray) (seq kind : Int) (x : ByteArray) (n : Int) (hk : k.size ≤ 140737488351232) : EvP (fun q => spec_EntryOk.f q k seq kind x n) (· = entB k seq kind x n) := by
 unfold spec_EntryOk.f
 refine EvP.bind (spec_KeyOk_ev k hk) ?_
 rintro _ rfl
 simp only [spec_l3Sum_eq, Option.bind_some]
 cases hK : keyB k
 ·
  refine EvP.neg (by simp) ((spec_EntryOk_j0 ..).mono ?_)
  rintro _ rfl
  simp [entB, hK]
 ·
  refine EvP.pos rfl (EvP.split (fun h => (spec_EntryOk_j0 ..).mono ?_) (fun h => EvP.split (fun h => (spec_EntryOk_j0 ..).mono ?_) (fun h => EvP.split (fun h => (spec_EntryOk_j0 ..).mono ?_) (fun h => (spec_EntryOk_j0 ..).mono ?_))))
  ·
   rintro _ rfl
   have e : decide (1 ≤ seq) = false := decide_eq_false (by omega)
   simp [entB, hK, e]
  ·
   rintro _ rfl
   have e : decide (seq ≤ 100000) = false := decide_eq_false (by omega)
   simp [entB, hK, e]
  ·
   rintro _ rfl
   have e1 : decide (1 ≤ seq) = true := decide_eq_true (by omega)
   have e2 : decide (seq ≤ 100000) = true := decide_eq_true (by omega)
   simp only [Bool.and_eq_true] at h
   simp only [entB, hK, e1, e2, h.1, h.2, not_gt60, Bool.true_and, Bool.and_true]
  ·
   rintro _ rfl
   have : (decide (-1000000 ≤ n) && decide (n ≤ 1000000)) = false := by simpa using h
   have e : (decide (-1000000 ≤ n) && decide (n ≤ 1000000) && kindB kind x n) = false := by rw [this]; rfl
   simp only [entB, Bool.and_assoc] at e ⊢
   rw [e]
   simp
theorem impl_EntryOk_ev (k : ByteArray) (seq kind : Int) (x : ByteArray) (n : Int) (hk : k.size ≤ 140737488351232) : EvP (fun q => impl_EntryOk.f q k seq kind x n) (· = entB k seq kind x n) := by
 unfold impl_EntryOk.f
 refine EvP.bind (impl_KeyOk_ev k hk) ?_
 rintro _ rfl
 cases hK : keyB k
 ·
  refine EvP.neg (by simp) ((impl_EntryOk_j0 ..).mono ?_)
  rintro _ rfl
  simp [entB, hK]
 ·
  refine EvP.pos rfl (EvP.split (fun h => (impl_EntryOk_j0 ..).mono ?_) (fun h => EvP.split (fun h => (impl_EntryOk_j0 ..).mono ?_) (fun h => (impl_EntryOk_j0 ..).mono ?_)))
  ·
   rintro _ rfl
   have e : decide (1 ≤ seq) = false := decide_eq_false (by omega)
   simp [entB, hK, e]
  ·
   rintro _ rfl
   have e : decide (seq ≤ 100000) = false := decide_eq_false (by omega)
   simp [entB, hK, e]
  ·
   rintro _ rfl
   have e1 : decide (1 ≤ seq) = true := decide_eq_true (by omega)
   have e2 : decide (seq ≤ 100000) = true := decide_eq_true (by omega)
   simp only [entB, hK, e1, e2, not_gt60, Bool.true_and, Bool.and_true]

/-! ### EntryLess -/
def lessB (k1 : ByteArray) (s1 : Int) (k2 : ByteArray) (s2 : Int) : Bool := if k1.toList = k2.toList then decide (s1 > s2) else Op.bytesLess k1.toList k2.toList
theorem bytesLess_irrefl : ∀ l : List UInt8, Op.bytesLess l l = false := by
 intro l
 induction l with
 | nil => rfl
 | cons a l ih => simp [Op.bytesLess, ih]
theorem spec_EntryLess_eq (a0 : ByteArray) (a1 a2 : Int) (a3 : ByteArray) (a4 : Int) (b0 : ByteArray) (b1 b2 : Int) (b3 : ByteArray) (b4 : Int) : spec_EntryLess.f a0 a1 a2 a3 a4 b0 b1 b2 b3 b4 = some (lessB a0 a1 b0 b1) := by
 unfold spec_EntryLess.f lessB
 by_cases h : a0.toList = b0.toList
 ·
  rw [h, bytesLess_irrefl]
  simp
 ·
  cases hb : Op.bytesLess a0.toList b0.toList <;> simp [h]
theorem impl_EntryLess_eq (a0 : ByteArray) (a1 a2 : Int) (a3 : ByteArray) (a4 : Int) (b0 : ByteArray) (b1 b2 : Int) (b3 : ByteArray) (b4 : Int) : impl_EntryLess.f a0 a1 a2 a3 a4 b0 b1 b2 b3 b4 = some (lessB a0 a1 b0 b1) := by
 unfold impl_EntryLess.f lessB
 split <;> rfl
theorem bl_cons (a b : UInt8) (x y : List UInt8) : Op.bytesLess (a :: x) (b :: y) = true ↔ a.toNat < b.toNat ∨ (a = b ∧ Op.bytesLess x y = true) := by
 simp [Op.bytesLess, UInt8.lt_iff_toNat_lt]
theorem bl_trans : ∀ x y z : List UInt8, Op.bytesLess x y = true → Op.bytesLess y z = true → Op.bytesLess x z = true := by
 intro x
 induction x with
 | nil =>
  intro y z h k
  cases z with
  | nil => cases y <;> simp [Op.bytesLess] at k
  | cons c z => rfl
 | cons a x ih =>
  intro y z h k
  cases y with
  | nil => simp [Op.bytesLess] at h
  | cons b y =>
   cases z with
   | nil => simp [Op.bytesLess] at k
   | cons c z =>
    rw [bl_cons] at h k ⊢
    rcases h with h | ⟨rfl, h⟩ <;> rcases k with k | ⟨rfl, k⟩
    ·
     exact .inl (by omega)
    ·
     exact .inl h
    ·
     exact .inl k
    ·
     exact .inr ⟨rfl, ih _ _ h k⟩
theorem bl_asymm (x y : List UInt8) (h : Op.bytesLess x y = true) : Op.bytesLess y x = false := by
 cases k : Op.bytesLess y x
 ·
  rfl
 ·
  have := bl_trans _ _ _ h k
  rw [bytesLess_irrefl] at this
  cases this
theorem bl_total : ∀ x y : List UInt8, x ≠ y → Op.bytesLess x y = false → Op.bytesLess y x = true := by
 intro x
 induction x with
 | nil =>
  intro y h k
  cases y with
  | nil => exact absurd rfl h
  | cons b y => simp [Op.bytesLess] at k
 | cons a x ih =>
  intro y h k
  cases y with
  | nil => rfl
  | cons b y =>
   have k' : ¬ Op.bytesLess (a :: x) (b :: y) = true := by rw [k]; simp
   rw [bl_cons] at k' ⊢
   by_cases hab : a = b
   ·
    subst hab
    refine .inr ⟨rfl, ih y (fun e => h (by rw [e])) ?_⟩
    cases q : Op.bytesLess x y
    ·
     rfl
    ·
     exact absurd (.inr ⟨rfl, q⟩) k'
   ·
    refine .inl ?_
    have : a.toNat ≠ b.toNat := fun e => hab (UInt8.toNat.inj e)
    have : ¬ a.toNat < b.toNat := fun e => k' (.inl e)
    omega
theorem lessB_iff (k1 : ByteArray) (s1 : Int) (k2 : ByteArray) (s2 : Int) : lessB k1 s1 k2 s2 = true ↔ Op.bytesLess k1.toList k2.toList = true ∨ (k1.toList = k2.toList ∧ s2 < s1) := by
 unfold lessB
 split
 ·
  rename_i h
  rw [h, bytesLess_irrefl]
  simp
 ·
  rename_i h
  simp [h]
theorem lessB_irrefl (k : ByteArray) (s : Int) : lessB k s k s = false := by simp [lessB]
theorem lessB_trans {k1 k2 k3 : ByteArray} {s1 s2 s3 : Int} (h : lessB k1 s1 k2 s2 = true) (k : lessB k2 s2 k3 s3 = true) : lessB k1 s1 k3 s3 = true := by
 rw [lessB_iff] at h k ⊢
 rcases h with h | ⟨h, h'⟩ <;> rcases k with k | ⟨k, k'⟩
 ·
  exact .inl (bl_trans _ _ _ h k)
 ·
  exact .inl (k ▸ h)
 ·
  exact .inl (h ▸ k)
 ·
  exact .inr ⟨h.trans k, by omega⟩
theorem lessB_asymm {k1 k2 : ByteArray} {s1 s2 : Int} (h : lessB k1 s1 k2 s2 = true) : lessB k2 s2 k1 s1 = false := by
 cases k : lessB k2 s2 k1 s1
 ·
  rfl
 ·
  have := lessB_trans h k
  rw [lessB_irrefl] at this
  cases this
theorem lessB_total {k1 k2 : ByteArray} {s1 s2 : Int} (h : lessB k1 s1 k2 s2 = false) (k : lessB k2 s2 k1 s1 = false) : k1.toList = k2.toList ∧ s1 = s2 := by
 have h' : ¬ lessB k1 s1 k2 s2 = true := by rw [h]; simp
 have k' : ¬ lessB k2 s2 k1 s1 = true := by rw [k]; simp
 rw [lessB_iff] at h' k'
 by_cases e : k1.toList = k2.toList
 ·
  refine ⟨e, ?_⟩
  have a : ¬ s2 < s1 := fun x => h' (.inr ⟨e, x⟩)
  have b : ¬ s1 < s2 := fun x => k' (.inr ⟨e.symm, x⟩)
  omega
 ·
  cases q : Op.bytesLess k1.toList k2.toList
  ·
   exact absurd (.inl (bl_total _ _ e q)) k'
  ·
   exact absurd (.inl q) h'

/-! ### Entries right and in order; their marks -/
def rightFrom : Option S48 → List S48 → Bool
 | _, [] => true
 | p, x :: r => entB x.f0 x.f1 x.f2 x.f3 x.f4 && ((match p with | none => true | some y => lessB y.f0 y.f1 x.f0 x.f1) && rightFrom (some x) r)
def rightB (xs : List S48) : Bool := rightFrom none xs
def KeysSmall (xs : List S48) : Prop := ∀ x ∈ xs, x.f0.size ≤ 140737488351232
theorem last_snoc (pre : List S48) (x : S48) : (pre ++ [x]).getLast? = some x := by simp
theorem rd_prev (pre rest : List S48) (y : S48) (h : pre.getLast? = some y) (h0 : 0 < pre.length) : rd_T48 (pre ++ rest) ((pre.length : Int) - 1) = y := by
 obtain ⟨ini, rfl⟩ := List.getLast?_eq_some_iff.1 h
 have e : (((ini ++ [y]).length : Int) - 1) = (ini.length : Int) := by simp
 rw [e, List.append_assoc]
 exact rd_midE ini rest y
theorem spec_l4Right_l0 (xs : List S48) (hx : xs.length ≤ 1048576) (hk : KeysSmall xs) : ∀ (rest pre : List S48), xs = pre ++ rest → EvP (fun k => spec_l4Right.l0 k xs (pre.length : Int)) (· = rightFrom pre.getLast? rest) := by
 intro rest
 induction rest with
 | nil =>
  intro pre e
  refine EvP.step (fun k => by rw [spec_l4Right.l0]) (EvP.neg (by simp [e]) (EvP.now (by cases pre.getLast? <;> rfl)))
 | cons x rest ih =>
  intro pre e
  have hl : xs.length = pre.length + (rest.length + 1) := by rw [e]; simp
  have hr : rd_T48 xs (pre.length : Int) = x := by rw [e]; exact rd_midE pre rest x
  refine EvP.step (fun k => by rw [spec_l4Right.l0]) (EvP.pos (by omega) (EvP.pos (by omega) ?_))
  rw [hr]
  refine EvP.bind (spec_EntryOk_ev _ _ _ _ _ (hk x (by rw [e]; simp))) ?_
  rintro _ rfl
  have e2 : wrap64 ((pre.length : Int) + 1) = ((pre ++ [x]).length : Int) := by rw [w64 (by omega) (by omega)]; simp
  have step := ih (pre ++ [x]) (by rw [e]; simp)
  rw [last_snoc] at step
  refine EvP.split (fun hb => EvP.split (fun hpos => ?_) (fun hpos => ?_)) (fun hb => EvP.now ?_)
  ·
   have hp : 0 < pre.length := by omega
   obtain ⟨y, hy⟩ : ∃ y, pre.getLast? = some y := by
    cases h : pre.getLast? with
    | none => rw [List.getLast?_eq_none_iff] at h; rw [h] at hp; simp at hp
    | some y => exact ⟨y, rfl⟩
   have e3 : wrap64 ((pre.length : Int) - 1) = (pre.length : Int) - 1 := w64 (by omega) (by omega)
   have hr2 : rd_T48 xs ((pre.length : Int) - 1) = y := by rw [e]; exact rd_prev pre _ y hy hp
   rw [e3, hr2, spec_EntryLess_eq]
   simp only [Option.bind_some]
   refine EvP.pos (by omega) (EvP.pos (by omega) (EvP.split (fun hc => ?_) (fun hc => EvP.now ?_)))
   ·
    rw [e2]
    refine step.mono ?_
    rintro _ rfl
    simp [rightFrom, hb, hy, hc]
   ·
    simp [rightFrom, hy, hc]
  ·
   obtain rfl : pre = [] := List.eq_nil_of_length_eq_zero (by omega)
   rw [e2]
   refine step.mono ?_
   rintro _ rfl
   simp [rightFrom, hb]
  ·
   simp [rightFrom, hb]
theorem spec_l4Right_ev (xs : List S48) (hx : xs.length ≤ 1048576) (hk : KeysSmall xs) : EvP (fun k => spec_l4Right.f k xs) (· = rightB xs) := spec_l4Right_l0 xs hx hk xs [] rfl
theorem impl_inOrder_l0 (xs : List S48) (hx : xs.length ≤ 1048576) (hk : KeysSmall xs) : ∀ (rest pre : List S48), xs = pre ++ rest → EvP (fun k => impl_inOrder.l0 k xs xs (xs.length : Int) (pre.length : Int)) (· = rightFrom pre.getLast? rest) := by
 intro rest
 induction rest with
 | nil =>
  intro pre e
  refine EvP.step (fun k => by rw [impl_inOrder.l0]) (EvP.neg (by simp [e]) (EvP.now (by cases pre.getLast? <;> rfl)))
 | cons x rest ih =>
  intro pre e
  have hl : xs.length = pre.length + (rest.length + 1) := by rw [e]; simp
  have hr : rd_T48 xs (pre.length : Int) = x := by rw [e]; exact rd_midE pre rest x
  refine EvP.step (fun k => by rw [impl_inOrder.l0]) (EvP.pos (by omega) (EvP.pos (by omega) (EvP.pos (by omega) ?_)))
  rw [hr]
  refine EvP.bind (impl_EntryOk_ev _ _ _ _ _ (hk x (by rw [e]; simp))) ?_
  rintro _ rfl
  have e2 : wrap64 ((pre.length : Int) + 1) = ((pre ++ [x]).length : Int) := by rw [w64 (by omega) (by omega)]; simp
  have step := ih (pre ++ [x]) (by rw [e]; simp)
  rw [last_snoc] at step
  refine EvP.split (fun hb => EvP.split (fun hpos => ?_) (fun hpos => ?_)) (fun hb => EvP.now ?_)
  ·
   have hp : 0 < pre.length := by omega
   obtain ⟨y, hy⟩ : ∃ y, pre.getLast? = some y := by
    cases h : pre.getLast? with
    | none => rw [List.getLast?_eq_none_iff] at h; rw [h] at hp; simp at hp
    | some y => exact ⟨y, rfl⟩
   have e3 : wrap64 ((pre.length : Int) - 1) = (pre.length : Int) - 1 := w64 (by omega) (by omega)
   have hr2 : rd_T48 xs ((pre.length : Int) - 1) = y := by rw [e]; exact rd_prev pre _ y hy hp
   rw [e3, hr2, impl_EntryLess_eq]
   simp only [Option.bind_some]
   refine EvP.pos (by omega) (EvP.pos (by omega) (EvP.split (fun hc => ?_) (fun hc => EvP.now ?_)))
   ·
    rw [e2]
    refine step.mono ?_
    rintro _ rfl
    simp [rightFrom, hb, hy, hc]
   ·
    simp [rightFrom, hy, hc]
  ·
   obtain rfl : pre = [] := List.eq_nil_of_length_eq_zero (by omega)
   rw [e2]
   refine step.mono ?_
   rintro _ rfl
   simp [rightFrom, hb]
  ·
   simp [rightFrom, hb]
theorem impl_inOrder_ev (xs : List S48) (hx : xs.length ≤ 1048576) (hk : KeysSmall xs) : EvP (fun k => impl_inOrder.f k xs) (· = rightB xs) := impl_inOrder_l0 xs hx hk xs [] rfl
/-! ### Squashing, told in plain lists -/
def sumOk (n : Int) : Bool := decide (-1000000 ≤ n) && decide (n ≤ 1000000)
def EntP (x : S48) : Prop := x.f2 = 1 ∨ (x.f2 = 2 ∧ x.f4 = 0) ∨ x.f2 = 3
theorem entP_of {x : S48} (h : entB x.f0 x.f1 x.f2 x.f3 x.f4 = true) : EntP x := by
 unfold entB at h
 simp only [Bool.and_eq_true] at h
 have hk := h.2
 unfold kindB at hk
 unfold EntP
 split at hk
 ·
  exact .inl (by assumption)
 ·
  split at hk
  ·
   split at hk
   ·
    exact .inr (.inl ⟨by assumption, by simpa using hk⟩)
   ·
    cases hk
  ·
   split at hk
   ·
    exact .inr (.inr (by assumption))
   ·
    cases hk
theorem right_ents : ∀ (xs : List S48) (p : Option S48), rightFrom p xs = true → ∀ x ∈ xs, entB x.f0 x.f1 x.f2 x.f3 x.f4 = true
 | [], _, _, x, hx => by simp at hx
 | y :: xs, p, h, x, hx => by
  simp only [rightFrom, Bool.and_eq_true] at h
  rcases List.mem_cons.1 hx with rfl | hx
  ·
   exact h.1
  ·
   exact right_ents xs (some y) h.2.2 x hx
def joinOf : List S48 → ByteArray × Int × Int × ByteArray × Int
 | [] => (⟨#[]⟩, 0, 3, ⟨#[]⟩, 0)
 | e :: r => (e.f0, e.f1, (oneGo (e :: r) true 0).1, (oneGo (e :: r) true 0).2.1, (oneGo (e :: r) true 0).2.2)
def classB (c : List S48) (b : Bool) : List S48 := sqOne c b (joinOf c)
theorem squashClass_eq (c : List S48) (h : c ≠ []) (b : Bool) : impl_squashClass.f c b = some (classB c b) := by
 cases c with
 | nil => exact absurd rfl h
 | cons e r => rfl
theorem joinGo_one : ∀ (c : List S48) (first : Bool) (n : Int), (∀ x ∈ c, EntP x) → -9223372036854775808 ≤ n → n ≤ 9223372036854775807 → joinGo c first n = oneGo c first n
 | [], _, _, _, _, _ => rfl
 | e :: r, first, n, hp, h0, h1 => by
  rw [joinGo, oneGo]
  rcases hp e (by simp) with h | ⟨h, h'⟩ | h
  ·
   rw [if_pos h, if_neg (show ¬ e.f2 = 3 by omega), if_pos h]
  ·
   have hw : wrap64 (n + e.f4) = n := by rw [h', Int.add_zero]; exact w64 h0 h1
   rw [if_neg (show ¬ e.f2 = 1 by omega), if_pos h, if_neg (show ¬ e.f2 = 3 by omega), if_neg (show ¬ e.f2 = 1 by omega), hw]
   split <;> rfl
  ·
   have hw := w64r (n + e.f4)
   rw [if_neg (show ¬ e.f2 = 1 by omega), if_neg (show ¬ e.f2 = 2 by omega), if_pos h]
   exact joinGo_one r false _ (fun x hx => hp x (by simp [hx])) hw.1 hw.2
theorem spec_l4Join_ev (c : List S48) (hc : c ≠ []) (hx : c.length ≤ 1048576) (hp : ∀ x ∈ c, EntP x) :
  EvP (fun k => spec_l4Join.f k c) (· = ((joinOf c).1, (joinOf c).2.1, (joinOf c).2.2.1, (joinOf c).2.2.2.1, (joinOf c).2.2.2.2, sumOk (joinOf c).2.2.2.2)) := by
 cases c with
 | nil => exact absurd rfl hc
 | cons e r =>
  unfold spec_l4Join.f
  simp only [joinGo_one (e :: r) true 0 hp (by omega) (by omega), spec_l3Sum_eq, Option.bind_some]
  exact EvP.now rfl
theorem spec_l4Class_ev (c : List S48) (hc : c ≠ []) (hx : c.length ≤ 1048576) (hp : ∀ x ∈ c, EntP x) (b : Bool) : EvP (fun k => spec_l4Class.f k c b) (· = classB c b) := by
 unfold spec_l4Class.f
 refine EvP.bind (spec_l4Join_ev c hc hx hp) ?_
 rintro _ rfl
 obtain ⟨⟨j0, j1, j2, j3, j4⟩, hj⟩ : ∃ o, joinOf c = o := ⟨_, rfl⟩
 have hB : classB c b = sqOne c b (j0, j1, j2, j3, j4) := by unfold classB; rw [hj]
 rw [hB, hj]
 simp only
 by_cases hs : sumOk j4 = true
 ·
  have hlim : ¬ (j4 > 1000000 ∨ j4 < -1000000) := by
   unfold sumOk at hs
   simp only [Bool.and_eq_true, decide_eq_true_eq] at hs
   omega
  refine EvP.pos hs ?_
  unfold sqOne
  rw [if_neg hlim]
  cases b with
  | true =>
   refine EvP.pos rfl (EvP.step (fun k => by rw [spec_l4Class.j0]) ?_)
   by_cases h2 : j2 = 2
   ·
    exact EvP.pos (by simp [h2]) (EvP.now (by simp [h2]))
   ·
    refine EvP.neg (by simp [h2]) (EvP.pos rfl (EvP.split (fun h3 => EvP.now ?_) (fun h3 => EvP.now ?_)))
    ·
     simp [h2, h3]
    ·
     simp [h2, h3]
  | false =>
   refine EvP.neg (by simp) (EvP.step (fun k => by rw [spec_l4Class.j0]) (EvP.neg (by simp) (EvP.neg (by simp) (EvP.now ?_))))
   simp
 ·
  have hlim : j4 > 1000000 ∨ j4 < -1000000 := by
   unfold sumOk at hs
   simp only [Bool.and_eq_true, decide_eq_true_eq] at hs
   omega
  refine EvP.neg hs ?_
  unfold sqOne
  rw [if_pos hlim]
  simp only [Option.bind_some, List.nil_append, List.length_nil]
  exact EvP.pos (by omega) (EvP.now rfl)
def partsB : List (List S48) → Bool → List (List S48) × Bool
 | [], b => ([], b)
 | c :: cs, b => (classB c (partsB cs b).2 :: (partsB cs b).1, (partsB cs b).2 && decide ((classB c (partsB cs b).2).length = 0))
theorem sqParts_eq : ∀ (cs : List (List S48)), (∀ c ∈ cs, c ≠ []) → ∀ b, sqParts cs b = some (partsB cs b)
 | [], _, _ => rfl
 | c :: cs, h, b => by
  unfold sqParts
  rw [sqParts_eq cs (fun x hx => h x (by simp [hx])) b, Option.bind_some, squashClass_eq c (h c (by simp))]
  rfl
theorem classB_len {c : List S48} (h : c ≠ []) (b : Bool) : (classB c b).length ≤ c.length := by
 have h1 : 1 ≤ c.length := by cases c with | nil => exact absurd rfl h | cons => simp
 unfold classB sqOne
 split
 ·
  exact Nat.le_refl _
 ·
  split
  ·
   simp
  ·
   simpa using h1
theorem partsB_len : ∀ (cs : List (List S48)), (∀ c ∈ cs, c ≠ []) → ∀ b, (partsB cs b).1.flatten.length ≤ cs.flatten.length
 | [], _, _ => Nat.le_refl _
 | c :: cs, h, b => by
  have h1 := classB_len (h c (by simp)) (partsB cs b).2
  have h2 := partsB_len cs (fun x hx => h x (by simp [hx])) b
  simp only [partsB, List.flatten_cons, List.length_append]
  omega
theorem flat_drop (cs : List (List S48)) (m : Nat) : (cs.drop m).flatten.length ≤ cs.flatten.length := by
 have h := congrArg List.length (congrArg List.flatten (List.take_append_drop m cs))
 rw [List.flatten_append, List.length_append] at h
 omega
theorem spec_l4Left_l0 (cs : List (List S48)) (hc : ∀ c ∈ cs, c ≠ [] ∧ c.length ≤ 1048576 ∧ ∀ x ∈ c, EntP x) (hn : cs.length ≤ 1048576) (hf : cs.flatten.length ≤ 1048576) (b : Bool) : ∀ m : Nat, m ≤ cs.length →
  EvP (fun k => spec_l4Left.l0 k cs (partsB (cs.drop m) b).2 (partsB (cs.drop m) b).1.flatten ((m : Int) - 1)) (· = (partsB cs b).1.flatten) := by
 intro m
 induction m with
 | zero =>
  intro _
  exact EvP.step (g := fun k => spec_l4Left.l0 k cs (partsB (cs.drop 0) b).2 (partsB (cs.drop 0) b).1.flatten (((0 : Nat) : Int) - 1)) (f := fun _ => some (partsB (cs.drop 0) b).1.flatten) (fun k => by rw [spec_l4Left.l0, if_neg (by omega)]) (EvP.now rfl)
 | succ m ih =>
  intro hm
  have hr : rd_L3 cs ((m : Nat) : Int) = cs[m] := by simp [rd_L3, List.getD_eq_getElem?_getD, List.getElem?_eq_getElem (show m < cs.length by omega)]
  have hd : cs.drop m = cs[m] :: cs.drop (m + 1) := List.drop_eq_getElem_cons (by omega)
  obtain ⟨h1, h2, h3⟩ := hc cs[m] (List.getElem_mem _)
  have e1 : ((m + 1 : Nat) : Int) - 1 = (m : Int) := by omega
  have step := ih (by omega)
  rw [hd] at step
  simp only [partsB] at step
  have hl1 := classB_len h1 (partsB (cs.drop (m + 1)) b).2
  have hl2 := partsB_len (cs.drop (m + 1)) (fun x hx => (hc x (List.mem_of_mem_drop hx)).1) b
  have hl3 := flat_drop cs (m + 1)
  rw [e1]
  refine EvP.step (fun k => by rw [spec_l4Left.l0]) (EvP.pos (by omega) (EvP.pos (by omega) (EvP.pos (by omega) ?_)))
  rw [hr]
  refine EvP.bind (spec_l4Class_ev _ h1 h2 h3 _) ?_
  rintro _ rfl
  have e2 : wrap64 ((m : Int) - 1) = (m : Int) - 1 := w64 (by omega) (by omega)
  simp only [Option.bind_some, List.nil_append, List.length_nil, e2]
  refine EvP.split (fun hpos => EvP.pos (by omega) (EvP.pos (by omega) ?_)) (fun hneg => EvP.pos (by omega) (EvP.pos (by omega) ?_))
  ·
   have hb : ((partsB (cs.drop (m + 1)) b).2 && decide ((classB cs[m] (partsB (cs.drop (m + 1)) b).2).length = 0)) = false := by
    rw [decide_eq_false (by omega), Bool.and_false]
   rw [hb] at step
   exact step
  ·
   have hb : ((partsB (cs.drop (m + 1)) b).2 && decide ((classB cs[m] (partsB (cs.drop (m + 1)) b).2).length = 0)) = (partsB (cs.drop (m + 1)) b).2 := by
    rw [decide_eq_true (by omega), Bool.and_true]
   rw [hb] at step
   exact step
theorem spec_l4Left_ev (cs : List (List S48)) (hc : ∀ c ∈ cs, c ≠ [] ∧ c.length ≤ 1048576 ∧ ∀ x ∈ c, EntP x) (hn : cs.length ≤ 1048576) (hf : cs.flatten.length ≤ 1048576) (b : Bool) : EvP (fun k => spec_l4Left.f k cs b) (· = (partsB cs b).1.flatten) := by
 have h := spec_l4Left_l0 cs hc hn hf b cs.length (Nat.le_refl _)
 rw [List.drop_length] at h
 unfold spec_l4Left.f
 rw [w64 (by omega) (by omega)]
 exact h
theorem spec_l4Apart_ev (snaps : List Int) (hs : snaps.length ≤ 1048576) (x y : S48) : EvP (fun k => spec_l4Apart.f k snaps y.f1 x.f1) (· = partedB x y snaps) := by
 have key : ∀ (rest pre : List Int), snaps = pre ++ rest → EvP (fun k => spec_l4Apart.l0 k snaps y.f1 x.f1 (pre.length : Int)) (· = partedB x y rest) := by
  intro rest
  induction rest with
  | nil =>
   intro pre e
   exact EvP.step (f := fun _ => some false) (fun k => by rw [spec_l4Apart.l0, if_neg (by simp [e])]) (EvP.now rfl)
  | cons s rest ih =>
   intro pre e
   have hl : snaps.length = pre.length + (rest.length + 1) := by rw [e]; simp
   have hr : rd snaps (pre.length : Int) = s := by rw [e]; simp [rd]
   have e2 : wrap64 ((pre.length : Int) + 1) = ((pre ++ [s]).length : Int) := by rw [w64 (by omega) (by omega)]; simp
   have step := ih (pre ++ [s]) (by rw [e]; simp)
   refine EvP.step (fun k => by rw [spec_l4Apart.l0]) (EvP.pos (by omega) (EvP.pos (by omega) ?_))
   rw [hr, e2]
   refine EvP.split (fun h1 => EvP.split (fun h2 => EvP.now ?_) (fun h2 => step.mono ?_)) (fun h1 => step.mono ?_)
   ·
    simp [partedB, h1, h2]
   ·
    rintro _ rfl
    simp [partedB, h2]
   ·
    rintro _ rfl
    simp [partedB, h1]
 exact key snaps [] rfl
theorem spec_l4Classes_l1 (xs : List S48) (snaps : List Int) (hx : xs.length ≤ 1048576) (hs : snaps.length ≤ 1048576) : ∀ (f s i : Nat) (acc : List (List S48)), i + f = xs.length + 1 → s < i → i ≤ xs.length → acc.length ≤ s →
  EvP (fun k => spec_l4Classes.l1 k xs snaps acc (s : Int) (i : Int)) (· = acc ++ (cutAt (apAt xs snaps) xs.length f s i).map (clsL xs)) := by
 intro f
 induction f with
 | zero => intro s i acc h1 h2 h3; omega
 | succ f ih =>
  intro s i acc h1 h2 h3 ha
  have e1 : wrap64 ((i : Int) - 1) = (i : Int) - 1 := w64 (by omega) (by omega)
  have e2 : wrap64 ((i : Int) + 1) = ((i + 1 : Nat) : Int) := by rw [w64 (by omega) (by omega)]; omega
  have hcut : EvP (fun k => spec_l4Classes.l0 k xs snaps (acc ++ [clsL xs (s, i)]) (i : Int)) (· = acc ++ (clsL xs (s, i) :: (cutAt (apAt xs snaps) xs.length f i (i + 1)).map (clsL xs))) := by
   refine EvP.step (fun k => by rw [spec_l4Classes.l0]) (EvP.split (fun hi => ?_) (fun hi => EvP.now ?_))
   ·
    rw [e2]
    refine (ih i (i + 1) (acc ++ [clsL xs (s, i)]) (by omega) (by omega) (by omega) (by simp; omega)).mono ?_
    rintro _ rfl
    simp
   ·
    obtain rfl : f = 0 := by omega
    simp [cutAt]
  have hsl : ((xs.take ((i : Int)).toNat).drop ((s : Int)).toNat) = clsL xs (s, i) := by rw [Int.toNat_natCast, Int.toNat_natCast]; rfl
  refine EvP.step (fun k => by rw [spec_l4Classes.l1]) (EvP.split (fun hi => ?_) (fun hi => ?_))
  ·
   rw [e1]
   refine EvP.pos (by omega) (EvP.pos (by omega) (EvP.pos (by omega) ?_))
   refine EvP.bind (spec_l4Apart_ev snaps hs (rd_T48 xs ((i : Int) - 1)) (rd_T48 xs (i : Int))) ?_
   rintro _ rfl
   refine EvP.split (fun hap => ?_) (fun hap => ?_)
   ·
    rw [hsl]
    refine EvP.pos (by omega) (EvP.pos (by omega) (EvP.pos (by omega) (EvP.pos (by omega) (hcut.mono ?_))))
    rintro _ rfl
    rw [cutAt_cut (fun h => by have h' : apAt xs snaps i = true := hap; rw [h'] at h; cases h.2)]
    rfl
   ·
    rw [e2]
    refine (ih s (i + 1) acc (by omega) (by omega) (by omega) ha).mono ?_
    rintro _ rfl
    rw [cutAt_on (by omega) (show apAt xs snaps i = false from Bool.eq_false_iff.2 hap)]
  ·
   rw [hsl]
   refine EvP.pos (by omega) (EvP.pos (by omega) (EvP.pos (by omega) (EvP.pos (by omega) (hcut.mono ?_))))
   rintro _ rfl
   rw [cutAt_cut (fun h => by omega)]
   rfl
theorem spec_l4Classes_ev (xs : List S48) (snaps : List Int) (hx : xs.length ≤ 1048576) (hs : snaps.length ≤ 1048576) : EvP (fun k => spec_l4Classes.f k xs snaps) (· = classesL xs snaps) := by
 unfold spec_l4Classes.f classesL classCuts
 refine EvP.step (fun k => by rw [spec_l4Classes.l0]) (EvP.split (fun h => ?_) (fun h => EvP.now ?_))
 ·
  have := spec_l4Classes_l1 xs snaps hx hs xs.length 0 1 [] (by omega) (by omega) (by omega) (by simp)
  rw [List.nil_append] at this
  rw [show wrap64 (0 + 1) = ((1 : Nat) : Int) from (w64 (by omega) (by omega)).trans (by omega)]
  exact this
 ·
  have : xs.length = 0 := by omega
  rw [this]
  rfl
theorem cut_flat (ap : Nat → Bool) (xs : List S48) : ∀ f s i, i + f = xs.length + 1 → s < i → i ≤ xs.length → ((cutAt ap xs.length f s i).map (clsL xs)).flatten = xs.drop s := by
 intro f
 induction f with
 | zero => intro s i h1 h2 h3; omega
 | succ f ih =>
  intro s i h1 h2 h3
  rw [cutAt]
  split
  ·
   exact ih s (i + 1) (by omega) (by omega) (by omega)
  ·
   rw [List.map_cons, List.flatten_cons]
   have hsplit : xs.drop s = clsL xs (s, i) ++ xs.drop i := by
    have h := congrArg (List.drop s) (List.take_append_drop i xs)
    rw [List.drop_append] at h
    rw [← h]
    unfold clsL
    congr 1
    rw [List.length_take, show s - min i xs.length = 0 by omega]
    rfl
   by_cases hi : i < xs.length
   ·
    rw [ih i (i + 1) (by omega) (by omega) (by omega), hsplit]
   ·
    obtain rfl : f = 0 := by omega
    rw [hsplit, List.drop_eq_nil_of_le (by omega)]
    simp [cutAt]
theorem classesL_flat (xs : List S48) (snaps : List Int) : (classesL xs snaps).flatten = xs := by
 unfold classesL classCuts
 cases h : xs.length with
 | zero => rw [List.eq_nil_of_length_eq_zero h]; rfl
 | succ n =>
  have := cut_flat (apAt xs snaps) xs xs.length 0 1 (by omega) (by omega) (by omega)
  rw [← h]
  exact this
theorem classesL_ne (xs : List S48) (snaps : List Int) : ∀ c ∈ classesL xs snaps, c ≠ [] ∧ ∀ x ∈ c, x ∈ xs := by
 intro c hc
 obtain ⟨p, hp, rfl⟩ := List.mem_map.1 hc
 have hb := classCuts_bound xs snaps p hp
 have hl := clsL_length hb.1 hb.2
 exact ⟨fun e => by rw [e] at hl; simp at hl; omega, fun x hx => List.mem_of_mem_take (List.mem_of_mem_drop hx)⟩
theorem classesL_len (xs : List S48) (snaps : List Int) : ∀ c ∈ classesL xs snaps, c.length ≤ xs.length := by
 intro c hc
 obtain ⟨p, hp, rfl⟩ := List.mem_map.1 hc
 have hb := classCuts_bound xs snaps p hp
 have hl := clsL_length hb.1 hb.2
 omega
def keyL (xs : List S48) (snaps : List Int) (b : Bool) : List S48 := (partsB (classesL xs snaps) b).1.flatten
theorem keyL_len (xs : List S48) (snaps : List Int) (b : Bool) : (keyL xs snaps b).length ≤ xs.length := by
 have h := partsB_len (classesL xs snaps) (fun c hc => (classesL_ne xs snaps c hc).1) b
 rw [classesL_flat] at h
 exact h
theorem squashKey_eq (xs : List S48) (snaps : List Int) (b : Bool) (hx : xs.length ≤ 1048576) : impl_squashKey.f xs snaps b = some (keyL xs snaps b) := by
 have h := keyL_len xs snaps b
 unfold impl_squashKey.f
 rw [if_pos (by omega), sqParts_eq _ (fun c hc => (classesL_ne xs snaps c hc).1), Option.bind_some]
 unfold keyL at h
 rw [if_pos (by omega)]
 rfl
theorem spec_key_ev (xs : List S48) (snaps : List Int) (b : Bool) (hx : xs.length ≤ 1048576) (hs : snaps.length ≤ 1048576) (hp : ∀ x ∈ xs, EntP x) : EvP (fun k => spec_l4Left.f k (classesL xs snaps) b) (· = keyL xs snaps b) := by
 refine spec_l4Left_ev _ (fun c hc => ⟨(classesL_ne xs snaps c hc).1, Nat.le_trans (classesL_len xs snaps c hc) hx, fun x hx' => hp x ((classesL_ne xs snaps c hc).2 x hx')⟩) ?_ (by rw [classesL_flat]; exact hx) b
 unfold classesL
 rw [List.length_map]
 exact Nat.le_trans (classCuts_len xs snaps) hx
/-- Where the entries of one key begin and end. -/
def grpAt (xs : List S48) : Nat → Nat → Nat → List (Nat × Nat)
 | 0, _, _ => []
 | f + 1, s, i => if i < xs.length ∧ (rd_T48 xs (i : Int)).f0.toList = (rd_T48 xs (s : Int)).f0.toList then grpAt xs f s (i + 1) else (s, i) :: grpAt xs f i (i + 1)
def grpL (xs : List S48) (snaps : List Int) (b : Bool) (ps : List (Nat × Nat)) : List S48 := (ps.map fun p => keyL (clsL xs p) snaps b).flatten
def squashB (xs : List S48) (snaps : List Int) (b : Bool) : List S48 := grpL xs snaps b (grpAt xs xs.length 0 1)
def sqB (xs : List S48) (snaps : List Int) (b : Bool) : List S48 := if rightB xs = true then squashB xs snaps b else []
theorem clsL_sub {xs : List S48} {p : Nat × Nat} : ∀ x ∈ clsL xs p, x ∈ xs := fun x hx => List.mem_of_mem_take (List.mem_of_mem_drop hx)
theorem spec_Squash_l1 (xs : List S48) (snaps : List Int) (b : Bool) (hx : xs.length ≤ 1048576) (hs : snaps.length ≤ 1048576) (hp : ∀ x ∈ xs, EntP x) : ∀ (f s i : Nat) (acc : List S48), i + f = xs.length + 1 → s < i → i ≤ xs.length → acc.length ≤ s →
  EvP (fun k => spec_Squash.l1 k xs snaps b acc (s : Int) (i : Int)) (· = acc ++ grpL xs snaps b (grpAt xs f s i)) := by
 intro f
 induction f with
 | zero => intro s i acc h1 h2 h3; omega
 | succ f ih =>
  intro s i acc h1 h2 h3 ha
  have e2 : wrap64 ((i : Int) + 1) = ((i + 1 : Nat) : Int) := by rw [w64 (by omega) (by omega)]; omega
  have hcl : (clsL xs (s, i)).length = i - s := clsL_length h2 h3
  have hk := keyL_len (clsL xs (s, i)) snaps b
  have hcut : EvP (fun k => spec_Squash.l0 k xs snaps b (acc ++ keyL (clsL xs (s, i)) snaps b) (i : Int)) (· = acc ++ grpL xs snaps b ((s, i) :: grpAt xs f i (i + 1))) := by
   refine EvP.step (fun k => by rw [spec_Squash.l0]) (EvP.split (fun hi => ?_) (fun hi => EvP.now ?_))
   ·
    rw [e2]
    refine (ih i (i + 1) _ (by omega) (by omega) (by omega) (by rw [List.length_append]; omega)).mono ?_
    rintro _ rfl
    simp [grpL]
   ·
    obtain rfl : f = 0 := by omega
    simp [grpAt, grpL]
  have hsl : ((xs.take ((i : Int)).toNat).drop ((s : Int)).toNat) = clsL xs (s, i) := by rw [Int.toNat_natCast, Int.toNat_natCast]; rfl
  have hend : EvP (fun k => (spec_l4Classes.f k (clsL xs (s, i)) snaps).bind fun t => (spec_l4Left.f k t b).bind fun t2 => (if acc.length + t2.length < 2513169434916 then (spec_Squash.l0 k xs snaps b (acc ++ t2) (i : Int)) else (none))) (· = acc ++ grpL xs snaps b ((s, i) :: grpAt xs f i (i + 1))) := by
   refine EvP.bind (spec_l4Classes_ev _ snaps (by omega) hs) ?_
   rintro _ rfl
   refine EvP.bind (spec_key_ev _ snaps b (by omega) hs (fun x hx' => hp x (clsL_sub x hx'))) ?_
   rintro _ rfl
   exact EvP.pos (by omega) hcut
  refine EvP.step (fun k => by rw [spec_Squash.l1]) (EvP.split (fun hi => ?_) (fun hi => ?_))
  ·
   refine EvP.pos (by omega) (EvP.pos (by omega) (EvP.pos (by omega) (EvP.split (fun hq => ?_) (fun hq => ?_))))
   ·
    rw [e2]
    refine (ih s (i + 1) acc (by omega) (by omega) (by omega) ha).mono ?_
    rintro _ rfl
    rw [grpAt, if_pos ⟨by omega, hq⟩]
   ·
    rw [hsl]
    refine EvP.pos (by omega) (EvP.pos (by omega) (hend.mono ?_))
    rintro _ rfl
    rw [grpAt, if_neg (fun h => hq h.2)]
  ·
   rw [hsl]
   refine EvP.pos (by omega) (EvP.pos (by omega) (EvP.pos (by omega) (hend.mono ?_)))
   rintro _ rfl
   rw [grpAt, if_neg (fun h => hi (by have := h.1; omega))]
theorem impl_Squash_l1 (xs : List S48) (snaps : List Int) (b : Bool) (hx : xs.length ≤ 1048576) : ∀ (f s i : Nat) (acc : List S48), i + f = xs.length + 1 → s < i → i ≤ xs.length → acc.length ≤ s →
  EvP (fun k => impl_Squash.l1 k xs snaps b acc (s : Int) (i : Int)) (· = acc ++ grpL xs snaps b (grpAt xs f s i)) := by
 intro f
 induction f with
 | zero => intro s i acc h1 h2 h3; omega
 | succ f ih =>
  intro s i acc h1 h2 h3 ha
  have e2 : wrap64 ((i : Int) + 1) = ((i + 1 : Nat) : Int) := by rw [w64 (by omega) (by omega)]; omega
  have hcl : (clsL xs (s, i)).length = i - s := clsL_length h2 h3
  have hk := keyL_len (clsL xs (s, i)) snaps b
  have hcut : EvP (fun k => impl_Squash.l0 k xs snaps b (acc ++ keyL (clsL xs (s, i)) snaps b) (i : Int)) (· = acc ++ grpL xs snaps b ((s, i) :: grpAt xs f i (i + 1))) := by
   refine EvP.step (fun k => by rw [impl_Squash.l0]) (EvP.split (fun hi => ?_) (fun hi => EvP.now ?_))
   ·
    rw [e2]
    refine (ih i (i + 1) _ (by omega) (by omega) (by omega) (by rw [List.length_append]; omega)).mono ?_
    rintro _ rfl
    simp [grpL]
   ·
    obtain rfl : f = 0 := by omega
    simp [grpAt, grpL]
  have hsl : ((xs.take ((i : Int)).toNat).drop ((s : Int)).toNat) = clsL xs (s, i) := by rw [Int.toNat_natCast, Int.toNat_natCast]; rfl
  refine EvP.step (fun k => by rw [impl_Squash.l1]) (EvP.split (fun hi => ?_) (fun hi => ?_))
  ·
   refine EvP.pos (by omega) (EvP.pos (by omega) (EvP.pos (by omega) (EvP.split (fun hq => ?_) (fun hq => ?_))))
   ·
    rw [e2]
    refine (ih s (i + 1) acc (by omega) (by omega) (by omega) ha).mono ?_
    rintro _ rfl
    rw [grpAt, if_pos ⟨by omega, hq⟩]
   ·
    rw [hsl, squashKey_eq _ snaps b (by omega)]
    simp only [Option.bind_some]
    refine EvP.pos (by omega) (EvP.pos (by omega) (EvP.pos (by omega) (hcut.mono ?_)))
    rintro _ rfl
    rw [grpAt, if_neg (fun h => hq h.2)]
  ·
   rw [hsl, squashKey_eq _ snaps b (by omega)]
   simp only [Option.bind_some]
   refine EvP.pos (by omega) (EvP.pos (by omega) (EvP.pos (by omega) (EvP.pos (by omega) (hcut.mono ?_))))
   rintro _ rfl
   rw [grpAt, if_neg (fun h => hi (by have := h.1; omega))]
theorem spec_Squash_ev (xs : List S48) (snaps : List Int) (b : Bool) (hx : xs.length ≤ 1048576) (hs : snaps.length ≤ 1048576) (hk : KeysSmall xs) : EvP (fun k => spec_Squash.f k xs snaps b) (· = sqB xs snaps b) := by
 unfold spec_Squash.f sqB
 simp only [Option.bind_some]
 refine EvP.bind (spec_l4Right_ev xs hx hk) ?_
 rintro _ rfl
 refine EvP.split (fun hr => ?_) (fun hr => EvP.now (by rw [if_neg hr]))
 rw [if_pos hr]
 refine EvP.step (fun k => by rw [spec_Squash.l0]) (EvP.split (fun h => ?_) (fun h => EvP.now ?_))
 ·
  have := spec_Squash_l1 xs snaps b hx hs (fun x hx' => entP_of (right_ents xs none hr x hx')) xs.length 0 1 [] (by omega) (by omega) (by omega) (by simp)
  rw [List.nil_append] at this
  rw [show wrap64 (0 + 1) = ((1 : Nat) : Int) from (w64 (by omega) (by omega)).trans (by omega)]
  exact this
 ·
  have : xs = [] := List.eq_nil_of_length_eq_zero (by omega)
  subst this
  rfl
theorem impl_Squash_ev (xs : List S48) (snaps : List Int) (b : Bool) (hx : xs.length ≤ 1048576) (hk : KeysSmall xs) : EvP (fun k => impl_Squash.f k xs snaps b) (· = sqB xs snaps b) := by
 unfold impl_Squash.f sqB
 refine EvP.bind (impl_inOrder_ev xs hx hk) ?_
 rintro _ rfl
 refine EvP.split (fun hr => ?_) (fun hr => EvP.now (by rw [if_neg hr]))
 rw [if_pos hr]
 refine EvP.step (fun k => by rw [impl_Squash.l0]) (EvP.split (fun h => ?_) (fun h => EvP.now ?_))
 ·
  have := impl_Squash_l1 xs snaps b hx xs.length 0 1 [] (by omega) (by omega) (by omega) (by simp)
  rw [List.nil_append] at this
  rw [show wrap64 (0 + 1) = ((1 : Nat) : Int) from (w64 (by omega) (by omega)).trans (by omega)]
  exact this
 ·
  have : xs = [] := List.eq_nil_of_length_eq_zero (by omega)
  subst this
  rfl
theorem grpL_len (xs : List S48) (snaps : List Int) (b : Bool) : ∀ f s i, i + f = xs.length + 1 → s < i → i ≤ xs.length → (grpL xs snaps b (grpAt xs f s i)).length ≤ xs.length - s := by
 intro f
 induction f with
 | zero => intro s i h1 h2 h3; omega
 | succ f ih =>
  intro s i h1 h2 h3
  rw [grpAt]
  split
  ·
   rename_i h
   exact ih s (i + 1) (by omega) (by omega) (by omega)
  ·
   have hk := keyL_len (clsL xs (s, i)) snaps b
   have hc : (clsL xs (s, i)).length = i - s := clsL_length h2 h3
   have e : (grpL xs snaps b ((s, i) :: grpAt xs f i (i + 1))).length = (keyL (clsL xs (s, i)) snaps b).length + (grpL xs snaps b (grpAt xs f i (i + 1))).length := by simp [grpL]
   rw [e]
   by_cases hi : i < xs.length
   ·
    have := ih i (i + 1) (by omega) (by omega) (by omega)
    omega
   ·
    obtain rfl : f = 0 := by omega
    have e0 : (grpL xs snaps b (grpAt xs 0 i (i + 1))).length = 0 := by simp [grpAt, grpL]
    omega
theorem sqB_len (xs : List S48) (snaps : List Int) (b : Bool) : (sqB xs snaps b).length ≤ xs.length := by
 unfold sqB
 split
 ·
  unfold squashB
  cases h : xs.length with
  | zero => simp [grpAt, grpL]
  | succ n =>
   have := grpL_len xs snaps b xs.length 0 1 (by omega) (by omega) (by omega)
   rw [h] at this
   exact this
 ·
  simp

/-! ### The reader of draws -/
/-- Bytes, at most 2000 of them. -/
structure Bytes (l : List Int) : Prop where
 len : l.length ≤ 2000
 lo : ∀ j, 0 ≤ rd l j
 hi : ∀ j, rd l j ≤ 255
theorem rd_range {l : List Int} (h : ∀ x ∈ l, 0 ≤ x ∧ x ≤ 255) (j : Int) : 0 ≤ rd l j ∧ rd l j ≤ 255 := by
 unfold rd
 rw [List.getD_eq_getElem?_getD]
 rcases Nat.lt_or_ge j.toNat l.length with hj | hj
 ·
  rw [List.getElem?_eq_getElem hj]
  exact h _ (List.getElem_mem hj)
 ·
  rw [List.getElem?_eq_none hj]
  simp
theorem u8_range {l : List Int} (h : ∀ x ∈ l, (Lit.int .u8 x).wf = true) : ∀ x ∈ l, 0 ≤ x ∧ x ≤ 255 := by
 intro x hx
 have := h x hx
 simp [Lit.wf, IntKind.min, IntKind.max, IntKind.signed, IntKind.bits] at this
 omega
theorem spec_l9Open_ev (l : List Int) (h : ∀ x ∈ l, (Lit.int .u8 x).wf = true) : EvP (fun _ => spec_l9Open.f l) (fun r => Bytes r.1 ∧ r.2 = 0) := by
 unfold spec_l9Open.f
 have hu := u8_range h
 refine EvP.split (fun h1 => EvP.pos (by omega) (EvP.now ⟨⟨?_, fun j => ?_, fun j => ?_⟩, rfl⟩)) (fun h1 => EvP.now ⟨⟨?_, fun j => ?_, fun j => ?_⟩, rfl⟩)
 ·
  simp; omega
 ·
  exact (rd_range (fun x hx => hu x (List.mem_of_mem_take hx)) j).1
 ·
  exact (rd_range (fun x hx => hu x (List.mem_of_mem_take hx)) j).2
 ·
  show l.length ≤ 2000
  omega
 ·
  exact (rd_range hu j).1
 ·
  exact (rd_range hu j).2
theorem xor_nonneg (x y : Int) (h0 : 0 ≤ x) (h1 : x < 2 ^ 62) (h2 : 0 ≤ y) (h3 : y < 2 ^ 62) : 0 ≤ bits .xor .i64 x y := by
 obtain ⟨a, rfl⟩ := Int.eq_ofNat_of_zero_le h0
 obtain ⟨b, rfl⟩ := Int.eq_ofNat_of_zero_le h2
 rw [xor64 a b (by omega) (by omega)]
 exact Int.natCast_nonneg _
/-- What a pick gives: one place on; a number below n, or 0. -/
def Picked (p n : Int) (r : Int × Int) : Prop := r.2 = p + 1 ∧ 0 ≤ r.1 ∧ (1 ≤ n → r.1 < n) ∧ (n < 1 → r.1 = 0)
theorem picked_mod {p n x : Int} (hn : ¬ n < 1) (hx : 0 ≤ x) : Picked p n (Int.tmod x n, p + 1) :=
 ⟨rfl, Int.tmod_nonneg _ hx, fun _ => Int.tmod_lt_of_pos _ (by omega), fun h => absurd h hn⟩
theorem spec_l9Rd_pick_ev (l : List Int) (hl : Bytes l) (p n : Int) (h0 : 0 ≤ p) (h1 : p ≤ 1000000000000) : EvP (fun k => spec_l9Rd_pick.f k l p n) (Picked p n) := by
 unfold spec_l9Rd_pick.f
 have e1 : wrap64 (p + 1) = p + 1 := w64 (by omega) (by omega)
 have e2 : wrap64 (p + 1 - 1) = p := by rw [w64 (by omega) (by omega)]; omega
 rw [e1]
 refine EvP.split (fun h => ?_) (fun hn => ?_)
 ·
  refine EvP.step (fun k => by rw [spec_l9Rd_pick.j0]) (EvP.pos rfl (EvP.now ?_))
  exact ⟨rfl, Int.le_refl _, fun h' => absurd h (by omega), fun _ => rfl⟩
 ·
  refine EvP.step (fun k => by rw [spec_l9Rd_pick.j0]) (EvP.split (fun h => EvP.now ?_) (fun hz => ?_))
  ·
   exact ⟨rfl, Int.le_refl _, fun h' => by show (0 : Int) < n; omega, fun _ => rfl⟩
  ·
   have hz' : ¬ (l.length : Int) = 0 := fun h => hz (by simp [h])
   have hpos : 0 < (l.length : Int) := by omega
   have hlen : (l.length : Int) ≤ 2000 := by have := hl.len; omega
   rw [e2]
   refine EvP.split (fun h => EvP.pos h0 (EvP.neg (by omega) (EvP.now ?_))) (fun h => EvP.neg hz' ?_)
   ·
    have := hl.lo p
    have := hl.hi p
    rw [w64 (by omega) (by omega)]
    exact picked_mod hn (by omega)
   ·
    have a0 : 0 ≤ Int.tmod p (l.length : Int) := Int.tmod_nonneg _ h0
    have a1 : Int.tmod p (l.length : Int) < (l.length : Int) := Int.tmod_lt_of_pos _ hpos
    have e7 : wrap64 (wrap64 (p * 7) + 3) = p * 7 + 3 := by rw [w64 (x := p * 7) (by omega) (by omega), w64 (by omega) (by omega)]
    have c0 : 0 ≤ Int.tmod (p * 7 + 3) (l.length : Int) := Int.tmod_nonneg _ (by omega)
    have c1 : Int.tmod (p * 7 + 3) (l.length : Int) < (l.length : Int) := Int.tmod_lt_of_pos _ hpos
    rw [e7]
    refine EvP.pos a0 (EvP.pos a1 (EvP.pos c0 (EvP.pos c1 (EvP.neg (by omega) (EvP.now ?_)))))
    have b0 := hl.lo (Int.tmod p (l.length : Int))
    have b1 := hl.hi (Int.tmod p (l.length : Int))
    have d0 := hl.lo (Int.tmod (p * 7 + 3) (l.length : Int))
    have d1 := hl.hi (Int.tmod (p * 7 + 3) (l.length : Int))
    have q0 : 0 ≤ Int.tdiv p (l.length : Int) := Int.tdiv_nonneg h0 (by omega)
    have q1 : Int.tdiv p (l.length : Int) ≤ p := by
     rw [Int.tdiv_eq_ediv_of_nonneg h0]
     exact Int.ediv_le_self _ h0
    refine picked_mod hn ?_
    generalize Int.tdiv p (l.length : Int) = q at q0 q1 ⊢
    generalize rd l (Int.tmod p (l.length : Int)) = b at b0 b1 ⊢
    generalize rd l (Int.tmod (p * 7 + 3) (l.length : Int)) = d at d0 d1 ⊢
    have f1 : wrap64 b = b := w64 (by omega) (by omega)
    have f2 : wrap64 d = d := w64 (by omega) (by omega)
    have f3 : wrap64 q = q := w64 (by omega) (by omega)
    have f4 : wrap64 (b * 131) = b * 131 := w64 (by omega) (by omega)
    have f5 : wrap64 (d * 1117) = d * 1117 := w64 (by omega) (by omega)
    have f6 : wrap64 (p * 29) = p * 29 := w64 (by omega) (by omega)
    have f7 : wrap64 (q * 53) = q * 53 := w64 (by omega) (by omega)
    have f8 : wrap64 (b * 131 + d * 1117) = b * 131 + d * 1117 := w64 (by omega) (by omega)
    have f9 : wrap64 (b * 131 + d * 1117 + p * 29) = b * 131 + d * 1117 + p * 29 := w64 (by omega) (by omega)
    have f10 : wrap64 (b * 131 + d * 1117 + p * 29 + q * 53) = b * 131 + d * 1117 + p * 29 + q * 53 := w64 (by omega) (by omega)
    rw [f1, f2, f3, f4, f5, f6, f7, f8, f9, f10]
    have g0 : 0 ≤ b * 131 + d * 1117 + p * 29 + q * 53 := by omega
    have g1 : b * 131 + d * 1117 + p * 29 + q * 53 < 2 ^ 62 := by omega
    generalize b * 131 + d * 1117 + p * 29 + q * 53 = x at g0 g1 ⊢
    have g2 : Int.tdiv x 64 = x / 64 := Int.tdiv_eq_ediv_of_nonneg g0
    rw [g2, w64 (x := x / 64) (by omega) (by omega)]
    exact xor_nonneg _ _ g0 g1 (by omega) (by omega)
/-- One of a list of texts. -/
theorem spec_l9Rd_of_ev (l : List Int) (hl : Bytes l) (p : Int) (xs : List ByteArray) (hx : 0 < xs.length) (h0 : 0 ≤ p) (h1 : p ≤ 1000000000000) : EvP (fun k => spec_l9Rd_of.f k l p xs) (fun r => r.2 = p + 1 ∧ r.1 ∈ xs) := by
 unfold spec_l9Rd_of.f
 refine EvP.bind (spec_l9Rd_pick_ev l hl p _ h0 h1) ?_
 rintro ⟨i, q⟩ ⟨hq, hi, hlt, _⟩
 have := hlt (by omega)
 simp only at hq hi this
 refine EvP.pos hi (EvP.pos this (EvP.now ⟨hq, ?_⟩))
 show xs.getD i.toNat ByteArray.empty ∈ xs
 rw [List.getD_eq_getElem?_getD, List.getElem?_eq_getElem (by omega)]
 exact List.getElem_mem _

/-- One of a list of numbers. -/
theorem spec_l9Rd_num_ev (l : List Int) (hl : Bytes l) (p : Int) (xs : List Int) (hx : 0 < xs.length) (h0 : 0 ≤ p) (h1 : p ≤ 1000000000000) : EvP (fun k => spec_l9Rd_num.f k l p xs) (fun r => r.2 = p + 1 ∧ r.1 ∈ xs) := by
 unfold spec_l9Rd_num.f
 refine EvP.bind (spec_l9Rd_pick_ev l hl p _ h0 h1) ?_
 rintro ⟨i, q⟩ ⟨hq, hi, hlt, _⟩
 have := hlt (by omega)
 simp only at hq hi this
 refine EvP.pos hi (EvP.pos this (EvP.now ⟨hq, ?_⟩))
 show xs.getD i.toNat 0 ∈ xs
 rw [List.getD_eq_getElem?_getD, List.getElem?_eq_getElem (by omega)]
 exact List.getElem_mem _

theorem spec_l3Key_ev (l : List Int) (hl : Bytes l) (p : Int) (h0 : 0 ≤ p) (h1 : p ≤ 1000000000000) : EvP (fun k => spec_l3Key.f k l p) (fun r => r.2 = p + 1 ∧ r.1 ∈ ([⟨#[97]⟩, ⟨#[98]⟩, ⟨#[97, 98]⟩, ⟨#[98, 47, 97, 47, 49]⟩, ⟨#[98, 47, 97, 98, 47, 49]⟩, ⟨#[99]⟩] : List ByteArray)) := by
 unfold spec_l3Key.f
 refine EvP.bind (spec_l9Rd_of_ev l hl p _ (by simp) h0 h1) ?_
 rintro ⟨x, q⟩ h
 exact EvP.now h

/-- What a drawn entry is like. -/
structure Drawn (seq p : Int) (r : ByteArray × Int × Int × ByteArray × Int × Int) : Prop where
 key : r.1 ∈ ([⟨#[97]⟩, ⟨#[98]⟩, ⟨#[97, 98]⟩, ⟨#[98, 47, 97, 47, 49]⟩, ⟨#[98, 47, 97, 98, 47, 49]⟩, ⟨#[99]⟩] : List ByteArray)
 seq : r.2.1 = seq
 kind : r.2.2.1 = 1 ∨ r.2.2.1 = 2 ∨ r.2.2.1 = 3
 text : r.2.2.2.1.size ≤ 3
 bare : r.2.2.1 ≠ 1 → r.2.2.2.1 = ⟨#[]⟩
 lo : -7 ≤ r.2.2.2.2.1
 hi : r.2.2.2.2.1 ≤ 100
 del : r.2.2.1 = 2 → r.2.2.2.2.1 = 0
 next : p ≤ r.2.2.2.2.2 ∧ r.2.2.2.2.2 ≤ p + 5
theorem keys_small (u : ByteArray) (h : u ∈ ([⟨#[97]⟩, ⟨#[98]⟩, ⟨#[97, 98]⟩, ⟨#[98, 47, 97, 47, 49]⟩, ⟨#[98, 47, 97, 98, 47, 49]⟩, ⟨#[99]⟩] : List ByteArray)) : u.size ≤ 6 := by
 simp only [List.mem_cons, List.not_mem_nil, or_false] at h
 rcases h with rfl | rfl | rfl | rfl | rfl | rfl <;> simp [ByteArray.size]
theorem texts_small (u : ByteArray) (h : u ∈ ([⟨#[]⟩, ⟨#[120]⟩, ⟨#[121, 121]⟩, ⟨#[122, 122, 122]⟩] : List ByteArray)) : u.size ≤ 3 := by
 simp only [List.mem_cons, List.not_mem_nil, or_false] at h
 rcases h with rfl | rfl | rfl | rfl <;> simp [ByteArray.size]
theorem spec_l3Entry_ev (l : List Int) (hl : Bytes l) (p seq : Int) (h0 : 0 ≤ p) (h1 : p ≤ 900000000000) : EvP (fun k => spec_l3Entry.f k l p seq) (Drawn seq p) := by
 unfold spec_l3Entry.f
 refine EvP.bind (spec_l3Key_ev l hl p h0 (by omega)) ?_
 rintro ⟨key, p1⟩ ⟨hp1, hkey⟩
 simp only at hp1 hkey
 refine EvP.bind (spec_l9Rd_num_ev l hl p1 _ (by simp) (by omega) (by omega)) ?_
 rintro ⟨kind, p2⟩ ⟨hp2, hkind⟩
 simp only [List.mem_cons, List.not_mem_nil, or_false] at hp2 hkind
 refine EvP.split (fun h2 => EvP.neg (by omega) (EvP.now ?_)) (fun h2 => ?_)
 ·
  exact ⟨hkey, rfl, by show kind = 1 ∨ kind = 2 ∨ kind = 3; omega, by simp [ByteArray.size], fun _ => rfl, by show (-7 : Int) ≤ 0; omega, by show (0 : Int) ≤ 100; omega, fun _ => rfl, by show p ≤ p2 ∧ p2 ≤ p + 5; omega⟩
 ·
  refine EvP.bind (spec_l9Rd_num_ev l hl p2 _ (by simp) (by omega) (by omega)) ?_
  rintro ⟨n, p3⟩ ⟨hp3, hn⟩
  simp only [List.mem_cons, List.not_mem_nil, or_false] at hp3 hn
  refine EvP.split (fun h3 => ?_) (fun h3 => EvP.now ?_)
  ·
   refine EvP.bind (spec_l9Rd_of_ev l hl p3 _ (by simp) (by omega) (by omega)) ?_
   rintro ⟨x, p4⟩ ⟨hp4, hx⟩
   simp only at hp4 hx
   exact EvP.now ⟨hkey, rfl, by show kind = 1 ∨ kind = 2 ∨ kind = 3; omega, texts_small x hx, fun h => absurd h3 h, by show (-7 : Int) ≤ n; omega, by show n ≤ 100; omega, fun h => absurd h h2, by show p ≤ p4 ∧ p4 ≤ p + 5; omega⟩
  ·
   exact ⟨hkey, rfl, by show kind = 1 ∨ kind = 2 ∨ kind = 3; omega, by simp [ByteArray.size], fun _ => rfl, by show (-7 : Int) ≤ n; omega, by show n ≤ 100; omega, fun h => absurd h h2, by show p ≤ p3 ∧ p3 ≤ p + 5; omega⟩

/-! ### Draws of lists of entries -/
def keys6 : List ByteArray := [⟨#[97]⟩, ⟨#[98]⟩, ⟨#[97, 98]⟩, ⟨#[98, 47, 97, 47, 49]⟩, ⟨#[98, 47, 97, 98, 47, 49]⟩, ⟨#[99]⟩]
/-- No two of one time. -/
def Apart (xs : List S48) : Prop := xs.Pairwise (fun x y => x.f1 ≠ y.f1)
/-- What a drawn entry of a list is like. -/
structure Item (hi : Int) (x : S48) : Prop where
 key : x.f0 ∈ keys6
 one : 1 ≤ x.f1
 top : x.f1 ≤ hi
 kind : x.f2 = 1 ∨ x.f2 = 2 ∨ x.f2 = 3
 bare : x.f2 ≠ 1 → x.f3 = ⟨#[]⟩
 del : x.f2 = 2 → x.f4 = 0
 nlo : -7 ≤ x.f4
 nhi : x.f4 ≤ 100
theorem Item.mono {a b : Int} {x : S48} (h : Item a x) (hab : a ≤ b) : Item b x := ⟨h.key, h.one, Int.le_trans h.top hab, h.kind, h.bare, h.del, h.nlo, h.nhi⟩
theorem spec_l3List_l0 (l : List Int) (hl : Bytes l) : ∀ (d : Nat) (out : List S48) (s p : Int), d ≤ 100 → out.length + d ≤ 1000 → 0 ≤ s → s + 2 * d ≤ 1000000 → 0 ≤ p → p + 10 * d ≤ 800000000000 → Apart out → (∀ x ∈ out, Item s x) →
  EvP (fun k => spec_l3List.l0 k out s (d : Int) l p) (fun r => Apart r.1 ∧ r.1.length ≤ out.length + d ∧ (∀ x ∈ r.1, Item (s + 2 * d) x) ∧ p ≤ r.2 ∧ r.2 ≤ p + 10 * d) := by
 intro d
 induction d with
 | zero =>
  intro out s p _ _ _ _ hp0 hp1 ha hi
  refine EvP.step (fun k => by rw [spec_l3List.l0]) (EvP.neg (by simp) (EvP.now ⟨ha, by simp, fun x hx => (hi x hx).mono (by omega), by omega, by omega⟩))
 | succ d ih =>
  intro out s p hd ho hs0 hs1 hp0 hp1 ha hi
  refine EvP.step (fun k => by rw [spec_l3List.l0]) (EvP.pos (by omega) ?_)
  refine EvP.bind (spec_l9Rd_pick_ev l hl p 2 (by omega) (by omega)) ?_
  rintro ⟨v, p1⟩ ⟨hp, hv0, hv1, _⟩
  simp only at hp hv0 hv1
  have hv := hv1 (by omega)
  have ws : wrap64 (wrap64 (s + 1) + v) = s + 1 + v := by rw [w64 (x := s + 1) (by omega) (by omega), w64 (by omega) (by omega)]
  have wd : wrap64 (((d + 1 : Nat) : Int) - 1) = (d : Int) := by rw [w64 (by omega) (by omega)]; omega
  rw [ws, wd]
  refine EvP.bind (spec_l3Entry_ev l hl p1 (s + 1 + v) (by omega) (by omega)) ?_
  rintro ⟨key, seq, kind, text, n, p2⟩ hE
  have e1 := hE.seq
  have e2 := hE.next
  simp only at e1 e2
  refine EvP.bind (spec_l9Rd_pick_ev l hl p2 2 (by omega) (by omega)) ?_
  rintro ⟨w, p3⟩ ⟨hp3, _⟩
  simp only at hp3
  have hit : Item (s + 1 + v) (⟨key, seq, kind, text, n⟩ : S48) := ⟨hE.key, by show 1 ≤ seq; omega, by show seq ≤ _; omega, hE.kind, hE.bare, hE.del, hE.lo, hE.hi⟩
  have hne : ∀ y ∈ out, y.f1 ≠ (⟨key, seq, kind, text, n⟩ : S48).f1 := fun y hy => by
   have := (hi y hy).top
   show y.f1 ≠ seq
   omega
  refine EvP.split (fun _ => EvP.pos (by omega) ?_) (fun _ => ?_)
  ·
   refine (ih (out ++ [⟨key, seq, kind, text, n⟩]) (s + 1 + v) p3 (by omega) (by simp; omega) (by omega) (by omega) (by omega) (by omega) ?_ ?_).mono ?_
   ·
    refine List.pairwise_append.2 ⟨ha, List.pairwise_singleton _ _, fun x hx y hy => ?_⟩
    obtain rfl := List.mem_singleton.1 hy
    exact hne x hx
   ·
    intro x hx
    rcases List.mem_append.1 hx with hx | hx
    ·
     exact (hi x hx).mono (by omega)
    ·
     obtain rfl := List.mem_singleton.1 hx
     exact hit
   ·
    rintro r ⟨h1, h2, h3, h4, h5⟩
    exact ⟨h1, by simp at h2; omega, fun x hx => (h3 x hx).mono (by omega), by omega, by omega⟩
  ·
   simp only [Option.bind_some]
   refine EvP.pos (by simp; omega) ?_
   refine (ih ([⟨key, seq, kind, text, n⟩] ++ out) (s + 1 + v) p3 (by omega) (by simp; omega) (by omega) (by omega) (by omega) (by omega) ?_ ?_).mono ?_
   ·
    refine List.pairwise_cons.2 ⟨fun y hy => ?_, ha⟩
    exact (hne y hy).symm
   ·
    intro x hx
    rcases List.mem_cons.1 hx with rfl | hx
    ·
     exact hit
    ·
     exact (hi x hx).mono (by omega)
   ·
    rintro r ⟨h1, h2, h3, h4, h5⟩
    exact ⟨h1, by simp at h2; omega, fun x hx => (h3 x hx).mono (by omega), by omega, by omega⟩
theorem spec_l3List_ev (l : List Int) (hl : Bytes l) (p many : Int) (h0 : 0 ≤ p) (h1 : p ≤ 500000000000) (hm0 : 0 ≤ many) (hm1 : many ≤ 40) : EvP (fun k => spec_l3List.f k l p many) (fun r => Apart r.1 ∧ (r.1.length : Int) ≤ many ∧ (∀ x ∈ r.1, Item 1000 x) ∧ p ≤ r.2 ∧ r.2 ≤ p + 1000) := by
 unfold spec_l3List.f
 rw [w64 (x := many + 1) (by omega) (by omega)]
 refine EvP.bind (spec_l9Rd_pick_ev l hl p (many + 1) (by omega) (by omega)) ?_
 rintro ⟨d, p1⟩ ⟨hp1, hd0, hd1, _⟩
 simp only at hp1 hd0 hd1
 have hd := hd1 (by omega)
 have h := spec_l3List_l0 l hl d.toNat [] 0 p1 (by omega) (by simp; omega) (by omega) (by omega) (by omega) (by omega) List.Pairwise.nil (by simp)
 have ed : ((d.toNat : Nat) : Int) = d := by omega
 rw [ed] at h
 refine h.mono ?_
 rintro r ⟨h1, h2, h3, h4, h5⟩
 exact ⟨h1, by simp at h2; omega, fun x hx => (h3 x hx).mono (by omega), by omega, by omega⟩

/-! ### Draws of what is squashed -/
theorem spec_l4Put_ev (xs : List S48) (hx : xs.length ≤ 1000) (e : S48) : EvP (fun k => spec_l4Put.f k xs e.f0 e.f1 e.f2 e.f3 e.f4) (fun r => r.length = xs.length + 1 ∧ ∀ x ∈ r, x = e ∨ x ∈ xs) := by
 have fin : ∀ d : Nat, d ≤ xs.length → (xs.take d ++ [e] ++ xs.drop d).length = xs.length + 1 ∧ ∀ x ∈ xs.take d ++ [e] ++ xs.drop d, x = e ∨ x ∈ xs := by
  intro d hd
  refine ⟨by simp; omega, fun x hx => ?_⟩
  simp only [List.mem_append, List.mem_singleton] at hx
  rcases hx with (h | h) | h
  ·
   exact .inr (List.mem_of_mem_take h)
  ·
   exact .inl h
  ·
   exact .inr (List.mem_of_mem_drop h)
 have key : ∀ d : Nat, d ≤ xs.length → EvP (fun k => spec_l4Put.l0 k xs (d : Int) e.f0 e.f1 e.f2 e.f3 e.f4) (fun r => r.length = xs.length + 1 ∧ ∀ x ∈ r, x = e ∨ x ∈ xs) := by
  intro d
  induction d with
  | zero =>
   intro _
   refine EvP.step (fun k => by rw [spec_l4Put.l0]) (EvP.neg (by omega) ?_)
   simp only [Option.bind_some, List.nil_append, List.length_nil, Int.toNat_natCast]
   refine EvP.pos (by omega) (EvP.pos (by omega) (EvP.pos (by simp; omega) (EvP.pos (by simp) (EvP.pos (by simp) (EvP.pos (by simp; omega) (EvP.now ?_))))))
   exact fin 0 (by omega)
  | succ d ih =>
   intro hd
   have e1 : wrap64 (((d + 1 : Nat) : Int) - 1) = (d : Int) := by rw [w64 (by omega) (by omega)]; omega
   refine EvP.step (fun k => by rw [spec_l4Put.l0]) (EvP.pos (by omega) ?_)
   rw [e1]
   refine EvP.pos (by omega) (EvP.pos (by omega) ?_)
   simp only [spec_EntryLess_eq, Option.bind_some]
   refine EvP.split (fun _ => ih (by omega)) (fun _ => ?_)
   simp only [Option.bind_some, List.nil_append, List.length_nil, Int.toNat_natCast]
   refine EvP.pos (by omega) (EvP.pos (by omega) (EvP.pos (by simp; omega) (EvP.pos (by simp; omega) (EvP.pos (by simp; omega) (EvP.pos (by simp; omega) (EvP.now ?_))))))
   exact fin (d + 1) hd
 exact key xs.length (Nat.le_refl _)
theorem spec_l4Sort_ev (xs : List S48) (hx : xs.length ≤ 100) : EvP (fun k => spec_l4Sort.f k xs) (fun r => r.length = xs.length ∧ ∀ x ∈ r, x ∈ xs) := by
 have key : ∀ (rest pre out : List S48), xs = pre ++ rest → out.length = pre.length → (∀ x ∈ out, x ∈ xs) → EvP (fun k => spec_l4Sort.l0 k xs out (pre.length : Int)) (fun r => r.length = xs.length ∧ ∀ x ∈ r, x ∈ xs) := by
  intro rest
  induction rest with
  | nil =>
   intro pre out e ho hm
   exact EvP.step (f := fun _ => some out) (fun k => by rw [spec_l4Sort.l0, if_neg (by simp [e])]) (EvP.now ⟨by rw [ho, e]; simp, hm⟩)
  | cons x rest ih =>
   intro pre out e ho hm
   have hl : xs.length = pre.length + (rest.length + 1) := by rw [e]; simp
   have hr : rd_T48 xs (pre.length : Int) = x := by rw [e]; exact rd_midE pre rest x
   have e2 : wrap64 ((pre.length : Int) + 1) = ((pre ++ [x]).length : Int) := by rw [w64 (by omega) (by omega)]; simp
   refine EvP.step (fun k => by rw [spec_l4Sort.l0]) (EvP.pos (by omega) (EvP.pos (by omega) ?_))
   rw [hr, e2]
   refine EvP.bind (spec_l4Put_ev out (by omega) x) ?_
   rintro out2 ⟨h1, h2⟩
   refine ih (pre ++ [x]) out2 (by rw [e]; simp) (by rw [h1, ho]; simp) (fun y hy => ?_)
   rcases h2 y hy with rfl | h
   ·
    rw [e]; simp
   ·
    exact hm y h
 exact key xs [] [] rfl rfl (by simp)
theorem spec_l4Ents_ev (l : List Int) (hl : Bytes l) (p many : Int) (h0 : 0 ≤ p) (h1 : p ≤ 500000000000) (hm0 : 0 ≤ many) (hm1 : many ≤ 40) : EvP (fun k => spec_l4Ents.f k l p many) (fun r => (r.1.length : Int) ≤ many ∧ (∀ x ∈ r.1, Item 1000 x) ∧ p ≤ r.2 ∧ r.2 ≤ p + 1000) := by
 unfold spec_l4Ents.f
 refine EvP.bind (spec_l3List_ev l hl p many h0 h1 hm0 hm1) ?_
 rintro ⟨xs, p1⟩ ⟨_, h2, h3, h4, h5⟩
 simp only at h2 h3 h4 h5
 refine EvP.bind (spec_l4Sort_ev xs (by omega)) ?_
 rintro r ⟨h6, h7⟩
 exact EvP.now ⟨by simp only; omega, fun x hx => h3 x (h7 x hx), h4, h5⟩
theorem spec_l4Snaps_ev (l : List Int) (hl : Bytes l) (p : Int) (h0 : 0 ≤ p) (h1 : p ≤ 500000000000) : EvP (fun k => spec_l4Snaps.f k l p) (fun r => r.1.length ≤ 3 ∧ (∀ s ∈ r.1, 0 ≤ s ∧ s < 20) ∧ p ≤ r.2 ∧ r.2 ≤ p + 10) := by
 have key : ∀ (d : Nat) (out : List Int) (q : Int), d ≤ 3 → out.length + d ≤ 3 → (∀ s ∈ out, 0 ≤ s ∧ s < 20) → 0 ≤ q → q + d ≤ 600000000000 → EvP (fun k => spec_l4Snaps.l0 k out (d : Int) l q) (fun r => r.1.length ≤ 3 ∧ (∀ s ∈ r.1, 0 ≤ s ∧ s < 20) ∧ q ≤ r.2 ∧ r.2 ≤ q + d) := by
  intro d
  induction d with
  | zero =>
   intro out q _ ho hs hq0 hq1
   exact EvP.step (f := fun _ => some (out, q)) (fun k => by rw [spec_l4Snaps.l0, if_neg (by omega)]) (EvP.now ⟨ho, hs, Int.le_refl _, by simp⟩)
  | succ d ih =>
   intro out q hd ho hs hq0 hq1
   have e1 : wrap64 (((d + 1 : Nat) : Int) - 1) = (d : Int) := by rw [w64 (by omega) (by omega)]; omega
   refine EvP.step (fun k => by rw [spec_l4Snaps.l0]) (EvP.pos (by omega) ?_)
   refine EvP.bind (spec_l9Rd_pick_ev l hl q 20 (by omega) (by omega)) ?_
   rintro ⟨v, q1⟩ ⟨hq, hv0, hv1, _⟩
   simp only at hq hv0 hv1
   have hv := hv1 (by omega)
   have b1 : (out ++ [v]).length + d ≤ 3 := by simp; omega
   have b2 : out.length < 17592186044416 := by omega
   have b3 : 0 ≤ q1 ∧ q1 + d ≤ 600000000000 ∧ d ≤ 3 := by omega
   rw [e1]
   clear e1
   refine EvP.pos b2 ((ih (out ++ [v]) q1 b3.2.2 b1 ?_ b3.1 b3.2.1).mono ?_)
   ·
    intro s hs'
    rcases List.mem_append.1 hs' with h | h
    ·
     exact hs s h
    ·
     obtain rfl := List.mem_singleton.1 h
     exact ⟨hv0, hv⟩
   ·
    rintro r ⟨g1, g2, g3, g4⟩
    exact ⟨g1, g2, by omega, by omega⟩
 unfold spec_l4Snaps.f
 refine EvP.bind (spec_l9Rd_pick_ev l hl p 4 (by omega) (by omega)) ?_
 rintro ⟨d, p1⟩ ⟨hp1, hd0, hd1, _⟩
 simp only at hp1 hd0 hd1
 have hd := hd1 (by omega)
 have h := key d.toNat [] p1 (by omega) (by simp; omega) (by simp) (by omega) (by omega)
 have ed : ((d.toNat : Nat) : Int) = d := by omega
 rw [ed] at h
 refine h.mono ?_
 rintro r ⟨g1, g2, g3, g4⟩
 exact ⟨g1, g2, by omega, by omega⟩
def bigOf (e : S48) (n : Int) : S48 := ⟨e.f0, e.f1, e.f2, e.f3, n⟩
/-- Drawn entries, the first's number perhaps made great. -/
def TopOf (top : List S48) : Prop := top.length ≤ 14 ∧ ((∀ x ∈ top, Item 1000 x) ∨ ∃ (e : S48) (rest : List S48) (n : Int), (∀ x ∈ e :: rest, Item 1000 x) ∧ e.f2 ≠ 2 ∧ (n = 1000000 ∨ n = -1000000) ∧ top = bigOf e n :: rest)
/-- What is drawn: such entries, perhaps the first once more behind them; times. -/
def DrawnSq (r : List S48 × List Int × Bool) : Prop := (r.2.1.length ≤ 3 ∧ ∀ s ∈ r.2.1, 0 ≤ s ∧ s < 20) ∧ ∃ top, TopOf top ∧ (r.1 = top ∨ ∃ (e : S48) (rest : List S48), top = e :: rest ∧ 1 ≤ rest.length ∧ r.1 = top ++ [e])
theorem spec_DrawSquash_j2 (l : List Int) (hl : Bytes l) (p : Int) (h0 : 0 ≤ p) (h1 : p ≤ 500000000000) (top : List S48) (ht : TopOf top) (b : Bool) (hb : b = true → 1 < top.length) : EvP (fun k => spec_DrawSquash.j2 k top b l p) DrawnSq := by
 refine EvP.step (fun k => by rw [spec_DrawSquash.j2]) (EvP.split (fun hbt => ?_) (fun _ => ?_))
 ·
  have hlen := hb hbt
  cases top with
  | nil => simp at hlen
  | cons e rest =>
   have hr : rd_T48 (e :: rest) 0 = e := by simp [rd_T48]
   have h14 := ht.1
   rw [hr]
   refine EvP.pos (by simp) (EvP.pos (by omega) ?_)
   refine EvP.bind (spec_l4Snaps_ev l hl p h0 h1) ?_
   rintro ⟨ss, p1⟩ ⟨g1, g2, g3, g4⟩
   simp only at g1 g2 g3 g4
   refine EvP.bind (spec_l9Rd_pick_ev l hl p1 2 (by omega) (by omega)) ?_
   intro r _
   exact EvP.now ⟨⟨g1, g2⟩, e :: rest, ht, .inr ⟨e, rest, rfl, by simp at hlen; omega, rfl⟩⟩
 ·
  refine EvP.bind (spec_l4Snaps_ev l hl p h0 h1) ?_
  rintro ⟨ss, p1⟩ ⟨g1, g2, g3, g4⟩
  simp only at g1 g2 g3 g4
  refine EvP.bind (spec_l9Rd_pick_ev l hl p1 2 (by omega) (by omega)) ?_
  intro r _
  exact EvP.now ⟨⟨g1, g2⟩, top, ht, .inl rfl⟩
theorem spec_DrawSquash_j1 (l : List Int) (hl : Bytes l) (p : Int) (h0 : 0 ≤ p) (h1 : p ≤ 400000000000) (top : List S48) (ht : TopOf top) : EvP (fun k => spec_DrawSquash.j1 k top l p) DrawnSq := by
 refine EvP.step (fun k => by rw [spec_DrawSquash.j1]) (EvP.split (fun hgt => ?_) (fun _ => ?_))
 ·
  refine EvP.bind (spec_l9Rd_pick_ev l hl p 24 (by omega) (by omega)) ?_
  rintro ⟨v, p1⟩ ⟨hp, _⟩
  simp only at hp
  exact spec_DrawSquash_j2 l hl p1 (by omega) (by omega) top ht _ (fun _ => by omega)
 ·
  exact spec_DrawSquash_j2 l hl p h0 (by omega) top ht false (by simp)
theorem spec_DrawSquash_ev (l0 : List Int) (h : ∀ x ∈ l0, (Lit.int .u8 x).wf = true) : EvP (fun k => spec_DrawSquash.f k l0) DrawnSq := by
 unfold spec_DrawSquash.f
 refine EvP.bind (spec_l9Open_ev l0 h) ?_
 rintro ⟨l, p⟩ ⟨hl, hp⟩
 simp only at hp hl
 refine EvP.bind (spec_l4Ents_ev l hl p 14 (by omega) (by omega) (by omega) (by omega)) ?_
 rintro ⟨xs, p1⟩ ⟨h1, h2, h3, h4⟩
 simp only at h1 h2 h3 h4
 have htop : TopOf xs := ⟨by omega, .inl h2⟩
 have j0f : ∀ q : Int, 0 ≤ q → q ≤ 1000000 → EvP (fun k => spec_DrawSquash.j0 k xs false l q) DrawnSq := fun q hq0 hq1 =>
  EvP.step (fun k => by rw [spec_DrawSquash.j0]) (EvP.neg (by simp) (spec_DrawSquash_j1 l hl q hq0 (by omega) xs htop))
 simp only
 refine EvP.split (fun hpos => EvP.pos hpos (EvP.split (fun _ => j0f p1 (by omega) (by omega)) (fun hk => ?_))) (fun _ => j0f p1 (by omega) (by omega))
 cases xs with
 | nil => simp at hpos
 | cons e rest =>
  have hr : rd_T48 (e :: rest) 0 = e := by simp [rd_T48]
  rw [hr] at hk
  refine EvP.bind (spec_l9Rd_pick_ev l hl p1 16 (by omega) (by omega)) ?_
  rintro ⟨v, p2⟩ ⟨hp2, _⟩
  simp only at hp2
  refine EvP.step (fun k => by rw [spec_DrawSquash.j0]) (EvP.split (fun _ => ?_) (fun _ => spec_DrawSquash_j1 l hl p2 (by omega) (by omega) _ htop))
  refine EvP.bind (spec_l9Rd_num_ev l hl p2 [1000000, -1000000] (by simp) (by omega) (by omega)) ?_
  rintro ⟨n, p3⟩ ⟨hp3, hn⟩
  simp only at hp3 hn
  rw [hr]
  refine EvP.pos hpos (spec_DrawSquash_j1 l hl p3 (by omega) (by omega) _ ⟨by simpa using htop.1, .inr ⟨e, rest, n, h2, hk, by simpa using hn, rfl⟩⟩)
theorem drawn_small {r : List S48 × List Int × Bool} (h : DrawnSq r) : r.1.length ≤ 15 ∧ KeysSmall r.1 := by
 obtain ⟨_, top, ⟨h14, hT⟩, hr⟩ := h
 have hk : ∀ x ∈ top, x.f0.size ≤ 140737488351232 := by
  intro x hx
  have hi : ∀ y : S48, Item 1000 y → y.f0.size ≤ 140737488351232 := fun y hy => by
   have := keys_small y.f0 hy.key
   omega
  rcases hT with hT | ⟨e, rest, n, h1, _, _, rfl⟩
  ·
   exact hi x (hT x hx)
  ·
   rcases List.mem_cons.1 hx with rfl | hx
   ·
    exact hi e (h1 e (by simp))
   ·
    exact hi x (h1 x (by simp [hx]))
 rcases hr with hr | ⟨e, rest, h1, h2, hr⟩
 ·
  rw [hr]; exact ⟨by omega, hk⟩
 ·
  rw [hr]
  refine ⟨by simp; omega, fun x hx => ?_⟩
  rcases List.mem_append.1 hx with hx | hx
  ·
   exact hk x hx
  ·
   obtain rfl := List.mem_singleton.1 hx
   exact hk x (by rw [h1]; simp)

theorem wpEnts_ev (xs ys : List S48) (hx : xs.length ≤ 1048576) : EvP (fun k => laws_wpEnts.f k xs ys) (· = decide (xs.map entKey = ys.map entKey)) := by
 have key : ∀ (r r' pre pre' : List S48), xs = pre ++ r → ys = pre' ++ r' → pre.length = pre'.length → r.length = r'.length → EvP (fun k => laws_wpEnts.l0 k xs ys (pre.length : Int)) (· = decide (r.map entKey = r'.map entKey)) := by
  intro r
  induction r with
  | nil =>
   intro r' pre pre' e e' hl hr
   obtain rfl : r' = [] := List.eq_nil_of_length_eq_zero (by simpa using hr.symm)
   exact EvP.step (f := fun _ => some true) (fun k => by rw [laws_wpEnts.l0, if_neg (by simp [e])]) (EvP.now (by simp))
  | cons x r ih =>
   intro r' pre pre' e e' hl hr
   cases r' with
   | nil => simp at hr
   | cons y r' =>
    have h1 : xs.length = pre.length + (r.length + 1) := by rw [e]; simp
    have h2 : ys.length = pre'.length + (r'.length + 1) := by rw [e']; simp
    have hrx : rd_T48 xs (pre.length : Int) = x := by rw [e]; exact rd_midE pre r x
    have hry : rd_T48 ys (pre.length : Int) = y := by rw [e', hl]; exact rd_midE pre' r' y
    have e2 : wrap64 ((pre.length : Int) + 1) = ((pre ++ [x]).length : Int) := by rw [w64 (by omega) (by omega)]; simp
    have step := ih r' (pre ++ [x]) (pre' ++ [y]) (by rw [e]; simp) (by rw [e']; simp) (by simp [hl]) (by simpa using hr)
    refine EvP.step (fun k => by rw [laws_wpEnts.l0]) (EvP.pos (by omega) (EvP.pos (by omega) (EvP.pos (by simp at hr; omega) ?_)))
    rw [hrx, hry, entNe, e2]
    by_cases c : entKey x = entKey y
    ·
     refine EvP.neg (by simp [c]) (step.mono ?_)
     rintro _ rfl
     simp [c]
    ·
     exact EvP.pos (by simp [c]) (EvP.now (by simp [c]))
 unfold laws_wpEnts.f
 refine EvP.split (fun h => ?_) (fun h => EvP.now ?_)
 ·
  exact key xs ys [] [] rfl rfl rfl (by omega)
 ·
  have : xs.map entKey ≠ ys.map entKey := fun he => h (by have := congrArg List.length he; simp at this; omega)
  simp [this]
theorem wpEnts_same (xs : List S48) (hx : xs.length ≤ 1048576) : EvP (fun k => laws_wpEnts.f k xs xs) (· = true) := (wpEnts_ev xs xs hx).mono (by rintro _ rfl; simp)
theorem rd_mem (xs : List S48) (i : Nat) (h : i < xs.length) : rd_T48 xs (i : Int) ∈ xs := by
 unfold rd_T48
 rw [Int.toNat_natCast, List.getD_eq_getElem?_getD, List.getElem?_eq_getElem h]
 exact List.getElem_mem h
/-- Times that part the same entries cut the same classes. -/
theorem cuts_congr {xs : List S48} {s t : List Int} (h : ∀ x ∈ xs, ∀ y ∈ xs, partedB x y s = partedB x y t) : classCuts xs s = classCuts xs t := by
 have key : ∀ f a i, 1 ≤ i → cutAt (apAt xs s) xs.length f a i = cutAt (apAt xs t) xs.length f a i := by
  intro f
  induction f with
  | zero => intro a i _; rfl
  | succ f ih =>
   intro a i hi
   by_cases hn : i < xs.length
   ·
    have hx := rd_mem xs (i - 1) (by omega)
    have hy := rd_mem xs i hn
    have ei : ((i - 1 : Nat) : Int) = (i : Int) - 1 := by omega
    rw [ei] at hx
    have he : apAt xs s i = apAt xs t i := h _ hx _ hy
    rw [cutAt, cutAt, he, ih a (i + 1) (by omega), ih i (i + 1) (by omega)]
   ·
    rw [cutAt, cutAt, if_neg (fun q => hn q.1), if_neg (fun q => hn q.1), ih i (i + 1) (by omega)]
 exact key xs.length 0 1 (Nat.le_refl _)
theorem sqB_congr {xs : List S48} {s t : List Int} {b : Bool} (h : rightB xs = true → ∀ x ∈ xs, ∀ y ∈ xs, partedB x y s = partedB x y t) : sqB xs s b = sqB xs t b := by
 unfold sqB
 by_cases hr : rightB xs = true
 ·
  rw [if_pos hr, if_pos hr]
  unfold squashB grpL
  congr 1
  refine List.map_congr_left (fun p _ => ?_)
  unfold keyL classesL
  rw [cuts_congr (fun x hx y hy => h hr x (clsL_sub x hx) y (clsL_sub y hy))]
 ·
  rw [if_neg hr, if_neg hr]
theorem parted_iff (x y : S48) (s : List Int) : partedB x y s = true ↔ ∃ t ∈ s, y.f1 ≤ t ∧ t < x.f1 := by simp [partedB]
theorem seq_range {xs : List S48} (hr : rightB xs = true) : ∀ x ∈ xs, 1 ≤ x.f1 ∧ x.f1 ≤ 100000 := by
 intro x hx
 have h := right_ents xs none hr x hx
 unfold entB at h
 simp only [Bool.and_eq_true, decide_eq_true_eq] at h
 exact ⟨h.1.1.1.1.1.2, h.1.1.1.1.2⟩

/-! ### How few entries are left -/
def SmallN (xs : List S48) : Prop := ∀ x ∈ xs, -1000 ≤ x.f4 ∧ x.f4 ≤ 1000
theorem oneGo_small : ∀ (c : List S48) (first : Bool) (n : Int) (m : Nat), SmallN c → -(1000 * (m : Int)) ≤ n → n ≤ 1000 * (m : Int) → m + c.length ≤ 1000 → -1000000 ≤ (oneGo c first n).2.2 ∧ (oneGo c first n).2.2 ≤ 1000000
 | [], first, n, m, _, h0, h1, hm => by
  have hm' : m ≤ 1000 := by simpa using hm
  simp only [oneGo]
  omega
 | e :: r, first, n, m, hs, h0, h1, hm => by
  have he := hs e (by simp)
  have hl : m + (r.length + 1) ≤ 1000 := by simpa using hm
  have hw : wrap64 (n + e.f4) = n + e.f4 := w64 (by omega) (by omega)
  rw [oneGo, hw]
  clear hw
  split
  ·
   exact oneGo_small r false (n + e.f4) (m + 1) (fun x hx => hs x (by simp [hx])) (by omega) (by omega) (by omega)
  ·
   split
   ·
    simp only
    omega
   ·
    split <;> simp only <;> omega
theorem oneGo_false : ∀ (c : List S48) (n : Int), (oneGo c false n).1 = 1 ∨ (oneGo c false n).1 = 3
 | [], n => .inr rfl
 | e :: r, n => by
  rw [oneGo]
  split
  ·
   exact oneGo_false r _
  ·
   split
   ·
    exact .inl rfl
   ·
    exact .inl (by rw [if_neg (by simp)])
theorem oneGo_kind (e : S48) (r : List S48) (n : Int) : ((oneGo (e :: r) true n).1 = 1 ∨ (oneGo (e :: r) true n).1 = 3) ∧ (e.f2 = 3 ∨ e.f2 = 1) ∨ (oneGo (e :: r) true n).1 = 2 ∧ e.f2 ≠ 3 ∧ e.f2 ≠ 1 := by
 rw [oneGo]
 split
 ·
  exact .inl ⟨oneGo_false r _, .inl (by assumption)⟩
 ·
  split
  ·
   exact .inl ⟨.inl rfl, .inr (by assumption)⟩
  ·
   exact .inr ⟨by rw [if_pos rfl], by assumption, by assumption⟩
def SmallC (c : List S48) : Prop := c ≠ [] ∧ c.length ≤ 100 ∧ SmallN c
/-- The least that is left of a class: nothing, or one entry of its first's key, that is a Put where it is the last of the lowest. -/
theorem classB_small {c : List S48} (h : SmallC c) (b : Bool) :
  (∃ x, classB c b = [x] ∧ x.f0 = (joinOf c).1 ∧ (b = true → x.f2 = 1)) ∨ classB c b = [] ∧ b = true ∧ ∃ e r, c = e :: r ∧ e.f2 ≠ 3 ∧ e.f2 ≠ 1 := by
 obtain ⟨h1, h2, h3⟩ := h
 cases c with
 | nil => exact absurd rfl h1
 | cons e r =>
  have hs := oneGo_small (e :: r) true 0 0 h3 (by omega) (by omega) (by omega)
  have hk := oneGo_kind e r 0
  unfold classB sqOne
  rw [if_neg (show ¬ ((joinOf (e :: r)).2.2.2.2 > 1000000 ∨ (joinOf (e :: r)).2.2.2.2 < -1000000) from fun hc => by have hc' : (oneGo (e :: r) true 0).2.2 > 1000000 ∨ (oneGo (e :: r) true 0).2.2 < -1000000 := hc; omega)]
  have ej : (joinOf (e :: r)).2.2.1 = (oneGo (e :: r) true 0).1 := rfl
  rw [ej]
  rcases hk with ⟨hk, _⟩ | ⟨hk, h4, h5⟩
  ·
   rw [if_neg (by omega)]
   refine .inl ⟨_, rfl, rfl, fun hb => ?_⟩
   rcases hk with hk | hk
   ·
    rw [if_neg (by omega)]
    exact hk
   ·
    rw [if_pos ⟨hb, hk⟩]
  ·
   by_cases hb : b = true
   ·
    rw [if_pos ⟨hb, hk⟩]
    exact .inr ⟨rfl, hb, e, r, rfl, h4, h5⟩
   ·
    rw [if_neg (fun q => hb q.1)]
    exact .inl ⟨_, rfl, rfl, fun q => absurd q hb⟩
/-- Nothing is left of the lowest but where each class is nothing; the last that is left is a Put. -/
theorem parts_low : ∀ (cs : List (List S48)), (∀ c ∈ cs, SmallC c) → ((partsB cs true).1.flatten = [] → (partsB cs true).2 = true) ∧ ∀ x, (partsB cs true).1.flatten.getLast? = some x → x.f2 = 1
 | [], _ => ⟨fun _ => rfl, fun x hx => by simp [partsB] at hx⟩
 | c :: cs, h => by
  obtain ⟨h2, h3⟩ := parts_low cs (fun x hx => h x (by simp [hx]))
  have hc := classB_small (h c (by simp)) (partsB cs true).2
  simp only [partsB, List.flatten_cons]
  constructor
  ·
   intro he
   obtain ⟨h4, h5⟩ := List.append_eq_nil_iff.1 he
   rw [h2 h5] at h4 ⊢
   simp [h4]
  ·
   intro x hx
   by_cases hr : (partsB cs true).1.flatten = []
   ·
    rw [h2 hr, hr, List.append_nil] at hx
    rw [h2 hr] at hc
    rcases hc with ⟨y, e, _, hy⟩ | ⟨e, _⟩
    ·
     rw [e] at hx
     obtain rfl : y = x := by simpa using hx
     exact hy rfl
    ·
     rw [e] at hx
     simp at hx
   ·
    obtain ⟨y, hy⟩ : ∃ y, (partsB cs true).1.flatten.getLast? = some y := by
     cases hq : (partsB cs true).1.flatten.getLast? with
     | none => exact absurd (List.getLast?_eq_none_iff.1 hq) hr
     | some y => exact ⟨y, rfl⟩
    rw [List.getLast?_append, hy] at hx
    obtain rfl : y = x := by simpa using hx
    exact h3 y hy
theorem classes_small {xs : List S48} (hl : xs.length ≤ 100) (hs : SmallN xs) (snaps : List Int) : ∀ c ∈ classesL xs snaps, SmallC c := fun c hc =>
 ⟨(classesL_ne xs snaps c hc).1, Nat.le_trans (classesL_len xs snaps c hc) hl, fun x hx => hs x ((classesL_ne xs snaps c hc).2 x hx)⟩
theorem cutAt_none {ap : Nat → Bool} {n : Nat} (h : ∀ i, ap i = false) : ∀ f s i, i + f = n + 1 → 1 ≤ i → i ≤ n → cutAt ap n f s i = [(s, n)] := by
 intro f
 induction f with
 | zero => intro s i h1 h2 h3; omega
 | succ f ih =>
  intro s i h1 h2 h3
  by_cases hi : i < n
  ·
   rw [cutAt_on hi (h i)]
   exact ih s (i + 1) (by omega) (by omega) (by omega)
  ·
   obtain rfl : i = n := by omega
   obtain rfl : f = 0 := by omega
   rw [cutAt_cut (fun q => hi q.1)]
   rfl
theorem classes_none {xs : List S48} (h : xs ≠ []) : classesL xs [] = [xs] := by
 unfold classesL classCuts
 have hl : 1 ≤ xs.length := by cases xs with | nil => exact absurd rfl h | cons => simp
 rw [cutAt_none (ap := apAt xs []) (fun _ => rfl) xs.length 0 1 (by omega) (by omega) hl]
 simp [clsL]
/-- A stretch of one key. -/
def GrpOk (xs : List S48) (p : Nat × Nat) : Prop := p.1 < p.2 ∧ p.2 ≤ xs.length ∧ ∀ j, p.1 ≤ j → j < p.2 → (rd_T48 xs (j : Int)).f0.toList = (rd_T48 xs (p.1 : Int)).f0.toList
theorem grp_ok (xs : List S48) : ∀ f s i, i + f = xs.length + 1 → s < i → i ≤ xs.length → (∀ j, s ≤ j → j < i → (rd_T48 xs (j : Int)).f0.toList = (rd_T48 xs (s : Int)).f0.toList) → ∀ p ∈ grpAt xs f s i, GrpOk xs p := by
 intro f
 induction f with
 | zero => intro s i h1 h2 h3; omega
 | succ f ih =>
  intro s i h1 h2 h3 hk p hp
  rw [grpAt] at hp
  split at hp
  ·
   rename_i h
   refine ih s (i + 1) (by omega) (by omega) (by omega) (fun j h4 h5 => ?_) p hp
   by_cases hj : j = i
   ·
    rw [hj]; exact h.2
   ·
    exact hk j h4 (by omega)
  ·
   rcases List.mem_cons.1 hp with rfl | hp
   ·
    exact ⟨h2, h3, hk⟩
   ·
    by_cases hi : i < xs.length
    ·
     refine ih i (i + 1) (by omega) (by omega) (by omega) (fun j h4 h5 => ?_) p hp
     obtain rfl : j = i := by omega
     rfl
    ·
     obtain rfl : f = 0 := by omega
     simp [grpAt] at hp
theorem grp_all (xs : List S48) : ∀ p ∈ grpAt xs xs.length 0 1, GrpOk xs p := by
 cases h : xs.length with
 | zero => intro p hp; simp [grpAt] at hp
 | succ n =>
  have := grp_ok xs xs.length 0 1 (by omega) (by omega) (by omega) (fun j h1 h2 => by rw [show j = 0 by omega])
  rw [h] at this
  exact this
theorem clsL_rd {xs : List S48} {p : Nat × Nat} (h2 : p.2 ≤ xs.length) (j : Nat) (hj : p.1 + j < p.2) : rd_T48 (clsL xs p) (j : Int) = rd_T48 xs ((p.1 + j : Nat) : Int) := by
 unfold rd_T48 clsL
 rw [Int.toNat_natCast, Int.toNat_natCast, List.getD_eq_getElem?_getD, List.getD_eq_getElem?_getD, List.getElem?_drop, List.getElem?_take, if_pos hj]
theorem clsL_key {xs : List S48} {p : Nat × Nat} (h : GrpOk xs p) : ∀ y ∈ clsL xs p, y.f0.toList = (rd_T48 xs (p.1 : Int)).f0.toList := by
 intro y hy
 obtain ⟨h1, h2, h3⟩ := h
 obtain ⟨j, hj, rfl⟩ := List.mem_iff_getElem.1 hy
 have hl := clsL_length h1 h2
 have e := clsL_rd h2 j (by omega)
 have e2 : rd_T48 (clsL xs p) (j : Int) = (clsL xs p)[j] := by simp [rd_T48, List.getD_eq_getElem?_getD, List.getElem?_eq_getElem hj]
 rw [← e2, e]
 exact h3 _ (by omega) (by omega)
theorem clsL_small {xs : List S48} (hl : xs.length ≤ 100) (hs : SmallN xs) (p : Nat × Nat) : (clsL xs p).length ≤ 100 ∧ SmallN (clsL xs p) := by
 refine ⟨?_, fun x hx => hs x (clsL_sub x hx)⟩
 unfold clsL
 rw [List.length_drop, List.length_take]
 omega
theorem grpL_cons (xs : List S48) (snaps : List Int) (b : Bool) (p : Nat × Nat) (ps : List (Nat × Nat)) : grpL xs snaps b (p :: ps) = keyL (clsL xs p) snaps b ++ grpL xs snaps b ps := by simp [grpL]

/-! ### How few: what only this law asks -/
theorem classB_dels {c : List S48} (h : SmallC c) {e : S48} {r : List S48} (he : c = e :: r) (h4 : e.f2 ≠ 3) (h5 : e.f2 ≠ 1) : classB c true = [] := by
 subst he
 have hs := oneGo_small (e :: r) true 0 0 h.2.2 (by omega) (by omega) (by have := h.2.1; omega)
 rcases oneGo_kind e r 0 with ⟨_, hk⟩ | ⟨hk, _, _⟩
 ·
  exact absurd hk (by omega)
 ·
  unfold classB sqOne
  rw [if_neg (show ¬ ((joinOf (e :: r)).2.2.2.2 > 1000000 ∨ (joinOf (e :: r)).2.2.2.2 < -1000000) from fun hc => by have hc' : (oneGo (e :: r) true 0).2.2 > 1000000 ∨ (oneGo (e :: r) true 0).2.2 < -1000000 := hc; omega), if_pos ⟨rfl, hk⟩]
theorem parts_few : ∀ (cs : List (List S48)), (∀ c ∈ cs, SmallC c) → ∀ b, (partsB cs b).1.flatten.length ≤ cs.length
 | [], _, _ => Nat.le_refl _
 | c :: cs, h, b => by
  have h2 := parts_few cs (fun x hx => h x (by simp [hx])) b
  have h1 : (classB c (partsB cs b).2).length ≤ 1 := by rcases classB_small (h c (by simp)) (partsB cs b).2 with ⟨x, e, _⟩ | ⟨e, _⟩ <;> rw [e] <;> simp
  simp only [partsB, List.flatten_cons, List.length_append, List.length_cons]
  omega
theorem parts_all : ∀ (cs : List (List S48)), (∀ c ∈ cs, SmallC c) → (partsB cs false).1.flatten.length = cs.length ∧ (partsB cs false).2 = false
 | [], _ => ⟨rfl, rfl⟩
 | c :: cs, h => by
  obtain ⟨h2, h3⟩ := parts_all cs (fun x hx => h x (by simp [hx]))
  have h1 : (classB c false).length = 1 := by
   rcases classB_small (h c (by simp)) false with ⟨x, e, _⟩ | ⟨_, e, _⟩
   ·
    rw [e]; rfl
   ·
    cases e
  simp only [partsB, List.flatten_cons, List.length_append, List.length_cons, h3, h1, h2, Bool.false_and, and_true]
  omega
theorem parts_keys : ∀ (cs : List (List S48)), (∀ c ∈ cs, SmallC c) → ∀ b, ∀ x ∈ (partsB cs b).1.flatten, ∃ c ∈ cs, x.f0 = (joinOf c).1
 | [], _, _, x, hx => by simp [partsB] at hx
 | c :: cs, h, b, x, hx => by
  simp only [partsB, List.flatten_cons, List.mem_append] at hx
  rcases hx with hx | hx
  ·
   rcases classB_small (h c (by simp)) (partsB cs b).2 with ⟨y, e, hy, _⟩ | ⟨e, _⟩
   ·
    rw [e] at hx
    obtain rfl := List.mem_singleton.1 hx
    exact ⟨c, by simp, hy⟩
   ·
    rw [e] at hx
    simp at hx
  ·
   obtain ⟨d, hd, e⟩ := parts_keys cs (fun x hx => h x (by simp [hx])) b x hx
   exact ⟨d, by simp [hd], e⟩
theorem keyL_none {xs : List S48} (hl : xs.length ≤ 100) (hs : SmallN xs) (snaps : List Int) (b : Bool) : (keyL xs [] b).length ≤ (keyL xs snaps b).length := by
 cases xs with
 | nil => exact Nat.le_of_eq (by cases b <;> rfl)
 | cons e r =>
  have hc : SmallC (e :: r) := ⟨by simp, hl, hs⟩
  have h1 : keyL (e :: r) [] b = classB (e :: r) b := by
   unfold keyL
   rw [classes_none (by simp)]
   simp [partsB]
  have hcs := classes_small hl hs snaps
  have hf := classesL_flat (e :: r) snaps
  cases hg : classesL (e :: r) snaps with
  | nil => rw [hg] at hf; simp at hf
  | cons c cs =>
   rw [hg] at hf hcs
   rw [h1]
   have h2 : (classB (e :: r) b).length ≤ 1 := by rcases classB_small hc b with ⟨x, q, _⟩ | ⟨q, _⟩ <;> rw [q] <;> simp
   by_cases hz : keyL (e :: r) snaps b = []
   ·
    unfold keyL at hz
    rw [hg] at hz
    cases b with
    | false =>
     have := (parts_all (c :: cs) hcs).1
     rw [hz] at this
     simp at this
    | true =>
     simp only [partsB, List.flatten_cons] at hz
     obtain ⟨h4, h5⟩ := List.append_eq_nil_iff.1 hz
     rcases classB_small (hcs c (by simp)) (partsB cs true).2 with ⟨x, q, _⟩ | ⟨_, _, e', r', q, g1, g2⟩
     ·
      rw [q] at h4
      simp at h4
     ·
      have he : e' = e := by
       rw [q] at hf
       simp only [List.flatten_cons, List.cons_append, List.cons.injEq] at hf
       exact hf.1
      rw [classB_dels hc rfl (he ▸ g1) (he ▸ g2)]
      simp
   ·
    have : 1 ≤ (keyL (e :: r) snaps b).length := by
     cases hk : keyL (e :: r) snaps b with
     | nil => exact absurd hk hz
     | cons => simp
    omega
theorem keyL_low {xs : List S48} (hl : xs.length ≤ 100) (hs : SmallN xs) (snaps : List Int) (b : Bool) : (keyL xs snaps b).length ≤ (keyL xs snaps false).length ∧ (keyL xs snaps false).length = (classesL xs snaps).length := by
 have hc := classes_small hl hs snaps
 have h1 := parts_few _ hc b
 have h2 := (parts_all _ hc).1
 unfold keyL
 omega
theorem keyL_keys {xs : List S48} (hl : xs.length ≤ 100) (hs : SmallN xs) (snaps : List Int) (b : Bool) : ∀ x ∈ keyL xs snaps b, ∃ y ∈ xs, x.f0 = y.f0 := by
 intro x hx
 obtain ⟨c, hc, e⟩ := parts_keys _ (classes_small hl hs snaps) b x hx
 obtain ⟨h1, h2⟩ := classesL_ne xs snaps c hc
 cases c with
 | nil => exact absurd rfl h1
 | cons y r => exact ⟨y, h2 y (by simp), e⟩
theorem grp_none {xs : List S48} (hl : xs.length ≤ 100) (hs : SmallN xs) (snaps : List Int) (b : Bool) : ∀ ps, (grpL xs [] b ps).length ≤ (grpL xs snaps b ps).length := by
 intro ps
 induction ps with
 | nil => exact Nat.le_refl _
 | cons p ps ih =>
  have h := clsL_small hl hs p
  have := keyL_none h.1 h.2 snaps b
  rw [grpL_cons, grpL_cons, List.length_append, List.length_append]
  omega
theorem grp_low {xs : List S48} (hl : xs.length ≤ 100) (hs : SmallN xs) (snaps : List Int) (b : Bool) : ∀ ps, (grpL xs snaps b ps).length ≤ (grpL xs snaps false ps).length := by
 intro ps
 induction ps with
 | nil => exact Nat.le_refl _
 | cons p ps ih =>
  have h := clsL_small hl hs p
  have := (keyL_low h.1 h.2 snaps b).1
  rw [grpL_cons, grpL_cons, List.length_append, List.length_append]
  omega
/-- The last of each stretch of one key is a Put. -/
def LastPut : List S48 → Prop
 | [] => True
 | [x] => x.f2 = 1
 | x :: y :: r => (y.f0.toList = x.f0.toList ∨ x.f2 = 1) ∧ LastPut (y :: r)
theorem lastPut_app (k : List UInt8) : ∀ (B L : List S48), (∀ x ∈ B, x.f0.toList = k) → (∀ x, B.getLast? = some x → x.f2 = 1) → LastPut L → LastPut (B ++ L)
 | [], L, _, _, h => h
 | [x], [], _, h, _ => h x rfl
 | [x], y :: r, _, h, hL => ⟨.inr (h x rfl), hL⟩
 | x :: y :: r, L, hk, h, hL => ⟨.inl ((hk y (by simp)).trans (hk x (by simp)).symm), lastPut_app k (y :: r) L (fun z hz => hk z (List.mem_cons_of_mem _ hz)) (fun z hz => h z (by rw [List.getLast?_cons_cons]; exact hz)) hL⟩
theorem grp_put {xs : List S48} (hl : xs.length ≤ 100) (hs : SmallN xs) (snaps : List Int) : ∀ ps : List (Nat × Nat), (∀ p ∈ ps, GrpOk xs p) → LastPut (grpL xs snaps true ps) := by
 intro ps
 induction ps with
 | nil => intro _; exact trivial
 | cons p ps ih =>
  intro hp
  have h := clsL_small hl hs p
  rw [grpL_cons]
  refine lastPut_app (rd_T48 xs (p.1 : Int)).f0.toList _ _ (fun x hx => ?_) ?_ (ih (fun q hq => hp q (by simp [hq])))
  ·
   obtain ⟨y, hy, e⟩ := keyL_keys h.1 h.2 snaps true x hx
   rw [e]
   exact clsL_key (hp p (by simp)) y hy
  ·
   exact (parts_low _ (classes_small h.1 h.2 snaps)).2
theorem right_adj : ∀ (xs : List S48) (p : Option S48), rightFrom p xs = true → ∀ j, j + 1 < xs.length → lessB (rd_T48 xs (j : Int)).f0 (rd_T48 xs (j : Int)).f1 (rd_T48 xs ((j + 1 : Nat) : Int)).f0 (rd_T48 xs ((j + 1 : Nat) : Int)).f1 = true
 | [], _, _, j, hj => by simp at hj
 | x :: xs, p, h, j, hj => by
  simp only [rightFrom, Bool.and_eq_true] at h
  cases j with
  | zero =>
   cases xs with
   | nil => simp at hj
   | cons y r =>
    have h' := h.2.2
    simp only [rightFrom, Bool.and_eq_true] at h'
    exact h'.2.1
  | succ j =>
   have := right_adj xs (some x) h.2.2 j (by simp at hj; omega)
   exact this
theorem filter_mono (l : List Int) {a b : Int} (h : a ≤ b) : (l.filter (fun s => decide (s < a))).length ≤ (l.filter (fun s => decide (s < b))).length := by
 induction l with
 | nil => exact Nat.le_refl _
 | cons s l ih =>
  by_cases h1 : s < a
  ·
   rw [List.filter_cons_of_pos (by simpa using h1), List.filter_cons_of_pos (by simp; omega)]
   simpa using ih
  ·
   rw [List.filter_cons_of_neg (by simpa using h1)]
   by_cases h2 : s < b
   ·
    rw [List.filter_cons_of_pos (by simpa using h2)]
    simp
    omega
   ·
    rw [List.filter_cons_of_neg (by simpa using h2)]
    exact ih
theorem filter_more (l : List Int) {a b : Int} (h : a ≤ b) (t : Int) (ht : t ∈ l) (h1 : a ≤ t) (h2 : t < b) : (l.filter (fun s => decide (s < a))).length + 1 ≤ (l.filter (fun s => decide (s < b))).length := by
 induction l with
 | nil => simp at ht
 | cons s l ih =>
  rcases List.mem_cons.1 ht with rfl | ht
  ·
   rw [List.filter_cons_of_neg (by simp; omega), List.filter_cons_of_pos (by simpa using h2)]
   have := filter_mono l h
   simp
   omega
  ·
   have := ih ht
   by_cases h3 : s < a
   ·
    rw [List.filter_cons_of_pos (by simpa using h3), List.filter_cons_of_pos (by simp; omega)]
    simp
    omega
   ·
    rw [List.filter_cons_of_neg (by simpa using h3)]
    by_cases h4 : s < b
    ·
     rw [List.filter_cons_of_pos (by simpa using h4)]
     simp
     omega
    ·
     rw [List.filter_cons_of_neg (by simpa using h4)]
     exact this
theorem cut_few (c : List S48) (snaps : List Int) (hd : ∀ j, j + 1 < c.length → (rd_T48 c ((j + 1 : Nat) : Int)).f1 < (rd_T48 c (j : Int)).f1) : ∀ f s i, (i + 1) + f = c.length + 1 → s < i + 1 → i + 1 ≤ c.length → (cutAt (apAt c snaps) c.length f s (i + 1)).length ≤ 1 + (snaps.filter (fun t => decide (t < (rd_T48 c (i : Int)).f1))).length := by
 intro f
 induction f with
 | zero => intro s i h1 h2 h3; omega
 | succ f ih =>
  intro s i h1 h2 h3
  by_cases hi : i + 1 < c.length
  ·
   have hlt := hd i hi
   cases hap : apAt c snaps (i + 1) with
   | false =>
    rw [cutAt_on hi hap]
    have := ih s (i + 1) (by omega) (by omega) (by omega)
    have hm := filter_mono snaps (Int.le_of_lt hlt)
    omega
   | true =>
    rw [cutAt_cut (fun q => by rw [hap] at q; cases q.2)]
    have := ih (i + 1) (i + 1) (by omega) (by omega) (by omega)
    have he : (((i + 1 : Nat) : Int) - 1) = (i : Int) := by omega
    unfold apAt at hap
    rw [he, parted_iff] at hap
    obtain ⟨t, ht, g1, g2⟩ := hap
    have hm := filter_more snaps (Int.le_of_lt hlt) t ht g1 g2
    rw [List.length_cons]
    omega
  ·
   obtain rfl : f = 0 := by omega
   rw [cutAt_cut (fun q => hi q.1)]
   simp [cutAt]
theorem classes_few {xs : List S48} (hr : rightB xs = true) {p : Nat × Nat} (h : GrpOk xs p) (snaps : List Int) : (classesL (clsL xs p) snaps).length ≤ snaps.length + 1 := by
 have hp := h
 obtain ⟨h1, h2, h3⟩ := hp
 have hl := clsL_length h1 h2
 unfold classesL classCuts
 rw [List.length_map]
 have := cut_few (clsL xs p) snaps (fun j hj => by
  rw [clsL_rd h2 j (by omega), clsL_rd h2 (j + 1) (by omega)]
  have hs := right_adj xs none hr (p.1 + j) (by omega)
  rw [lessB, if_pos ((h3 (p.1 + j) (by omega) (by omega)).trans (h3 (p.1 + j + 1) (by omega) (by omega)).symm)] at hs
  exact of_decide_eq_true hs) (clsL xs p).length 0 0 (by omega) (by omega) (by omega)
 have hf := List.length_filter_le (fun t => decide (t < (rd_T48 (clsL xs p) ((0 : Nat) : Int)).f1)) snaps
 simp only [Nat.zero_add] at this
 omega
theorem grp_few {xs : List S48} (hl : xs.length ≤ 100) (hs : SmallN xs) (hr : rightB xs = true) (snaps : List Int) (b : Bool) : ∀ ps : List (Nat × Nat), (∀ p ∈ ps, GrpOk xs p) → (grpL xs snaps b ps).length ≤ ps.length * (snaps.length + 1) := by
 intro ps
 induction ps with
 | nil => intro _; simp [grpL]
 | cons p ps ih =>
  intro hp
  have h := clsL_small hl hs p
  have h1 := keyL_low h.1 h.2 snaps b
  have h2 := classes_few hr (hp p (by simp)) snaps
  have h3 := ih (fun q hq => hp q (by simp [hq]))
  rw [grpL_cons, List.length_append, List.length_cons, Nat.add_mul]
  omega
/-- How many of the entries from one on have another key than the one ahead of them. -/
def turnN (xs : List S48) : Nat → Nat → Nat
 | 0, _ => 0
 | f + 1, i => if i < xs.length ∧ (rd_T48 xs (i : Int)).f0.toList ≠ (rd_T48 xs ((i : Int) - 1)).f0.toList then turnN xs f (i + 1) + 1 else turnN xs f (i + 1)
theorem turnN_le (xs : List S48) : ∀ f i, turnN xs f i ≤ f
 | 0, _ => Nat.le_refl _
 | f + 1, i => by
  have := turnN_le xs f (i + 1)
  rw [turnN]
  split <;> omega
theorem grp_turn (xs : List S48) : ∀ f s i, i + f = xs.length + 1 → s < i → i ≤ xs.length → (∀ j, s ≤ j → j < i → (rd_T48 xs (j : Int)).f0.toList = (rd_T48 xs (s : Int)).f0.toList) → (grpAt xs f s i).length = 1 + turnN xs f i := by
 intro f
 induction f with
 | zero => intro s i h1 h2 h3; omega
 | succ f ih =>
  intro s i h1 h2 h3 hk
  have ei : ((i - 1 : Nat) : Int) = (i : Int) - 1 := by omega
  have hp := hk (i - 1) (by omega) (by omega)
  rw [ei] at hp
  rw [grpAt, turnN, hp]
  by_cases hi : i < xs.length
  ·
   by_cases hq : (rd_T48 xs (i : Int)).f0.toList = (rd_T48 xs (s : Int)).f0.toList
   ·
    rw [if_pos ⟨hi, hq⟩, if_neg (fun q => q.2 hq)]
    refine ih s (i + 1) (by omega) (by omega) (by omega) (fun j h4 h5 => ?_)
    by_cases hj : j = i
    ·
     rw [hj]; exact hq
    ·
     exact hk j h4 (by omega)
   ·
    rw [if_neg (fun q => hq q.2), if_pos ⟨hi, hq⟩, List.length_cons]
    rw [ih i (i + 1) (by omega) (by omega) (by omega) (fun j h4 h5 => by rw [show j = i by omega])]
    omega
  ·
   obtain rfl : f = 0 := by omega
   rw [if_neg (fun q => hi q.1), if_neg (fun q => hi q.1)]
   simp [grpAt, turnN]
theorem wpKeys2_l0 (xs : List S48) (hx : xs.length ≤ 1000) : ∀ (f i : Nat) (acc : List ByteArray), i + f = xs.length → 1 ≤ i → acc.length ≤ i → EvP (fun k => laws_wpKeys2.l0 k xs acc (i : Int)) (fun r => r.length = acc.length + turnN xs f i) := by
 intro f
 induction f with
 | zero =>
  intro i acc h1 h2 h3
  exact EvP.step (f := fun _ => some acc) (fun k => by rw [laws_wpKeys2.l0, if_neg (by omega)]) (EvP.now rfl)
 | succ f ih =>
  intro i acc h1 h2 h3
  have e1 : wrap64 ((i : Int) - 1) = (i : Int) - 1 := w64 (by omega) (by omega)
  have e2 : wrap64 ((i : Int) + 1) = ((i + 1 : Nat) : Int) := by rw [w64 (by omega) (by omega)]; omega
  refine EvP.step (fun k => by rw [laws_wpKeys2.l0]) (EvP.pos (by omega) (EvP.neg (by omega) (EvP.pos (by omega) ?_)))
  rw [e1, e2]
  refine EvP.pos (by omega) (EvP.pos (by omega) (EvP.split (fun hq => ?_) (fun hq => EvP.pos (by omega) ?_)))
  ·
   refine (ih (i + 1) acc (by omega) (by omega) (by omega)).mono (fun r hr => ?_)
   rw [hr, turnN, if_neg (fun q => q.2 hq)]
  ·
   refine (ih (i + 1) (acc ++ [(rd_T48 xs (i : Int)).f0]) (by omega) (by omega) (by simp; omega)).mono (fun r hr => ?_)
   rw [hr, turnN, if_pos ⟨by omega, hq⟩, List.length_append]
   simp
   omega
theorem wpKeys2_ev (xs : List S48) (hx : xs.length ≤ 1000) : EvP (fun k => laws_wpKeys2.f k xs) (fun r => r.length = (grpAt xs xs.length 0 1).length ∧ r.length ≤ xs.length) := by
 unfold laws_wpKeys2.f
 cases h : xs.length with
 | zero => exact EvP.step (f := fun _ => some []) (fun k => by rw [laws_wpKeys2.l0, if_neg (by omega)]) (EvP.now ⟨rfl, Nat.le_refl _⟩)
 | succ n =>
  refine EvP.step (fun k => by rw [laws_wpKeys2.l0]) (EvP.pos (by omega) (EvP.pos rfl (EvP.pos (by omega) (EvP.pos (by simp) ?_))))
  have g := grp_turn xs xs.length 0 1 (by omega) (by omega) (by omega) (fun j h1 h2 => by rw [show j = 0 by omega])
  rw [show wrap64 (0 + 1) = ((1 : Nat) : Int) from (w64 (by omega) (by omega)).trans (by omega)]
  refine (wpKeys2_l0 xs hx n 1 ([] ++ [(rd_T48 xs 0).f0]) (by omega) (by omega) (by simp)).mono (fun r hr => ?_)
  have hle := turnN_le xs n 1
  have ht : turnN xs (n + 1) 1 = turnN xs n 1 := by
   have : ∀ f i, i + f = xs.length → turnN xs (f + 1) i = turnN xs f i := by
    intro f
    induction f with
    | zero => intro i hi; simp only [turnN]; rw [if_neg (fun q => by have := q.1; omega)]
    | succ f ih =>
     intro i hi
     rw [turnN, ih (i + 1) (by omega)]
     conv => rhs; rw [turnN]
   exact this n 1 (by omega)
  rw [h, ht] at g
  rw [g, hr]
  simp
  omega

theorem lastPut_at : ∀ (xs : List S48), LastPut xs → ∀ i, i < xs.length → (rd_T48 xs (i : Int)).f2 = 1 ∨ (i + 1 < xs.length ∧ (rd_T48 xs ((i + 1 : Nat) : Int)).f0.toList = (rd_T48 xs (i : Int)).f0.toList)
 | [], _, i, hi => by simp at hi
 | [x], h, i, hi => by
  obtain rfl : i = 0 := by simp at hi; omega
  exact .inl h
 | x :: y :: r, h, i, hi => by
  cases i with
  | zero =>
   rcases h.1 with g | g
   ·
    exact .inr ⟨by simp, g⟩
   ·
    exact .inl g
  | succ i =>
   rcases lastPut_at (y :: r) h.2 i (by simp at hi ⊢; omega) with g | ⟨g, g'⟩
   ·
    exact .inl g
   ·
    exact .inr ⟨by simp at g ⊢; omega, g'⟩
theorem FnSquashFew (l0 : List Int) (g0 : l0.length ≤ maxLen ∧ ∀ x ∈ l0, (Lit.int .u8 x).wf = true) : ∃ k, laws_FnSquashFew.f k l0 = some true := by
 refine EvP.done ?_
 unfold laws_FnSquashFew.f
 refine EvP.split (fun _ => EvP.now rfl) (fun _ => ?_)
 refine EvP.bind (spec_DrawSquash_ev l0 g0.2) ?_
 rintro ⟨xs, snaps, b⟩ hd
 obtain ⟨n1, hk⟩ := drawn_small hd
 have hs := hd.1.1
 simp only at n1 hk hs ⊢
 have hq := fun s b => sqB_len xs s b
 have hq0 := hq snaps b
 refine EvP.bind (impl_Squash_ev xs snaps b (by omega) hk) ?_
 rintro _ rfl
 refine EvP.bind (spec_Squash_ev xs snaps b (by omega) (by omega) hk) ?_
 rintro _ rfl
 refine EvP.bind (wpEnts_same _ (by omega)) ?_
 rintro _ rfl
 refine EvP.pos rfl ?_
 have fin : SmallN xs → EvP (fun k => laws_FnSquashFew.l0 k xs snaps b (sqB xs snaps b) (xs.length : Int)) (· = true) := by
  intro hsm
  have hl : xs.length ≤ 100 := by omega
  have low : LastPut (sqB xs snaps true) := by
   unfold sqB
   split
   ·
    exact grp_put hl hsm snaps _ (grp_all xs)
   ·
    exact trivial
  have f1 : (sqB xs [] b).length ≤ (sqB xs snaps b).length := by
   unfold sqB
   split
   ·
    exact grp_none hl hsm snaps b _
   ·
    exact Nat.le_refl _
  have f2 : (sqB xs snaps true).length ≤ (sqB xs snaps false).length := by
   unfold sqB
   split
   ·
    exact grp_low hl hsm snaps true _
   ·
    exact Nat.le_refl _
  have f3 : (sqB xs snaps b).length ≤ (grpAt xs xs.length 0 1).length * (snaps.length + 1) := by
   unfold sqB
   split
   ·
    exact grp_few hl hsm (by assumption) snaps b _ (grp_all xs)
   ·
    simp
  have hq1 := hq snaps true
  refine EvP.step (fun k => by rw [laws_FnSquashFew.l0]) (EvP.neg (by omega) ?_)
  refine EvP.bind (impl_Squash_ev xs snaps true (by omega) hk) ?_
  rintro _ rfl
  obtain ⟨lo, hlo⟩ : ∃ lo, sqB xs snaps true = lo := ⟨_, rfl⟩
  rw [hlo] at low f2 hq1 ⊢
  have key : ∀ (f i : Nat), i + f = lo.length → EvP (fun k => laws_FnSquashFew.l1 k xs snaps b (sqB xs snaps b) lo (i : Int)) (· = true) := by
   intro f
   induction f with
   | zero =>
    intro i hi
    refine EvP.step (fun k => by rw [laws_FnSquashFew.l1]) (EvP.neg (by omega) ?_)
    refine EvP.bind (impl_Squash_ev xs [] b (by omega) hk) ?_
    rintro _ rfl
    refine EvP.pos (by omega) (EvP.bind (impl_Squash_ev xs snaps false (by omega) hk) ?_)
    rintro _ rfl
    refine EvP.pos (by omega) (EvP.bind (wpKeys2_ev xs (by omega)) ?_)
    rintro r ⟨hr, hr2⟩
    have hb : r.length * (snaps.length + 1) ≤ 15 * 4 := Nat.mul_le_mul (by omega) (by omega)
    have e1 : wrap64 ((snaps.length : Int) + 1) = ((snaps.length + 1 : Nat) : Int) := by rw [w64 (by omega) (by omega)]; omega
    rw [← hr] at f3
    obtain ⟨m, hm⟩ : ∃ m, r.length * (snaps.length + 1) = m := ⟨_, rfl⟩
    have e2 : wrap64 ((r.length : Int) * wrap64 ((snaps.length : Int) + 1)) = (m : Int) := by
     rw [e1, ← Int.natCast_mul, hm]
     clear e1
     exact w64 (by omega) (by omega)
    rw [hm] at f3 hb
    rw [e2]
    clear e1 e2
    exact EvP.now (decide_eq_true (by omega))
   | succ f ih =>
    intro i hi
    have e2 : wrap64 ((i : Int) + 1) = ((i + 1 : Nat) : Int) := by rw [w64 (by omega) (by omega)]; omega
    have step := ih (i + 1) (by omega)
    refine EvP.step (fun k => by rw [laws_FnSquashFew.l1]) ?_
    rw [e2]
    clear e2
    refine EvP.pos (by omega) ?_
    clear f1 f2 f3 hq hq0
    rcases lastPut_at lo low i (by omega) with g | ⟨g, g'⟩
    ·
     refine EvP.split (fun _ => EvP.pos (by omega) (EvP.pos g step)) (fun _ => EvP.pos (by omega) (EvP.pos (by omega) (EvP.pos (by omega) (EvP.split (fun _ => step) (fun _ => EvP.pos g step)))))
    ·
     exact EvP.neg (by omega) (EvP.pos (by omega) (EvP.pos (by omega) (EvP.pos (by omega) (EvP.pos g' step))))
  exact key lo.length 0 (by omega)
 have loop : ∀ (f i : Nat), i + f = xs.length → (∀ j, j < i → -1000 ≤ (rd_T48 xs (j : Int)).f4 ∧ (rd_T48 xs (j : Int)).f4 ≤ 1000) → EvP (fun k => laws_FnSquashFew.l0 k xs snaps b (sqB xs snaps b) (i : Int)) (· = true) := by
  intro f
  induction f with
  | zero =>
   intro i hi hj
   obtain rfl : i = xs.length := by omega
   refine fin (fun x hx => ?_)
   obtain ⟨j, hj', rfl⟩ := List.mem_iff_getElem.1 hx
   have e : rd_T48 xs (j : Int) = xs[j] := by simp [rd_T48, List.getD_eq_getElem?_getD, List.getElem?_eq_getElem hj']
   rw [← e]
   exact hj j hj'
  | succ f ih =>
   intro i hi hj
   have e2 : wrap64 ((i : Int) + 1) = ((i + 1 : Nat) : Int) := by rw [w64 (by omega) (by omega)]; omega
   refine EvP.step (fun k => by rw [laws_FnSquashFew.l0]) ?_
   rw [e2]
   clear e2
   refine EvP.pos (by omega) (EvP.pos (by omega) (EvP.split (fun _ => EvP.now rfl) (fun h1 => EvP.split (fun _ => EvP.now rfl) (fun h2 => ?_))))
   refine ih (i + 1) (by omega) (fun j hj' => ?_)
   by_cases h : j = i
   ·
    rw [h]; omega
   ·
    exact hj j (by omega)
 exact loop xs.length 0 (by omega) (fun j hj => by omega)


end Go.Proofs.Ytcfebbhiehaocaa.Pure
