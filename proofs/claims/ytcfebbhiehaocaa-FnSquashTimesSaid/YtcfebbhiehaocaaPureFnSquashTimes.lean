/- In which order times are kept, how often, and times ahead of all entries or behind them make no difference to what Squash leaves, whatever is drawn; no condition. -/
import Derived.Test.YtcfebbhiehaocaaQFnSquashTimesx16
import Derived.Test.YtcfebbhiehaocaaBBase
set_option linter.unusedVariables false
set_option linter.unusedSimpArgs false
namespace Go.Proofs.Ytcfebbhiehaocaa.Pure
open Go.RowKit Go.Proofs.Ytcfebbhiehaocaa.QFnSquashTimes Go.Proofs.YtcfebbhiehaocaaW.PrintWords Go.Proofs.YtcfebbhiehaocaaW.PrintLast Go.Proofs.YtcfebbhiehaocaaW.PrintMore Go.Proofs.Ytcfebbhiehaocaa.B

theorem rd_midE (pre rest : List S48) (x : S48) : rd_T48 (pre ++ x :: rest) (pre.length : Int) = x := by simp [rd_T48]

def entKey (x : S48) : List UInt8 × Int × Int × List UInt8 × Int := (x.f0.toList, x.f1, x.f2, x.f3.toList, x.f4)
theorem entNe (x y : S48) : (!((x.f0.toList) == (y.f0.toList)) || (!((x.f1) == (y.f1)) || (!((x.f2) == (y.f2)) || (!((x.f3.toList) == (y.f3.toList)) || (!((x.f4) == (y.f4))))))) = !decide (entKey x = entKey y) := by
 unfold entKey
 by_cases c1 : x.f0.toList = y.f0.toList <;> by_cases c2 : x.f1 = y.f1 <;> by_cases c3 : x.f2 = y.f2 <;> by_cases c4 : x.f3.toList = y.f3.toList <;> by_cases c5 : x.f4 = y.f4 <;> simp [c1, c2, c3, c4, c5]

def keyByteB (c : Int) : Bool := decide ((97 ≤ c ∧ c ≤ 122) ∨ (47 ≤ c ∧ c ≤ 57))
def keysB (s : ByteArray) : Nat → Int → Bool
 | 0, _ => true
 | d + 1, i => keyByteB (bt s i) && keysB s d (i + 1)
def keyB (s : ByteArray) : Bool := decide (1 ≤ s.size) && decide (s.size ≤ 8) && keysB s s.size 0
theorem spec_KeyOk_l0 (s : ByteArray) (hs : s.size ≤ 140737488351232) : ∀ (d : Nat) (i : Int), 0 ≤ i → i + d = s.size →
  EvP (fun k => spec_KeyOk.l0 k s i) (· = (decide (1 ≤ s.size) && decide (s.size ≤ 8) && keysB s d i)) := by
 intro d
 induction d with
 | zero =>
  intro i h0 h
  refine EvP.step (fun k => by rw [spec_KeyOk.l0]) ?_
  refine EvP.neg (by omega) ?_
  refine EvP.split (fun h => ?_) (fun h => ?_)
  ·
   refine EvP.now ?_
   have e1 : decide (1 ≤ s.size) = true := decide_eq_true (by omega)
   have e2 : decide ((s.size : Int) ≤ 8) = decide (s.size ≤ 8) := by rw [decide_eq_decide]; omega
   simp only [keysB, e1, e2, Bool.true_and, Bool.and_true]
  ·
   refine EvP.now ?_
   have e1 : decide (1 ≤ s.size) = false := decide_eq_false (by omega)
   simp only [keysB, e1, Bool.false_and]
 | succ d ih =>
  intro i h0 h
  refine EvP.step (fun k => by rw [spec_KeyOk.l0]) ?_
  refine EvP.pos (by omega) (EvP.pos (by omega) ?_)
  have := ih (i + 1) (by omega) (by omega)
  rw [w64 (by omega) (by omega)]
  repeat' with_reducible refine EvP.split (fun _ => ?_) (fun _ => ?_)
  all_goals first
   | (refine EvP.now ?_; have e1 : keyByteB (bt s i) = false := decide_eq_false (by omega); simp only [keysB, e1, Bool.false_and, Bool.and_false])
   | (have e1 : keyByteB (bt s i) = true := decide_eq_true (by omega); simp only [keysB, e1, Bool.true_and]; exact this)
theorem spec_KeyOk_ev (s : ByteArray) (hs : s.size ≤ 140737488351232) : EvP (fun k => spec_KeyOk.f k s) (· = keyB s) :=
 spec_KeyOk_l0 s hs s.size 0 (by omega) (by omega)
theorem impl_KeyOk_l0 (s : ByteArray) (hs : s.size ≤ 140737488351232) : ∀ (d : Nat) (i : Int), 0 ≤ i → i + d = s.size →
  EvP (fun k => impl_KeyOk.l0 k s (s.size : Int) i) (· = keysB s d i) := by
 intro d
 induction d with
 | zero =>
  intro i h0 h
  refine EvP.step (fun k => by rw [impl_KeyOk.l0]) ?_
  refine EvP.neg (by omega) ?_
  exact EvP.now (by simp [keysB])
 | succ d ih =>
  intro i h0 h
  refine EvP.step (fun k => by rw [impl_KeyOk.l0]) ?_
  refine EvP.pos (by omega) (EvP.pos (by omega) (EvP.pos (by omega) ?_))
  have := ih (i + 1) (by omega) (by omega)
  rw [w64 (by omega) (by omega)]
  repeat' with_reducible refine EvP.split (fun _ => ?_) (fun _ => ?_)
  all_goals first
   | (refine EvP.now ?_; have e1 : keyByteB (bt s i) = false := decide_eq_false (by omega); simp only [keysB, e1, Bool.false_and, Bool.and_false])
   | (have e1 : keyByteB (bt s i) = true := decide_eq_true (by omega); simp only [keysB, e1, Bool.true_and]; exact this)
theorem impl_KeyOk_ev (s : ByteArray) (hs : s.size ≤ 140737488351232) : EvP (fun k => impl_KeyOk.f k s) (· = keyB s) := by
 unfold impl_KeyOk.f keyB
 refine EvP.split (fun h => ?_) (fun h => ?_)
 ·
  refine EvP.step (fun k => by rw [impl_KeyOk.j0]) (EvP.pos rfl (EvP.now ?_))
  have e1 : decide (1 ≤ s.size) = false := decide_eq_false (by omega)
  simp [e1]
 ·
  have e1 : decide (1 ≤ s.size) = true := decide_eq_true (by omega)
  refine EvP.step (fun k => by rw [impl_KeyOk.j0]) (EvP.split (fun h1 => EvP.now ?_) (fun h1 => ?_))
  ·
   have := of_decide_eq_true h1
   have e2 : decide (s.size ≤ 8) = false := decide_eq_false (by omega)
   simp [e2]
  ·
   have : ¬ (s.size : Int) > 8 := fun h => h1 (decide_eq_true h)
   have e2 : decide (s.size ≤ 8) = true := decide_eq_true (by omega)
   simp only [e1, e2, Bool.true_and]
   exact impl_KeyOk_l0 s hs s.size 0 (by omega) (by omega)

def kindB (kind : Int) (x : ByteArray) (n : Int) : Bool :=
 if kind = 1 then true else if kind = 2 then (if x.toList = ([] : List UInt8) then (n == 0) else false) else if kind = 3 then (x.toList == ([] : List UInt8)) else false
def entB (k : ByteArray) (seq kind : Int) (x : ByteArray) (n : Int) : Bool :=
 keyB k && decide (1 ≤ seq) && decide (seq ≤ 100000) && decide (x.size ≤ 60) && decide (-1000000 ≤ n) && decide (n ≤ 1000000) && kindB kind x n
theorem spec_EntryOk_j0 (b : Bool) (k : ByteArray) (seq kind : Int) (x : ByteArray) (n : Int) : EvP (fun q => spec_EntryOk.j0 q b k seq kind x n) (· = (!b && kindB kind x n)) := by
 refine EvP.step (fun k => by rw [spec_EntryOk.j0]) ?_
 cases b
 ·
  refine EvP.neg (by simp) ?_
  simp only [kindB, Bool.not_false, Bool.true_and]
  repeat' with_reducible refine EvP.split (fun _ => ?_) (fun _ => ?_)
  all_goals exact EvP.now (by simp [*])
 ·
  exact EvP.pos rfl (EvP.now (by simp))
theorem impl_EntryOk_j1 (b : Bool) (k : ByteArray) (seq kind : Int) (x : ByteArray) (n : Int) : EvP (fun q => impl_EntryOk.j1 q b k seq kind x n) (· = (!b && kindB kind x n)) := by
 refine EvP.step (fun k => by rw [impl_EntryOk.j1]) ?_
 cases b
 ·
  refine EvP.neg (by simp) ?_
  simp only [kindB, Bool.not_false, Bool.true_and]
  repeat' with_reducible refine EvP.split (fun _ => ?_) (fun _ => ?_)
  all_goals exact EvP.now (by simp [*])
 ·
  exact EvP.pos rfl (EvP.now (by simp))
theorem impl_EntryOk_j0 (b : Bool) (k : ByteArray) (seq kind : Int) (x : ByteArray) (n : Int) : EvP (fun q => impl_EntryOk.j0 q b k seq kind x n) (· = (!b && decide (-1000000 ≤ n) && decide (n ≤ 1000000) && kindB kind x n)) := by
 refine EvP.step (fun k => by rw [impl_EntryOk.j0]) ?_
 cases b
 ·
  refine EvP.neg (by simp) (EvP.split (fun h => (impl_EntryOk_j1 ..).mono ?_) (fun h => (impl_EntryOk_j1 ..).mono ?_))
  ·
   rintro _ rfl
   have e : decide (-1000000 ≤ n) = false := decide_eq_false (by omega)
   simp [e]
  ·
   rintro _ rfl
   have e : decide (-1000000 ≤ n) = true := decide_eq_true (by omega)
   have e2 : (!decide (n > 1000000)) = decide (n ≤ 1000000) := by rw [Bool.eq_iff_iff]; simp
   simp only [e, e2, Bool.not_false, Bool.true_and]
 ·
  exact EvP.pos rfl (EvP.now (by simp))
theorem spec_l3Sum_eq (n : Int) : spec_l3Sum.f n = some (decide (-1000000 ≤ n) && decide (n ≤ 1000000)) := by
 unfold spec_l3Sum.f
 split
 ·
  have e : decide (-1000000 ≤ n) = true := decide_eq_true (by omega)
  simp [e]
 ·
  have e : decide (-1000000 ≤ n) = false := decide_eq_false (by omega)
  simp [e]
theorem not_gt60 (x : ByteArray) : (!decide ((x.size : Int) > 60)) = decide (x.size ≤ 60) := by
 rw [Bool.eq_iff_iff]
 simp
 omega
theorem spec_EntryOk_ev (k : ByteArray) (seq kind : Int) (x : ByteArray) (n : Int) (hk : k.size ≤ 140737488351232) : EvP (fun q => spec_EntryOk.f q k seq kind x n) (· = entB k seq kind x n) := by
 unfold spec_EntryOk.f
 refine EvP.bind (spec_KeyOk_ev k hk) ?_
 rintro _ rfl
 simp only [spec_l3Sum_eq, Option.bind_some]
 cases hK : keyB k
 ·
  refine EvP.neg (by simp) ((spec_EntryOk_j0 ..).mono ?_)
  rintro _ rfl
  simp [entB, hK]
 ·
  refine EvP.pos rfl (EvP.split (fun h => (spec_EntryOk_j0 ..).mono ?_) (fun h => EvP.split (fun h => (spec_EntryOk_j0 ..).mono ?_) (fun h => EvP.split (fun h => (spec_EntryOk_j0 ..).mono ?_) (fun h => (spec_EntryOk_j0 ..).mono ?_))))
  ·
   rintro _ rfl
   have e : decide (1 ≤ seq) = false := decide_eq_false (by omega)
   simp [entB, hK, e]
  ·
   rintro _ rfl
   have e : decide (seq ≤ 100000) = false := decide_eq_false (by omega)
   simp [entB, hK, e]
  ·
   rintro _ rfl
   have e1 : decide (1 ≤ seq) = true := decide_eq_true (by omega)
   have e2 : decide (seq ≤ 100000) = true := decide_eq_true (by omega)
   simp only [Bool.and_eq_true] at h
   simp only [entB, hK, e1, e2, h.1, h.2, not_gt60, Bool.true_and, Bool.and_true]
  ·
   rintro _ rfl
   have : (decide (-1000000 ≤ n) && decide (n ≤ 1000000)) = false := by simpa using h
   have e : (decide (-1000000 ≤ n) && decide (n ≤ 1000000) && kindB kind x n) = false := by rw [this]; rfl
   simp only [entB, Bool.and_assoc] at e ⊢
   rw [e]
   simp
theorem impl_EntryOk_ev (k : ByteArray) (seq kind : Int) (x : ByteArray) (n : Int) (hk : k.size ≤ 140737488351232) : EvP (fun q => impl_EntryOk.f q k seq kind x n) (· = entB k seq kind x n) := by
 unfold impl_EntryOk.f
 refine EvP.bind (impl_KeyOk_ev k hk) ?_
 rintro _ rfl
 cases hK : keyB k
 ·
  refine EvP.neg (by simp) ((impl_EntryOk_j0 ..).mono ?_)
  rintro _ rfl
  simp [entB, hK]
 ·
  refine EvP.pos rfl (EvP.split (fun h => (impl_EntryOk_j0 ..).mono ?_) (fun h => EvP.split (fun h => (impl_EntryOk_j0 ..).mono ?_) (fun h => (impl_EntryOk_j0 ..).mono ?_)))
  ·
   rintro _ rfl
   have e : decide (1 ≤ seq) = false := decide_eq_false (by omega)
   simp [entB, hK, e]
  ·
   rintro _ rfl
   have e : decide (seq ≤ 100000) = false := decide_eq_false (by omega)
   simp [entB, hK, e]
  ·
   rintro _ rfl
   have e1 : decide (1 ≤ seq) = true := decide_eq_true (by omega)
   have e2 : decide (seq ≤ 100000) = true := decide_eq_true (by omega)
   simp only [entB, hK, e1, e2, not_gt60, Bool.true_and, Bool.and_true]

def lessB (k1 : ByteArray) (s1 : Int) (k2 : ByteArray) (s2 : Int) : Bool := if k1.toList = k2.toList then decide (s1 > s2) else Op.bytesLess k1.toList k2.toList
theorem bytesLess_irrefl : ∀ l : List UInt8, Op.bytesLess l l = false := by
 intro l
 induction l with
 | nil => rfl
 | cons a l ih => simp [Op.bytesLess, ih]
theorem spec_EntryLess_eq (a0 : ByteArray) (a1 a2 : Int) (a3 : ByteArray) (a4 : Int) (b0 : ByteArray) (b1 b2 : Int) (b3 : ByteArray) (b4 : Int) : spec_EntryLess.f a0 a1 a2 a3 a4 b0 b1 b2 b3 b4 = some (lessB a0 a1 b0 b1) := by
 unfold spec_EntryLess.f lessB
 by_cases h : a0.toList = b0.toList
 ·
  rw [h, bytesLess_irrefl]
  simp
 ·
  cases hb : Op.bytesLess a0.toList b0.toList <;> simp [h]
theorem impl_EntryLess_eq (a0 : ByteArray) (a1 a2 : Int) (a3 : ByteArray) (a4 : Int) (b0 : ByteArray) (b1 b2 : Int) (b3 : ByteArray) (b4 : Int) : impl_EntryLess.f a0 a1 a2 a3 a4 b0 b1 b2 b3 b4 = some (lessB a0 a1 b0 b1) := by
 unfold impl_EntryLess.f lessB
 split <;> rfl
theorem bl_cons (a b : UInt8) (x y : List UInt8) : Op.bytesLess (a :: x) (b :: y) = true ↔ a.toNat < b.toNat ∨ (a = b ∧ Op.bytesLess x y = true) := by
 simp [Op.bytesLess, UInt8.lt_iff_toNat_lt]
theorem bl_trans : ∀ x y z : List UInt8, Op.bytesLess x y = true → Op.bytesLess y z = true → Op.bytesLess x z = true := by
 intro x
 induction x with
 | nil =>
  intro y z h k
  cases z with
  | nil => cases y <;> simp [Op.bytesLess] at k
  | cons c z => rfl
 | cons a x ih =>
  intro y z h k
  cases y with
  | nil => simp [Op.bytesLess] at h
  | cons b y =>
   cases z with
   | nil => simp [Op.bytesLess] at k
   | cons c z =>
    rw [bl_cons] at h k ⊢
    rcases h with h | ⟨rfl, h⟩ <;> rcases k with k | ⟨rfl, k⟩
    ·
     exact .inl (by omega)
    ·
     exact .inl h
    ·
     exact .inl k
    ·
     exact .inr ⟨rfl, ih _ _ h k⟩
theorem bl_asymm (x y : List UInt8) (h : Op.bytesLess x y = true) : Op.bytesLess y x = false := by
 cases k : Op.bytesLess y x
 ·
  rfl
 ·
  have := bl_trans _ _ _ h k
  rw [bytesLess_irrefl] at this
  cases this
theorem bl_total : ∀ x y : List UInt8, x ≠ y → Op.bytesLess x y = false → Op.bytesLess y x = true := by
 intro x
 induction x with
 | nil =>
  intro y h k
  cases y with
  | nil => exact absurd rfl h
  | cons b y => simp [Op.bytesLess] at k
 | cons a x ih =>
  intro y h k
  cases y with
  | nil => rfl
  | cons b y =>
   have k' : ¬ Op.bytesLess (a :: x) (b :: y) = true := by rw [k]; simp
   rw [bl_cons] at k' ⊢
   by_cases hab : a = b
   ·
    subst hab
    refine .inr ⟨rfl, ih y (fun e => h (by rw [e])) ?_⟩
    cases q : Op.bytesLess x y
    ·
     rfl
    ·
     exact absurd (.inr ⟨rfl, q⟩) k'
   ·
    refine .inl ?_
    have : a.toNat ≠ b.toNat := fun e => hab (UInt8.toNat.inj e)
    have : ¬ a.toNat < b.toNat := fun e => k' (.inl e)
    omega
theorem lessB_iff (k1 : ByteArray) (s1 : Int) (k2 : ByteArray) (s2 : Int) : lessB k1 s1 k2 s2 = true ↔ Op.bytesLess k1.toList k2.toList = true ∨ (k1.toList = k2.toList ∧ s2 < s1) := by
 unfold lessB
 split
 ·
  rename_i h
  rw [h, bytesLess_irrefl]
  simp
 ·
  rename_i h
  simp [h]
theorem lessB_irrefl (k : ByteArray) (s : Int) : lessB k s k s = false := by simp [lessB]
theorem lessB_trans {k1 k2 k3 : ByteArray} {s1 s2 s3 : Int} (h : lessB k1 s1 k2 s2 = true) (k : lessB k2 s2 k3 s3 = true) : lessB k1 s1 k3 s3 = true := by
 rw [lessB_iff] at h k ⊢
 rcases h with h | ⟨h, h'⟩ <;> rcases k with k | ⟨k, k'⟩
 ·
  exact .inl (bl_trans _ _ _ h k)
 ·
  exact .inl (k ▸ h)
 ·
  exact .inl (h ▸ k)
 ·
  exact .inr ⟨h.trans k, by omega⟩
theorem lessB_asymm {k1 k2 : ByteArray} {s1 s2 : Int} (h : lessB k1 s1 k2 s2 = true) : lessB k2 s2 k1 s1 = false := by
 cases k : lessB k2 s2 k1 s1
 ·
  rfl
 ·
  have := lessB_trans h k
  rw [lessB_irrefl] at this
  cases this
theorem lessB_total {k1 k2 : ByteArray} {s1 s2 : Int} (h : lessB k1 s1 k2 s2 = false) (k : lessB k2 s2 k1 s1 = false) : k1.toList = k2.toList ∧ s1 = s2 := by
 have h' : ¬ lessB k1 s1 k2 s2 = true := by rw [h]; simp
 have k' : ¬ lessB k2 s2 k1 s1 = true := by rw [k]; simp
 rw [lessB_iff] at h' k'
 by_cases e : k1.toList = k2.toList
 ·
  refine ⟨e, ?_⟩
  have a : ¬ s2 < s1 := fun x => h' (.inr ⟨e, x⟩)
  have b : ¬ s1 < s2 := fun x => k' (.inr ⟨e.symm, x⟩)
  omega
 ·
  cases q : Op.bytesLess k1.toList k2.toList
  ·
   exact absurd (.inl (bl_total _ _ e q)) k'
  ·
   exact absurd (.inl q) h'

def rightFrom : Option S48 → List S48 → Bool
 | _, [] => true
 | p, x :: r => entB x.f0 x.f1 x.f2 x.f3 x.f4 && ((match p with | none => true | some y => lessB y.f0 y.f1 x.f0 x.f1) && rightFrom (some x) r)
def rightB (xs : List S48) : Bool := rightFrom none xs
def KeysSmall (xs : List S48) : Prop := ∀ x ∈ xs, x.f0.size ≤ 140737488351232
theorem last_snoc (pre : List S48) (x : S48) : (pre ++ [x]).getLast? = some x := by simp
theorem rd_prev (pre rest : List S48) (y : S48) (h : pre.getLast? = some y) (h0 : 0 < pre.length) : rd_T48 (pre ++ rest) ((pre.length : Int) - 1) = y := by
 obtain ⟨ini, rfl⟩ := List.getLast?_eq_some_iff.1 h
 have e : (((ini ++ [y]).length : Int) - 1) = (ini.length : Int) := by simp
 rw [e, List.append_assoc]
 exact rd_midE ini rest y
theorem spec_l4Right_l0 (xs : List S48) (hx : xs.length ≤ 1048576) (hk : KeysSmall xs) : ∀ (rest pre : List S48), xs = pre ++ rest → EvP (fun k => spec_l4Right.l0 k xs (pre.length : Int)) (· = rightFrom pre.getLast? rest) := by
 intro rest
 induction rest with
 | nil =>
  intro pre e
  refine EvP.step (fun k => by rw [spec_l4Right.l0]) (EvP.neg (by simp [e]) (EvP.now (by cases pre.getLast? <;> rfl)))
 | cons x rest ih =>
  intro pre e
  have hl : xs.length = pre.length + (rest.length + 1) := by rw [e]; simp
  have hr : rd_T48 xs (pre.length : Int) = x := by rw [e]; exact rd_midE pre rest x
  refine EvP.step (fun k => by rw [spec_l4Right.l0]) (EvP.pos (by omega) (EvP.pos (by omega) ?_))
  rw [hr]
  refine EvP.bind (spec_EntryOk_ev _ _ _ _ _ (hk x (by rw [e]; simp))) ?_
  rintro _ rfl
  have e2 : wrap64 ((pre.length : Int) + 1) = ((pre ++ [x]).length : Int) := by rw [w64 (by omega) (by omega)]; simp
  have step := ih (pre ++ [x]) (by rw [e]; simp)
  rw [last_snoc] at step
  refine EvP.split (fun hb => EvP.split (fun hpos => ?_) (fun hpos => ?_)) (fun hb => EvP.now ?_)
  ·
   have hp : 0 < pre.length := by omega
   obtain ⟨y, hy⟩ : ∃ y, pre.getLast? = some y := by
    cases h : pre.getLast? with
    | none => rw [List.getLast?_eq_none_iff] at h; rw [h] at hp; simp at hp
    | some y => exact ⟨y, rfl⟩
   have e3 : wrap64 ((pre.length : Int) - 1) = (pre.length : Int) - 1 := w64 (by omega) (by omega)
   have hr2 : rd_T48 xs ((pre.length : Int) - 1) = y := by rw [e]; exact rd_prev pre _ y hy hp
   rw [e3, hr2, spec_EntryLess_eq]
   simp only [Option.bind_some]
   refine EvP.pos (by omega) (EvP.pos (by omega) (EvP.split (fun hc => ?_) (fun hc => EvP.now ?_)))
   ·
    rw [e2]
    refine step.mono ?_
    rintro _ rfl
    simp [rightFrom, hb, hy, hc]
   ·
    simp [rightFrom, hy, hc]
  ·
   obtain rfl : pre = [] := List.eq_nil_of_length_eq_zero (by omega)
   rw [e2]
   refine step.mono ?_
   rintro _ rfl
   simp [rightFrom, hb]
  ·
   simp [rightFrom, hb]
theorem spec_l4Right_ev (xs : List S48) (hx : xs.length ≤ 1048576) (hk : KeysSmall xs) : EvP (fun k => spec_l4Right.f k xs) (· = rightB xs) := spec_l4Right_l0 xs hx hk xs [] rfl
theorem impl_inOrder_l0 (xs : List S48) (hx : xs.length ≤ 1048576) (hk : KeysSmall xs) : ∀ (rest pre : List S48), xs = pre ++ rest → EvP (fun k => impl_inOrder.l0 k xs xs (xs.length : Int) (pre.length : Int)) (· = rightFrom pre.getLast? rest) := by
 intro rest
 induction rest with
 | nil =>
  intro pre e
  refine EvP.step (fun k => by rw [impl_inOrder.l0]) (EvP.neg (by simp [e]) (EvP.now (by cases pre.getLast? <;> rfl)))
 | cons x rest ih =>
  intro pre e
  have hl : xs.length = pre.length + (rest.length + 1) := by rw [e]; simp
  have hr : rd_T48 xs (pre.length : Int) = x := by rw [e]; exact rd_midE pre rest x
  refine EvP.step (fun k => by rw [impl_inOrder.l0]) (EvP.pos (by omega) (EvP.pos (by omega) (EvP.pos (by omega) ?_)))
  rw [hr]
  refine EvP.bind (impl_EntryOk_ev _ _ _ _ _ (hk x (by rw [e]; simp))) ?_
  rintro _ rfl
  have e2 : wrap64 ((pre.length : Int) + 1) = ((pre ++ [x]).length : Int) := by rw [w64 (by omega) (by omega)]; simp
  have step := ih (pre ++ [x]) (by rw [e]; simp)
  rw [last_snoc] at step
  refine EvP.split (fun hb => EvP.split (fun hpos => ?_) (fun hpos => ?_)) (fun hb => EvP.now ?_)
  ·
   have hp : 0 < pre.length := by omega
   obtain ⟨y, hy⟩ : ∃ y, pre.getLast? = some y := by
    cases h : pre.getLast? with
    | none => rw [List.getLast?_eq_none_iff] at h; rw [h] at hp; simp at hp
    | some y => exact ⟨y, rfl⟩
   have e3 : wrap64 ((pre.length : Int) - 1) = (pre.length : Int) - 1 := w64 (by omega) (by omega)
   have hr2 : rd_T48 xs ((pre.length : Int) - 1) = y := by rw [e]; exact rd_prev pre _ y hy hp
   rw [e3, hr2, impl_EntryLess_eq]
   simp only [Option.bind_some]
   refine EvP.pos (by omega) (EvP.pos (by omega) (EvP.split (fun hc => ?_) (fun hc => EvP.now ?_)))
   ·
    rw [e2]
    refine step.mono ?_
    rintro _ rfl
    simp [rightFrom, hb, hy, hc]
   ·
    simp [rightFrom, hy, hc]
  ·
   obtain rfl : pre = [] := List.eq_nil_of_length_eq_zero (by omega)
   rw [e2]
   refine step.mono ?_
   rintro _ rfl
   simp [rightFrom, hb]
  ·
   simp [rightFrom, hb]
theorem impl_inOrder_ev (xs : List S48) (hx : xs.length ≤ 1048576) (hk : KeysSmall xs) : EvP (fun k => impl_inOrder.f k xs) (· = rightB xs) := impl_inOrder_l0 xs hx hk xs [] rfl
def sumOk (n : Int) : Bool := decide (-1000000 ≤ n) && decide (n ≤ 1000000)
def EntP (x : S48) : Prop := x.f2 = 1 ∨ (x.f2 = 2 ∧ x.f4 = 0) ∨ x.f2 = 3
theorem entP_of {x : S48} (h : entB x.f0 x.f1 x.f2 x.f3 x.f4 = true) : EntP x := by
 unfold entB at h
 simp only [Bool.and_eq_true] at h
 have hk := h.2
 unfold kindB at hk
 unfold EntP
 split at hk
 ·
  exact .inl (by assumption)
 ·
  split at hk
  ·
   split at hk
   ·
    exact .inr (.inl ⟨by assumption, by simpa using hk⟩)
   ·
    cases hk
  ·
   split at hk
   ·
    exact .inr (.inr (by assumption))
   ·
    cases hk
theorem right_ents : ∀ (xs : List S48) (p : Option S48), rightFrom p xs = true → ∀ x ∈ xs, entB x.f0 x.f1 x.f2 x.f3 x.f4 = true
 | [], _, _, x, hx => by simp at hx
 | y :: xs, p, h, x, hx => by
  simp only [rightFrom, Bool.and_eq_true] at h
  rcases List.mem_cons.1 hx with rfl | hx
  ·
   exact h.1
  ·
   exact right_ents xs (some y) h.2.2 x hx
def joinOf : List S48 → ByteArray × Int × Int × ByteArray × Int
 | [] => (⟨#[]⟩, 0, 3, ⟨#[]⟩, 0)
 | e :: r => (e.f0, e.f1, (oneGo (e :: r) true 0).1, (oneGo (e :: r) true 0).2.1, (oneGo (e :: r) true 0).2.2)
def classB (c : List S48) (b : Bool) : List S48 := sqOne c b (joinOf c)
theorem squashClass_eq (c : List S48) (h : c ≠ []) (b : Bool) : impl_squashClass.f c b = some (classB c b) := by
 cases c with
 | nil => exact absurd rfl h
 | cons e r => rfl
theorem spec_l4Join_l0 (xs : List S48) (hx : xs.length ≤ 1048576) (hp : ∀ x ∈ xs, EntP x) (k0 : ByteArray) (s0 : Int) : ∀ (rest pre : List S48) (n : Int), xs = pre ++ rest → -9223372036854775808 ≤ n → n ≤ 9223372036854775807 →
  EvP (fun k => spec_l4Join.l0 k xs (pre.length : Int) k0 s0 3 (⟨#[]⟩ : ByteArray) n) (· = (k0, s0, (oneGo rest pre.isEmpty n).1, (oneGo rest pre.isEmpty n).2.1, (oneGo rest pre.isEmpty n).2.2, sumOk (oneGo rest pre.isEmpty n).2.2)) := by
 intro rest
 induction rest with
 | nil =>
  intro pre n e h0 h1
  refine EvP.step (fun k => by rw [spec_l4Join.l0]) (EvP.neg (by simp [e]) ?_)
  simp only [spec_l3Sum_eq, Option.bind_some]
  exact EvP.now rfl
 | cons x rest ih =>
  intro pre n e h0 h1
  have hl : xs.length = pre.length + (rest.length + 1) := by rw [e]; simp
  have hr : rd_T48 xs (pre.length : Int) = x := by rw [e]; exact rd_midE pre rest x
  refine EvP.step (fun k => by rw [spec_l4Join.l0]) (EvP.pos (by omega) (EvP.pos (by omega) ?_))
  rw [hr]
  simp only [spec_l3Sum_eq, Option.bind_some]
  rcases hp x (by rw [e]; simp) with h | ⟨h, h'⟩ | h
  ·
   refine EvP.pos h (EvP.now ?_)
   rw [oneGo, if_neg (show ¬ x.f2 = 3 by omega), if_pos h]
   rfl
  ·
   refine EvP.neg (by omega) (EvP.pos h ?_)
   have hw : wrap64 (n + x.f4) = n := by rw [h', Int.add_zero]; exact w64 h0 h1
   have hone : oneGo (x :: rest) pre.isEmpty n = if pre.isEmpty = true then (2, ⟨#[]⟩, n) else (1, ⟨#[]⟩, n) := by rw [oneGo, if_neg (show ¬ x.f2 = 3 by omega), if_neg (show ¬ x.f2 = 1 by omega)]
   rw [hw, hone]
   refine EvP.split (fun hz => EvP.now ?_) (fun hz => EvP.now ?_)
   ·
    have : pre = [] := List.eq_nil_of_length_eq_zero (by omega)
    subst this
    rfl
   ·
    have : pre.isEmpty = false := by
     cases pre with
     | nil => exact absurd rfl hz
     | cons => rfl
    rw [this]
    rfl
  ·
   refine EvP.neg (by omega) (EvP.neg (by omega) ?_)
   have e2 : wrap64 ((pre.length : Int) + 1) = ((pre ++ [x]).length : Int) := by rw [w64 (by omega) (by omega)]; simp
   have hw := w64r (n + x.f4)
   have step := ih (pre ++ [x]) (wrap64 (n + x.f4)) (by rw [e]; simp) hw.1 hw.2
   have he : (pre ++ [x]).isEmpty = false := by cases pre <;> rfl
   rw [he] at step
   rw [e2, oneGo, if_pos h]
   exact step
theorem spec_l4Join_ev (c : List S48) (hc : c ≠ []) (hx : c.length ≤ 1048576) (hp : ∀ x ∈ c, EntP x) :
  EvP (fun k => spec_l4Join.f k c) (· = ((joinOf c).1, (joinOf c).2.1, (joinOf c).2.2.1, (joinOf c).2.2.2.1, (joinOf c).2.2.2.2, sumOk (joinOf c).2.2.2.2)) := by
 cases c with
 | nil => exact absurd rfl hc
 | cons e r =>
  unfold spec_l4Join.f
  have hr : rd_T48 (e :: r) 0 = e := by simp [rd_T48]
  rw [hr]
  exact EvP.pos (by simp) (spec_l4Join_l0 (e :: r) hx hp e.f0 e.f1 (e :: r) [] 0 rfl (by omega) (by omega))
theorem spec_l4Class_ev (c : List S48) (hc : c ≠ []) (hx : c.length ≤ 1048576) (hp : ∀ x ∈ c, EntP x) (b : Bool) : EvP (fun k => spec_l4Class.f k c b) (· = classB c b) := by
 unfold spec_l4Class.f
 refine EvP.bind (spec_l4Join_ev c hc hx hp) ?_
 rintro _ rfl
 obtain ⟨⟨j0, j1, j2, j3, j4⟩, hj⟩ : ∃ o, joinOf c = o := ⟨_, rfl⟩
 have hB : classB c b = sqOne c b (j0, j1, j2, j3, j4) := by unfold classB; rw [hj]
 rw [hB, hj]
 simp only
 by_cases hs : sumOk j4 = true
 ·
  have hlim : ¬ (j4 > 1000000 ∨ j4 < -1000000) := by
   unfold sumOk at hs
   simp only [Bool.and_eq_true, decide_eq_true_eq] at hs
   omega
  refine EvP.pos hs ?_
  unfold sqOne
  rw [if_neg hlim]
  cases b with
  | true =>
   refine EvP.pos rfl (EvP.step (fun k => by rw [spec_l4Class.j0]) ?_)
   by_cases h2 : j2 = 2
   ·
    exact EvP.pos (by simp [h2]) (EvP.now (by simp [h2]))
   ·
    refine EvP.neg (by simp [h2]) (EvP.pos rfl (EvP.split (fun h3 => EvP.now ?_) (fun h3 => EvP.now ?_)))
    ·
     simp [h2, h3]
    ·
     simp [h2, h3]
  | false =>
   refine EvP.neg (by simp) (EvP.step (fun k => by rw [spec_l4Class.j0]) (EvP.neg (by simp) (EvP.neg (by simp) (EvP.now ?_))))
   simp
 ·
  have hlim : j4 > 1000000 ∨ j4 < -1000000 := by
   unfold sumOk at hs
   simp only [Bool.and_eq_true, decide_eq_true_eq] at hs
   omega
  refine EvP.neg hs ?_
  unfold sqOne
  rw [if_pos hlim]
  simp only [Option.bind_some, List.nil_append, List.length_nil]
  exact EvP.pos (by omega) (EvP.now rfl)
def partsB : List (List S48) → Bool → List (List S48) × Bool
 | [], b => ([], b)
 | c :: cs, b => (classB c (partsB cs b).2 :: (partsB cs b).1, (partsB cs b).2 && decide ((classB c (partsB cs b).2).length = 0))
theorem sqParts_eq : ∀ (cs : List (List S48)), (∀ c ∈ cs, c ≠ []) → ∀ b, sqParts cs b = some (partsB cs b)
 | [], _, _ => rfl
 | c :: cs, h, b => by
  unfold sqParts
  rw [sqParts_eq cs (fun x hx => h x (by simp [hx])) b, Option.bind_some, squashClass_eq c (h c (by simp))]
  rfl
theorem classB_len {c : List S48} (h : c ≠ []) (b : Bool) : (classB c b).length ≤ c.length := by
 have h1 : 1 ≤ c.length := by cases c with | nil => exact absurd rfl h | cons => simp
 unfold classB sqOne
 split
 ·
  exact Nat.le_refl _
 ·
  split
  ·
   simp
  ·
   simpa using h1
theorem partsB_len : ∀ (cs : List (List S48)), (∀ c ∈ cs, c ≠ []) → ∀ b, (partsB cs b).1.flatten.length ≤ cs.flatten.length
 | [], _, _ => Nat.le_refl _
 | c :: cs, h, b => by
  have h1 := classB_len (h c (by simp)) (partsB cs b).2
  have h2 := partsB_len cs (fun x hx => h x (by simp [hx])) b
  simp only [partsB, List.flatten_cons, List.length_append]
  omega
theorem flat_drop (cs : List (List S48)) (m : Nat) : (cs.drop m).flatten.length ≤ cs.flatten.length := by
 have h := congrArg List.length (congrArg List.flatten (List.take_append_drop m cs))
 rw [List.flatten_append, List.length_append] at h
 omega
theorem spec_l4Left_l0 (cs : List (List S48)) (hc : ∀ c ∈ cs, c ≠ [] ∧ c.length ≤ 1048576 ∧ ∀ x ∈ c, EntP x) (hn : cs.length ≤ 1048576) (hf : cs.flatten.length ≤ 1048576) (b : Bool) : ∀ m : Nat, m ≤ cs.length →
  EvP (fun k => spec_l4Left.l0 k cs (partsB (cs.drop m) b).2 (partsB (cs.drop m) b).1.flatten ((m : Int) - 1)) (· = (partsB cs b).1.flatten) := by
 intro m
 induction m with
 | zero =>
  intro _
  exact EvP.step (g := fun k => spec_l4Left.l0 k cs (partsB (cs.drop 0) b).2 (partsB (cs.drop 0) b).1.flatten (((0 : Nat) : Int) - 1)) (f := fun _ => some (partsB (cs.drop 0) b).1.flatten) (fun k => by rw [spec_l4Left.l0, if_neg (by omega)]) (EvP.now rfl)
 | succ m ih =>
  intro hm
  have hr : rd_L3 cs ((m : Nat) : Int) = cs[m] := by simp [rd_L3, List.getD_eq_getElem?_getD, List.getElem?_eq_getElem (show m < cs.length by omega)]
  have hd : cs.drop m = cs[m] :: cs.drop (m + 1) := List.drop_eq_getElem_cons (by omega)
  obtain ⟨h1, h2, h3⟩ := hc cs[m] (List.getElem_mem _)
  have e1 : ((m + 1 : Nat) : Int) - 1 = (m : Int) := by omega
  have step := ih (by omega)
  rw [hd] at step
  simp only [partsB] at step
  have hl1 := classB_len h1 (partsB (cs.drop (m + 1)) b).2
  have hl2 := partsB_len (cs.drop (m + 1)) (fun x hx => (hc x (List.mem_of_mem_drop hx)).1) b
  have hl3 := flat_drop cs (m + 1)
  rw [e1]
  refine EvP.step (fun k => by rw [spec_l4Left.l0]) (EvP.pos (by omega) (EvP.pos (by omega) (EvP.pos (by omega) ?_)))
  rw [hr]
  refine EvP.bind (spec_l4Class_ev _ h1 h2 h3 _) ?_
  rintro _ rfl
  have e2 : wrap64 ((m : Int) - 1) = (m : Int) - 1 := w64 (by omega) (by omega)
  simp only [Option.bind_some, List.nil_append, List.length_nil, e2]
  refine EvP.split (fun hpos => EvP.pos (by omega) (EvP.pos (by omega) ?_)) (fun hneg => EvP.pos (by omega) (EvP.pos (by omega) ?_))
  ·
   have hb : ((partsB (cs.drop (m + 1)) b).2 && decide ((classB cs[m] (partsB (cs.drop (m + 1)) b).2).length = 0)) = false := by
    rw [decide_eq_false (by omega), Bool.and_false]
   rw [hb] at step
   exact step
  ·
   have hb : ((partsB (cs.drop (m + 1)) b).2 && decide ((classB cs[m] (partsB (cs.drop (m + 1)) b).2).length = 0)) = (partsB (cs.drop (m + 1)) b).2 := by
    rw [decide_eq_true (by omega), Bool.and_true]
   rw [hb] at step
   exact step
theorem spec_l4Left_ev (cs : List (List S48)) (hc : ∀ c ∈ cs, c ≠ [] ∧ c.length ≤ 1048576 ∧ ∀ x ∈ c, EntP x) (hn : cs.length ≤ 1048576) (hf : cs.flatten.length ≤ 1048576) (b : Bool) : EvP (fun k => spec_l4Left.f k cs b) (· = (partsB cs b).1.flatten) := by
 have h := spec_l4Left_l0 cs hc hn hf b cs.length (Nat.le_refl _)
 rw [List.drop_length] at h
 unfold spec_l4Left.f
 rw [w64 (by omega) (by omega)]
 exact h
theorem spec_l4Apart_ev (snaps : List Int) (hs : snaps.length ≤ 1048576) (x y : S48) : EvP (fun k => spec_l4Apart.f k snaps y.f1 x.f1) (· = partedB x y snaps) := by
 have key : ∀ (rest pre : List Int), snaps = pre ++ rest → EvP (fun k => spec_l4Apart.l0 k snaps y.f1 x.f1 (pre.length : Int)) (· = partedB x y rest) := by
  intro rest
  induction rest with
  | nil =>
   intro pre e
   exact EvP.step (f := fun _ => some false) (fun k => by rw [spec_l4Apart.l0, if_neg (by simp [e])]) (EvP.now rfl)
  | cons s rest ih =>
   intro pre e
   have hl : snaps.length = pre.length + (rest.length + 1) := by rw [e]; simp
   have hr : rd snaps (pre.length : Int) = s := by rw [e]; simp [rd]
   have e2 : wrap64 ((pre.length : Int) + 1) = ((pre ++ [s]).length : Int) := by rw [w64 (by omega) (by omega)]; simp
   have step := ih (pre ++ [s]) (by rw [e]; simp)
   refine EvP.step (fun k => by rw [spec_l4Apart.l0]) (EvP.pos (by omega) (EvP.pos (by omega) ?_))
   rw [hr, e2]
   refine EvP.split (fun h1 => EvP.split (fun h2 => EvP.now ?_) (fun h2 => step.mono ?_)) (fun h1 => step.mono ?_)
   ·
    simp [partedB, h1, h2]
   ·
    rintro _ rfl
    simp [partedB, h2]
   ·
    rintro _ rfl
    simp [partedB, h1]
 exact key snaps [] rfl
theorem spec_l4Classes_l1 (xs : List S48) (snaps : List Int) (hx : xs.length ≤ 1048576) (hs : snaps.length ≤ 1048576) : ∀ (f s i : Nat) (acc : List (List S48)), i + f = xs.length + 1 → s < i → i ≤ xs.length → acc.length ≤ s →
  EvP (fun k => spec_l4Classes.l1 k xs snaps acc (s : Int) (i : Int)) (· = acc ++ (cutAt (apAt xs snaps) xs.length f s i).map (clsL xs)) := by
 intro f
 induction f with
 | zero => intro s i acc h1 h2 h3; omega
 | succ f ih =>
  intro s i acc h1 h2 h3 ha
  have e1 : wrap64 ((i : Int) - 1) = (i : Int) - 1 := w64 (by omega) (by omega)
  have e2 : wrap64 ((i : Int) + 1) = ((i + 1 : Nat) : Int) := by rw [w64 (by omega) (by omega)]; omega
  have hcut : EvP (fun k => spec_l4Classes.l0 k xs snaps (acc ++ [clsL xs (s, i)]) (i : Int)) (· = acc ++ (clsL xs (s, i) :: (cutAt (apAt xs snaps) xs.length f i (i + 1)).map (clsL xs))) := by
   refine EvP.step (fun k => by rw [spec_l4Classes.l0]) (EvP.split (fun hi => ?_) (fun hi => EvP.now ?_))
   ·
    rw [e2]
    refine (ih i (i + 1) (acc ++ [clsL xs (s, i)]) (by omega) (by omega) (by omega) (by simp; omega)).mono ?_
    rintro _ rfl
    simp
   ·
    obtain rfl : f = 0 := by omega
    simp [cutAt]
  have hsl : ((xs.take ((i : Int)).toNat).drop ((s : Int)).toNat) = clsL xs (s, i) := by rw [Int.toNat_natCast, Int.toNat_natCast]; rfl
  refine EvP.step (fun k => by rw [spec_l4Classes.l1]) (EvP.split (fun hi => ?_) (fun hi => ?_))
  ·
   rw [e1]
   refine EvP.pos (by omega) (EvP.pos (by omega) (EvP.pos (by omega) ?_))
   refine EvP.bind (spec_l4Apart_ev snaps hs (rd_T48 xs ((i : Int) - 1)) (rd_T48 xs (i : Int))) ?_
   rintro _ rfl
   refine EvP.split (fun hap => ?_) (fun hap => ?_)
   ·
    rw [hsl]
    refine EvP.pos (by omega) (EvP.pos (by omega) (EvP.pos (by omega) (EvP.pos (by omega) (hcut.mono ?_))))
    rintro _ rfl
    rw [cutAt_cut (fun h => by have h' : apAt xs snaps i = true := hap; rw [h'] at h; cases h.2)]
    rfl
   ·
    rw [e2]
    refine (ih s (i + 1) acc (by omega) (by omega) (by omega) ha).mono ?_
    rintro _ rfl
    rw [cutAt_on (by omega) (show apAt xs snaps i = false from Bool.eq_false_iff.2 hap)]
  ·
   rw [hsl]
   refine EvP.pos (by omega) (EvP.pos (by omega) (EvP.pos (by omega) (EvP.pos (by omega) (hcut.mono ?_))))
   rintro _ rfl
   rw [cutAt_cut (fun h => by omega)]
   rfl
theorem spec_l4Classes_ev (xs : List S48) (snaps : List Int) (hx : xs.length ≤ 1048576) (hs : snaps.length ≤ 1048576) : EvP (fun k => spec_l4Classes.f k xs snaps) (· = classesL xs snaps) := by
 unfold spec_l4Classes.f classesL classCuts
 refine EvP.step (fun k => by rw [spec_l4Classes.l0]) (EvP.split (fun h => ?_) (fun h => EvP.now ?_))
 ·
  have := spec_l4Classes_l1 xs snaps hx hs xs.length 0 1 [] (by omega) (by omega) (by omega) (by simp)
  rw [List.nil_append] at this
  rw [show wrap64 (0 + 1) = ((1 : Nat) : Int) from (w64 (by omega) (by omega)).trans (by omega)]
  exact this
 ·
  have : xs.length = 0 := by omega
  rw [this]
  rfl
theorem cut_flat (ap : Nat → Bool) (xs : List S48) : ∀ f s i, i + f = xs.length + 1 → s < i → i ≤ xs.length → ((cutAt ap xs.length f s i).map (clsL xs)).flatten = xs.drop s := by
 intro f
 induction f with
 | zero => intro s i h1 h2 h3; omega
 | succ f ih =>
  intro s i h1 h2 h3
  rw [cutAt]
  split
  ·
   exact ih s (i + 1) (by omega) (by omega) (by omega)
  ·
   rw [List.map_cons, List.flatten_cons]
   have hsplit : xs.drop s = clsL xs (s, i) ++ xs.drop i := by
    have h := congrArg (List.drop s) (List.take_append_drop i xs)
    rw [List.drop_append] at h
    rw [← h]
    unfold clsL
    congr 1
    rw [List.length_take, show s - min i xs.length = 0 by omega]
    rfl
   by_cases hi : i < xs.length
   ·
    rw [ih i (i + 1) (by omega) (by omega) (by omega), hsplit]
   ·
    obtain rfl : f = 0 := by omega
    rw [hsplit, List.drop_eq_nil_of_le (by omega)]
    simp [cutAt]
theorem classesL_flat (xs : List S48) (snaps : List Int) : (classesL xs snaps).flatten = xs := by
 unfold classesL classCuts
 cases h : xs.length with
 | zero => rw [List.eq_nil_of_length_eq_zero h]; rfl
 | succ n =>
  have := cut_flat (apAt xs snaps) xs xs.length 0 1 (by omega) (by omega) (by omega)
  rw [← h]
  exact this
theorem classesL_ne (xs : List S48) (snaps : List Int) : ∀ c ∈ classesL xs snaps, c ≠ [] ∧ ∀ x ∈ c, x ∈ xs := by
 intro c hc
 obtain ⟨p, hp, rfl⟩ := List.mem_map.1 hc
 have hb := classCuts_bound xs snaps p hp
 have hl := clsL_length hb.1 hb.2
 exact ⟨fun e => by rw [e] at hl; simp at hl; omega, fun x hx => List.mem_of_mem_take (List.mem_of_mem_drop hx)⟩
theorem classesL_len (xs : List S48) (snaps : List Int) : ∀ c ∈ classesL xs snaps, c.length ≤ xs.length := by
 intro c hc
 obtain ⟨p, hp, rfl⟩ := List.mem_map.1 hc
 have hb := classCuts_bound xs snaps p hp
 have hl := clsL_length hb.1 hb.2
 omega
def keyL (xs : List S48) (snaps : List Int) (b : Bool) : List S48 := (partsB (classesL xs snaps) b).1.flatten
theorem keyL_len (xs : List S48) (snaps : List Int) (b : Bool) : (keyL xs snaps b).length ≤ xs.length := by
 have h := partsB_len (classesL xs snaps) (fun c hc => (classesL_ne xs snaps c hc).1) b
 rw [classesL_flat] at h
 exact h
theorem squashKey_eq (xs : List S48) (snaps : List Int) (b : Bool) (hx : xs.length ≤ 1048576) : impl_squashKey.f xs snaps b = some (keyL xs snaps b) := by
 have h := keyL_len xs snaps b
 unfold impl_squashKey.f
 rw [if_pos (by omega), sqParts_eq _ (fun c hc => (classesL_ne xs snaps c hc).1), Option.bind_some]
 unfold keyL at h
 rw [if_pos (by omega)]
 rfl
theorem spec_key_ev (xs : List S48) (snaps : List Int) (b : Bool) (hx : xs.length ≤ 1048576) (hs : snaps.length ≤ 1048576) (hp : ∀ x ∈ xs, EntP x) : EvP (fun k => spec_l4Left.f k (classesL xs snaps) b) (· = keyL xs snaps b) := by
 refine spec_l4Left_ev _ (fun c hc => ⟨(classesL_ne xs snaps c hc).1, Nat.le_trans (classesL_len xs snaps c hc) hx, fun x hx' => hp x ((classesL_ne xs snaps c hc).2 x hx')⟩) ?_ (by rw [classesL_flat]; exact hx) b
 unfold classesL
 rw [List.length_map]
 exact Nat.le_trans (classCuts_len xs snaps) hx
def grpAt (xs : List S48) : Nat → Nat → Nat → List (Nat × Nat)
 | 0, _, _ => []
 | f + 1, s, i => if i < xs.length ∧ (rd_T48 xs (i : Int)).f0.toList = (rd_T48 xs (s : Int)).f0.toList then grpAt xs f s (i + 1) else (s, i) :: grpAt xs f i (i + 1)
def grpL (xs : List S48) (snaps : List Int) (b : Bool) (ps : List (Nat × Nat)) : List S48 := (ps.map fun p => keyL (clsL xs p) snaps b).flatten
def squashB (xs : List S48) (snaps : List Int) (b : Bool) : List S48 := grpL xs snaps b (grpAt xs xs.length 0 1)
def sqB (xs : List S48) (snaps : List Int) (b : Bool) : List S48 := if rightB xs = true then squashB xs snaps b else []
theorem clsL_sub {xs : List S48} {p : Nat × Nat} : ∀ x ∈ clsL xs p, x ∈ xs := fun x hx => List.mem_of_mem_take (List.mem_of_mem_drop hx)
theorem spec_Squash_l1 (xs : List S48) (snaps : List Int) (b : Bool) (hx : xs.length ≤ 1048576) (hs : snaps.length ≤ 1048576) (hp : ∀ x ∈ xs, EntP x) : ∀ (f s i : Nat) (acc : List S48), i + f = xs.length + 1 → s < i → i ≤ xs.length → acc.length ≤ s →
  EvP (fun k => spec_Squash.l1 k xs snaps b acc (s : Int) (i : Int)) (· = acc ++ grpL xs snaps b (grpAt xs f s i)) := by
 intro f
 induction f with
 | zero => intro s i acc h1 h2 h3; omega
 | succ f ih =>
  intro s i acc h1 h2 h3 ha
  have e2 : wrap64 ((i : Int) + 1) = ((i + 1 : Nat) : Int) := by rw [w64 (by omega) (by omega)]; omega
  have hcl : (clsL xs (s, i)).length = i - s := clsL_length h2 h3
  have hk := keyL_len (clsL xs (s, i)) snaps b
  have hcut : EvP (fun k => spec_Squash.l0 k xs snaps b (acc ++ keyL (clsL xs (s, i)) snaps b) (i : Int)) (· = acc ++ grpL xs snaps b ((s, i) :: grpAt xs f i (i + 1))) := by
   refine EvP.step (fun k => by rw [spec_Squash.l0]) (EvP.split (fun hi => ?_) (fun hi => EvP.now ?_))
   ·
    rw [e2]
    refine (ih i (i + 1) _ (by omega) (by omega) (by omega) (by rw [List.length_append]; omega)).mono ?_
    rintro _ rfl
    simp [grpL]
   ·
    obtain rfl : f = 0 := by omega
    simp [grpAt, grpL]
  have hsl : ((xs.take ((i : Int)).toNat).drop ((s : Int)).toNat) = clsL xs (s, i) := by rw [Int.toNat_natCast, Int.toNat_natCast]; rfl
  have hend : EvP (fun k => (spec_l4Classes.f k (clsL xs (s, i)) snaps).bind fun t => (spec_l4Left.f k t b).bind fun t2 => (if acc.length + t2.length < 2513169434916 then (spec_Squash.l0 k xs snaps b (acc ++ t2) (i : Int)) else (none))) (· = acc ++ grpL xs snaps b ((s, i) :: grpAt xs f i (i + 1))) := by
   refine EvP.bind (spec_l4Classes_ev _ snaps (by omega) hs) ?_
   rintro _ rfl
   refine EvP.bind (spec_key_ev _ snaps b (by omega) hs (fun x hx' => hp x (clsL_sub x hx'))) ?_
   rintro _ rfl
   exact EvP.pos (by omega) hcut
  refine EvP.step (fun k => by rw [spec_Squash.l1]) (EvP.split (fun hi => ?_) (fun hi => ?_))
  ·
   refine EvP.pos (by omega) (EvP.pos (by omega) (EvP.pos (by omega) (EvP.split (fun hq => ?_) (fun hq => ?_))))
   ·
    rw [e2]
    refine (ih s (i + 1) acc (by omega) (by omega) (by omega) ha).mono ?_
    rintro _ rfl
    rw [grpAt, if_pos ⟨by omega, hq⟩]
   ·
    rw [hsl]
    refine EvP.pos (by omega) (EvP.pos (by omega) (hend.mono ?_))
    rintro _ rfl
    rw [grpAt, if_neg (fun h => hq h.2)]
  ·
   rw [hsl]
   refine EvP.pos (by omega) (EvP.pos (by omega) (EvP.pos (by omega) (hend.mono ?_)))
   rintro _ rfl
   rw [grpAt, if_neg (fun h => hi (by have := h.1; omega))]
theorem impl_Squash_l1 (xs : List S48) (snaps : List Int) (b : Bool) (hx : xs.length ≤ 1048576) : ∀ (f s i : Nat) (acc : List S48), i + f = xs.length + 1 → s < i → i ≤ xs.length → acc.length ≤ s →
  EvP (fun k => impl_Squash.l1 k xs snaps b acc (s : Int) (i : Int)) (· = acc ++ grpL xs snaps b (grpAt xs f s i)) := by
 intro f
 induction f with
 | zero => intro s i acc h1 h2 h3; omega
 | succ f ih =>
  intro s i acc h1 h2 h3 ha
  have e2 : wrap64 ((i : Int) + 1) = ((i + 1 : Nat) : Int) := by rw [w64 (by omega) (by omega)]; omega
  have hcl : (clsL xs (s, i)).length = i - s := clsL_length h2 h3
  have hk := keyL_len (clsL xs (s, i)) snaps b
  have hcut : EvP (fun k => impl_Squash.l0 k xs snaps b (acc ++ keyL (clsL xs (s, i)) snaps b) (i : Int)) (· = acc ++ grpL xs snaps b ((s, i) :: grpAt xs f i (i + 1))) := by
   refine EvP.step (fun k => by rw [impl_Squash.l0]) (EvP.split (fun hi => ?_) (fun hi => EvP.now ?_))
   ·
    rw [e2]
    refine (ih i (i + 1) _ (by omega) (by omega) (by omega) (by rw [List.length_append]; omega)).mono ?_
    rintro _ rfl
    simp [grpL]
   ·
    obtain rfl : f = 0 := by omega
    simp [grpAt, grpL]
  have hsl : ((xs.take ((i : Int)).toNat).drop ((s : Int)).toNat) = clsL xs (s, i) := by rw [Int.toNat_natCast, Int.toNat_natCast]; rfl
  refine EvP.step (fun k => by rw [impl_Squash.l1]) (EvP.split (fun hi => ?_) (fun hi => ?_))
  ·
   refine EvP.pos (by omega) (EvP.pos (by omega) (EvP.pos (by omega) (EvP.split (fun hq => ?_) (fun hq => ?_))))
   ·
    rw [e2]
    refine (ih s (i + 1) acc (by omega) (by omega) (by omega) ha).mono ?_
    rintro _ rfl
    rw [grpAt, if_pos ⟨by omega, hq⟩]
   ·
    rw [hsl, squashKey_eq _ snaps b (by omega)]
    simp only [Option.bind_some]
    refine EvP.pos (by omega) (EvP.pos (by omega) (EvP.pos (by omega) (hcut.mono ?_)))
    rintro _ rfl
    rw [grpAt, if_neg (fun h => hq h.2)]
  ·
   rw [hsl, squashKey_eq _ snaps b (by omega)]
   simp only [Option.bind_some]
   refine EvP.pos (by omega) (EvP.pos (by omega) (EvP.pos (by omega) (EvP.pos (by omega) (hcut.mono ?_))))
   rintro _ rfl
   rw [grpAt, if_neg (fun h => hi (by have := h.1; omega))]
theorem spec_Squash_ev (xs : List S48) (snaps : List Int) (b : Bool) (hx : xs.length ≤ 1048576) (hs : snaps.length ≤ 1048576) (hk : KeysSmall xs) : EvP (fun k => spec_Squash.f k xs snaps b) (· = sqB xs snaps b) := by
 unfold spec_Squash.f sqB
 simp only [Option.bind_some]
 refine EvP.bind (spec_l4Right_ev xs hx hk) ?_
 rintro _ rfl
 refine EvP.split (fun hr => ?_) (fun hr => EvP.now (by rw [if_neg hr]))
 rw [if_pos hr]
 refine EvP.step (fun k => by rw [spec_Squash.l0]) (EvP.split (fun h => ?_) (fun h => EvP.now ?_))
 ·
  have := spec_Squash_l1 xs snaps b hx hs (fun x hx' => entP_of (right_ents xs none hr x hx')) xs.length 0 1 [] (by omega) (by omega) (by omega) (by simp)
  rw [List.nil_append] at this
  rw [show wrap64 (0 + 1) = ((1 : Nat) : Int) from (w64 (by omega) (by omega)).trans (by omega)]
  exact this
 ·
  have : xs = [] := List.eq_nil_of_length_eq_zero (by omega)
  subst this
  rfl
theorem impl_Squash_ev (xs : List S48) (snaps : List Int) (b : Bool) (hx : xs.length ≤ 1048576) (hk : KeysSmall xs) : EvP (fun k => impl_Squash.f k xs snaps b) (· = sqB xs snaps b) := by
 unfold impl_Squash.f sqB
 refine EvP.bind (impl_inOrder_ev xs hx hk) ?_
 rintro _ rfl
 refine EvP.split (fun hr => ?_) (fun hr => EvP.now (by rw [if_neg hr]))
 rw [if_pos hr]
 refine EvP.step (fun k => by rw [impl_Squash.l0]) (EvP.split (fun h => ?_) (fun h => EvP.now ?_))
 ·
  have := impl_Squash_l1 xs snaps b hx xs.length 0 1 [] (by omega) (by omega) (by omega) (by simp)
  rw [List.nil_append] at this
  rw [show wrap64 (0 + 1) = ((1 : Nat) : Int) from (w64 (by omega) (by omega)).trans (by omega)]
  exact this
 ·
  have : xs = [] := List.eq_nil_of_length_eq_zero (by omega)
  subst this
  rfl
theorem grpL_len (xs : List S48) (snaps : List Int) (b : Bool) : ∀ f s i, i + f = xs.length + 1 → s < i → i ≤ xs.length → (grpL xs snaps b (grpAt xs f s i)).length ≤ xs.length - s := by
 intro f
 induction f with
 | zero => intro s i h1 h2 h3; omega
 | succ f ih =>
  intro s i h1 h2 h3
  rw [grpAt]
  split
  ·
   rename_i h
   exact ih s (i + 1) (by omega) (by omega) (by omega)
  ·
   have hk := keyL_len (clsL xs (s, i)) snaps b
   have hc : (clsL xs (s, i)).length = i - s := clsL_length h2 h3
   have e : (grpL xs snaps b ((s, i) :: grpAt xs f i (i + 1))).length = (keyL (clsL xs (s, i)) snaps b).length + (grpL xs snaps b (grpAt xs f i (i + 1))).length := by simp [grpL]
   rw [e]
   by_cases hi : i < xs.length
   ·
    have := ih i (i + 1) (by omega) (by omega) (by omega)
    omega
   ·
    obtain rfl : f = 0 := by omega
    have e0 : (grpL xs snaps b (grpAt xs 0 i (i + 1))).length = 0 := by simp [grpAt, grpL]
    omega
theorem sqB_len (xs : List S48) (snaps : List Int) (b : Bool) : (sqB xs snaps b).length ≤ xs.length := by
 unfold sqB
 split
 ·
  unfold squashB
  cases h : xs.length with
  | zero => simp [grpAt, grpL]
  | succ n =>
   have := grpL_len xs snaps b xs.length 0 1 (by omega) (by omega) (by omega)
   rw [h] at this
   exact this
 ·
  simp

structure Bytes (l : List Int) : Prop where
 len : l.length ≤ 2000
 lo : ∀ j, 0 ≤ rd l j
 hi : ∀ j, rd l j ≤ 255
theorem rd_range {l : List Int} (h : ∀ x ∈ l, 0 ≤ x ∧ x ≤ 255) (j : Int) : 0 ≤ rd l j ∧ rd l j ≤ 255 := by
 unfold rd
 rw [List.getD_eq_getElem?_getD]
 rcases Nat.lt_or_ge j.toNat l.length with hj | hj
 ·
  rw [List.getElem?_eq_getElem hj]
  exact h _ (List.getElem_mem hj)
 ·
  rw [List.getElem?_eq_none hj]
  simp
theorem u8_range {l : List Int} (h : ∀ x ∈ l, (Lit.int .u8 x).wf = true) : ∀ x ∈ l, 0 ≤ x ∧ x ≤ 255 := by
 intro x hx
 have := h x hx
 simp [Lit.wf, IntKind.min, IntKind.max, IntKind.signed, IntKind.bits] at this
 omega
theorem spec_l9Open_ev (l : List Int) (h : ∀ x ∈ l, (Lit.int .u8 x).wf = true) : EvP (fun _ => spec_l9Open.f l) (fun r => Bytes r.1 ∧ r.2 = 0) := by
 unfold spec_l9Open.f
 have hu := u8_range h
 refine EvP.split (fun h1 => EvP.pos (by omega) (EvP.now ⟨⟨?_, fun j => ?_, fun j => ?_⟩, rfl⟩)) (fun h1 => EvP.now ⟨⟨?_, fun j => ?_, fun j => ?_⟩, rfl⟩)
 ·
  simp; omega
 ·
  exact (rd_range (fun x hx => hu x (List.mem_of_mem_take hx)) j).1
 ·
  exact (rd_range (fun x hx => hu x (List.mem_of_mem_take hx)) j).2
 ·
  show l.length ≤ 2000
  omega
 ·
  exact (rd_range hu j).1
 ·
  exact (rd_range hu j).2
theorem xor_nonneg (x y : Int) (h0 : 0 ≤ x) (h1 : x < 2 ^ 62) (h2 : 0 ≤ y) (h3 : y < 2 ^ 62) : 0 ≤ bits .xor .i64 x y := by
 obtain ⟨a, rfl⟩ := Int.eq_ofNat_of_zero_le h0
 obtain ⟨b, rfl⟩ := Int.eq_ofNat_of_zero_le h2
 rw [xor64 a b (by omega) (by omega)]
 exact Int.natCast_nonneg _
def Picked (p n : Int) (r : Int × Int) : Prop := r.2 = p + 1 ∧ 0 ≤ r.1 ∧ (1 ≤ n → r.1 < n) ∧ (n < 1 → r.1 = 0)
theorem picked_mod {p n x : Int} (hn : ¬ n < 1) (hx : 0 ≤ x) : Picked p n (Int.tmod x n, p + 1) :=
 ⟨rfl, Int.tmod_nonneg _ hx, fun _ => Int.tmod_lt_of_pos _ (by omega), fun h => absurd h hn⟩
theorem spec_l9Rd_pick_ev (l : List Int) (hl : Bytes l) (p n : Int) (h0 : 0 ≤ p) (h1 : p ≤ 1000000000000) : EvP (fun k => spec_l9Rd_pick.f k l p n) (Picked p n) := by
 unfold spec_l9Rd_pick.f
 have e1 : wrap64 (p + 1) = p + 1 := w64 (by omega) (by omega)
 have e2 : wrap64 (p + 1 - 1) = p := by rw [w64 (by omega) (by omega)]; omega
 rw [e1]
 refine EvP.split (fun h => ?_) (fun hn => ?_)
 ·
  refine EvP.step (fun k => by rw [spec_l9Rd_pick.j0]) (EvP.pos rfl (EvP.now ?_))
  exact ⟨rfl, Int.le_refl _, fun h' => absurd h (by omega), fun _ => rfl⟩
 ·
  refine EvP.step (fun k => by rw [spec_l9Rd_pick.j0]) (EvP.split (fun h => EvP.now ?_) (fun hz => ?_))
  ·
   exact ⟨rfl, Int.le_refl _, fun h' => by show (0 : Int) < n; omega, fun _ => rfl⟩
  ·
   have hz' : ¬ (l.length : Int) = 0 := fun h => hz (by simp [h])
   have hpos : 0 < (l.length : Int) := by omega
   have hlen : (l.length : Int) ≤ 2000 := by have := hl.len; omega
   rw [e2]
   refine EvP.split (fun h => EvP.pos h0 (EvP.neg (by omega) (EvP.now ?_))) (fun h => EvP.neg hz' ?_)
   ·
    have := hl.lo p
    have := hl.hi p
    rw [w64 (by omega) (by omega)]
    exact picked_mod hn (by omega)
   ·
    have a0 : 0 ≤ Int.tmod p (l.length : Int) := Int.tmod_nonneg _ h0
    have a1 : Int.tmod p (l.length : Int) < (l.length : Int) := Int.tmod_lt_of_pos _ hpos
    have e7 : wrap64 (wrap64 (p * 7) + 3) = p * 7 + 3 := by rw [w64 (x := p * 7) (by omega) (by omega), w64 (by omega) (by omega)]
    have c0 : 0 ≤ Int.tmod (p * 7 + 3) (l.length : Int) := Int.tmod_nonneg _ (by omega)
    have c1 : Int.tmod (p * 7 + 3) (l.length : Int) < (l.length : Int) := Int.tmod_lt_of_pos _ hpos
    rw [e7]
    refine EvP.pos a0 (EvP.pos a1 (EvP.pos c0 (EvP.pos c1 (EvP.neg (by omega) (EvP.now ?_)))))
    have b0 := hl.lo (Int.tmod p (l.length : Int))
    have b1 := hl.hi (Int.tmod p (l.length : Int))
    have d0 := hl.lo (Int.tmod (p * 7 + 3) (l.length : Int))
    have d1 := hl.hi (Int.tmod (p * 7 + 3) (l.length : Int))
    have q0 : 0 ≤ Int.tdiv p (l.length : Int) := Int.tdiv_nonneg h0 (by omega)
    have q1 : Int.tdiv p (l.length : Int) ≤ p := by
     rw [Int.tdiv_eq_ediv_of_nonneg h0]
     exact Int.ediv_le_self _ h0
    refine picked_mod hn ?_
    generalize Int.tdiv p (l.length : Int) = q at q0 q1 ⊢
    generalize rd l (Int.tmod p (l.length : Int)) = b at b0 b1 ⊢
    generalize rd l (Int.tmod (p * 7 + 3) (l.length : Int)) = d at d0 d1 ⊢
    have f1 : wrap64 b = b := w64 (by omega) (by omega)
    have f2 : wrap64 d = d := w64 (by omega) (by omega)
    have f3 : wrap64 q = q := w64 (by omega) (by omega)
    have f4 : wrap64 (b * 131) = b * 131 := w64 (by omega) (by omega)
    have f5 : wrap64 (d * 1117) = d * 1117 := w64 (by omega) (by omega)
    have f6 : wrap64 (p * 29) = p * 29 := w64 (by omega) (by omega)
    have f7 : wrap64 (q * 53) = q * 53 := w64 (by omega) (by omega)
    have f8 : wrap64 (b * 131 + d * 1117) = b * 131 + d * 1117 := w64 (by omega) (by omega)
    have f9 : wrap64 (b * 131 + d * 1117 + p * 29) = b * 131 + d * 1117 + p * 29 := w64 (by omega) (by omega)
    have f10 : wrap64 (b * 131 + d * 1117 + p * 29 + q * 53) = b * 131 + d * 1117 + p * 29 + q * 53 := w64 (by omega) (by omega)
    rw [f1, f2, f3, f4, f5, f6, f7, f8, f9, f10]
    have g0 : 0 ≤ b * 131 + d * 1117 + p * 29 + q * 53 := by omega
    have g1 : b * 131 + d * 1117 + p * 29 + q * 53 < 2 ^ 62 := by omega
    generalize b * 131 + d * 1117 + p * 29 + q * 53 = x at g0 g1 ⊢
    have g2 : Int.tdiv x 64 = x / 64 := Int.tdiv_eq_ediv_of_nonneg g0
    rw [g2, w64 (x := x / 64) (by omega) (by omega)]
    exact xor_nonneg _ _ g0 g1 (by omega) (by omega)
theorem spec_l9Rd_of_ev (l : List Int) (hl : Bytes l) (p : Int) (xs : List ByteArray) (hx : 0 < xs.length) (h0 : 0 ≤ p) (h1 : p ≤ 1000000000000) : EvP (fun k => spec_l9Rd_of.f k l p xs) (fun r => r.2 = p + 1 ∧ r.1 ∈ xs) := by
 unfold spec_l9Rd_of.f
 refine EvP.bind (spec_l9Rd_pick_ev l hl p _ h0 h1) ?_
 rintro ⟨i, q⟩ ⟨hq, hi, hlt, _⟩
 have := hlt (by omega)
 simp only at hq hi this
 refine EvP.pos hi (EvP.pos this (EvP.now ⟨hq, ?_⟩))
 show xs.getD i.toNat ByteArray.empty ∈ xs
 rw [List.getD_eq_getElem?_getD, List.getElem?_eq_getElem (by omega)]
 exact List.getElem_mem _

theorem spec_l9Rd_num_ev (l : List Int) (hl : Bytes l) (p : Int) (xs : List Int) (hx : 0 < xs.length) (h0 : 0 ≤ p) (h1 : p ≤ 1000000000000) : EvP (fun k => spec_l9Rd_num.f k l p xs) (fun r => r.2 = p + 1 ∧ r.1 ∈ xs) := by
 unfold spec_l9Rd_num.f
 refine EvP.bind (spec_l9Rd_pick_ev l hl p _ h0 h1) ?_
 rintro ⟨i, q⟩ ⟨hq, hi, hlt, _⟩
 have := hlt (by omega)
 simp only at hq hi this
 refine EvP.pos hi (EvP.pos this (EvP.now ⟨hq, ?_⟩))
 show xs.getD i.toNat 0 ∈ xs
 rw [List.getD_eq_getElem?_getD, List.getElem?_eq_getElem (by omega)]
 exact List.getElem_mem _

theorem spec_l3Key_ev (l : List Int) (hl : Bytes l) (p : Int) (h0 : 0 ≤ p) (h1 : p ≤ 1000000000000) : EvP (fun k => spec_l3Key.f k l p) (fun r => r.2 = p + 1 ∧ r.1 ∈ ([⟨#[97]⟩, ⟨#[98]⟩, ⟨#[97, 98]⟩, ⟨#[98, 47, 97, 47, 49]⟩, ⟨#[98, 47, 97, 98, 47, 49]⟩, ⟨#[99]⟩] : List ByteArray)) := by
 unfold spec_l3Key.f
 refine EvP.bind (spec_l9Rd_of_ev l hl p _ (by simp) h0 h1) ?_
 rintro ⟨x, q⟩ h
 exact EvP.now h

structure Drawn (seq p : Int) (r : ByteArray × Int × Int × ByteArray × Int × Int) : Prop where
 key : r.1 ∈ ([⟨#[97]⟩, ⟨#[98]⟩, ⟨#[97, 98]⟩, ⟨#[98, 47, 97, 47, 49]⟩, ⟨#[98, 47, 97, 98, 47, 49]⟩, ⟨#[99]⟩] : List ByteArray)
 seq : r.2.1 = seq
 kind : r.2.2.1 = 1 ∨ r.2.2.1 = 2 ∨ r.2.2.1 = 3
 text : r.2.2.2.1.size ≤ 3
 bare : r.2.2.1 ≠ 1 → r.2.2.2.1 = ⟨#[]⟩
 lo : -7 ≤ r.2.2.2.2.1
 hi : r.2.2.2.2.1 ≤ 100
 del : r.2.2.1 = 2 → r.2.2.2.2.1 = 0
 next : p ≤ r.2.2.2.2.2 ∧ r.2.2.2.2.2 ≤ p + 5
theorem keys_small (u : ByteArray) (h : u ∈ ([⟨#[97]⟩, ⟨#[98]⟩, ⟨#[97, 98]⟩, ⟨#[98, 47, 97, 47, 49]⟩, ⟨#[98, 47, 97, 98, 47, 49]⟩, ⟨#[99]⟩] : List ByteArray)) : u.size ≤ 6 := by
 simp only [List.mem_cons, List.not_mem_nil, or_false] at h
 rcases h with rfl | rfl | rfl | rfl | rfl | rfl <;> simp [ByteArray.size]
theorem texts_small (u : ByteArray) (h : u ∈ ([⟨#[]⟩, ⟨#[120]⟩, ⟨#[121, 121]⟩, ⟨#[122, 122, 122]⟩] : List ByteArray)) : u.size ≤ 3 := by
 simp only [List.mem_cons, List.not_mem_nil, or_false] at h
 rcases h with rfl | rfl | rfl | rfl <;> simp [ByteArray.size]
theorem spec_l3Entry_ev (l : List Int) (hl : Bytes l) (p seq : Int) (h0 : 0 ≤ p) (h1 : p ≤ 900000000000) : EvP (fun k => spec_l3Entry.f k l p seq) (Drawn seq p) := by
 unfold spec_l3Entry.f
 refine EvP.bind (spec_l3Key_ev l hl p h0 (by omega)) ?_
 rintro ⟨key, p1⟩ ⟨hp1, hkey⟩
 simp only at hp1 hkey
 refine EvP.bind (spec_l9Rd_num_ev l hl p1 _ (by simp) (by omega) (by omega)) ?_
 rintro ⟨kind, p2⟩ ⟨hp2, hkind⟩
 simp only [List.mem_cons, List.not_mem_nil, or_false] at hp2 hkind
 refine EvP.split (fun h2 => EvP.neg (by omega) (EvP.now ?_)) (fun h2 => ?_)
 ·
  exact ⟨hkey, rfl, by show kind = 1 ∨ kind = 2 ∨ kind = 3; omega, by simp [ByteArray.size], fun _ => rfl, by show (-7 : Int) ≤ 0; omega, by show (0 : Int) ≤ 100; omega, fun _ => rfl, by show p ≤ p2 ∧ p2 ≤ p + 5; omega⟩
 ·
  refine EvP.bind (spec_l9Rd_num_ev l hl p2 _ (by simp) (by omega) (by omega)) ?_
  rintro ⟨n, p3⟩ ⟨hp3, hn⟩
  simp only [List.mem_cons, List.not_mem_nil, or_false] at hp3 hn
  refine EvP.split (fun h3 => ?_) (fun h3 => EvP.now ?_)
  ·
   refine EvP.bind (spec_l9Rd_of_ev l hl p3 _ (by simp) (by omega) (by omega)) ?_
   rintro ⟨x, p4⟩ ⟨hp4, hx⟩
   simp only at hp4 hx
   exact EvP.now ⟨hkey, rfl, by show kind = 1 ∨ kind = 2 ∨ kind = 3; omega, texts_small x hx, fun h => absurd h3 h, by show (-7 : Int) ≤ n; omega, by show n ≤ 100; omega, fun h => absurd h h2, by show p ≤ p4 ∧ p4 ≤ p + 5; omega⟩
  ·
   exact ⟨hkey, rfl, by show kind = 1 ∨ kind = 2 ∨ kind = 3; omega, by simp [ByteArray.size], fun _ => rfl, by show (-7 : Int) ≤ n; omega, by show n ≤ 100; omega, fun h => absurd h h2, by show p ≤ p3 ∧ p3 ≤ p + 5; omega⟩

def keys6 : List ByteArray := [⟨#[97]⟩, ⟨#[98]⟩, ⟨#[97, 98]⟩, ⟨#[98, 47, 97, 47, 49]⟩, ⟨#[98, 47, 97, 98, 47, 49]⟩, ⟨#[99]⟩]
def Apart (xs : List S48) : Prop := xs.Pairwise (fun x y => x.f1 ≠ y.f1)
structure Item (hi : Int) (x : S48) : Prop where
 key : x.f0 ∈ keys6
 one : 1 ≤ x.f1
 top : x.f1 ≤ hi
 kind : x.f2 = 1 ∨ x.f2 = 2 ∨ x.f2 = 3
 bare : x.f2 ≠ 1 → x.f3 = ⟨#[]⟩
 del : x.f2 = 2 → x.f4 = 0
 nlo : -7 ≤ x.f4
 nhi : x.f4 ≤ 100
theorem Item.mono {a b : Int} {x : S48} (h : Item a x) (hab : a ≤ b) : Item b x := ⟨h.key, h.one, Int.le_trans h.top hab, h.kind, h.bare, h.del, h.nlo, h.nhi⟩
theorem spec_l3List_l0 (l : List Int) (hl : Bytes l) : ∀ (d : Nat) (out : List S48) (s p : Int), d ≤ 100 → out.length + d ≤ 1000 → 0 ≤ s → s + 2 * d ≤ 1000000 → 0 ≤ p → p + 10 * d ≤ 800000000000 → Apart out → (∀ x ∈ out, Item s x) →
  EvP (fun k => spec_l3List.l0 k out s (d : Int) l p) (fun r => Apart r.1 ∧ r.1.length ≤ out.length + d ∧ (∀ x ∈ r.1, Item (s + 2 * d) x) ∧ p ≤ r.2 ∧ r.2 ≤ p + 10 * d) := by
 intro d
 induction d with
 | zero =>
  intro out s p _ _ _ _ hp0 hp1 ha hi
  refine EvP.step (fun k => by rw [spec_l3List.l0]) (EvP.neg (by simp) (EvP.now ⟨ha, by simp, fun x hx => (hi x hx).mono (by omega), by omega, by omega⟩))
 | succ d ih =>
  intro out s p hd ho hs0 hs1 hp0 hp1 ha hi
  refine EvP.step (fun k => by rw [spec_l3List.l0]) (EvP.pos (by omega) ?_)
  refine EvP.bind (spec_l9Rd_pick_ev l hl p 2 (by omega) (by omega)) ?_
  rintro ⟨v, p1⟩ ⟨hp, hv0, hv1, _⟩
  simp only at hp hv0 hv1
  have hv := hv1 (by omega)
  have ws : wrap64 (wrap64 (s + 1) + v) = s + 1 + v := by rw [w64 (x := s + 1) (by omega) (by omega), w64 (by omega) (by omega)]
  have wd : wrap64 (((d + 1 : Nat) : Int) - 1) = (d : Int) := by rw [w64 (by omega) (by omega)]; omega
  rw [ws, wd]
  refine EvP.bind (spec_l3Entry_ev l hl p1 (s + 1 + v) (by omega) (by omega)) ?_
  rintro ⟨key, seq, kind, text, n, p2⟩ hE
  have e1 := hE.seq
  have e2 := hE.next
  simp only at e1 e2
  refine EvP.bind (spec_l9Rd_pick_ev l hl p2 2 (by omega) (by omega)) ?_
  rintro ⟨w, p3⟩ ⟨hp3, _⟩
  simp only at hp3
  have hit : Item (s + 1 + v) (⟨key, seq, kind, text, n⟩ : S48) := ⟨hE.key, by show 1 ≤ seq; omega, by show seq ≤ _; omega, hE.kind, hE.bare, hE.del, hE.lo, hE.hi⟩
  have hne : ∀ y ∈ out, y.f1 ≠ (⟨key, seq, kind, text, n⟩ : S48).f1 := fun y hy => by
   have := (hi y hy).top
   show y.f1 ≠ seq
   omega
  refine EvP.split (fun _ => EvP.pos (by omega) ?_) (fun _ => ?_)
  ·
   refine (ih (out ++ [⟨key, seq, kind, text, n⟩]) (s + 1 + v) p3 (by omega) (by simp; omega) (by omega) (by omega) (by omega) (by omega) ?_ ?_).mono ?_
   ·
    refine List.pairwise_append.2 ⟨ha, List.pairwise_singleton _ _, fun x hx y hy => ?_⟩
    obtain rfl := List.mem_singleton.1 hy
    exact hne x hx
   ·
    intro x hx
    rcases List.mem_append.1 hx with hx | hx
    ·
     exact (hi x hx).mono (by omega)
    ·
     obtain rfl := List.mem_singleton.1 hx
     exact hit
   ·
    rintro r ⟨h1, h2, h3, h4, h5⟩
    exact ⟨h1, by simp at h2; omega, fun x hx => (h3 x hx).mono (by omega), by omega, by omega⟩
  ·
   simp only [Option.bind_some]
   refine EvP.pos (by simp; omega) ?_
   refine (ih ([⟨key, seq, kind, text, n⟩] ++ out) (s + 1 + v) p3 (by omega) (by simp; omega) (by omega) (by omega) (by omega) (by omega) ?_ ?_).mono ?_
   ·
    refine List.pairwise_cons.2 ⟨fun y hy => ?_, ha⟩
    exact (hne y hy).symm
   ·
    intro x hx
    rcases List.mem_cons.1 hx with rfl | hx
    ·
     exact hit
    ·
     exact (hi x hx).mono (by omega)
   ·
    rintro r ⟨h1, h2, h3, h4, h5⟩
    exact ⟨h1, by simp at h2; omega, fun x hx => (h3 x hx).mono (by omega), by omega, by omega⟩
theorem spec_l3List_ev (l : List Int) (hl : Bytes l) (p many : Int) (h0 : 0 ≤ p) (h1 : p ≤ 500000000000) (hm0 : 0 ≤ many) (hm1 : many ≤ 40) : EvP (fun k => spec_l3List.f k l p many) (fun r => Apart r.1 ∧ (r.1.length : Int) ≤ many ∧ (∀ x ∈ r.1, Item 1000 x) ∧ p ≤ r.2 ∧ r.2 ≤ p + 1000) := by
 unfold spec_l3List.f
 rw [w64 (x := many + 1) (by omega) (by omega)]
 refine EvP.bind (spec_l9Rd_pick_ev l hl p (many + 1) (by omega) (by omega)) ?_
 rintro ⟨d, p1⟩ ⟨hp1, hd0, hd1, _⟩
 simp only at hp1 hd0 hd1
 have hd := hd1 (by omega)
 have h := spec_l3List_l0 l hl d.toNat [] 0 p1 (by omega) (by simp; omega) (by omega) (by omega) (by omega) (by omega) List.Pairwise.nil (by simp)
 have ed : ((d.toNat : Nat) : Int) = d := by omega
 rw [ed] at h
 refine h.mono ?_
 rintro r ⟨h1, h2, h3, h4, h5⟩
 exact ⟨h1, by simp at h2; omega, fun x hx => (h3 x hx).mono (by omega), by omega, by omega⟩

theorem spec_l4Put_ev (xs : List S48) (hx : xs.length ≤ 1000) (e : S48) : EvP (fun k => spec_l4Put.f k xs e.f0 e.f1 e.f2 e.f3 e.f4) (fun r => r.length = xs.length + 1 ∧ ∀ x ∈ r, x = e ∨ x ∈ xs) := by
 have fin : ∀ d : Nat, d ≤ xs.length → (xs.take d ++ [e] ++ xs.drop d).length = xs.length + 1 ∧ ∀ x ∈ xs.take d ++ [e] ++ xs.drop d, x = e ∨ x ∈ xs := by
  intro d hd
  refine ⟨by simp; omega, fun x hx => ?_⟩
  simp only [List.mem_append, List.mem_singleton] at hx
  rcases hx with (h | h) | h
  ·
   exact .inr (List.mem_of_mem_take h)
  ·
   exact .inl h
  ·
   exact .inr (List.mem_of_mem_drop h)
 have key : ∀ d : Nat, d ≤ xs.length → EvP (fun k => spec_l4Put.l0 k xs (d : Int) e.f0 e.f1 e.f2 e.f3 e.f4) (fun r => r.length = xs.length + 1 ∧ ∀ x ∈ r, x = e ∨ x ∈ xs) := by
  intro d
  induction d with
  | zero =>
   intro _
   refine EvP.step (fun k => by rw [spec_l4Put.l0]) (EvP.neg (by omega) ?_)
   simp only [Option.bind_some, List.nil_append, List.length_nil, Int.toNat_natCast]
   refine EvP.pos (by omega) (EvP.pos (by omega) (EvP.pos (by simp; omega) (EvP.pos (by simp) (EvP.pos (by simp) (EvP.pos (by simp; omega) (EvP.now ?_))))))
   exact fin 0 (by omega)
  | succ d ih =>
   intro hd
   have e1 : wrap64 (((d + 1 : Nat) : Int) - 1) = (d : Int) := by rw [w64 (by omega) (by omega)]; omega
   refine EvP.step (fun k => by rw [spec_l4Put.l0]) (EvP.pos (by omega) ?_)
   rw [e1]
   refine EvP.pos (by omega) (EvP.pos (by omega) ?_)
   simp only [spec_EntryLess_eq, Option.bind_some]
   refine EvP.split (fun _ => ih (by omega)) (fun _ => ?_)
   simp only [Option.bind_some, List.nil_append, List.length_nil, Int.toNat_natCast]
   refine EvP.pos (by omega) (EvP.pos (by omega) (EvP.pos (by simp; omega) (EvP.pos (by simp; omega) (EvP.pos (by simp; omega) (EvP.pos (by simp; omega) (EvP.now ?_))))))
   exact fin (d + 1) hd
 exact key xs.length (Nat.le_refl _)
theorem spec_l4Sort_ev (xs : List S48) (hx : xs.length ≤ 100) : EvP (fun k => spec_l4Sort.f k xs) (fun r => r.length = xs.length ∧ ∀ x ∈ r, x ∈ xs) := by
 have key : ∀ (rest pre out : List S48), xs = pre ++ rest → out.length = pre.length → (∀ x ∈ out, x ∈ xs) → EvP (fun k => spec_l4Sort.l0 k xs out (pre.length : Int)) (fun r => r.length = xs.length ∧ ∀ x ∈ r, x ∈ xs) := by
  intro rest
  induction rest with
  | nil =>
   intro pre out e ho hm
   exact EvP.step (f := fun _ => some out) (fun k => by rw [spec_l4Sort.l0, if_neg (by simp [e])]) (EvP.now ⟨by rw [ho, e]; simp, hm⟩)
  | cons x rest ih =>
   intro pre out e ho hm
   have hl : xs.length = pre.length + (rest.length + 1) := by rw [e]; simp
   have hr : rd_T48 xs (pre.length : Int) = x := by rw [e]; exact rd_midE pre rest x
   have e2 : wrap64 ((pre.length : Int) + 1) = ((pre ++ [x]).length : Int) := by rw [w64 (by omega) (by omega)]; simp
   refine EvP.step (fun k => by rw [spec_l4Sort.l0]) (EvP.pos (by omega) (EvP.pos (by omega) ?_))
   rw [hr, e2]
   refine EvP.bind (spec_l4Put_ev out (by omega) x) ?_
   rintro out2 ⟨h1, h2⟩
   refine ih (pre ++ [x]) out2 (by rw [e]; simp) (by rw [h1, ho]; simp) (fun y hy => ?_)
   rcases h2 y hy with rfl | h
   ·
    rw [e]; simp
   ·
    exact hm y h
 exact key xs [] [] rfl rfl (by simp)
theorem spec_l4Ents_ev (l : List Int) (hl : Bytes l) (p many : Int) (h0 : 0 ≤ p) (h1 : p ≤ 500000000000) (hm0 : 0 ≤ many) (hm1 : many ≤ 40) : EvP (fun k => spec_l4Ents.f k l p many) (fun r => (r.1.length : Int) ≤ many ∧ (∀ x ∈ r.1, Item 1000 x) ∧ p ≤ r.2 ∧ r.2 ≤ p + 1000) := by
 unfold spec_l4Ents.f
 refine EvP.bind (spec_l3List_ev l hl p many h0 h1 hm0 hm1) ?_
 rintro ⟨xs, p1⟩ ⟨_, h2, h3, h4, h5⟩
 simp only at h2 h3 h4 h5
 refine EvP.bind (spec_l4Sort_ev xs (by omega)) ?_
 rintro r ⟨h6, h7⟩
 exact EvP.now ⟨by simp only; omega, fun x hx => h3 x (h7 x hx), h4, h5⟩
theorem spec_l4Snaps_ev (l : List Int) (hl : Bytes l) (p : Int) (h0 : 0 ≤ p) (h1 : p ≤ 500000000000) : EvP (fun k => spec_l4Snaps.f k l p) (fun r => r.1.length ≤ 3 ∧ (∀ s ∈ r.1, 0 ≤ s ∧ s < 20) ∧ p ≤ r.2 ∧ r.2 ≤ p + 10) := by
 have key : ∀ (d : Nat) (out : List Int) (q : Int), d ≤ 3 → out.length + d ≤ 3 → (∀ s ∈ out, 0 ≤ s ∧ s < 20) → 0 ≤ q → q + d ≤ 600000000000 → EvP (fun k => spec_l4Snaps.l0 k out (d : Int) l q) (fun r => r.1.length ≤ 3 ∧ (∀ s ∈ r.1, 0 ≤ s ∧ s < 20) ∧ q ≤ r.2 ∧ r.2 ≤ q + d) := by
  intro d
  induction d with
  | zero =>
   intro out q _ ho hs hq0 hq1
   exact EvP.step (f := fun _ => some (out, q)) (fun k => by rw [spec_l4Snaps.l0, if_neg (by omega)]) (EvP.now ⟨ho, hs, Int.le_refl _, by simp⟩)
  | succ d ih =>
   intro out q hd ho hs hq0 hq1
   have e1 : wrap64 (((d + 1 : Nat) : Int) - 1) = (d : Int) := by rw [w64 (by omega) (by omega)]; omega
   refine EvP.step (fun k => by rw [spec_l4Snaps.l0]) (EvP.pos (by omega) ?_)
   refine EvP.bind (spec_l9Rd_pick_ev l hl q 20 (by omega) (by omega)) ?_
   rintro ⟨v, q1⟩ ⟨hq, hv0, hv1, _⟩
   simp only at hq hv0 hv1
   have hv := hv1 (by omega)
   have b1 : (out ++ [v]).length + d ≤ 3 := by simp; omega
   have b2 : out.length < 17592186044416 := by omega
   have b3 : 0 ≤ q1 ∧ q1 + d ≤ 600000000000 ∧ d ≤ 3 := by omega
   rw [e1]
   clear e1
   refine EvP.pos b2 ((ih (out ++ [v]) q1 b3.2.2 b1 ?_ b3.1 b3.2.1).mono ?_)
   ·
    intro s hs'
    rcases List.mem_append.1 hs' with h | h
    ·
     exact hs s h
    ·
     obtain rfl := List.mem_singleton.1 h
     exact ⟨hv0, hv⟩
   ·
    rintro r ⟨g1, g2, g3, g4⟩
    exact ⟨g1, g2, by omega, by omega⟩
 unfold spec_l4Snaps.f
 refine EvP.bind (spec_l9Rd_pick_ev l hl p 4 (by omega) (by omega)) ?_
 rintro ⟨d, p1⟩ ⟨hp1, hd0, hd1, _⟩
 simp only at hp1 hd0 hd1
 have hd := hd1 (by omega)
 have h := key d.toNat [] p1 (by omega) (by simp; omega) (by simp) (by omega) (by omega)
 have ed : ((d.toNat : Nat) : Int) = d := by omega
 rw [ed] at h
 refine h.mono ?_
 rintro r ⟨g1, g2, g3, g4⟩
 exact ⟨g1, g2, by omega, by omega⟩
def bigOf (e : S48) (n : Int) : S48 := ⟨e.f0, e.f1, e.f2, e.f3, n⟩
def TopOf (top : List S48) : Prop := top.length ≤ 14 ∧ ((∀ x ∈ top, Item 1000 x) ∨ ∃ (e : S48) (rest : List S48) (n : Int), (∀ x ∈ e :: rest, Item 1000 x) ∧ e.f2 ≠ 2 ∧ (n = 1000000 ∨ n = -1000000) ∧ top = bigOf e n :: rest)
def DrawnSq (r : List S48 × List Int × Bool) : Prop := (r.2.1.length ≤ 3 ∧ ∀ s ∈ r.2.1, 0 ≤ s ∧ s < 20) ∧ ∃ top, TopOf top ∧ (r.1 = top ∨ ∃ (e : S48) (rest : List S48), top = e :: rest ∧ 1 ≤ rest.length ∧ r.1 = top ++ [e])
theorem spec_DrawSquash_j2 (l : List Int) (hl : Bytes l) (p : Int) (h0 : 0 ≤ p) (h1 : p ≤ 500000000000) (top : List S48) (ht : TopOf top) (b : Bool) (hb : b = true → 1 < top.length) : EvP (fun k => spec_DrawSquash.j2 k top b l p) DrawnSq := by
 refine EvP.step (fun k => by rw [spec_DrawSquash.j2]) (EvP.split (fun hbt => ?_) (fun _ => ?_))
 ·
  have hlen := hb hbt
  cases top with
  | nil => simp at hlen
  | cons e rest =>
   have hr : rd_T48 (e :: rest) 0 = e := by simp [rd_T48]
   have h14 := ht.1
   rw [hr]
   refine EvP.pos (by simp) (EvP.pos (by omega) ?_)
   refine EvP.bind (spec_l4Snaps_ev l hl p h0 h1) ?_
   rintro ⟨ss, p1⟩ ⟨g1, g2, g3, g4⟩
   simp only at g1 g2 g3 g4
   refine EvP.bind (spec_l9Rd_pick_ev l hl p1 2 (by omega) (by omega)) ?_
   intro r _
   exact EvP.now ⟨⟨g1, g2⟩, e :: rest, ht, .inr ⟨e, rest, rfl, by simp at hlen; omega, rfl⟩⟩
 ·
  refine EvP.bind (spec_l4Snaps_ev l hl p h0 h1) ?_
  rintro ⟨ss, p1⟩ ⟨g1, g2, g3, g4⟩
  simp only at g1 g2 g3 g4
  refine EvP.bind (spec_l9Rd_pick_ev l hl p1 2 (by omega) (by omega)) ?_
  intro r _
  exact EvP.now ⟨⟨g1, g2⟩, top, ht, .inl rfl⟩
theorem spec_DrawSquash_j1 (l : List Int) (hl : Bytes l) (p : Int) (h0 : 0 ≤ p) (h1 : p ≤ 400000000000) (top : List S48) (ht : TopOf top) : EvP (fun k => spec_DrawSquash.j1 k top l p) DrawnSq := by
 refine EvP.step (fun k => by rw [spec_DrawSquash.j1]) (EvP.split (fun hgt => ?_) (fun _ => ?_))
 ·
  refine EvP.bind (spec_l9Rd_pick_ev l hl p 24 (by omega) (by omega)) ?_
  rintro ⟨v, p1⟩ ⟨hp, _⟩
  simp only at hp
  exact spec_DrawSquash_j2 l hl p1 (by omega) (by omega) top ht _ (fun _ => by omega)
 ·
  exact spec_DrawSquash_j2 l hl p h0 (by omega) top ht false (by simp)
theorem spec_DrawSquash_ev (l0 : List Int) (h : ∀ x ∈ l0, (Lit.int .u8 x).wf = true) : EvP (fun k => spec_DrawSquash.f k l0) DrawnSq := by
 unfold spec_DrawSquash.f
 refine EvP.bind (spec_l9Open_ev l0 h) ?_
 rintro ⟨l, p⟩ ⟨hl, hp⟩
 simp only at hp hl
 refine EvP.bind (spec_l4Ents_ev l hl p 14 (by omega) (by omega) (by omega) (by omega)) ?_
 rintro ⟨xs, p1⟩ ⟨h1, h2, h3, h4⟩
 simp only at h1 h2 h3 h4
 have htop : TopOf xs := ⟨by omega, .inl h2⟩
 have j0f : ∀ q : Int, 0 ≤ q → q ≤ 1000000 → EvP (fun k => spec_DrawSquash.j0 k xs false l q) DrawnSq := fun q hq0 hq1 =>
  EvP.step (fun k => by rw [spec_DrawSquash.j0]) (EvP.neg (by simp) (spec_DrawSquash_j1 l hl q hq0 (by omega) xs htop))
 simp only
 refine EvP.split (fun hpos => EvP.pos hpos (EvP.split (fun _ => j0f p1 (by omega) (by omega)) (fun hk => ?_))) (fun _ => j0f p1 (by omega) (by omega))
 cases xs with
 | nil => simp at hpos
 | cons e rest =>
  have hr : rd_T48 (e :: rest) 0 = e := by simp [rd_T48]
  rw [hr] at hk
  refine EvP.bind (spec_l9Rd_pick_ev l hl p1 16 (by omega) (by omega)) ?_
  rintro ⟨v, p2⟩ ⟨hp2, _⟩
  simp only at hp2
  refine EvP.step (fun k => by rw [spec_DrawSquash.j0]) (EvP.split (fun _ => ?_) (fun _ => spec_DrawSquash_j1 l hl p2 (by omega) (by omega) _ htop))
  refine EvP.bind (spec_l9Rd_num_ev l hl p2 [1000000, -1000000] (by simp) (by omega) (by omega)) ?_
  rintro ⟨n, p3⟩ ⟨hp3, hn⟩
  simp only at hp3 hn
  rw [hr]
  refine EvP.pos hpos (spec_DrawSquash_j1 l hl p3 (by omega) (by omega) _ ⟨by simpa using htop.1, .inr ⟨e, rest, n, h2, hk, by simpa using hn, rfl⟩⟩)
theorem drawn_small {r : List S48 × List Int × Bool} (h : DrawnSq r) : r.1.length ≤ 15 ∧ KeysSmall r.1 := by
 obtain ⟨_, top, ⟨h14, hT⟩, hr⟩ := h
 have hk : ∀ x ∈ top, x.f0.size ≤ 140737488351232 := by
  intro x hx
  have hi : ∀ y : S48, Item 1000 y → y.f0.size ≤ 140737488351232 := fun y hy => by
   have := keys_small y.f0 hy.key
   omega
  rcases hT with hT | ⟨e, rest, n, h1, _, _, rfl⟩
  ·
   exact hi x (hT x hx)
  ·
   rcases List.mem_cons.1 hx with rfl | hx
   ·
    exact hi e (h1 e (by simp))
   ·
    exact hi x (h1 x (by simp [hx]))
 rcases hr with hr | ⟨e, rest, h1, h2, hr⟩
 ·
  rw [hr]; exact ⟨by omega, hk⟩
 ·
  rw [hr]
  refine ⟨by simp; omega, fun x hx => ?_⟩
  rcases List.mem_append.1 hx with hx | hx
  ·
   exact hk x hx
  ·
   obtain rfl := List.mem_singleton.1 hx
   exact hk x (by rw [h1]; simp)

theorem wpEnts_ev (xs ys : List S48) (hx : xs.length ≤ 1048576) : EvP (fun k => laws_wpEnts.f k xs ys) (· = decide (xs.map entKey = ys.map entKey)) := by
 have key : ∀ (r r' pre pre' : List S48), xs = pre ++ r → ys = pre' ++ r' → pre.length = pre'.length → r.length = r'.length → EvP (fun k => laws_wpEnts.l0 k xs ys (pre.length : Int)) (· = decide (r.map entKey = r'.map entKey)) := by
  intro r
  induction r with
  | nil =>
   intro r' pre pre' e e' hl hr
   obtain rfl : r' = [] := List.eq_nil_of_length_eq_zero (by simpa using hr.symm)
   exact EvP.step (f := fun _ => some true) (fun k => by rw [laws_wpEnts.l0, if_neg (by simp [e])]) (EvP.now (by simp))
  | cons x r ih =>
   intro r' pre pre' e e' hl hr
   cases r' with
   | nil => simp at hr
   | cons y r' =>
    have h1 : xs.length = pre.length + (r.length + 1) := by rw [e]; simp
    have h2 : ys.length = pre'.length + (r'.length + 1) := by rw [e']; simp
    have hrx : rd_T48 xs (pre.length : Int) = x := by rw [e]; exact rd_midE pre r x
    have hry : rd_T48 ys (pre.length : Int) = y := by rw [e', hl]; exact rd_midE pre' r' y
    have e2 : wrap64 ((pre.length : Int) + 1) = ((pre ++ [x]).length : Int) := by rw [w64 (by omega) (by omega)]; simp
    have step := ih r' (pre ++ [x]) (pre' ++ [y]) (by rw [e]; simp) (by rw [e']; simp) (by simp [hl]) (by simpa using hr)
    refine EvP.step (fun k => by rw [laws_wpEnts.l0]) (EvP.pos (by omega) (EvP.pos (by omega) (EvP.pos (by simp at hr; omega) ?_)))
    rw [hrx, hry, entNe, e2]
    by_cases c : entKey x = entKey y
    ·
     refine EvP.neg (by simp [c]) (step.mono ?_)
     rintro _ rfl
     simp [c]
    ·
     exact EvP.pos (by simp [c]) (EvP.now (by simp [c]))
 unfold laws_wpEnts.f
 refine EvP.split (fun h => ?_) (fun h => EvP.now ?_)
 ·
  exact key xs ys [] [] rfl rfl rfl (by omega)
 ·
  have : xs.map entKey ≠ ys.map entKey := fun he => h (by have := congrArg List.length he; simp at this; omega)
  simp [this]
theorem wpEnts_same (xs : List S48) (hx : xs.length ≤ 1048576) : EvP (fun k => laws_wpEnts.f k xs xs) (· = true) := (wpEnts_ev xs xs hx).mono (by rintro _ rfl; simp)
theorem rd_mem (xs : List S48) (i : Nat) (h : i < xs.length) : rd_T48 xs (i : Int) ∈ xs := by
 unfold rd_T48
 rw [Int.toNat_natCast, List.getD_eq_getElem?_getD, List.getElem?_eq_getElem h]
 exact List.getElem_mem h
theorem cuts_congr {xs : List S48} {s t : List Int} (h : ∀ x ∈ xs, ∀ y ∈ xs, partedB x y s = partedB x y t) : classCuts xs s = classCuts xs t := by
 have key : ∀ f a i, 1 ≤ i → cutAt (apAt xs s) xs.length f a i = cutAt (apAt xs t) xs.length f a i := by
  intro f
  induction f with
  | zero => intro a i _; rfl
  | succ f ih =>
   intro a i hi
   by_cases hn : i < xs.length
   ·
    have hx := rd_mem xs (i - 1) (by omega)
    have hy := rd_mem xs i hn
    have ei : ((i - 1 : Nat) : Int) = (i : Int) - 1 := by omega
    rw [ei] at hx
    have he : apAt xs s i = apAt xs t i := h _ hx _ hy
    rw [cutAt, cutAt, he, ih a (i + 1) (by omega), ih i (i + 1) (by omega)]
   ·
    rw [cutAt, cutAt, if_neg (fun q => hn q.1), if_neg (fun q => hn q.1), ih i (i + 1) (by omega)]
 exact key xs.length 0 1 (Nat.le_refl _)
theorem sqB_congr {xs : List S48} {s t : List Int} {b : Bool} (h : rightB xs = true → ∀ x ∈ xs, ∀ y ∈ xs, partedB x y s = partedB x y t) : sqB xs s b = sqB xs t b := by
 unfold sqB
 by_cases hr : rightB xs = true
 ·
  rw [if_pos hr, if_pos hr]
  unfold squashB grpL
  congr 1
  refine List.map_congr_left (fun p _ => ?_)
  unfold keyL classesL
  rw [cuts_congr (fun x hx y hy => h hr x (clsL_sub x hx) y (clsL_sub y hy))]
 ·
  rw [if_neg hr, if_neg hr]
theorem parted_iff (x y : S48) (s : List Int) : partedB x y s = true ↔ ∃ t ∈ s, y.f1 ≤ t ∧ t < x.f1 := by simp [partedB]
theorem seq_range {xs : List S48} (hr : rightB xs = true) : ∀ x ∈ xs, 1 ≤ x.f1 ∧ x.f1 ≤ 100000 := by
 intro x hx
 have h := right_ents xs none hr x hx
 unfold entB at h
 simp only [Bool.and_eq_true, decide_eq_true_eq] at h
 exact ⟨h.1.1.1.1.1.2, h.1.1.1.1.2⟩

theorem FnSquashTimes (l0 : List Int) (g0 : l0.length ≤ maxLen ∧ ∀ x ∈ l0, (Lit.int .u8 x).wf = true) : ∃ k, laws_FnSquashTimes.f k l0 = some true := by
 refine EvP.done ?_
 unfold laws_FnSquashTimes.f
 refine EvP.split (fun _ => EvP.now rfl) (fun _ => ?_)
 refine EvP.bind (spec_DrawSquash_ev l0 g0.2) ?_
 rintro ⟨xs, snaps, b⟩ hd
 obtain ⟨n1, hk⟩ := drawn_small hd
 have hs := hd.1
 simp only at n1 hk hs ⊢
 have hq := sqB_len xs snaps b
 refine EvP.bind (impl_Squash_ev xs snaps b (by omega) hk) ?_
 rintro _ rfl
 refine EvP.bind (spec_Squash_ev xs snaps b (by omega) (by omega) hk) ?_
 rintro _ rfl
 refine EvP.bind (wpEnts_same _ (by omega)) ?_
 rintro _ rfl
 refine EvP.pos rfl ?_
 have key : ∀ (m : Nat) (t : List Int), m ≤ snaps.length → t.length + 2 * m ≤ 100 → (∀ y ∈ t, y = 0 ∨ y = -5 ∨ y ∈ snaps) → (∀ y ∈ snaps.drop m, y ∈ t) → EvP (fun k => laws_FnSquashTimes.l0 k xs snaps b (sqB xs snaps b) t ((m : Int) - 1)) (· = true) := by
  intro m
  induction m with
  | zero =>
   intro t _ ht h1 h2
   refine EvP.step (fun k => by rw [laws_FnSquashTimes.l0]) (EvP.neg (by omega) (EvP.pos (by omega) ?_))
   refine EvP.bind (impl_Squash_ev xs (t ++ [100007]) b (Nat.le_trans n1 (by omega)) hk) ?_
   rintro _ rfl
   have hc : sqB xs (t ++ [100007]) b = sqB xs snaps b := by
    refine sqB_congr (fun hr x hx y hy => ?_)
    have rx := seq_range hr x hx
    have ry := seq_range hr y hy
    rw [Bool.eq_iff_iff, parted_iff, parted_iff]
    constructor
    ·
     rintro ⟨u, hu, g1, g2⟩
     rcases List.mem_append.1 hu with hu | hu
     ·
      rcases h1 u hu with rfl | rfl | h
      ·
       omega
      ·
       omega
      ·
       exact ⟨u, h, g1, g2⟩
     ·
      obtain rfl := List.mem_singleton.1 hu
      omega
    ·
     rintro ⟨u, hu, g1, g2⟩
     exact ⟨u, List.mem_append.2 (.inl (h2 u hu)), g1, g2⟩
   rw [hc]
   refine EvP.bind (wpEnts_same _ (by omega)) ?_
   rintro _ rfl
   exact EvP.now rfl
  | succ m ih =>
   intro t hm ht h1 h2
   have hr : rd snaps ((m : Nat) : Int) = snaps[m] := by simp [rd, List.getD_eq_getElem?_getD, List.getElem?_eq_getElem (show m < snaps.length by omega)]
   have e1 : ((m + 1 : Nat) : Int) - 1 = (m : Int) := by omega
   have e2 : wrap64 ((m : Int) - 1) = (m : Int) - 1 := w64 (by omega) (by omega)
   have hdm : snaps.drop m = snaps[m] :: snaps.drop (m + 1) := List.drop_eq_getElem_cons (by omega)
   rw [e1]
   refine EvP.step (fun k => by rw [laws_FnSquashTimes.l0]) (EvP.pos (by omega) (EvP.pos (by omega) (EvP.pos (by omega) ?_)))
   simp only [Option.bind_some, hr, e2]
   refine EvP.pos (by simp; omega) (ih (t ++ [snaps[m], snaps[m]]) (by omega) (by simp; omega) ?_ ?_)
   ·
    intro y hy
    rcases List.mem_append.1 hy with hy | hy
    ·
     exact h1 y hy
    ·
     have : y = snaps[m] := by simpa using hy
     rw [this]
     exact .inr (.inr (List.getElem_mem _))
   ·
    intro y hy
    rw [hdm] at hy
    rcases List.mem_cons.1 hy with rfl | hy
    ·
     simp
    ·
     exact List.mem_append.2 (.inl (h2 y hy))
 have h := key snaps.length [0, -5] (Nat.le_refl _) (by simp; omega) (by simp) (by simp)
 rw [w64 (by omega) (by omega)]
 exact h


end Go.Proofs.Ytcfebbhiehaocaa.Pure
