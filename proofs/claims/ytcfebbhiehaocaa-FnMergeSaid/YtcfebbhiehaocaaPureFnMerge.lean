/- Merged lists are all their entries in order, in whatever order the lists stand; no condition. -/
import Derived.Test.YtcfebbhiehaocaaQFnMergex12
import Derived.Test.YtcfebbhiehaocaaBBase
set_option linter.unusedVariables false
set_option linter.unusedSimpArgs false
namespace Go.Proofs.Ytcfebbhiehaocaa.Pure
open Go.RowKit Go.Proofs.Ytcfebbhiehaocaa.QFnMerge Go.Proofs.YtcfebbhiehaocaaW.PrintWords Go.Proofs.YtcfebbhiehaocaaW.PrintLast Go.Proofs.YtcfebbhiehaocaaW.PrintMore Go.Proofs.Ytcfebbhiehaocaa.B

def entKey (x : S48) : List UInt8 × Int × Int × List UInt8 × Int := (x.f0.toList, x.f1, x.f2, x.f3.toList, x.f4)
theorem entNe (x y : S48) : (!((x.f0.toList) == (y.f0.toList)) || (!((x.f1) == (y.f1)) || (!((x.f2) == (y.f2)) || (!((x.f3.toList) == (y.f3.toList)) || (!((x.f4) == (y.f4))))))) = !decide (entKey x = entKey y) := by
 unfold entKey
 by_cases c1 : x.f0.toList = y.f0.toList <;> by_cases c2 : x.f1 = y.f1 <;> by_cases c3 : x.f2 = y.f2 <;> by_cases c4 : x.f3.toList = y.f3.toList <;> by_cases c5 : x.f4 = y.f4 <;> simp [c1, c2, c3, c4, c5]

/-! ### EntryLess -/
def lessB (k1 : ByteArray) (s1 : Int) (k2 : ByteArray) (s2 : Int) : Bool := if k1.toList = k2.toList then decide (s1 > s2) else Op.bytesLess k1.toList k2.toList
theorem bytesLess_irrefl : ∀ l : List UInt8, Op.bytesLess l l = false := by
 intro l
 induction l with
 | nil => rfl
 | cons a l ih => simp [Op.bytesLess, ih]
theorem spec_EntryLess_eq (a0 : ByteArray) (a1 a2 : Int) (a3 : ByteArray) (a4 : Int) (b0 : ByteArray) (b1 b2 : Int) (b3 : ByteArray) (b4 : Int) : spec_EntryLess.f a0 a1 a2 a3 a4 b0 b1 b2 b3 b4 = some (lessB a0 a1 b0 b1) := by
 unfold spec_EntryLess.f lessB
 by_cases h : a0.toList = b0.toList
 ·
  rw [h, bytesLess_irrefl]
  simp
 ·
  cases hb : Op.bytesLess a0.toList b0.toList <;> simp [h]
theorem impl_EntryLess_eq (a0 : ByteArray) (a1 a2 : Int) (a3 : ByteArray) (a4 : Int) (b0 : ByteArray) (b1 b2 : Int) (b3 : ByteArray) (b4 : Int) : impl_EntryLess.f a0 a1 a2 a3 a4 b0 b1 b2 b3 b4 = some (lessB a0 a1 b0 b1) := by
 unfold impl_EntryLess.f lessB
 split <;> rfl
theorem bl_cons (a b : UInt8) (x y : List UInt8) : Op.bytesLess (a :: x) (b :: y) = true ↔ a.toNat < b.toNat ∨ (a = b ∧ Op.bytesLess x y = true) := by
 simp [Op.bytesLess, UInt8.lt_iff_toNat_lt]
theorem bl_trans : ∀ x y z : List UInt8, Op.bytesLess x y = true → Op.bytesLess y z = true → Op.bytesLess x z = true := by
 intro x
 induction x with
 | nil =>
  intro y z h k
  cases z with
  | nil => cases y <;> simp [Op.bytesLess] at k
  | cons c z => rfl
 | cons a x ih =>
  intro y z h k
  cases y with
  | nil => simp [Op.bytesLess] at h
  | cons b y =>
   cases z with
   | nil => simp [Op.bytesLess] at k
   | cons c z =>
    rw [bl_cons] at h k ⊢
    rcases h with h | ⟨rfl, h⟩ <;> rcases k with k | ⟨rfl, k⟩
    ·
     exact .inl (by omega)
    ·
     exact .inl h
    ·
     exact .inl k
    ·
     exact .inr ⟨rfl, ih _ _ h k⟩
theorem bl_asymm (x y : List UInt8) (h : Op.bytesLess x y = true) : Op.bytesLess y x = false := by
 cases k : Op.bytesLess y x
 ·
  rfl
 ·
  have := bl_trans _ _ _ h k
  rw [bytesLess_irrefl] at this
  cases this
theorem bl_total : ∀ x y : List UInt8, x ≠ y → Op.bytesLess x y = false → Op.bytesLess y x = true := by
 intro x
 induction x with
 | nil =>
  intro y h k
  cases y with
  | nil => exact absurd rfl h
  | cons b y => simp [Op.bytesLess] at k
 | cons a x ih =>
  intro y h k
  cases y with
  | nil => rfl
  | cons b y =>
   have k' : ¬ Op.bytesLess (a :: x) (b :: y) = true := by rw [k]; simp
   rw [bl_cons] at k' ⊢
   by_cases hab : a = b
   ·
    subst hab
    refine .inr ⟨rfl, ih y (fun e => h (by rw [e])) ?_⟩
    cases q : Op.bytesLess x y
    ·
     rfl
    ·
     exact absurd (.inr ⟨rfl, q⟩) k'
   ·
    refine .inl ?_
    have : a.toNat ≠ b.toNat := fun e => hab (UInt8.toNat.inj e)
    have : ¬ a.toNat < b.toNat := fun e => k' (.inl e)
    omega
theorem lessB_iff (k1 : ByteArray) (s1 : Int) (k2 : ByteArray) (s2 : Int) : lessB k1 s1 k2 s2 = true ↔ Op.bytesLess k1.toList k2.toList = true ∨ (k1.toList = k2.toList ∧ s2 < s1) := by
 unfold lessB
 split
 ·
  rename_i h
  rw [h, bytesLess_irrefl]
  simp
 ·
  rename_i h
  simp [h]
theorem lessB_irrefl (k : ByteArray) (s : Int) : lessB k s k s = false := by simp [lessB]
theorem lessB_trans {k1 k2 k3 : ByteArray} {s1 s2 s3 : Int} (h : lessB k1 s1 k2 s2 = true) (k : lessB k2 s2 k3 s3 = true) : lessB k1 s1 k3 s3 = true := by
 rw [lessB_iff] at h k ⊢
 rcases h with h | ⟨h, h'⟩ <;> rcases k with k | ⟨k, k'⟩
 ·
  exact .inl (bl_trans _ _ _ h k)
 ·
  exact .inl (k ▸ h)
 ·
  exact .inl (h ▸ k)
 ·
  exact .inr ⟨h.trans k, by omega⟩
theorem lessB_asymm {k1 k2 : ByteArray} {s1 s2 : Int} (h : lessB k1 s1 k2 s2 = true) : lessB k2 s2 k1 s1 = false := by
 cases k : lessB k2 s2 k1 s1
 ·
  rfl
 ·
  have := lessB_trans h k
  rw [lessB_irrefl] at this
  cases this
theorem lessB_total {k1 k2 : ByteArray} {s1 s2 : Int} (h : lessB k1 s1 k2 s2 = false) (k : lessB k2 s2 k1 s1 = false) : k1.toList = k2.toList ∧ s1 = s2 := by
 have h' : ¬ lessB k1 s1 k2 s2 = true := by rw [h]; simp
 have k' : ¬ lessB k2 s2 k1 s1 = true := by rw [k]; simp
 rw [lessB_iff] at h' k'
 by_cases e : k1.toList = k2.toList
 ·
  refine ⟨e, ?_⟩
  have a : ¬ s2 < s1 := fun x => h' (.inr ⟨e, x⟩)
  have b : ¬ s1 < s2 := fun x => k' (.inr ⟨e.symm, x⟩)
  omega
 ·
  cases q : Op.bytesLess k1.toList k2.toList
  ·
   exact absurd (.inl (bl_total _ _ e q)) k'
  ·
   exact absurd (.inl q) h'

/-! ### The order of entries (over EntryLess) -/
def ltE (x y : S48) : Prop := lessB x.f0 x.f1 y.f0 y.f1 = true
instance (x y : S48) : Decidable (ltE x y) := inferInstanceAs (Decidable (lessB x.f0 x.f1 y.f0 y.f1 = true))
theorem ltE_asym {x y : S48} (h : ltE x y) : ¬ ltE y x := by
 unfold ltE at *
 rw [lessB_asymm h]
 simp
theorem ltE_tr {x y z : S48} (h : ltE x y) (k : ltE y z) : ltE x z := lessB_trans h k
theorem ltE_tot {x y : S48} (h : ¬ ltE x y) (k : ¬ ltE y x) : x.f0.toList = y.f0.toList ∧ x.f1 = y.f1 := by
 unfold ltE at *
 exact lessB_total (by simpa using h) (by simpa using k)
theorem ltE_congr {x y z : S48} (h : x.f0.toList = y.f0.toList) (k : x.f1 = y.f1) : (ltE x z ↔ ltE y z) ∧ (ltE z x ↔ ltE z y) := by
 unfold ltE
 rw [lessB_iff, lessB_iff, lessB_iff, lessB_iff, h, k]
 exact ⟨Iff.rfl, Iff.rfl⟩
theorem ltE_ntr {x y z : S48} (h : ¬ ltE y x) (k : ¬ ltE z y) : ¬ ltE z x := by
 intro g
 by_cases hxy : ltE x y
 ·
  by_cases hyz : ltE y z
  ·
   exact ltE_asym (ltE_tr hxy hyz) g
  ·
   obtain ⟨e1, e2⟩ := ltE_tot hyz k
   exact h ((ltE_congr e1 e2).1.2 g)
 ·
  obtain ⟨e1, e2⟩ := ltE_tot hxy h
  exact k ((ltE_congr e1 e2).2.1 g)
def cmpS (a b : List UInt8) : Int := if Op.bytesLess a b = true then -1 else if Op.bytesLess b a = true then 1 else 0
def cmpI (a b : Int) : Int := if a < b then -1 else if a > b then 1 else 0
theorem Compare_string_eq (a b : ByteArray) : cmp_Compare_string.f a b = some (cmpS a.toList b.toList) := by
 unfold cmp_Compare_string.f cmp_isNaN_string.f cmpS
 simp only [Option.bind_some, bne_self_eq_false, Bool.false_eq_true, if_false]
 split
 ·
  rfl
 ·
  split <;> rfl
theorem Compare_int_eq (a b : Int) : cmp_Compare_int.f a b = some (cmpI a b) := by
 unfold cmp_Compare_int.f cmp_isNaN_int.f cmpI
 simp only [Option.bind_some, bne_self_eq_false, Bool.false_eq_true, if_false]
 split
 ·
  rfl
 ·
  split <;> rfl
theorem Or_ev (a b : Int) : EvP (fun k => cmp_Or_int.f k [a, b]) (· = if a = 0 then b else a) := by
 unfold cmp_Or_int.f
 have r0 : rd [a, b] 0 = a := rfl
 have r1 : rd [a, b] 1 = b := rfl
 have e0 : wrap64 (0 + 1) = 1 := w64 (by omega) (by omega)
 have e1 : wrap64 (1 + 1) = 2 := w64 (by omega) (by omega)
 refine EvP.step (fun k => by rw [cmp_Or_int.l0]) (EvP.pos (by simp) (EvP.pos (by decide) (EvP.pos (by simp) ?_)))
 rw [r0, e0]
 refine EvP.split (fun h => ?_) (fun h => EvP.now (by rw [if_neg h]))
 rw [if_pos h]
 refine EvP.step (fun k => by rw [cmp_Or_int.l0]) (EvP.pos (by simp) (EvP.pos (by decide) (EvP.pos (by simp) ?_)))
 rw [r1, e1]
 refine EvP.split (fun g => ?_) (fun g => EvP.now rfl)
 exact EvP.step (fun k => by rw [cmp_Or_int.l0]) (EvP.neg (by simp) (EvP.now g.symm))
theorem cmp_ev (x y : S48) : EvP (fun k => impl_entryOrder.f k x.f0 x.f1 x.f2 x.f3 x.f4 y.f0 y.f1 y.f2 y.f3 y.f4) (fun t => t < 0 ↔ ltE x y) := by
 unfold impl_entryOrder.f
 rw [Compare_string_eq, Compare_int_eq]
 simp only [Option.bind_some]
 refine EvP.bind (Or_ev _ _) ?_
 rintro _ rfl
 refine EvP.now ?_
 unfold ltE cmpS cmpI
 rw [lessB_iff]
 by_cases h1 : Op.bytesLess x.f0.toList y.f0.toList = true
 ·
  simp [h1]
 ·
  by_cases h2 : Op.bytesLess y.f0.toList x.f0.toList = true
  ·
   have hne : x.f0.toList ≠ y.f0.toList := by
    intro e
    rw [e, bytesLess_irrefl] at h2
    cases h2
   simp [h1, h2, hne]
  ·
   have he : x.f0.toList = y.f0.toList := by
    by_cases e : x.f0.toList = y.f0.toList
    ·
     exact e
    ·
     exact absurd (bl_total _ _ e (by simpa using h1)) h2
   have hi : Op.bytesLess y.f0.toList y.f0.toList = false := bytesLess_irrefl _
   rw [he, hi]
   simp only [Bool.false_eq_true, if_false, if_true, false_or, true_and]
   by_cases h3 : y.f1 < x.f1
   ·
    simp [h3]
   ·
    by_cases h4 : y.f1 > x.f1
    ·
     simp [h3, h4]
    ·
     simp [h3, h4]

/-! ### A stable sort, one entry after another -/
theorem rd_midE (pre rest : List S48) (x : S48) : rd_T48 (pre ++ x :: rest) (pre.length : Int) = x := by simp [rd_T48]
def insRev (e : S48) : List S48 → List S48
 | [] => [e]
 | y :: ys => if ltE e y then y :: insRev e ys else e :: y :: ys
def insR (e : S48) (xs : List S48) : List S48 := (insRev e xs.reverse).reverse
def isort (xs : List S48) : List S48 := xs.foldl (fun o e => insR e o) []
theorem isort_snoc (xs : List S48) (e : S48) : isort (xs ++ [e]) = insR e (isort xs) := by simp [isort]
theorem insRev_far (e : S48) (t r : List S48) (h : ∀ y ∈ t, ltE e y) : insRev e (t ++ r) = t ++ insRev e r := by
 induction t with
 | nil => rfl
 | cons y t ih =>
  rw [List.cons_append, insRev, if_pos (h y (by simp)), ih (fun z hz => h z (by simp [hz])), List.cons_append]
theorem insR_split (e : S48) (f t : List S48) (h : ∀ y ∈ t, ltE e y) : insR e (f ++ t) = insR e f ++ t := by
 unfold insR
 rw [List.reverse_append, insRev_far e _ _ (fun y hy => h y (List.mem_reverse.1 hy)), List.reverse_append, List.reverse_reverse]
theorem insR_stop (e : S48) (f : List S48) (y : S48) (h : ¬ ltE e y) : insR e (f ++ [y]) = f ++ [y] ++ [e] := by
 unfold insR
 rw [List.reverse_append, List.reverse_singleton, List.singleton_append, insRev, if_neg h]
 simp
theorem insR_nil (e : S48) : insR e [] = [e] := rfl
theorem insRev_length (e : S48) (xs : List S48) : (insRev e xs).length = xs.length + 1 := by
 induction xs with
 | nil => rfl
 | cons y ys ih =>
  unfold insRev
  split
  ·
   rw [List.length_cons, ih, List.length_cons]
  ·
   rfl
theorem insR_length (e : S48) (xs : List S48) : (insR e xs).length = xs.length + 1 := by simp [insR, insRev_length]
theorem isort_length (xs : List S48) : (isort xs).length = xs.length := by
 have key : ∀ r : List S48, (isort r.reverse).length = r.length := by
  intro r
  induction r with
  | nil => rfl
  | cons x r ih => rw [List.reverse_cons, isort_snoc, insR_length, ih, List.length_cons]
 simpa using key xs.reverse
theorem swap_mid (A B : List S48) (y e : S48) (n m : Nat) (hn : n = A.length) (hm : m = A.length + 1) : ((A ++ y :: e :: B).set m y).set n e = A ++ e :: y :: B := by
 subst hn hm
 rw [List.set_append, if_neg (by omega), List.set_append, if_neg (by omega)]
 simp
/-- Insertion sort within a row, from place a to place b. -/
theorem insSort_l1 (pre more : List S48) (e : S48) (a b i : Int) (ha : a = (pre.length : Int)) (seg : List S48) (hbig : pre.length + seg.length + more.length ≤ 2097152) (Q : List S48 → Prop)
  (fin : EvP (fun k => impl_Entry_86.l0 k (pre ++ insR e seg ++ more) a b (wrap64 (i + 1))) Q) :
  ∀ (fr t : List S48), seg = fr.reverse ++ t → (∀ y ∈ t, ltE e y) → EvP (fun k => impl_Entry_86.l1 k (pre ++ fr.reverse ++ e :: t ++ more) a b i (a + fr.length)) Q := by
 intro fr
 induction fr with
 | nil =>
  intro t hs ht
  refine EvP.step (fun k => by rw [impl_Entry_86.l1]) (EvP.neg (by simp) ?_)
  have e1 : insR e seg = e :: t := by
   rw [hs, List.reverse_nil, insR_split e [] t ht, insR_nil]
   rfl
  rw [e1] at fin
  simpa using fin
 | cons y fr ih =>
  intro t hs ht
  have hlen : seg.length = fr.length + 1 + t.length := by rw [hs]; simp; omega
  have hL : (pre ++ (y :: fr).reverse ++ e :: t ++ more).length = pre.length + fr.length + 2 + t.length + more.length := by simp; omega
  have hx : pre ++ (y :: fr).reverse ++ e :: t ++ more = (pre ++ fr.reverse) ++ y :: e :: (t ++ more) := by simp
  have hx2 : pre ++ (y :: fr).reverse ++ e :: t ++ more = ((pre ++ fr.reverse) ++ [y]) ++ e :: (t ++ more) := by simp
  have j1 : a + ((y :: fr).length : Int) = (((pre ++ fr.reverse) ++ [y]).length : Int) := by rw [ha]; simp <;> omega
  have j0 : wrap64 (a + ((y :: fr).length : Int) - 1) = ((pre ++ fr.reverse).length : Int) := by
   rw [w64 (by rw [ha]; simp; omega) (by rw [ha]; simp; omega), ha]
   simp
   try omega
  have r1 : rd_T48 (pre ++ (y :: fr).reverse ++ e :: t ++ more) (a + ((y :: fr).length : Int)) = e := by
   rw [hx2, j1]
   exact rd_midE _ _ _
  have r0 : rd_T48 (pre ++ (y :: fr).reverse ++ e :: t ++ more) ((pre ++ fr.reverse).length : Int) = y := by
   rw [hx]
   exact rd_midE _ _ _
  refine EvP.step (fun k => by rw [impl_Entry_86.l1]) ?_
  rw [j0, r1, r0]
  refine EvP.pos (by simp; omega) (EvP.pos (by rw [ha]; omega) (EvP.pos (by rw [hL, ha]; simp; omega) (EvP.pos (by omega) (EvP.pos (by rw [hL]; simp; omega) ?_))))
  refine EvP.bind (cmp_ev e y) ?_
  intro c hc
  refine EvP.split (fun hlt => ?_) (fun hge => ?_)
  ·
   have hlt' := hc.1 hlt
   have e2 : ((pre ++ (y :: fr).reverse ++ e :: t ++ more).set (a + ((y :: fr).length : Int)).toNat y).set ((pre ++ fr.reverse).length : Int).toNat e = pre ++ fr.reverse ++ e :: (y :: t) ++ more := by
    rw [hx, swap_mid (pre ++ fr.reverse) (t ++ more) y e _ _ (by simp; omega) (by rw [j1]; simp; omega)]
    simp
   have e3 : ((pre ++ fr.reverse).length : Int) = a + (fr.length : Int) := by rw [ha]; simp
   have step := ih (y :: t) (by rw [hs]; simp) (fun z hz => by
    rcases List.mem_cons.1 hz with rfl | hz
    ·
     exact hlt'
    ·
     exact ht z hz)
   show EvP (fun k => impl_Entry_86.l1 k (((pre ++ (y :: fr).reverse ++ e :: t ++ more).set (a + ((y :: fr).length : Int)).toNat y).set ((pre ++ fr.reverse).length : Int).toNat e) a b i ((pre ++ fr.reverse).length : Int)) Q
   rw [e2, e3]
   exact step
  ·
   have hge' : ¬ ltE e y := fun h => hge (hc.2 h)
   have e1 : insR e seg = fr.reverse ++ [y] ++ [e] ++ t := by
    rw [hs, List.reverse_cons, insR_split e _ t ht, insR_stop e _ y hge']
   rw [e1] at fin
   simpa using fin
theorem insSort_l0 (pre more : List S48) (a b : Int) (ha : a = (pre.length : Int)) : ∀ (rest seg : List S48), pre.length + seg.length + rest.length + more.length ≤ 2097152 → b = ((pre.length + (isort seg).length + rest.length : Nat) : Int) → 
  EvP (fun k => impl_Entry_86.l0 k (pre ++ isort seg ++ rest ++ more) a b ((pre.length + (isort seg).length : Nat) : Int)) (· = pre ++ isort (seg ++ rest) ++ more) := by
 intro rest
 induction rest with
 | nil =>
  intro seg hbig hb
  refine EvP.step (fun k => by rw [impl_Entry_86.l0]) (EvP.neg (by rw [hb]; simp) (EvP.now (by simp)))
 | cons e rest ih =>
  intro seg hbig hb
  have hl := isort_length seg
  simp only [List.length_cons] at hbig hb
  refine EvP.step (fun k => by rw [impl_Entry_86.l0]) (EvP.pos (by rw [hb]; omega) ?_)
  have h1 := insSort_l1 pre (rest ++ more) e a b ((pre.length + (isort seg).length : Nat) : Int) ha (isort seg) (by rw [List.length_append]; omega) (· = pre ++ isort (seg ++ e :: rest) ++ more) ?_ (isort seg).reverse [] (by simp) (by simp)
  ·
   have e1 : pre ++ (isort seg).reverse.reverse ++ e :: [] ++ (rest ++ more) = pre ++ isort seg ++ e :: rest ++ more := by simp
   have e2 : a + ((isort seg).reverse.length : Int) = ((pre.length + (isort seg).length : Nat) : Int) := by rw [ha]; simp
   rw [e1, e2] at h1
   exact h1
  ·
   have step := ih (seg ++ [e]) (by simp; omega) (by rw [isort_length]; simp; omega)
   rw [isort_snoc, insR_length] at step
   have e3 : wrap64 (((pre.length + (isort seg).length : Nat) : Int) + 1) = ((pre.length + ((isort seg).length + 1) : Nat) : Int) := by rw [w64 (by omega) (by omega)]; omega
   rw [e3]
   simpa using step
theorem insSort_ev (pre xs more : List S48) (a b n : Int) (ha : a = (pre.length : Int)) (hb : b = ((pre.length + xs.length : Nat) : Int)) (hbig : pre.length + xs.length + more.length ≤ 2097152) :
  EvP (fun k => impl_Entry_86.f k (pre ++ xs ++ more) a b n) (· = pre ++ isort xs ++ more) := by
 unfold impl_Entry_86.f
 cases xs with
 | nil =>
  refine EvP.step (fun k => by rw [impl_Entry_86.l0]) (EvP.neg (by rw [hb, ha, w64 (by omega) (by omega)]; simp <;> omega) (EvP.now (by simp [isort])))
 | cons x xs =>
  have h := insSort_l0 pre more a b ha xs [x] (by simp at hbig ⊢; omega) (by rw [isort_length, hb]; simp; omega)
  have e1 : isort [x] = [x] := rfl
  rw [e1] at h
  have e2 : wrap64 (a + 1) = ((pre.length + [x].length : Nat) : Int) := by rw [ha, w64 (by omega) (by simp at hbig; omega)]; simp
  rw [e2]
  simpa using h
/-- The whole sort of no more than one block. -/
theorem sortFew_ev (xs : List S48) (n : Int) (hx : xs.length < 20) : EvP (fun k => impl_Entry_47.f k xs n) (· = isort xs) := by
 unfold impl_Entry_47.f impl_Entry_69.f
 refine EvP.bind (P := (· = isort xs)) ?_ (by rintro _ rfl; exact EvP.now rfl)
 refine EvP.step (fun k => by rw [impl_Entry_69.l0]) (EvP.neg (by omega) ?_)
 have h := insSort_ev [] xs [] 0 (xs.length : Int) n (by simp) (by simp) (by simp; omega)
 refine EvP.bind (P := (· = isort xs)) (by simpa using h) ?_
 rintro _ rfl
 exact EvP.step (fun k => by rw [impl_Entry_69.l1]) (EvP.neg (by omega) (EvP.now rfl))

/-! ### The reader of draws -/
/-- Bytes, at most 2000 of them. -/
structure Bytes (l : List Int) : Prop where
 len : l.length ≤ 2000
 lo : ∀ j, 0 ≤ rd l j
 hi : ∀ j, rd l j ≤ 255
theorem rd_range {l : List Int} (h : ∀ x ∈ l, 0 ≤ x ∧ x ≤ 255) (j : Int) : 0 ≤ rd l j ∧ rd l j ≤ 255 := by
 unfold rd
 rw [List.getD_eq_getElem?_getD]
 rcases Nat.lt_or_ge j.toNat l.length with hj | hj
 ·
  rw [List.getElem?_eq_getElem hj]
  exact h _ (List.getElem_mem hj)
 ·
  rw [List.getElem?_eq_none hj]
  simp
theorem u8_range {l : List Int} (h : ∀ x ∈ l, (Lit.int .u8 x).wf = true) : ∀ x ∈ l, 0 ≤ x ∧ x ≤ 255 := by
 intro x hx
 have := h x hx
 simp [Lit.wf, IntKind.min, IntKind.max, IntKind.signed, IntKind.bits] at this
 omega
theorem spec_l9Open_ev (l : List Int) (h : ∀ x ∈ l, (Lit.int .u8 x).wf = true) : EvP (fun _ => spec_l9Open.f l) (fun r => Bytes r.1 ∧ r.2 = 0) := by
 unfold spec_l9Open.f
 have hu := u8_range h
 refine EvP.split (fun h1 => EvP.pos (by omega) (EvP.now ⟨⟨?_, fun j => ?_, fun j => ?_⟩, rfl⟩)) (fun h1 => EvP.now ⟨⟨?_, fun j => ?_, fun j => ?_⟩, rfl⟩)
 ·
  simp; omega
 ·
  exact (rd_range (fun x hx => hu x (List.mem_of_mem_take hx)) j).1
 ·
  exact (rd_range (fun x hx => hu x (List.mem_of_mem_take hx)) j).2
 ·
  show l.length ≤ 2000
  omega
 ·
  exact (rd_range hu j).1
 ·
  exact (rd_range hu j).2
theorem xor_nonneg (x y : Int) (h0 : 0 ≤ x) (h1 : x < 2 ^ 62) (h2 : 0 ≤ y) (h3 : y < 2 ^ 62) : 0 ≤ bits .xor .i64 x y := by
 obtain ⟨a, rfl⟩ := Int.eq_ofNat_of_zero_le h0
 obtain ⟨b, rfl⟩ := Int.eq_ofNat_of_zero_le h2
 rw [xor64 a b (by omega) (by omega)]
 exact Int.natCast_nonneg _
/-- What a pick gives: one place on; a number below n, or 0. -/
def Picked (p n : Int) (r : Int × Int) : Prop := r.2 = p + 1 ∧ 0 ≤ r.1 ∧ (1 ≤ n → r.1 < n) ∧ (n < 1 → r.1 = 0)
theorem picked_mod {p n x : Int} (hn : ¬ n < 1) (hx : 0 ≤ x) : Picked p n (Int.tmod x n, p + 1) :=
 ⟨rfl, Int.tmod_nonneg _ hx, fun _ => Int.tmod_lt_of_pos _ (by omega), fun h => absurd h hn⟩
theorem spec_l9Rd_pick_ev (l : List Int) (hl : Bytes l) (p n : Int) (h0 : 0 ≤ p) (h1 : p ≤ 1000000000000) : EvP (fun k => spec_l9Rd_pick.f k l p n) (Picked p n) := by
 unfold spec_l9Rd_pick.f
 have e1 : wrap64 (p + 1) = p + 1 := w64 (by omega) (by omega)
 have e2 : wrap64 (p + 1 - 1) = p := by rw [w64 (by omega) (by omega)]; omega
 rw [e1]
 refine EvP.split (fun h => ?_) (fun hn => ?_)
 ·
  refine EvP.step (fun k => by rw [spec_l9Rd_pick.j0]) (EvP.pos rfl (EvP.now ?_))
  exact ⟨rfl, Int.le_refl _, fun h' => absurd h (by omega), fun _ => rfl⟩
 ·
  refine EvP.step (fun k => by rw [spec_l9Rd_pick.j0]) (EvP.split (fun h => EvP.now ?_) (fun hz => ?_))
  ·
   exact ⟨rfl, Int.le_refl _, fun h' => by show (0 : Int) < n; omega, fun _ => rfl⟩
  ·
   have hz' : ¬ (l.length : Int) = 0 := fun h => hz (by simp [h])
   have hpos : 0 < (l.length : Int) := by omega
   have hlen : (l.length : Int) ≤ 2000 := by have := hl.len; omega
   rw [e2]
   refine EvP.split (fun h => EvP.pos h0 (EvP.neg (by omega) (EvP.now ?_))) (fun h => EvP.neg hz' ?_)
   ·
    have := hl.lo p
    have := hl.hi p
    rw [w64 (by omega) (by omega)]
    exact picked_mod hn (by omega)
   ·
    have a0 : 0 ≤ Int.tmod p (l.length : Int) := Int.tmod_nonneg _ h0
    have a1 : Int.tmod p (l.length : Int) < (l.length : Int) := Int.tmod_lt_of_pos _ hpos
    have e7 : wrap64 (wrap64 (p * 7) + 3) = p * 7 + 3 := by rw [w64 (x := p * 7) (by omega) (by omega), w64 (by omega) (by omega)]
    have c0 : 0 ≤ Int.tmod (p * 7 + 3) (l.length : Int) := Int.tmod_nonneg _ (by omega)
    have c1 : Int.tmod (p * 7 + 3) (l.length : Int) < (l.length : Int) := Int.tmod_lt_of_pos _ hpos
    rw [e7]
    refine EvP.pos a0 (EvP.pos a1 (EvP.pos c0 (EvP.pos c1 (EvP.neg (by omega) (EvP.now ?_)))))
    have b0 := hl.lo (Int.tmod p (l.length : Int))
    have b1 := hl.hi (Int.tmod p (l.length : Int))
    have d0 := hl.lo (Int.tmod (p * 7 + 3) (l.length : Int))
    have d1 := hl.hi (Int.tmod (p * 7 + 3) (l.length : Int))
    have q0 : 0 ≤ Int.tdiv p (l.length : Int) := Int.tdiv_nonneg h0 (by omega)
    have q1 : Int.tdiv p (l.length : Int) ≤ p := by
     rw [Int.tdiv_eq_ediv_of_nonneg h0]
     exact Int.ediv_le_self _ h0
    refine picked_mod hn ?_
    generalize Int.tdiv p (l.length : Int) = q at q0 q1 ⊢
    generalize rd l (Int.tmod p (l.length : Int)) = b at b0 b1 ⊢
    generalize rd l (Int.tmod (p * 7 + 3) (l.length : Int)) = d at d0 d1 ⊢
    have f1 : wrap64 b = b := w64 (by omega) (by omega)
    have f2 : wrap64 d = d := w64 (by omega) (by omega)
    have f3 : wrap64 q = q := w64 (by omega) (by omega)
    have f4 : wrap64 (b * 131) = b * 131 := w64 (by omega) (by omega)
    have f5 : wrap64 (d * 1117) = d * 1117 := w64 (by omega) (by omega)
    have f6 : wrap64 (p * 29) = p * 29 := w64 (by omega) (by omega)
    have f7 : wrap64 (q * 53) = q * 53 := w64 (by omega) (by omega)
    have f8 : wrap64 (b * 131 + d * 1117) = b * 131 + d * 1117 := w64 (by omega) (by omega)
    have f9 : wrap64 (b * 131 + d * 1117 + p * 29) = b * 131 + d * 1117 + p * 29 := w64 (by omega) (by omega)
    have f10 : wrap64 (b * 131 + d * 1117 + p * 29 + q * 53) = b * 131 + d * 1117 + p * 29 + q * 53 := w64 (by omega) (by omega)
    rw [f1, f2, f3, f4, f5, f6, f7, f8, f9, f10]
    have g0 : 0 ≤ b * 131 + d * 1117 + p * 29 + q * 53 := by omega
    have g1 : b * 131 + d * 1117 + p * 29 + q * 53 < 2 ^ 62 := by omega
    generalize b * 131 + d * 1117 + p * 29 + q * 53 = x at g0 g1 ⊢
    have g2 : Int.tdiv x 64 = x / 64 := Int.tdiv_eq_ediv_of_nonneg g0
    rw [g2, w64 (x := x / 64) (by omega) (by omega)]
    exact xor_nonneg _ _ g0 g1 (by omega) (by omega)
/-- One of a list of texts. -/
theorem spec_l9Rd_of_ev (l : List Int) (hl : Bytes l) (p : Int) (xs : List ByteArray) (hx : 0 < xs.length) (h0 : 0 ≤ p) (h1 : p ≤ 1000000000000) : EvP (fun k => spec_l9Rd_of.f k l p xs) (fun r => r.2 = p + 1 ∧ r.1 ∈ xs) := by
 unfold spec_l9Rd_of.f
 refine EvP.bind (spec_l9Rd_pick_ev l hl p _ h0 h1) ?_
 rintro ⟨i, q⟩ ⟨hq, hi, hlt, _⟩
 have := hlt (by omega)
 simp only at hq hi this
 refine EvP.pos hi (EvP.pos this (EvP.now ⟨hq, ?_⟩))
 show xs.getD i.toNat ByteArray.empty ∈ xs
 rw [List.getD_eq_getElem?_getD, List.getElem?_eq_getElem (by omega)]
 exact List.getElem_mem _

/-- One of a list of numbers. -/
theorem spec_l9Rd_num_ev (l : List Int) (hl : Bytes l) (p : Int) (xs : List Int) (hx : 0 < xs.length) (h0 : 0 ≤ p) (h1 : p ≤ 1000000000000) : EvP (fun k => spec_l9Rd_num.f k l p xs) (fun r => r.2 = p + 1 ∧ r.1 ∈ xs) := by
 unfold spec_l9Rd_num.f
 refine EvP.bind (spec_l9Rd_pick_ev l hl p _ h0 h1) ?_
 rintro ⟨i, q⟩ ⟨hq, hi, hlt, _⟩
 have := hlt (by omega)
 simp only at hq hi this
 refine EvP.pos hi (EvP.pos this (EvP.now ⟨hq, ?_⟩))
 show xs.getD i.toNat 0 ∈ xs
 rw [List.getD_eq_getElem?_getD, List.getElem?_eq_getElem (by omega)]
 exact List.getElem_mem _

theorem spec_l3Key_ev (l : List Int) (hl : Bytes l) (p : Int) (h0 : 0 ≤ p) (h1 : p ≤ 1000000000000) : EvP (fun k => spec_l3Key.f k l p) (fun r => r.2 = p + 1 ∧ r.1 ∈ ([⟨#[97]⟩, ⟨#[98]⟩, ⟨#[97, 98]⟩, ⟨#[98, 47, 97, 47, 49]⟩, ⟨#[98, 47, 97, 98, 47, 49]⟩, ⟨#[99]⟩] : List ByteArray)) := by
 unfold spec_l3Key.f
 refine EvP.bind (spec_l9Rd_of_ev l hl p _ (by simp) h0 h1) ?_
 rintro ⟨x, q⟩ h
 exact EvP.now h

/-- What a drawn entry is like. -/
structure Drawn (seq p : Int) (r : ByteArray × Int × Int × ByteArray × Int × Int) : Prop where
 key : r.1 ∈ ([⟨#[97]⟩, ⟨#[98]⟩, ⟨#[97, 98]⟩, ⟨#[98, 47, 97, 47, 49]⟩, ⟨#[98, 47, 97, 98, 47, 49]⟩, ⟨#[99]⟩] : List ByteArray)
 seq : r.2.1 = seq
 kind : r.2.2.1 = 1 ∨ r.2.2.1 = 2 ∨ r.2.2.1 = 3
 text : r.2.2.2.1.size ≤ 3
 bare : r.2.2.1 ≠ 1 → r.2.2.2.1 = ⟨#[]⟩
 lo : -7 ≤ r.2.2.2.2.1
 hi : r.2.2.2.2.1 ≤ 100
 del : r.2.2.1 = 2 → r.2.2.2.2.1 = 0
 next : p ≤ r.2.2.2.2.2 ∧ r.2.2.2.2.2 ≤ p + 5
theorem keys_small (u : ByteArray) (h : u ∈ ([⟨#[97]⟩, ⟨#[98]⟩, ⟨#[97, 98]⟩, ⟨#[98, 47, 97, 47, 49]⟩, ⟨#[98, 47, 97, 98, 47, 49]⟩, ⟨#[99]⟩] : List ByteArray)) : u.size ≤ 6 := by
 simp only [List.mem_cons, List.not_mem_nil, or_false] at h
 rcases h with rfl | rfl | rfl | rfl | rfl | rfl <;> simp [ByteArray.size]
theorem texts_small (u : ByteArray) (h : u ∈ ([⟨#[]⟩, ⟨#[120]⟩, ⟨#[121, 121]⟩, ⟨#[122, 122, 122]⟩] : List ByteArray)) : u.size ≤ 3 := by
 simp only [List.mem_cons, List.not_mem_nil, or_false] at h
 rcases h with rfl | rfl | rfl | rfl <;> simp [ByteArray.size]
theorem spec_l3Entry_ev (l : List Int) (hl : Bytes l) (p seq : Int) (h0 : 0 ≤ p) (h1 : p ≤ 900000000000) : EvP (fun k => spec_l3Entry.f k l p seq) (Drawn seq p) := by
 unfold spec_l3Entry.f
 refine EvP.bind (spec_l3Key_ev l hl p h0 (by omega)) ?_
 rintro ⟨key, p1⟩ ⟨hp1, hkey⟩
 simp only at hp1 hkey
 refine EvP.bind (spec_l9Rd_num_ev l hl p1 _ (by simp) (by omega) (by omega)) ?_
 rintro ⟨kind, p2⟩ ⟨hp2, hkind⟩
 simp only [List.mem_cons, List.not_mem_nil, or_false] at hp2 hkind
 refine EvP.split (fun h2 => EvP.neg (by omega) (EvP.now ?_)) (fun h2 => ?_)
 ·
  exact ⟨hkey, rfl, by show kind = 1 ∨ kind = 2 ∨ kind = 3; omega, by simp [ByteArray.size], fun _ => rfl, by show (-7 : Int) ≤ 0; omega, by show (0 : Int) ≤ 100; omega, fun _ => rfl, by show p ≤ p2 ∧ p2 ≤ p + 5; omega⟩
 ·
  refine EvP.bind (spec_l9Rd_num_ev l hl p2 _ (by simp) (by omega) (by omega)) ?_
  rintro ⟨n, p3⟩ ⟨hp3, hn⟩
  simp only [List.mem_cons, List.not_mem_nil, or_false] at hp3 hn
  refine EvP.split (fun h3 => ?_) (fun h3 => EvP.now ?_)
  ·
   refine EvP.bind (spec_l9Rd_of_ev l hl p3 _ (by simp) (by omega) (by omega)) ?_
   rintro ⟨x, p4⟩ ⟨hp4, hx⟩
   simp only at hp4 hx
   exact EvP.now ⟨hkey, rfl, by show kind = 1 ∨ kind = 2 ∨ kind = 3; omega, texts_small x hx, fun h => absurd h3 h, by show (-7 : Int) ≤ n; omega, by show n ≤ 100; omega, fun h => absurd h h2, by show p ≤ p4 ∧ p4 ≤ p + 5; omega⟩
  ·
   exact ⟨hkey, rfl, by show kind = 1 ∨ kind = 2 ∨ kind = 3; omega, by simp [ByteArray.size], fun _ => rfl, by show (-7 : Int) ≤ n; omega, by show n ≤ 100; omega, fun h => absurd h h2, by show p ≤ p3 ∧ p3 ≤ p + 5; omega⟩

/-! ### Draws of lists of entries -/
def keys6 : List ByteArray := [⟨#[97]⟩, ⟨#[98]⟩, ⟨#[97, 98]⟩, ⟨#[98, 47, 97, 47, 49]⟩, ⟨#[98, 47, 97, 98, 47, 49]⟩, ⟨#[99]⟩]
/-- No two of one time. -/
def Apart (xs : List S48) : Prop := xs.Pairwise (fun x y => x.f1 ≠ y.f1)
/-- What a drawn entry of a list is like. -/
structure Item (hi : Int) (x : S48) : Prop where
 key : x.f0 ∈ keys6
 one : 1 ≤ x.f1
 top : x.f1 ≤ hi
 kind : x.f2 = 1 ∨ x.f2 = 2 ∨ x.f2 = 3
 bare : x.f2 ≠ 1 → x.f3 = ⟨#[]⟩
 del : x.f2 = 2 → x.f4 = 0
 nlo : -7 ≤ x.f4
 nhi : x.f4 ≤ 100
theorem Item.mono {a b : Int} {x : S48} (h : Item a x) (hab : a ≤ b) : Item b x := ⟨h.key, h.one, Int.le_trans h.top hab, h.kind, h.bare, h.del, h.nlo, h.nhi⟩
theorem spec_l3List_l0 (l : List Int) (hl : Bytes l) : ∀ (d : Nat) (out : List S48) (s p : Int), d ≤ 100 → out.length + d ≤ 1000 → 0 ≤ s → s + 2 * d ≤ 1000000 → 0 ≤ p → p + 10 * d ≤ 800000000000 → Apart out → (∀ x ∈ out, Item s x) →
  EvP (fun k => spec_l3List.l0 k out s (d : Int) l p) (fun r => Apart r.1 ∧ r.1.length ≤ out.length + d ∧ (∀ x ∈ r.1, Item (s + 2 * d) x) ∧ p ≤ r.2 ∧ r.2 ≤ p + 10 * d) := by
 intro d
 induction d with
 | zero =>
  intro out s p _ _ _ _ hp0 hp1 ha hi
  refine EvP.step (fun k => by rw [spec_l3List.l0]) (EvP.neg (by simp) (EvP.now ⟨ha, by simp, fun x hx => (hi x hx).mono (by omega), by omega, by omega⟩))
 | succ d ih =>
  intro out s p hd ho hs0 hs1 hp0 hp1 ha hi
  refine EvP.step (fun k => by rw [spec_l3List.l0]) (EvP.pos (by omega) ?_)
  refine EvP.bind (spec_l9Rd_pick_ev l hl p 2 (by omega) (by omega)) ?_
  rintro ⟨v, p1⟩ ⟨hp, hv0, hv1, _⟩
  simp only at hp hv0 hv1
  have hv := hv1 (by omega)
  have ws : wrap64 (wrap64 (s + 1) + v) = s + 1 + v := by rw [w64 (x := s + 1) (by omega) (by omega), w64 (by omega) (by omega)]
  have wd : wrap64 (((d + 1 : Nat) : Int) - 1) = (d : Int) := by rw [w64 (by omega) (by omega)]; omega
  rw [ws, wd]
  refine EvP.bind (spec_l3Entry_ev l hl p1 (s + 1 + v) (by omega) (by omega)) ?_
  rintro ⟨key, seq, kind, text, n, p2⟩ hE
  have e1 := hE.seq
  have e2 := hE.next
  simp only at e1 e2
  refine EvP.bind (spec_l9Rd_pick_ev l hl p2 2 (by omega) (by omega)) ?_
  rintro ⟨w, p3⟩ ⟨hp3, _⟩
  simp only at hp3
  have hit : Item (s + 1 + v) (⟨key, seq, kind, text, n⟩ : S48) := ⟨hE.key, by show 1 ≤ seq; omega, by show seq ≤ _; omega, hE.kind, hE.bare, hE.del, hE.lo, hE.hi⟩
  have hne : ∀ y ∈ out, y.f1 ≠ (⟨key, seq, kind, text, n⟩ : S48).f1 := fun y hy => by
   have := (hi y hy).top
   show y.f1 ≠ seq
   omega
  refine EvP.split (fun _ => EvP.pos (by omega) ?_) (fun _ => ?_)
  ·
   refine (ih (out ++ [⟨key, seq, kind, text, n⟩]) (s + 1 + v) p3 (by omega) (by simp; omega) (by omega) (by omega) (by omega) (by omega) ?_ ?_).mono ?_
   ·
    refine List.pairwise_append.2 ⟨ha, List.pairwise_singleton _ _, fun x hx y hy => ?_⟩
    obtain rfl := List.mem_singleton.1 hy
    exact hne x hx
   ·
    intro x hx
    rcases List.mem_append.1 hx with hx | hx
    ·
     exact (hi x hx).mono (by omega)
    ·
     obtain rfl := List.mem_singleton.1 hx
     exact hit
   ·
    rintro r ⟨h1, h2, h3, h4, h5⟩
    exact ⟨h1, by simp at h2; omega, fun x hx => (h3 x hx).mono (by omega), by omega, by omega⟩
  ·
   simp only [Option.bind_some]
   refine EvP.pos (by simp; omega) ?_
   refine (ih ([⟨key, seq, kind, text, n⟩] ++ out) (s + 1 + v) p3 (by omega) (by simp; omega) (by omega) (by omega) (by omega) (by omega) ?_ ?_).mono ?_
   ·
    refine List.pairwise_cons.2 ⟨fun y hy => ?_, ha⟩
    exact (hne y hy).symm
   ·
    intro x hx
    rcases List.mem_cons.1 hx with rfl | hx
    ·
     exact hit
    ·
     exact (hi x hx).mono (by omega)
   ·
    rintro r ⟨h1, h2, h3, h4, h5⟩
    exact ⟨h1, by simp at h2; omega, fun x hx => (h3 x hx).mono (by omega), by omega, by omega⟩
theorem spec_l3List_ev (l : List Int) (hl : Bytes l) (p many : Int) (h0 : 0 ≤ p) (h1 : p ≤ 500000000000) (hm0 : 0 ≤ many) (hm1 : many ≤ 40) : EvP (fun k => spec_l3List.f k l p many) (fun r => Apart r.1 ∧ (r.1.length : Int) ≤ many ∧ (∀ x ∈ r.1, Item 1000 x) ∧ p ≤ r.2 ∧ r.2 ≤ p + 1000) := by
 unfold spec_l3List.f
 rw [w64 (x := many + 1) (by omega) (by omega)]
 refine EvP.bind (spec_l9Rd_pick_ev l hl p (many + 1) (by omega) (by omega)) ?_
 rintro ⟨d, p1⟩ ⟨hp1, hd0, hd1, _⟩
 simp only at hp1 hd0 hd1
 have hd := hd1 (by omega)
 have h := spec_l3List_l0 l hl d.toNat [] 0 p1 (by omega) (by simp; omega) (by omega) (by omega) (by omega) (by omega) List.Pairwise.nil (by simp)
 have ed : ((d.toNat : Nat) : Int) = d := by omega
 rw [ed] at h
 refine h.mono ?_
 rintro r ⟨h1, h2, h3, h4, h5⟩
 exact ⟨h1, by simp at h2; omega, fun x hx => (h3 x hx).mono (by omega), by omega, by omega⟩

theorem wpEnts_ev (xs ys : List S48) (hx : xs.length ≤ 1048576) : EvP (fun k => laws_wpEnts.f k xs ys) (· = decide (xs.map entKey = ys.map entKey)) := by
 have key : ∀ (r r' pre pre' : List S48), xs = pre ++ r → ys = pre' ++ r' → pre.length = pre'.length → r.length = r'.length → EvP (fun k => laws_wpEnts.l0 k xs ys (pre.length : Int)) (· = decide (r.map entKey = r'.map entKey)) := by
  intro r
  induction r with
  | nil =>
   intro r' pre pre' e e' hl hr
   obtain rfl : r' = [] := List.eq_nil_of_length_eq_zero (by simpa using hr.symm)
   exact EvP.step (f := fun _ => some true) (fun k => by rw [laws_wpEnts.l0, if_neg (by simp [e])]) (EvP.now (by simp))
  | cons x r ih =>
   intro r' pre pre' e e' hl hr
   cases r' with
   | nil => simp at hr
   | cons y r' =>
    have h1 : xs.length = pre.length + (r.length + 1) := by rw [e]; simp
    have h2 : ys.length = pre'.length + (r'.length + 1) := by rw [e']; simp
    have hrx : rd_T48 xs (pre.length : Int) = x := by rw [e]; exact rd_midE pre r x
    have hry : rd_T48 ys (pre.length : Int) = y := by rw [e', hl]; exact rd_midE pre' r' y
    have e2 : wrap64 ((pre.length : Int) + 1) = ((pre ++ [x]).length : Int) := by rw [w64 (by omega) (by omega)]; simp
    have step := ih r' (pre ++ [x]) (pre' ++ [y]) (by rw [e]; simp) (by rw [e']; simp) (by simp [hl]) (by simpa using hr)
    refine EvP.step (fun k => by rw [laws_wpEnts.l0]) (EvP.pos (by omega) (EvP.pos (by omega) (EvP.pos (by simp at hr; omega) ?_)))
    rw [hrx, hry, entNe, e2]
    by_cases c : entKey x = entKey y
    ·
     refine EvP.neg (by simp [c]) (step.mono ?_)
     rintro _ rfl
     simp [c]
    ·
     exact EvP.pos (by simp [c]) (EvP.now (by simp [c]))
 unfold laws_wpEnts.f
 refine EvP.split (fun h => ?_) (fun h => EvP.now ?_)
 ·
  exact key xs ys [] [] rfl rfl rfl (by omega)
 ·
  have : xs.map entKey ≠ ys.map entKey := fun he => h (by have := congrArg List.length he; simp at this; omega)
  simp [this]
theorem wpEnts_same (xs : List S48) (hx : xs.length ≤ 1048576) : EvP (fun k => laws_wpEnts.f k xs xs) (· = true) := (wpEnts_ev xs xs hx).mono (by rintro _ rfl; simp)

/-! ### Sorting what stands apart, in the order of entries -/
theorem insRev_perm (e : S48) (xs : List S48) : (insRev e xs).Perm (e :: xs) := by
 induction xs with
 | nil => exact List.Perm.refl _
 | cons y ys ih =>
  unfold insRev
  split
  ·
   exact (List.Perm.cons y ih).trans (List.Perm.swap e y ys)
  ·
   exact List.Perm.refl _
theorem insR_perm (e : S48) (xs : List S48) : (insR e xs).Perm (e :: xs) :=
 (List.reverse_perm _).trans ((insRev_perm e _).trans (List.Perm.cons e (List.reverse_perm xs)))
theorem isort_perm (xs : List S48) : (isort xs).Perm xs := by
 have key : ∀ r : List S48, (isort r.reverse).Perm r := by
  intro r
  induction r with
  | nil => exact List.Perm.refl _
  | cons x r ih =>
   rw [List.reverse_cons, isort_snoc]
   exact (insR_perm x _).trans (List.Perm.cons x ih)
 have h := key xs.reverse
 rw [List.reverse_reverse] at h
 exact h.trans (List.reverse_perm xs)
def Up (xs : List S48) : Prop := xs.Pairwise ltE
theorem ltE_ne {x y : S48} (h : x.f1 ≠ y.f1) (k : ¬ ltE x y) : ltE y x := by
 by_cases g : ltE y x
 ·
  exact g
 ·
  exact absurd (ltE_tot k g).2 h
theorem insRev_down (e : S48) (xs : List S48) (h : xs.Pairwise (fun x y => ltE y x)) (hd : ∀ y ∈ xs, e.f1 ≠ y.f1) : (insRev e xs).Pairwise (fun x y => ltE y x) := by
 induction xs with
 | nil => simp [insRev]
 | cons y ys ih =>
  rw [List.pairwise_cons] at h
  unfold insRev
  split
  ·
   rename_i hlt
   rw [List.pairwise_cons]
   refine ⟨fun z hz => ?_, ih h.2 (fun z hz => hd z (by simp [hz]))⟩
   rcases List.mem_cons.1 ((insRev_perm e ys).mem_iff.1 hz) with rfl | hz
   ·
    exact hlt
   ·
    exact h.1 z hz
  ·
   rename_i hge
   have hy : ltE y e := ltE_ne (hd y (by simp)) hge
   rw [List.pairwise_cons, List.pairwise_cons]
   refine ⟨fun z hz => ?_, h.1, h.2⟩
   rcases List.mem_cons.1 hz with rfl | hz
   ·
    exact hy
   ·
    exact ltE_tr (h.1 z hz) hy
theorem insR_up (e : S48) (xs : List S48) (h : Up xs) (hd : ∀ y ∈ xs, e.f1 ≠ y.f1) : Up (insR e xs) := by
 unfold Up insR
 rw [List.pairwise_reverse]
 exact insRev_down e _ (by rw [List.pairwise_reverse]; exact h) (fun y hy => hd y (List.mem_reverse.1 hy))
theorem Apart.perm {xs ys : List S48} (h : Apart xs) (hp : xs.Perm ys) : Apart ys := (hp.pairwise_iff (fun g => fun e => g e.symm)).1 h
theorem isort_up (xs : List S48) (h : Apart xs) : Up (isort xs) := by
 have key : ∀ r : List S48, Apart r → Up (isort r.reverse) := by
  intro r
  induction r with
  | nil => intro _; exact List.Pairwise.nil
  | cons x r ih =>
   intro h
   have h' := List.pairwise_cons.1 h
   rw [List.reverse_cons, isort_snoc]
   exact insR_up x _ (ih h'.2) (fun y hy => h'.1 y (List.mem_reverse.1 ((isort_perm r.reverse).mem_iff.1 hy)))
 have h2 := key xs.reverse (h.perm (List.reverse_perm xs).symm)
 rw [List.reverse_reverse] at h2
 exact h2
theorem Up.uniq {xs ys : List S48} (hx : Up xs) (hy : Up ys) (hp : xs.Perm ys) : xs = ys :=
 List.Perm.eq_of_pairwise (fun a b _ _ h1 h2 => absurd h2 (ltE_asym h1)) hx hy hp
theorem Up.sorted {xs ys : List S48} (hx : Up xs) (ha : Apart ys) (hp : xs.Perm ys) : xs = isort ys := hx.uniq (isort_up ys ha) (hp.trans (isort_perm ys).symm)
/-! ### The reference's merge -/
theorem l4Put_sort (e : S48) (seg : List S48) (hb : seg.length ≤ 1000) : ∀ (fr t : List S48), seg = fr.reverse ++ t → (∀ y ∈ t, ltE e y) → EvP (fun k => spec_l4Put.l0 k seg (fr.length : Int) e.f0 e.f1 e.f2 e.f3 e.f4) (· = insR e seg) := by
 have cut : ∀ (fr t : List S48), seg = fr.reverse ++ t → seg.take (fr.length : Int).toNat = fr.reverse ∧ seg.drop (fr.length : Int).toNat = t := fun fr t hs => by
  rw [hs, Int.toNat_natCast]
  exact ⟨List.take_left' (by simp), List.drop_left' (by simp)⟩
 intro fr
 induction fr with
 | nil =>
  intro t hs ht
  obtain ⟨c1, c2⟩ := cut [] t hs
  have hl : t.length = seg.length := by rw [hs]; simp
  refine EvP.step (fun k => by rw [spec_l4Put.l0]) (EvP.neg (by simp) ?_)
  simp only [Option.bind_some, c1, c2]
  refine EvP.pos (by simp) (EvP.pos (by simp) (EvP.pos (by simp; omega) (EvP.pos (by simp) (EvP.pos (by simp) (EvP.pos (by simp; omega) (EvP.now ?_))))))
  rw [hs, List.reverse_nil, insR_split e [] t ht, insR_nil]
  simp
 | cons y fr ih =>
  intro t hs ht
  obtain ⟨c1, c2⟩ := cut (y :: fr) t hs
  have hl : seg.length = fr.length + 1 + t.length := by rw [hs]; simp; omega
  have hx : seg = fr.reverse ++ y :: t := by rw [hs]; simp
  have e1 : wrap64 (((y :: fr).length : Int) - 1) = (fr.reverse.length : Int) := by rw [w64 (by simp only [List.length_cons]; omega) (by simp only [List.length_cons]; omega)]; simp
  have hr : rd_T48 seg (fr.reverse.length : Int) = y := by rw [hx]; exact rd_midE _ _ _
  refine EvP.step (fun k => by rw [spec_l4Put.l0]) (EvP.pos (by simp only [List.length_cons]; omega) ?_)
  rw [e1, hr, spec_EntryLess_eq]
  refine EvP.pos (by omega) (EvP.pos (by simp; omega) ?_)
  simp only [Option.bind_some]
  refine EvP.split (fun hlt => ?_) (fun hge => ?_)
  ·
   have step := ih (y :: t) hx (fun z hz => by
    rcases List.mem_cons.1 hz with rfl | hz
    ·
     exact hlt
    ·
     exact ht z hz)
   rw [List.length_reverse]
   exact step
  ·
   simp only [c1, c2]
   refine EvP.pos (by simp; omega) (EvP.pos (by simp; omega) (EvP.pos (by simp; omega) (EvP.pos (by simp; omega) (EvP.pos (by simp; omega) (EvP.pos (by simp; omega) (EvP.now ?_))))))
   rw [hs, List.reverse_cons, insR_split e _ t ht, insR_stop e _ y hge]
   simp
theorem l4Put_eq (e : S48) (xs : List S48) (hb : xs.length ≤ 1000) : EvP (fun k => spec_l4Put.f k xs e.f0 e.f1 e.f2 e.f3 e.f4) (· = insR e xs) := by
 unfold spec_l4Put.f
 have h := l4Put_sort e xs hb xs.reverse [] (by simp) (by simp)
 rw [List.length_reverse] at h
 exact h
theorem rd_L (ls pre rest : List (List S48)) (x : List S48) (h : ls = pre ++ x :: rest) : rd_L4 ls (pre.length : Int) = x := by rw [h]; simp [rd_L4]
theorem spec_Merge_l1 (ls : List (List S48)) (pl : List (List S48)) (x : List S48) (rl : List (List S48)) (hl : ls = pl ++ x :: rl) (hb : ls.length ≤ 1000) (hx : x.length ≤ 500) (Q : List S48 → Prop) (done : List S48) (hd : (done ++ x).length ≤ 900)
  (fin : EvP (fun k => spec_MergeAll.l0 k ls (isort (done ++ x)) (((pl.length + 1 : Nat)) : Int)) Q) :
  ∀ (rest pre : List S48), x = pre ++ rest → EvP (fun k => spec_MergeAll.l1 k ls (isort (done ++ pre)) (pl.length : Int) (pre.length : Int)) Q := by
 have hlen : pl.length < ls.length := by rw [hl]; simp
 have hrl := rd_L ls pl rl x hl
 intro rest
 induction rest with
 | nil =>
  intro pre e
  rw [List.append_nil] at e
  subst e
  refine EvP.step (fun k => by rw [spec_MergeAll.l1]) (EvP.pos (by omega) (EvP.pos (by omega) ?_))
  rw [hrl]
  have e1 : wrap64 ((pl.length : Int) + 1) = ((pl.length + 1 : Nat) : Int) := (w64 (by omega) (by omega)).trans (by omega)
  rw [e1]
  exact EvP.neg (by omega) fin
 | cons y rest ih =>
  intro pre e
  have hpl : x.length = pre.length + (rest.length + 1) := by rw [e]; simp
  have hr : rd_T48 x (pre.length : Int) = y := by rw [e]; exact rd_midE pre rest y
  refine EvP.step (fun k => by rw [spec_MergeAll.l1]) (EvP.pos (by omega) (EvP.pos (by omega) ?_))
  rw [hrl, hr]
  have e1 : wrap64 ((pre.length : Int) + 1) = ((pre ++ [y]).length : Int) := by rw [w64 (by omega) (by omega)]; simp
  rw [e1]
  refine EvP.pos (by omega) (EvP.pos (by omega) (EvP.bind (l4Put_eq y _ (by rw [isort_length]; simp at hd ⊢; omega)) ?_))
  rintro _ rfl
  have step := ih (pre ++ [y]) (by rw [e]; simp)
  rw [← List.append_assoc, isort_snoc] at step
  exact step
theorem spec_Merge_ev (ls : List (List S48)) (hb : ls.length ≤ 1000) (hf : ls.flatten.length ≤ 500) : EvP (fun k => spec_MergeAll.f k ls) (· = isort ls.flatten) := by
 unfold spec_MergeAll.f
 have key : ∀ rest pre : List (List S48), ls = pre ++ rest → EvP (fun k => spec_MergeAll.l0 k ls (isort pre.flatten) (pre.length : Int)) (· = isort ls.flatten) := by
  intro rest
  induction rest with
  | nil =>
   intro pre e
   rw [List.append_nil] at e
   subst e
   exact EvP.step (fun k => by rw [spec_MergeAll.l0]) (EvP.neg (by omega) (EvP.now rfl))
  | cons x rest ih =>
   intro pre e
   have hl : ls.length = pre.length + (rest.length + 1) := by rw [e]; simp
   have hfl : (pre.flatten ++ x).length ≤ ls.flatten.length := by rw [e]; simp
   have hxl : x.length ≤ (pre.flatten ++ x).length := by simp
   refine EvP.step (fun k => by rw [spec_MergeAll.l0]) (EvP.pos (by omega) ?_)
   have step := ih (pre ++ [x]) (by rw [e]; simp)
   have e2 : (pre ++ [x]).flatten = pre.flatten ++ x := by simp
   have e3 : (pre ++ [x]).length = pre.length + 1 := by simp
   rw [e2, e3] at step
   have := spec_Merge_l1 ls pre x rest e hb (by omega) _ pre.flatten (by omega) step x [] rfl
   rw [List.append_nil] at this
   exact this
 exact key ls [] rfl

/-! ### The implementation's merge -/
theorem cmp_two (x y : S48) (hne : x.f1 ≠ y.f1) : EvP (fun k => impl_entryOrder.f k x.f0 x.f1 x.f2 x.f3 x.f4 y.f0 y.f1 y.f2 y.f3 y.f4) (fun t => (t < 0 ↔ ltE x y) ∧ t ≠ 0) := by
 have h2 : EvP (fun k => impl_entryOrder.f k x.f0 x.f1 x.f2 x.f3 x.f4 y.f0 y.f1 y.f2 y.f3 y.f4) (fun t => t ≠ 0) := by
  unfold impl_entryOrder.f
  rw [Compare_string_eq, Compare_int_eq]
  simp only [Option.bind_some]
  refine EvP.bind (Or_ev _ _) ?_
  rintro _ rfl
  refine EvP.now ?_
  split
  ·
   unfold cmpI
   split
   ·
    decide
   ·
    split
    ·
     decide
    ·
     omega
  ·
   assumption
 exact (cmp_ev x y).and h2
theorem less_ev (hs : List S75) (i j : Nat) (x y : S75) (a b : S48) (ra rb : List S48) (hi : hs[i]? = some x) (hj : hs[j]? = some y) (hx : x.f0 = a :: ra) (hy : y.f0 = b :: rb) (hne : a.f1 ≠ b.f1) :
  EvP (fun k => impl_heads_Less.f k hs (i : Int) (j : Int)) (fun t => t = true ↔ ltE a b) := by
 have li : i < hs.length := (List.getElem?_eq_some_iff.1 hi).1
 have lj : j < hs.length := (List.getElem?_eq_some_iff.1 hj).1
 have ri : rd_T75 hs (i : Int) = x := by simp [rd_T75, List.getD_eq_getElem?_getD, hi]
 have rj : rd_T75 hs (j : Int) = y := by simp [rd_T75, List.getD_eq_getElem?_getD, hj]
 have r0 : ∀ (e : S48) (r : List S48), rd_T48 (e :: r) 0 = e := fun _ _ => rfl
 unfold impl_heads_Less.f
 rw [ri, rj, hx, hy, r0, r0]
 refine EvP.pos (by omega) (EvP.pos (by omega) (EvP.pos (by omega) (EvP.pos (by omega) (EvP.pos (by simp) (EvP.pos (by simp) (EvP.bind (cmp_two a b hne) ?_))))))
 rintro t ⟨h1, h2⟩
 exact EvP.neg h2 (EvP.now (by rw [decide_eq_true_eq]; exact h1))
/-- The first entry of a head. -/
def hd (x : S75) : S48 := x.f0.headD z48
def rem (hs : List S75) : List S48 := hs.flatMap (·.f0)
/-- The top head is the least. -/
def Top (hs : List S75) : Prop := ∀ x r, hs = x :: r → ∀ y ∈ r, ltE (hd x) (hd y)
theorem hd_of {x : S75} (h : x.f0 ≠ []) : ∃ a r, x.f0 = a :: r ∧ hd x = a := by
 cases e : x.f0 with
 | nil => exact absurd e h
 | cons a r => exact ⟨a, r, rfl, by simp [hd, e]⟩
theorem less_hd (hs : List S75) (i j : Nat) (x y : S75) (hi : hs[i]? = some x) (hj : hs[j]? = some y) (hx : x.f0 ≠ []) (hy : y.f0 ≠ []) (hne : (hd x).f1 ≠ (hd y).f1) :
  EvP (fun k => impl_heads_Less.f k hs (i : Int) (j : Int)) (fun t => t = true ↔ ltE (hd x) (hd y)) := by
 obtain ⟨a, ra, ea, ha⟩ := hd_of hx
 obtain ⟨b, rb, eb, hb⟩ := hd_of hy
 rw [ha, hb] at hne ⊢
 exact less_ev hs i j x y a b ra rb hi hj ea eb hne
def Hds (hs : List S75) : Prop := (∀ x ∈ hs, x.f0 ≠ []) ∧ hs.Pairwise (fun x y => (hd x).f1 ≠ (hd y).f1)
theorem down2_ev (x y : S75) (tl : List S75) (h : Hds [x, y]) : EvP (fun k => downF k (x :: y :: tl) 2) (fun zs => zs = x :: y :: tl ∧ ltE (hd x) (hd y) ∨ zs = y :: x :: tl ∧ ltE (hd y) (hd x)) := by
 have hne : (hd x).f1 ≠ (hd y).f1 := by have := h.2; simp at this; exact this
 unfold downF
 refine EvP.bind (less_hd (x :: y :: tl) 1 0 y x rfl rfl (h.1 y (by simp)) (h.1 x (by simp)) hne.symm) ?_
 intro b hb
 refine EvP.now ?_
 by_cases hlt : ltE (hd y) (hd x)
 ·
  rw [if_pos (hb.2 hlt)]
  exact .inr ⟨rfl, hlt⟩
 ·
  rw [if_neg (fun e => hlt (hb.1 e))]
  exact .inl ⟨rfl, ltE_ne hne.symm hlt⟩
theorem down3_ev (x y z : S75) (h : Hds [x, y, z]) : EvP (fun k => downF k [x, y, z] 3) (fun zs => zs.Perm [x, y, z] ∧ Top zs) := by
 have h1 : (hd x).f1 ≠ (hd y).f1 ∧ (hd x).f1 ≠ (hd z).f1 ∧ (hd y).f1 ≠ (hd z).f1 := by have := h.2; simp at this; exact ⟨this.1.1, this.1.2, this.2⟩
 obtain ⟨n1, n2, n3⟩ := h1
 have hx := h.1 x (by simp)
 have hy := h.1 y (by simp)
 have hz := h.1 z (by simp)
 have top : ∀ a b c : S75, ltE (hd a) (hd b) → ltE (hd a) (hd c) → Top [a, b, c] := by
  intro a b c g1 g2 p r e q hq
  injection e with e1 e2
  subst e1 e2
  simp only [List.mem_cons, List.not_mem_nil, or_false] at hq
  rcases hq with rfl | rfl
  ·
   exact g1
  ·
   exact g2
 unfold downF
 refine EvP.bind (less_hd [x, y, z] 2 1 z y rfl rfl hz hy n3.symm) ?_
 intro b hb
 refine EvP.split (fun e => ?_) (fun e => ?_)
 ·
  have hzy := hb.1 e
  refine EvP.bind (less_hd [x, y, z] 2 0 z x rfl rfl hz hx n2.symm) ?_
  intro c hc
  refine EvP.now ?_
  by_cases hlt : ltE (hd z) (hd x)
  ·
   rw [if_pos (hc.2 hlt)]
   exact ⟨(List.Perm.swap' y z .nil |> fun _ => show ([z, y, x] : List S75).Perm [x, y, z] from by simpa using List.reverse_perm [x, y, z]), top z y x hzy hlt⟩
  ·
   rw [if_neg (fun e => hlt (hc.1 e))]
   have hxz := ltE_ne n2.symm hlt
   exact ⟨List.Perm.refl _, top x y z (ltE_tr hxz hzy) hxz⟩
 ·
  have hyz := ltE_ne n3.symm (fun g => e (hb.2 g))
  refine EvP.bind (less_hd [x, y, z] 1 0 y x rfl rfl hy hx n1.symm) ?_
  intro c hc
  refine EvP.now ?_
  by_cases hlt : ltE (hd y) (hd x)
  ·
   rw [if_pos (hc.2 hlt)]
   exact ⟨List.Perm.swap x y [z], top y x z hlt hyz⟩
  ·
   rw [if_neg (fun e => hlt (hc.1 e))]
   have hxy := ltE_ne n1.symm hlt
   exact ⟨List.Perm.refl _, top x y z hxy (ltE_tr hxy hyz)⟩
theorem top1 (x : S75) : Top [x] := by
 intro p r e q hq
 injection e with _ e2
 rw [← e2] at hq
 simp at hq
theorem top2 {x y : S75} (h : ltE (hd x) (hd y)) : Top [x, y] := by
 intro p r e q hq
 injection e with e1 e2
 subst e1 e2
 rw [List.mem_singleton.1 hq]
 exact h
theorem down_ev (hs : List S75) (h : Hds hs) (h3 : hs.length ≤ 3) : EvP (fun k => downF k hs hs.length) (fun zs => zs.Perm hs ∧ Top zs) := by
 match hs, h, h3 with
 | [], _, _ => exact EvP.now ⟨List.Perm.refl _, fun x r e => by cases e⟩
 | [x], _, _ => exact EvP.now ⟨List.Perm.refl _, top1 x⟩
 | [x, y], h, _ =>
  refine (down2_ev x y [] h).mono ?_
  rintro zs (⟨rfl, g⟩ | ⟨rfl, g⟩)
  ·
   exact ⟨List.Perm.refl _, top2 g⟩
  ·
   exact ⟨List.Perm.swap x y [], top2 g⟩
 | [x, y, z], h, _ => exact down3_ev x y z h
 | _ :: _ :: _ :: _ :: _, _, h3 => simp only [List.length_cons] at h3; omega
theorem pop_ev (x : S75) (r : List S75) (h : Hds r) (h3 : r.length ≤ 2) : EvP (fun k => popF k (x :: r)) (fun zs => zs.Perm r ∧ Top zs) := by
 unfold popF
 match r, h, h3 with
 | [], _, _ => exact EvP.bind (P := (· = [x])) (EvP.now rfl) (by rintro _ rfl; exact EvP.now ⟨List.Perm.refl _, fun x r e => by cases e⟩)
 | [y], _, _ => exact EvP.bind (P := (· = [y, x])) (EvP.now rfl) (by rintro _ rfl; exact EvP.now ⟨List.Perm.refl _, top1 y⟩)
 | [y, z], h, _ =>
  have h' : Hds [z, y] := ⟨fun q hq => h.1 q (by simp at hq ⊢; exact hq.symm), by have := h.2; simp at this ⊢; exact fun e => this e.symm⟩
  refine EvP.bind (down2_ev z y [x] h') ?_
  rintro zs (⟨rfl, g⟩ | ⟨rfl, g⟩)
  ·
   exact EvP.now ⟨List.Perm.swap y z [], top2 g⟩
  ·
   exact EvP.now ⟨List.Perm.refl _, top2 g⟩
 | _ :: _ :: _ :: _, _, h3 => simp only [List.length_cons] at h3; omega
theorem rem_perm {xs ys : List S75} (h : xs.Perm ys) : (rem xs).Perm (rem ys) := List.Perm.flatMap_right _ h
/-- Heads in order, of entries that stand apart. -/
def Good (hs : List S75) : Prop := (∀ x ∈ hs, x.f0 ≠ [] ∧ Up x.f0) ∧ Apart (rem hs) ∧ hs.length ≤ 3
theorem Good.perm {xs ys : List S75} (h : Good xs) (hp : xs.Perm ys) : Good ys := ⟨fun x hx => h.1 x (hp.mem_iff.2 hx), h.2.1.perm (rem_perm hp), by rw [← hp.length_eq]; exact h.2.2⟩
theorem hd_mem {x : S75} (h : x.f0 ≠ []) : hd x ∈ x.f0 := by
 obtain ⟨a, r, e, ha⟩ := hd_of h
 rw [ha, e]
 simp
theorem apart_hds : ∀ {hs : List S75}, (∀ x ∈ hs, x.f0 ≠ []) → Apart (rem hs) → Hds hs := by
 intro hs
 induction hs with
 | nil => intro h _; exact ⟨h, List.Pairwise.nil⟩
 | cons x r ih =>
  intro h ha
  have ha' : Apart (x.f0 ++ rem r) := ha
  obtain ⟨_, a2, a3⟩ := List.pairwise_append.1 ha'
  have ih' := ih (fun y hy => h y (by simp [hy])) a2
  refine ⟨h, List.pairwise_cons.2 ⟨fun y hy => ?_, ih'.2⟩⟩
  exact a3 _ (hd_mem (h x (by simp))) _ (List.mem_flatMap.2 ⟨y, hy, hd_mem (h y (by simp [hy]))⟩)
theorem Good.hds {hs : List S75} (h : Good hs) : Hds hs := apart_hds (fun x hx => (h.1 x hx).1) h.2.1
/-- What the top gives comes ahead of all else. -/
theorem Good.first {x : S75} {r : List S75} {e : S48} {rest : List S48} (h : Good (x :: r)) (ht : Top (x :: r)) (hx : x.f0 = e :: rest) : ∀ u ∈ rest ++ rem r, ltE e u := by
 have hde : hd x = e := by simp [hd, hx]
 intro u hu
 rcases List.mem_append.1 hu with hu | hu
 ·
  have := (h.1 x (by simp)).2
  rw [hx] at this
  exact (List.pairwise_cons.1 this).1 u hu
 ·
  obtain ⟨y, hy, huy⟩ := List.mem_flatMap.1 hu
  have g1 := ht x r rfl y hy
  rw [hde] at g1
  obtain ⟨hy1, hy2⟩ := h.1 y (by simp [hy])
  obtain ⟨a, ra, ea, ha⟩ := hd_of hy1
  rw [ha] at g1
  rw [ea] at huy hy2
  rcases List.mem_cons.1 huy with rfl | huy
  ·
   exact g1
  ·
   exact ltE_tr g1 ((List.pairwise_cons.1 hy2).1 u huy)
theorem merge_ev : ∀ (T : Nat) (hs : List S75) (all : List S48), (rem hs).length = T → Good hs → Top hs → all.length + T < 1048576 → EvP (fun k => mergeF k hs all) (fun R => ∃ q, R = all ++ q ∧ q.Perm (rem hs) ∧ Up q) := by
 intro T
 induction T with
 | zero =>
  intro hs all hT hg _ _
  cases hs with
  | nil => exact EvP.step (fun k => by rw [mergeF]) (EvP.now ⟨[], by simp, List.Perm.refl _, List.Pairwise.nil⟩)
  | cons x r =>
   have := hd_mem (hg.1 x (by simp)).1
   have h0 : rem (x :: r) = [] := List.eq_nil_of_length_eq_zero hT
   have h1 : hd x ∈ rem (x :: r) := List.mem_flatMap.2 ⟨x, by simp, this⟩
   rw [h0] at h1
   simp at h1
 | succ T ih =>
  intro hs all hT hg ht hb
  cases hs with
  | nil => simp [rem] at hT
  | cons x r =>
   obtain ⟨e, rest, hx, _⟩ := hd_of (hg.1 x (by simp)).1
   have hrem : rem (x :: r) = e :: (rest ++ rem r) := by simp [rem, hx]
   have hfirst := hg.first ht hx
   have hA : Apart (rest ++ rem r) := by
    have := hg.2.1
    rw [hrem] at this
    exact (List.pairwise_cons.1 this).2
   have hTl : (rest ++ rem r).length = T := by rw [hrem] at hT; simpa using hT
   have hr3 : r.length ≤ 2 := by have := hg.2.2; simp at this; omega
   have fin : ∀ zs : List S75, Good zs → Top zs → (rem zs).Perm (rest ++ rem r) → EvP (fun k => mergeF k zs (all ++ [e])) (fun R => ∃ q, R = all ++ q ∧ q.Perm (rem (x :: r)) ∧ Up q) := by
    intro zs g1 g2 g3
    refine (ih zs (all ++ [e]) (by rw [g3.length_eq]; exact hTl) g1 g2 (by simp; omega)).mono ?_
    rintro R ⟨q, rfl, q1, q2⟩
    refine ⟨e :: q, by simp, by rw [hrem]; exact List.Perm.cons e (q1.trans g3), List.pairwise_cons.2 ⟨fun u hu => hfirst u ((q1.trans g3).mem_iff.1 hu), q2⟩⟩
   refine EvP.step (fun k => by rw [mergeF]) ?_
   simp only [hx]
   refine EvP.pos (by omega) (EvP.split (fun h0 => ?_) (fun h0 => ?_))
   ·
    obtain rfl : rest = [] := List.eq_nil_of_length_eq_zero h0
    have hgr : Good r := ⟨fun y hy => hg.1 y (by simp [hy]), by simpa using hA, by omega⟩
    refine EvP.bind (pop_ev _ r hgr.hds hr3) ?_
    rintro zs ⟨z1, z2⟩
    exact fin zs (hgr.perm z1.symm) z2 (by simpa using rem_perm z1)
   ·
    have hgr : Good (⟨rest, x.f1⟩ :: r) := by
     refine ⟨fun y hy => ?_, hA, by simp; omega⟩
     rcases List.mem_cons.1 hy with rfl | hy
     ·
      refine ⟨fun e => h0 (by rw [show rest = [] from e]; rfl), ?_⟩
      have := (hg.1 x (by simp)).2
      rw [hx] at this
      exact (List.pairwise_cons.1 this).2
     ·
      exact hg.1 y (by simp [hy])
    have hd := down_ev _ hgr.hds hgr.2.2
    refine EvP.bind hd ?_
    rintro zs ⟨z1, z2⟩
    exact fin zs (hgr.perm z1.symm) z2 (rem_perm z1)
theorem build_ev : ∀ (ls : List (List S48)) (p : Int) (hs : List S75), hs.length + ls.length ≤ 3 → (∀ l ∈ ls, l.length < 20) → Apart ls.flatten → EvP (fun k => buildF k ls p hs) (fun zs => ∃ ms, zs = hs ++ ms ∧ (rem ms).Perm ls.flatten ∧ (∀ x ∈ ms, x.f0 ≠ [] ∧ Up x.f0) ∧ ms.length ≤ ls.length) := by
 intro ls
 induction ls with
 | nil =>
  intro p hs _ _ _
  exact EvP.now ⟨[], by simp, List.Perm.refl _, by simp, by simp⟩
 | cons l ls ih =>
  intro p hs h3 hl ha
  have ha' : Apart (l ++ ls.flatten) := ha
  obtain ⟨a1, a2, _⟩ := List.pairwise_append.1 ha'
  have hl0 := hl l (by simp)
  unfold buildF
  refine EvP.split (fun h0 => ?_) (fun h0 => EvP.pos ⟨by simp at h3; omega, by omega⟩ ?_)
  ·
   obtain rfl : l = [] := List.eq_nil_of_length_eq_zero h0
   refine (ih (p + 1) hs (by simp at h3; omega) (fun y hy => hl y (by simp [hy])) a2).mono ?_
   rintro zs ⟨ms, e, m1, m2, m3⟩
   exact ⟨ms, e, by simpa using m1, m2, by simp; omega⟩
  ·
   refine EvP.bind (sortFew_ev l 0 hl0) ?_
   rintro _ rfl
   refine (ih (p + 1) (hs ++ [⟨isort l, p⟩]) (by simp at h3 ⊢; omega) (fun y hy => hl y (by simp [hy])) a2).mono ?_
   rintro zs ⟨ms, e, m1, m2, m3⟩
   refine ⟨⟨isort l, p⟩ :: ms, by rw [e]; simp, ?_, fun y hy => ?_, by simp; omega⟩
   ·
    show (isort l ++ rem ms).Perm (l ++ ls.flatten)
    exact List.Perm.append (isort_perm l) m1
   ·
    rcases List.mem_cons.1 hy with rfl | hy
    ·
     refine ⟨fun e => h0 ?_, isort_up l a1⟩
     have := congrArg List.length (show isort l = [] from e)
     rw [isort_length] at this
     simpa using this
    ·
     exact m2 y hy
/-- MergeAll, as it is written: all entries in order. -/
theorem impl_Merge_ev (ls : List (List S48)) (h3 : ls.length ≤ 3) (hn : ls.flatten.length < 20) (ha : Apart ls.flatten) : EvP (fun k => impl_MergeAll.f k ls) (· = isort ls.flatten) := by
 have hl : ∀ l ∈ ls, l.length < 20 := fun l hl => by
  have := (List.sublist_flatten_of_mem hl).length_le
  omega
 unfold impl_MergeAll.f
 refine EvP.pos (by omega) (EvP.bind (build_ev ls 0 [] (by simpa using h3) hl ha) ?_)
 rintro ms ⟨ms', e0, m1, m2, m3⟩
 obtain rfl : ms = ms' := e0
 refine EvP.split (fun h0 => EvP.now ?_) (fun h0 => ?_)
 ·
  obtain rfl : ms = [] := List.eq_nil_of_length_eq_zero h0
  have h1 : ls.flatten = [] := by
   have := m1.symm
   exact List.Perm.eq_nil (by simpa [rem] using this)
  rw [h1]
  rfl
 ·
  have hg : Good ms := ⟨m2, ha.perm m1.symm, by omega⟩
  refine EvP.bind (down_ev ms hg.hds hg.2.2) ?_
  rintro zs ⟨z1, z2⟩
  have hlen : (rem zs).length < 20 := by rw [((rem_perm z1).trans m1).length_eq]; exact hn
  refine (merge_ev _ zs [] rfl (hg.perm z1.symm) z2 (by simp; omega)).mono ?_
  rintro R ⟨q, e1, q1, q2⟩
  rw [List.nil_append] at e1
  subst e1
  exact Up.sorted q2 ha (q1.trans ((rem_perm z1).trans m1))

/-! ### Lists that are drawn -/
def partF (n i : Int) : Nat → List S48 → List S48
 | _, [] => []
 | j, x :: r => if Int.tmod (j : Int) n = i then x :: partF n i (j + 1) r else partF n i (j + 1) r
theorem partF_length (n i : Int) : ∀ (l : List S48) (j : Nat), (partF n i j l).length ≤ l.length := by
 intro l
 induction l with
 | nil => intro j; exact Nat.le_refl _
 | cons x r ih =>
  intro j
  have := ih (j + 1)
  unfold partF
  split
  ·
   simp only [List.length_cons]; omega
  ·
   simp only [List.length_cons]; omega
theorem part1 : ∀ (l : List S48) (j : Nat), partF 1 0 j l = l := by
 intro l
 induction l with
 | nil => intro j; rfl
 | cons x r ih => intro j; unfold partF; rw [if_pos (by rw [Int.tmod_eq_emod_of_nonneg (by omega)]; omega), ih]
theorem part2 : ∀ (l : List S48) (j : Nat), (partF 2 0 j l ++ partF 2 1 j l).Perm l := by
 intro l
 induction l with
 | nil => intro j; exact List.Perm.refl _
 | cons x r ih =>
  intro j
  have h := ih (j + 1)
  unfold partF
  rw [Int.tmod_eq_emod_of_nonneg (by omega)]
  by_cases h0 : (j : Int) % 2 = 0
  ·
   rw [if_pos h0, if_neg (by omega)]
   exact List.Perm.cons x h
  ·
   rw [if_neg h0, if_pos (by omega)]
   exact List.perm_middle.trans (List.Perm.cons x h)
theorem part3 : ∀ (l : List S48) (j : Nat), (partF 3 0 j l ++ (partF 3 1 j l ++ partF 3 2 j l)).Perm l := by
 intro l
 induction l with
 | nil => intro j; exact List.Perm.refl _
 | cons x r ih =>
  intro j
  have h := ih (j + 1)
  unfold partF
  rw [Int.tmod_eq_emod_of_nonneg (by omega)]
  by_cases h0 : (j : Int) % 3 = 0
  ·
   rw [if_pos h0, if_neg (by omega), if_neg (by omega)]
   exact List.Perm.cons x h
  ·
   by_cases h1 : (j : Int) % 3 = 1
   ·
    rw [if_neg h0, if_pos h1, if_neg (by omega)]
    exact List.perm_middle.trans (List.Perm.cons x h)
   ·
    rw [if_neg h0, if_neg h1, if_pos (by omega)]
    rw [← List.append_assoc] at h ⊢
    exact List.perm_middle.trans (List.Perm.cons x h)
theorem draw_l1 (all : List S48) (hb : all.length ≤ 1000) (n i : Int) (hn : n ≠ 0) (hi : 0 ≤ i) (hi' : i ≤ 10) (ps : List (List S48)) (hp : ps.length ≤ 10) (Q : List (List S48) → Prop)
  (fin : EvP (fun k => spec_DrawMergeAll.l0 k (ps ++ [partF n i 0 all]) all n (i + 1)) Q) :
  ∀ (rest pre acc : List S48), all = pre ++ rest → acc.length ≤ pre.length → acc ++ partF n i pre.length rest = partF n i 0 all → EvP (fun k => spec_DrawMergeAll.l1 k ps all n i acc (pre.length : Int)) Q := by
 intro rest
 induction rest with
 | nil =>
  intro pre acc e ha hq
  rw [partF, List.append_nil] at hq
  have e1 : wrap64 (i + 1) = i + 1 := w64 (by omega) (by omega)
  refine EvP.step (fun k => by rw [spec_DrawMergeAll.l1]) (EvP.neg (by rw [e]; simp) (EvP.pos (by omega) ?_))
  rw [e1, hq]
  exact fin
 | cons x rest ih =>
  intro pre acc e ha hq
  have hl : all.length = pre.length + (rest.length + 1) := by rw [e]; simp
  have hr : rd_T48 all (pre.length : Int) = x := by rw [e]; exact rd_midE pre rest x
  have e1 : wrap64 ((pre.length : Int) + 1) = ((pre ++ [x]).length : Int) := by rw [w64 (by omega) (by omega)]; simp
  have e2 : (pre ++ [x]).length = pre.length + 1 := by simp
  refine EvP.step (fun k => by rw [spec_DrawMergeAll.l1]) (EvP.pos (by omega) (EvP.neg hn ?_))
  rw [hr, e1]
  rw [partF] at hq
  refine EvP.split (fun hm => EvP.pos (by omega) (EvP.pos (by omega) ?_)) (fun hm => ?_)
  ·
   rw [if_pos hm] at hq
   exact ih (pre ++ [x]) (acc ++ [x]) (by rw [e]; simp) (by simp; omega) (by rw [e2, ← hq]; simp)
  ·
   rw [if_neg hm] at hq
   exact ih (pre ++ [x]) acc (by rw [e]; simp) (by simp; omega) (by rw [e2]; exact hq)
theorem draw_l0 (all : List S48) (hb : all.length ≤ 1000) (n : Int) (Q : List (List S48) → Prop) (i : Int) (ps : List (List S48)) (hi : 0 ≤ i) (hi' : i < n) (hn : n ≤ 10) (hp : ps.length ≤ 10)
  (fin : EvP (fun k => spec_DrawMergeAll.l0 k (ps ++ [partF n i 0 all]) all n (i + 1)) Q) : EvP (fun k => spec_DrawMergeAll.l0 k ps all n i) Q := by
 refine EvP.step (fun k => by rw [spec_DrawMergeAll.l0]) (EvP.pos hi' ?_)
 exact draw_l1 all hb n i (by omega) hi (by omega) ps hp Q fin all [] [] rfl (Nat.le_refl _) rfl
theorem draw_end (all : List S48) (n : Int) (ps : List (List S48)) : EvP (fun k => spec_DrawMergeAll.l0 k ps all n n) (· = ps) := EvP.step (fun k => by rw [spec_DrawMergeAll.l0]) (EvP.neg (by omega) (EvP.now rfl))
theorem spec_DrawMerge_ev (l0 : List Int) (h : ∀ x ∈ l0, (Lit.int .u8 x).wf = true) : EvP (fun k => spec_DrawMergeAll.f k l0) (fun ls => ls.length ≤ 3 ∧ ls.flatten.length ≤ 16 ∧ Apart ls.flatten) := by
 unfold spec_DrawMergeAll.f
 refine EvP.bind (spec_l9Open_ev l0 h) ?_
 rintro ⟨l, p⟩ ⟨hl, hp⟩
 simp only at hp hl
 refine EvP.bind (spec_l3List_ev l hl p 16 (by omega) (by omega) (by omega) (by omega)) ?_
 rintro ⟨all, p1⟩ ⟨h1, h2, _, h4, h5⟩
 simp only at h1 h2 h4 h5
 refine EvP.bind (spec_l9Rd_pick_ev l hl p1 4 (by omega) (by omega)) ?_
 rintro ⟨n, p2⟩ ⟨_, hn0, hn1, _⟩
 simp only at hn0 hn1
 have hn := hn1 (by omega)
 have fin : ∀ ls : List (List S48), ls.length ≤ 3 → ls.flatten.Perm all → ls.length ≤ 3 ∧ ls.flatten.length ≤ 16 ∧ Apart ls.flatten := fun ls a b => ⟨a, by rw [b.length_eq]; omega, h1.perm b.symm⟩
 have hb : all.length ≤ 1000 := by omega
 have hc : n = 0 ∨ n = 1 ∨ n = 2 ∨ n = 3 := by omega
 rcases hc with rfl | rfl | rfl | rfl
 ·
  refine (draw_end all 0 []).mono ?_
  rintro _ rfl
  exact ⟨by simp, by simp, List.Pairwise.nil⟩
 ·
  refine draw_l0 all hb 1 _ 0 [] (by omega) (by omega) (by omega) (by simp) ((draw_end all 1 _).mono ?_)
  rintro _ rfl
  exact fin _ (by simp) (by simp [part1])
 ·
  refine draw_l0 all hb 2 _ 0 [] (by omega) (by omega) (by omega) (by simp) (draw_l0 all hb 2 _ 1 _ (by omega) (by omega) (by omega) (by simp) ((draw_end all 2 _).mono ?_))
  rintro _ rfl
  exact fin _ (by simp) (by simpa using part2 all 0)
 ·
  refine draw_l0 all hb 3 _ 0 [] (by omega) (by omega) (by omega) (by simp) (draw_l0 all hb 3 _ 1 _ (by omega) (by omega) (by omega) (by simp) (draw_l0 all hb 3 _ 2 _ (by omega) (by omega) (by omega) (by simp) ((draw_end all 3 _).mono ?_)))
  rintro _ rfl
  exact fin _ (by simp) (by simpa using part3 all 0)

theorem entEq (x y : S48) : (((x.f0.toList) == (y.f0.toList)) && (((x.f1) == (y.f1)) && (((x.f2) == (y.f2)) && (((x.f3.toList) == (y.f3.toList)) && ((x.f4) == (y.f4)))))) = decide (entKey x = entKey y) := by
 unfold entKey
 by_cases c1 : x.f0.toList = y.f0.toList <;> by_cases c2 : x.f1 = y.f1 <;> by_cases c3 : x.f2 = y.f2 <;> by_cases c4 : x.f3.toList = y.f3.toList <;> by_cases c5 : x.f4 = y.f4 <;> simp [c1, c2, c3, c4, c5]
theorem merge_l2 (ls : List (List S48)) (all : List S48) (hall : all.length ≤ 1000) (hfl : ls.flatten.length ≤ 1000) (Q : Bool → Prop) (n : Int) (td : List (List S48)) (A B : List (List S48)) (x : List S48) (hA : ls = A ++ x :: B) (pre rest : List S48) (e : S48) (hx : x = pre ++ e :: rest)
  (fin : EvP (fun k => laws_FnMerge.l1 k ls all n td (A.length : Int) ((pre ++ [e]).length : Int)) Q) :
  ∀ (r p : List S48) (b : Bool), all = p ++ r → (b = true ∨ e ∈ r) → EvP (fun k => laws_FnMerge.l2 k ls all n td (A.length : Int) (pre.length : Int) b (p.length : Int)) Q := by
 have hlen : A.length < ls.length := by rw [hA]; simp
 have hxl : pre.length < x.length := by rw [hx]; simp
 have hxb : x.length ≤ ls.flatten.length := by rw [hA]; simp; omega
 have hrl := rd_L ls A B x hA
 have hre : rd_T48 x (pre.length : Int) = e := by rw [hx]; exact rd_midE pre rest e
 have e1 : wrap64 ((pre.length : Int) + 1) = ((pre ++ [e]).length : Int) := by rw [w64 (by omega) (by omega)]; simp
 intro r
 induction r with
 | nil =>
  intro p b ep hb
  have hb' : b = true := by simpa using hb
  refine EvP.step (fun k => by rw [laws_FnMerge.l2]) (EvP.neg (by rw [ep]; simp) (EvP.pos hb' ?_))
  rw [e1]
  exact fin
 | cons y r ih =>
  intro p b ep hb
  have hl : all.length = p.length + (r.length + 1) := by rw [ep]; simp
  have hry : rd_T48 all (p.length : Int) = y := by rw [ep]; exact rd_midE p r y
  have e2 : wrap64 ((p.length : Int) + 1) = ((p ++ [y]).length : Int) := by rw [w64 (by omega) (by omega)]; simp
  refine EvP.step (fun k => by rw [laws_FnMerge.l2]) (EvP.pos (by omega) ?_)
  rw [hrl, hre, hry, e2, entEq]
  refine EvP.split (fun _ => ih (p ++ [y]) true (by rw [ep]; simp) (.inl rfl)) (fun hbf => ?_)
  refine EvP.pos (by omega) (EvP.pos (by omega) (EvP.pos (by omega) (EvP.pos (by omega) (EvP.pos (by omega) (ih (p ++ [y]) _ (by rw [ep]; simp) ?_)))))
  rcases hb with hb | hb
  ·
   exact absurd hb hbf
  ·
   rcases List.mem_cons.1 hb with rfl | hb
   ·
    exact .inl (by simp)
   ·
    exact .inr hb
theorem merge_l1 (ls : List (List S48)) (all : List S48) (hall : all.length ≤ 1000) (hfl : ls.flatten.length ≤ 1000) (Q : Bool → Prop) (n : Int) (td : List (List S48)) (A B : List (List S48)) (x : List S48) (hA : ls = A ++ x :: B) (hm : ∀ e ∈ x, e ∈ all)
  (fin : EvP (fun k => laws_FnMerge.l0 k ls all n td (wrap64 ((A.length : Int) - 1))) Q) :
  ∀ (rest pre : List S48), x = pre ++ rest → EvP (fun k => laws_FnMerge.l1 k ls all n td (A.length : Int) (pre.length : Int)) Q := by
 have hlen : A.length < ls.length := by rw [hA]; simp
 have hrl := rd_L ls A B x hA
 intro rest
 induction rest with
 | nil =>
  intro pre ex
  refine EvP.step (fun k => by rw [laws_FnMerge.l1]) (EvP.pos (by omega) (EvP.pos (by omega) ?_))
  rw [hrl]
  exact EvP.neg (by rw [ex]; simp) fin
 | cons e rest ih =>
  intro pre ex
  have hl : x.length = pre.length + (rest.length + 1) := by rw [ex]; simp
  refine EvP.step (fun k => by rw [laws_FnMerge.l1]) (EvP.pos (by omega) (EvP.pos (by omega) ?_))
  rw [hrl]
  refine EvP.pos (by omega) ?_
  exact merge_l2 ls all hall hfl Q n td A B x hA pre rest e ex (ih (pre ++ [e]) (by rw [ex]; simp)) all [] false rfl (.inr (hm e (by rw [ex]; simp)))
theorem merge_l0 (ls : List (List S48)) (all : List S48) (hls : ls.length ≤ 3) (hall : all.length ≤ 1000) (hfl : ls.flatten.length ≤ 1000) (Q : Bool → Prop) (hm : ∀ l ∈ ls, ∀ e ∈ l, e ∈ all)
  (fin : EvP (fun k => laws_FnMerge.l3 k all (ls.flatten.length : Int) ls.reverse 1) Q) :
  ∀ (fr B : List (List S48)), ls = fr.reverse ++ B → EvP (fun k => laws_FnMerge.l0 k ls all (B.flatten.length : Int) B.reverse ((fr.length : Int) - 1)) Q := by
 intro fr
 induction fr with
 | nil =>
  intro B e
  rw [List.reverse_nil, List.nil_append] at e
  subst e
  exact EvP.step (fun k => by rw [laws_FnMerge.l0]) (EvP.neg (by simp) fin)
 | cons x fr ih =>
  intro B e
  have hA : ls = fr.reverse ++ x :: B := by rw [e]; simp
  have hl : ls.length = fr.length + (B.length + 1) := by rw [hA]; simp
  have hxb : x.length + B.flatten.length ≤ ls.flatten.length := by rw [hA]; simp
  have e0 : ((x :: fr).length : Int) - 1 = (fr.reverse.length : Int) := by simp
  have hrl := rd_L ls fr.reverse B x hA
  have hfr : fr.reverse.length = fr.length := List.length_reverse
  rw [e0]
  refine EvP.step (fun k => by rw [laws_FnMerge.l0]) (EvP.pos (by omega) (EvP.pos (by omega) (EvP.pos (by omega) (EvP.pos (by rw [List.length_reverse]; omega) ?_))))
  rw [hrl]
  have e1 : wrap64 ((B.flatten.length : Int) + (x.length : Int)) = ((x :: B).flatten.length : Int) := by rw [w64 (by omega) (by omega)]; simp; omega
  have e2 : B.reverse ++ [x] = (x :: B).reverse := by simp
  rw [e1, e2]
  have step := ih (x :: B) hA
  have e3 : wrap64 ((fr.reverse.length : Int) - 1) = (fr.length : Int) - 1 := by rw [w64 (by omega) (by omega), hfr]
  rw [← e3] at step
  exact merge_l1 ls all hall hfl Q _ _ fr.reverse B x hA (hm x (by rw [hA]; simp)) step x [] rfl
theorem merge_l3 (all : List S48) (hall : all.length ≤ 1000) (Q : Bool → Prop) (n : Int) (td : List (List S48)) (hU : Up all)
  (fin : EvP (fun k => laws_FnMerge.l3 k all n td (((all.length - 1 + 1 : Nat)) : Int)) Q) :
  ∀ (rest pre : List S48) (y : S48), all = pre ++ y :: rest → EvP (fun k => laws_FnMerge.l3 k all n td ((pre.length + 1 : Nat) : Int)) Q := by
 intro rest
 induction rest with
 | nil =>
  intro pre y e
  have hl : all.length = pre.length + 1 := by rw [e]; simp
  rw [hl] at fin
  exact fin
 | cons z rest ih =>
  intro pre y e
  have hl : all.length = pre.length + (rest.length + 2) := by rw [e]; simp
  have e1 : wrap64 (((pre.length + 1 : Nat) : Int) - 1) = (pre.length : Int) := by rw [w64 (by omega) (by omega)]; omega
  have hy : rd_T48 all (pre.length : Int) = y := by rw [e]; exact rd_midE pre _ y
  have hz : rd_T48 all ((pre.length + 1 : Nat) : Int) = z := by
   have := rd_midE (pre ++ [y]) rest z
   rw [List.length_append, List.length_singleton, List.append_assoc] at this
   rw [e]
   exact this
  have e2 : wrap64 (((pre.length + 1 : Nat) : Int) + 1) = (((pre ++ [y]).length + 1 : Nat) : Int) := by rw [w64 (by omega) (by omega)]; simp
  have hlt : lessB y.f0 y.f1 z.f0 z.f1 = true := by
   have h1 := hU
   rw [e] at h1
   exact (List.pairwise_cons.1 (List.pairwise_append.1 h1).2.1).1 z (by simp)
  refine EvP.step (fun k => by rw [laws_FnMerge.l3]) (EvP.pos (by omega) ?_)
  rw [e1, hy, hz, e2, impl_EntryLess_eq]
  simp only [Option.bind_some]
  exact EvP.pos (by omega) (EvP.pos (by omega) (EvP.pos (by omega) (EvP.pos hlt (ih (pre ++ [y]) z (by rw [e]; simp)))))
theorem FnMerge (l0 : List Int) (g0 : l0.length ≤ maxLen ∧ ∀ x ∈ l0, (Lit.int .u8 x).wf = true) : ∃ k, laws_FnMerge.f k l0 = some true := by
 refine EvP.done ?_
 unfold laws_FnMerge.f
 refine EvP.split (fun _ => EvP.now rfl) (fun _ => ?_)
 refine EvP.bind (spec_DrawMerge_ev l0 g0.2) ?_
 rintro ls ⟨h3, h16, hA⟩
 refine EvP.bind (impl_Merge_ev ls h3 (by omega) hA) ?_
 intro all hall
 refine EvP.bind (spec_Merge_ev ls (by omega) (by omega)) ?_
 rintro _ rfl
 rw [← hall]
 have hlen : all.length = ls.flatten.length := by rw [hall, isort_length]
 have hU : Up all := by rw [hall]; exact isort_up _ hA
 have hP : all.Perm ls.flatten := by rw [hall]; exact isort_perm _
 have hAA : Apart all := hA.perm hP.symm
 refine EvP.bind (wpEnts_same all (by omega)) ?_
 rintro _ rfl
 refine EvP.pos rfl ?_
 have e1 : wrap64 ((ls.length : Int) - 1) = (ls.reverse.length : Int) - 1 := by rw [w64 (by omega) (by omega)]; simp
 rw [e1]
 have hR : ls.reverse.flatten.Perm ls.flatten := List.Perm.flatten (List.reverse_perm ls)
 have fin : ∀ i : Int, ¬ i < (all.length : Int) → EvP (fun k => laws_FnMerge.l3 k all (ls.flatten.length : Int) ls.reverse i) (· = true) := by
  intro i hi
  refine EvP.step (fun k => by rw [laws_FnMerge.l3]) (EvP.neg hi (EvP.pos (by omega) ?_))
  refine EvP.bind (impl_Merge_ev ls.reverse (by simpa using h3) (by rw [hR.length_eq]; omega) (hA.perm hR.symm)) ?_
  rintro _ rfl
  have e2 : isort ls.reverse.flatten = all := by
   rw [hall]
   exact (isort_up _ (hA.perm hR.symm)).uniq (isort_up _ hA) ((isort_perm _).trans (hR.trans (isort_perm _).symm))
  rw [e2]
  refine EvP.bind (wpEnts_same all (by omega)) ?_
  rintro _ rfl
  refine EvP.pos rfl ?_
  have hf : ([all] : List (List S48)).flatten = all := by simp
  refine EvP.bind (impl_Merge_ev [all] (by simp) (by rw [hf]; omega) (by rw [hf]; exact hAA)) ?_
  rintro _ rfl
  have e3 : isort ([all] : List (List S48)).flatten = all := by
   rw [hf]
   exact (isort_up _ hAA).uniq hU (isort_perm _)
  rw [e3]
  refine EvP.bind (wpEnts_same all (by omega)) ?_
  rintro _ rfl
  exact EvP.now rfl
 have hm : ∀ l ∈ ls, ∀ e ∈ l, e ∈ all := fun l hl e he => hP.mem_iff.2 (List.mem_flatten.2 ⟨l, hl, he⟩)
 have l3 : EvP (fun k => laws_FnMerge.l3 k all (ls.flatten.length : Int) ls.reverse 1) (· = true) := by
  cases e : all with
  | nil => rw [← e]; exact fin 1 (by rw [e]; simp)
  | cons y r =>
   rw [← e]
   exact merge_l3 all (by omega) _ _ _ hU (fin _ (by have h9 : all.length = r.length + 1 := (by rw [e]; rfl); omega)) r [] y e
 exact merge_l0 ls all h3 (by omega) (by omega) _ hm l3 ls.reverse [] (by simp)


end Go.Proofs.Ytcfebbhiehaocaa.Pure
