/- What the law FnExactBookSides reaches, function by function: what each computes, and that the machine's call comes to it. Laid by a program. -/
import Derived.Test.YteijmkjfgieciaaQFnExactBookSidesx0
import Derived.Test.YteijmkjfgieciaaQFnExactBookSidesx7
import Derived.Test.YteijmkjfgieciaaQFnExactBookSidesx8
import Derived.Test.YteijmkjfgieciaaQFnExactBookSidesx9
import Derived.Test.YteijmkjfgieciaaQFnExactBookSidesx10
namespace Go.Proofs.Yteijmkjfgieciaa.QFnExactBookSides
open Go.RowKit Go.Proofs.YteijmkjfgieciaaW.PrintWords Go.Proofs.YteijmkjfgieciaaW.PrintLast Go.Proofs.YteijmkjfgieciaaW.PrintMore
attribute [local go_sem] max2_int min2_int max_two min_two max_three min_three max_four min_four   -- for this text's walks alone
set_option linter.unusedVariables false
set_option linter.unusedSimpArgs false

/-! ### slices_BinarySearch_string_string: function 51 -/
def slices_BinarySearch_string_string.l0 : Nat → List ByteArray → ByteArray → Int → Int → Int → Option (Int × Bool)
  | 0, _, _, _, _, _ => none
  | k + 1, x0, x1, x6, x7, x8 => if x7 < x8 then (if 0 ≤ (wrap64 ((IntKind.u64.wrap (wrap64 (x7 + x8))) / 2)) then (if (wrap64 ((IntKind.u64.wrap (wrap64 (x7 + x8))) / 2)) < (x0.length : Int) then ((cmp_Less_string.f (rdOf ByteArray.empty x0 (wrap64 ((IntKind.u64.wrap (wrap64 (x7 + x8))) / 2))) x1).bind fun t239 => (if t239 = true then (slices_BinarySearch_string_string.l0 k x0 x1 x6 (wrap64 ((wrap64 ((IntKind.u64.wrap (wrap64 (x7 + x8))) / 2)) + 1)) x8) else (slices_BinarySearch_string_string.l0 k x0 x1 x6 x7 (wrap64 ((IntKind.u64.wrap (wrap64 (x7 + x8))) / 2))))) else (none)) else (none)) else (if x7 < x6 then (if 0 ≤ x7 then (if x7 < (x0.length : Int) then (if (rdOf ByteArray.empty x0 x7).toList = x1.toList then (some (x7, true)) else ((slices_isNaN_string.f (rdOf ByteArray.empty x0 x7)).bind fun t242 => (if t242 = true then ((slices_isNaN_string.f x1).bind fun t243 => (some (x7, t243))) else (some (x7, false))))) else (none)) else (none)) else (some (x7, false)))
def slices_BinarySearch_string_string.f (k : Nat) (l0 : List ByteArray) (a1 : ByteArray) : Option (Int × Bool) := slices_BinarySearch_string_string.l0 k l0 a1 (l0.length : Int) 0 (l0.length : Int)
theorem slices_BinarySearch_string_string.mono_l : ∀ k, (∀ y0 y1 y2 y3 y4, LeO (slices_BinarySearch_string_string.l0 k y0 y1 y2 y3 y4) (slices_BinarySearch_string_string.l0 (k + 1) y0 y1 y2 y3 y4))
  | 0 => fun _ _ _ _ _ r h => by simp [slices_BinarySearch_string_string.l0] at h
  | k + 1 => by
    have ih0 := slices_BinarySearch_string_string.mono_l k
    · intro y0 y1 y2 y3 y4
      unfold slices_BinarySearch_string_string.l0
      repeat' first
      | (with_reducible exact ih0 _ _ _ _ _)
      | (with_reducible exact LeO.refl _)
      | (with_reducible exact LeO.none _)
      | (with_reducible refine LeO.ite ?_ ?_)
      | (with_reducible refine LeO.bind ?_ (fun _ => ?_))
      | exact ih0 _ _ _ _ _
      | exact LeO.none _
      | refine LeO.ite ?_ ?_
      | refine LeO.bind ?_ (fun _ => ?_)
theorem slices_BinarySearch_string_string.mono : ∀ a0 a1 k, LeO (slices_BinarySearch_string_string.f k a0 a1) (slices_BinarySearch_string_string.f (k + 1) a0 a1) := by
  intro a0 a1 k
  have ih0 := slices_BinarySearch_string_string.mono_l k
  unfold slices_BinarySearch_string_string.f
  repeat' first
      | (with_reducible exact ih0 _ _ _ _ _)
      | (with_reducible exact LeO.refl _)
      | (with_reducible exact LeO.none _)
      | (with_reducible refine LeO.ite ?_ ?_)
      | (with_reducible refine LeO.bind ?_ (fun _ => ?_))
      | exact ih0 _ _ _ _ _
      | exact LeO.none _
      | refine LeO.ite ?_ ?_
      | refine LeO.bind ?_ (fun _ => ?_)
set_option maxHeartbeats 8000000 in
set_option maxRecDepth 100000 in
theorem slices_BinarySearch_string_string.calls (k : Nat) (A0 : Option Addr) (c0 : Nat) (l0 : List ByteArray) (a1 : ByteArray) (r1 : Int) (r2 : Bool) (w : World) (hr0 : Kd.C Kd.string w A0 l0.length l0) (hc0 : l0.length ≤ c0) (h : slices_BinarySearch_string_string.f k l0 a1 = some (r1, r2)) :
    Calls Try.prog 51 #[.slice A0 l0.length c0, .string a1] w fun e w' => e = .returned (.tuple #[.int .i64 r1, .bool r2]) ∧ Drawn0 w w' := by
  have HR0 := Aside0.mk hr0
  have HC0 := Aside0.mk hc0
  clear hr0 hc0
  have H : (slices_BinarySearch_string_string.l0 k l0 a1 (l0.length : Int) 0 (l0.length : Int)) = some (r1, r2) := h
  clear h
  have H' := Aside0.mk H
  clear H
  go_enter Try.func51, Try.ntmps51
  go_wp2
  go_loopg [7, 8] k (fun kq v7 v8 w' => ∃ (x7_1 : Int) (x8_1 : Int), v7 = .int .i64 x7_1 ∧ v8 = .int .i64 x8_1 ∧ Aside0 (slices_BinarySearch_string_string.l0 kq l0 a1 (l0.length : Int) x7_1 x8_1 = some (r1, r2)) ∧ Aside0 (kq ≤ k) ∧ Drawn0 w w')
  case atStart => exact ⟨(0), ((l0.length : Int)), (by first | rfl | (simp; done) | (simp [*]; done)), (by first | rfl | (simp; done) | (simp [*]; done)), H', ⟨Nat.le_refl _⟩, by repeat (first | exact Drawn0.refl _ | apply Drawn0.step)⟩
  case round =>
    clear H'
    try clear p2
    obtain ⟨x7_1, x8_1, rfl, rfl, HA, HK1, ⟨m1, rfl⟩⟩ := hrel
    cases gk with
    | zero => exact absurd HA.out (by simp [slices_BinarySearch_string_string.l0])
    | succ k1 =>
      have H := HA.out
      clear HA
      simp only [slices_BinarySearch_string_string.l0] at H
      by_cases c3 : x7_1 < x8_1
      · rw [if_pos c3] at H
        have c3b0 : decide (x7_1 < x8_1) = true := decide_eq_true c3
        clear c3
        obtain ⟨ji4, hji4⟩ : ∃ j_ : Int, (wrap64 ((IntKind.u64.wrap (wrap64 (x7_1 + x8_1))) / 2)) = j_ := ⟨_, rfl⟩
        replace H : (if 0 ≤ (ji4) then (if (ji4) < (l0.length : Int) then ((cmp_Less_string.f (rdOf ByteArray.empty l0 (ji4)) a1).bind fun t239 => (if t239 = true then (slices_BinarySearch_string_string.l0 k1 l0 a1 (l0.length : Int) (wrap64 ((ji4) + 1)) x8_1) else (slices_BinarySearch_string_string.l0 k1 l0 a1 (l0.length : Int) x7_1 ji4))) else (none)) else (none)) = some (r1, r2) := by first | (rw [hji4] at H; exact H) | (simp only [hji4] at H ⊢; exact H)
        have hji4w : (IntKind.i64.wrap ((IntKind.u64.wrap (wrap64 (x7_1 + x8_1))) / 2)) = ji4 := (i64_w _).trans hji4
        by_cases c5 : 0 ≤ (ji4)
        · rw [if_pos c5] at H
          have c5b0 : decide (0 ≤ (ji4)) = true := decide_eq_true c5
          clear c5
          by_cases c6 : (ji4) < (l0.length : Int)
          · rw [if_pos c6] at H
            have c6b0 : decide ((ji4) < (l0.length : Int)) = true := decide_eq_true c6
            clear c6
            replace H := Option.bind_eq_some_iff.mp H
            obtain ⟨t239, A70, H⟩ := H
            replace H : (if t239 = true then (slices_BinarySearch_string_string.l0 k1 l0 a1 (l0.length : Int) (wrap64 ((ji4) + 1)) x8_1) else (slices_BinarySearch_string_string.l0 k1 l0 a1 (l0.length : Int) x7_1 ji4)) = some (r1, r2) := H
            have A7 := Aside0.mk A70
            clear A70
            by_cases c8 : t239 = true
            · subst c8
              have H1 : (slices_BinarySearch_string_string.l0 k1 l0 a1 (l0.length : Int) (wrap64 ((ji4) + 1)) x8_1) = some (r1, r2) := by rw [if_pos rfl] at H; exact H
              clear H
              have H := H1
              clear H1
              have H' := Aside0.mk H
              clear H
              have p238 : 0 ≤ ((ji4) : Int) := of_decide_eq_true (by first | (with_reducible assumption) | assumption)
              have q238 : (ji4) < (l0.length : Int) := of_decide_eq_true (by first | (with_reducible assumption) | assumption)
              obtain ⟨ad238, e238, hx238_0⟩ := Kd.at_string HR0.out (ji4) p238 q238
              cases e238
              replace p238 := eq_true p238
              replace q238 := eq_true q238
              go_wp2_with (first | ((with_reducible refine gate_callee (f := 71) rfl ?_); refine goesL_ (some 27) rfl rfl Try.func71 (by kernel_rfl) rfl #[.string (rdOf ByteArray.empty l0 (ji4)), .string a1] rfl (by (try simp only [List.map_toArray, List.map_cons, List.map_nil]); first | done | (simp only [hji4]; rfl) | rfl | (simp only [List.length_drop, List.length_take]; rfl)) ?_; (with_reducible refine (cmp_Less_string.calls (rdOf ByteArray.empty l0 (ji4)) a1 true _ A7.out).mono ?_); rintro e w' ⟨rfl, ⟨nd, rfl⟩⟩; refine ⟨_, rfl, ?_⟩))
              go_roundg k1
              case measure => have := HK1.out; omega
              case rel => exact ⟨(wrap64 ((ji4) + 1)), (x8_1), (by first | rfl | (simp; done) | (simp only [← hji4] <;> (first | rfl | simp)) | (simp [*]; done)), (by first | rfl | (simp; done) | (simp [*]; done)), H', ⟨by have := HK1.out; omega⟩, by repeat (first | exact Drawn0.refl _ | apply Drawn0.step)⟩
            · replace c8 := Bool.eq_false_iff.mpr c8
              subst c8
              have H1 : (slices_BinarySearch_string_string.l0 k1 l0 a1 (l0.length : Int) x7_1 ji4) = some (r1, r2) := by rw [if_neg (show ¬ (false = true) by decide)] at H; exact H
              clear H
              have H := H1
              clear H1
              have H' := Aside0.mk H
              clear H
              have p238 : 0 ≤ ((ji4) : Int) := of_decide_eq_true (by first | (with_reducible assumption) | assumption)
              have q238 : (ji4) < (l0.length : Int) := of_decide_eq_true (by first | (with_reducible assumption) | assumption)
              obtain ⟨ad238, e238, hx238_0⟩ := Kd.at_string HR0.out (ji4) p238 q238
              cases e238
              replace p238 := eq_true p238
              replace q238 := eq_true q238
              go_wp2_with (first | ((with_reducible refine gate_callee (f := 71) rfl ?_); refine goesL_ (some 27) rfl rfl Try.func71 (by kernel_rfl) rfl #[.string (rdOf ByteArray.empty l0 (ji4)), .string a1] rfl (by (try simp only [List.map_toArray, List.map_cons, List.map_nil]); first | done | (simp only [hji4]; rfl) | rfl | (simp only [List.length_drop, List.length_take]; rfl)) ?_; (with_reducible refine (cmp_Less_string.calls (rdOf ByteArray.empty l0 (ji4)) a1 false _ A7.out).mono ?_); rintro e w' ⟨rfl, ⟨nd, rfl⟩⟩; refine ⟨_, rfl, ?_⟩))
              go_roundg k1
              case measure => have := HK1.out; omega
              case rel => exact ⟨(x7_1), (ji4), (by first | rfl | (simp; done) | (simp [*]; done)), (by first | rfl | (simp; done) | (simp only [← hji4] <;> (first | rfl | simp)) | (simp [*]; done)), H', ⟨by have := HK1.out; omega⟩, by repeat (first | exact Drawn0.refl _ | apply Drawn0.step)⟩
          · rw [if_neg c6] at H
            exact absurd H (by simp)
        · rw [if_neg c5] at H
          exact absurd H (by simp)
      · rw [if_neg c3] at H
        have c3b0 : decide (x7_1 < x8_1) = false := decide_eq_false c3
        clear c3
        by_cases c9 : x7_1 < (l0.length : Int)
        · rw [if_pos c9] at H
          have c9b0 : decide (x7_1 < (l0.length : Int)) = true := decide_eq_true c9
          clear c9
          by_cases c10 : 0 ≤ x7_1
          · rw [if_pos c10] at H
            have c10b0 : decide (0 ≤ x7_1) = true := decide_eq_true c10
            clear c10
            by_cases c11 : x7_1 < (l0.length : Int)
            · rw [if_pos c11] at H
              have c11b0 : decide (x7_1 < (l0.length : Int)) = true := decide_eq_true c11
              clear c11
              by_cases c12 : (rdOf ByteArray.empty l0 x7_1).toList = a1.toList
              · rw [if_pos c12] at H
                have c12b0 : ((rdOf ByteArray.empty l0 x7_1).toList == a1.toList) = true := beq_iff_eq.mpr c12
                have c12b1 : ((rdOf ByteArray.empty l0 x7_1).toList != a1.toList) = false := bne_eq_false_iff_eq.mpr c12
                clear c12
                simp only [Option.some.injEq, Prod.mk.injEq] at H
                obtain ⟨rfl, rfl⟩ := H
                have p240 : 0 ≤ (x7_1 : Int) := of_decide_eq_true (by first | (with_reducible assumption) | assumption)
                have q240 : x7_1 < (l0.length : Int) := of_decide_eq_true (by first | (with_reducible assumption) | assumption)
                obtain ⟨ad240, e240, hx240_0⟩ := Kd.at_string HR0.out x7_1 p240 q240
                cases e240
                replace p240 := eq_true p240
                replace q240 := eq_true q240
                go_wp2
                go_ret2
                exact ⟨by first | rfl | (simp; done) | (simp [*]; done), by repeat (first | exact Drawn0.refl _ | apply Drawn0.step)⟩
              · rw [if_neg c12] at H
                have c12b0 : ((rdOf ByteArray.empty l0 x7_1).toList == a1.toList) = false := beq_eq_false_iff_ne.mpr c12
                have c12b1 : ((rdOf ByteArray.empty l0 x7_1).toList != a1.toList) = true := bne_iff_ne.mpr c12
                replace H := Option.bind_eq_some_iff.mp H
                obtain ⟨t242, A130, H⟩ := H
                replace H : (if t242 = true then ((slices_isNaN_string.f a1).bind fun t243 => (some (x7_1, t243))) else (some (x7_1, false))) = some (r1, r2) := H
                have A13 := Aside0.mk A130
                clear A130
                by_cases c14 : t242 = true
                · subst c14
                  have H1 : ((slices_isNaN_string.f a1).bind fun t243 => (some (x7_1, t243))) = some (r1, r2) := by rw [if_pos rfl] at H; exact H
                  clear H
                  have H := H1
                  clear H1
                  replace H := Option.bind_eq_some_iff.mp H
                  obtain ⟨t243, A150, H⟩ := H
                  replace H : (some (x7_1, t243)) = some (r1, r2) := H
                  have A15 := Aside0.mk A150
                  clear A150
                  simp only [Option.some.injEq, Prod.mk.injEq] at H
                  obtain ⟨rfl, rfl⟩ := H
                  have p240 : 0 ≤ (x7_1 : Int) := of_decide_eq_true (by first | (with_reducible assumption) | assumption)
                  have q240 : x7_1 < (l0.length : Int) := of_decide_eq_true (by first | (with_reducible assumption) | assumption)
                  obtain ⟨ad240, e240, hx240_0⟩ := Kd.at_string HR0.out x7_1 p240 q240
                  cases e240
                  replace p240 := eq_true p240
                  replace q240 := eq_true q240
                  have p241 : 0 ≤ (x7_1 : Int) := of_decide_eq_true (by first | (with_reducible assumption) | assumption)
                  have q241 : x7_1 < (l0.length : Int) := of_decide_eq_true (by first | (with_reducible assumption) | assumption)
                  obtain ⟨ad241, e241, hx241_0⟩ := Kd.at_string HR0.out x7_1 p241 q241
                  obtain rfl : ad240 = ad241 := (by injection e241)
                  replace p241 := eq_true p241
                  replace q241 := eq_true q241
                  go_wp2_with (first | (go_at_call 72; (with_reducible refine (slices_isNaN_string.calls (rdOf ByteArray.empty l0 x7_1) true _ A13.out).mono ?_); rintro e w' ⟨rfl, ⟨nd, rfl⟩⟩) | (go_at_call 72; (with_reducible refine (slices_isNaN_string.calls a1 t243 _ A15.out).mono ?_); rintro e w' ⟨rfl, ⟨nd, rfl⟩⟩))
                  go_ret2
                  exact ⟨by first | rfl | (simp; done) | (simp [*]; done), by repeat (first | exact Drawn0.refl _ | apply Drawn0.step)⟩
                · replace c14 := Bool.eq_false_iff.mpr c14
                  subst c14
                  have H1 : (some (x7_1, false)) = some (r1, r2) := by rw [if_neg (show ¬ (false = true) by decide)] at H; exact H
                  clear H
                  have H := H1
                  clear H1
                  simp only [Option.some.injEq, Prod.mk.injEq] at H
                  obtain ⟨rfl, rfl⟩ := H
                  have p240 : 0 ≤ (x7_1 : Int) := of_decide_eq_true (by first | (with_reducible assumption) | assumption)
                  have q240 : x7_1 < (l0.length : Int) := of_decide_eq_true (by first | (with_reducible assumption) | assumption)
                  obtain ⟨ad240, e240, hx240_0⟩ := Kd.at_string HR0.out x7_1 p240 q240
                  cases e240
                  replace p240 := eq_true p240
                  replace q240 := eq_true q240
                  have p241 : 0 ≤ (x7_1 : Int) := of_decide_eq_true (by first | (with_reducible assumption) | assumption)
                  have q241 : x7_1 < (l0.length : Int) := of_decide_eq_true (by first | (with_reducible assumption) | assumption)
                  obtain ⟨ad241, e241, hx241_0⟩ := Kd.at_string HR0.out x7_1 p241 q241
                  obtain rfl : ad240 = ad241 := (by injection e241)
                  replace p241 := eq_true p241
                  replace q241 := eq_true q241
                  go_wp2_with (first | (go_at_call 72; (with_reducible refine (slices_isNaN_string.calls (rdOf ByteArray.empty l0 x7_1) false _ A13.out).mono ?_); rintro e w' ⟨rfl, ⟨nd, rfl⟩⟩))
                  go_ret2
                  exact ⟨by first | rfl | (simp; done) | (simp [*]; done), by repeat (first | exact Drawn0.refl _ | apply Drawn0.step)⟩
            · rw [if_neg c11] at H
              exact absurd H (by simp)
          · rw [if_neg c10] at H
            exact absurd H (by simp)
        · rw [if_neg c9] at H
          have c9b0 : decide (x7_1 < (l0.length : Int)) = false := decide_eq_false c9
          clear c9
          simp only [Option.some.injEq, Prod.mk.injEq] at H
          obtain ⟨rfl, rfl⟩ := H
          go_wp2
          go_ret2
          exact ⟨by first | rfl | (simp; done) | (simp [*]; done), by repeat (first | exact Drawn0.refl _ | apply Drawn0.step)⟩

/-! ### slices_Insert_string_string: function 52 -/
section
open Go.Shelf Go.Lib
variable {P : Program} {ρ : Ren}
/-- A block behind a write of many cells. -/
theorem block_setCells (b : Nat) (e : TypeId) : ∀ (vs : List Value) (o : Nat) (w : World) (cur : Array Value), w.heap[b]? = some (.cells cur e (0, 0)) → o + vs.length ≤ cur.size → ∃ cur' : Array Value, (w.setCells b o vs).heap[b]? = some (.cells cur' e (0, 0)) ∧ cur'.toList = cur.toList.take o ++ vs ++ cur.toList.drop (o + vs.length)
  | [], o, w, cur, h, hl => ⟨cur, h, by simp⟩
  | v :: r, o, w, cur, h, hl => by
    have hlt : o < cur.toList.length := by simp at hl ⊢; omega
    obtain ⟨c', h2, h3⟩ := block_setCells b e r (o + 1) _ _ (heap_setCell_same w b o cur e v h) (by simp at hl ⊢; omega)
    refine ⟨c', h2, h3.trans ?_⟩
    rw [Array.toList_setIfInBounds, List.set_eq_take_append_cons_drop, if_pos hlt]
    have e1 : (cur.toList.take o).length = o := by rw [List.length_take]; omega
    rw [List.take_append, List.drop_append, e1, List.take_of_length_le (by omega : (cur.toList.take o).length ≤ o + 1), show o + 1 - o = 1 by omega, show o + 1 + r.length - o = r.length + 1 by omega,
      List.drop_eq_nil_of_le (by omega : (cur.toList.take o).length ≤ o + 1 + r.length)]
    simp [show o + 1 + r.length = o + (r.length + 1) by omega]
theorem grownBy_setCells (b : Nat) : ∀ (vs : List Value) (o : Nat) (w W : World), w.grownBy W (some b) → w.grownBy (W.setCells b o vs) (some b)
  | [], _, _, _, h => h
  | v :: r, o, w, W, h => grownBy_setCells b r (o + 1) w (W.setCell ⟨b, o, none⟩ v) ⟨h.os, h.tape, h.output, by simpa using h.size, fun k hk hne => (heap_setCell_other W ⟨b, o, none⟩ k v (fun e => hne (by simp [e]))).trans (h.block k hk hne)⟩
/-- slices.Insert of one string into a row of the call's own. -/
theorem insert_own (L : Lays2.n22 P ρ) (base : Nat) (v : Value) (cs : List Value) (i vb : Nat) (s : Value) (tA : TypeId) (w : World) (h1s : s.oneCell' = true) (h1c : ∀ u ∈ cs, u.oneCell' = true)
    (hown : w.ownsRow base (ρ.t 9) 1 v cs.length cs) (hi : i ≤ cs.length) (hbig : (cs.length + 1) * 16 ≤ 140737488355328) (hv : w.heap[vb]? = some (.cells #[s] tA (0, 0))) (hne : some vb ≠ v.ownBlock) (hbase : base ≤ w.heap.size) :
    Calls P (ρ.f 22) #[v, .int .i64 i, .slice (some ⟨vb, 0, none⟩) 1 1] w fun e w' => ∃ v', e = .returned v' ∧ w'.ownsRow base (ρ.t 9) 1 v' (cs.length + 1) (cs.take i ++ s :: cs.drop i) ∧ w.grownBy w' v.ownBlock ∧ (v'.ownBlock = v.ownBlock ∨ v'.ownBlock = some w.heap.size) := by
  have hvs : ∀ j u, [s][j]? = some u → w.cell? ⟨vb, 0 + j, none⟩ = some u := by
    intro j u hj
    cases j with
    | zero =>
      have : s = u := by simpa using hj
      subst this
      exact (cell_of_row w vb 0 _ _ _ hv).trans rfl
    | succ j => simp at hj
  have h1v : ∀ u ∈ [s], u.oneCell' = true := fun u hu => by rw [List.mem_singleton.1 hu]; exact h1s
  have hvl : vb < w.heap.size := (Array.getElem?_eq_some_iff.1 hv).1
  have hda : ∀ (o : Obj) (r : Option Nat), w.grownBy (w.drew.alloc o) r := fun o r => ⟨rfl, rfl, rfl, by simp, fun k hk _ => heap_alloc_old w.drew o hk⟩
  have hm1 : cs.length + 1 ≤ maxLen := by unfold maxLen; omega
  rcases hown.2 with ⟨rfl, h0⟩ | ⟨g, cap, cur, rfl, hb, hg, hn, hm, hs, ht⟩
  · obtain rfl : cs = [] := List.length_eq_zero_iff.1 h0
    obtain rfl : i = 0 := by simpa using hi
    refine (Any2.slices_Insert_string_end_grow L none 0 0 vb 0 1 1 [] [s] w (by omega) (by omega) (by omega) (by omega) rfl rfl (fun _ => rfl) (fun a h => by cases h) hvs h1v).mono ?_
    rintro e w' ⟨rfl, rfl⟩
    have hge := grownCap_ge w (0 + 1) 0 (ρ.t 9)
    have hle := grownCap_le_maxLen w (0 + 1) 0 (ρ.t 9) (by unfold maxLen; omega)
    obtain ⟨G, hG⟩ : ∃ G, grownCap w (0 + 1) 0 (ρ.t 9) = G := ⟨_, rfl⟩
    rw [hG] at hge hle ⊢
    refine ⟨_, rfl, ⟨by simp, .inr ⟨w.heap.size, _, _, rfl, hbase, heap_alloc_new w.drew _, hge, hle, ?_, ?_⟩⟩, hda _ _, .inr rfl⟩
    · simp [Builtin.zeroCells, Value.cells]
      omega
    · simp
  · have hcell : ∀ j u, cs[j]? = some u → w.cell? ⟨g, 0 + j, none⟩ = some u := by
      intro j u hj
      rw [Nat.zero_add, cell_of_row w g j cur _ (0, 0) hg]
      rw [← ht, List.getElem?_take] at hj
      split at hj
      · simpa using hj
      · cases hj
    have hfz : ∀ j, w.frozen? ⟨g, j, none⟩ = false := fun j => frozen_of_row w g j cur _ hg
    have hsp : ∀ j, j < cap → (w.cell? ⟨g, 0 + j, none⟩).isSome = true := fun j hj => by
      rw [Nat.zero_add, cell_of_row w g j cur _ (0, 0) hg, Array.getElem?_eq_getElem (by omega)]
      rfl
    have hgv : g ≠ vb := fun e => hne (by simp [Value.ownBlock, e])
    have hgl : g < w.heap.size := (Array.getElem?_eq_some_iff.1 hg).1
    have htl : cur.toList.take cs.length = cs := by simpa using ht
    have hcap : cap ≤ 9223372036854775807 := hm
    by_cases hroom : cs.length + 1 ≤ cap
    · by_cases hie : i = cs.length
      · subst hie
        refine (Any2.slices_Insert_string_end_room L g 0 cs.length cap vb 0 1 1 [s] w (by omega) hroom hcap rfl (fun j hj => by rw [Nat.zero_add]; simpa using hsp (cs.length + j) (by omega)) (fun j _ => hfz _) hvs h1v).mono ?_
        rintro e w' ⟨rfl, rfl⟩
        obtain ⟨cur', h1, h2⟩ := block_setCells g (ρ.t 9) [s] (0 + cs.length) w cur hg (by simp; omega)
        refine ⟨_, rfl, ⟨by simp, .inr ⟨g, cap, cur', rfl, hb, h1, hroom, hm, ?_, ?_⟩⟩, ?_, .inl rfl⟩
        · have := congrArg List.length h2
          simp at this
          omega
        · rw [h2, Nat.zero_add, htl, Nat.mul_one, List.take_left' (by simp)]
          simp
        · exact grownBy_setCells g [s] _ w w ⟨rfl, rfl, rfl, Nat.le_refl _, fun _ _ _ => rfl⟩
      · have hlt : i < cs.length := by omega
        refine (Any2.slices_Insert_string_shift L g 0 cs.length cap i vb 0 1 1 cs [s] w hlt (by omega) hroom hcap (Ne.symm hgv) rfl rfl hcell (fun j hj => hsp j (by omega)) (fun j _ => hfz _) hvs h1c h1v tA (ρ.t 9) 1 cur.size
          (by simp [World.shape?, hv]) (by simp [World.shape?, hg]) (by omega) (by simp [World.frozen?, hv]) (by simp [World.frozen?, hv])).mono ?_
        rintro e w' ⟨rfl, rfl⟩
        obtain ⟨c1, h1, h2⟩ := block_setCells g (ρ.t 9) (cs.drop i) (0 + (i + 1)) w.drew cur hg (by simp; omega)
        have hs1 : c1.size = cur.size := by have := congrArg List.length h2; simp at this; omega
        obtain ⟨c2, h3, h4⟩ := block_setCells g (ρ.t 9) [s] (0 + i) _ c1 h1 (by simp; omega)
        have hs2 : c2.size = c1.size := by have := congrArg List.length h4; simp at this; omega
        refine ⟨_, rfl, ⟨by simp; omega, .inr ⟨g, cap, c2, rfl, hb, h3, hroom, hm, by omega, ?_⟩⟩, ?_, .inl rfl⟩
        · have e0 : cur.toList.take (i + 1) = cs.take (i + 1) := by rw [← htl, List.take_take, Nat.min_eq_left (by omega)]
          have e1 : (cs.take (i + 1)).length = i + 1 := by rw [List.length_take]; omega
          have e2 : c1.toList.take i = cs.take i := by
            rw [h2, Nat.zero_add, e0, List.append_assoc, List.take_append, e1, show i - (i + 1) = 0 by omega, List.take_take]
            simp [Nat.min_eq_left]
          have e3 : c1.toList.drop (i + 1) = cs.drop i ++ cur.toList.drop (i + 1 + (cs.drop i).length) := by
            rw [h2, Nat.zero_add, e0, List.append_assoc, List.drop_append, e1, Nat.sub_self, List.drop_eq_nil_of_le (by omega)]
            simp
          rw [h4, Nat.zero_add, e2, show i + [s].length = i + 1 from rfl, e3, Nat.mul_one, List.append_assoc, ← List.append_assoc [s], ← List.append_assoc (cs.take i), List.take_left' (by simp; omega)]
          simp
        · exact grownBy_setCells g [s] _ w _ (grownBy_setCells g (cs.drop i) _ w w.drew ⟨rfl, rfl, rfl, Nat.le_refl _, fun _ _ _ => rfl⟩)
    · by_cases hie : i = cs.length
      · subst hie
        refine (Any2.slices_Insert_string_end_grow L (some ⟨g, 0, none⟩) cs.length cap vb 0 1 1 cs [s] w (by omega) hn (by omega) hbig rfl rfl (fun h => by cases h) (fun a ha j u hj => by cases ha; rw [Addr.add_lit]; exact hcell j u hj) hvs h1v).mono ?_
        rintro e w' ⟨rfl, rfl⟩
        have hge := grownCap_ge w (cs.length + 1) cap (ρ.t 9)
        have hle := grownCap_le_maxLen w (cs.length + 1) cap (ρ.t 9) hm1
        obtain ⟨G, hG⟩ : ∃ G, grownCap w (cs.length + 1) cap (ρ.t 9) = G := ⟨_, rfl⟩
        rw [hG] at hge hle ⊢
        refine ⟨_, rfl, ⟨by simp, .inr ⟨w.heap.size, _, _, rfl, hbase, heap_alloc_new w.drew _, hge, hle, ?_, ?_⟩⟩, hda _ _, .inr rfl⟩
        · simp [Builtin.zeroCells, Value.cells]
          omega
        · rw [Nat.mul_one]
          simp only [Array.toList_append]
          rw [List.take_left' (by simp)]
          simp
      · have hlt : i < cs.length := by omega
        refine (Any2.slices_Insert_string_grow L g 0 cs.length cap i vb 0 1 1 cs [s] w hlt (by omega) hn (by omega) hbig rfl rfl hcell hvs h1c h1v).mono ?_
        rintro e w' ⟨rfl, rfl⟩
        have hge := grownCap_ge w (cs.length + 1) cap (ρ.t 9)
        have hle := grownCap_le_maxLen w (cs.length + 1) cap (ρ.t 9) hm1
        obtain ⟨G, hG⟩ : ∃ G, grownCap w (cs.length + 1) cap (ρ.t 9) = G := ⟨_, rfl⟩
        rw [hG] at hge hle ⊢
        obtain ⟨ROW, hR⟩ : ∃ ROW, (cs.take i).toArray ++ Builtin.zeroCells (Value.string ⟨#[]⟩).cells (cs.length + 1 - i) ++ Builtin.zeroCells (Value.string ⟨#[]⟩).cells (G - (cs.length + 1)) = ROW := ⟨_, rfl⟩
        have hRl : ROW.toList.take i = cs.take i := by
          rw [← hR]
          simp only [Array.toList_append, List.append_assoc]
          rw [List.take_left' (by rw [List.length_take]; omega)]
        have hRs : ROW.size = G := by
          rw [← hR]
          simp [Builtin.zeroCells, Value.cells]
          omega
        rw [hR]
        obtain ⟨c1, h1, h2⟩ := block_setCells w.heap.size (ρ.t 9) [s] i (w.alloc (.cells ROW (ρ.t 9))).drew ROW (heap_alloc_new w _) (by simp; omega)
        have hs1 : c1.size = ROW.size := by have := congrArg List.length h2; simp at this; omega
        obtain ⟨c2, h3, h4⟩ := block_setCells w.heap.size (ρ.t 9) (cs.drop i) (i + 1) ((w.alloc (.cells ROW (ρ.t 9))).drew.setCells w.heap.size i [s]).drew c1 h1 (by simp; omega)
        have hs2 : c2.size = c1.size := by have := congrArg List.length h4; simp at this; omega
        refine ⟨_, rfl, ⟨by simp; omega, .inr ⟨w.heap.size, G, c2, rfl, hbase, h3, hge, hle, by omega, ?_⟩⟩, ?_, .inr rfl⟩
        · have e1 : c1.toList.take (i + 1) = cs.take i ++ [s] := by
            rw [h2, hRl, List.take_left' (by simp; omega)]
          rw [h4, e1, Nat.mul_one, List.append_assoc, List.append_assoc, ← List.append_assoc [s], ← List.append_assoc (cs.take i), List.take_left' (by simp; omega)]
          simp
        · have hd : ∀ {X : World} {r : Option Nat}, w.grownBy X r → w.grownBy X.drew r := fun h => ⟨h.os, h.tape, h.output, h.size, h.block⟩
          have hgr := grownBy_setCells w.heap.size (cs.drop i) (i + 1) w _ (hd (grownBy_setCells w.heap.size [s] i w _ (hd (World.grownBy_alloc w (.cells ROW (ρ.t 9)) (some w.heap.size)))))
          exact ⟨hgr.os, hgr.tape, hgr.output, hgr.size, fun k hk _ => hgr.block k hk (fun e => by have := Option.some.inj e; omega)⟩
end
section
open Go.Shelf
/-- The numbers of slices.Insert's closure here. -/
def insRen : Go.Shelf.Ren := ⟨fun | 22 => 52 | 29 => 73 | 30 => 74 | 36 => 87 | 17 => 93 | n => n, fun | 24 => 38 | 9 => 9 | 3 => 3 | 4 => 4 | 0 => 0 | n => n, fun | n => n⟩
theorem insLays : Go.Proofs.Lays2.n22 Try.prog insRen := {
  mixed := by kernel_rfl
  f17 := Try.func93.trans (congrArg some (by kernel_rfl))
  f22 := Try.func52.trans (congrArg some (by kernel_rfl))
  f29 := Try.func73.trans (congrArg some (by kernel_rfl))
  f30 := Try.func74.trans (congrArg some (by kernel_rfl))
  f36 := Try.func87.trans (congrArg some (by kernel_rfl))
  t0 := Try.underlying0
  a0 := Try.isAgg0
  z0 := Try.sizeOf0
  v0 := Try.zeroValue0
  t3 := Try.underlying3
  a3 := Try.isAgg3
  z3 := Try.sizeOf3
  v3 := Try.zeroValue3
  t4 := Try.underlying4
  a4 := Try.isAgg4
  z4 := Try.sizeOf4
  v4 := Try.zeroValue4
  t9 := Try.underlying9
  a9 := Try.isAgg9
  z9 := Try.sizeOf9
  v9 := Try.zeroValue9
  t24 := Try.underlying38
  a24 := Try.isAgg38
  z24 := Try.sizeOf38
  v24 := Try.zeroValue38
  i9 := by kernel_rfl }
end
/-- A row of strings of the call's own: its cells. -/
theorem reps_strings {xs : List ByteArray} {inner : List Value} (h : Reps (fun (x : ByteArray) cs => cs = [Value.string x]) 1 xs inner) : inner = xs.map Value.string := by
  apply List.ext_getElem?
  intro j
  rw [List.getElem?_map]
  cases e : xs[j]? with
  | none =>
    have h1 := List.getElem?_eq_none_iff.1 e
    have h2 := h.1
    exact List.getElem?_eq_none_iff.2 (by omega)
  | some p =>
    have h3 := congrArg (fun l : List Value => l[0]?) (h.2 j p e)
    simpa using h3
theorem strings_reps (xs : List ByteArray) : Reps (fun (x : ByteArray) cs => cs = [Value.string x]) 1 xs (xs.map Value.string) := by
  refine ⟨by simp, fun j p e => ?_⟩
  have hl : j < xs.length := (List.getElem?_eq_some_iff.1 e).1
  obtain rfl : xs[j] = p := (List.getElem?_eq_some_iff.1 e).2
  rw [Nat.mul_one, List.drop_eq_getElem_cons (by simpa using hl)]
  simp
theorem Insert_calls (base : Nat) (v : Value) (xs : List ByteArray) (i vb : Nat) (x : ByteArray) (tA : TypeId) (w : World) (HO : Kd.R Kd.string 9 w base (fun _ => True) v xs) (hi : i ≤ xs.length) (hbig : (xs.length + 1) * 16 ≤ 140737488355328)
    (hv : w.heap[vb]? = some (.cells #[.string x] tA (0, 0))) (hne : some vb ≠ v.ownBlock) (hbase : base ≤ w.heap.size) :
    Calls Try.prog 52 #[v, .int .i64 (i : Nat), .slice (some ⟨vb, 0, none⟩) 1 1] w fun e w' => ∃ v', e = .returned v' ∧ Kd.R Kd.string 9 w' base (fun _ => True) v' (xs.take i ++ x :: xs.drop i) ∧ w.grownBy w' v.ownBlock := by
  obtain ⟨_, inner, ho, hr⟩ := HO
  obtain rfl := reps_strings hr
  have ho2 : w.ownsRow base (insRen.t 9) 1 v (xs.map Value.string).length (xs.map Value.string) := by rw [List.length_map]; exact ho
  refine (insert_own insLays base v (xs.map Value.string) i vb (.string x) tA w rfl (fun u hu => by obtain ⟨y, _, rfl⟩ := List.mem_map.1 hu; rfl) ho2 (by simpa using hi) (by simpa using hbig) hv hne hbase).mono ?_
  rintro e w' ⟨v', rfl, h1, h2, _⟩
  refine ⟨v', rfl, ⟨fun _ _ => trivial, (xs.take i ++ x :: xs.drop i).map Value.string, ?_, strings_reps _⟩, h2⟩
  have e1 : (xs.take i ++ x :: xs.drop i).length = (xs.map Value.string).length + 1 := by simp; omega
  have e2 : (xs.take i ++ x :: xs.drop i).map Value.string = (xs.map Value.string).take i ++ Value.string x :: (xs.map Value.string).drop i := by simp
  rw [e1, e2]
  exact h1

/-! ### impl_BookAccts: function 28 -/
section
attribute [local go_sem] Oper.semAt_some
theorem mid_eq (s : Int) (h0 : 0 ≤ s) (h1 : s < 9223372036854775808) : wrap64 ((IntKind.u64.wrap (wrap64 s)) / 2) = s / 2 := by
  have e1 : wrap64 s = s := by unfold wrap64; omega
  have e2 : IntKind.u64.wrap s = s := by
    unfold IntKind.wrap
    simp [IntKind.bits, IntKind.signed]
    omega
  rw [e1, e2]
  unfold wrap64
  omega
def lessS (a b : ByteArray) : Bool := Op.bytesLess a.toList b.toList
theorem cmp_Less_eq (a b : ByteArray) : cmp_Less_string.f a b = some (lessS a b) := by
  unfold cmp_Less_string.f cmp_isNaN_string.f
  simp [lessS]
/-- The binary search of any row: it ends, at a place behind which nothing is told but its neighbours. -/
theorem search_l0 (l : List ByteArray) (x : ByteArray) (hl : l.length < 4611686018427387904) : ∀ (k i j : Nat), i ≤ j → j ≤ l.length → j - i < 2 ^ k → (i = 0 ∨ lessS (l.getD (i - 1) ByteArray.empty) x = true) → (j = l.length ∨ lessS (l.getD j ByteArray.empty) x = false) →
    ∃ p : Nat, slices_BinarySearch_string_string.l0 (k + 1) l x (l.length : Int) i j = some ((p : Int), decide (p < l.length ∧ (l.getD p ByteArray.empty).toList = x.toList)) ∧ p ≤ l.length ∧ (p = 0 ∨ lessS (l.getD (p - 1) ByteArray.empty) x = true) ∧ (p = l.length ∨ lessS (l.getD p ByteArray.empty) x = false) := by
  have fin : ∀ (k i : Nat), i ≤ l.length → slices_BinarySearch_string_string.l0 (k + 1) l x (l.length : Int) i i = some ((i : Int), decide (i < l.length ∧ (l.getD i ByteArray.empty).toList = x.toList)) := by
    intro k i hi
    unfold slices_BinarySearch_string_string.l0
    rw [if_neg (by omega)]
    by_cases h1 : i < l.length
    · rw [if_pos (by omega), if_pos (by omega), if_pos (by omega)]
      by_cases h2 : (l.getD i ByteArray.empty).toList = x.toList
      · rw [if_pos (by simpa [rdOf] using h2)]
        have h3 : (l[i]?.getD ByteArray.empty).toList = x.toList := by simpa using h2
        simp [h1, h2]
        simpa [h1] using h3
      · rw [if_neg (by simpa [rdOf] using h2)]
        unfold slices_isNaN_string.f
        have h3 : ¬ (l[i]?.getD ByteArray.empty).toList = x.toList := by simpa using h2
        simp [h1]
        simpa [h1] using h3
    · rw [if_neg (by omega)]
      simp [h1]
  intro k
  induction k with
  | zero =>
    intro i j h1 h2 h3 h4 h5
    obtain rfl : i = j := by simp at h3; omega
    exact ⟨i, fin 0 i h2, h2, h4, h5⟩
  | succ k ih =>
    intro i j h1 h2 h3 h4 h5
    by_cases e : i = j
    · subst e
      exact ⟨i, fin (k + 1) i h2, h2, h4, h5⟩
    · have hm : wrap64 ((IntKind.u64.wrap (wrap64 ((i : Int) + (j : Int)))) / 2) = (((i + j) / 2 : Nat) : Int) := by rw [mid_eq _ (by omega) (by omega)]; omega
      have hp : 2 ^ (k + 1) = 2 * 2 ^ k := by rw [Nat.pow_succ]; omega
      rw [hp] at h3
      obtain ⟨m, em⟩ : ∃ m, (i + j) / 2 = m := ⟨_, rfl⟩
      have m1 : i ≤ m := by omega
      have m2 : m < j := by omega
      have hr : rdOf ByteArray.empty l (m : Int) = l.getD m ByteArray.empty := by simp [rdOf]
      have e0 : slices_BinarySearch_string_string.l0 (k + 1 + 1) l x (l.length : Int) i j = if lessS (l.getD m ByteArray.empty) x = true then slices_BinarySearch_string_string.l0 (k + 1) l x (l.length : Int) ((m + 1 : Nat) : Int) j else slices_BinarySearch_string_string.l0 (k + 1) l x (l.length : Int) i m := by
        rw [slices_BinarySearch_string_string.l0]
        rw [if_pos (by omega), hm, em, if_pos (by omega), if_pos (by omega), hr, cmp_Less_eq, Option.bind_some]
        rw [show wrap64 ((m : Int) + 1) = ((m + 1 : Nat) : Int) by unfold wrap64; omega]
      rw [e0]
      by_cases c : lessS (l.getD m ByteArray.empty) x = true
      · rw [if_pos c]
        exact ih (m + 1) j (by omega) h2 (by omega) (.inr (by simpa using c)) h5
      · rw [if_neg c]
        exact ih i m (by omega) (by omega) (by omega) h4 (.inr (by simpa using c))
/-- Where a name stands, or would stand. -/
theorem search_ev (l : List ByteArray) (x : ByteArray) (hl : l.length < 4611686018427387904) : ∃ p : Nat, slices_BinarySearch_string_string.f 64 l x = some ((p : Int), decide (p < l.length ∧ (l.getD p ByteArray.empty).toList = x.toList)) ∧ p ≤ l.length ∧ (p = 0 ∨ lessS (l.getD (p - 1) ByteArray.empty) x = true) ∧ (p = l.length ∨ lessS (l.getD p ByteArray.empty) x = false) := by
  unfold slices_BinarySearch_string_string.f
  exact search_l0 l x hl 63 0 l.length (Nat.zero_le _) (Nat.le_refl _) (by omega) (.inl rfl) (.inl rfl)
/-- A row of names, and one more in it. -/
def putAcct (l : List ByteArray) (y : S77) : List ByteArray := match slices_BinarySearch_string_string.f 64 l y.f0 with
  | some (p, false) => l.take p.toNat ++ y.f0 :: l.drop p.toNat
  | _ => l
def putAccts (l : List ByteArray) (ys : List S77) : List ByteArray := ys.foldl putAcct l
theorem putAcct_length (l : List ByteArray) (y : S77) : (putAcct l y).length ≤ l.length + 1 := by
  unfold putAcct
  split
  · simp
    omega
  · omega
theorem putAccts_length : ∀ (ys : List S77) (l : List ByteArray), (putAccts l ys).length ≤ l.length + ys.length
  | [], l => by simp [putAccts]
  | y :: ys, l => by
    have h1 := putAcct_length l y
    have h2 := putAccts_length ys (putAcct l y)
    unfold putAccts at h2 ⊢
    simp only [List.foldl_cons, List.length_cons]
    omega
theorem putAccts_snoc (l : List ByteArray) (ys : List S77) (y : S77) : putAccts l (ys ++ [y]) = putAcct (putAccts l ys) y := by
  unfold putAccts
  simp
def acctsP (k : Nat) : List S52 → List ByteArray → Option (List ByteArray)
  | [], acc => some acc
  | p :: r, acc => (impl_PostOk.f k p.f0 p.f1).bind fun ok => acctsP k r (putAccts acc (selLegs ok p.f1))
theorem acctsP.mono (k : Nat) : ∀ (xs : List S52) (acc : List ByteArray), LeO (acctsP k xs acc) (acctsP (k + 1) xs acc)
  | [], _ => LeO.refl _
  | p :: xs, acc => by
    unfold acctsP
    exact LeO.bind (impl_PostOk.mono _ _ k) (fun _ => acctsP.mono k xs _)
def impl_BookAccts.f (k : Nat) (l0 : List S52) : Option (List ByteArray) := (impl_BookOk.f k l0).bind fun t => if t = true then acctsP k l0 [] else some []
theorem impl_BookAccts.mono : ∀ a0 k, LeO (impl_BookAccts.f k a0) (impl_BookAccts.f (k + 1) a0) := by
  intro a0 k
  unfold impl_BookAccts.f
  exact LeO.bind (impl_BookOk.mono a0 k) (fun _ => LeO.ite (acctsP.mono k a0 []) (LeO.refl _))
set_option maxRecDepth 100000 in
set_option maxHeartbeats 4000000 in
theorem impl_BookAccts.calls (k : Nat) (A0 : Option Addr) (c0 : Nat) (l0 : List (S52)) (r : List ByteArray) (w : World) (hr0 : Kd.C k52 w A0 l0.length l0) (hc0 : l0.length ≤ c0) (h : impl_BookAccts.f k l0 = some r) :
    Calls Try.prog 28 #[.slice A0 l0.length c0] w fun e w' => ∃ v0_ : Value, e = .returned (v0_) ∧ Kd.R Kd.string 9 w' w.heap.size (fun _ => True) v0_ r ∧ Below w.heap.size w w' := by
  obtain ⟨ok, hok, h⟩ := Option.bind_eq_some_iff.1 h
  have hbk := book_ok hok
  have hCB := impl_BookOk.calls k A0 c0 l0 ok w hr0 hc0 hok
  have hlen : l0.length ≤ 9223372036854775807 := hr0.2.1
  have HR := Aside0.mk hr0
  have HC := Aside0.mk hc0
  have HB := Aside0.mk hCB
  have HK := Aside0.mk hbk
  have H := Aside0.mk h
  clear hr0 hc0 hCB hbk h hok
  refine (callsIn_wide (n := 6)).1 ?_
  refine callsIn_of_wp_marks Try.func28 rfl trivial ?_ rfl
  simp only [Try.ntmps28, List.size_toArray, List.length_cons, List.length_nil, Nat.reduceAdd, Nat.reduceSub, Array.replicate_succ, Array.replicate_zero, List.push_toArray, List.append_toArray, List.nil_append, List.cons_append]
  cases ok with
  | false =>
    have er : r = [] := by have h := H.out; rw [if_neg (by simp)] at h; exact (Option.some.inj h).symm
    subst er
    clear H
    gi_wp2_with (refine ⟨trivial, ?_⟩; gi_at_call 18; refine (callsIn_wide.2 HB.out).mono ?_; rintro e w1 ⟨rfl, hb⟩)
    refine ⟨_, results_tmp rfl _ _ _, _, rfl, Kd.R_nil _ _ _ _ _, ?_⟩
    exact hb
  | true =>
    have h1 : acctsP k l0 [] = some r := by have h := H.out; rw [if_pos rfl] at h; exact h
    have H1 := Aside0.mk h1
    clear h1 H
    gi_wp2_with (refine ⟨trivial, ?_⟩; gi_at_call 18; refine (callsIn_wide.2 HB.out).mono ?_; rintro e w1 ⟨rfl, hb⟩)
    have hB1 : Below w.heap.size w w1 := hb
    have hLn := heap_alloc_new w1 (.cells #[.slice none 0 0] 38)
    obtain ⟨L, hL⟩ : ∃ L, w1.heap.size = L := ⟨_, rfl⟩
    have hwL : w.heap.size ≤ L := by rw [← hL]; exact hB1.size
    have hB2 : Below w.heap.size w (w1.alloc (.cells #[.slice none 0 0] 38)) := hB1.alloc hB1.size _
    rw [hL] at hLn ⊢
    obtain ⟨W2, hW2⟩ : ∃ W2, w1.alloc (.cells #[.slice none 0 0] 38) = W2 := ⟨_, rfl⟩
    rw [hW2] at hLn hB2 ⊢
    have hn40 : l0.length ≤ 40 := HK.out.2 (by trivial)
    have hpk : ∀ p ∈ l0, okPost p = true := HK.out.1
    clear hB1 hb hW2 HB HK
    refine wpIn_loop (fun a' W => ∃ (pre rest : List S52) (acc : List ByteArray) (v : Value) (Ds : List Nat) (u5 u15 u16 u17 u18 u19 u36 : Value), (l0 = pre ++ rest ∧ acctsP k rest acc = some r ∧ acc.length ≤ pre.length * 1048576) ∧ (W.heap[L]? = some (.cells #[v] 38 (0, 0))) ∧ (Kd.R Kd.string 9 W w.heap.size (fun _ => True) v acc ∧ Below w.heap.size w W) ∧ ((∀ D ∈ Ds, w.heap.size ≤ D ∧ W.heap[D]? = some (.deferred (some []))) ∧ Ds.Nodup) ∧
      a' = { tmps := #[.slice A0 l0.length c0, undef, .slice none 0 0, .pointer (some ⟨L, 0, none⟩), undef, u5, undef, undef, undef, .slice A0 l0.length c0, .bool true, .bool false, .slice A0 l0.length c0, .int .i64 (l0.length : Nat), .int .i64 (pre.length : Nat), u15, u16, u17, u18, u19, undef, undef, undef, undef, undef, undef, undef, undef, undef, undef, undef, undef, undef, undef, undef, undef, u36, undef], defers := Ds.map markOf })
      (fun a' _ => l0.length - (intOf (a'.tmps.getD 14 undef)).toNat) ?_ ?_
    · exact ⟨[], l0, [], _, [], _, _, _, _, _, _, _, ⟨rfl, H1.out, by simp⟩, hLn, ⟨Kd.R_nil _ _ _ _ _, hB2⟩, ⟨by simp, by simp⟩, rfl⟩
    · rintro a' W ⟨pre, rest, acc, v, Ds, u5, u15, u16, u17, u18, u19, u36, ⟨hx, hl, ha⟩, hbL, ⟨hR, hB⟩, ⟨hD, hN⟩, rfl⟩
      have HBL := Aside0.mk hbL
      have HR2 := Aside0.mk hR
      have HB := Aside0.mk hB
      have HD := Aside0.mk hD
      have cL : W.cell? ⟨L, 0, none⟩ = some v := (cell_of_row W _ 0 _ _ _ hbL).trans rfl
      cases rest with
      | nil =>
        have hlen' : pre.length = l0.length := by rw [hx]; simp
        have d3 : decide ((pre.length : Int) < (l0.length : Int)) = false := decide_eq_false (by omega)
        have d4 : decide (pre.length < l0.length) = false := decide_eq_false (by omega)
        obtain rfl : acc = r := by simpa [acctsP] using hl
        clear hx hbL hR hB hD hlen' hl
        gi_wp2
        refine leaves_marks w.heap.size (fun X => Kd.R Kd.string 9 X w.heap.size (fun _ => True) v acc ∧ Below w.heap.size w X) (fun X D hX h0 hXD => ⟨R_other hX.1 (grownBy_putObj' X D (.deferred none)) (fun r e => by cases e; exact ⟨_, hXD, rfl⟩), hX.2.grown (grownBy_putObj' X D (.deferred none)) hX.2.size (fun j e => by cases e; exact h0)⟩) (fun X hX => ⟨_, results_tmp rfl _ _ _, _, rfl, hX.1, hX.2⟩) Ds W ⟨HR2.out, HB.out⟩ HD.out hN
      | cons p rest =>
        have hl' : l0.length = pre.length + (rest.length + 1) := by rw [hx]; simp
        have hp : okPost p = true := hpk p (by rw [hx]; simp)
        have hxx : rd_T52 l0 (pre.length : Int) = p := by rw [hx]; simp [rd_T52]
        have q0 : (0 : Int) ≤ (pre.length : Int) := by omega
        have q1 : (pre.length : Int) < (l0.length : Int) := by omega
        obtain ⟨ad, A1, c1, e0, e1, e2, e3, e4⟩ := at_T52 HR.out (pre.length : Int) q0 q1
        rw [hxx, Int.toNat_natCast] at e1
        rw [hxx, Int.toNat_natCast] at e2
        rw [hxx] at e3 e4
        replace e1 := (hB.cell (World.block_lt_of_cell? w _ e1)).trans e1
        replace e2 := (hB.cell (World.block_lt_of_cell? w _ e2)).trans e2
        cases e0
        have d3 : decide ((pre.length : Int) < (l0.length : Int)) = true := decide_eq_true (by omega)
        have d4 : decide (pre.length < l0.length) = true := decide_eq_true (by omega)
        have hpl := okPost_len hp
        obtain ⟨ok, hok, hlr⟩ := Option.bind_eq_some_iff.1 (show ((impl_PostOk.f k p.f0 p.f1).bind fun ok => acctsP k rest (putAccts acc (selLegs ok p.f1))) = some r from hl)
        have hwW := hB.size
        have hLW : L < W.heap.size := (Array.getElem?_eq_some_iff.1 hbL).1
        have HL' := Aside0.mk hl'
        have HX := Aside0.mk hx
        have HA := Aside0.mk ha
        have HOK := Aside0.mk hok
        have HLR := Aside0.mk hlr
        have HE3 := Aside0.mk e3
        have HE4 := Aside0.mk e4
        clear hl' hx ha hok hlr e3 e4 hl hbL hR hB hD hp hxx hpk
        gi_wp2_with (refine ⟨trivial, ?_⟩; gi_at_call 47; refine (callsIn_wide.2 (legsOf_calls p.f0 A1 _ c1 _)).mono ?_; rintro e w' ⟨rfl, rfl⟩)
        have hq := heap_alloc_new (W.alloc (.cells #[.int .i64 p.f0, .slice A1 p.f1.length c1] 52)) (.cells #[.int .i64 p.f0, .slice A1 p.f1.length c1] 52)
        have hqp : ((W.alloc (.cells #[.int .i64 p.f0, .slice A1 p.f1.length c1] 52)).alloc (.cells #[.int .i64 p.f0, .slice A1 p.f1.length c1] 52)).heap[W.heap.size]? = some (.cells #[.int .i64 p.f0, .slice A1 p.f1.length c1] 52 (0, 0)) := (Below.heap_alloc _ _ _ (by simp)).trans (heap_alloc_new W _)
        have hBW : Below w.heap.size W ((W.alloc (.cells #[.int .i64 p.f0, .slice A1 p.f1.length c1] 52)).alloc (.cells #[.int .i64 p.f0, .slice A1 p.f1.length c1] 52)) := ((Below.refl _ W).alloc hwW _).alloc (by simp; omega) _
        obtain ⟨W0, hW0⟩ : ∃ W0 : World, ((W.alloc (.cells #[.int .i64 p.f0, .slice A1 p.f1.length c1] 52)).alloc (.cells #[.int .i64 p.f0, .slice A1 p.f1.length c1] 52)) = W0 := ⟨_, rfl⟩
        have hsz : ((W.alloc (.cells #[.int .i64 p.f0, .slice A1 p.f1.length c1] 52)).alloc (.cells #[.int .i64 p.f0, .slice A1 p.f1.length c1] 52)).heap.size = W.heap.size + 2 := by simp
        rw [hW0] at hq hqp hBW hsz ⊢
        rw [World.size_alloc] at hq
        have hB0 : Below w.heap.size w W0 := HB.out.trans hBW
        have hc0' : W0.cell? ⟨W.heap.size + 1, 0, none⟩ = some (.int .i64 p.f0) := (cell_of_row W0 _ 0 _ _ _ hq).trans rfl
        have hc1' : W0.cell? ⟨W.heap.size + 1, 1, none⟩ = some (.slice A1 p.f1.length c1) := (cell_of_row W0 _ 1 _ _ _ hq).trans rfl
        have gW : ∀ (b : Nat) (cs : Array Value) (t : TypeId), W.heap[b]? = some (Obj.cells cs t (0, 0)) → W0.heap[b]? = some (Obj.cells cs t (0, 0)) := fun b cs t h => by
          rw [← hW0]
          exact (Below.heap_alloc _ _ _ (by have := (Array.getElem?_eq_some_iff.1 h).1; simp; omega)).trans ((Below.heap_alloc _ _ _ (Array.getElem?_eq_some_iff.1 h).1).trans h)
        have rBL := gW _ _ _ HBL.out
        have rR : Kd.R Kd.string 9 W0 w.heap.size (fun _ => True) v acc := by rw [← hW0]; exact Kd.R_alloc (Kd.R_alloc HR2.out _) _
        have rD : ∀ D ∈ Ds, w.heap.size ≤ D ∧ W0.heap[D]? = some (.deferred (some [])) := fun D hD => ⟨(HD.out D hD).1, by
          have h := (HD.out D hD).2
          rw [← hW0]
          exact (Below.heap_alloc _ _ _ (by have := (Array.getElem?_eq_some_iff.1 h).1; simp; omega)).trans ((Below.heap_alloc _ _ _ (Array.getElem?_eq_some_iff.1 h).1).trans h)⟩
        clear hW0 gW
        have hsel : (selLegs ok p.f1).length ≤ p.f1.length := by unfold selLegs; split <;> simp
        have HSZ := Aside0.mk hsz
        have HSL := Aside0.mk hsel
        have HPL := Aside0.mk hpl
        clear hsz hsel hpl hq
        refine wpIn_rangeFunc_ownH rfl (by omega) (gf := 68) (lb := #[.pointer (some ⟨W.heap.size + 1, 0, none⟩)]) rfl trivial (enters_of Try.func68 (by kernel_rfl) rfl)
          (legsOf_stops _ (by omega) (fun y => y) (W.heap.size + 1) k p.f0 A1 c1 p.f1 w W0 (by simpa using HE4.out) HE3.out ok (by simpa using HOK.out) hB0 (by have := HSZ.out; omega) hc0' hc1') belowK_t (belowK_b hB0.size) (Below.refl _ _) (fun _ => rfl)
          (fun done X => ((X.heap[W.heap.size]? = some (.cells #[.int .i64 p.f0, .slice A1 p.f1.length c1] 52 (0, 0))) ∧ (∀ D ∈ Ds, w.heap.size ≤ D ∧ X.heap[D]? = some (.deferred (some [])))) ∧ (∃ v', X.heap[L]? = some (.cells #[v'] 38 (0, 0)) ∧ Kd.R Kd.string 9 X w.heap.size (fun _ => True) v' (putAccts acc done)) ∧ (W0.heap.size ≤ X.heap.size ∧ Below w.heap.size w X))
          (fun _ _ _ => False)
          (fun s X Y row hs hg hr => by
            obtain ⟨⟨h2, h3⟩, ⟨v', h4, h5⟩, h6, h7⟩ := hs
            have hr2 : ∀ j, row = some j → ∃ o, X.heap[j]? = some o ∧ o.isCells = false := fun j e => (hr j e).2
            refine ⟨⟨blk_other h2 hg hr2, fun D hD => ⟨(h3 D hD).1, (hg.block D (Array.getElem?_eq_some_iff.1 (h3 D hD).2).1 (fun e => ?_)).trans (h3 D hD).2⟩⟩, ⟨v', blk_other h4 hg hr2, R_other h5 hg hr2⟩, Nat.le_trans h6 hg.size, h7.grown hg (Nat.le_trans hB0.size h6) (fun j e => Nat.le_trans hB0.size (hr j e).1)⟩
            have h8 := (hr D e.symm).1
            have h9 := (Array.getElem?_eq_some_iff.1 (rD D hD).2).1
            omega)
          (fun _ _ _ _ _ hs _ _ => hs)
          ⟨⟨hqp, rD⟩, ⟨v, rBL, by simpa [putAccts] using rR⟩, Nat.le_refl _, hB0⟩
          (fun x a' X => ∃ Bx, W0.heap.size ≤ Bx ∧ X.heap[Bx]? = some (.cells #[.string x.f0, .int .i64 x.f1, .int .i64 x.f2] 77 (0, 0)) ∧ a' = { tmps := #[.slice (some ad) l0.length c0, undef, .slice none 0 0, .pointer (some ⟨L, 0, none⟩), undef, .pointer (some ⟨W.heap.size, 0, none⟩), .pointer (some ⟨Bx, 0, none⟩), undef, undef, .slice (some ad) l0.length c0, .bool true, .bool false, .slice (some ad) l0.length c0, .int .i64 (l0.length : Nat), .int .i64 (pre.length : Nat), .bool true, .pointer (some (ad.add (pre.length * 2))), .agg #[.int .i64 p.f0, .slice A1 p.f1.length c1], .agg #[.int .i64 p.f0, .slice A1 p.f1.length c1], .func (.func 68) #[] #[.pointer (some ⟨W.heap.size + 1, 0, none⟩)], .agg #[.string x.f0, .int .i64 x.f1, .int .i64 x.f2], undef, undef, undef, undef, undef, undef, undef, undef, undef, undef, undef, undef, undef, undef, undef, u36, undef], defers := [] })
          (fun x a' _ X Y row hs hg hr => by
            obtain ⟨Bx, h1, h2, h3⟩ := hs
            exact ⟨Bx, h1, blk_other h2 hg (fun j e => (hr j e).2), h3⟩)
          ?assign ?body ?done ?stop
        case assign =>
          rintro l done x X K ⟨⟨h2, h3⟩, ⟨v', h4, h5⟩, h6, h7⟩ hK
          dsimp only [legEnc]
          gi_wp2
          refine hK _ _ ((KeepsOthers.alloc _ _).from _) ((Below.refl _ X).alloc (Nat.le_trans hB0.size h6) _) ⟨⟨blk_other h2 (World.grownBy_alloc X _ none) (fun j e => by cases e), fun D hD => ⟨(h3 D hD).1, (Below.heap_alloc _ _ _ (Array.getElem?_eq_some_iff.1 (h3 D hD).2).1).trans (h3 D hD).2⟩⟩, ⟨v', blk_other h4 (World.grownBy_alloc X _ none) (fun j e => by cases e), Kd.R_alloc h5 _⟩, Nat.le_trans h6 (by simp), h7.alloc (Nat.le_trans hB0.size h6) _⟩ ⟨X.heap.size, h6, heap_alloc_new X _, rfl⟩
        case body =>
          rintro l done x a' X hl ⟨rr, hrr⟩ ⟨⟨h2, h3⟩, ⟨v', h4, h5⟩, h6, h7⟩ ⟨Bx, hBx, bX, rfl⟩ hlt
          have x0 : X.cell? ⟨Bx, 0, none⟩ = some (.string x.f0) := (cell_of_row X _ 0 _ _ _ bX).trans rfl
          have cL : X.cell? ⟨L, 0, none⟩ = some v' := (cell_of_row X _ 0 _ _ _ h4).trans rfl
          obtain ⟨Y, hY⟩ : ∃ Y, putAccts acc done = Y := ⟨_, rfl⟩
          have hYl : Y.length ≤ 40 * 1048576 + 1048576 := by
            have h1 := HA.out
            have h2 := putAccts_length done acc
            have h3 := HPL.out
            have h4 := HL'.out
            have h5 := HSL.out
            rw [hY] at h2
            omega
          rw [hY] at h5
          obtain ⟨A9, c9, rfl, hc9, hC9⟩ := Kd.R_reads h5
          obtain ⟨pp, hse, hpl', hn1, hn2⟩ := search_ev Y x.f0 (by omega)
          have hput : putAccts acc (done ++ [x]) = putAcct Y x := by rw [putAccts_snoc, hY]
          have HS := Aside0.mk (slices_BinarySearch_string_string.calls 64 A9 c9 Y x.f0 _ _ X hC9 hc9 hse)
          have J2 := Aside0.mk h2
          have J3 := Aside0.mk h3
          have J4 := Aside0.mk h4
          have J5 := Aside0.mk h5
          have J6 := Aside0.mk h6
          have J7 := Aside0.mk h7
          have JX := Aside0.mk bX
          have JP := Aside0.mk hpl'
          have JE := Aside0.mk hse
          clear h2 h3 h4 h5 h6 h7 bX hse hpl' hn1 hn2 hC9 hc9
          obtain ⟨bb, hbb⟩ : ∃ bb, decide (pp < Y.length ∧ (Y.getD pp ByteArray.empty).toList = x.f0.toList) = bb := ⟨_, rfl⟩
          rw [hbb] at HS JE
          cases bb with
          | true =>
            gi_wp2_with (refine ⟨trivial, ?_⟩; gi_at_call 51; refine (callsIn_wide.2 HS.out).mono ?_; rintro e w1 ⟨rfl, ⟨q, rfl⟩⟩)
            have eY : putAcct Y x = Y := by unfold putAcct; rw [JE.out]
            refine ⟨⟨Nat.le_refl _, fun _ _ _ h _ => h⟩, ⟨rfl, rfl, rfl, Nat.le_refl _, fun _ _ => rfl⟩, ⟨J2.out, J3.out⟩, ⟨_, J4.out, ?_⟩, J6.out, ⟨J7.out.os, J7.out.tape, J7.out.output, J7.out.size, J7.out.block⟩⟩
            rw [hput, eY]
            exact J5.out
          | false =>
            have eY : putAcct Y x = Y.take pp ++ x.f0 :: Y.drop pp := by unfold putAcct; rw [JE.out]; simp
            gi_wp2_with (first
              | (refine ⟨trivial, ?_⟩; gi_at_call 51; refine (callsIn_wide.2 HS.out).mono ?_; rintro e w1 ⟨rfl, ⟨q, rfl⟩⟩)
              | gi_in)
            · refine ⟨trivial, ?_⟩
              (  skip
                 have K5 := Aside0.mk (show Kd.R Kd.string 9 (X.drewN q) w.heap.size (fun _ => True) (.slice A9 Y.length c9) Y from Kd.R_move J5.out (fun _ _ => rfl))
                 have K7 := Aside0.mk (show Below w.heap.size w (X.drewN q) from ⟨J7.out.os, J7.out.tape, J7.out.output, J7.out.size, J7.out.block⟩)
                 have K5a := Aside0.mk (Kd.R_alloc K5.out (.cells #[.string x.f0] 9))
                 have K4a := Aside0.mk (blk_alloc (show (X.drewN q).heap[L]? = _ from J4.out) (.cells #[.string x.f0] 9))
                 have K2a := Aside0.mk (blk_alloc (show (X.drewN q).heap[W.heap.size]? = _ from J2.out) (.cells #[.string x.f0] 9))
                 have K7a := Aside0.mk (K7.out.alloc K7.out.size (.cells #[.string x.f0] 9))
                 refine (callsIn_wide.2 (Insert_calls w.heap.size _ Y pp X.heap.size x.f0 9 _ K5a.out JP.out (by omega) (heap_alloc_new (X.drewN q) _) ?aN K7a.out.size)).mono ?_
                 (case aN => intro e; have := ((Kd.R_bound J5.out).1 _ e.symm).2.2.1; omega)
                 rintro e w1 ⟨v1, rfl, ho, hg⟩
                 obtain ⟨A8, n8, c8, rfl⟩ := (show ∃ (A : Option Addr) (n c : Nat), v1 = .slice A n c from (Kd.R_slice ho).elim fun A h => h.elim fun c h => ⟨A, _, c, h⟩)
                 have n2 := blk_grown K2a.out hg (Kd.R_ne K5a.out K2a.out (by decide))
                 have n4 := blk_grown K4a.out hg (Kd.R_ne K5a.out K4a.out (by decide))
                 have kO : KeepsOthers X w1 := (KeepsOthers.trans (show KeepsOthers X (X.drewN q) from ⟨Nat.le_refl _, fun _ _ h _ => h⟩) (KeepsOthers.alloc (X.drewN q) (.cells #[.string x.f0] 9))).trans (KeepsOthers.of_grownBy hg (fun j o e hj => by obtain ⟨_, _, _, q, _, cells, hh⟩ := (Kd.R_bound K5a.out).1 j e; rw [hj] at hh; cases hh; rfl))
                 have kD : ∀ D ∈ Ds, w.heap.size ≤ D ∧ w1.heap[D]? = some (.deferred (some [])) := fun D hD => ⟨(J3.out D hD).1, kO.same D _ (J3.out D hD).2 rfl⟩
                 have cL1 : w1.cell? ⟨L, 0, none⟩ = some (.slice A9 Y.length c9) := (cell_of_row w1 _ 0 _ _ _ n4).trans rfl
                 have fL1 : w1.frozen? ⟨L, 0, none⟩ = false := by unfold World.frozen?; simp [n4]
                 have M2 := Aside0.mk n2
                 have M4 := Aside0.mk n4
                 have MO := Aside0.mk ho
                 have MK := Aside0.mk kO
                 have MD := Aside0.mk kD
                 have MS := Aside0.mk (show X.heap.size ≤ w1.heap.size from kO.size)
                 have MBel := Aside0.mk (show Below w.heap.size X w1 from ((show Below w.heap.size X (X.drewN q) from ⟨rfl, rfl, rfl, Nat.le_refl _, fun _ _ => rfl⟩).alloc J7.out.size (.cells #[.string x.f0] 9)).grown hg K7a.out.size (fun j e => ((Kd.R_bound K5a.out).1 j e).2.1))
                 clear n2 n4 ho kO kD hg
                 gi_wp2)
              refine ⟨((MK.out.from _).trans ((KeepsOthers.setCell _ _ _).from _)), MBel.out.setCell (p := ⟨L, 0, none⟩) (by show w.heap.size ≤ L; omega) _, ⟨blk_other2 M2.out (by omega) _, fun D hD => ⟨(MD.out D hD).1, (KeepsOthers.setCell _ _ _).same D _ (MD.out D hD).2 rfl⟩⟩, ⟨_, blk_put M4.out 0 _ rfl, ?_⟩, Nat.le_trans J6.out (Nat.le_trans MS.out (by simp [World.setCell])), (J7.out.trans MBel.out).setCell (p := ⟨L, 0, none⟩) (by show w.heap.size ≤ L; omega) _⟩
              rw [hput, eY]
              exact R_setOther MO.out M4.out (by decide) _
        case done =>
          rintro D zs X hD rfl ⟨⟨h2, h3⟩, ⟨v', h4, h5⟩, h6, h7⟩ hK
          have J3 := Aside0.mk h3
          have J4 := Aside0.mk h4
          have J5 := Aside0.mk h5
          have J7 := Aside0.mk h7
          have JK := Aside0.mk hK
          clear h2 h3 h4 h5 h6 h7 hK
          gi_wp2
          have e14 : ((pre.length : Int) + 1) = (((pre ++ [p]).length : Nat) : Int) := by simp
          refine ⟨⟨pre ++ [p], rest, putAccts acc (selLegs ok p.f1), v', D :: Ds, .pointer (some ⟨W.heap.size, 0, none⟩), .bool true, .pointer (some (ad.add (pre.length * 2))), .agg #[.int .i64 p.f0, .slice A1 p.f1.length c1], .agg #[.int .i64 p.f0, .slice A1 p.f1.length c1], .func (.func 68) #[] #[.pointer (some ⟨W.heap.size + 1, 0, none⟩)], .int .i64 ((pre.length : Int) + 1), ⟨by rw [HX.out]; simp, HLR.out, ?_⟩, J4.out, ⟨J5.out, J7.out⟩, ⟨?_, ?_⟩, ?_⟩, ?_⟩
          · have h1 := HA.out
            have h2 := putAccts_length (selLegs ok p.f1) acc
            have h3 := HSL.out
            have h4 := HPL.out
            simp only [List.length_append, List.length_cons, List.length_nil]
            omega
          · intro E hE
            rcases List.mem_cons.1 hE with rfl | hE
            · exact ⟨Nat.le_trans hB0.size hD, JK.out⟩
            · exact J3.out E hE
          · refine List.nodup_cons.2 ⟨fun hm => ?_, hN⟩
            have := (Array.getElem?_eq_some_iff.1 (rD D hm).2).1
            have hD2 : W0.heap.size ≤ D := hD
            omega
          · rw [← e14]
            rfl
          · have h5 := HL'.out
            simp [intOf]
            omega
        case stop =>
          rintro D c pre X _ _ h _
          exact h.elim
end

/-! ### impl_BookSides: function 33 -/
section
/-- How much the accounts of a list have that have some, and how much the others lack. -/
def sidesL : Nat → List S77 → List ByteArray → Int → Int → Int → Int → Option (Int × Int)
  | 0, _, _, _, _, _, _ => none
  | k + 1, legs, al, c, x8, x9, i => if i < (al.length : Int) then (if 0 ≤ i then (if balOf legs (rdOf ByteArray.empty al i) c > 0 then sidesL k legs al c (wrap64 (x8 + balOf legs (rdOf ByteArray.empty al i) c)) x9 (wrap64 (i + 1)) else sidesL k legs al c x8 (wrap64 (x9 - balOf legs (rdOf ByteArray.empty al i) c)) (wrap64 (i + 1))) else none) else some (x8, x9)
theorem sidesL.mono : ∀ (k : Nat) (legs : List S77) (al : List ByteArray) (c x8 x9 i : Int), LeO (sidesL k legs al c x8 x9 i) (sidesL (k + 1) legs al c x8 x9 i)
  | 0, _, _, _, _, _, _ => by unfold sidesL; exact LeO.none _
  | k + 1, legs, al, c, x8, x9, i => by
    rw [sidesL, sidesL]
    exact LeO.ite (LeO.ite (LeO.ite (sidesL.mono k _ _ _ _ _ _) (sidesL.mono k _ _ _ _ _ _)) (LeO.none _)) (LeO.refl _)
def impl_BookSides.f (k : Nat) (l0 : List S52) (a1 : Int) : Option (Int × Int) := if (Lit.int .i64 a1).wf = true then (ledR k l0).bind fun t => if t.1 = true then (impl_BookAccts.f k l0).bind fun al => if al.all (fun s => decide (s.size ≤ 9223372036854775807)) = true then sidesL k t.2.2 al a1 0 0 0 else none else some (0, 0) else none
theorem impl_BookSides.mono : ∀ a0 a1 k, LeO (impl_BookSides.f k a0 a1) (impl_BookSides.f (k + 1) a0 a1) := by
  intro a0 a1 k
  unfold impl_BookSides.f
  exact LeO.ite (LeO.bind (ledR.mono k a0) (fun _ => LeO.ite (LeO.bind (impl_BookAccts.mono a0 k) (fun _ => LeO.ite (sidesL.mono k _ _ _ _ _ _) (LeO.none _))) (LeO.refl _))) (LeO.none _)
set_option maxRecDepth 100000 in
set_option maxHeartbeats 4000000 in
theorem impl_BookSides.calls (k : Nat) (A0 : Option Addr) (c0 : Nat) (l0 : List (S52)) (a1 : Int) (r1 : Int) (r2 : Int) (w : World) (hr0 : Kd.C k52 w A0 l0.length l0) (hc0 : l0.length ≤ c0) (h : impl_BookSides.f k l0 a1 = some (r1, r2)) :
    Calls Try.prog 33 #[.slice A0 l0.length c0, .int .i64 a1] w fun e w' => e = .returned (.tuple #[.int .i64 r1, .int .i64 r2]) ∧ Below w.heap.size w w' := by
  unfold impl_BookSides.f at h
  have hwf : (Lit.int .i64 a1).wf = true := by
    by_cases e : (Lit.int .i64 a1).wf = true
    · exact e
    · rw [if_neg e] at h; cases h
  rw [if_pos hwf] at h
  obtain ⟨⟨ok, done, legs⟩, h1, h2⟩ := Option.bind_eq_some_iff.1 h
  have hL := ledgerOf_calls k A0 c0 l0 ok done legs w hr0 hc0 h1
  have HL := Aside0.mk hL
  cases ok with
  | false =>
    rw [if_neg (by simp)] at h2
    simp only [Option.some.injEq, Prod.mk.injEq] at h2
    obtain ⟨rfl, rfl⟩ := h2
    clear h h1 hL hr0 hc0
    go_enter Try.func33, Try.ntmps33
    go_wp2_with (go_at_call 45; refine HL.out.mono ?_; rintro e w1 ⟨G, B1, B2, n1, n2, f1, f2, rfl, hl, hh, hb⟩)
    go_ret2
    exact ⟨rfl, hb⟩
  | true =>
    rw [if_pos rfl] at h2
    obtain ⟨al, h3, h4⟩ := Option.bind_eq_some_iff.1 h2
    have hall : al.all (fun s => decide (s.size ≤ 9223372036854775807)) = true := by
      by_cases e : al.all (fun s => decide (s.size ≤ 9223372036854775807)) = true
      · exact e
      · rw [if_neg e] at h4; cases h4
    rw [if_pos hall] at h4
    have hsz : ∀ s ∈ al, s.size ≤ maxLen := fun s hs => by unfold maxLen; simpa using List.all_eq_true.1 hall s hs
    have H' := Aside0.mk (show sidesL k legs al a1 0 0 0 = some (r1, r2) from h4)
    have HZ := Aside0.mk hsz
    have HW := Aside0.mk hwf
    have HR := Aside0.mk hr0
    have HC := Aside0.mk hc0
    have H3 := Aside0.mk h3
    clear h h1 h2 h3 h4 hall hsz hwf hL hr0 hc0
    go_enter Try.func33, Try.ntmps33
    go_wp2_with (go_at_call 45; refine HL.out.mono ?_; rintro e w1 ⟨G, B1, B2, n1, n2, f1, f2, rfl, ⟨hG, hM1, hM2⟩, ⟨hI, hS⟩, hb⟩; have HG := Aside0.mk hG; have HM := Aside0.mk hM2; have HS := Aside0.mk hS; have HB1 := Aside0.mk hb; clear hG hM1 hM2 hI hS hb)
    go_wp2_with (go_at_call 28; refine (impl_BookAccts.calls k A0 c0 l0 al w1 (Kd.C_below HR.out HB1.out) HC.out H3.out).mono ?_; rintro e w2 ⟨v2, rfl, ho2, hb2⟩; have HO := Aside0.mk (Kd.R_lower ho2 HB1.out.size); have HM2 := Aside0.mk (HM.out.below hb2 HM.out.lt); have HG2 := Aside0.mk ((hb2.block _ (Array.getElem?_eq_some_iff.1 HG.out).1).trans HG.out); have HB2 := Aside0.mk (HB1.out.trans (hb2.mono HB1.out.size)); clear HB1 HM HG ho2 hb2; obtain ⟨A2, c2, e2⟩ := Kd.R_slice HO.out; subst e2)
    (try simp only [Act.put, List.setIfInBounds_toArray, List.set_cons_zero, List.set_cons_succ])
    go_loopg [8, 9, 23] k (fun kq v8 v9 v23 w' => ∃ (x8 : Int) (x9 : Int) (x23 : Int), v8 = .int .i64 x8 ∧ v9 = .int .i64 x9 ∧ v23 = .int .i64 x23 ∧ Aside0 (sidesL kq legs al a1 x8 x9 x23 = some (r1, r2)) ∧ Aside0 (kq ≤ k) ∧ Aside0 (Kd.R Kd.string 9 w' w.heap.size (fun _ => True) (.slice A2 al.length c2) al) ∧ Aside0 (IntMap w' 75 B2 n2 f2) ∧ Aside0 (w'.heap[G]? = some (.cells #[.int .i64 (done.length : Int), .map (some B1), .map (some B2)] 73 (0, 0))) ∧ Aside0 (Below w.heap.size w w'))
    case atStart => exact ⟨0, 0, 0, rfl, rfl, rfl, H', ⟨Nat.le_refl _⟩, HO, HM2, HG2, HB2⟩
    case round =>
      clear H' HO HM2 HG2 HB2
      obtain ⟨x8, x9, x23, rfl, rfl, rfl, HA, HK, HO, HM, HG, HB⟩ := hrel
      cases gk with
      | zero => exact absurd HA.out (by simp [sidesL])
      | succ k1 =>
        have H := HA.out
        clear HA
        rw [sidesL] at H
        by_cases c5 : x23 < (al.length : Int)
        · rw [if_pos c5] at H
          by_cases c6 : 0 ≤ x23
          · rw [if_pos c6] at H
            have c5b := decide_eq_true c5
            have c6b := decide_eq_true c6
            obtain ⟨ad, e9, hx⟩ := Kd.at_string (Kd.R_reads' HO.out).2.2 x23 c6 c5
            cases e9
            have hmem : rdOf ByteArray.empty al x23 ∈ al := by
              unfold rdOf
              rw [List.getD_eq_getElem?_getD, List.getElem?_eq_getElem (by omega)]
              exact List.getElem_mem _
            have b2 := (cell_of_row _ _ 2 _ _ _ HG.out).trans (show _ = some (Value.map (some B2)) from rfl)
            have l1 := HM.out.look side_keyed Try.underlying71 (side_key (rdOf ByteArray.empty al x23) a1 (HZ.out _ hmem) HW.out)
            rw [HS.out _ a1 (HZ.out _ hmem) HW.out] at l1
            replace c5 := eq_true c5
            replace c6 := eq_true c6
            by_cases c8 : balOf legs (rdOf ByteArray.empty al x23) a1 > 0
            · rw [if_pos c8] at H
              have c8b : decide (0 < balOf legs (rdOf ByteArray.empty al x23) a1) = true := decide_eq_true c8
              have H' := Aside0.mk H
              clear H c8 hmem
              go_wp2
              go_roundg k1
              case measure => have := HK.out; omega
              case rel => exact ⟨_, _, _, rfl, rfl, rfl, H', ⟨by have := HK.out; omega⟩, HO, HM, HG, HB⟩
            · rw [if_neg c8] at H
              have c8b : decide (0 < balOf legs (rdOf ByteArray.empty al x23) a1) = false := decide_eq_false c8
              have H' := Aside0.mk H
              clear H c8 hmem
              go_wp2
              go_roundg k1
              case measure => have := HK.out; omega
              case rel => exact ⟨_, _, _, rfl, rfl, rfl, H', ⟨by have := HK.out; omega⟩, HO, HM, HG, HB⟩
          · rw [if_neg c6] at H
            exact absurd H (by simp)
        · rw [if_neg c5] at H
          have c5b : decide (x23 < (al.length : Int)) = false := decide_eq_false c5
          clear c5
          simp only [Option.some.injEq, Prod.mk.injEq] at H
          obtain ⟨rfl, rfl⟩ := H
          go_wp2
          go_ret2
          exact ⟨rfl, HB.out⟩
end

end Go.Proofs.Yteijmkjfgieciaa.QFnExactBookSides
