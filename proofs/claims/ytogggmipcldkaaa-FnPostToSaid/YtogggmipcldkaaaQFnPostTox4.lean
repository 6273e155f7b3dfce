/- What the law FnPostTo reaches, function by function: what each computes, and that the machine's call comes to it. Laid by a program. -/
import Derived.Test.YtogggmipcldkaaaQFnPostTox0
import Derived.Test.YtogggmipcldkaaaQFnPostTox3
namespace Go.Proofs.Ytogggmipcldkaaa.QFnPostTo
open Go.RowKit Go.Proofs.YtogggmipcldkaaaW.PrintWords Go.Proofs.YtogggmipcldkaaaW.PrintLast Go.Proofs.YtogggmipcldkaaaW.PrintMore
attribute [local go_sem] max2_int min2_int max_two min_two max_three min_three max_four min_four   -- for this text's walks alone
set_option linter.unusedVariables false
set_option linter.unusedSimpArgs false

/-! ### spec_l1Acct: function 45 -/
def spec_l1Acct.f (k : Nat) (s0_0 : List Int) (s0_1 : Int) : Option (ByteArray × Int) := (spec_l9Rd_of.f k s0_0 s0_1 (([(⟨#[97]⟩ : ByteArray), (⟨#[98]⟩ : ByteArray), (⟨#[97, 98]⟩ : ByteArray), (⟨#[99]⟩ : ByteArray), (⟨#[99, 97, 115, 104]⟩ : ByteArray), (⟨#[97, 97]⟩ : ByteArray)] : List ByteArray))).bind fun bt135 => (some (bt135.1, bt135.2))
theorem spec_l1Acct.mono : ∀ a0 a1 k, LeO (spec_l1Acct.f k a0 a1) (spec_l1Acct.f (k + 1) a0 a1) := by
  intro a0 a1 k
  unfold spec_l1Acct.f
  repeat' first
      | (with_reducible exact spec_l9Rd_of.mono _ _ _ _)
      | (with_reducible exact LeO.refl _)
      | (with_reducible exact LeO.none _)
      | (with_reducible refine LeO.ite ?_ ?_)
      | (with_reducible refine LeO.bind ?_ (fun _ => ?_))
      | exact spec_l9Rd_of.mono _ _ _ _
      | exact LeO.none _
      | refine LeO.ite ?_ ?_
      | refine LeO.bind ?_ (fun _ => ?_)
set_option maxHeartbeats 8000000 in
set_option maxRecDepth 100000 in
theorem spec_l1Acct.calls (k : Nat) (g : Nat) (s0_0 : List Int) (s0_1 : Int) (r1 : ByteArray) (r2 : Int) (w0 w : World) (hI : IsS74 w0 w g s0_0 s0_1) (hB : Below w0.heap.size w0 w) (h : spec_l1Acct.f k s0_0 s0_1 = some (r1, r2)) :
    Calls Try.prog 45 #[.pointer (some ⟨g, 0, none⟩)] w fun e w' => e = .returned (.string r1) ∧ IsS74 w0 w' g s0_0 r2 ∧ Below w0.heap.size w0 w' ∧ KeepBut w w' g none := by
  have HI0 := Aside0.mk hI
  have HK := Aside0.mk (KeepBut.refl w g none)
  have HL := Aside0.mk hB.size
  clear hI
  have HW0 := Aside0.mk hB.size
  have HB := Aside0.mk hB
  clear hB
  have H : ((spec_l9Rd_of.f k s0_0 s0_1 (([(⟨#[97]⟩ : ByteArray), (⟨#[98]⟩ : ByteArray), (⟨#[97, 98]⟩ : ByteArray), (⟨#[99]⟩ : ByteArray), (⟨#[99, 97, 115, 104]⟩ : ByteArray), (⟨#[97, 97]⟩ : ByteArray)] : List ByteArray))).bind fun bt135 => (some (bt135.1, bt135.2))) = some (r1, r2) := h
  clear h
  obtain ⟨y132, hy132⟩ : ∃ y_ : List ByteArray, y_ = (([(⟨#[97]⟩ : ByteArray), (⟨#[98]⟩ : ByteArray), (⟨#[97, 98]⟩ : ByteArray), (⟨#[99]⟩ : ByteArray), (⟨#[99, 97, 115, 104]⟩ : ByteArray), (⟨#[97, 97]⟩ : ByteArray)] : List ByteArray)) := ⟨_, rfl⟩
  replace H : ((spec_l9Rd_of.f k s0_0 s0_1 y132).bind fun bt135 => (some (bt135.1, bt135.2))) = some (r1, r2) := by first | (rw [hy132]; with_reducible exact H) | (have H2_ := (Option.bind_some _ _).symm.trans H; rw [hy132]; with_reducible exact H2_) | (have H2_ := (Option.bind_some _ _).symm.trans H; with_reducible exact H2_) | with_reducible exact H | (rw [hy132]; exact H) | exact H
  have Ny132 := Aside0.mk hy132
  clear hy132
  replace H := Option.bind_eq_some_iff.mp H
  obtain ⟨⟨t135, t136⟩, A20, H⟩ := H
  replace H : (some (t135, t136)) = some (r1, r2) := H
  have A2 := Aside0.mk A20
  clear A20
  simp only [Option.some.injEq, Prod.mk.injEq] at H
  obtain ⟨rfl, rfl⟩ := H
  go_enter Try.func45, Try.ntmps45
  go_wp2_with (first | ((with_reducible refine gate_dst (N := 4) rfl ?_); refine Kd.R_lit Kd.string _ 9 ?hg (N := 4) ?hd (xs := ([(⟨#[97]⟩ : ByteArray), (⟨#[98]⟩ : ByteArray), (⟨#[97, 98]⟩ : ByteArray), (⟨#[99]⟩ : ByteArray), (⟨#[99, 97, 115, 104]⟩ : ByteArray), (⟨#[97, 97]⟩ : ByteArray)] : List ByteArray)) (inner := [.string (⟨#[97]⟩ : ByteArray), .string (⟨#[98]⟩ : ByteArray), .string (⟨#[97, 98]⟩ : ByteArray), .string (⟨#[99]⟩ : ByteArray), .string (⟨#[99, 97, 115, 104]⟩ : ByteArray), .string (⟨#[97, 97]⟩ : ByteArray)]) (ok := fun _ => True) (okp := fun _ => True) ?hr ?hp (fun _ hk => hk) trivial (Below.refl _ _) (Nat.le_refl _) (by simp) ?_; (case hd => rfl); (case hg => rfl); (case hr => first | (go_simp; done) | (go_simp; rfl)); (case hp => exact (Reps.one (show Kd.M Kd.string _ _ _ (⟨#[97]⟩ : ByteArray) [.string (⟨#[97]⟩ : ByteArray)] from rfl) (Reps.one (show Kd.M Kd.string _ _ _ (⟨#[98]⟩ : ByteArray) [.string (⟨#[98]⟩ : ByteArray)] from rfl) (Reps.one (show Kd.M Kd.string _ _ _ (⟨#[97, 98]⟩ : ByteArray) [.string (⟨#[97, 98]⟩ : ByteArray)] from rfl) (Reps.one (show Kd.M Kd.string _ _ _ (⟨#[99]⟩ : ByteArray) [.string (⟨#[99]⟩ : ByteArray)] from rfl) (Reps.one (show Kd.M Kd.string _ _ _ (⟨#[99, 97, 115, 104]⟩ : ByteArray) [.string (⟨#[99, 97, 115, 104]⟩ : ByteArray)] from rfl) (Reps.one (show Kd.M Kd.string _ _ _ (⟨#[97, 97]⟩ : ByteArray) [.string (⟨#[97, 97]⟩ : ByteArray)] from rfl) (Reps.none _ _)))))))); intro v133 w3 ho4 hb hg_ hnew_; clear hg_ hnew_; (first | rw [← Ny132.out] at ho4 | (simp only [Int.reduceToNat] at ho4; rw [← Ny132.out] at ho4)); have n0_ := Aside0.mk (Kd.R_lower ho4 (keep_size (w := w) (g := g) (row := none) (by repeat (first | (with_reducible first | exact HK.out | apply KeepBut.set_ | apply keep_drewN | apply keep_drew | apply keep_alloc) | exact HK.out)))); have n1_ := Aside0.mk (IsS74.below (by repeat (first | (with_reducible first | exact HI0.out | apply IsS74.alloc | apply IsS74.drewN | apply IsS74.drew | apply IsS74.set_1) | exact HI0.out)) hb); have n2_ := Aside0.mk (KeepBut.trans (by repeat (first | (with_reducible first | exact HK.out | apply KeepBut.set_ | apply keep_drewN | apply keep_drew | apply keep_alloc) | exact HK.out)) (KeepBut.of_below hb g none) (.inl rfl)); have n3_ := Aside0.mk (below_step (by repeat (first | (with_reducible first | exact HB.out | apply below_alloc | apply pw_below_drewN | apply below_drew1 | refine below_set ?_ (IsS74.ge HI0.out)) | exact HB.out)) hb); clear HI0; clear HK; clear HB; have HO134 := n0_; have HI0 := n1_; have HK := n2_; have HB := n3_; clear n0_ n1_ n2_ n3_; clear hb ho4; obtain ⟨Ao5, co5, eo5⟩ := Kd.R_slice HO134.out; subst eo5) | ((with_reducible refine gate_callee (f := 44) rfl ?_); refine goesL_ (some 5) rfl rfl Try.func44 (by kernel_rfl) rfl #[.pointer (some ⟨g, 0, none⟩), .slice Ao5 y132.length co5] rfl (by (try simp only [List.map_toArray, List.map_cons, List.map_nil]); first | done | rfl | (simp only [List.length_drop, List.length_take]; rfl)) ?_; (with_reducible refine (spec_l9Rd_of.calls k g s0_0 s0_1 _ _ y132 t135 t136 w0 _ ?side1 ?side2 ?side3 ?side4 ?side5 A2.out).mono ?_); (case side1 => repeat (first | (with_reducible first | exact HI0.out | apply IsS74.alloc | apply IsS74.drewN | apply IsS74.drew | apply IsS74.set_1) | exact HI0.out)); (case side2 => repeat (first | (with_reducible first | exact HB.out | apply below_alloc | apply pw_below_drewN | apply below_drew1 | refine below_set ?_ (IsS74.ge HI0.out)) | exact HB.out)); (case side3 => repeat (first | exact (Kd.R_reads' HO134.out).2.2 | (with_reducible refine Kd.C_alloc ?_ _) | (with_reducible refine Kd.C_drewN ?_ _) | (with_reducible refine Kd.C_drew ?_))); (case side4 => exact (Kd.R_reads' HO134.out).2.1); (case side5 => exact far_slice (IsS74.own_ne HI0.out HO134.out (by decide))); rintro e w6 ⟨rfl, hi, hb, hk⟩; refine ⟨_, rfl, ?_⟩; have n0_ := Aside0.mk (Kd.R_mono (Kd.R_keep (IsS74.apart (show IsS74 w0 _ g s0_0 s0_1 from by repeat (first | (with_reducible first | exact HI0.out | apply IsS74.alloc | apply IsS74.drewN | apply IsS74.drew | apply IsS74.set_1) | exact HI0.out)) (by (with_reducible repeat (first | apply Kd.R_alloc | apply Kd.R_drewN | apply Kd.R_drew)); exact HO134.out) (by decide)) hk (fun _ h => h.2)) (fun _ h => h.1)); have n1_ := Aside0.mk (KeepBut.trans (by repeat (first | (with_reducible first | exact HK.out | apply KeepBut.set_ | apply keep_drewN | apply keep_drew | apply keep_alloc) | exact HK.out)) hk (.inl rfl)); have n2_ := Aside0.mk (hb); have n3_ := Aside0.mk (hi); clear HO134; clear HK; clear HB; clear HI0; have HO134 := n0_; have HK := n1_; have HB := n2_; have HI0 := n3_; clear n0_ n1_ n2_ n3_; (try clear hb); (try clear hb2); (try clear hk); (try clear hi)))
  go_ret
  exact ⟨by first | rfl | (simp [errW_none, errW_some] <;> rfl) | (simp [*, errW_none, errW_some] <;> rfl), by repeat (first | (with_reducible first | exact HI0.out | apply IsS74.alloc | apply IsS74.drewN | apply IsS74.drew | apply IsS74.set_1) | exact HI0.out), by repeat (first | (with_reducible first | exact HB.out | apply below_alloc | apply pw_below_drewN | apply below_drew1 | refine below_set ?_ (IsS74.ge HI0.out)) | exact HB.out), by repeat (first | (with_reducible first | exact HK.out | apply KeepBut.set_ | apply keep_drewN | apply keep_drew | apply keep_alloc) | exact HK.out)⟩

/-! ### spec_l9Rd_num: function 46 -/
def spec_l9Rd_num.f (k : Nat) (s0_0 : List Int) (s0_1 : Int) (l1 : List Int) : Option (Int × Int) := (spec_l9Rd_pick.f k s0_0 s0_1 (l1.length : Int)).bind fun bt137 => (if 0 ≤ bt137.1 then (if bt137.1 < (l1.length : Int) then (some (rd l1 bt137.1, bt137.2)) else (none)) else (none))
theorem spec_l9Rd_num.mono : ∀ a0 a1 a2 k, LeO (spec_l9Rd_num.f k a0 a1 a2) (spec_l9Rd_num.f (k + 1) a0 a1 a2) := by
  intro a0 a1 a2 k
  unfold spec_l9Rd_num.f
  repeat' first
      | (with_reducible exact spec_l9Rd_pick.mono _ _ _ _)
      | (with_reducible exact LeO.refl _)
      | (with_reducible exact LeO.none _)
      | (with_reducible refine LeO.ite ?_ ?_)
      | (with_reducible refine LeO.bind ?_ (fun _ => ?_))
      | exact spec_l9Rd_pick.mono _ _ _ _
      | exact LeO.none _
      | refine LeO.ite ?_ ?_
      | refine LeO.bind ?_ (fun _ => ?_)
set_option maxHeartbeats 8000000 in
set_option maxRecDepth 100000 in
theorem spec_l9Rd_num.calls (k : Nat) (g : Nat) (s0_0 : List Int) (s0_1 : Int) (A1 : Option Addr) (c1 : Nat) (l1 : List Int) (r1 : Int) (r2 : Int) (w0 w : World) (hI : IsS74 w0 w g s0_0 s0_1) (hB : Below w0.heap.size w0 w) (hr1 : Kd.C (Kd.int .i64) w A1 l1.length l1) (hc1 : l1.length ≤ c1) (hf1 : ∀ ad, A1 = some ad → 0 < l1.length → ad.block ≠ g) (h : spec_l9Rd_num.f k s0_0 s0_1 l1 = some (r1, r2)) :
    Calls Try.prog 46 #[.pointer (some ⟨g, 0, none⟩), .slice A1 l1.length c1] w fun e w' => e = .returned (.int .i64 r1) ∧ IsS74 w0 w' g s0_0 r2 ∧ Below w0.heap.size w0 w' ∧ KeepBut w w' g none := by
  have HR1 := Aside0.mk hr1
  have HC1 := Aside0.mk hc1
  clear hr1 hc1
  have HI0 := Aside0.mk hI
  have HK := Aside0.mk (KeepBut.refl w g none)
  have HL := Aside0.mk hB.size
  clear hI
  have HW0 := Aside0.mk hB.size
  have HB := Aside0.mk hB
  clear hB
  have H : ((spec_l9Rd_pick.f k s0_0 s0_1 (l1.length : Int)).bind fun bt137 => (if 0 ≤ bt137.1 then (if bt137.1 < (l1.length : Int) then (some (rd l1 bt137.1, bt137.2)) else (none)) else (none))) = some (r1, r2) := h
  clear h
  replace H := Option.bind_eq_some_iff.mp H
  obtain ⟨⟨t137, t138⟩, A30, H⟩ := H
  replace H : (if 0 ≤ t137 then (if t137 < (l1.length : Int) then (some (rd l1 t137, t138)) else (none)) else (none)) = some (r1, r2) := H
  have A3 := Aside0.mk A30
  clear A30
  by_cases c4 : 0 ≤ t137
  · rw [if_pos c4] at H
    have c4b0 : decide (0 ≤ t137) = true := decide_eq_true c4
    clear c4
    by_cases c5 : t137 < (l1.length : Int)
    · rw [if_pos c5] at H
      have c5b0 : decide (t137 < (l1.length : Int)) = true := decide_eq_true c5
      clear c5
      simp only [Option.some.injEq, Prod.mk.injEq] at H
      obtain ⟨rfl, rfl⟩ := H
      go_enter Try.func46, Try.ntmps46
      go_wp2_with (first | ((with_reducible refine gate_callee (f := 43) rfl ?_); refine goesL_ (some 9) rfl rfl Try.func43 (by kernel_rfl) rfl #[.pointer (some ⟨g, 0, none⟩), .int .i64 (l1.length : Int)] rfl (by (try simp only [List.map_toArray, List.map_cons, List.map_nil]); first | done | rfl | (simp only [List.length_drop, List.length_take]; rfl)) ?_; (with_reducible refine (spec_l9Rd_pick.calls k g s0_0 s0_1 (l1.length : Int) t137 t138 w0 _ ?side1 ?side2 A3.out).mono ?_); (case side1 => repeat (first | (with_reducible first | exact HI0.out | apply IsS74.alloc | apply IsS74.drewN | apply IsS74.drew | apply IsS74.set_1) | exact HI0.out)); (case side2 => repeat (first | (with_reducible first | exact HB.out | apply below_alloc | apply pw_below_drewN | apply below_drew1 | refine below_set ?_ (IsS74.ge HI0.out)) | exact HB.out)); rintro e w6 ⟨rfl, hi, hb, hk⟩; refine ⟨_, rfl, ?_⟩; have n0_ := Aside0.mk (KeepBut.trans (by repeat (first | (with_reducible first | exact HK.out | apply KeepBut.set_ | apply keep_drewN | apply keep_drew | apply keep_alloc) | exact HK.out)) hk (.inl rfl)); have n1_ := Aside0.mk (hb); have n2_ := Aside0.mk (hi); clear HK; clear HB; clear HI0; have HK := n0_; have HB := n1_; have HI0 := n2_; clear n0_ n1_ n2_; (try clear hb); (try clear hb2); (try clear hk); (try clear hi); have p139 : 0 ≤ (t137 : Int) := of_decide_eq_true (by first | (with_reducible assumption) | assumption); have q139 : t137 < (l1.length : Int) := of_decide_eq_true (by first | (with_reducible assumption) | assumption); obtain ⟨ad139, e139, hx139_0⟩ := Kd.at_int HR1.out t137 p139 q139; cases e139; replace hx139_0 := keep_cell HK.out hx139_0 (by first | (rw [add_block]; exact hf1 _ rfl (by omega)) | exact hf1 _ rfl (by omega) | exact hf1 ad139 rfl (by omega)); replace p139 := eq_true p139; replace q139 := eq_true q139))
      go_ret
      exact ⟨by first | rfl | (simp [errW_none, errW_some] <;> rfl) | (simp [*, errW_none, errW_some] <;> rfl), by repeat (first | (with_reducible first | exact HI0.out | apply IsS74.alloc | apply IsS74.drewN | apply IsS74.drew | apply IsS74.set_1) | exact HI0.out), by repeat (first | (with_reducible first | exact HB.out | apply below_alloc | apply pw_below_drewN | apply below_drew1 | refine below_set ?_ (IsS74.ge HI0.out)) | exact HB.out), by repeat (first | (with_reducible first | exact HK.out | apply KeepBut.set_ | apply keep_drewN | apply keep_drew | apply keep_alloc) | exact HK.out)⟩
    · rw [if_neg c5] at H
      exact absurd H (by simp)
  · rw [if_neg c4] at H
    exact absurd H (by simp)

/-! ### spec_l1Post: function 41 -/
def spec_l1Post.f (k : Nat) (s0_0 : List Int) (s0_1 : Int) : Option (Int × (List (S41)) × Int) := (spec_l9Rd_pick.f k s0_0 s0_1 14).bind fun bt141 => ((spec_l9Rd_num.f k s0_0 bt141.2 (([5, 20, 100, 700, 1, 300, 1000] : List Int))).bind fun bt147 => ((spec_l9Rd_pick.f k s0_0 bt147.2 3).bind fun bt149 => ((spec_l1Acct.f k s0_0 bt149.2).bind fun bt151 => ((spec_l1Acct.f k s0_0 bt151.2).bind fun bt153 => ((some (([(⟨bt151.1, wrap64 (1 + bt149.1), bt147.1⟩ : S41), (⟨bt153.1, wrap64 (1 + bt149.1), wrap64 (-bt147.1)⟩ : S41)] : List (S41)) : List (S41))).bind fun y155 => ((spec_l9Rd_pick.f k s0_0 bt153.2 5).bind fun bt158 => (if bt158.1 = 0 then ((spec_l9Rd_pick.f k s0_0 bt158.2 3).bind fun bt160 => ((spec_l1Acct.f k s0_0 bt160.2).bind fun bt162 => ((spec_l1Acct.f k s0_0 bt162.2).bind fun bt164 => ((some (([(⟨bt162.1, wrap64 (1 + bt160.1), 7⟩ : S41), (⟨bt164.1, wrap64 (1 + bt160.1), (-7)⟩ : S41)] : List (S41)) : List (S41))).bind fun y166 => (if y155.length + y166.length < 4398046511104 then (some (bt141.1, (y155 ++ y166), bt164.2)) else (none)))))) else (if bt158.1 = 1 then (if bt147.1 > 1 then (if 1 < (y155.length : Int) then ((some (y155.set (1 : Int).toNat (⟨(rd_T41 y155 1).f0, (rd_T41 y155 1).f1, wrap64 (1 - bt147.1)⟩ : S41) : List (S41))).bind fun y172 => ((spec_l1Acct.f k s0_0 bt158.2).bind fun bt173 => (if y172.length < 4398046511104 then (some (bt141.1, (y172 ++ [(⟨bt173.1, wrap64 (1 + bt149.1), (-1)⟩ : S41)]), bt173.2)) else (none)))) else (none)) else (some (bt141.1, y155, bt158.2))) else (some (bt141.1, y155, bt158.2))))))))))
theorem spec_l1Post.mono : ∀ a0 a1 k, LeO (spec_l1Post.f k a0 a1) (spec_l1Post.f (k + 1) a0 a1) := by
  intro a0 a1 k
  unfold spec_l1Post.f
  repeat' first
      | (with_reducible exact spec_l1Acct.mono _ _ _)
      | (with_reducible exact spec_l9Rd_num.mono _ _ _ _)
      | (with_reducible exact spec_l9Rd_pick.mono _ _ _ _)
      | (with_reducible exact LeO.refl _)
      | (with_reducible exact LeO.none _)
      | (with_reducible refine LeO.ite ?_ ?_)
      | (with_reducible refine LeO.bind ?_ (fun _ => ?_))
      | exact spec_l1Acct.mono _ _ _
      | exact spec_l9Rd_num.mono _ _ _ _
      | exact spec_l9Rd_pick.mono _ _ _ _
      | exact LeO.none _
      | refine LeO.ite ?_ ?_
      | refine LeO.bind ?_ (fun _ => ?_)
def spec_l1Post.T8 : Bool × List (List Nat × List Nat) := (true, [([], []), ([0], [0]), ([], []), ([2], [2]), ([], []), ([3, 4], [3, 4]), ([], []), ([6, 3], [6]), ([], []), ([7, 8], [7, 8]), ([5, 9], [5, 9]), ([1, 10, 7], [1, 10]), ([0, 1, 2, 3, 4, 5, 6, 7, 8, 9, 10, 11], []), ([12, 11, 11, 0, 1, 2, 3, 4, 5, 6, 7, 8, 9, 10, 11], [11, 12])])
def spec_l1Post.B8 : List Nat := [0, 1, 0, 4, 0, 28, 0, 76, 0, 460, 1020, 2047, 4095, 8191]
theorem spec_l1Post.tab8 : rtab .any (opsOf Try.f41 8) = spec_l1Post.T8 := by kernel_rfl
theorem spec_l1Post.bits8 : waitsOk spec_l1Post.T8.2 spec_l1Post.B8 = true := by kernel_rfl
def spec_l1Post.T12 : Bool × List (List Nat × List Nat) := (true, [([], []), ([0], [0]), ([], []), ([2], [2]), ([], []), ([3, 4], [3, 4]), ([5], [5]), ([1, 6, 3], [1, 6]), ([0, 1, 2, 3, 4, 5, 6, 7], []), ([8, 7, 7, 0, 1, 2, 3, 4, 5, 6, 7], [7, 8])])
def spec_l1Post.B12 : List Nat := [0, 1, 0, 4, 0, 28, 60, 127, 255, 511]
theorem spec_l1Post.tab12 : rtab .any (opsOf Try.f41 12) = spec_l1Post.T12 := by kernel_rfl
theorem spec_l1Post.bits12 : waitsOk spec_l1Post.T12.2 spec_l1Post.B12 = true := by kernel_rfl
theorem spec_l1Post_vb {p q : Prop} (h : Aside0 p) (k : p → q := by (intro hz; (with_reducible repeat (first | refine blk_drewN ?_ _ | refine blk_drew ?_ | refine blk_alloc ?_ _)); exact hz)) : q := k h.out
theorem spec_l1Post_auHI0 {q : Prop} (h : q := by (repeat (first | (with_reducible first | exact HI0.out | apply IsS74.alloc | apply IsS74.drewN | apply IsS74.drew | apply IsS74.set_1 | refine IsS74.far ?_ NB0_140.out _ | refine IsS74.far ?_ NB0_143.out _) | exact HI0.out))) : q := h
theorem spec_l1Post_auHK {q : Prop} (h : q := by (repeat (first | (with_reducible first | exact HK.out | apply KeepBut.set_ | apply keep_drewN | apply keep_drew | apply keep_alloc | refine keep_far ?_ GW140.out _ | refine keep_far ?_ GW143.out _) | exact HK.out))) : q := h
theorem spec_l1Post_auHB {q : Prop} (h : q := by (repeat (first | (with_reducible first | exact HB.out | apply below_alloc | apply pw_below_drewN | apply below_drew1 | refine below_set ?_ (IsS74.ge HI0.out) | refine below_set ?_ GE140.out | refine below_set ?_ GE143.out) | exact HB.out))) : q := h
set_option maxHeartbeats 8000000 in
set_option maxRecDepth 100000 in
theorem spec_l1Post.calls (k : Nat) (g : Nat) (s0_0 : List Int) (s0_1 : Int) (r1 : Int) (r2 : List (S41)) (r3 : Int) (w0 w : World) (hI : IsS74 w0 w g s0_0 s0_1) (hB : Below w0.heap.size w0 w) (h : spec_l1Post.f k s0_0 s0_1 = some (r1, r2, r3)) :
  Calls Try.prog 41 #[.pointer (some ⟨g, 0, none⟩)] w fun e w' => ∃ v1_ : Value, e = .returned (.agg #[.int .i64 r1, v1_]) ∧ Kd.R k41 41 w' w.heap.size (fun _ => True) v1_ r2 ∧ IsS74 w0 w' g s0_0 r3 ∧ Below w0.heap.size w0 w' ∧ KeepBut w w' g none := by
 have hu29 := Try.underlying29
 have hu41 := Try.underlying41
 have HI0 := Aside0.mk hI
 have HK := Aside0.mk (KeepBut.refl w g none)
 have HL := Aside0.mk hB.size
 clear hI
 have HW0 := Aside0.mk hB.size
 have HB := Aside0.mk hB
 clear hB
 have H : ((spec_l9Rd_pick.f k s0_0 s0_1 14).bind fun bt141 => ((spec_l9Rd_num.f k s0_0 bt141.2 (([5, 20, 100, 700, 1, 300, 1000] : List Int))).bind fun bt147 => ((spec_l9Rd_pick.f k s0_0 bt147.2 3).bind fun bt149 => ((spec_l1Acct.f k s0_0 bt149.2).bind fun bt151 => ((spec_l1Acct.f k s0_0 bt151.2).bind fun bt153 => ((some (([(⟨bt151.1, wrap64 (1 + bt149.1), bt147.1⟩ : S41), (⟨bt153.1, wrap64 (1 + bt149.1), wrap64 (-bt147.1)⟩ : S41)] : List (S41)) : List (S41))).bind fun y155 => ((spec_l9Rd_pick.f k s0_0 bt153.2 5).bind fun bt158 => (if bt158.1 = 0 then ((spec_l9Rd_pick.f k s0_0 bt158.2 3).bind fun bt160 => ((spec_l1Acct.f k s0_0 bt160.2).bind fun bt162 => ((spec_l1Acct.f k s0_0 bt162.2).bind fun bt164 => ((some (([(⟨bt162.1, wrap64 (1 + bt160.1), 7⟩ : S41), (⟨bt164.1, wrap64 (1 + bt160.1), (-7)⟩ : S41)] : List (S41)) : List (S41))).bind fun y166 => (if y155.length + y166.length < 4398046511104 then (some (bt141.1, (y155 ++ y166), bt164.2)) else (none)))))) else (if bt158.1 = 1 then (if bt147.1 > 1 then (if 1 < (y155.length : Int) then ((some (y155.set (1 : Int).toNat (⟨(rd_T41 y155 1).f0, (rd_T41 y155 1).f1, wrap64 (1 - bt147.1)⟩ : S41) : List (S41))).bind fun y172 => ((spec_l1Acct.f k s0_0 bt158.2).bind fun bt173 => (if y172.length < 4398046511104 then (some (bt141.1, (y172 ++ [(⟨bt173.1, wrap64 (1 + bt149.1), (-1)⟩ : S41)]), bt173.2)) else (none)))) else (none)) else (some (bt141.1, y155, bt158.2))) else (some (bt141.1, y155, bt158.2))))))))))) = some (r1, r2, r3) := h
 clear h
 replace H := Option.bind_eq_some_iff.mp H
 obtain ⟨⟨t141, t142⟩, A20, H⟩ := H
 replace H : ((spec_l9Rd_num.f k s0_0 t142 (([5, 20, 100, 700, 1, 300, 1000] : List Int))).bind fun bt147 => ((spec_l9Rd_pick.f k s0_0 bt147.2 3).bind fun bt149 => ((spec_l1Acct.f k s0_0 bt149.2).bind fun bt151 => ((spec_l1Acct.f k s0_0 bt151.2).bind fun bt153 => ((some (([(⟨bt151.1, wrap64 (1 + bt149.1), bt147.1⟩ : S41), (⟨bt153.1, wrap64 (1 + bt149.1), wrap64 (-bt147.1)⟩ : S41)] : List (S41)) : List (S41))).bind fun y155 => ((spec_l9Rd_pick.f k s0_0 bt153.2 5).bind fun bt158 => (if bt158.1 = 0 then ((spec_l9Rd_pick.f k s0_0 bt158.2 3).bind fun bt160 => ((spec_l1Acct.f k s0_0 bt160.2).bind fun bt162 => ((spec_l1Acct.f k s0_0 bt162.2).bind fun bt164 => ((some (([(⟨bt162.1, wrap64 (1 + bt160.1), 7⟩ : S41), (⟨bt164.1, wrap64 (1 + bt160.1), (-7)⟩ : S41)] : List (S41)) : List (S41))).bind fun y166 => (if y155.length + y166.length < 4398046511104 then (some (t141, (y155 ++ y166), bt164.2)) else (none)))))) else (if bt158.1 = 1 then (if bt147.1 > 1 then (if 1 < (y155.length : Int) then ((some (y155.set (1 : Int).toNat (⟨(rd_T41 y155 1).f0, (rd_T41 y155 1).f1, wrap64 (1 - bt147.1)⟩ : S41) : List (S41))).bind fun y172 => ((spec_l1Acct.f k s0_0 bt158.2).bind fun bt173 => (if y172.length < 4398046511104 then (some (t141, (y172 ++ [(⟨bt173.1, wrap64 (1 + bt149.1), (-1)⟩ : S41)]), bt173.2)) else (none)))) else (none)) else (some (t141, y155, bt158.2))) else (some (t141, y155, bt158.2)))))))))) = some (r1, r2, r3) := H
 have A2 := Aside0.mk A20
 clear A20
 obtain ⟨y144, hy144⟩ : ∃ y_ : List Int, y_ = (([5, 20, 100, 700, 1, 300, 1000] : List Int)) := ⟨_, rfl⟩
 replace H : ((spec_l9Rd_num.f k s0_0 t142 y144).bind fun bt147 => ((spec_l9Rd_pick.f k s0_0 bt147.2 3).bind fun bt149 => ((spec_l1Acct.f k s0_0 bt149.2).bind fun bt151 => ((spec_l1Acct.f k s0_0 bt151.2).bind fun bt153 => ((some (([(⟨bt151.1, wrap64 (1 + bt149.1), bt147.1⟩ : S41), (⟨bt153.1, wrap64 (1 + bt149.1), wrap64 (-bt147.1)⟩ : S41)] : List (S41)) : List (S41))).bind fun y155 => ((spec_l9Rd_pick.f k s0_0 bt153.2 5).bind fun bt158 => (if bt158.1 = 0 then ((spec_l9Rd_pick.f k s0_0 bt158.2 3).bind fun bt160 => ((spec_l1Acct.f k s0_0 bt160.2).bind fun bt162 => ((spec_l1Acct.f k s0_0 bt162.2).bind fun bt164 => ((some (([(⟨bt162.1, wrap64 (1 + bt160.1), 7⟩ : S41), (⟨bt164.1, wrap64 (1 + bt160.1), (-7)⟩ : S41)] : List (S41)) : List (S41))).bind fun y166 => (if y155.length + y166.length < 4398046511104 then (some (t141, (y155 ++ y166), bt164.2)) else (none)))))) else (if bt158.1 = 1 then (if bt147.1 > 1 then (if 1 < (y155.length : Int) then ((some (y155.set (1 : Int).toNat (⟨(rd_T41 y155 1).f0, (rd_T41 y155 1).f1, wrap64 (1 - bt147.1)⟩ : S41) : List (S41))).bind fun y172 => ((spec_l1Acct.f k s0_0 bt158.2).bind fun bt173 => (if y172.length < 4398046511104 then (some (t141, (y172 ++ [(⟨bt173.1, wrap64 (1 + bt149.1), (-1)⟩ : S41)]), bt173.2)) else (none)))) else (none)) else (some (t141, y155, bt158.2))) else (some (t141, y155, bt158.2)))))))))) = some (r1, r2, r3) := by first | (rw [hy144]; with_reducible exact H) | (have H2_ := (Option.bind_some _ _).symm.trans H; rw [hy144]; with_reducible exact H2_) | (have H2_ := (Option.bind_some _ _).symm.trans H; with_reducible exact H2_) | with_reducible exact H | (rw [hy144]; exact H) | exact H
 have Ny144 := Aside0.mk hy144
 clear hy144
 replace H := Option.bind_eq_some_iff.mp H
 obtain ⟨⟨t147, t148⟩, A30, H⟩ := H
 replace H : ((spec_l9Rd_pick.f k s0_0 t148 3).bind fun bt149 => ((spec_l1Acct.f k s0_0 bt149.2).bind fun bt151 => ((spec_l1Acct.f k s0_0 bt151.2).bind fun bt153 => ((some (([(⟨bt151.1, wrap64 (1 + bt149.1), t147⟩ : S41), (⟨bt153.1, wrap64 (1 + bt149.1), wrap64 (-t147)⟩ : S41)] : List (S41)) : List (S41))).bind fun y155 => ((spec_l9Rd_pick.f k s0_0 bt153.2 5).bind fun bt158 => (if bt158.1 = 0 then ((spec_l9Rd_pick.f k s0_0 bt158.2 3).bind fun bt160 => ((spec_l1Acct.f k s0_0 bt160.2).bind fun bt162 => ((spec_l1Acct.f k s0_0 bt162.2).bind fun bt164 => ((some (([(⟨bt162.1, wrap64 (1 + bt160.1), 7⟩ : S41), (⟨bt164.1, wrap64 (1 + bt160.1), (-7)⟩ : S41)] : List (S41)) : List (S41))).bind fun y166 => (if y155.length + y166.length < 4398046511104 then (some (t141, (y155 ++ y166), bt164.2)) else (none)))))) else (if bt158.1 = 1 then (if t147 > 1 then (if 1 < (y155.length : Int) then ((some (y155.set (1 : Int).toNat (⟨(rd_T41 y155 1).f0, (rd_T41 y155 1).f1, wrap64 (1 - t147)⟩ : S41) : List (S41))).bind fun y172 => ((spec_l1Acct.f k s0_0 bt158.2).bind fun bt173 => (if y172.length < 4398046511104 then (some (t141, (y172 ++ [(⟨bt173.1, wrap64 (1 + bt149.1), (-1)⟩ : S41)]), bt173.2)) else (none)))) else (none)) else (some (t141, y155, bt158.2))) else (some (t141, y155, bt158.2))))))))) = some (r1, r2, r3) := H
 have A3 := Aside0.mk A30
 clear A30
 replace H := Option.bind_eq_some_iff.mp H
 obtain ⟨⟨t149, t150⟩, A40, H⟩ := H
 replace H : ((spec_l1Acct.f k s0_0 t150).bind fun bt151 => ((spec_l1Acct.f k s0_0 bt151.2).bind fun bt153 => ((some (([(⟨bt151.1, wrap64 (1 + t149), t147⟩ : S41), (⟨bt153.1, wrap64 (1 + t149), wrap64 (-t147)⟩ : S41)] : List (S41)) : List (S41))).bind fun y155 => ((spec_l9Rd_pick.f k s0_0 bt153.2 5).bind fun bt158 => (if bt158.1 = 0 then ((spec_l9Rd_pick.f k s0_0 bt158.2 3).bind fun bt160 => ((spec_l1Acct.f k s0_0 bt160.2).bind fun bt162 => ((spec_l1Acct.f k s0_0 bt162.2).bind fun bt164 => ((some (([(⟨bt162.1, wrap64 (1 + bt160.1), 7⟩ : S41), (⟨bt164.1, wrap64 (1 + bt160.1), (-7)⟩ : S41)] : List (S41)) : List (S41))).bind fun y166 => (if y155.length + y166.length < 4398046511104 then (some (t141, (y155 ++ y166), bt164.2)) else (none)))))) else (if bt158.1 = 1 then (if t147 > 1 then (if 1 < (y155.length : Int) then ((some (y155.set (1 : Int).toNat (⟨(rd_T41 y155 1).f0, (rd_T41 y155 1).f1, wrap64 (1 - t147)⟩ : S41) : List (S41))).bind fun y172 => ((spec_l1Acct.f k s0_0 bt158.2).bind fun bt173 => (if y172.length < 4398046511104 then (some (t141, (y172 ++ [(⟨bt173.1, wrap64 (1 + t149), (-1)⟩ : S41)]), bt173.2)) else (none)))) else (none)) else (some (t141, y155, bt158.2))) else (some (t141, y155, bt158.2)))))))) = some (r1, r2, r3) := H
 have A4 := Aside0.mk A40
 clear A40
 replace H := Option.bind_eq_some_iff.mp H
 obtain ⟨⟨t151, t152⟩, A50, H⟩ := H
 replace H : ((spec_l1Acct.f k s0_0 t152).bind fun bt153 => ((some (([(⟨t151, wrap64 (1 + t149), t147⟩ : S41), (⟨bt153.1, wrap64 (1 + t149), wrap64 (-t147)⟩ : S41)] : List (S41)) : List (S41))).bind fun y155 => ((spec_l9Rd_pick.f k s0_0 bt153.2 5).bind fun bt158 => (if bt158.1 = 0 then ((spec_l9Rd_pick.f k s0_0 bt158.2 3).bind fun bt160 => ((spec_l1Acct.f k s0_0 bt160.2).bind fun bt162 => ((spec_l1Acct.f k s0_0 bt162.2).bind fun bt164 => ((some (([(⟨bt162.1, wrap64 (1 + bt160.1), 7⟩ : S41), (⟨bt164.1, wrap64 (1 + bt160.1), (-7)⟩ : S41)] : List (S41)) : List (S41))).bind fun y166 => (if y155.length + y166.length < 4398046511104 then (some (t141, (y155 ++ y166), bt164.2)) else (none)))))) else (if bt158.1 = 1 then (if t147 > 1 then (if 1 < (y155.length : Int) then ((some (y155.set (1 : Int).toNat (⟨(rd_T41 y155 1).f0, (rd_T41 y155 1).f1, wrap64 (1 - t147)⟩ : S41) : List (S41))).bind fun y172 => ((spec_l1Acct.f k s0_0 bt158.2).bind fun bt173 => (if y172.length < 4398046511104 then (some (t141, (y172 ++ [(⟨bt173.1, wrap64 (1 + t149), (-1)⟩ : S41)]), bt173.2)) else (none)))) else (none)) else (some (t141, y155, bt158.2))) else (some (t141, y155, bt158.2))))))) = some (r1, r2, r3) := H
 have A5 := Aside0.mk A50
 clear A50
 replace H := Option.bind_eq_some_iff.mp H
 obtain ⟨⟨t153, t154⟩, A60, H⟩ := H
 replace H : ((some (([(⟨t151, wrap64 (1 + t149), t147⟩ : S41), (⟨t153, wrap64 (1 + t149), wrap64 (-t147)⟩ : S41)] : List (S41)) : List (S41))).bind fun y155 => ((spec_l9Rd_pick.f k s0_0 t154 5).bind fun bt158 => (if bt158.1 = 0 then ((spec_l9Rd_pick.f k s0_0 bt158.2 3).bind fun bt160 => ((spec_l1Acct.f k s0_0 bt160.2).bind fun bt162 => ((spec_l1Acct.f k s0_0 bt162.2).bind fun bt164 => ((some (([(⟨bt162.1, wrap64 (1 + bt160.1), 7⟩ : S41), (⟨bt164.1, wrap64 (1 + bt160.1), (-7)⟩ : S41)] : List (S41)) : List (S41))).bind fun y166 => (if y155.length + y166.length < 4398046511104 then (some (t141, (y155 ++ y166), bt164.2)) else (none)))))) else (if bt158.1 = 1 then (if t147 > 1 then (if 1 < (y155.length : Int) then ((some (y155.set (1 : Int).toNat (⟨(rd_T41 y155 1).f0, (rd_T41 y155 1).f1, wrap64 (1 - t147)⟩ : S41) : List (S41))).bind fun y172 => ((spec_l1Acct.f k s0_0 bt158.2).bind fun bt173 => (if y172.length < 4398046511104 then (some (t141, (y172 ++ [(⟨bt173.1, wrap64 (1 + t149), (-1)⟩ : S41)]), bt173.2)) else (none)))) else (none)) else (some (t141, y155, bt158.2))) else (some (t141, y155, bt158.2)))))) = some (r1, r2, r3) := H
 have A6 := Aside0.mk A60
 clear A60
 obtain ⟨y155, hy155⟩ : ∃ y_ : List (S41), y_ = (([(⟨t151, wrap64 (1 + t149), t147⟩ : S41), (⟨t153, wrap64 (1 + t149), wrap64 (-t147)⟩ : S41)] : List (S41))) := ⟨_, rfl⟩
 replace H : ((spec_l9Rd_pick.f k s0_0 t154 5).bind fun bt158 => (if bt158.1 = 0 then ((spec_l9Rd_pick.f k s0_0 bt158.2 3).bind fun bt160 => ((spec_l1Acct.f k s0_0 bt160.2).bind fun bt162 => ((spec_l1Acct.f k s0_0 bt162.2).bind fun bt164 => ((some (([(⟨bt162.1, wrap64 (1 + bt160.1), 7⟩ : S41), (⟨bt164.1, wrap64 (1 + bt160.1), (-7)⟩ : S41)] : List (S41)) : List (S41))).bind fun y166 => (if y155.length + y166.length < 4398046511104 then (some (t141, (y155 ++ y166), bt164.2)) else (none)))))) else (if bt158.1 = 1 then (if t147 > 1 then (if 1 < (y155.length : Int) then ((some (y155.set (1 : Int).toNat (⟨(rd_T41 y155 1).f0, (rd_T41 y155 1).f1, wrap64 (1 - t147)⟩ : S41) : List (S41))).bind fun y172 => ((spec_l1Acct.f k s0_0 bt158.2).bind fun bt173 => (if y172.length < 4398046511104 then (some (t141, (y172 ++ [(⟨bt173.1, wrap64 (1 + t149), (-1)⟩ : S41)]), bt173.2)) else (none)))) else (none)) else (some (t141, y155, bt158.2))) else (some (t141, y155, bt158.2))))) = some (r1, r2, r3) := by first | (rw [hy155]; with_reducible exact H) | (have H2_ := (Option.bind_some _ _).symm.trans H; rw [hy155]; with_reducible exact H2_) | (have H2_ := (Option.bind_some _ _).symm.trans H; with_reducible exact H2_) | with_reducible exact H | (rw [hy155]; exact H) | exact H
 have Ny155 := Aside0.mk hy155
 clear hy155
 replace H := Option.bind_eq_some_iff.mp H
 obtain ⟨⟨t158, t159⟩, A70, H⟩ := H
 replace H : (if t158 = 0 then ((spec_l9Rd_pick.f k s0_0 t159 3).bind fun bt160 => ((spec_l1Acct.f k s0_0 bt160.2).bind fun bt162 => ((spec_l1Acct.f k s0_0 bt162.2).bind fun bt164 => ((some (([(⟨bt162.1, wrap64 (1 + bt160.1), 7⟩ : S41), (⟨bt164.1, wrap64 (1 + bt160.1), (-7)⟩ : S41)] : List (S41)) : List (S41))).bind fun y166 => (if y155.length + y166.length < 4398046511104 then (some (t141, (y155 ++ y166), bt164.2)) else (none)))))) else (if t158 = 1 then (if t147 > 1 then (if 1 < (y155.length : Int) then ((some (y155.set (1 : Int).toNat (⟨(rd_T41 y155 1).f0, (rd_T41 y155 1).f1, wrap64 (1 - t147)⟩ : S41) : List (S41))).bind fun y172 => ((spec_l1Acct.f k s0_0 t159).bind fun bt173 => (if y172.length < 4398046511104 then (some (t141, (y172 ++ [(⟨bt173.1, wrap64 (1 + t149), (-1)⟩ : S41)]), bt173.2)) else (none)))) else (none)) else (some (t141, y155, t159))) else (some (t141, y155, t159)))) = some (r1, r2, r3) := H
 have A7 := Aside0.mk A70
 clear A70
 by_cases c8 : t158 = 0
 ·
  rw [if_pos c8] at H
  have c8b0 : (t158 == 0) = true := beq_iff_eq.mpr c8
  have c8b1 : (t158 != 0) = false := bne_eq_false_iff_eq.mpr c8
  clear c8
  replace H := Option.bind_eq_some_iff.mp H
  obtain ⟨⟨t160, t161⟩, A90, H⟩ := H
  replace H : ((spec_l1Acct.f k s0_0 t161).bind fun bt162 => ((spec_l1Acct.f k s0_0 bt162.2).bind fun bt164 => ((some (([(⟨bt162.1, wrap64 (1 + t160), 7⟩ : S41), (⟨bt164.1, wrap64 (1 + t160), (-7)⟩ : S41)] : List (S41)) : List (S41))).bind fun y166 => (if y155.length + y166.length < 4398046511104 then (some (t141, (y155 ++ y166), bt164.2)) else (none))))) = some (r1, r2, r3) := H
  have A9 := Aside0.mk A90
  clear A90
  replace H := Option.bind_eq_some_iff.mp H
  obtain ⟨⟨t162, t163⟩, A100, H⟩ := H
  replace H : ((spec_l1Acct.f k s0_0 t163).bind fun bt164 => ((some (([(⟨t162, wrap64 (1 + t160), 7⟩ : S41), (⟨bt164.1, wrap64 (1 + t160), (-7)⟩ : S41)] : List (S41)) : List (S41))).bind fun y166 => (if y155.length + y166.length < 4398046511104 then (some (t141, (y155 ++ y166), bt164.2)) else (none)))) = some (r1, r2, r3) := H
  have A10 := Aside0.mk A100
  clear A100
  replace H := Option.bind_eq_some_iff.mp H
  obtain ⟨⟨t164, t165⟩, A110, H⟩ := H
  replace H : ((some (([(⟨t162, wrap64 (1 + t160), 7⟩ : S41), (⟨t164, wrap64 (1 + t160), (-7)⟩ : S41)] : List (S41)) : List (S41))).bind fun y166 => (if y155.length + y166.length < 4398046511104 then (some (t141, (y155 ++ y166), t165)) else (none))) = some (r1, r2, r3) := H
  have A11 := Aside0.mk A110
  clear A110
  obtain ⟨y166, hy166⟩ : ∃ y_ : List (S41), y_ = (([(⟨t162, wrap64 (1 + t160), 7⟩ : S41), (⟨t164, wrap64 (1 + t160), (-7)⟩ : S41)] : List (S41))) := ⟨_, rfl⟩
  replace H : (if y155.length + y166.length < 4398046511104 then (some (t141, (y155 ++ y166), t165)) else (none)) = some (r1, r2, r3) := by first | (rw [hy166]; with_reducible exact H) | (have H2_ := (Option.bind_some _ _).symm.trans H; rw [hy166]; with_reducible exact H2_) | (have H2_ := (Option.bind_some _ _).symm.trans H; with_reducible exact H2_) | with_reducible exact H | (rw [hy166]; exact H) | exact H
  have Ny166 := Aside0.mk hy166
  clear hy166
  by_cases c12 : y155.length + y166.length < 4398046511104
  ·
   rw [if_pos c12] at H
   have LMc12 := Aside0.mk c12
   clear c12
   obtain ⟨y169, hy169⟩ : ∃ y_ : List (S41), y_ = (y155 ++ y166) := ⟨_, rfl⟩
   replace H : (some (t141, y169, t165)) = some (r1, r2, r3) := by first | (rw [hy169]; with_reducible exact H) | (have H2_ := (Option.bind_some _ _).symm.trans H; rw [hy169]; with_reducible exact H2_) | (have H2_ := (Option.bind_some _ _).symm.trans H; with_reducible exact H2_) | with_reducible exact H | (rw [hy169]; exact H) | exact H
   have Ny169 := Aside0.mk hy169
   clear hy169
   simp only [Option.some.injEq, Prod.mk.injEq] at H
   obtain ⟨rfl, rfl, rfl⟩ := H
   go_enter Try.func41, Try.ntmps41
   try go_wp2_with (first | ((with_reducible refine gate_dst (N := 2) rfl ?_); refine box_event ?hg (N := 2) ?hd (cs := #[.int .i64 0, .slice none 0 0]) (t := 29) ?hr ?_; (case hd => rfl); (case hg => rfl); (case hr => first | (go_simp; done) | (go_simp; rfl)); intro gb140 hg w13 hbox hb; have n0_ := Aside0.mk (IsS74.below (spec_l1Post_auHI0) hb); have n1_ := Aside0.mk (KeepBut.trans (spec_l1Post_auHK) (KeepBut.of_below hb g none) (.inl rfl)); have n2_ := Aside0.mk (below_step (spec_l1Post_auHB) hb); have n3_ := Aside0.mk (hbox); have n4_ := Aside0.mk ((by rw [hg]; exact (keep_size (w := w) (g := g) (row := none) (spec_l1Post_auHK)) : w.heap.size ≤ gb140)); have n5_ := Aside0.mk ((Nat.le_trans HW0.out (by rw [hg]; exact (keep_size (w := w) (g := g) (row := none) (spec_l1Post_auHK)) : w.heap.size ≤ gb140) : w0.heap.size ≤ gb140)); have n6_ := Aside0.mk ((by rw [hg]; exact Nat.ne_of_lt (IsS74.lt (show IsS74 w0 _ g s0_0 s0_1 from spec_l1Post_auHI0)) : g ≠ gb140)); have n7_ := Aside0.mk ((by rw [hg]; exact Nat.ne_of_gt (IsS74.lt (show IsS74 w0 _ g s0_0 s0_1 from spec_l1Post_auHI0)) : gb140 ≠ g)); clear HI0; clear HK; clear HB; have HI0 := n0_; have HK := n1_; have HB := n2_; have BK140 := n3_; have GW140 := n4_; have GE140 := n5_; have NB0_140 := n6_; have NB140_0 := n7_; clear n0_ n1_ n2_ n3_ n4_ n5_ n6_ n7_; clear hb hbox hg) | ((with_reducible refine gate_callee (f := 43) rfl ?_); refine goesL_ (some 8) rfl rfl Try.func43 (by kernel_rfl) rfl #[.pointer (some ⟨g, 0, none⟩), .int .i64 14] rfl (by (try simp only [List.map_toArray, List.map_cons, List.map_nil]); first | done | rfl | (simp only [List.length_drop, List.length_take]; rfl)) ?_; (with_reducible refine (spec_l9Rd_pick.calls k g s0_0 s0_1 14 t141 t142 w0 _ ?side1 ?side2 A2.out).mono ?_); (case side1 => exact spec_l1Post_auHI0); (case side2 => exact spec_l1Post_auHB); rintro e w14 ⟨rfl, hi, hb, hk⟩; refine ⟨_, rfl, ?_⟩; have n0_ := Aside0.mk (KeepBut.blk hk (g' := gb140) (o := .cells #[.int .i64 0, .slice none 0 0] 29 (0, 0)) (spec_l1Post_vb BK140) NB140_0.out (by simp)); have n1_ := Aside0.mk (KeepBut.trans (spec_l1Post_auHK) hk (.inl rfl)); have n2_ := Aside0.mk (hb); have n3_ := Aside0.mk (hi); clear BK140; clear HK; clear HB; clear HI0; have BK140 := n0_; have HK := n1_; have HB := n2_; have HI0 := n3_; clear n0_ n1_ n2_ n3_; (try clear hb); (try clear hb2); (try clear hk); (try clear hi)) | ((with_reducible refine gate_dst (N := 3) rfl ?_); refine box_event ?hg (N := 3) ?hd (cs := #[.int .i64 0, .slice none 0 0]) (t := 29) ?hr ?_; (case hd => rfl); (case hg => rfl); (case hr => first | (go_simp; done) | (go_simp; rfl)); intro gb143 hg w15 hbox hb; have n0_ := Aside0.mk (IsS74.below (spec_l1Post_auHI0) hb); have n1_ := Aside0.mk (blk_below (g := gb140) (o := .cells #[.int .i64 0, .slice none 0 0] 29 (0, 0)) (spec_l1Post_vb BK140) hb); have n2_ := Aside0.mk (KeepBut.trans (spec_l1Post_auHK) (KeepBut.of_below hb g none) (.inl rfl)); have n3_ := Aside0.mk (below_step (spec_l1Post_auHB) hb); have n4_ := Aside0.mk (hbox); have n5_ := Aside0.mk ((by rw [hg]; exact (keep_size (w := w) (g := g) (row := none) (spec_l1Post_auHK)) : w.heap.size ≤ gb143)); have n6_ := Aside0.mk ((Nat.le_trans HW0.out (by rw [hg]; exact (keep_size (w := w) (g := g) (row := none) (spec_l1Post_auHK)) : w.heap.size ≤ gb143) : w0.heap.size ≤ gb143)); have n7_ := Aside0.mk ((by rw [hg]; exact Nat.ne_of_lt (blk_lt (g := gb140) (o := .cells #[.int .i64 0, .slice none 0 0] 29 (0, 0)) (spec_l1Post_vb BK140)) : gb140 ≠ gb143)); have n8_ := Aside0.mk ((by rw [hg]; exact Nat.ne_of_gt (blk_lt (g := gb140) (o := .cells #[.int .i64 0, .slice none 0 0] 29 (0, 0)) (spec_l1Post_vb BK140)) : gb143 ≠ gb140)); have n9_ := Aside0.mk ((by rw [hg]; exact Nat.ne_of_lt (IsS74.lt (show IsS74 w0 _ g s0_0 t142 from spec_l1Post_auHI0)) : g ≠ gb143)); have n10_ := Aside0.mk ((by rw [hg]; exact Nat.ne_of_gt (IsS74.lt (show IsS74 w0 _ g s0_0 t142 from spec_l1Post_auHI0)) : gb143 ≠ g)); clear HI0; clear BK140; clear HK; clear HB; have HI0 := n0_; have BK140 := n1_; have HK := n2_; have HB := n3_; have BK143 := n4_; have GW143 := n5_; have GE143 := n6_; have NB140_143 := n7_; have NB143_140 := n8_; have NB0_143 := n9_; have NB143_0 := n10_; clear n0_ n1_ n2_ n3_ n4_ n5_ n6_ n7_ n8_ n9_ n10_; clear hb hbox hg; have hnb16 := NB143_140.out; have hnc16 := NB140_143.out; have hnb17 := NB143_0.out; have hnc17 := NB0_143.out; have hcz18_0 : w15.cell? ⟨gb143, 0, none⟩ = some (.int .i64 0) := (blk_cell BK143.out 0).trans rfl; have hcz18_1 : w15.cell? ⟨gb143, 1, none⟩ = some (.slice none 0 0) := (blk_cell BK143.out 1).trans rfl; have hfz18_0 := blk_frozen BK143.out 0; have hfz18_1 := blk_frozen BK143.out 1) | ((with_reducible refine gate_dst (N := 11) rfl ?_); refine Kd.R_lit (Kd.int .i64) _ 3 ?hg (N := 11) ?hd (xs := ([5, 20, 100, 700, 1, 300, 1000] : List Int)) (inner := [.int .i64 5, .int .i64 20, .int .i64 100, .int .i64 700, .int .i64 1, .int .i64 300, .int .i64 1000]) (ok := fun _ => True) (okp := fun _ => True) ?hr ?hp (fun _ hk => hk) trivial (Below.refl _ _) (Nat.le_refl _) (by simp) ?_; (case hd => rfl); (case hg => rfl); (case hr => first | (go_simp; done) | (go_simp; rfl)); (case hp => exact (Reps.one (show Kd.M (Kd.int .i64) _ _ _ 5 [.int .i64 5] from rfl) (Reps.one (show Kd.M (Kd.int .i64) _ _ _ 20 [.int .i64 20] from rfl) (Reps.one (show Kd.M (Kd.int .i64) _ _ _ 100 [.int .i64 100] from rfl) (Reps.one (show Kd.M (Kd.int .i64) _ _ _ 700 [.int .i64 700] from rfl) (Reps.one (show Kd.M (Kd.int .i64) _ _ _ 1 [.int .i64 1] from rfl) (Reps.one (show Kd.M (Kd.int .i64) _ _ _ 300 [.int .i64 300] from rfl) (Reps.one (show Kd.M (Kd.int .i64) _ _ _ 1000 [.int .i64 1000] from rfl) (Reps.none _ _))))))))); intro v145 w19 ho20 hb hg_ hnew_; clear hg_ hnew_; (first | rw [← Ny144.out] at ho20 | (simp only [Int.reduceToNat] at ho20; rw [← Ny144.out] at ho20)); have n0_ := Aside0.mk (Kd.R_lower ho20 (keep_size (w := w) (g := g) (row := none) (spec_l1Post_auHK))); have n1_ := Aside0.mk (IsS74.below (show IsS74 w0 ((w15.setCell ⟨gb143, 0, none⟩ (.int .i64 t141)).setCell ⟨gb143, 1, none⟩ (.slice none 0 0)) g s0_0 t142 from spec_l1Post_auHI0) hb); have n2_ := Aside0.mk (blk_below (g := gb140) (o := .cells #[.int .i64 0, .slice none 0 0] 29 (0, 0)) (by (with_reducible repeat (first | refine blk_drewN ?_ _ | refine blk_drew ?_ | refine blk_alloc ?_ _)); refine blk_far ?_ NB140_143.out _; (with_reducible repeat (first | refine blk_drewN ?_ _ | refine blk_drew ?_ | refine blk_alloc ?_ _)); refine blk_far ?_ NB140_143.out _; (with_reducible repeat (first | refine blk_drewN ?_ _ | refine blk_drew ?_ | refine blk_alloc ?_ _)); exact BK140.out) hb); have n3_ := Aside0.mk (blk_below (g := gb143) (o := .cells #[.int .i64 t141, .slice none 0 0] 29 (0, 0)) (by (with_reducible repeat (first | refine blk_drewN ?_ _ | refine blk_drew ?_ | refine blk_alloc ?_ _)); refine blk_put (cs := #[.int .i64 t141, .slice none 0 0]) ?_ 1 _ rfl; (with_reducible repeat (first | refine blk_drewN ?_ _ | refine blk_drew ?_ | refine blk_alloc ?_ _)); refine blk_put (cs := #[.int .i64 0, .slice none 0 0]) ?_ 0 _ rfl; (with_reducible repeat (first | refine blk_drewN ?_ _ | refine blk_drew ?_ | refine blk_alloc ?_ _)); exact BK143.out) hb); have n4_ := Aside0.mk (KeepBut.trans (spec_l1Post_auHK) (KeepBut.of_below hb g none) (.inl rfl)); have n5_ := Aside0.mk (below_step (spec_l1Post_auHB) hb); clear HI0; clear BK140; clear BK143; clear HK; clear HB; have HO146 := n0_; have HI0 := n1_; have BK140 := n2_; have BK143 := n3_; have HK := n4_; have HB := n5_; clear n0_ n1_ n2_ n3_ n4_ n5_; clear hb ho20; obtain ⟨Ao21, co21, eo21⟩ := Kd.R_slice HO146.out; subst eo21) | ((with_reducible refine gate_callee (f := 46) rfl ?_); refine goesL_ (some 12) rfl rfl Try.func46 (by kernel_rfl) rfl #[.pointer (some ⟨g, 0, none⟩), .slice Ao21 y144.length co21] rfl (by (try simp only [List.map_toArray, List.map_cons, List.map_nil]); first | done | rfl | (simp only [List.length_drop, List.length_take]; rfl)) ?_; (with_reducible refine (spec_l9Rd_num.calls k g s0_0 t142 _ _ y144 t147 t148 w0 _ ?side1 ?side2 ?side3 ?side4 ?side5 A3.out).mono ?_); (case side1 => exact spec_l1Post_auHI0); (case side2 => exact spec_l1Post_auHB); (case side3 => repeat (first | exact (Kd.R_reads' HO146.out).2.2 | (with_reducible refine Kd.C_alloc ?_ _) | (with_reducible refine Kd.C_drewN ?_ _) | (with_reducible refine Kd.C_drew ?_))); (case side4 => exact (Kd.R_reads' HO146.out).2.1); (case side5 => exact far_slice (IsS74.own_ne HI0.out HO146.out (by decide))); rintro e w22 ⟨rfl, hi, hb, hk⟩; refine ⟨_, rfl, ?_⟩; have n0_ := Aside0.mk (KeepBut.blk hk (g' := gb140) (o := .cells #[.int .i64 0, .slice none 0 0] 29 (0, 0)) (spec_l1Post_vb BK140) NB140_0.out (by simp)); have n1_ := Aside0.mk (KeepBut.blk hk (g' := gb143) (o := .cells #[.int .i64 t141, .slice none 0 0] 29 (0, 0)) (spec_l1Post_vb BK143) NB143_0.out (by simp)); have n2_ := Aside0.mk (Kd.R_mono (Kd.R_keep (IsS74.apart (show IsS74 w0 _ g s0_0 t142 from spec_l1Post_auHI0) (by (with_reducible repeat (first | apply Kd.R_alloc | apply Kd.R_drewN | apply Kd.R_drew)); exact HO146.out) (by decide)) hk (fun _ h => h.2)) (fun _ h => h.1)); have n3_ := Aside0.mk (KeepBut.trans (spec_l1Post_auHK) hk (.inl rfl)); have n4_ := Aside0.mk (hb); have n5_ := Aside0.mk (hi); clear BK140; clear BK143; clear HO146; clear HK; clear HB; clear HI0; have BK140 := n0_; have BK143 := n1_; have HO146 := n2_; have HK := n3_; have HB := n4_; have HI0 := n5_; clear n0_ n1_ n2_ n3_ n4_ n5_; (try clear hb); (try clear hb2); (try clear hk); (try clear hi)) | ((with_reducible refine gate_callee (f := 43) rfl ?_); refine goesL_ (some 14) rfl rfl Try.func43 (by kernel_rfl) rfl #[.pointer (some ⟨g, 0, none⟩), .int .i64 3] rfl (by (try simp only [List.map_toArray, List.map_cons, List.map_nil]); first | done | rfl | (simp only [List.length_drop, List.length_take]; rfl)) ?_; (with_reducible refine (spec_l9Rd_pick.calls k g s0_0 t148 3 t149 t150 w0 _ ?side1 ?side2 A4.out).mono ?_); (case side1 => exact spec_l1Post_auHI0); (case side2 => exact spec_l1Post_auHB); rintro e w23 ⟨rfl, hi, hb, hk⟩; refine ⟨_, rfl, ?_⟩; have n0_ := Aside0.mk (KeepBut.blk hk (g' := gb140) (o := .cells #[.int .i64 0, .slice none 0 0] 29 (0, 0)) (spec_l1Post_vb BK140) NB140_0.out (by simp)); have n1_ := Aside0.mk (KeepBut.blk hk (g' := gb143) (o := .cells #[.int .i64 t141, .slice none 0 0] 29 (0, 0)) (spec_l1Post_vb BK143) NB143_0.out (by simp)); have n2_ := Aside0.mk (Kd.R_mono (Kd.R_keep (IsS74.apart (show IsS74 w0 _ g s0_0 t148 from spec_l1Post_auHI0) (by (with_reducible repeat (first | apply Kd.R_alloc | apply Kd.R_drewN | apply Kd.R_drew)); exact HO146.out) (by decide)) hk (fun _ h => h.2)) (fun _ h => h.1)); have n3_ := Aside0.mk (KeepBut.trans (spec_l1Post_auHK) hk (.inl rfl)); have n4_ := Aside0.mk (hb); have n5_ := Aside0.mk (hi); clear BK140; clear BK143; clear HO146; clear HK; clear HB; clear HI0; have BK140 := n0_; have BK143 := n1_; have HO146 := n2_; have HK := n3_; have HB := n4_; have HI0 := n5_; clear n0_ n1_ n2_ n3_ n4_ n5_; (try clear hb); (try clear hb2); (try clear hk); (try clear hi)) | ((with_reducible refine gate_callee (f := 45) rfl ?_); refine goesL_ (some 17) rfl rfl Try.func45 (by kernel_rfl) rfl #[.pointer (some ⟨g, 0, none⟩)] rfl (by (try simp only [List.map_toArray, List.map_cons, List.map_nil]); first | done | rfl | (simp only [List.length_drop, List.length_take]; rfl)) ?_; (with_reducible refine (spec_l1Acct.calls k g s0_0 t150 t151 t152 w0 _ ?side1 ?side2 A5.out).mono ?_); (case side1 => exact spec_l1Post_auHI0); (case side2 => exact spec_l1Post_auHB); rintro e w24 ⟨rfl, hi, hb, hk⟩; refine ⟨_, rfl, ?_⟩; have n0_ := Aside0.mk (KeepBut.blk hk (g' := gb140) (o := .cells #[.int .i64 0, .slice none 0 0] 29 (0, 0)) (spec_l1Post_vb BK140) NB140_0.out (by simp)); have n1_ := Aside0.mk (KeepBut.blk hk (g' := gb143) (o := .cells #[.int .i64 t141, .slice none 0 0] 29 (0, 0)) (spec_l1Post_vb BK143) NB143_0.out (by simp)); have n2_ := Aside0.mk (Kd.R_mono (Kd.R_keep (IsS74.apart (show IsS74 w0 _ g s0_0 t150 from spec_l1Post_auHI0) (by (with_reducible repeat (first | apply Kd.R_alloc | apply Kd.R_drewN | apply Kd.R_drew)); exact HO146.out) (by decide)) hk (fun _ h => h.2)) (fun _ h => h.1)); have n3_ := Aside0.mk (KeepBut.trans (spec_l1Post_auHK) hk (.inl rfl)); have n4_ := Aside0.mk (hb); have n5_ := Aside0.mk (hi); clear BK140; clear BK143; clear HO146; clear HK; clear HB; clear HI0; have BK140 := n0_; have BK143 := n1_; have HO146 := n2_; have HK := n3_; have HB := n4_; have HI0 := n5_; clear n0_ n1_ n2_ n3_ n4_ n5_; (try clear hb); (try clear hb2); (try clear hk); (try clear hi)) | ((with_reducible refine gate_callee (f := 45) rfl ?_); refine goesL_ (some 22) rfl rfl Try.func45 (by kernel_rfl) rfl #[.pointer (some ⟨g, 0, none⟩)] rfl (by (try simp only [List.map_toArray, List.map_cons, List.map_nil]); first | done | rfl | (simp only [List.length_drop, List.length_take]; rfl)) ?_; (with_reducible refine (spec_l1Acct.calls k g s0_0 t152 t153 t154 w0 _ ?side1 ?side2 A6.out).mono ?_); (case side1 => exact spec_l1Post_auHI0); (case side2 => exact spec_l1Post_auHB); rintro e w25 ⟨rfl, hi, hb, hk⟩; refine ⟨_, rfl, ?_⟩; have n0_ := Aside0.mk (KeepBut.blk hk (g' := gb140) (o := .cells #[.int .i64 0, .slice none 0 0] 29 (0, 0)) (spec_l1Post_vb BK140) NB140_0.out (by simp)); have n1_ := Aside0.mk (KeepBut.blk hk (g' := gb143) (o := .cells #[.int .i64 t141, .slice none 0 0] 29 (0, 0)) (spec_l1Post_vb BK143) NB143_0.out (by simp)); have n2_ := Aside0.mk (Kd.R_mono (Kd.R_keep (IsS74.apart (show IsS74 w0 _ g s0_0 t152 from spec_l1Post_auHI0) (by (with_reducible repeat (first | apply Kd.R_alloc | apply Kd.R_drewN | apply Kd.R_drew)); exact HO146.out) (by decide)) hk (fun _ h => h.2)) (fun _ h => h.1)); have n3_ := Aside0.mk (KeepBut.trans (spec_l1Post_auHK) hk (.inl rfl)); have n4_ := Aside0.mk (hb); have n5_ := Aside0.mk (hi); clear BK140; clear BK143; clear HO146; clear HK; clear HB; clear HI0; have BK140 := n0_; have BK143 := n1_; have HO146 := n2_; have HK := n3_; have HB := n4_; have HI0 := n5_; clear n0_ n1_ n2_ n3_ n4_ n5_; (try clear hb); (try clear hb2); (try clear hk); (try clear hi)) | ((with_reducible refine gate_dst (N := 27) rfl ?_); refine Kd.R_lit k41 _ 41 ?hg (N := 27) ?hd (xs := ([(⟨t151, wrap64 (1 + t149), t147⟩ : S41), (⟨t153, wrap64 (1 + t149), wrap64 (-t147)⟩ : S41)] : List (S41))) (inner := [.string t151, .int .i64 (wrap64 (1 + t149)), .int .i64 t147, .string t153, .int .i64 (wrap64 (1 + t149)), .int .i64 (wrap64 (-t147))]) (ok := fun _ => True) (okp := fun _ => True) ?hr ?hp (fun _ hk => hk) trivial (Below.refl _ _) (Nat.le_refl _) (by simp) ?_; (case hd => rfl); (case hg => rfl); (case hr => first | (go_simp; done) | (go_simp; rfl)); (case hp => exact (Reps.c3 (show Kd.M k41 _ _ _ (⟨t151, wrap64 (1 + t149), t147⟩ : S41) [.string t151, .int .i64 (wrap64 (1 + t149)), .int .i64 t147] from (k41_mkM _ _ _ (⟨t151, wrap64 (1 + t149), t147⟩ : S41) )) (Reps.c3 (show Kd.M k41 _ _ _ (⟨t153, wrap64 (1 + t149), wrap64 (-t147)⟩ : S41) [.string t153, .int .i64 (wrap64 (1 + t149)), .int .i64 (wrap64 (-t147))] from (k41_mkM _ _ _ (⟨t153, wrap64 (1 + t149), wrap64 (-t147)⟩ : S41) )) (Reps.none _ _)))); intro v156 w26 ho27 hb hg_ hnew_; clear hg_ hnew_; (first | rw [← Ny155.out] at ho27 | (simp only [Int.reduceToNat] at ho27; rw [← Ny155.out] at ho27)); have n0_ := Aside0.mk (Kd.R_below (by (with_reducible repeat (first | apply Kd.R_alloc | apply Kd.R_drewN | apply Kd.R_drew)); exact HO146.out) hb); have n1_ := Aside0.mk (Kd.R_lower ho27 (keep_size (w := w) (g := g) (row := none) (spec_l1Post_auHK))); have n2_ := Aside0.mk (IsS74.below (spec_l1Post_auHI0) hb); have n3_ := Aside0.mk (blk_below (g := gb140) (o := .cells #[.int .i64 0, .slice none 0 0] 29 (0, 0)) (spec_l1Post_vb BK140) hb); have n4_ := Aside0.mk (blk_below (g := gb143) (o := .cells #[.int .i64 t141, .slice none 0 0] 29 (0, 0)) (spec_l1Post_vb BK143) hb); have n5_ := Aside0.mk (KeepBut.trans (spec_l1Post_auHK) (KeepBut.of_below hb g none) (.inl rfl)); have n6_ := Aside0.mk (below_step (spec_l1Post_auHB) hb); clear HO146; clear HI0; clear BK140; clear BK143; clear HK; clear HB; have HO146 := n0_; have HO157 := n1_; have HI0 := n2_; have BK140 := n3_; have BK143 := n4_; have HK := n5_; have HB := n6_; clear n0_ n1_ n2_ n3_ n4_ n5_ n6_; clear hb ho27; obtain ⟨Ao28, co28, eo28⟩ := Kd.R_slice HO157.out; subst eo28; have hcz29_0 : w26.cell? ⟨gb143, 0, none⟩ = some (.int .i64 t141) := (blk_cell BK143.out 0).trans rfl; have hcz29_1 : w26.cell? ⟨gb143, 1, none⟩ = some (.slice none 0 0) := (blk_cell BK143.out 1).trans rfl; have hfz29_0 := blk_frozen BK143.out 0; have hfz29_1 := blk_frozen BK143.out 1) | ((with_reducible refine gate_callee (f := 43) rfl ?_); refine goesL_ (some 30) rfl rfl Try.func43 (by kernel_rfl) rfl #[.pointer (some ⟨g, 0, none⟩), .int .i64 5] rfl (by (try simp only [List.map_toArray, List.map_cons, List.map_nil]); first | done | rfl | (simp only [List.length_drop, List.length_take]; rfl)) ?_; (with_reducible refine (spec_l9Rd_pick.calls k g s0_0 t154 5 t158 t159 w0 _ ?side1 ?side2 A7.out).mono ?_); (case side1 => exact spec_l1Post_auHI0); (case side2 => exact spec_l1Post_auHB); rintro e w30 ⟨rfl, hi, hb, hk⟩; refine ⟨_, rfl, ?_⟩; have n0_ := Aside0.mk (KeepBut.blk hk (g' := gb140) (o := .cells #[.int .i64 0, .slice none 0 0] 29 (0, 0)) (by (with_reducible repeat (first | refine blk_drewN ?_ _ | refine blk_drew ?_ | refine blk_alloc ?_ _)); refine blk_far ?_ NB140_143.out _; (with_reducible repeat (first | refine blk_drewN ?_ _ | refine blk_drew ?_ | refine blk_alloc ?_ _)); exact BK140.out) NB140_0.out (by simp)); have n1_ := Aside0.mk (KeepBut.blk hk (g' := gb143) (o := .cells #[.int .i64 t141, .slice Ao28 y155.length co28] 29 (0, 0)) (by (with_reducible repeat (first | refine blk_drewN ?_ _ | refine blk_drew ?_ | refine blk_alloc ?_ _)); refine blk_put (cs := #[.int .i64 t141, .slice none 0 0]) ?_ 1 _ rfl; (with_reducible repeat (first | refine blk_drewN ?_ _ | refine blk_drew ?_ | refine blk_alloc ?_ _)); exact BK143.out) NB143_0.out (by simp)); have n2_ := Aside0.mk (Kd.R_mono (Kd.R_keep (IsS74.apart (show IsS74 w0 _ g s0_0 t154 from spec_l1Post_auHI0) (by (with_reducible repeat (first | apply Kd.R_alloc | apply Kd.R_drewN | apply Kd.R_drew)); exact (Kd.R_mono (Kd.R_far (p := ⟨gb143, 1, none⟩) (Kd.R_types HO146.out BK143.out (by decide)) (fun _ hk => hk.2) (.slice Ao28 y155.length co28)) (fun _ h_ => h_.1))) (by decide)) hk (fun _ h => h.2)) (fun _ h => h.1)); have n3_ := Aside0.mk (Kd.R_mono (Kd.R_keep (IsS74.apart (show IsS74 w0 _ g s0_0 t154 from spec_l1Post_auHI0) (by (with_reducible repeat (first | apply Kd.R_alloc | apply Kd.R_drewN | apply Kd.R_drew)); exact (Kd.R_mono (Kd.R_far (p := ⟨gb143, 1, none⟩) (Kd.R_types HO157.out BK143.out (by decide)) (fun _ hk => hk.2) (.slice Ao28 y155.length co28)) (fun _ h_ => h_.1))) (by decide)) hk (fun _ h => h.2)) (fun _ h => h.1)); have n4_ := Aside0.mk (KeepBut.trans (spec_l1Post_auHK) hk (.inl rfl)); have n5_ := Aside0.mk (hb); have n6_ := Aside0.mk (hi); clear BK140; clear BK143; clear HO146; clear HO157; clear HK; clear HB; clear HI0; have BK140 := n0_; have BK143 := n1_; have HO146 := n2_; have HO157 := n3_; have HK := n4_; have HB := n5_; have HI0 := n6_; clear n0_ n1_ n2_ n3_ n4_ n5_ n6_; (try clear hb); (try clear hb2); (try clear hk); (try clear hi)) | ((with_reducible refine gate_callee (f := 43) rfl ?_); refine goesL_ (some 34) rfl rfl Try.func43 (by kernel_rfl) rfl #[.pointer (some ⟨g, 0, none⟩), .int .i64 3] rfl (by (try simp only [List.map_toArray, List.map_cons, List.map_nil]); first | done | rfl | (simp only [List.length_drop, List.length_take]; rfl)) ?_; (with_reducible refine (spec_l9Rd_pick.calls k g s0_0 t159 3 t160 t161 w0 _ ?side1 ?side2 A9.out).mono ?_); (case side1 => exact spec_l1Post_auHI0); (case side2 => exact spec_l1Post_auHB); rintro e w31 ⟨rfl, hi, hb, hk⟩; refine ⟨_, rfl, ?_⟩; have n0_ := Aside0.mk (KeepBut.blk hk (g' := gb140) (o := .cells #[.int .i64 0, .slice none 0 0] 29 (0, 0)) (spec_l1Post_vb BK140) NB140_0.out (by simp)); have n1_ := Aside0.mk (KeepBut.blk hk (g' := gb143) (o := .cells #[.int .i64 t141, .slice Ao28 y155.length co28] 29 (0, 0)) (spec_l1Post_vb BK143) NB143_0.out (by simp)); have n2_ := Aside0.mk (Kd.R_mono (Kd.R_keep (IsS74.apart (show IsS74 w0 _ g s0_0 t159 from spec_l1Post_auHI0) (by (with_reducible repeat (first | apply Kd.R_alloc | apply Kd.R_drewN | apply Kd.R_drew)); exact HO146.out) (by decide)) hk (fun _ h => h.2)) (fun _ h => h.1)); have n3_ := Aside0.mk (Kd.R_mono (Kd.R_keep (IsS74.apart (show IsS74 w0 _ g s0_0 t159 from spec_l1Post_auHI0) (by (with_reducible repeat (first | apply Kd.R_alloc | apply Kd.R_drewN | apply Kd.R_drew)); exact HO157.out) (by decide)) hk (fun _ h => h.2)) (fun _ h => h.1)); have n4_ := Aside0.mk (KeepBut.trans (spec_l1Post_auHK) hk (.inl rfl)); have n5_ := Aside0.mk (hb); have n6_ := Aside0.mk (hi); clear BK140; clear BK143; clear HO146; clear HO157; clear HK; clear HB; clear HI0; have BK140 := n0_; have BK143 := n1_; have HO146 := n2_; have HO157 := n3_; have HK := n4_; have HB := n5_; have HI0 := n6_; clear n0_ n1_ n2_ n3_ n4_ n5_ n6_; (try clear hb); (try clear hb2); (try clear hk); (try clear hi)))
   have n0_ := Aside0.mk (Kd.R_drew HO146.out)
   have n1_ := Aside0.mk (Kd.R_drew HO157.out)
   have n2_ := Aside0.mk (blk_drew BK140.out)
   have n3_ := Aside0.mk (blk_drew BK143.out)
   have n4_ := Aside0.mk (IsS74.drew HI0.out)
   have n5_ := Aside0.mk (keep_drew HK.out)
   have n6_ := Aside0.mk (below_drew1 HB.out)
   clear HO146
   clear HO157
   clear BK140
   clear BK143
   clear HI0
   clear HK
   clear HB
   have HO146 := n0_
   have HO157 := n1_
   have BK140 := n2_
   have BK143 := n3_
   have HI0 := n4_
   have HK := n5_
   have HB := n6_
   clear n0_ n1_ n2_ n3_ n4_ n5_ n6_
   refine start_ (n := 14) (S := fun w' => w'.cell? ⟨gb143, 0, none⟩ = some (.int .i64 t141) ∧ w'.cell? ⟨gb143, 1, none⟩ = some (.slice Ao28 y155.length co28)) (ds := [13]) #[false, false, false, false, false, false, false, false, false, false, false, false, false, false] (by kernel_rfl) rfl rfl ⟨(blk_cell BK143.out 0).trans rfl, (blk_cell BK143.out 1).trans rfl⟩ (fun hHeld => ?_); refine with_tabW spec_l1Post.tab8 spec_l1Post.bits8 (fun HT_ HW_ => ?_)
   generalize w31.drew = w32 at HO146 HO157 BK140 BK143 HI0 HK HB hHeld ⊢
   refine pure_ (i := 0) (N := some 36) (v := ?_) (a' := ?_) #[true, false, false, false, false, false, false, false, false, false, false, false, false, false] rfl rfl (any_of HT_.out (by kernel_rfl)) (fun _ _ _ h => h) (Or.inl ⟨by rfl, ?_⟩) ?_ ?_
   rotate_left
   ·
    intro w'
    go_simp
    with_reducible rfl
   rotate_left
   ·
    simp only [Act.put, List.setIfInBounds_toArray, List.set_cons_zero, List.set_cons_succ, i64_w, i32_w]
    rfl
   refine pure_ (i := 2) (N := some 38) (v := ?_) (a' := ?_) #[true, false, true, false, false, false, false, false, false, false, false, false, false, false] rfl rfl (any_of HT_.out (by kernel_rfl)) (fun _ _ _ h => h) (Or.inl ⟨by rfl, ?_⟩) ?_ ?_
   rotate_left
   ·
    intro w'
    go_simp
    with_reducible rfl
   rotate_left
   ·
    simp only [Act.put, List.setIfInBounds_toArray, List.set_cons_zero, List.set_cons_succ, i64_w, i32_w]
    rfl
   refine pure_ (i := 4) (N := some 40) (v := ?_) (a' := ?_) #[true, false, true, false, true, false, false, false, false, false, false, false, false, false] rfl rfl (any_of HT_.out (by kernel_rfl)) (fun _ _ _ h => h) (Or.inl ⟨by rfl, ?_⟩) ?_ ?_
   rotate_left
   ·
    intro w'
    go_simp
    with_reducible rfl
   rotate_left
   ·
    simp only [Act.put, List.setIfInBounds_toArray, List.set_cons_zero, List.set_cons_succ, i64_w, i32_w]
    rfl
   refine pure_ (i := 6) (N := some 42) (v := ?_) (a' := ?_) #[true, false, true, false, true, false, true, false, false, false, false, false, false, false] rfl rfl (any_of HT_.out (by kernel_rfl)) (fun _ _ _ h => h) (Or.inl ⟨by rfl, ?_⟩) ?_ ?_
   rotate_left
   ·
    intro w'
    go_simp
    with_reducible rfl
   rotate_left
   ·
    simp only [Act.put, List.setIfInBounds_toArray, List.set_cons_zero, List.set_cons_succ, i64_w, i32_w]
    rfl
   refine pure_ (i := 8) (N := some 44) (v := ?_) (a' := ?_) #[true, false, true, false, true, false, true, false, true, false, false, false, false, false] rfl rfl (any_of HT_.out (by kernel_rfl)) (fun _ _ _ h => h) (Or.inl ⟨by rfl, ?_⟩) ?_ ?_
   rotate_left
   ·
    intro w'
    go_simp
    with_reducible rfl
   rotate_left
   ·
    simp only [Act.put, List.setIfInBounds_toArray, List.set_cons_zero, List.set_cons_succ, i64_w, i32_w]
    rfl
   refine take_ (i := 1) (N := some 37) (v := ?_) (a' := ?_) #[true, true, true, false, true, false, true, false, true, false, false, false, false, false] rfl rfl (take_ofW HT_.out HW_.out (by kernel_rfl)) (fun _ _ _ h => h) (Or.inl ⟨by rfl, ?_⟩) hHeld ?_ ?_
   rotate_left
   ·
    rintro w' ⟨s0, s1⟩
    go_simp
    with_reducible rfl
   rotate_left
   ·
    simp only [Act.put, List.setIfInBounds_toArray, List.set_cons_zero, List.set_cons_succ, i64_w, i32_w]
    rfl
   refine one_ (i := 3) (N := some 39) #[true, true, true, true, true, false, true, false, true, false, false, false, false, false] rfl rfl (one_of HT_.out (by kernel_rfl)) (by decide) (fun K hK => ?_)
   refine goes_ Try.func45 (by kernel_rfl) rfl #[.pointer (some ⟨g, 0, none⟩)] (by rfl) rfl rfl (by (try simp only [List.map_toArray, List.map_cons, List.map_nil]); first | done | rfl | (simp only [List.length_drop, List.length_take]; rfl)) ?_
   with_reducible refine (spec_l1Acct.calls k g s0_0 t161 t162 t163 w0 _ ?side1 ?side2 A10.out).mono ?_
   (case side1 => exact spec_l1Post_auHI0)
   (case side2 => exact spec_l1Post_auHB)
   rintro e w33 ⟨rfl, hi, hb, hk⟩
   refine ⟨_, rfl, ?_⟩
   have n0_ := Aside0.mk (KeepBut.blk hk (g' := gb140) (o := .cells #[.int .i64 0, .slice none 0 0] 29 (0, 0)) (spec_l1Post_vb BK140) NB140_0.out (by simp))
   have n1_ := Aside0.mk (KeepBut.blk hk (g' := gb143) (o := .cells #[.int .i64 t141, .slice Ao28 y155.length co28] 29 (0, 0)) (spec_l1Post_vb BK143) NB143_0.out (by simp))
   have n2_ := Aside0.mk (Kd.R_mono (Kd.R_keep (IsS74.apart (show IsS74 w0 _ g s0_0 t161 from spec_l1Post_auHI0) (by (with_reducible repeat (first | apply Kd.R_alloc | apply Kd.R_drewN | apply Kd.R_drew)); exact HO146.out) (by decide)) hk (fun _ h => h.2)) (fun _ h => h.1))
   have n3_ := Aside0.mk (Kd.R_mono (Kd.R_keep (IsS74.apart (show IsS74 w0 _ g s0_0 t161 from spec_l1Post_auHI0) (by (with_reducible repeat (first | apply Kd.R_alloc | apply Kd.R_drewN | apply Kd.R_drew)); exact HO157.out) (by decide)) hk (fun _ h => h.2)) (fun _ h => h.1))
   have n4_ := Aside0.mk (KeepBut.trans (spec_l1Post_auHK) hk (.inl rfl))
   have n5_ := Aside0.mk (hb)
   have n6_ := Aside0.mk (hi)
   clear BK140
   clear BK143
   clear HO146
   clear HO157
   clear HK
   clear HB
   clear HI0
   have BK140 := n0_
   have BK143 := n1_
   have HO146 := n2_
   have HO157 := n3_
   have HK := n4_
   have HB := n5_
   have HI0 := n6_
   clear n0_ n1_ n2_ n3_ n4_ n5_ n6_
   (try clear hb)
   (try clear hb2)
   (try clear hk)
   (try clear hi)
   refine hK.out _ _ ⟨(blk_cell BK143.out 0).trans rfl, (blk_cell BK143.out 1).trans rfl⟩ (fun hHeld => ?_)
   clear hK K
   refine norm_ (a' := ?_) ?_ ?_
   rotate_left
   ·
    show Act.put _ (some 39) _ = _
    simp only [Act.put, List.setIfInBounds_toArray, List.set_cons_zero, List.set_cons_succ, i64_w, i32_w]
    rfl
   refine pure_ (i := 5) (N := some 41) (v := ?_) (a' := ?_) #[true, true, true, true, true, true, true, false, true, false, false, false, false, false] rfl rfl (any_of HT_.out (by kernel_rfl)) (fun _ _ _ h => h) (Or.inl ⟨by rfl, ?_⟩) ?_ ?_
   rotate_left
   ·
    intro w'
    go_simp
    with_reducible rfl
   rotate_left
   ·
    simp only [Act.put, List.setIfInBounds_toArray, List.set_cons_zero, List.set_cons_succ, i64_w, i32_w]
    rfl
   refine one_ (i := 7) (N := some 43) #[true, true, true, true, true, true, true, true, true, false, false, false, false, false] rfl rfl (one_of HT_.out (by kernel_rfl)) (by decide) (fun K hK => ?_)
   refine goes_ Try.func45 (by kernel_rfl) rfl #[.pointer (some ⟨g, 0, none⟩)] (by rfl) rfl rfl (by (try simp only [List.map_toArray, List.map_cons, List.map_nil]); first | done | rfl | (simp only [List.length_drop, List.length_take]; rfl)) ?_
   with_reducible refine (spec_l1Acct.calls k g s0_0 t163 t164 t165 w0 _ ?side1 ?side2 A11.out).mono ?_
   (case side1 => exact spec_l1Post_auHI0)
   (case side2 => exact spec_l1Post_auHB)
   rintro e w34 ⟨rfl, hi, hb, hk⟩
   refine ⟨_, rfl, ?_⟩
   have n0_ := Aside0.mk (KeepBut.blk hk (g' := gb140) (o := .cells #[.int .i64 0, .slice none 0 0] 29 (0, 0)) (spec_l1Post_vb BK140) NB140_0.out (by simp))
   have n1_ := Aside0.mk (KeepBut.blk hk (g' := gb143) (o := .cells #[.int .i64 t141, .slice Ao28 y155.length co28] 29 (0, 0)) (spec_l1Post_vb BK143) NB143_0.out (by simp))
   have n2_ := Aside0.mk (Kd.R_mono (Kd.R_keep (IsS74.apart (show IsS74 w0 _ g s0_0 t163 from spec_l1Post_auHI0) (by (with_reducible repeat (first | apply Kd.R_alloc | apply Kd.R_drewN | apply Kd.R_drew)); exact HO146.out) (by decide)) hk (fun _ h => h.2)) (fun _ h => h.1))
   have n3_ := Aside0.mk (Kd.R_mono (Kd.R_keep (IsS74.apart (show IsS74 w0 _ g s0_0 t163 from spec_l1Post_auHI0) (by (with_reducible repeat (first | apply Kd.R_alloc | apply Kd.R_drewN | apply Kd.R_drew)); exact HO157.out) (by decide)) hk (fun _ h => h.2)) (fun _ h => h.1))
   have n4_ := Aside0.mk (KeepBut.trans (spec_l1Post_auHK) hk (.inl rfl))
   have n5_ := Aside0.mk (hb)
   have n6_ := Aside0.mk (hi)
   clear BK140
   clear BK143
   clear HO146
   clear HO157
   clear HK
   clear HB
   clear HI0
   have BK140 := n0_
   have BK143 := n1_
   have HO146 := n2_
   have HO157 := n3_
   have HK := n4_
   have HB := n5_
   have HI0 := n6_
   clear n0_ n1_ n2_ n3_ n4_ n5_ n6_
   (try clear hb)
   (try clear hb2)
   (try clear hk)
   (try clear hi)
   refine hK.out _ _ ⟨(blk_cell BK143.out 0).trans rfl, (blk_cell BK143.out 1).trans rfl⟩ (fun hHeld => ?_)
   clear hK K
   refine norm_ (a' := ?_) ?_ ?_
   rotate_left
   ·
    show Act.put _ (some 43) _ = _
    simp only [Act.put, List.setIfInBounds_toArray, List.set_cons_zero, List.set_cons_succ, i64_w, i32_w]
    rfl
   refine pure_ (i := 9) (N := some 45) (v := ?_) (a' := ?_) #[true, true, true, true, true, true, true, true, true, true, false, false, false, false] rfl rfl (any_of HT_.out (by kernel_rfl)) (fun _ _ _ h => h) (Or.inl ⟨by rfl, ?_⟩) ?_ ?_
   rotate_left
   ·
    intro w'
    go_simp
    with_reducible rfl
   rotate_left
   ·
    simp only [Act.put, List.setIfInBounds_toArray, List.set_cons_zero, List.set_cons_succ, i64_w, i32_w]
    rfl
   refine one_ (i := 10) (N := some 46) #[true, true, true, true, true, true, true, true, true, true, true, false, false, false] rfl rfl (one_of HT_.out (by kernel_rfl)) (by decide) (fun K hK => ?_)
   refine Kd.R_lit_step k41 _ 41 ?hg (N := 46) ?hd (xs := ([(⟨t162, wrap64 (1 + t160), 7⟩ : S41), (⟨t164, wrap64 (1 + t160), (-7)⟩ : S41)] : List (S41))) (inner := [.string t162, .int .i64 (wrap64 (1 + t160)), .int .i64 7, .string t164, .int .i64 (wrap64 (1 + t160)), .int .i64 (-7)]) (ok := fun _ => True) (okp := fun _ => True) ?hr ?hp (fun _ hk => hk) trivial (Below.refl _ _) (Nat.le_refl _) (by simp) ?_; (case hd => rfl); (case hg => rfl); (case hr => first | (go_simp; done) | (go_simp; rfl)); (case hp => exact (Reps.c3 (show Kd.M k41 _ _ _ (⟨t162, wrap64 (1 + t160), 7⟩ : S41) [.string t162, .int .i64 (wrap64 (1 + t160)), .int .i64 7] from (k41_mkM _ _ _ (⟨t162, wrap64 (1 + t160), 7⟩ : S41) )) (Reps.c3 (show Kd.M k41 _ _ _ (⟨t164, wrap64 (1 + t160), (-7)⟩ : S41) [.string t164, .int .i64 (wrap64 (1 + t160)), .int .i64 (-7)] from (k41_mkM _ _ _ (⟨t164, wrap64 (1 + t160), (-7)⟩ : S41) )) (Reps.none _ _))))
   intro v167 w35 ho36 hb hg_ hnew_
   clear hg_ hnew_
   (first | rw [← Ny166.out] at ho36 | (simp only [Int.reduceToNat] at ho36; rw [← Ny166.out] at ho36))
   have n0_ := Aside0.mk (Kd.R_below (by (with_reducible repeat (first | apply Kd.R_alloc | apply Kd.R_drewN | apply Kd.R_drew)); exact HO146.out) hb)
   have n1_ := Aside0.mk (Kd.R_elder' (by (with_reducible repeat (first | apply Kd.R_alloc | apply Kd.R_drewN | apply Kd.R_drew)); exact HO157.out) (Kd.R_base ho36) hb)
   have n2_ := Aside0.mk (Kd.R_lower (Kd.R_new' ho36 (Kd.R_lt (by (with_reducible repeat (first | apply Kd.R_alloc | apply Kd.R_drewN | apply Kd.R_drew)); exact HO157.out))) (keep_size (w := w) (g := g) (row := none) (spec_l1Post_auHK)))
   have n3_ := Aside0.mk (IsS74.below (spec_l1Post_auHI0) hb)
   have n4_ := Aside0.mk (blk_below (g := gb140) (o := .cells #[.int .i64 0, .slice none 0 0] 29 (0, 0)) (spec_l1Post_vb BK140) hb)
   have n5_ := Aside0.mk (blk_below (g := gb143) (o := .cells #[.int .i64 t141, .slice Ao28 y155.length co28] 29 (0, 0)) (spec_l1Post_vb BK143) hb)
   have n6_ := Aside0.mk (KeepBut.trans (spec_l1Post_auHK) (KeepBut.of_below hb g none) (.inl rfl))
   have n7_ := Aside0.mk (below_step (spec_l1Post_auHB) hb)
   clear HO146
   clear HO157
   clear HI0
   clear BK140
   clear BK143
   clear HK
   clear HB
   have HO146 := n0_
   have HO157 := n1_
   have HO168 := n2_
   have HI0 := n3_
   have BK140 := n4_
   have BK143 := n5_
   have HK := n6_
   have HB := n7_
   clear n0_ n1_ n2_ n3_ n4_ n5_ n6_ n7_
   clear hb ho36
   obtain ⟨Ao38, co38, eo38⟩ := Kd.R_slice HO168.out
   (first | subst eo38 | (injection eo38 with f1_ f2_ f3_; have f4_ := f1_.symm; have f5_ := f3_.symm; clear f1_ f2_ f3_; subst f4_; subst f5_))
   refine hK.out _ _ ⟨(blk_cell BK143.out 0).trans rfl, (blk_cell BK143.out 1).trans rfl⟩ (fun hHeld => ?_)
   clear hK K
   refine norm_ (a' := ?_) ?_ ?_
   rotate_left
   ·
    show Act.put _ (some 46) _ = _
    simp only [Act.put, List.setIfInBounds_toArray, List.set_cons_zero, List.set_cons_succ, i64_w, i32_w]
    rfl
   refine one_ (i := 11) (N := some 47) #[true, true, true, true, true, true, true, true, true, true, true, true, false, false] rfl rfl (one_of HT_.out (by kernel_rfl)) (by decide) (fun K hK => ?_)
   refine Kd.R_append_rows_step k41 w.heap.size (by rfl) (.tmp 37) (.tmp 46) 27 41 (.agg #[(.string ⟨#[]⟩), (.int .i64 0), (.int .i64 0)]) 32 rfl Try.underlying27 info41 rfl (by decide) (by omega) (.slice Ao28 y155.length co28) y155 y166 _ _ _ (fun k_ => some k_ ≠ (.slice Ao38 y166.length co38 : Value).ownBlock) (fun _ => False) rfl rfl ?aO ?aR (fun _ _ h => h) (fun _ h => h.elim) ?aF (Below.refl _ _) ?aS ?aL ?_
   (case aR => repeat (first | exact (Kd.R_reads' HO168.out).2.2 | (with_reducible refine Kd.C_alloc ?_ _) | (with_reducible refine Kd.C_drewN ?_ _) | (with_reducible refine Kd.C_drew ?_)))
   (case aF => exact (fun k_ hk => Kd.fresh' (Kd.R_lt (by (with_reducible repeat (first | apply Kd.R_alloc | apply Kd.R_drewN | apply Kd.R_drew)); exact HO168.out)) k_ hk))
   (case aO => exact (by (with_reducible repeat (first | apply Kd.R_alloc | apply Kd.R_drewN | apply Kd.R_drew)); exact Kd.R_mono HO157.out (fun _ hk => hk.2)))
   (case aS => exact (keep_size (w := w) (g := g) (row := none) (spec_l1Post_auHK)))
   (case aL => have := LMc12.out; omega)
   intro v170 w37 ho hb hg hat
   rw [← Ny169.out] at ho
   have n0_ := Aside0.mk (IsS74.grown (spec_l1Post_auHI0) hg (IsS74.own_ne HI0.out HO157.out (by decide)))
   have n1_ := Aside0.mk (blk_grown (g := gb140) (o := .cells #[.int .i64 0, .slice none 0 0] 29 (0, 0)) (spec_l1Post_vb BK140) hg (Kd.R_ne HO157.out BK140.out (by decide)))
   have n2_ := Aside0.mk (blk_grown (g := gb143) (o := .cells #[.int .i64 t141, .slice Ao28 y155.length co28] 29 (0, 0)) (spec_l1Post_vb BK143) hg (Kd.R_ne HO157.out BK143.out (by decide)))
   have n3_ := Aside0.mk (Kd.R_over' (by (with_reducible repeat (first | apply Kd.R_alloc | apply Kd.R_drewN | apply Kd.R_drew)); exact HO146.out) (Kd.R_typed (by (with_reducible repeat (first | apply Kd.R_alloc | apply Kd.R_drewN | apply Kd.R_drew)); exact HO157.out)) (by decide) hg)
   have n4_ := Aside0.mk (Kd.R_after (ok := (fun _ => True)) (by (with_reducible repeat (first | apply Kd.R_alloc | apply Kd.R_drewN | apply Kd.R_drew)); exact HO168.out) hg hat)
   have n5_ := Aside0.mk (below_weaken (spec_l1Post_auHB) HL.out hb)
   have n6_ := Aside0.mk (KeepBut.trans (spec_l1Post_auHK) (KeepBut.of_grown hg g) (Kd.R_base2 HO157.out))
   have n7_ := Aside0.mk (ho)
   clear HI0
   clear BK140
   clear BK143
   clear HO146
   clear HO168
   clear HB
   clear HK
   clear HO157
   have HI0 := n0_
   have BK140 := n1_
   have BK143 := n2_
   have HO146 := n3_
   have HO168 := n4_
   have HB := n5_
   have HK := n6_
   have HO171 := n7_
   clear n0_ n1_ n2_ n3_ n4_ n5_ n6_ n7_
   clear ho hb hg hat
   obtain ⟨Ao39, co39, eo39⟩ := Kd.R_slice HO171.out
   (first | subst eo39 | (injection eo39 with f1_ f2_ f3_; have f4_ := f1_.symm; have f5_ := f3_.symm; clear f1_ f2_ f3_; subst f4_; subst f5_))
   refine hK.out _ _ ⟨(blk_cell BK143.out 0).trans rfl, (blk_cell BK143.out 1).trans rfl⟩ (fun hHeld => ?_)
   clear hK K
   refine norm_ (a' := ?_) ?_ ?_
   rotate_left
   ·
    show Act.put _ (some 47) _ = _
    simp only [Act.put, List.setIfInBounds_toArray, List.set_cons_zero, List.set_cons_succ, i64_w, i32_w]
    rfl
   refine pure_ (i := 12) (N := some 48) (v := ?_) (a' := ?_) #[true, true, true, true, true, true, true, true, true, true, true, true, true, false] rfl rfl (any_of HT_.out (by kernel_rfl)) (fun _ _ _ h => h) (Or.inl ⟨by rfl, ?_⟩) ?_ ?_
   rotate_left
   ·
    intro w'
    go_simp
    with_reducible rfl
   rotate_left
   ·
    simp only [Act.put, List.setIfInBounds_toArray, List.set_cons_zero, List.set_cons_succ, i64_w, i32_w]
    rfl
   refine last_ (i := 13) (N := none) #[true, true, true, true, true, true, true, true, true, true, true, true, true, true] rfl rfl (one_of HT_.out (by kernel_rfl)) (by decide) (fun K hK => ?_)
   have hs40 : w37.cell? ⟨gb143, 1, none⟩ = some (.slice Ao28 y155.length co28) := (blk_cell BK143.out 1).trans rfl
   have hfs40 := blk_frozen BK143.out 1
   have hns40_0 := NB140_143.out
   have hms40_0 := NB143_140.out
   refine skip_ (w1 := ?_) (by rfl) rfl ?_ ?_
   rotate_left
   ·
    go_simp
    rfl
   refine hK.out _ _ ?_
   clear hK K
   refine done_ (done_of HT_.out (by kernel_rfl)) ?_
   have hcz41_0 : w37.cell? ⟨gb143, 0, none⟩ = some (.int .i64 t141) := (blk_cell BK143.out 0).trans rfl
   have hcz41_1 : w37.cell? ⟨gb143, 1, none⟩ = some (.slice Ao28 y155.length co28) := (blk_cell BK143.out 1).trans rfl
   have hfz41_0 := blk_frozen BK143.out 0
   have hfz41_1 := blk_frozen BK143.out 1
   have hnb42 := NB140_0.out
   have hnc42 := NB0_140.out
   have hcz43_0 : w37.cell? ⟨gb140, 0, none⟩ = some (.int .i64 0) := (blk_cell BK140.out 0).trans rfl
   have hcz43_1 : w37.cell? ⟨gb140, 1, none⟩ = some (.slice none 0 0) := (blk_cell BK140.out 1).trans rfl
   have hfz43_0 := blk_frozen BK140.out 0
   have hfz43_1 := blk_frozen BK140.out 1
   try go_wp2
   refine bodyPost_ret (results_cell_row rfl _ _ gb140 29 #[.int .i64 t141, .slice Ao39 y169.length co39] (0, 0) _ rfl (by (with_reducible repeat (first | refine blk_drewN ?_ _ | refine blk_drew ?_ | refine blk_alloc ?_ _)); refine blk_put (cs := #[.int .i64 t141, .slice none 0 0]) ?_ 1 _ rfl; (with_reducible repeat (first | refine blk_drewN ?_ _ | refine blk_drew ?_ | refine blk_alloc ?_ _)); refine blk_put (cs := #[.int .i64 0, .slice none 0 0]) ?_ 0 _ rfl; (with_reducible repeat (first | refine blk_drewN ?_ _ | refine blk_drew ?_ | refine blk_alloc ?_ _)); refine blk_far ?_ NB140_143.out _; (with_reducible repeat (first | refine blk_drewN ?_ _ | refine blk_drew ?_ | refine blk_alloc ?_ _)); exact BK140.out) Try.underlying29 rfl (by kernel_rfl)) rfl ?_
   exact ⟨_, by first | rfl | (simp [errW_none, errW_some] <;> rfl) | (simp [*, errW_none, errW_some] <;> rfl), by (with_reducible repeat (first | apply Kd.R_alloc | apply Kd.R_drewN | apply Kd.R_drew)); exact Kd.R_mono (Kd.R_far (p := ⟨gb140, 1, none⟩) (Kd.R_far (p := ⟨gb140, 0, none⟩) (Kd.R_far (p := ⟨gb143, 1, none⟩) (Kd.R_types (Kd.R_types HO171.out BK143.out (by decide)) BK140.out (by decide)) (fun _ hk => hk.1.2) (.slice Ao39 y169.length co39)) (fun _ hk => hk.2) (.int .i64 t141)) (fun _ hk => hk.2) (.slice Ao39 y169.length co39)) (fun _ hk => trivial), spec_l1Post_auHI0, spec_l1Post_auHB, spec_l1Post_auHK⟩
  ·
   rw [if_neg c12] at H
   exact absurd H (by simp)
 ·
  rw [if_neg c8] at H
  have c8b0 : (t158 == 0) = false := beq_eq_false_iff_ne.mpr c8
  have c8b1 : (t158 != 0) = true := bne_iff_ne.mpr c8
  by_cases c44 : t158 = 1
  ·
   rw [if_pos c44] at H
   have c44b0 : (t158 == 1) = true := beq_iff_eq.mpr c44
   have c44b1 : (t158 != 1) = false := bne_eq_false_iff_eq.mpr c44
   clear c44
   by_cases c45 : t147 > 1
   ·
    rw [if_pos c45] at H
    have c45b0 : decide (1 < t147) = true := decide_eq_true c45
    clear c45
    by_cases c46 : 1 < (y155.length : Int)
    ·
     rw [if_pos c46] at H
     have c46b0 : decide (1 < (y155.length : Int)) = true := decide_eq_true c46
     have c46b1 : decide (1 < y155.length) = true := decide_eq_true (by omega)
     clear c46
     obtain ⟨y172, hy172⟩ : ∃ y_ : List (S41), y_ = (y155.set (1 : Int).toNat (⟨(rd_T41 y155 1).f0, (rd_T41 y155 1).f1, wrap64 (1 - t147)⟩ : S41)) := ⟨_, rfl⟩
     replace H : ((spec_l1Acct.f k s0_0 t159).bind fun bt173 => (if y172.length < 4398046511104 then (some (t141, (y172 ++ [(⟨bt173.1, wrap64 (1 + t149), (-1)⟩ : S41)]), bt173.2)) else (none))) = some (r1, r2, r3) := by first | (rw [hy172]; with_reducible exact H) | (have H2_ := (Option.bind_some _ _).symm.trans H; rw [hy172]; with_reducible exact H2_) | (have H2_ := (Option.bind_some _ _).symm.trans H; with_reducible exact H2_) | with_reducible exact H | (rw [hy172]; exact H) | exact H
     have Ny172 := Aside0.mk hy172
     clear hy172
     replace H := Option.bind_eq_some_iff.mp H
     obtain ⟨⟨t173, t174⟩, A480, H⟩ := H
     replace H : (if y172.length < 4398046511104 then (some (t141, (y172 ++ [(⟨t173, wrap64 (1 + t149), (-1)⟩ : S41)]), t174)) else (none)) = some (r1, r2, r3) := H
     have A48 := Aside0.mk A480
     clear A480
     by_cases c49 : y172.length < 4398046511104
     ·
      rw [if_pos c49] at H
      have LMc49 := Aside0.mk c49
      clear c49
      obtain ⟨y175, hy175⟩ : ∃ y_ : List (S41), y_ = (y172 ++ [(⟨t173, wrap64 (1 + t149), (-1)⟩ : S41)]) := ⟨_, rfl⟩
      replace H : (some (t141, y175, t174)) = some (r1, r2, r3) := by first | (rw [hy175]; with_reducible exact H) | (have H2_ := (Option.bind_some _ _).symm.trans H; rw [hy175]; with_reducible exact H2_) | (have H2_ := (Option.bind_some _ _).symm.trans H; with_reducible exact H2_) | with_reducible exact H | (rw [hy175]; exact H) | exact H
      have Ny175 := Aside0.mk hy175
      clear hy175
      simp only [Option.some.injEq, Prod.mk.injEq] at H
      obtain ⟨rfl, rfl, rfl⟩ := H
      go_enter Try.func41, Try.ntmps41
      try go_wp2_with (first | ((with_reducible refine gate_dst (N := 2) rfl ?_); refine box_event ?hg (N := 2) ?hd (cs := #[.int .i64 0, .slice none 0 0]) (t := 29) ?hr ?_; (case hd => rfl); (case hg => rfl); (case hr => first | (go_simp; done) | (go_simp; rfl)); intro gb140 hg w50 hbox hb; have n0_ := Aside0.mk (IsS74.below (spec_l1Post_auHI0) hb); have n1_ := Aside0.mk (KeepBut.trans (spec_l1Post_auHK) (KeepBut.of_below hb g none) (.inl rfl)); have n2_ := Aside0.mk (below_step (spec_l1Post_auHB) hb); have n3_ := Aside0.mk (hbox); have n4_ := Aside0.mk ((by rw [hg]; exact (keep_size (w := w) (g := g) (row := none) (spec_l1Post_auHK)) : w.heap.size ≤ gb140)); have n5_ := Aside0.mk ((Nat.le_trans HW0.out (by rw [hg]; exact (keep_size (w := w) (g := g) (row := none) (spec_l1Post_auHK)) : w.heap.size ≤ gb140) : w0.heap.size ≤ gb140)); have n6_ := Aside0.mk ((by rw [hg]; exact Nat.ne_of_lt (IsS74.lt (show IsS74 w0 _ g s0_0 s0_1 from spec_l1Post_auHI0)) : g ≠ gb140)); have n7_ := Aside0.mk ((by rw [hg]; exact Nat.ne_of_gt (IsS74.lt (show IsS74 w0 _ g s0_0 s0_1 from spec_l1Post_auHI0)) : gb140 ≠ g)); clear HI0; clear HK; clear HB; have HI0 := n0_; have HK := n1_; have HB := n2_; have BK140 := n3_; have GW140 := n4_; have GE140 := n5_; have NB0_140 := n6_; have NB140_0 := n7_; clear n0_ n1_ n2_ n3_ n4_ n5_ n6_ n7_; clear hb hbox hg) | ((with_reducible refine gate_callee (f := 43) rfl ?_); refine goesL_ (some 8) rfl rfl Try.func43 (by kernel_rfl) rfl #[.pointer (some ⟨g, 0, none⟩), .int .i64 14] rfl (by (try simp only [List.map_toArray, List.map_cons, List.map_nil]); first | done | rfl | (simp only [List.length_drop, List.length_take]; rfl)) ?_; (with_reducible refine (spec_l9Rd_pick.calls k g s0_0 s0_1 14 t141 t142 w0 _ ?side1 ?side2 A2.out).mono ?_); (case side1 => exact spec_l1Post_auHI0); (case side2 => exact spec_l1Post_auHB); rintro e w51 ⟨rfl, hi, hb, hk⟩; refine ⟨_, rfl, ?_⟩; have n0_ := Aside0.mk (KeepBut.blk hk (g' := gb140) (o := .cells #[.int .i64 0, .slice none 0 0] 29 (0, 0)) (spec_l1Post_vb BK140) NB140_0.out (by simp)); have n1_ := Aside0.mk (KeepBut.trans (spec_l1Post_auHK) hk (.inl rfl)); have n2_ := Aside0.mk (hb); have n3_ := Aside0.mk (hi); clear BK140; clear HK; clear HB; clear HI0; have BK140 := n0_; have HK := n1_; have HB := n2_; have HI0 := n3_; clear n0_ n1_ n2_ n3_; (try clear hb); (try clear hb2); (try clear hk); (try clear hi)) | ((with_reducible refine gate_dst (N := 3) rfl ?_); refine box_event ?hg (N := 3) ?hd (cs := #[.int .i64 0, .slice none 0 0]) (t := 29) ?hr ?_; (case hd => rfl); (case hg => rfl); (case hr => first | (go_simp; done) | (go_simp; rfl)); intro gb143 hg w52 hbox hb; have n0_ := Aside0.mk (IsS74.below (spec_l1Post_auHI0) hb); have n1_ := Aside0.mk (blk_below (g := gb140) (o := .cells #[.int .i64 0, .slice none 0 0] 29 (0, 0)) (spec_l1Post_vb BK140) hb); have n2_ := Aside0.mk (KeepBut.trans (spec_l1Post_auHK) (KeepBut.of_below hb g none) (.inl rfl)); have n3_ := Aside0.mk (below_step (spec_l1Post_auHB) hb); have n4_ := Aside0.mk (hbox); have n5_ := Aside0.mk ((by rw [hg]; exact (keep_size (w := w) (g := g) (row := none) (spec_l1Post_auHK)) : w.heap.size ≤ gb143)); have n6_ := Aside0.mk ((Nat.le_trans HW0.out (by rw [hg]; exact (keep_size (w := w) (g := g) (row := none) (spec_l1Post_auHK)) : w.heap.size ≤ gb143) : w0.heap.size ≤ gb143)); have n7_ := Aside0.mk ((by rw [hg]; exact Nat.ne_of_lt (blk_lt (g := gb140) (o := .cells #[.int .i64 0, .slice none 0 0] 29 (0, 0)) (spec_l1Post_vb BK140)) : gb140 ≠ gb143)); have n8_ := Aside0.mk ((by rw [hg]; exact Nat.ne_of_gt (blk_lt (g := gb140) (o := .cells #[.int .i64 0, .slice none 0 0] 29 (0, 0)) (spec_l1Post_vb BK140)) : gb143 ≠ gb140)); have n9_ := Aside0.mk ((by rw [hg]; exact Nat.ne_of_lt (IsS74.lt (show IsS74 w0 _ g s0_0 t142 from spec_l1Post_auHI0)) : g ≠ gb143)); have n10_ := Aside0.mk ((by rw [hg]; exact Nat.ne_of_gt (IsS74.lt (show IsS74 w0 _ g s0_0 t142 from spec_l1Post_auHI0)) : gb143 ≠ g)); clear HI0; clear BK140; clear HK; clear HB; have HI0 := n0_; have BK140 := n1_; have HK := n2_; have HB := n3_; have BK143 := n4_; have GW143 := n5_; have GE143 := n6_; have NB140_143 := n7_; have NB143_140 := n8_; have NB0_143 := n9_; have NB143_0 := n10_; clear n0_ n1_ n2_ n3_ n4_ n5_ n6_ n7_ n8_ n9_ n10_; clear hb hbox hg; have hnb53 := NB143_140.out; have hnc53 := NB140_143.out; have hnb54 := NB143_0.out; have hnc54 := NB0_143.out; have hcz55_0 : w52.cell? ⟨gb143, 0, none⟩ = some (.int .i64 0) := (blk_cell BK143.out 0).trans rfl; have hcz55_1 : w52.cell? ⟨gb143, 1, none⟩ = some (.slice none 0 0) := (blk_cell BK143.out 1).trans rfl; have hfz55_0 := blk_frozen BK143.out 0; have hfz55_1 := blk_frozen BK143.out 1) | ((with_reducible refine gate_dst (N := 11) rfl ?_); refine Kd.R_lit (Kd.int .i64) _ 3 ?hg (N := 11) ?hd (xs := ([5, 20, 100, 700, 1, 300, 1000] : List Int)) (inner := [.int .i64 5, .int .i64 20, .int .i64 100, .int .i64 700, .int .i64 1, .int .i64 300, .int .i64 1000]) (ok := fun _ => True) (okp := fun _ => True) ?hr ?hp (fun _ hk => hk) trivial (Below.refl _ _) (Nat.le_refl _) (by simp) ?_; (case hd => rfl); (case hg => rfl); (case hr => first | (go_simp; done) | (go_simp; rfl)); (case hp => exact (Reps.one (show Kd.M (Kd.int .i64) _ _ _ 5 [.int .i64 5] from rfl) (Reps.one (show Kd.M (Kd.int .i64) _ _ _ 20 [.int .i64 20] from rfl) (Reps.one (show Kd.M (Kd.int .i64) _ _ _ 100 [.int .i64 100] from rfl) (Reps.one (show Kd.M (Kd.int .i64) _ _ _ 700 [.int .i64 700] from rfl) (Reps.one (show Kd.M (Kd.int .i64) _ _ _ 1 [.int .i64 1] from rfl) (Reps.one (show Kd.M (Kd.int .i64) _ _ _ 300 [.int .i64 300] from rfl) (Reps.one (show Kd.M (Kd.int .i64) _ _ _ 1000 [.int .i64 1000] from rfl) (Reps.none _ _))))))))); intro v145 w56 ho57 hb hg_ hnew_; clear hg_ hnew_; (first | rw [← Ny144.out] at ho57 | (simp only [Int.reduceToNat] at ho57; rw [← Ny144.out] at ho57)); have n0_ := Aside0.mk (Kd.R_lower ho57 (keep_size (w := w) (g := g) (row := none) (spec_l1Post_auHK))); have n1_ := Aside0.mk (IsS74.below (show IsS74 w0 ((w52.setCell ⟨gb143, 0, none⟩ (.int .i64 t141)).setCell ⟨gb143, 1, none⟩ (.slice none 0 0)) g s0_0 t142 from spec_l1Post_auHI0) hb); have n2_ := Aside0.mk (blk_below (g := gb140) (o := .cells #[.int .i64 0, .slice none 0 0] 29 (0, 0)) (by (with_reducible repeat (first | refine blk_drewN ?_ _ | refine blk_drew ?_ | refine blk_alloc ?_ _)); refine blk_far ?_ NB140_143.out _; (with_reducible repeat (first | refine blk_drewN ?_ _ | refine blk_drew ?_ | refine blk_alloc ?_ _)); refine blk_far ?_ NB140_143.out _; (with_reducible repeat (first | refine blk_drewN ?_ _ | refine blk_drew ?_ | refine blk_alloc ?_ _)); exact BK140.out) hb); have n3_ := Aside0.mk (blk_below (g := gb143) (o := .cells #[.int .i64 t141, .slice none 0 0] 29 (0, 0)) (by (with_reducible repeat (first | refine blk_drewN ?_ _ | refine blk_drew ?_ | refine blk_alloc ?_ _)); refine blk_put (cs := #[.int .i64 t141, .slice none 0 0]) ?_ 1 _ rfl; (with_reducible repeat (first | refine blk_drewN ?_ _ | refine blk_drew ?_ | refine blk_alloc ?_ _)); refine blk_put (cs := #[.int .i64 0, .slice none 0 0]) ?_ 0 _ rfl; (with_reducible repeat (first | refine blk_drewN ?_ _ | refine blk_drew ?_ | refine blk_alloc ?_ _)); exact BK143.out) hb); have n4_ := Aside0.mk (KeepBut.trans (spec_l1Post_auHK) (KeepBut.of_below hb g none) (.inl rfl)); have n5_ := Aside0.mk (below_step (spec_l1Post_auHB) hb); clear HI0; clear BK140; clear BK143; clear HK; clear HB; have HO146 := n0_; have HI0 := n1_; have BK140 := n2_; have BK143 := n3_; have HK := n4_; have HB := n5_; clear n0_ n1_ n2_ n3_ n4_ n5_; clear hb ho57; obtain ⟨Ao58, co58, eo58⟩ := Kd.R_slice HO146.out; subst eo58) | ((with_reducible refine gate_callee (f := 46) rfl ?_); refine goesL_ (some 12) rfl rfl Try.func46 (by kernel_rfl) rfl #[.pointer (some ⟨g, 0, none⟩), .slice Ao58 y144.length co58] rfl (by (try simp only [List.map_toArray, List.map_cons, List.map_nil]); first | done | rfl | (simp only [List.length_drop, List.length_take]; rfl)) ?_; (with_reducible refine (spec_l9Rd_num.calls k g s0_0 t142 _ _ y144 t147 t148 w0 _ ?side1 ?side2 ?side3 ?side4 ?side5 A3.out).mono ?_); (case side1 => exact spec_l1Post_auHI0); (case side2 => exact spec_l1Post_auHB); (case side3 => repeat (first | exact (Kd.R_reads' HO146.out).2.2 | (with_reducible refine Kd.C_alloc ?_ _) | (with_reducible refine Kd.C_drewN ?_ _) | (with_reducible refine Kd.C_drew ?_))); (case side4 => exact (Kd.R_reads' HO146.out).2.1); (case side5 => exact far_slice (IsS74.own_ne HI0.out HO146.out (by decide))); rintro e w59 ⟨rfl, hi, hb, hk⟩; refine ⟨_, rfl, ?_⟩; have n0_ := Aside0.mk (KeepBut.blk hk (g' := gb140) (o := .cells #[.int .i64 0, .slice none 0 0] 29 (0, 0)) (spec_l1Post_vb BK140) NB140_0.out (by simp)); have n1_ := Aside0.mk (KeepBut.blk hk (g' := gb143) (o := .cells #[.int .i64 t141, .slice none 0 0] 29 (0, 0)) (spec_l1Post_vb BK143) NB143_0.out (by simp)); have n2_ := Aside0.mk (Kd.R_mono (Kd.R_keep (IsS74.apart (show IsS74 w0 _ g s0_0 t142 from spec_l1Post_auHI0) (by (with_reducible repeat (first | apply Kd.R_alloc | apply Kd.R_drewN | apply Kd.R_drew)); exact HO146.out) (by decide)) hk (fun _ h => h.2)) (fun _ h => h.1)); have n3_ := Aside0.mk (KeepBut.trans (spec_l1Post_auHK) hk (.inl rfl)); have n4_ := Aside0.mk (hb); have n5_ := Aside0.mk (hi); clear BK140; clear BK143; clear HO146; clear HK; clear HB; clear HI0; have BK140 := n0_; have BK143 := n1_; have HO146 := n2_; have HK := n3_; have HB := n4_; have HI0 := n5_; clear n0_ n1_ n2_ n3_ n4_ n5_; (try clear hb); (try clear hb2); (try clear hk); (try clear hi)) | ((with_reducible refine gate_callee (f := 43) rfl ?_); refine goesL_ (some 14) rfl rfl Try.func43 (by kernel_rfl) rfl #[.pointer (some ⟨g, 0, none⟩), .int .i64 3] rfl (by (try simp only [List.map_toArray, List.map_cons, List.map_nil]); first | done | rfl | (simp only [List.length_drop, List.length_take]; rfl)) ?_; (with_reducible refine (spec_l9Rd_pick.calls k g s0_0 t148 3 t149 t150 w0 _ ?side1 ?side2 A4.out).mono ?_); (case side1 => exact spec_l1Post_auHI0); (case side2 => exact spec_l1Post_auHB); rintro e w60 ⟨rfl, hi, hb, hk⟩; refine ⟨_, rfl, ?_⟩; have n0_ := Aside0.mk (KeepBut.blk hk (g' := gb140) (o := .cells #[.int .i64 0, .slice none 0 0] 29 (0, 0)) (spec_l1Post_vb BK140) NB140_0.out (by simp)); have n1_ := Aside0.mk (KeepBut.blk hk (g' := gb143) (o := .cells #[.int .i64 t141, .slice none 0 0] 29 (0, 0)) (spec_l1Post_vb BK143) NB143_0.out (by simp)); have n2_ := Aside0.mk (Kd.R_mono (Kd.R_keep (IsS74.apart (show IsS74 w0 _ g s0_0 t148 from spec_l1Post_auHI0) (by (with_reducible repeat (first | apply Kd.R_alloc | apply Kd.R_drewN | apply Kd.R_drew)); exact HO146.out) (by decide)) hk (fun _ h => h.2)) (fun _ h => h.1)); have n3_ := Aside0.mk (KeepBut.trans (spec_l1Post_auHK) hk (.inl rfl)); have n4_ := Aside0.mk (hb); have n5_ := Aside0.mk (hi); clear BK140; clear BK143; clear HO146; clear HK; clear HB; clear HI0; have BK140 := n0_; have BK143 := n1_; have HO146 := n2_; have HK := n3_; have HB := n4_; have HI0 := n5_; clear n0_ n1_ n2_ n3_ n4_ n5_; (try clear hb); (try clear hb2); (try clear hk); (try clear hi)) | ((with_reducible refine gate_callee (f := 45) rfl ?_); refine goesL_ (some 17) rfl rfl Try.func45 (by kernel_rfl) rfl #[.pointer (some ⟨g, 0, none⟩)] rfl (by (try simp only [List.map_toArray, List.map_cons, List.map_nil]); first | done | rfl | (simp only [List.length_drop, List.length_take]; rfl)) ?_; (with_reducible refine (spec_l1Acct.calls k g s0_0 t150 t151 t152 w0 _ ?side1 ?side2 A5.out).mono ?_); (case side1 => exact spec_l1Post_auHI0); (case side2 => exact spec_l1Post_auHB); rintro e w61 ⟨rfl, hi, hb, hk⟩; refine ⟨_, rfl, ?_⟩; have n0_ := Aside0.mk (KeepBut.blk hk (g' := gb140) (o := .cells #[.int .i64 0, .slice none 0 0] 29 (0, 0)) (spec_l1Post_vb BK140) NB140_0.out (by simp)); have n1_ := Aside0.mk (KeepBut.blk hk (g' := gb143) (o := .cells #[.int .i64 t141, .slice none 0 0] 29 (0, 0)) (spec_l1Post_vb BK143) NB143_0.out (by simp)); have n2_ := Aside0.mk (Kd.R_mono (Kd.R_keep (IsS74.apart (show IsS74 w0 _ g s0_0 t150 from spec_l1Post_auHI0) (by (with_reducible repeat (first | apply Kd.R_alloc | apply Kd.R_drewN | apply Kd.R_drew)); exact HO146.out) (by decide)) hk (fun _ h => h.2)) (fun _ h => h.1)); have n3_ := Aside0.mk (KeepBut.trans (spec_l1Post_auHK) hk (.inl rfl)); have n4_ := Aside0.mk (hb); have n5_ := Aside0.mk (hi); clear BK140; clear BK143; clear HO146; clear HK; clear HB; clear HI0; have BK140 := n0_; have BK143 := n1_; have HO146 := n2_; have HK := n3_; have HB := n4_; have HI0 := n5_; clear n0_ n1_ n2_ n3_ n4_ n5_; (try clear hb); (try clear hb2); (try clear hk); (try clear hi)) | ((with_reducible refine gate_callee (f := 45) rfl ?_); refine goesL_ (some 22) rfl rfl Try.func45 (by kernel_rfl) rfl #[.pointer (some ⟨g, 0, none⟩)] rfl (by (try simp only [List.map_toArray, List.map_cons, List.map_nil]); first | done | rfl | (simp only [List.length_drop, List.length_take]; rfl)) ?_; (with_reducible refine (spec_l1Acct.calls k g s0_0 t152 t153 t154 w0 _ ?side1 ?side2 A6.out).mono ?_); (case side1 => exact spec_l1Post_auHI0); (case side2 => exact spec_l1Post_auHB); rintro e w62 ⟨rfl, hi, hb, hk⟩; refine ⟨_, rfl, ?_⟩; have n0_ := Aside0.mk (KeepBut.blk hk (g' := gb140) (o := .cells #[.int .i64 0, .slice none 0 0] 29 (0, 0)) (spec_l1Post_vb BK140) NB140_0.out (by simp)); have n1_ := Aside0.mk (KeepBut.blk hk (g' := gb143) (o := .cells #[.int .i64 t141, .slice none 0 0] 29 (0, 0)) (spec_l1Post_vb BK143) NB143_0.out (by simp)); have n2_ := Aside0.mk (Kd.R_mono (Kd.R_keep (IsS74.apart (show IsS74 w0 _ g s0_0 t152 from spec_l1Post_auHI0) (by (with_reducible repeat (first | apply Kd.R_alloc | apply Kd.R_drewN | apply Kd.R_drew)); exact HO146.out) (by decide)) hk (fun _ h => h.2)) (fun _ h => h.1)); have n3_ := Aside0.mk (KeepBut.trans (spec_l1Post_auHK) hk (.inl rfl)); have n4_ := Aside0.mk (hb); have n5_ := Aside0.mk (hi); clear BK140; clear BK143; clear HO146; clear HK; clear HB; clear HI0; have BK140 := n0_; have BK143 := n1_; have HO146 := n2_; have HK := n3_; have HB := n4_; have HI0 := n5_; clear n0_ n1_ n2_ n3_ n4_ n5_; (try clear hb); (try clear hb2); (try clear hk); (try clear hi)) | ((with_reducible refine gate_dst (N := 27) rfl ?_); refine Kd.R_lit k41 _ 41 ?hg (N := 27) ?hd (xs := ([(⟨t151, wrap64 (1 + t149), t147⟩ : S41), (⟨t153, wrap64 (1 + t149), wrap64 (-t147)⟩ : S41)] : List (S41))) (inner := [.string t151, .int .i64 (wrap64 (1 + t149)), .int .i64 t147, .string t153, .int .i64 (wrap64 (1 + t149)), .int .i64 (wrap64 (-t147))]) (ok := fun _ => True) (okp := fun _ => True) ?hr ?hp (fun _ hk => hk) trivial (Below.refl _ _) (Nat.le_refl _) (by simp) ?_; (case hd => rfl); (case hg => rfl); (case hr => first | (go_simp; done) | (go_simp; rfl)); (case hp => exact (Reps.c3 (show Kd.M k41 _ _ _ (⟨t151, wrap64 (1 + t149), t147⟩ : S41) [.string t151, .int .i64 (wrap64 (1 + t149)), .int .i64 t147] from (k41_mkM _ _ _ (⟨t151, wrap64 (1 + t149), t147⟩ : S41) )) (Reps.c3 (show Kd.M k41 _ _ _ (⟨t153, wrap64 (1 + t149), wrap64 (-t147)⟩ : S41) [.string t153, .int .i64 (wrap64 (1 + t149)), .int .i64 (wrap64 (-t147))] from (k41_mkM _ _ _ (⟨t153, wrap64 (1 + t149), wrap64 (-t147)⟩ : S41) )) (Reps.none _ _)))); intro v156 w63 ho64 hb hg_ hnew_; clear hg_ hnew_; (first | rw [← Ny155.out] at ho64 | (simp only [Int.reduceToNat] at ho64; rw [← Ny155.out] at ho64)); have n0_ := Aside0.mk (Kd.R_below (by (with_reducible repeat (first | apply Kd.R_alloc | apply Kd.R_drewN | apply Kd.R_drew)); exact HO146.out) hb); have n1_ := Aside0.mk (Kd.R_lower ho64 (keep_size (w := w) (g := g) (row := none) (spec_l1Post_auHK))); have n2_ := Aside0.mk (IsS74.below (spec_l1Post_auHI0) hb); have n3_ := Aside0.mk (blk_below (g := gb140) (o := .cells #[.int .i64 0, .slice none 0 0] 29 (0, 0)) (spec_l1Post_vb BK140) hb); have n4_ := Aside0.mk (blk_below (g := gb143) (o := .cells #[.int .i64 t141, .slice none 0 0] 29 (0, 0)) (spec_l1Post_vb BK143) hb); have n5_ := Aside0.mk (KeepBut.trans (spec_l1Post_auHK) (KeepBut.of_below hb g none) (.inl rfl)); have n6_ := Aside0.mk (below_step (spec_l1Post_auHB) hb); clear HO146; clear HI0; clear BK140; clear BK143; clear HK; clear HB; have HO146 := n0_; have HO157 := n1_; have HI0 := n2_; have BK140 := n3_; have BK143 := n4_; have HK := n5_; have HB := n6_; clear n0_ n1_ n2_ n3_ n4_ n5_ n6_; clear hb ho64; obtain ⟨Ao65, co65, eo65⟩ := Kd.R_slice HO157.out; subst eo65; have hcz66_0 : w63.cell? ⟨gb143, 0, none⟩ = some (.int .i64 t141) := (blk_cell BK143.out 0).trans rfl; have hcz66_1 : w63.cell? ⟨gb143, 1, none⟩ = some (.slice none 0 0) := (blk_cell BK143.out 1).trans rfl; have hfz66_0 := blk_frozen BK143.out 0; have hfz66_1 := blk_frozen BK143.out 1) | ((with_reducible refine gate_callee (f := 43) rfl ?_); refine goesL_ (some 30) rfl rfl Try.func43 (by kernel_rfl) rfl #[.pointer (some ⟨g, 0, none⟩), .int .i64 5] rfl (by (try simp only [List.map_toArray, List.map_cons, List.map_nil]); first | done | rfl | (simp only [List.length_drop, List.length_take]; rfl)) ?_; (with_reducible refine (spec_l9Rd_pick.calls k g s0_0 t154 5 t158 t159 w0 _ ?side1 ?side2 A7.out).mono ?_); (case side1 => exact spec_l1Post_auHI0); (case side2 => exact spec_l1Post_auHB); rintro e w67 ⟨rfl, hi, hb, hk⟩; refine ⟨_, rfl, ?_⟩; have n0_ := Aside0.mk (KeepBut.blk hk (g' := gb140) (o := .cells #[.int .i64 0, .slice none 0 0] 29 (0, 0)) (by (with_reducible repeat (first | refine blk_drewN ?_ _ | refine blk_drew ?_ | refine blk_alloc ?_ _)); refine blk_far ?_ NB140_143.out _; (with_reducible repeat (first | refine blk_drewN ?_ _ | refine blk_drew ?_ | refine blk_alloc ?_ _)); exact BK140.out) NB140_0.out (by simp)); have n1_ := Aside0.mk (KeepBut.blk hk (g' := gb143) (o := .cells #[.int .i64 t141, .slice Ao65 y155.length co65] 29 (0, 0)) (by (with_reducible repeat (first | refine blk_drewN ?_ _ | refine blk_drew ?_ | refine blk_alloc ?_ _)); refine blk_put (cs := #[.int .i64 t141, .slice none 0 0]) ?_ 1 _ rfl; (with_reducible repeat (first | refine blk_drewN ?_ _ | refine blk_drew ?_ | refine blk_alloc ?_ _)); exact BK143.out) NB143_0.out (by simp)); have n2_ := Aside0.mk (Kd.R_mono (Kd.R_keep (IsS74.apart (show IsS74 w0 _ g s0_0 t154 from spec_l1Post_auHI0) (by (with_reducible repeat (first | apply Kd.R_alloc | apply Kd.R_drewN | apply Kd.R_drew)); exact (Kd.R_mono (Kd.R_far (p := ⟨gb143, 1, none⟩) (Kd.R_types HO146.out BK143.out (by decide)) (fun _ hk => hk.2) (.slice Ao65 y155.length co65)) (fun _ h_ => h_.1))) (by decide)) hk (fun _ h => h.2)) (fun _ h => h.1)); have n3_ := Aside0.mk (Kd.R_mono (Kd.R_keep (IsS74.apart (show IsS74 w0 _ g s0_0 t154 from spec_l1Post_auHI0) (by (with_reducible repeat (first | apply Kd.R_alloc | apply Kd.R_drewN | apply Kd.R_drew)); exact (Kd.R_mono (Kd.R_far (p := ⟨gb143, 1, none⟩) (Kd.R_types HO157.out BK143.out (by decide)) (fun _ hk => hk.2) (.slice Ao65 y155.length co65)) (fun _ h_ => h_.1))) (by decide)) hk (fun _ h => h.2)) (fun _ h => h.1)); have n4_ := Aside0.mk (KeepBut.trans (spec_l1Post_auHK) hk (.inl rfl)); have n5_ := Aside0.mk (hb); have n6_ := Aside0.mk (hi); clear BK140; clear BK143; clear HO146; clear HO157; clear HK; clear HB; clear HI0; have BK140 := n0_; have BK143 := n1_; have HO146 := n2_; have HO157 := n3_; have HK := n4_; have HB := n5_; have HI0 := n6_; clear n0_ n1_ n2_ n3_ n4_ n5_ n6_; (try clear hb); (try clear hb2); (try clear hk); (try clear hi); have hcz68_0 : w67.cell? ⟨gb143, 0, none⟩ = some (.int .i64 t141) := (blk_cell BK143.out 0).trans rfl; have hcz68_1 : w67.cell? ⟨gb143, 1, none⟩ = some (.slice Ao65 y155.length co65) := (blk_cell BK143.out 1).trans rfl; have hfz68_0 := blk_frozen BK143.out 0; have hfz68_1 := blk_frozen BK143.out 1; have p47 : 0 ≤ (1 : Int) := (by omega); have q47 : (1 : Int) < ((y155.length : Int) : Int) := of_decide_eq_true (by first | (with_reducible assumption) | assumption); have qi47 : (1 < y155.length) = True := eq_true (by omega); obtain ⟨go47, co47, eo47, gb47, gl47, cl47, HG47⟩ := Kd.R_form HO157.out (by omega); (first | cases eo47 | (injection eo47 with ea_ en_ ec_; (first | subst ea_ | (injection ea_ with ea_; subst ea_)); subst ec_; clear en_)); have GB47 := Aside0.mk gb47; have GG47 := Aside0.mk HG47; clear gb47 gl47 HG47; obtain ⟨ce47, hcl47, hM47, hcc47, hfr47⟩ := Kd.R_elem HO157.out z41 (1 : Int) p47 q47; obtain rfl := k41_openM hM47; have hx47_0 : w67.cell? ⟨go47, (1 : Int).toNat * 3, none⟩ = some (.string ((rd_T41 y155 1).f0)) := hcc47 0 _ rfl; have hx47_1 : w67.cell? ⟨go47, (1 : Int).toNat * 3 + 1, none⟩ = some (.int .i64 ((rd_T41 y155 1).f1)) := hcc47 1 _ rfl; have hx47_2 : w67.cell? ⟨go47, (1 : Int).toNat * 3 + 2, none⟩ = some (.int .i64 ((rd_T41 y155 1).f2)) := hcc47 2 _ rfl; have hf47_0 : w67.frozen? ⟨go47, (1 : Int).toNat * 3, none⟩ = false := hfr47 0; have hf47_1 : w67.frozen? ⟨go47, (1 : Int).toNat * 3 + 1, none⟩ = false := hfr47 1; have hf47_2 : w67.frozen? ⟨go47, (1 : Int).toNat * 3 + 2, none⟩ = false := hfr47 2; clear hcl47 hcc47 hfr47 hM47; (try rw [show ((1 : Int)).toNat = 1 from rfl] at hx47_0); (try simp only [Nat.reduceMul, Nat.zero_mul, Nat.zero_add, Nat.reduceAdd] at hx47_0); (try rw [show ((1 : Int)).toNat = 1 from rfl] at hf47_0); (try simp only [Nat.reduceMul, Nat.zero_mul, Nat.zero_add, Nat.reduceAdd] at hf47_0); (try rw [show ((1 : Int)).toNat = 1 from rfl] at hx47_1); (try simp only [Nat.reduceMul, Nat.zero_mul, Nat.zero_add, Nat.reduceAdd] at hx47_1); (try rw [show ((1 : Int)).toNat = 1 from rfl] at hf47_1); (try simp only [Nat.reduceMul, Nat.zero_mul, Nat.zero_add, Nat.reduceAdd] at hf47_1); (try rw [show ((1 : Int)).toNat = 1 from rfl] at hx47_2); (try simp only [Nat.reduceMul, Nat.zero_mul, Nat.zero_add, Nat.reduceAdd] at hx47_2); (try rw [show ((1 : Int)).toNat = 1 from rfl] at hf47_2); (try simp only [Nat.reduceMul, Nat.zero_mul, Nat.zero_add, Nat.reduceAdd] at hf47_2); replace p47 := eq_true p47; replace q47 := eq_true q47; have HX69 := Aside0.mk (show Kd.R k41 41 w67 w.heap.size (fun _ => True) (.slice (some ⟨go47, 0, none⟩) y155.length co65) y155 from (by (with_reducible repeat (first | apply Kd.R_alloc | apply Kd.R_drewN | apply Kd.R_drew)); exact HO157.out)); obtain ⟨ce69, hcl69, hM69, hcc69, hfr69⟩ := Kd.R_elem HX69.out z41 (1 : Int) (by omega) (by have h_ : (1 : Int) < ((y155.length : Int) : Int) := of_decide_eq_true (by first | (with_reducible assumption) | assumption); first | exact h_ | (have e_ := (Kd.R_reads' HO157.out).1; omega) | simpa using h_); obtain rfl := k41_openM hM69; have HP69 := Kd.R_seg HX69.out (1 : Int) (by omega) (by have h_ : (1 : Int) < ((y155.length : Int) : Int) := of_decide_eq_true (by first | (with_reducible assumption) | assumption); first | exact h_ | (have e_ := (Kd.R_reads' HO157.out).1; omega) | simpa using h_) (seg := [.int .i64 (wrap64 (1 - t147))]) (j := 2) hcl69 hcc69 (show 3 ≤ 3 from by decide) (x' := (⟨(rd_T41 y155 1).f0, (rd_T41 y155 1).f1, wrap64 (1 - t147)⟩ : S41)) (k41_mkM _ _ _ (⟨(rd_T41 y155 1).f0, (rd_T41 y155 1).f1, wrap64 (1 - t147)⟩ : S41) ) (fun _ hk => hk); have hx69_2 := hcc69 2 _ rfl; (try simp only [show (k41).sz = 3 from rfl, Nat.mul_one, Nat.add_zero] at hx69_2); (try rw [show ((1 : Int)).toNat = 1 from rfl] at hx69_2); (try simp only [Nat.reduceMul, Nat.zero_mul, Nat.zero_add, Nat.reduceAdd] at hx69_2); have hf69_2 := hfr69 2; (try simp only [show (k41).sz = 3 from rfl, Nat.mul_one, Nat.add_zero] at hf69_2); (try rw [show ((1 : Int)).toNat = 1 from rfl] at hf69_2); (try simp only [Nat.reduceMul, Nat.zero_mul, Nat.zero_add, Nat.reduceAdd] at hf69_2); clear hcl69 hcc69 hfr69 hM69) | ((with_reducible refine gate_store (t := 3) (p := 58) rfl ?_); refine store_event (t := 3) (p := 58) (v := ?vo_w70) (w1 := (w67.setCell ⟨go47, 5, none⟩ (.int .i64 (wrap64 (1 - t147))))) ?hg ?ho ?hn ?hr ?_; (case ho => rfl); (case hg => rfl); (case hn => rfl); (case hr => first | (go_simp; done) | (go_simp; rfl)); intro w70 hw; have hg : w67.grownBy w70 (some go47) := (by rw [hw]; exact HP69.2); have hp_ : Kd.R k41 41 w70 w.heap.size (fun _ => True) (.slice (some ⟨go47, 0, none⟩) y155.length co65) y172 := (by rw [hw, Ny172.out]; exact HP69.1); clear HP69; have n0_ := Aside0.mk (IsS74.grown (spec_l1Post_auHI0) hg (IsS74.own_ne HI0.out HO157.out (by decide))); have n1_ := Aside0.mk (blk_grown (g := gb140) (o := .cells #[.int .i64 0, .slice none 0 0] 29 (0, 0)) (spec_l1Post_vb BK140) hg (Kd.R_ne HO157.out BK140.out (by decide))); have n2_ := Aside0.mk (blk_grown (g := gb143) (o := .cells #[.int .i64 t141, .slice (some ⟨go47, 0, none⟩) y155.length co65] 29 (0, 0)) (spec_l1Post_vb BK143) hg (Kd.R_ne HO157.out BK143.out (by decide))); have n3_ := Aside0.mk (Kd.R_over' (v := (.slice (some ⟨go47, 0, none⟩) y155.length co65)) (by (with_reducible repeat (first | apply Kd.R_alloc | apply Kd.R_drewN | apply Kd.R_drew)); exact HO146.out) (Kd.R_typed HO157.out) (by decide) hg); have n4_ := Aside0.mk (hp_); have n5_ := Aside0.mk ((by rw [hw]; exact below_set (HB.out) (Nat.le_trans HL.out GB47.out) : Below w0.heap.size w0 w70)); have n6_ := Aside0.mk (KeepBut.trans (spec_l1Post_auHK) (KeepBut.of_grown hg g) (Kd.R_base2 HO157.out)); clear HI0; clear BK140; clear BK143; clear HO146; clear HO157; clear HB; clear HK; have HI0 := n0_; have BK140 := n1_; have BK143 := n2_; have HO146 := n3_; have HO157 := n4_; have HB := n5_; have HK := n6_; clear n0_ n1_ n2_ n3_ n4_ n5_ n6_; clear hg hw hp_))
      have n0_ := Aside0.mk (Kd.R_drew HO146.out)
      have n1_ := Aside0.mk (Kd.R_drew HO157.out)
      have n2_ := Aside0.mk (blk_drew BK140.out)
      have n3_ := Aside0.mk (blk_drew BK143.out)
      have n4_ := Aside0.mk (IsS74.drew HI0.out)
      have n5_ := Aside0.mk (keep_drew HK.out)
      have n6_ := Aside0.mk (below_drew1 HB.out)
      clear HO146
      clear HO157
      clear BK140
      clear BK143
      clear HI0
      clear HK
      clear HB
      have HO146 := n0_
      have HO157 := n1_
      have BK140 := n2_
      have BK143 := n3_
      have HI0 := n4_
      have HK := n5_
      have HB := n6_
      clear n0_ n1_ n2_ n3_ n4_ n5_ n6_
      refine start_ (n := 10) (S := fun w' => w'.cell? ⟨gb143, 0, none⟩ = some (.int .i64 t141) ∧ w'.cell? ⟨gb143, 1, none⟩ = some (.slice (some ⟨go47, 0, none⟩) y155.length co65)) (ds := [9]) #[false, false, false, false, false, false, false, false, false, false] (by kernel_rfl) rfl rfl ⟨(blk_cell BK143.out 0).trans rfl, (blk_cell BK143.out 1).trans rfl⟩ (fun hHeld => ?_); refine with_tabW spec_l1Post.tab12 spec_l1Post.bits12 (fun HT_ HW_ => ?_)
      generalize w70.drew = w71 at HO146 HO157 BK140 BK143 HI0 HK HB hHeld ⊢
      refine pure_ (i := 0) (N := some 59) (v := ?_) (a' := ?_) #[true, false, false, false, false, false, false, false, false, false] rfl rfl (any_of HT_.out (by kernel_rfl)) (fun _ _ _ h => h) (Or.inl ⟨by rfl, ?_⟩) ?_ ?_
      rotate_left
      ·
       intro w'
       go_simp
       with_reducible rfl
      rotate_left
      ·
       simp only [Act.put, List.setIfInBounds_toArray, List.set_cons_zero, List.set_cons_succ, i64_w, i32_w]
       rfl
      refine pure_ (i := 2) (N := some 61) (v := ?_) (a' := ?_) #[true, false, true, false, false, false, false, false, false, false] rfl rfl (any_of HT_.out (by kernel_rfl)) (fun _ _ _ h => h) (Or.inl ⟨by rfl, ?_⟩) ?_ ?_
      rotate_left
      ·
       intro w'
       go_simp
       with_reducible rfl
      rotate_left
      ·
       simp only [Act.put, List.setIfInBounds_toArray, List.set_cons_zero, List.set_cons_succ, i64_w, i32_w]
       rfl
      refine pure_ (i := 4) (N := some 63) (v := ?_) (a' := ?_) #[true, false, true, false, true, false, false, false, false, false] rfl rfl (any_of HT_.out (by kernel_rfl)) (fun _ _ _ h => h) (Or.inl ⟨by rfl, ?_⟩) ?_ ?_
      rotate_left
      ·
       intro w'
       go_simp
       with_reducible rfl
      rotate_left
      ·
       simp only [Act.put, List.setIfInBounds_toArray, List.set_cons_zero, List.set_cons_succ, i64_w, i32_w]
       rfl
      refine take_ (i := 1) (N := some 60) (v := ?_) (a' := ?_) #[true, true, true, false, true, false, false, false, false, false] rfl rfl (take_ofW HT_.out HW_.out (by kernel_rfl)) (fun _ _ _ h => h) (Or.inl ⟨by rfl, ?_⟩) hHeld ?_ ?_
      rotate_left
      ·
       rintro w' ⟨s0, s1⟩
       go_simp
       with_reducible rfl
      rotate_left
      ·
       simp only [Act.put, List.setIfInBounds_toArray, List.set_cons_zero, List.set_cons_succ, i64_w, i32_w]
       rfl
      refine one_ (i := 3) (N := some 62) #[true, true, true, true, true, false, false, false, false, false] rfl rfl (one_of HT_.out (by kernel_rfl)) (by decide) (fun K hK => ?_)
      refine goes_ Try.func45 (by kernel_rfl) rfl #[.pointer (some ⟨g, 0, none⟩)] (by rfl) rfl rfl (by (try simp only [List.map_toArray, List.map_cons, List.map_nil]); first | done | rfl | (simp only [List.length_drop, List.length_take]; rfl)) ?_
      with_reducible refine (spec_l1Acct.calls k g s0_0 t159 t173 t174 w0 _ ?side1 ?side2 A48.out).mono ?_
      (case side1 => exact spec_l1Post_auHI0)
      (case side2 => exact spec_l1Post_auHB)
      rintro e w72 ⟨rfl, hi, hb, hk⟩
      refine ⟨_, rfl, ?_⟩
      have n0_ := Aside0.mk (KeepBut.blk hk (g' := gb140) (o := .cells #[.int .i64 0, .slice none 0 0] 29 (0, 0)) (spec_l1Post_vb BK140) NB140_0.out (by simp))
      have n1_ := Aside0.mk (KeepBut.blk hk (g' := gb143) (o := .cells #[.int .i64 t141, .slice (some ⟨go47, 0, none⟩) y155.length co65] 29 (0, 0)) (spec_l1Post_vb BK143) NB143_0.out (by simp))
      have n2_ := Aside0.mk (Kd.R_mono (Kd.R_keep (IsS74.apart (show IsS74 w0 _ g s0_0 t159 from spec_l1Post_auHI0) (by (with_reducible repeat (first | apply Kd.R_alloc | apply Kd.R_drewN | apply Kd.R_drew)); exact HO146.out) (by decide)) hk (fun _ h => h.2)) (fun _ h => h.1))
      have n3_ := Aside0.mk (Kd.R_mono (Kd.R_keep (IsS74.apart (show IsS74 w0 _ g s0_0 t159 from spec_l1Post_auHI0) (by (with_reducible repeat (first | apply Kd.R_alloc | apply Kd.R_drewN | apply Kd.R_drew)); exact HO157.out) (by decide)) hk (fun _ h => h.2)) (fun _ h => h.1))
      have n4_ := Aside0.mk (KeepBut.trans (spec_l1Post_auHK) hk (.inl rfl))
      have n5_ := Aside0.mk (hb)
      have n6_ := Aside0.mk (hi)
      clear BK140
      clear BK143
      clear HO146
      clear HO157
      clear HK
      clear HB
      clear HI0
      have BK140 := n0_
      have BK143 := n1_
      have HO146 := n2_
      have HO157 := n3_
      have HK := n4_
      have HB := n5_
      have HI0 := n6_
      clear n0_ n1_ n2_ n3_ n4_ n5_ n6_
      (try clear hb)
      (try clear hb2)
      (try clear hk)
      (try clear hi)
      refine hK.out _ _ ⟨(blk_cell BK143.out 0).trans rfl, (blk_cell BK143.out 1).trans rfl⟩ (fun hHeld => ?_)
      clear hK K
      refine norm_ (a' := ?_) ?_ ?_
      rotate_left
      ·
       show Act.put _ (some 62) _ = _
       simp only [Act.put, List.setIfInBounds_toArray, List.set_cons_zero, List.set_cons_succ, i64_w, i32_w]
       rfl
      refine pure_ (i := 5) (N := some 64) (v := ?_) (a' := ?_) #[true, true, true, true, true, true, false, false, false, false] rfl rfl (any_of HT_.out (by kernel_rfl)) (fun _ _ _ h => h) (Or.inl ⟨by rfl, ?_⟩) ?_ ?_
      rotate_left
      ·
       intro w'
       go_simp
       with_reducible rfl
      rotate_left
      ·
       simp only [Act.put, List.setIfInBounds_toArray, List.set_cons_zero, List.set_cons_succ, i64_w, i32_w]
       rfl
      refine one_ (i := 6) (N := some 65) #[true, true, true, true, true, true, true, false, false, false] rfl rfl (one_of HT_.out (by kernel_rfl)) (by decide) (fun K hK => ?_)
      refine value_ (w1 := ?_) (v := ?_) (by rfl) rfl ?_ ?_
      rotate_left 2
      ·
       go_simp
       constructor
       ·
        rfl
       ·
        rfl
      refine hK.out _ _ ⟨(blk_cell (blk_alloc BK143.out _) 0).trans rfl, (blk_cell (blk_alloc BK143.out _) 1).trans rfl⟩ (fun hHeld => ?_)
      clear hK K
      refine norm_ (a' := ?_) ?_ ?_
      rotate_left
      ·
       show Act.put _ (some 65) _ = _
       simp only [Act.put, List.setIfInBounds_toArray, List.set_cons_zero, List.set_cons_succ, i64_w, i32_w]
       rfl
      refine one_ (i := 7) (N := some 66) #[true, true, true, true, true, true, true, true, false, false] rfl rfl (one_of HT_.out (by kernel_rfl)) (by decide) (fun K hK => ?_)
      refine Kd.R_append_step k41 w.heap.size (by rfl) (.tmp 60) (.tmp 65) 27 41 (.agg #[(.string ⟨#[]⟩), (.int .i64 0), (.int .i64 0)]) 32 rfl Try.underlying27 info41 rfl (by decide) (by omega) (.slice (some ⟨go47, 0, none⟩) y155.length co65) y172 (⟨t173, wrap64 (1 + t149), (-1)⟩ : S41) [.string t173, .int .i64 (wrap64 (1 + t149)), .int .i64 (-1)] (fun _ => True) (fun _ => False) rfl rfl ?aP (fun _ hk => hk.elim) ?aF ?aO (Below.refl _ _) ?aS ?aL ?_
      (case aP => exact k41_mkM _ _ _ (⟨t173, wrap64 (1 + t149), (-1)⟩ : S41))
      (case aF => exact (fun _ _ => trivial))
      (case aO => exact (by (with_reducible repeat (first | apply Kd.R_alloc | apply Kd.R_drewN | apply Kd.R_drew)); exact HO157.out))
      (case aS => exact (keep_size (w := w) (g := g) (row := none) (spec_l1Post_auHK)))
      (case aL => have := LMc49.out; omega)
      intro v176 w73 ho hb hg hat
      rw [← Ny175.out] at ho
      have n0_ := Aside0.mk (IsS74.grown (spec_l1Post_auHI0) hg (IsS74.own_ne HI0.out HO157.out (by decide)))
      have n1_ := Aside0.mk (blk_grown (g := gb140) (o := .cells #[.int .i64 0, .slice none 0 0] 29 (0, 0)) (spec_l1Post_vb BK140) hg (Kd.R_ne HO157.out BK140.out (by decide)))
      have n2_ := Aside0.mk (blk_grown (g := gb143) (o := .cells #[.int .i64 t141, .slice (some ⟨go47, 0, none⟩) y155.length co65] 29 (0, 0)) (spec_l1Post_vb BK143) hg (Kd.R_ne HO157.out BK143.out (by decide)))
      have n3_ := Aside0.mk (Kd.R_over' (by (with_reducible repeat (first | apply Kd.R_alloc | apply Kd.R_drewN | apply Kd.R_drew)); exact HO146.out) (Kd.R_typed (by (with_reducible repeat (first | apply Kd.R_alloc | apply Kd.R_drewN | apply Kd.R_drew)); exact HO157.out)) (by decide) hg)
      have n4_ := Aside0.mk (below_weaken (spec_l1Post_auHB) HL.out hb)
      have n5_ := Aside0.mk (KeepBut.trans (spec_l1Post_auHK) (KeepBut.of_grown hg g) (Kd.R_base2 HO157.out))
      have n6_ := Aside0.mk (ho)
      clear HI0
      clear BK140
      clear BK143
      clear HO146
      clear HB
      clear HK
      clear HO157
      have HI0 := n0_
      have BK140 := n1_
      have BK143 := n2_
      have HO146 := n3_
      have HB := n4_
      have HK := n5_
      have HO177 := n6_
      clear n0_ n1_ n2_ n3_ n4_ n5_ n6_
      clear ho hb hg hat
      obtain ⟨Ao74, co74, eo74⟩ := Kd.R_slice HO177.out
      (first | subst eo74 | (injection eo74 with f1_ f2_ f3_; have f4_ := f1_.symm; have f5_ := f3_.symm; clear f1_ f2_ f3_; subst f4_; subst f5_))
      refine hK.out _ _ ⟨(blk_cell BK143.out 0).trans rfl, (blk_cell BK143.out 1).trans rfl⟩ (fun hHeld => ?_)
      clear hK K
      refine norm_ (a' := ?_) ?_ ?_
      rotate_left
      ·
       show Act.put _ (some 66) _ = _
       simp only [Act.put, List.setIfInBounds_toArray, List.set_cons_zero, List.set_cons_succ, i64_w, i32_w]
       rfl
      refine pure_ (i := 8) (N := some 67) (v := ?_) (a' := ?_) #[true, true, true, true, true, true, true, true, true, false] rfl rfl (any_of HT_.out (by kernel_rfl)) (fun _ _ _ h => h) (Or.inl ⟨by rfl, ?_⟩) ?_ ?_
      rotate_left
      ·
       intro w'
       go_simp
       with_reducible rfl
      rotate_left
      ·
       simp only [Act.put, List.setIfInBounds_toArray, List.set_cons_zero, List.set_cons_succ, i64_w, i32_w]
       rfl
      refine last_ (i := 9) (N := none) #[true, true, true, true, true, true, true, true, true, true] rfl rfl (one_of HT_.out (by kernel_rfl)) (by decide) (fun K hK => ?_)
      have hs75 : w73.cell? ⟨gb143, 1, none⟩ = some (.slice (some ⟨go47, 0, none⟩) y155.length co65) := (blk_cell BK143.out 1).trans rfl
      have hfs75 := blk_frozen BK143.out 1
      have hns75_0 := NB140_143.out
      have hms75_0 := NB143_140.out
      refine skip_ (w1 := ?_) (by rfl) rfl ?_ ?_
      rotate_left
      ·
       go_simp
       rfl
      refine hK.out _ _ ?_
      clear hK K
      refine done_ (done_of HT_.out (by kernel_rfl)) ?_
      have hcz76_0 : w73.cell? ⟨gb143, 0, none⟩ = some (.int .i64 t141) := (blk_cell BK143.out 0).trans rfl
      have hcz76_1 : w73.cell? ⟨gb143, 1, none⟩ = some (.slice (some ⟨go47, 0, none⟩) y155.length co65) := (blk_cell BK143.out 1).trans rfl
      have hfz76_0 := blk_frozen BK143.out 0
      have hfz76_1 := blk_frozen BK143.out 1
      have hnb77 := NB140_0.out
      have hnc77 := NB0_140.out
      have hcz78_0 : w73.cell? ⟨gb140, 0, none⟩ = some (.int .i64 0) := (blk_cell BK140.out 0).trans rfl
      have hcz78_1 : w73.cell? ⟨gb140, 1, none⟩ = some (.slice none 0 0) := (blk_cell BK140.out 1).trans rfl
      have hfz78_0 := blk_frozen BK140.out 0
      have hfz78_1 := blk_frozen BK140.out 1
      try go_wp2
      refine bodyPost_ret (results_cell_row rfl _ _ gb140 29 #[.int .i64 t141, .slice Ao74 y175.length co74] (0, 0) _ rfl (by (with_reducible repeat (first | refine blk_drewN ?_ _ | refine blk_drew ?_ | refine blk_alloc ?_ _)); refine blk_put (cs := #[.int .i64 t141, .slice none 0 0]) ?_ 1 _ rfl; (with_reducible repeat (first | refine blk_drewN ?_ _ | refine blk_drew ?_ | refine blk_alloc ?_ _)); refine blk_put (cs := #[.int .i64 0, .slice none 0 0]) ?_ 0 _ rfl; (with_reducible repeat (first | refine blk_drewN ?_ _ | refine blk_drew ?_ | refine blk_alloc ?_ _)); refine blk_far ?_ NB140_143.out _; (with_reducible repeat (first | refine blk_drewN ?_ _ | refine blk_drew ?_ | refine blk_alloc ?_ _)); exact BK140.out) Try.underlying29 rfl (by kernel_rfl)) rfl ?_
      exact ⟨_, by first | rfl | (simp [errW_none, errW_some] <;> rfl) | (simp [*, errW_none, errW_some] <;> rfl), by (with_reducible repeat (first | apply Kd.R_alloc | apply Kd.R_drewN | apply Kd.R_drew)); exact Kd.R_mono (Kd.R_far (p := ⟨gb140, 1, none⟩) (Kd.R_far (p := ⟨gb140, 0, none⟩) (Kd.R_far (p := ⟨gb143, 1, none⟩) (Kd.R_types (Kd.R_types HO177.out BK143.out (by decide)) BK140.out (by decide)) (fun _ hk => hk.1.2) (.slice Ao74 y175.length co74)) (fun _ hk => hk.2) (.int .i64 t141)) (fun _ hk => hk.2) (.slice Ao74 y175.length co74)) (fun _ hk => trivial), spec_l1Post_auHI0, spec_l1Post_auHB, spec_l1Post_auHK⟩
     ·
      rw [if_neg c49] at H
      exact absurd H (by simp)
    ·
     rw [if_neg c46] at H
     exact absurd H (by simp)
   ·
    rw [if_neg c45] at H
    have c45b0 : decide (1 < t147) = false := decide_eq_false c45
    clear c45
    simp only [Option.some.injEq, Prod.mk.injEq] at H
    obtain ⟨rfl, rfl, rfl⟩ := H
    go_enter Try.func41, Try.ntmps41
    go_wp2_with (first | ((with_reducible refine gate_dst (N := 2) rfl ?_); refine box_event ?hg (N := 2) ?hd (cs := #[.int .i64 0, .slice none 0 0]) (t := 29) ?hr ?_; (case hd => rfl); (case hg => rfl); (case hr => first | (go_simp; done) | (go_simp; rfl)); intro gb140 hg w79 hbox hb; have n0_ := Aside0.mk (IsS74.below (spec_l1Post_auHI0) hb); have n1_ := Aside0.mk (KeepBut.trans (spec_l1Post_auHK) (KeepBut.of_below hb g none) (.inl rfl)); have n2_ := Aside0.mk (below_step (spec_l1Post_auHB) hb); have n3_ := Aside0.mk (hbox); have n4_ := Aside0.mk ((by rw [hg]; exact (keep_size (w := w) (g := g) (row := none) (spec_l1Post_auHK)) : w.heap.size ≤ gb140)); have n5_ := Aside0.mk ((Nat.le_trans HW0.out (by rw [hg]; exact (keep_size (w := w) (g := g) (row := none) (spec_l1Post_auHK)) : w.heap.size ≤ gb140) : w0.heap.size ≤ gb140)); have n6_ := Aside0.mk ((by rw [hg]; exact Nat.ne_of_lt (IsS74.lt (show IsS74 w0 _ g s0_0 s0_1 from spec_l1Post_auHI0)) : g ≠ gb140)); have n7_ := Aside0.mk ((by rw [hg]; exact Nat.ne_of_gt (IsS74.lt (show IsS74 w0 _ g s0_0 s0_1 from spec_l1Post_auHI0)) : gb140 ≠ g)); clear HI0; clear HK; clear HB; have HI0 := n0_; have HK := n1_; have HB := n2_; have BK140 := n3_; have GW140 := n4_; have GE140 := n5_; have NB0_140 := n6_; have NB140_0 := n7_; clear n0_ n1_ n2_ n3_ n4_ n5_ n6_ n7_; clear hb hbox hg) | ((with_reducible refine gate_callee (f := 43) rfl ?_); refine goesL_ (some 8) rfl rfl Try.func43 (by kernel_rfl) rfl #[.pointer (some ⟨g, 0, none⟩), .int .i64 14] rfl (by (try simp only [List.map_toArray, List.map_cons, List.map_nil]); first | done | rfl | (simp only [List.length_drop, List.length_take]; rfl)) ?_; (with_reducible refine (spec_l9Rd_pick.calls k g s0_0 s0_1 14 t141 t142 w0 _ ?side1 ?side2 A2.out).mono ?_); (case side1 => exact spec_l1Post_auHI0); (case side2 => exact spec_l1Post_auHB); rintro e w80 ⟨rfl, hi, hb, hk⟩; refine ⟨_, rfl, ?_⟩; have n0_ := Aside0.mk (KeepBut.blk hk (g' := gb140) (o := .cells #[.int .i64 0, .slice none 0 0] 29 (0, 0)) (spec_l1Post_vb BK140) NB140_0.out (by simp)); have n1_ := Aside0.mk (KeepBut.trans (spec_l1Post_auHK) hk (.inl rfl)); have n2_ := Aside0.mk (hb); have n3_ := Aside0.mk (hi); clear BK140; clear HK; clear HB; clear HI0; have BK140 := n0_; have HK := n1_; have HB := n2_; have HI0 := n3_; clear n0_ n1_ n2_ n3_; (try clear hb); (try clear hb2); (try clear hk); (try clear hi)) | ((with_reducible refine gate_dst (N := 3) rfl ?_); refine box_event ?hg (N := 3) ?hd (cs := #[.int .i64 0, .slice none 0 0]) (t := 29) ?hr ?_; (case hd => rfl); (case hg => rfl); (case hr => first | (go_simp; done) | (go_simp; rfl)); intro gb143 hg w81 hbox hb; have n0_ := Aside0.mk (IsS74.below (spec_l1Post_auHI0) hb); have n1_ := Aside0.mk (blk_below (g := gb140) (o := .cells #[.int .i64 0, .slice none 0 0] 29 (0, 0)) (spec_l1Post_vb BK140) hb); have n2_ := Aside0.mk (KeepBut.trans (spec_l1Post_auHK) (KeepBut.of_below hb g none) (.inl rfl)); have n3_ := Aside0.mk (below_step (spec_l1Post_auHB) hb); have n4_ := Aside0.mk (hbox); have n5_ := Aside0.mk ((by rw [hg]; exact (keep_size (w := w) (g := g) (row := none) (spec_l1Post_auHK)) : w.heap.size ≤ gb143)); have n6_ := Aside0.mk ((Nat.le_trans HW0.out (by rw [hg]; exact (keep_size (w := w) (g := g) (row := none) (spec_l1Post_auHK)) : w.heap.size ≤ gb143) : w0.heap.size ≤ gb143)); have n7_ := Aside0.mk ((by rw [hg]; exact Nat.ne_of_lt (blk_lt (g := gb140) (o := .cells #[.int .i64 0, .slice none 0 0] 29 (0, 0)) (spec_l1Post_vb BK140)) : gb140 ≠ gb143)); have n8_ := Aside0.mk ((by rw [hg]; exact Nat.ne_of_gt (blk_lt (g := gb140) (o := .cells #[.int .i64 0, .slice none 0 0] 29 (0, 0)) (spec_l1Post_vb BK140)) : gb143 ≠ gb140)); have n9_ := Aside0.mk ((by rw [hg]; exact Nat.ne_of_lt (IsS74.lt (show IsS74 w0 _ g s0_0 t142 from spec_l1Post_auHI0)) : g ≠ gb143)); have n10_ := Aside0.mk ((by rw [hg]; exact Nat.ne_of_gt (IsS74.lt (show IsS74 w0 _ g s0_0 t142 from spec_l1Post_auHI0)) : gb143 ≠ g)); clear HI0; clear BK140; clear HK; clear HB; have HI0 := n0_; have BK140 := n1_; have HK := n2_; have HB := n3_; have BK143 := n4_; have GW143 := n5_; have GE143 := n6_; have NB140_143 := n7_; have NB143_140 := n8_; have NB0_143 := n9_; have NB143_0 := n10_; clear n0_ n1_ n2_ n3_ n4_ n5_ n6_ n7_ n8_ n9_ n10_; clear hb hbox hg; have hnb82 := NB143_140.out; have hnc82 := NB140_143.out; have hnb83 := NB143_0.out; have hnc83 := NB0_143.out; have hcz84_0 : w81.cell? ⟨gb143, 0, none⟩ = some (.int .i64 0) := (blk_cell BK143.out 0).trans rfl; have hcz84_1 : w81.cell? ⟨gb143, 1, none⟩ = some (.slice none 0 0) := (blk_cell BK143.out 1).trans rfl; have hfz84_0 := blk_frozen BK143.out 0; have hfz84_1 := blk_frozen BK143.out 1) | ((with_reducible refine gate_dst (N := 11) rfl ?_); refine Kd.R_lit (Kd.int .i64) _ 3 ?hg (N := 11) ?hd (xs := ([5, 20, 100, 700, 1, 300, 1000] : List Int)) (inner := [.int .i64 5, .int .i64 20, .int .i64 100, .int .i64 700, .int .i64 1, .int .i64 300, .int .i64 1000]) (ok := fun _ => True) (okp := fun _ => True) ?hr ?hp (fun _ hk => hk) trivial (Below.refl _ _) (Nat.le_refl _) (by simp) ?_; (case hd => rfl); (case hg => rfl); (case hr => first | (go_simp; done) | (go_simp; rfl)); (case hp => exact (Reps.one (show Kd.M (Kd.int .i64) _ _ _ 5 [.int .i64 5] from rfl) (Reps.one (show Kd.M (Kd.int .i64) _ _ _ 20 [.int .i64 20] from rfl) (Reps.one (show Kd.M (Kd.int .i64) _ _ _ 100 [.int .i64 100] from rfl) (Reps.one (show Kd.M (Kd.int .i64) _ _ _ 700 [.int .i64 700] from rfl) (Reps.one (show Kd.M (Kd.int .i64) _ _ _ 1 [.int .i64 1] from rfl) (Reps.one (show Kd.M (Kd.int .i64) _ _ _ 300 [.int .i64 300] from rfl) (Reps.one (show Kd.M (Kd.int .i64) _ _ _ 1000 [.int .i64 1000] from rfl) (Reps.none _ _))))))))); intro v145 w85 ho86 hb hg_ hnew_; clear hg_ hnew_; (first | rw [← Ny144.out] at ho86 | (simp only [Int.reduceToNat] at ho86; rw [← Ny144.out] at ho86)); have n0_ := Aside0.mk (Kd.R_lower ho86 (keep_size (w := w) (g := g) (row := none) (spec_l1Post_auHK))); have n1_ := Aside0.mk (IsS74.below (show IsS74 w0 ((w81.setCell ⟨gb143, 0, none⟩ (.int .i64 t141)).setCell ⟨gb143, 1, none⟩ (.slice none 0 0)) g s0_0 t142 from spec_l1Post_auHI0) hb); have n2_ := Aside0.mk (blk_below (g := gb140) (o := .cells #[.int .i64 0, .slice none 0 0] 29 (0, 0)) (by (with_reducible repeat (first | refine blk_drewN ?_ _ | refine blk_drew ?_ | refine blk_alloc ?_ _)); refine blk_far ?_ NB140_143.out _; (with_reducible repeat (first | refine blk_drewN ?_ _ | refine blk_drew ?_ | refine blk_alloc ?_ _)); refine blk_far ?_ NB140_143.out _; (with_reducible repeat (first | refine blk_drewN ?_ _ | refine blk_drew ?_ | refine blk_alloc ?_ _)); exact BK140.out) hb); have n3_ := Aside0.mk (blk_below (g := gb143) (o := .cells #[.int .i64 t141, .slice none 0 0] 29 (0, 0)) (by (with_reducible repeat (first | refine blk_drewN ?_ _ | refine blk_drew ?_ | refine blk_alloc ?_ _)); refine blk_put (cs := #[.int .i64 t141, .slice none 0 0]) ?_ 1 _ rfl; (with_reducible repeat (first | refine blk_drewN ?_ _ | refine blk_drew ?_ | refine blk_alloc ?_ _)); refine blk_put (cs := #[.int .i64 0, .slice none 0 0]) ?_ 0 _ rfl; (with_reducible repeat (first | refine blk_drewN ?_ _ | refine blk_drew ?_ | refine blk_alloc ?_ _)); exact BK143.out) hb); have n4_ := Aside0.mk (KeepBut.trans (spec_l1Post_auHK) (KeepBut.of_below hb g none) (.inl rfl)); have n5_ := Aside0.mk (below_step (spec_l1Post_auHB) hb); clear HI0; clear BK140; clear BK143; clear HK; clear HB; have HO146 := n0_; have HI0 := n1_; have BK140 := n2_; have BK143 := n3_; have HK := n4_; have HB := n5_; clear n0_ n1_ n2_ n3_ n4_ n5_; clear hb ho86; obtain ⟨Ao87, co87, eo87⟩ := Kd.R_slice HO146.out; subst eo87) | ((with_reducible refine gate_callee (f := 46) rfl ?_); refine goesL_ (some 12) rfl rfl Try.func46 (by kernel_rfl) rfl #[.pointer (some ⟨g, 0, none⟩), .slice Ao87 y144.length co87] rfl (by (try simp only [List.map_toArray, List.map_cons, List.map_nil]); first | done | rfl | (simp only [List.length_drop, List.length_take]; rfl)) ?_; (with_reducible refine (spec_l9Rd_num.calls k g s0_0 t142 _ _ y144 t147 t148 w0 _ ?side1 ?side2 ?side3 ?side4 ?side5 A3.out).mono ?_); (case side1 => exact spec_l1Post_auHI0); (case side2 => exact spec_l1Post_auHB); (case side3 => repeat (first | exact (Kd.R_reads' HO146.out).2.2 | (with_reducible refine Kd.C_alloc ?_ _) | (with_reducible refine Kd.C_drewN ?_ _) | (with_reducible refine Kd.C_drew ?_))); (case side4 => exact (Kd.R_reads' HO146.out).2.1); (case side5 => exact far_slice (IsS74.own_ne HI0.out HO146.out (by decide))); rintro e w88 ⟨rfl, hi, hb, hk⟩; refine ⟨_, rfl, ?_⟩; have n0_ := Aside0.mk (KeepBut.blk hk (g' := gb140) (o := .cells #[.int .i64 0, .slice none 0 0] 29 (0, 0)) (spec_l1Post_vb BK140) NB140_0.out (by simp)); have n1_ := Aside0.mk (KeepBut.blk hk (g' := gb143) (o := .cells #[.int .i64 t141, .slice none 0 0] 29 (0, 0)) (spec_l1Post_vb BK143) NB143_0.out (by simp)); have n2_ := Aside0.mk (Kd.R_mono (Kd.R_keep (IsS74.apart (show IsS74 w0 _ g s0_0 t142 from spec_l1Post_auHI0) (by (with_reducible repeat (first | apply Kd.R_alloc | apply Kd.R_drewN | apply Kd.R_drew)); exact HO146.out) (by decide)) hk (fun _ h => h.2)) (fun _ h => h.1)); have n3_ := Aside0.mk (KeepBut.trans (spec_l1Post_auHK) hk (.inl rfl)); have n4_ := Aside0.mk (hb); have n5_ := Aside0.mk (hi); clear BK140; clear BK143; clear HO146; clear HK; clear HB; clear HI0; have BK140 := n0_; have BK143 := n1_; have HO146 := n2_; have HK := n3_; have HB := n4_; have HI0 := n5_; clear n0_ n1_ n2_ n3_ n4_ n5_; (try clear hb); (try clear hb2); (try clear hk); (try clear hi)) | ((with_reducible refine gate_callee (f := 43) rfl ?_); refine goesL_ (some 14) rfl rfl Try.func43 (by kernel_rfl) rfl #[.pointer (some ⟨g, 0, none⟩), .int .i64 3] rfl (by (try simp only [List.map_toArray, List.map_cons, List.map_nil]); first | done | rfl | (simp only [List.length_drop, List.length_take]; rfl)) ?_; (with_reducible refine (spec_l9Rd_pick.calls k g s0_0 t148 3 t149 t150 w0 _ ?side1 ?side2 A4.out).mono ?_); (case side1 => exact spec_l1Post_auHI0); (case side2 => exact spec_l1Post_auHB); rintro e w89 ⟨rfl, hi, hb, hk⟩; refine ⟨_, rfl, ?_⟩; have n0_ := Aside0.mk (KeepBut.blk hk (g' := gb140) (o := .cells #[.int .i64 0, .slice none 0 0] 29 (0, 0)) (spec_l1Post_vb BK140) NB140_0.out (by simp)); have n1_ := Aside0.mk (KeepBut.blk hk (g' := gb143) (o := .cells #[.int .i64 t141, .slice none 0 0] 29 (0, 0)) (spec_l1Post_vb BK143) NB143_0.out (by simp)); have n2_ := Aside0.mk (Kd.R_mono (Kd.R_keep (IsS74.apart (show IsS74 w0 _ g s0_0 t148 from spec_l1Post_auHI0) (by (with_reducible repeat (first | apply Kd.R_alloc | apply Kd.R_drewN | apply Kd.R_drew)); exact HO146.out) (by decide)) hk (fun _ h => h.2)) (fun _ h => h.1)); have n3_ := Aside0.mk (KeepBut.trans (spec_l1Post_auHK) hk (.inl rfl)); have n4_ := Aside0.mk (hb); have n5_ := Aside0.mk (hi); clear BK140; clear BK143; clear HO146; clear HK; clear HB; clear HI0; have BK140 := n0_; have BK143 := n1_; have HO146 := n2_; have HK := n3_; have HB := n4_; have HI0 := n5_; clear n0_ n1_ n2_ n3_ n4_ n5_; (try clear hb); (try clear hb2); (try clear hk); (try clear hi)) | ((with_reducible refine gate_callee (f := 45) rfl ?_); refine goesL_ (some 17) rfl rfl Try.func45 (by kernel_rfl) rfl #[.pointer (some ⟨g, 0, none⟩)] rfl (by (try simp only [List.map_toArray, List.map_cons, List.map_nil]); first | done | rfl | (simp only [List.length_drop, List.length_take]; rfl)) ?_; (with_reducible refine (spec_l1Acct.calls k g s0_0 t150 t151 t152 w0 _ ?side1 ?side2 A5.out).mono ?_); (case side1 => exact spec_l1Post_auHI0); (case side2 => exact spec_l1Post_auHB); rintro e w90 ⟨rfl, hi, hb, hk⟩; refine ⟨_, rfl, ?_⟩; have n0_ := Aside0.mk (KeepBut.blk hk (g' := gb140) (o := .cells #[.int .i64 0, .slice none 0 0] 29 (0, 0)) (spec_l1Post_vb BK140) NB140_0.out (by simp)); have n1_ := Aside0.mk (KeepBut.blk hk (g' := gb143) (o := .cells #[.int .i64 t141, .slice none 0 0] 29 (0, 0)) (spec_l1Post_vb BK143) NB143_0.out (by simp)); have n2_ := Aside0.mk (Kd.R_mono (Kd.R_keep (IsS74.apart (show IsS74 w0 _ g s0_0 t150 from spec_l1Post_auHI0) (by (with_reducible repeat (first | apply Kd.R_alloc | apply Kd.R_drewN | apply Kd.R_drew)); exact HO146.out) (by decide)) hk (fun _ h => h.2)) (fun _ h => h.1)); have n3_ := Aside0.mk (KeepBut.trans (spec_l1Post_auHK) hk (.inl rfl)); have n4_ := Aside0.mk (hb); have n5_ := Aside0.mk (hi); clear BK140; clear BK143; clear HO146; clear HK; clear HB; clear HI0; have BK140 := n0_; have BK143 := n1_; have HO146 := n2_; have HK := n3_; have HB := n4_; have HI0 := n5_; clear n0_ n1_ n2_ n3_ n4_ n5_; (try clear hb); (try clear hb2); (try clear hk); (try clear hi)) | ((with_reducible refine gate_callee (f := 45) rfl ?_); refine goesL_ (some 22) rfl rfl Try.func45 (by kernel_rfl) rfl #[.pointer (some ⟨g, 0, none⟩)] rfl (by (try simp only [List.map_toArray, List.map_cons, List.map_nil]); first | done | rfl | (simp only [List.length_drop, List.length_take]; rfl)) ?_; (with_reducible refine (spec_l1Acct.calls k g s0_0 t152 t153 t154 w0 _ ?side1 ?side2 A6.out).mono ?_); (case side1 => exact spec_l1Post_auHI0); (case side2 => exact spec_l1Post_auHB); rintro e w91 ⟨rfl, hi, hb, hk⟩; refine ⟨_, rfl, ?_⟩; have n0_ := Aside0.mk (KeepBut.blk hk (g' := gb140) (o := .cells #[.int .i64 0, .slice none 0 0] 29 (0, 0)) (spec_l1Post_vb BK140) NB140_0.out (by simp)); have n1_ := Aside0.mk (KeepBut.blk hk (g' := gb143) (o := .cells #[.int .i64 t141, .slice none 0 0] 29 (0, 0)) (spec_l1Post_vb BK143) NB143_0.out (by simp)); have n2_ := Aside0.mk (Kd.R_mono (Kd.R_keep (IsS74.apart (show IsS74 w0 _ g s0_0 t152 from spec_l1Post_auHI0) (by (with_reducible repeat (first | apply Kd.R_alloc | apply Kd.R_drewN | apply Kd.R_drew)); exact HO146.out) (by decide)) hk (fun _ h => h.2)) (fun _ h => h.1)); have n3_ := Aside0.mk (KeepBut.trans (spec_l1Post_auHK) hk (.inl rfl)); have n4_ := Aside0.mk (hb); have n5_ := Aside0.mk (hi); clear BK140; clear BK143; clear HO146; clear HK; clear HB; clear HI0; have BK140 := n0_; have BK143 := n1_; have HO146 := n2_; have HK := n3_; have HB := n4_; have HI0 := n5_; clear n0_ n1_ n2_ n3_ n4_ n5_; (try clear hb); (try clear hb2); (try clear hk); (try clear hi)) | ((with_reducible refine gate_dst (N := 27) rfl ?_); refine Kd.R_lit k41 _ 41 ?hg (N := 27) ?hd (xs := ([(⟨t151, wrap64 (1 + t149), t147⟩ : S41), (⟨t153, wrap64 (1 + t149), wrap64 (-t147)⟩ : S41)] : List (S41))) (inner := [.string t151, .int .i64 (wrap64 (1 + t149)), .int .i64 t147, .string t153, .int .i64 (wrap64 (1 + t149)), .int .i64 (wrap64 (-t147))]) (ok := fun _ => True) (okp := fun _ => True) ?hr ?hp (fun _ hk => hk) trivial (Below.refl _ _) (Nat.le_refl _) (by simp) ?_; (case hd => rfl); (case hg => rfl); (case hr => first | (go_simp; done) | (go_simp; rfl)); (case hp => exact (Reps.c3 (show Kd.M k41 _ _ _ (⟨t151, wrap64 (1 + t149), t147⟩ : S41) [.string t151, .int .i64 (wrap64 (1 + t149)), .int .i64 t147] from (k41_mkM _ _ _ (⟨t151, wrap64 (1 + t149), t147⟩ : S41) )) (Reps.c3 (show Kd.M k41 _ _ _ (⟨t153, wrap64 (1 + t149), wrap64 (-t147)⟩ : S41) [.string t153, .int .i64 (wrap64 (1 + t149)), .int .i64 (wrap64 (-t147))] from (k41_mkM _ _ _ (⟨t153, wrap64 (1 + t149), wrap64 (-t147)⟩ : S41) )) (Reps.none _ _)))); intro v156 w92 ho93 hb hg_ hnew_; clear hg_ hnew_; (first | rw [← Ny155.out] at ho93 | (simp only [Int.reduceToNat] at ho93; rw [← Ny155.out] at ho93)); have n0_ := Aside0.mk (Kd.R_below (by (with_reducible repeat (first | apply Kd.R_alloc | apply Kd.R_drewN | apply Kd.R_drew)); exact HO146.out) hb); have n1_ := Aside0.mk (Kd.R_lower ho93 (keep_size (w := w) (g := g) (row := none) (spec_l1Post_auHK))); have n2_ := Aside0.mk (IsS74.below (spec_l1Post_auHI0) hb); have n3_ := Aside0.mk (blk_below (g := gb140) (o := .cells #[.int .i64 0, .slice none 0 0] 29 (0, 0)) (spec_l1Post_vb BK140) hb); have n4_ := Aside0.mk (blk_below (g := gb143) (o := .cells #[.int .i64 t141, .slice none 0 0] 29 (0, 0)) (spec_l1Post_vb BK143) hb); have n5_ := Aside0.mk (KeepBut.trans (spec_l1Post_auHK) (KeepBut.of_below hb g none) (.inl rfl)); have n6_ := Aside0.mk (below_step (spec_l1Post_auHB) hb); clear HO146; clear HI0; clear BK140; clear BK143; clear HK; clear HB; have HO146 := n0_; have HO157 := n1_; have HI0 := n2_; have BK140 := n3_; have BK143 := n4_; have HK := n5_; have HB := n6_; clear n0_ n1_ n2_ n3_ n4_ n5_ n6_; clear hb ho93; obtain ⟨Ao94, co94, eo94⟩ := Kd.R_slice HO157.out; subst eo94; have hcz95_0 : w92.cell? ⟨gb143, 0, none⟩ = some (.int .i64 t141) := (blk_cell BK143.out 0).trans rfl; have hcz95_1 : w92.cell? ⟨gb143, 1, none⟩ = some (.slice none 0 0) := (blk_cell BK143.out 1).trans rfl; have hfz95_0 := blk_frozen BK143.out 0; have hfz95_1 := blk_frozen BK143.out 1) | ((with_reducible refine gate_callee (f := 43) rfl ?_); refine goesL_ (some 30) rfl rfl Try.func43 (by kernel_rfl) rfl #[.pointer (some ⟨g, 0, none⟩), .int .i64 5] rfl (by (try simp only [List.map_toArray, List.map_cons, List.map_nil]); first | done | rfl | (simp only [List.length_drop, List.length_take]; rfl)) ?_; (with_reducible refine (spec_l9Rd_pick.calls k g s0_0 t154 5 t158 t159 w0 _ ?side1 ?side2 A7.out).mono ?_); (case side1 => exact spec_l1Post_auHI0); (case side2 => exact spec_l1Post_auHB); rintro e w96 ⟨rfl, hi, hb, hk⟩; refine ⟨_, rfl, ?_⟩; have n0_ := Aside0.mk (KeepBut.blk hk (g' := gb140) (o := .cells #[.int .i64 0, .slice none 0 0] 29 (0, 0)) (by (with_reducible repeat (first | refine blk_drewN ?_ _ | refine blk_drew ?_ | refine blk_alloc ?_ _)); refine blk_far ?_ NB140_143.out _; (with_reducible repeat (first | refine blk_drewN ?_ _ | refine blk_drew ?_ | refine blk_alloc ?_ _)); exact BK140.out) NB140_0.out (by simp)); have n1_ := Aside0.mk (KeepBut.blk hk (g' := gb143) (o := .cells #[.int .i64 t141, .slice Ao94 y155.length co94] 29 (0, 0)) (by (with_reducible repeat (first | refine blk_drewN ?_ _ | refine blk_drew ?_ | refine blk_alloc ?_ _)); refine blk_put (cs := #[.int .i64 t141, .slice none 0 0]) ?_ 1 _ rfl; (with_reducible repeat (first | refine blk_drewN ?_ _ | refine blk_drew ?_ | refine blk_alloc ?_ _)); exact BK143.out) NB143_0.out (by simp)); have n2_ := Aside0.mk (Kd.R_mono (Kd.R_keep (IsS74.apart (show IsS74 w0 _ g s0_0 t154 from spec_l1Post_auHI0) (by (with_reducible repeat (first | apply Kd.R_alloc | apply Kd.R_drewN | apply Kd.R_drew)); exact (Kd.R_mono (Kd.R_far (p := ⟨gb143, 1, none⟩) (Kd.R_types HO146.out BK143.out (by decide)) (fun _ hk => hk.2) (.slice Ao94 y155.length co94)) (fun _ h_ => h_.1))) (by decide)) hk (fun _ h => h.2)) (fun _ h => h.1)); have n3_ := Aside0.mk (Kd.R_mono (Kd.R_keep (IsS74.apart (show IsS74 w0 _ g s0_0 t154 from spec_l1Post_auHI0) (by (with_reducible repeat (first | apply Kd.R_alloc | apply Kd.R_drewN | apply Kd.R_drew)); exact (Kd.R_mono (Kd.R_far (p := ⟨gb143, 1, none⟩) (Kd.R_types HO157.out BK143.out (by decide)) (fun _ hk => hk.2) (.slice Ao94 y155.length co94)) (fun _ h_ => h_.1))) (by decide)) hk (fun _ h => h.2)) (fun _ h => h.1)); have n4_ := Aside0.mk (KeepBut.trans (spec_l1Post_auHK) hk (.inl rfl)); have n5_ := Aside0.mk (hb); have n6_ := Aside0.mk (hi); clear BK140; clear BK143; clear HO146; clear HO157; clear HK; clear HB; clear HI0; have BK140 := n0_; have BK143 := n1_; have HO146 := n2_; have HO157 := n3_; have HK := n4_; have HB := n5_; have HI0 := n6_; clear n0_ n1_ n2_ n3_ n4_ n5_ n6_; (try clear hb); (try clear hb2); (try clear hk); (try clear hi); have hcz97_0 : w96.cell? ⟨gb143, 0, none⟩ = some (.int .i64 t141) := (blk_cell BK143.out 0).trans rfl; have hcz97_1 : w96.cell? ⟨gb143, 1, none⟩ = some (.slice Ao94 y155.length co94) := (blk_cell BK143.out 1).trans rfl; have hfz97_0 := blk_frozen BK143.out 0; have hfz97_1 := blk_frozen BK143.out 1; have hnb98 := NB140_0.out; have hnc98 := NB0_140.out; have hcz99_0 : w96.cell? ⟨gb140, 0, none⟩ = some (.int .i64 0) := (blk_cell BK140.out 0).trans rfl; have hcz99_1 : w96.cell? ⟨gb140, 1, none⟩ = some (.slice none 0 0) := (blk_cell BK140.out 1).trans rfl; have hfz99_0 := blk_frozen BK140.out 0; have hfz99_1 := blk_frozen BK140.out 1))
    refine bodyPost_ret (results_cell_row rfl _ _ gb140 29 #[.int .i64 t141, .slice Ao94 y155.length co94] (0, 0) _ rfl (by (with_reducible repeat (first | refine blk_drewN ?_ _ | refine blk_drew ?_ | refine blk_alloc ?_ _)); refine blk_put (cs := #[.int .i64 t141, .slice none 0 0]) ?_ 1 _ rfl; (with_reducible repeat (first | refine blk_drewN ?_ _ | refine blk_drew ?_ | refine blk_alloc ?_ _)); refine blk_put (cs := #[.int .i64 0, .slice none 0 0]) ?_ 0 _ rfl; (with_reducible repeat (first | refine blk_drewN ?_ _ | refine blk_drew ?_ | refine blk_alloc ?_ _)); exact BK140.out) Try.underlying29 rfl (by kernel_rfl)) rfl ?_
    exact ⟨_, by first | rfl | (simp [errW_none, errW_some] <;> rfl) | (simp [*, errW_none, errW_some] <;> rfl), by (with_reducible repeat (first | apply Kd.R_alloc | apply Kd.R_drewN | apply Kd.R_drew)); exact Kd.R_mono (Kd.R_far (p := ⟨gb140, 1, none⟩) (Kd.R_far (p := ⟨gb140, 0, none⟩) (Kd.R_types HO157.out BK140.out (by decide)) (fun _ hk => hk.2) (.int .i64 t141)) (fun _ hk => hk.2) (.slice Ao94 y155.length co94)) (fun _ hk => trivial), spec_l1Post_auHI0, spec_l1Post_auHB, spec_l1Post_auHK⟩
  ·
   rw [if_neg c44] at H
   have c44b0 : (t158 == 1) = false := beq_eq_false_iff_ne.mpr c44
   have c44b1 : (t158 != 1) = true := bne_iff_ne.mpr c44
   simp only [Option.some.injEq, Prod.mk.injEq] at H
   obtain ⟨rfl, rfl, rfl⟩ := H
   go_enter Try.func41, Try.ntmps41
   go_wp2_with (first | ((with_reducible refine gate_dst (N := 2) rfl ?_); refine box_event ?hg (N := 2) ?hd (cs := #[.int .i64 0, .slice none 0 0]) (t := 29) ?hr ?_; (case hd => rfl); (case hg => rfl); (case hr => first | (go_simp; done) | (go_simp; rfl)); intro gb140 hg w100 hbox hb; have n0_ := Aside0.mk (IsS74.below (spec_l1Post_auHI0) hb); have n1_ := Aside0.mk (KeepBut.trans (spec_l1Post_auHK) (KeepBut.of_below hb g none) (.inl rfl)); have n2_ := Aside0.mk (below_step (spec_l1Post_auHB) hb); have n3_ := Aside0.mk (hbox); have n4_ := Aside0.mk ((by rw [hg]; exact (keep_size (w := w) (g := g) (row := none) (spec_l1Post_auHK)) : w.heap.size ≤ gb140)); have n5_ := Aside0.mk ((Nat.le_trans HW0.out (by rw [hg]; exact (keep_size (w := w) (g := g) (row := none) (spec_l1Post_auHK)) : w.heap.size ≤ gb140) : w0.heap.size ≤ gb140)); have n6_ := Aside0.mk ((by rw [hg]; exact Nat.ne_of_lt (IsS74.lt (show IsS74 w0 _ g s0_0 s0_1 from spec_l1Post_auHI0)) : g ≠ gb140)); have n7_ := Aside0.mk ((by rw [hg]; exact Nat.ne_of_gt (IsS74.lt (show IsS74 w0 _ g s0_0 s0_1 from spec_l1Post_auHI0)) : gb140 ≠ g)); clear HI0; clear HK; clear HB; have HI0 := n0_; have HK := n1_; have HB := n2_; have BK140 := n3_; have GW140 := n4_; have GE140 := n5_; have NB0_140 := n6_; have NB140_0 := n7_; clear n0_ n1_ n2_ n3_ n4_ n5_ n6_ n7_; clear hb hbox hg) | ((with_reducible refine gate_callee (f := 43) rfl ?_); refine goesL_ (some 8) rfl rfl Try.func43 (by kernel_rfl) rfl #[.pointer (some ⟨g, 0, none⟩), .int .i64 14] rfl (by (try simp only [List.map_toArray, List.map_cons, List.map_nil]); first | done | rfl | (simp only [List.length_drop, List.length_take]; rfl)) ?_; (with_reducible refine (spec_l9Rd_pick.calls k g s0_0 s0_1 14 t141 t142 w0 _ ?side1 ?side2 A2.out).mono ?_); (case side1 => exact spec_l1Post_auHI0); (case side2 => exact spec_l1Post_auHB); rintro e w101 ⟨rfl, hi, hb, hk⟩; refine ⟨_, rfl, ?_⟩; have n0_ := Aside0.mk (KeepBut.blk hk (g' := gb140) (o := .cells #[.int .i64 0, .slice none 0 0] 29 (0, 0)) (spec_l1Post_vb BK140) NB140_0.out (by simp)); have n1_ := Aside0.mk (KeepBut.trans (spec_l1Post_auHK) hk (.inl rfl)); have n2_ := Aside0.mk (hb); have n3_ := Aside0.mk (hi); clear BK140; clear HK; clear HB; clear HI0; have BK140 := n0_; have HK := n1_; have HB := n2_; have HI0 := n3_; clear n0_ n1_ n2_ n3_; (try clear hb); (try clear hb2); (try clear hk); (try clear hi)) | ((with_reducible refine gate_dst (N := 3) rfl ?_); refine box_event ?hg (N := 3) ?hd (cs := #[.int .i64 0, .slice none 0 0]) (t := 29) ?hr ?_; (case hd => rfl); (case hg => rfl); (case hr => first | (go_simp; done) | (go_simp; rfl)); intro gb143 hg w102 hbox hb; have n0_ := Aside0.mk (IsS74.below (spec_l1Post_auHI0) hb); have n1_ := Aside0.mk (blk_below (g := gb140) (o := .cells #[.int .i64 0, .slice none 0 0] 29 (0, 0)) (spec_l1Post_vb BK140) hb); have n2_ := Aside0.mk (KeepBut.trans (spec_l1Post_auHK) (KeepBut.of_below hb g none) (.inl rfl)); have n3_ := Aside0.mk (below_step (spec_l1Post_auHB) hb); have n4_ := Aside0.mk (hbox); have n5_ := Aside0.mk ((by rw [hg]; exact (keep_size (w := w) (g := g) (row := none) (spec_l1Post_auHK)) : w.heap.size ≤ gb143)); have n6_ := Aside0.mk ((Nat.le_trans HW0.out (by rw [hg]; exact (keep_size (w := w) (g := g) (row := none) (spec_l1Post_auHK)) : w.heap.size ≤ gb143) : w0.heap.size ≤ gb143)); have n7_ := Aside0.mk ((by rw [hg]; exact Nat.ne_of_lt (blk_lt (g := gb140) (o := .cells #[.int .i64 0, .slice none 0 0] 29 (0, 0)) (spec_l1Post_vb BK140)) : gb140 ≠ gb143)); have n8_ := Aside0.mk ((by rw [hg]; exact Nat.ne_of_gt (blk_lt (g := gb140) (o := .cells #[.int .i64 0, .slice none 0 0] 29 (0, 0)) (spec_l1Post_vb BK140)) : gb143 ≠ gb140)); have n9_ := Aside0.mk ((by rw [hg]; exact Nat.ne_of_lt (IsS74.lt (show IsS74 w0 _ g s0_0 t142 from spec_l1Post_auHI0)) : g ≠ gb143)); have n10_ := Aside0.mk ((by rw [hg]; exact Nat.ne_of_gt (IsS74.lt (show IsS74 w0 _ g s0_0 t142 from spec_l1Post_auHI0)) : gb143 ≠ g)); clear HI0; clear BK140; clear HK; clear HB; have HI0 := n0_; have BK140 := n1_; have HK := n2_; have HB := n3_; have BK143 := n4_; have GW143 := n5_; have GE143 := n6_; have NB140_143 := n7_; have NB143_140 := n8_; have NB0_143 := n9_; have NB143_0 := n10_; clear n0_ n1_ n2_ n3_ n4_ n5_ n6_ n7_ n8_ n9_ n10_; clear hb hbox hg; have hnb103 := NB143_140.out; have hnc103 := NB140_143.out; have hnb104 := NB143_0.out; have hnc104 := NB0_143.out; have hcz105_0 : w102.cell? ⟨gb143, 0, none⟩ = some (.int .i64 0) := (blk_cell BK143.out 0).trans rfl; have hcz105_1 : w102.cell? ⟨gb143, 1, none⟩ = some (.slice none 0 0) := (blk_cell BK143.out 1).trans rfl; have hfz105_0 := blk_frozen BK143.out 0; have hfz105_1 := blk_frozen BK143.out 1) | ((with_reducible refine gate_dst (N := 11) rfl ?_); refine Kd.R_lit (Kd.int .i64) _ 3 ?hg (N := 11) ?hd (xs := ([5, 20, 100, 700, 1, 300, 1000] : List Int)) (inner := [.int .i64 5, .int .i64 20, .int .i64 100, .int .i64 700, .int .i64 1, .int .i64 300, .int .i64 1000]) (ok := fun _ => True) (okp := fun _ => True) ?hr ?hp (fun _ hk => hk) trivial (Below.refl _ _) (Nat.le_refl _) (by simp) ?_; (case hd => rfl); (case hg => rfl); (case hr => first | (go_simp; done) | (go_simp; rfl)); (case hp => exact (Reps.one (show Kd.M (Kd.int .i64) _ _ _ 5 [.int .i64 5] from rfl) (Reps.one (show Kd.M (Kd.int .i64) _ _ _ 20 [.int .i64 20] from rfl) (Reps.one (show Kd.M (Kd.int .i64) _ _ _ 100 [.int .i64 100] from rfl) (Reps.one (show Kd.M (Kd.int .i64) _ _ _ 700 [.int .i64 700] from rfl) (Reps.one (show Kd.M (Kd.int .i64) _ _ _ 1 [.int .i64 1] from rfl) (Reps.one (show Kd.M (Kd.int .i64) _ _ _ 300 [.int .i64 300] from rfl) (Reps.one (show Kd.M (Kd.int .i64) _ _ _ 1000 [.int .i64 1000] from rfl) (Reps.none _ _))))))))); intro v145 w106 ho107 hb hg_ hnew_; clear hg_ hnew_; (first | rw [← Ny144.out] at ho107 | (simp only [Int.reduceToNat] at ho107; rw [← Ny144.out] at ho107)); have n0_ := Aside0.mk (Kd.R_lower ho107 (keep_size (w := w) (g := g) (row := none) (spec_l1Post_auHK))); have n1_ := Aside0.mk (IsS74.below (show IsS74 w0 ((w102.setCell ⟨gb143, 0, none⟩ (.int .i64 t141)).setCell ⟨gb143, 1, none⟩ (.slice none 0 0)) g s0_0 t142 from spec_l1Post_auHI0) hb); have n2_ := Aside0.mk (blk_below (g := gb140) (o := .cells #[.int .i64 0, .slice none 0 0] 29 (0, 0)) (by (with_reducible repeat (first | refine blk_drewN ?_ _ | refine blk_drew ?_ | refine blk_alloc ?_ _)); refine blk_far ?_ NB140_143.out _; (with_reducible repeat (first | refine blk_drewN ?_ _ | refine blk_drew ?_ | refine blk_alloc ?_ _)); refine blk_far ?_ NB140_143.out _; (with_reducible repeat (first | refine blk_drewN ?_ _ | refine blk_drew ?_ | refine blk_alloc ?_ _)); exact BK140.out) hb); have n3_ := Aside0.mk (blk_below (g := gb143) (o := .cells #[.int .i64 t141, .slice none 0 0] 29 (0, 0)) (by (with_reducible repeat (first | refine blk_drewN ?_ _ | refine blk_drew ?_ | refine blk_alloc ?_ _)); refine blk_put (cs := #[.int .i64 t141, .slice none 0 0]) ?_ 1 _ rfl; (with_reducible repeat (first | refine blk_drewN ?_ _ | refine blk_drew ?_ | refine blk_alloc ?_ _)); refine blk_put (cs := #[.int .i64 0, .slice none 0 0]) ?_ 0 _ rfl; (with_reducible repeat (first | refine blk_drewN ?_ _ | refine blk_drew ?_ | refine blk_alloc ?_ _)); exact BK143.out) hb); have n4_ := Aside0.mk (KeepBut.trans (spec_l1Post_auHK) (KeepBut.of_below hb g none) (.inl rfl)); have n5_ := Aside0.mk (below_step (spec_l1Post_auHB) hb); clear HI0; clear BK140; clear BK143; clear HK; clear HB; have HO146 := n0_; have HI0 := n1_; have BK140 := n2_; have BK143 := n3_; have HK := n4_; have HB := n5_; clear n0_ n1_ n2_ n3_ n4_ n5_; clear hb ho107; obtain ⟨Ao108, co108, eo108⟩ := Kd.R_slice HO146.out; subst eo108) | ((with_reducible refine gate_callee (f := 46) rfl ?_); refine goesL_ (some 12) rfl rfl Try.func46 (by kernel_rfl) rfl #[.pointer (some ⟨g, 0, none⟩), .slice Ao108 y144.length co108] rfl (by (try simp only [List.map_toArray, List.map_cons, List.map_nil]); first | done | rfl | (simp only [List.length_drop, List.length_take]; rfl)) ?_; (with_reducible refine (spec_l9Rd_num.calls k g s0_0 t142 _ _ y144 t147 t148 w0 _ ?side1 ?side2 ?side3 ?side4 ?side5 A3.out).mono ?_); (case side1 => exact spec_l1Post_auHI0); (case side2 => exact spec_l1Post_auHB); (case side3 => repeat (first | exact (Kd.R_reads' HO146.out).2.2 | (with_reducible refine Kd.C_alloc ?_ _) | (with_reducible refine Kd.C_drewN ?_ _) | (with_reducible refine Kd.C_drew ?_))); (case side4 => exact (Kd.R_reads' HO146.out).2.1); (case side5 => exact far_slice (IsS74.own_ne HI0.out HO146.out (by decide))); rintro e w109 ⟨rfl, hi, hb, hk⟩; refine ⟨_, rfl, ?_⟩; have n0_ := Aside0.mk (KeepBut.blk hk (g' := gb140) (o := .cells #[.int .i64 0, .slice none 0 0] 29 (0, 0)) (spec_l1Post_vb BK140) NB140_0.out (by simp)); have n1_ := Aside0.mk (KeepBut.blk hk (g' := gb143) (o := .cells #[.int .i64 t141, .slice none 0 0] 29 (0, 0)) (spec_l1Post_vb BK143) NB143_0.out (by simp)); have n2_ := Aside0.mk (Kd.R_mono (Kd.R_keep (IsS74.apart (show IsS74 w0 _ g s0_0 t142 from spec_l1Post_auHI0) (by (with_reducible repeat (first | apply Kd.R_alloc | apply Kd.R_drewN | apply Kd.R_drew)); exact HO146.out) (by decide)) hk (fun _ h => h.2)) (fun _ h => h.1)); have n3_ := Aside0.mk (KeepBut.trans (spec_l1Post_auHK) hk (.inl rfl)); have n4_ := Aside0.mk (hb); have n5_ := Aside0.mk (hi); clear BK140; clear BK143; clear HO146; clear HK; clear HB; clear HI0; have BK140 := n0_; have BK143 := n1_; have HO146 := n2_; have HK := n3_; have HB := n4_; have HI0 := n5_; clear n0_ n1_ n2_ n3_ n4_ n5_; (try clear hb); (try clear hb2); (try clear hk); (try clear hi)) | ((with_reducible refine gate_callee (f := 43) rfl ?_); refine goesL_ (some 14) rfl rfl Try.func43 (by kernel_rfl) rfl #[.pointer (some ⟨g, 0, none⟩), .int .i64 3] rfl (by (try simp only [List.map_toArray, List.map_cons, List.map_nil]); first | done | rfl | (simp only [List.length_drop, List.length_take]; rfl)) ?_; (with_reducible refine (spec_l9Rd_pick.calls k g s0_0 t148 3 t149 t150 w0 _ ?side1 ?side2 A4.out).mono ?_); (case side1 => exact spec_l1Post_auHI0); (case side2 => exact spec_l1Post_auHB); rintro e w110 ⟨rfl, hi, hb, hk⟩; refine ⟨_, rfl, ?_⟩; have n0_ := Aside0.mk (KeepBut.blk hk (g' := gb140) (o := .cells #[.int .i64 0, .slice none 0 0] 29 (0, 0)) (spec_l1Post_vb BK140) NB140_0.out (by simp)); have n1_ := Aside0.mk (KeepBut.blk hk (g' := gb143) (o := .cells #[.int .i64 t141, .slice none 0 0] 29 (0, 0)) (spec_l1Post_vb BK143) NB143_0.out (by simp)); have n2_ := Aside0.mk (Kd.R_mono (Kd.R_keep (IsS74.apart (show IsS74 w0 _ g s0_0 t148 from spec_l1Post_auHI0) (by (with_reducible repeat (first | apply Kd.R_alloc | apply Kd.R_drewN | apply Kd.R_drew)); exact HO146.out) (by decide)) hk (fun _ h => h.2)) (fun _ h => h.1)); have n3_ := Aside0.mk (KeepBut.trans (spec_l1Post_auHK) hk (.inl rfl)); have n4_ := Aside0.mk (hb); have n5_ := Aside0.mk (hi); clear BK140; clear BK143; clear HO146; clear HK; clear HB; clear HI0; have BK140 := n0_; have BK143 := n1_; have HO146 := n2_; have HK := n3_; have HB := n4_; have HI0 := n5_; clear n0_ n1_ n2_ n3_ n4_ n5_; (try clear hb); (try clear hb2); (try clear hk); (try clear hi)) | ((with_reducible refine gate_callee (f := 45) rfl ?_); refine goesL_ (some 17) rfl rfl Try.func45 (by kernel_rfl) rfl #[.pointer (some ⟨g, 0, none⟩)] rfl (by (try simp only [List.map_toArray, List.map_cons, List.map_nil]); first | done | rfl | (simp only [List.length_drop, List.length_take]; rfl)) ?_; (with_reducible refine (spec_l1Acct.calls k g s0_0 t150 t151 t152 w0 _ ?side1 ?side2 A5.out).mono ?_); (case side1 => exact spec_l1Post_auHI0); (case side2 => exact spec_l1Post_auHB); rintro e w111 ⟨rfl, hi, hb, hk⟩; refine ⟨_, rfl, ?_⟩; have n0_ := Aside0.mk (KeepBut.blk hk (g' := gb140) (o := .cells #[.int .i64 0, .slice none 0 0] 29 (0, 0)) (spec_l1Post_vb BK140) NB140_0.out (by simp)); have n1_ := Aside0.mk (KeepBut.blk hk (g' := gb143) (o := .cells #[.int .i64 t141, .slice none 0 0] 29 (0, 0)) (spec_l1Post_vb BK143) NB143_0.out (by simp)); have n2_ := Aside0.mk (Kd.R_mono (Kd.R_keep (IsS74.apart (show IsS74 w0 _ g s0_0 t150 from spec_l1Post_auHI0) (by (with_reducible repeat (first | apply Kd.R_alloc | apply Kd.R_drewN | apply Kd.R_drew)); exact HO146.out) (by decide)) hk (fun _ h => h.2)) (fun _ h => h.1)); have n3_ := Aside0.mk (KeepBut.trans (spec_l1Post_auHK) hk (.inl rfl)); have n4_ := Aside0.mk (hb); have n5_ := Aside0.mk (hi); clear BK140; clear BK143; clear HO146; clear HK; clear HB; clear HI0; have BK140 := n0_; have BK143 := n1_; have HO146 := n2_; have HK := n3_; have HB := n4_; have HI0 := n5_; clear n0_ n1_ n2_ n3_ n4_ n5_; (try clear hb); (try clear hb2); (try clear hk); (try clear hi)) | ((with_reducible refine gate_callee (f := 45) rfl ?_); refine goesL_ (some 22) rfl rfl Try.func45 (by kernel_rfl) rfl #[.pointer (some ⟨g, 0, none⟩)] rfl (by (try simp only [List.map_toArray, List.map_cons, List.map_nil]); first | done | rfl | (simp only [List.length_drop, List.length_take]; rfl)) ?_; (with_reducible refine (spec_l1Acct.calls k g s0_0 t152 t153 t154 w0 _ ?side1 ?side2 A6.out).mono ?_); (case side1 => exact spec_l1Post_auHI0); (case side2 => exact spec_l1Post_auHB); rintro e w112 ⟨rfl, hi, hb, hk⟩; refine ⟨_, rfl, ?_⟩; have n0_ := Aside0.mk (KeepBut.blk hk (g' := gb140) (o := .cells #[.int .i64 0, .slice none 0 0] 29 (0, 0)) (spec_l1Post_vb BK140) NB140_0.out (by simp)); have n1_ := Aside0.mk (KeepBut.blk hk (g' := gb143) (o := .cells #[.int .i64 t141, .slice none 0 0] 29 (0, 0)) (spec_l1Post_vb BK143) NB143_0.out (by simp)); have n2_ := Aside0.mk (Kd.R_mono (Kd.R_keep (IsS74.apart (show IsS74 w0 _ g s0_0 t152 from spec_l1Post_auHI0) (by (with_reducible repeat (first | apply Kd.R_alloc | apply Kd.R_drewN | apply Kd.R_drew)); exact HO146.out) (by decide)) hk (fun _ h => h.2)) (fun _ h => h.1)); have n3_ := Aside0.mk (KeepBut.trans (spec_l1Post_auHK) hk (.inl rfl)); have n4_ := Aside0.mk (hb); have n5_ := Aside0.mk (hi); clear BK140; clear BK143; clear HO146; clear HK; clear HB; clear HI0; have BK140 := n0_; have BK143 := n1_; have HO146 := n2_; have HK := n3_; have HB := n4_; have HI0 := n5_; clear n0_ n1_ n2_ n3_ n4_ n5_; (try clear hb); (try clear hb2); (try clear hk); (try clear hi)) | ((with_reducible refine gate_dst (N := 27) rfl ?_); refine Kd.R_lit k41 _ 41 ?hg (N := 27) ?hd (xs := ([(⟨t151, wrap64 (1 + t149), t147⟩ : S41), (⟨t153, wrap64 (1 + t149), wrap64 (-t147)⟩ : S41)] : List (S41))) (inner := [.string t151, .int .i64 (wrap64 (1 + t149)), .int .i64 t147, .string t153, .int .i64 (wrap64 (1 + t149)), .int .i64 (wrap64 (-t147))]) (ok := fun _ => True) (okp := fun _ => True) ?hr ?hp (fun _ hk => hk) trivial (Below.refl _ _) (Nat.le_refl _) (by simp) ?_; (case hd => rfl); (case hg => rfl); (case hr => first | (go_simp; done) | (go_simp; rfl)); (case hp => exact (Reps.c3 (show Kd.M k41 _ _ _ (⟨t151, wrap64 (1 + t149), t147⟩ : S41) [.string t151, .int .i64 (wrap64 (1 + t149)), .int .i64 t147] from (k41_mkM _ _ _ (⟨t151, wrap64 (1 + t149), t147⟩ : S41) )) (Reps.c3 (show Kd.M k41 _ _ _ (⟨t153, wrap64 (1 + t149), wrap64 (-t147)⟩ : S41) [.string t153, .int .i64 (wrap64 (1 + t149)), .int .i64 (wrap64 (-t147))] from (k41_mkM _ _ _ (⟨t153, wrap64 (1 + t149), wrap64 (-t147)⟩ : S41) )) (Reps.none _ _)))); intro v156 w113 ho114 hb hg_ hnew_; clear hg_ hnew_; (first | rw [← Ny155.out] at ho114 | (simp only [Int.reduceToNat] at ho114; rw [← Ny155.out] at ho114)); have n0_ := Aside0.mk (Kd.R_below (by (with_reducible repeat (first | apply Kd.R_alloc | apply Kd.R_drewN | apply Kd.R_drew)); exact HO146.out) hb); have n1_ := Aside0.mk (Kd.R_lower ho114 (keep_size (w := w) (g := g) (row := none) (spec_l1Post_auHK))); have n2_ := Aside0.mk (IsS74.below (spec_l1Post_auHI0) hb); have n3_ := Aside0.mk (blk_below (g := gb140) (o := .cells #[.int .i64 0, .slice none 0 0] 29 (0, 0)) (spec_l1Post_vb BK140) hb); have n4_ := Aside0.mk (blk_below (g := gb143) (o := .cells #[.int .i64 t141, .slice none 0 0] 29 (0, 0)) (spec_l1Post_vb BK143) hb); have n5_ := Aside0.mk (KeepBut.trans (spec_l1Post_auHK) (KeepBut.of_below hb g none) (.inl rfl)); have n6_ := Aside0.mk (below_step (spec_l1Post_auHB) hb); clear HO146; clear HI0; clear BK140; clear BK143; clear HK; clear HB; have HO146 := n0_; have HO157 := n1_; have HI0 := n2_; have BK140 := n3_; have BK143 := n4_; have HK := n5_; have HB := n6_; clear n0_ n1_ n2_ n3_ n4_ n5_ n6_; clear hb ho114; obtain ⟨Ao115, co115, eo115⟩ := Kd.R_slice HO157.out; subst eo115; have hcz116_0 : w113.cell? ⟨gb143, 0, none⟩ = some (.int .i64 t141) := (blk_cell BK143.out 0).trans rfl; have hcz116_1 : w113.cell? ⟨gb143, 1, none⟩ = some (.slice none 0 0) := (blk_cell BK143.out 1).trans rfl; have hfz116_0 := blk_frozen BK143.out 0; have hfz116_1 := blk_frozen BK143.out 1) | ((with_reducible refine gate_callee (f := 43) rfl ?_); refine goesL_ (some 30) rfl rfl Try.func43 (by kernel_rfl) rfl #[.pointer (some ⟨g, 0, none⟩), .int .i64 5] rfl (by (try simp only [List.map_toArray, List.map_cons, List.map_nil]); first | done | rfl | (simp only [List.length_drop, List.length_take]; rfl)) ?_; (with_reducible refine (spec_l9Rd_pick.calls k g s0_0 t154 5 t158 t159 w0 _ ?side1 ?side2 A7.out).mono ?_); (case side1 => exact spec_l1Post_auHI0); (case side2 => exact spec_l1Post_auHB); rintro e w117 ⟨rfl, hi, hb, hk⟩; refine ⟨_, rfl, ?_⟩; have n0_ := Aside0.mk (KeepBut.blk hk (g' := gb140) (o := .cells #[.int .i64 0, .slice none 0 0] 29 (0, 0)) (by (with_reducible repeat (first | refine blk_drewN ?_ _ | refine blk_drew ?_ | refine blk_alloc ?_ _)); refine blk_far ?_ NB140_143.out _; (with_reducible repeat (first | refine blk_drewN ?_ _ | refine blk_drew ?_ | refine blk_alloc ?_ _)); exact BK140.out) NB140_0.out (by simp)); have n1_ := Aside0.mk (KeepBut.blk hk (g' := gb143) (o := .cells #[.int .i64 t141, .slice Ao115 y155.length co115] 29 (0, 0)) (by (with_reducible repeat (first | refine blk_drewN ?_ _ | refine blk_drew ?_ | refine blk_alloc ?_ _)); refine blk_put (cs := #[.int .i64 t141, .slice none 0 0]) ?_ 1 _ rfl; (with_reducible repeat (first | refine blk_drewN ?_ _ | refine blk_drew ?_ | refine blk_alloc ?_ _)); exact BK143.out) NB143_0.out (by simp)); have n2_ := Aside0.mk (Kd.R_mono (Kd.R_keep (IsS74.apart (show IsS74 w0 _ g s0_0 t154 from spec_l1Post_auHI0) (by (with_reducible repeat (first | apply Kd.R_alloc | apply Kd.R_drewN | apply Kd.R_drew)); exact (Kd.R_mono (Kd.R_far (p := ⟨gb143, 1, none⟩) (Kd.R_types HO146.out BK143.out (by decide)) (fun _ hk => hk.2) (.slice Ao115 y155.length co115)) (fun _ h_ => h_.1))) (by decide)) hk (fun _ h => h.2)) (fun _ h => h.1)); have n3_ := Aside0.mk (Kd.R_mono (Kd.R_keep (IsS74.apart (show IsS74 w0 _ g s0_0 t154 from spec_l1Post_auHI0) (by (with_reducible repeat (first | apply Kd.R_alloc | apply Kd.R_drewN | apply Kd.R_drew)); exact (Kd.R_mono (Kd.R_far (p := ⟨gb143, 1, none⟩) (Kd.R_types HO157.out BK143.out (by decide)) (fun _ hk => hk.2) (.slice Ao115 y155.length co115)) (fun _ h_ => h_.1))) (by decide)) hk (fun _ h => h.2)) (fun _ h => h.1)); have n4_ := Aside0.mk (KeepBut.trans (spec_l1Post_auHK) hk (.inl rfl)); have n5_ := Aside0.mk (hb); have n6_ := Aside0.mk (hi); clear BK140; clear BK143; clear HO146; clear HO157; clear HK; clear HB; clear HI0; have BK140 := n0_; have BK143 := n1_; have HO146 := n2_; have HO157 := n3_; have HK := n4_; have HB := n5_; have HI0 := n6_; clear n0_ n1_ n2_ n3_ n4_ n5_ n6_; (try clear hb); (try clear hb2); (try clear hk); (try clear hi); have hcz118_0 : w117.cell? ⟨gb143, 0, none⟩ = some (.int .i64 t141) := (blk_cell BK143.out 0).trans rfl; have hcz118_1 : w117.cell? ⟨gb143, 1, none⟩ = some (.slice Ao115 y155.length co115) := (blk_cell BK143.out 1).trans rfl; have hfz118_0 := blk_frozen BK143.out 0; have hfz118_1 := blk_frozen BK143.out 1; have hnb119 := NB140_0.out; have hnc119 := NB0_140.out; have hcz120_0 : w117.cell? ⟨gb140, 0, none⟩ = some (.int .i64 0) := (blk_cell BK140.out 0).trans rfl; have hcz120_1 : w117.cell? ⟨gb140, 1, none⟩ = some (.slice none 0 0) := (blk_cell BK140.out 1).trans rfl; have hfz120_0 := blk_frozen BK140.out 0; have hfz120_1 := blk_frozen BK140.out 1))
   refine bodyPost_ret (results_cell_row rfl _ _ gb140 29 #[.int .i64 t141, .slice Ao115 y155.length co115] (0, 0) _ rfl (by (with_reducible repeat (first | refine blk_drewN ?_ _ | refine blk_drew ?_ | refine blk_alloc ?_ _)); refine blk_put (cs := #[.int .i64 t141, .slice none 0 0]) ?_ 1 _ rfl; (with_reducible repeat (first | refine blk_drewN ?_ _ | refine blk_drew ?_ | refine blk_alloc ?_ _)); refine blk_put (cs := #[.int .i64 0, .slice none 0 0]) ?_ 0 _ rfl; (with_reducible repeat (first | refine blk_drewN ?_ _ | refine blk_drew ?_ | refine blk_alloc ?_ _)); exact BK140.out) Try.underlying29 rfl (by kernel_rfl)) rfl ?_
   exact ⟨_, by first | rfl | (simp [errW_none, errW_some] <;> rfl) | (simp [*, errW_none, errW_some] <;> rfl), by (with_reducible repeat (first | apply Kd.R_alloc | apply Kd.R_drewN | apply Kd.R_drew)); exact Kd.R_mono (Kd.R_far (p := ⟨gb140, 1, none⟩) (Kd.R_far (p := ⟨gb140, 0, none⟩) (Kd.R_types HO157.out BK140.out (by decide)) (fun _ hk => hk.2) (.int .i64 t141)) (fun _ hk => hk.2) (.slice Ao115 y155.length co115)) (fun _ hk => trivial), spec_l1Post_auHI0, spec_l1Post_auHB, spec_l1Post_auHK⟩

end Go.Proofs.Ytogggmipcldkaaa.QFnPostTo
