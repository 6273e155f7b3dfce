/- What the law FnPostTo reaches, function by function: what each computes, and that the machine's call comes to it. Laid by a program. -/
import Derived.Test.YtogggmipcldkaaaQFnPostTox0
import Derived.Test.YtogggmipcldkaaaQFnPostTox3
import Derived.Test.YtogggmipcldkaaaQFnPostTox4
import Derived.Test.YtogggmipcldkaaaQFnPostTox6
namespace Go.Proofs.Ytogggmipcldkaaa.QFnPostTo
open Go.RowKit Go.Proofs.YtogggmipcldkaaaW.PrintWords Go.Proofs.YtogggmipcldkaaaW.PrintLast Go.Proofs.YtogggmipcldkaaaW.PrintMore
attribute [local go_sem] max2_int min2_int max_two min_two max_three min_three max_four min_four   -- for this text's walks alone
set_option linter.unusedVariables false
set_option linter.unusedSimpArgs false

/-! ### spec_DrawPostTo: function 33 -/
def spec_DrawPostTo.f (k : Nat) (l0 : List Int) : Option (Int × (List (S41)) × ByteArray × Int) := (spec_l9Open.f l0).bind fun bt233 => ((spec_l1Post.f k bt233.1 bt233.2).bind fun bt236 => ((spec_l1Bent.f k bt233.1 bt236.2.2 bt236.1 bt236.2.1).bind fun bt241 => ((spec_l1Acct.f k bt233.1 bt241.2.2).bind fun bt247 => (if (bt241.2.1.length : Int) > 0 then ((spec_l9Rd_pick.f k bt233.1 bt247.2 3).bind fun bt249 => (if bt249.1 > 0 then (if 0 < (bt241.2.1.length : Int) then (some (bt241.1, bt241.2.1, (rd_T41 bt241.2.1 0).f0, (rd_T41 bt241.2.1 0).f1)) else (none)) else ((spec_l9Rd_num.f k bt233.1 bt249.2 (([1, 2, 3, 0, 4] : List Int))).bind fun bt256 => (some (bt241.1, bt241.2.1, bt247.1, bt256.1))))) else ((spec_l9Rd_num.f k bt233.1 bt247.2 (([1, 2, 3, 0, 4] : List Int))).bind fun bt261 => (some (bt241.1, bt241.2.1, bt247.1, bt261.1)))))))
theorem spec_DrawPostTo.mono : ∀ a0 k, LeO (spec_DrawPostTo.f k a0) (spec_DrawPostTo.f (k + 1) a0) := by
  intro a0 k
  unfold spec_DrawPostTo.f
  repeat' first
      | (with_reducible exact spec_l1Acct.mono _ _ _)
      | (with_reducible exact spec_l1Bent.mono _ _ _ _ _)
      | (with_reducible exact spec_l1Post.mono _ _ _)
      | (with_reducible exact spec_l9Rd_num.mono _ _ _ _)
      | (with_reducible exact spec_l9Rd_pick.mono _ _ _ _)
      | (with_reducible exact LeO.refl _)
      | (with_reducible exact LeO.none _)
      | (with_reducible refine LeO.ite ?_ ?_)
      | (with_reducible refine LeO.bind ?_ (fun _ => ?_))
      | exact spec_l1Acct.mono _ _ _
      | exact spec_l1Bent.mono _ _ _ _ _
      | exact spec_l1Post.mono _ _ _
      | exact spec_l9Rd_num.mono _ _ _ _
      | exact spec_l9Rd_pick.mono _ _ _ _
      | exact LeO.none _
      | refine LeO.ite ?_ ?_
      | refine LeO.bind ?_ (fun _ => ?_)
def spec_DrawPostTo.T5 : Bool × List (List Nat × List Nat) := (true, [([], []), ([], []), ([1], [1]), ([2], [2]), ([3], [3]), ([4], [4]), ([], []), ([6], [6]), ([7], [7]), ([8], [8]), ([9], [9]), ([0, 0], [0]), ([5, 11, 0, 1, 2, 3, 4, 5, 11], [5]), ([10, 12, 0, 1, 2, 3, 4, 5, 6, 7, 8, 9, 10, 11, 12], [10])])
def spec_DrawPostTo.B5 : List Nat := [0, 0, 2, 6, 14, 30, 0, 64, 192, 448, 960, 1, 2111, 8191]
theorem spec_DrawPostTo.tab5 : rtab .any (opsOf Try.f33 5) = spec_DrawPostTo.T5 := by kernel_rfl
theorem spec_DrawPostTo.bits5 : waitsOk spec_DrawPostTo.T5.2 spec_DrawPostTo.B5 = true := by kernel_rfl
def spec_DrawPostTo.T6 : Bool × List (List Nat × List Nat) := (true, [([], []), ([], []), ([], []), ([], []), ([2, 3], [2, 3]), ([0, 4, 0], [0]), ([1, 5, 0, 1, 5], [1]), ([4, 6, 0, 1, 2, 3, 4, 5, 6], [4])])
def spec_DrawPostTo.B6 : List Nat := [0, 0, 0, 0, 12, 29, 63, 127]
theorem spec_DrawPostTo.tab6 : rtab .any (opsOf Try.f33 6) = spec_DrawPostTo.T6 := by kernel_rfl
theorem spec_DrawPostTo.bits6 : waitsOk spec_DrawPostTo.T6.2 spec_DrawPostTo.B6 = true := by kernel_rfl
theorem spec_DrawPostTo_vb {p q : Prop} (h : Aside0 p) (k : p → q := by (intro hz; (with_reducible repeat (first | refine blk_drewN ?_ _ | refine blk_drew ?_ | refine blk_alloc ?_ _)); exact hz)) : q := k h.out
theorem spec_DrawPostTo_auHB {q : Prop} (h : q := by (repeat (first | (with_reducible first | exact HB.out | apply below_alloc | apply pw_below_drewN | apply below_drew1 | refine below_set ?_ GE232.out | refine below_set ?_ (IsS74.ge HI235.out) | refine below_set ?_ GE246.out) | exact HB.out))) : q := h
theorem spec_DrawPostTo_auHI235 {q : Prop} (h : q := by (repeat (first | (with_reducible first | exact HI235.out | apply IsS74.alloc | apply IsS74.drewN | apply IsS74.drew | apply IsS74.set_1 | refine IsS74.far ?_ NB235_232.out _ | refine IsS74.far ?_ NB235_246.out _) | exact HI235.out))) : q := h
set_option maxHeartbeats 8000000 in
set_option maxRecDepth 100000 in
theorem spec_DrawPostTo.calls (k : Nat) (A0 : Option Addr) (c0 : Nat) (l0 : List Int) (r1 : Int) (r2 : List (S41)) (r3 : ByteArray) (r4 : Int) (w : World) (hr0 : Kd.C (Kd.int .u8) w A0 l0.length l0) (hc0 : l0.length ≤ c0) (h : spec_DrawPostTo.f k l0 = some (r1, r2, r3, r4)) :
  Calls Try.prog 33 #[.slice A0 l0.length c0] w fun e w' => ∃ v1_ : Value, e = .returned (.tuple #[.agg #[.int .i64 r1, v1_], .string r3, .int .i64 r4]) ∧ Kd.R k41 41 w' w.heap.size (fun _ => True) v1_ r2 ∧ Below w.heap.size w w' := by
 have hu29 := Try.underlying29
 have HR0 := Aside0.mk hr0
 have HC0 := Aside0.mk hc0
 clear hr0 hc0
 have HB := Aside0.mk (Below.refl w.heap.size w)
 have H : ((spec_l9Open.f l0).bind fun bt233 => ((spec_l1Post.f k bt233.1 bt233.2).bind fun bt236 => ((spec_l1Bent.f k bt233.1 bt236.2.2 bt236.1 bt236.2.1).bind fun bt241 => ((spec_l1Acct.f k bt233.1 bt241.2.2).bind fun bt247 => (if (bt241.2.1.length : Int) > 0 then ((spec_l9Rd_pick.f k bt233.1 bt247.2 3).bind fun bt249 => (if bt249.1 > 0 then (if 0 < (bt241.2.1.length : Int) then (some (bt241.1, bt241.2.1, (rd_T41 bt241.2.1 0).f0, (rd_T41 bt241.2.1 0).f1)) else (none)) else ((spec_l9Rd_num.f k bt233.1 bt249.2 (([1, 2, 3, 0, 4] : List Int))).bind fun bt256 => (some (bt241.1, bt241.2.1, bt247.1, bt256.1))))) else ((spec_l9Rd_num.f k bt233.1 bt247.2 (([1, 2, 3, 0, 4] : List Int))).bind fun bt261 => (some (bt241.1, bt241.2.1, bt247.1, bt261.1)))))))) = some (r1, r2, r3, r4) := h
 clear h
 replace H := Option.bind_eq_some_iff.mp H
 obtain ⟨⟨t233, t234⟩, A20, H⟩ := H
 replace H : ((spec_l1Post.f k t233 t234).bind fun bt236 => ((spec_l1Bent.f k t233 bt236.2.2 bt236.1 bt236.2.1).bind fun bt241 => ((spec_l1Acct.f k t233 bt241.2.2).bind fun bt247 => (if (bt241.2.1.length : Int) > 0 then ((spec_l9Rd_pick.f k t233 bt247.2 3).bind fun bt249 => (if bt249.1 > 0 then (if 0 < (bt241.2.1.length : Int) then (some (bt241.1, bt241.2.1, (rd_T41 bt241.2.1 0).f0, (rd_T41 bt241.2.1 0).f1)) else (none)) else ((spec_l9Rd_num.f k t233 bt249.2 (([1, 2, 3, 0, 4] : List Int))).bind fun bt256 => (some (bt241.1, bt241.2.1, bt247.1, bt256.1))))) else ((spec_l9Rd_num.f k t233 bt247.2 (([1, 2, 3, 0, 4] : List Int))).bind fun bt261 => (some (bt241.1, bt241.2.1, bt247.1, bt261.1))))))) = some (r1, r2, r3, r4) := H
 have A2 := Aside0.mk A20
 clear A20
 replace H := Option.bind_eq_some_iff.mp H
 obtain ⟨⟨t236, t237, t240⟩, A30, H⟩ := H
 replace H : ((spec_l1Bent.f k t233 t240 t236 t237).bind fun bt241 => ((spec_l1Acct.f k t233 bt241.2.2).bind fun bt247 => (if (bt241.2.1.length : Int) > 0 then ((spec_l9Rd_pick.f k t233 bt247.2 3).bind fun bt249 => (if bt249.1 > 0 then (if 0 < (bt241.2.1.length : Int) then (some (bt241.1, bt241.2.1, (rd_T41 bt241.2.1 0).f0, (rd_T41 bt241.2.1 0).f1)) else (none)) else ((spec_l9Rd_num.f k t233 bt249.2 (([1, 2, 3, 0, 4] : List Int))).bind fun bt256 => (some (bt241.1, bt241.2.1, bt247.1, bt256.1))))) else ((spec_l9Rd_num.f k t233 bt247.2 (([1, 2, 3, 0, 4] : List Int))).bind fun bt261 => (some (bt241.1, bt241.2.1, bt247.1, bt261.1)))))) = some (r1, r2, r3, r4) := H
 have A3 := Aside0.mk A30
 clear A30
 replace H := Option.bind_eq_some_iff.mp H
 obtain ⟨⟨t241, t242, t245⟩, A40, H⟩ := H
 replace H : ((spec_l1Acct.f k t233 t245).bind fun bt247 => (if (t242.length : Int) > 0 then ((spec_l9Rd_pick.f k t233 bt247.2 3).bind fun bt249 => (if bt249.1 > 0 then (if 0 < (t242.length : Int) then (some (t241, t242, (rd_T41 t242 0).f0, (rd_T41 t242 0).f1)) else (none)) else ((spec_l9Rd_num.f k t233 bt249.2 (([1, 2, 3, 0, 4] : List Int))).bind fun bt256 => (some (t241, t242, bt247.1, bt256.1))))) else ((spec_l9Rd_num.f k t233 bt247.2 (([1, 2, 3, 0, 4] : List Int))).bind fun bt261 => (some (t241, t242, bt247.1, bt261.1))))) = some (r1, r2, r3, r4) := H
 have A4 := Aside0.mk A40
 clear A40
 replace H := Option.bind_eq_some_iff.mp H
 obtain ⟨⟨t247, t248⟩, A50, H⟩ := H
 replace H : (if (t242.length : Int) > 0 then ((spec_l9Rd_pick.f k t233 t248 3).bind fun bt249 => (if bt249.1 > 0 then (if 0 < (t242.length : Int) then (some (t241, t242, (rd_T41 t242 0).f0, (rd_T41 t242 0).f1)) else (none)) else ((spec_l9Rd_num.f k t233 bt249.2 (([1, 2, 3, 0, 4] : List Int))).bind fun bt256 => (some (t241, t242, t247, bt256.1))))) else ((spec_l9Rd_num.f k t233 t248 (([1, 2, 3, 0, 4] : List Int))).bind fun bt261 => (some (t241, t242, t247, bt261.1)))) = some (r1, r2, r3, r4) := H
 have A5 := Aside0.mk A50
 clear A50
 by_cases c6 : (t242.length : Int) > 0
 ·
  rw [if_pos c6] at H
  have c6b0 : decide (0 < (t242.length : Int)) = true := decide_eq_true c6
  have c6b1 : decide (0 < t242.length) = true := decide_eq_true (by omega)
  clear c6
  replace H := Option.bind_eq_some_iff.mp H
  obtain ⟨⟨t249, t250⟩, A70, H⟩ := H
  replace H : (if t249 > 0 then (if 0 < (t242.length : Int) then (some (t241, t242, (rd_T41 t242 0).f0, (rd_T41 t242 0).f1)) else (none)) else ((spec_l9Rd_num.f k t233 t250 (([1, 2, 3, 0, 4] : List Int))).bind fun bt256 => (some (t241, t242, t247, bt256.1)))) = some (r1, r2, r3, r4) := H
  have A7 := Aside0.mk A70
  clear A70
  by_cases c8 : t249 > 0
  ·
   rw [if_pos c8] at H
   have c8b0 : decide (0 < t249) = true := decide_eq_true c8
   clear c8
   by_cases c9 : 0 < (t242.length : Int)
   ·
    rw [if_pos c9] at H
    have c9b0 : decide (0 < (t242.length : Int)) = true := decide_eq_true c9
    have c9b1 : decide (0 < t242.length) = true := decide_eq_true (by omega)
    clear c9
    simp only [Option.some.injEq, Prod.mk.injEq] at H
    obtain ⟨rfl, rfl, rfl, rfl⟩ := H
    go_enter Try.func33, Try.ntmps33
    try go_wp2_with (first | ((with_reducible refine gate_dst (N := 2) rfl ?_); refine box_event ?hg (N := 2) ?hd (cs := #[.int .i64 0, .slice none 0 0]) (t := 29) ?hr ?_; (case hd => rfl); (case hg => rfl); (case hr => first | (go_simp; done) | (go_simp; rfl)); intro gb232 hg w10 hbox hb; have n0_ := Aside0.mk (below_step (spec_DrawPostTo_auHB) hb); have n1_ := Aside0.mk (hbox); have n2_ := Aside0.mk ((by rw [hg]; exact (below_size (spec_DrawPostTo_auHB)) : w.heap.size ≤ gb232)); have n3_ := Aside0.mk ((by rw [hg]; exact (below_size (spec_DrawPostTo_auHB)) : w.heap.size ≤ gb232)); clear HB; have HB := n0_; have BK232 := n1_; have GW232 := n2_; have GE232 := n3_; clear n0_ n1_ n2_ n3_; clear hb hbox hg) | ((with_reducible refine gate_callee (f := 40) rfl ?_); refine goesL_ (some 9) rfl rfl Try.func40 (by kernel_rfl) rfl #[.slice A0 l0.length c0] rfl (by (try simp only [List.map_toArray, List.map_cons, List.map_nil]); first | done | rfl | (simp only [List.length_drop, List.length_take]; rfl)) ?_; (with_reducible refine (spec_l9Open.calls _ _ l0 t233 t234 w _ ?side1 ?side2 ?side3 A2.out).mono ?_); (case side1 => exact spec_DrawPostTo_auHB); (case side2 => exact HR0.out); (case side3 => exact HC0.out); rintro e w11 ⟨g235, rfl, hi, hb, hb2⟩; refine ⟨_, rfl, ?_⟩; have n0_ := Aside0.mk (blk_below (g := gb232) (o := .cells #[.int .i64 0, .slice none 0 0] 29 (0, 0)) (spec_DrawPostTo_vb BK232) hb2); have n1_ := Aside0.mk (hb); have n2_ := Aside0.mk (hi); have n3_ := Aside0.mk (IsS74.ne_blk hi (blk_below (g := gb232) (o := .cells #[.int .i64 0, .slice none 0 0] 29 (0, 0)) (spec_DrawPostTo_vb BK232) hb2) (by decide)); have n4_ := Aside0.mk (Ne.symm (IsS74.ne_blk hi (blk_below (g := gb232) (o := .cells #[.int .i64 0, .slice none 0 0] 29 (0, 0)) (spec_DrawPostTo_vb BK232) hb2) (by decide))); clear BK232; clear HB; have BK232 := n0_; have HB := n1_; have HI235 := n2_; have NB235_232 := n3_; have NB232_235 := n4_; clear n0_ n1_ n2_ n3_ n4_; (try clear hb); (try clear hb2); (try clear hk); (try clear hi)) | ((with_reducible refine gate_callee (f := 41) rfl ?_); refine goesL_ (some 12) rfl rfl Try.func41 (by kernel_rfl) rfl #[.pointer (some ⟨g235, 0, none⟩)] rfl (by (try simp only [List.map_toArray, List.map_cons, List.map_nil]); first | done | rfl | (simp only [List.length_drop, List.length_take]; rfl)) ?_; (with_reducible refine (spec_l1Post.calls k g235 t233 t234 t236 t237 t240 w _ ?side1 ?side2 A3.out).mono ?_); (case side1 => exact spec_DrawPostTo_auHI235); (case side2 => exact spec_DrawPostTo_auHB); rintro e w12 ⟨v238, rfl, ho0, hi, hb, hk⟩; refine ⟨_, rfl, ?_⟩; have n0_ := Aside0.mk (KeepBut.blk hk (g' := gb232) (o := .cells #[.int .i64 0, .slice none 0 0] 29 (0, 0)) (spec_DrawPostTo_vb BK232) NB232_235.out (by simp)); have n1_ := Aside0.mk (Kd.R_lower ho0 (below_size (spec_DrawPostTo_auHB))); have n2_ := Aside0.mk (hb); have n3_ := Aside0.mk (hi); clear BK232; clear HB; clear HI235; have BK232 := n0_; have HO239 := n1_; have HB := n2_; have HI235 := n3_; clear n0_ n1_ n2_ n3_; (try clear hb); (try clear hb2); (try clear hk); (try clear hi); (try clear ho0); obtain ⟨Ao13, co13, eo13⟩ := Kd.R_slice HO239.out; subst eo13) | ((with_reducible refine gate_callee (f := 42) rfl ?_); refine goesL_ (some 13) rfl rfl Try.func42 (by kernel_rfl) rfl #[.pointer (some ⟨g235, 0, none⟩), .agg #[.int .i64 t236, .slice Ao13 t237.length co13]] rfl (by (try simp only [List.map_toArray, List.map_cons, List.map_nil]); first | done | rfl | (simp only [List.length_drop, List.length_take]; rfl)) ?_; (with_reducible refine (spec_l1Bent.calls k g235 t233 t240 t236 _ _ t237 t241 t242 t245 w _ ?side1 ?side2 ?side3 ?side4 A4.out).mono ?_); (case side1 => exact spec_DrawPostTo_auHI235); (case side2 => exact spec_DrawPostTo_auHB); (case side3 => exact Kd.C_foot_own (IsS74.apart (show IsS74 w _ g235 t233 t240 from spec_DrawPostTo_auHI235) (by (with_reducible repeat (first | apply Kd.R_alloc | apply Kd.R_drewN | apply Kd.R_drew)); exact HO239.out) (by decide)) (fun _ h_ => h_.2)); (case side4 => exact (Kd.R_reads' HO239.out).2.1); rintro e w14 ⟨v243, rfl, ho0, hi, hb, hk⟩; refine ⟨_, rfl, ?_⟩; have n0_ := Aside0.mk (KeepBut.blk hk (g' := gb232) (o := .cells #[.int .i64 0, .slice none 0 0] 29 (0, 0)) (spec_DrawPostTo_vb BK232) NB232_235.out (by simp)); have n1_ := Aside0.mk (Kd.R_mono (Kd.R_told (Kd.R_oldK (IsS74.apart (show IsS74 w _ g235 t233 t240 from spec_DrawPostTo_auHI235) (by (with_reducible repeat (first | apply Kd.R_alloc | apply Kd.R_drewN | apply Kd.R_drew)); exact HO239.out) (by decide)) hk) (Kd.R_base ho0)) (fun _ h_ => h_.1)); have n2_ := Aside0.mk (Kd.R_lower (Kd.R_new' ho0 (Kd.R_lt (by (with_reducible repeat (first | apply Kd.R_alloc | apply Kd.R_drewN | apply Kd.R_drew)); exact HO239.out))) (below_size (spec_DrawPostTo_auHB))); have n3_ := Aside0.mk (hb); have n4_ := Aside0.mk (hi); clear BK232; clear HO239; clear HB; clear HI235; have BK232 := n0_; have HO239 := n1_; have HO244 := n2_; have HB := n3_; have HI235 := n4_; clear n0_ n1_ n2_ n3_ n4_; (try clear hb); (try clear hb2); (try clear hk); (try clear hi); (try clear ho0)) | ((with_reducible refine gate_dst (N := 6) rfl ?_); refine box_event ?hg (N := 6) ?hd (cs := #[.int .i64 0, .slice none 0 0]) (t := 29) ?hr ?_; (case hd => rfl); (case hg => rfl); (case hr => first | (go_simp; done) | (go_simp; rfl)); intro gb246 hg w15 hbox hb; have n0_ := Aside0.mk (Kd.R_below (by (with_reducible repeat (first | apply Kd.R_alloc | apply Kd.R_drewN | apply Kd.R_drew)); exact HO239.out) hb); have n1_ := Aside0.mk (Kd.R_below (by (with_reducible repeat (first | apply Kd.R_alloc | apply Kd.R_drewN | apply Kd.R_drew)); exact HO244.out) hb); have n2_ := Aside0.mk (blk_below (g := gb232) (o := .cells #[.int .i64 0, .slice none 0 0] 29 (0, 0)) (spec_DrawPostTo_vb BK232) hb); have n3_ := Aside0.mk (IsS74.below (spec_DrawPostTo_auHI235) hb); have n4_ := Aside0.mk (below_step (spec_DrawPostTo_auHB) hb); have n5_ := Aside0.mk (hbox); have n6_ := Aside0.mk ((by rw [hg]; exact (below_size (spec_DrawPostTo_auHB)) : w.heap.size ≤ gb246)); have n7_ := Aside0.mk ((by rw [hg]; exact (below_size (spec_DrawPostTo_auHB)) : w.heap.size ≤ gb246)); have n8_ := Aside0.mk ((by rw [hg]; exact Nat.ne_of_lt (blk_lt (g := gb232) (o := .cells #[.int .i64 0, .slice none 0 0] 29 (0, 0)) (spec_DrawPostTo_vb BK232)) : gb232 ≠ gb246)); have n9_ := Aside0.mk ((by rw [hg]; exact Nat.ne_of_gt (blk_lt (g := gb232) (o := .cells #[.int .i64 0, .slice none 0 0] 29 (0, 0)) (spec_DrawPostTo_vb BK232)) : gb246 ≠ gb232)); have n10_ := Aside0.mk ((by rw [hg]; exact Nat.ne_of_lt (IsS74.lt (show IsS74 w _ g235 t233 t245 from spec_DrawPostTo_auHI235)) : g235 ≠ gb246)); have n11_ := Aside0.mk ((by rw [hg]; exact Nat.ne_of_gt (IsS74.lt (show IsS74 w _ g235 t233 t245 from spec_DrawPostTo_auHI235)) : gb246 ≠ g235)); clear HO239; clear HO244; clear BK232; clear HI235; clear HB; have HO239 := n0_; have HO244 := n1_; have BK232 := n2_; have HI235 := n3_; have HB := n4_; have BK246 := n5_; have GW246 := n6_; have GE246 := n7_; have NB232_246 := n8_; have NB246_232 := n9_; have NB235_246 := n10_; have NB246_235 := n11_; clear n0_ n1_ n2_ n3_ n4_ n5_ n6_ n7_ n8_ n9_ n10_ n11_; clear hb hbox hg; have hnb16 := NB246_232.out; have hnc16 := NB232_246.out; have hnb17 := NB246_235.out; have hnc17 := NB235_246.out; have hcz18_0 : w15.cell? ⟨gb246, 0, none⟩ = some (.int .i64 0) := (blk_cell BK246.out 0).trans rfl; have hcz18_1 : w15.cell? ⟨gb246, 1, none⟩ = some (.slice none 0 0) := (blk_cell BK246.out 1).trans rfl; have hfz18_0 := blk_frozen BK246.out 0; have hfz18_1 := blk_frozen BK246.out 1; obtain ⟨Ao19, co19, eo19⟩ := Kd.R_slice HO244.out; subst eo19) | ((with_reducible refine gate_callee (f := 45) rfl ?_); refine goesL_ (some 15) rfl rfl Try.func45 (by kernel_rfl) rfl #[.pointer (some ⟨g235, 0, none⟩)] rfl (by (try simp only [List.map_toArray, List.map_cons, List.map_nil]); first | done | rfl | (simp only [List.length_drop, List.length_take]; rfl)) ?_; (with_reducible refine (spec_l1Acct.calls k g235 t233 t245 t247 t248 w _ ?side1 ?side2 A5.out).mono ?_); (case side1 => exact spec_DrawPostTo_auHI235); (case side2 => exact spec_DrawPostTo_auHB); rintro e w20 ⟨rfl, hi, hb, hk⟩; refine ⟨_, rfl, ?_⟩; have n0_ := Aside0.mk (KeepBut.blk hk (g' := gb232) (o := .cells #[.int .i64 0, .slice none 0 0] 29 (0, 0)) (by (with_reducible repeat (first | refine blk_drewN ?_ _ | refine blk_drew ?_ | refine blk_alloc ?_ _)); refine blk_far ?_ NB232_246.out _; (with_reducible repeat (first | refine blk_drewN ?_ _ | refine blk_drew ?_ | refine blk_alloc ?_ _)); refine blk_far ?_ NB232_246.out _; (with_reducible repeat (first | refine blk_drewN ?_ _ | refine blk_drew ?_ | refine blk_alloc ?_ _)); exact BK232.out) NB232_235.out (by simp)); have n1_ := Aside0.mk (Kd.R_mono (Kd.R_keep (IsS74.apart (show IsS74 w _ g235 t233 t245 from spec_DrawPostTo_auHI235) (by (with_reducible repeat (first | apply Kd.R_alloc | apply Kd.R_drewN | apply Kd.R_drew)); exact (Kd.R_mono (Kd.R_far (p := ⟨gb246, 1, none⟩) (Kd.R_far (p := ⟨gb246, 0, none⟩) (Kd.R_types HO239.out BK246.out (by decide)) (fun _ hk => hk.2) (.int .i64 t241)) (fun _ hk => hk.2) (.slice Ao19 t242.length co19)) (fun _ h_ => h_.1))) (by decide)) hk (fun _ h => h.2)) (fun _ h => h.1)); have n2_ := Aside0.mk (Kd.R_mono (Kd.R_keep (IsS74.apart (show IsS74 w _ g235 t233 t245 from spec_DrawPostTo_auHI235) (by (with_reducible repeat (first | apply Kd.R_alloc | apply Kd.R_drewN | apply Kd.R_drew)); exact (Kd.R_mono (Kd.R_far (p := ⟨gb246, 1, none⟩) (Kd.R_far (p := ⟨gb246, 0, none⟩) (Kd.R_types HO244.out BK246.out (by decide)) (fun _ hk => hk.2) (.int .i64 t241)) (fun _ hk => hk.2) (.slice Ao19 t242.length co19)) (fun _ h_ => h_.1))) (by decide)) hk (fun _ h => h.2)) (fun _ h => h.1)); have n3_ := Aside0.mk (KeepBut.blk hk (g' := gb246) (o := .cells #[.int .i64 t241, .slice Ao19 t242.length co19] 29 (0, 0)) (by (with_reducible repeat (first | refine blk_drewN ?_ _ | refine blk_drew ?_ | refine blk_alloc ?_ _)); refine blk_put (cs := #[.int .i64 t241, .slice none 0 0]) ?_ 1 _ rfl; (with_reducible repeat (first | refine blk_drewN ?_ _ | refine blk_drew ?_ | refine blk_alloc ?_ _)); refine blk_put (cs := #[.int .i64 0, .slice none 0 0]) ?_ 0 _ rfl; (with_reducible repeat (first | refine blk_drewN ?_ _ | refine blk_drew ?_ | refine blk_alloc ?_ _)); exact BK246.out) NB246_235.out (by simp)); have n4_ := Aside0.mk (hb); have n5_ := Aside0.mk (hi); clear BK232; clear HO239; clear HO244; clear BK246; clear HB; clear HI235; have BK232 := n0_; have HO239 := n1_; have HO244 := n2_; have BK246 := n3_; have HB := n4_; have HI235 := n5_; clear n0_ n1_ n2_ n3_ n4_ n5_; (try clear hb); (try clear hb2); (try clear hk); (try clear hi); have hcz21_0 : w20.cell? ⟨gb246, 0, none⟩ = some (.int .i64 t241) := (blk_cell BK246.out 0).trans rfl; have hcz21_1 : w20.cell? ⟨gb246, 1, none⟩ = some (.slice Ao19 t242.length co19) := (blk_cell BK246.out 1).trans rfl; have hfz21_0 := blk_frozen BK246.out 0; have hfz21_1 := blk_frozen BK246.out 1) | (go_at_call 43; (with_reducible refine (spec_l9Rd_pick.calls k g235 t233 t248 3 t249 t250 w _ ?side1 ?side2 A7.out).mono ?_); (case side1 => exact spec_DrawPostTo_auHI235); (case side2 => exact spec_DrawPostTo_auHB); rintro e w22 ⟨rfl, hi, hb, hk⟩; have n0_ := Aside0.mk (KeepBut.blk hk (g' := gb232) (o := .cells #[.int .i64 0, .slice none 0 0] 29 (0, 0)) (spec_DrawPostTo_vb BK232) NB232_235.out (by simp)); have n1_ := Aside0.mk (Kd.R_mono (Kd.R_keep (IsS74.apart (show IsS74 w _ g235 t233 t248 from spec_DrawPostTo_auHI235) (by (with_reducible repeat (first | apply Kd.R_alloc | apply Kd.R_drewN | apply Kd.R_drew)); exact HO239.out) (by decide)) hk (fun _ h => h.2)) (fun _ h => h.1)); have n2_ := Aside0.mk (Kd.R_mono (Kd.R_keep (IsS74.apart (show IsS74 w _ g235 t233 t248 from spec_DrawPostTo_auHI235) (by (with_reducible repeat (first | apply Kd.R_alloc | apply Kd.R_drewN | apply Kd.R_drew)); exact HO244.out) (by decide)) hk (fun _ h => h.2)) (fun _ h => h.1)); have n3_ := Aside0.mk (KeepBut.blk hk (g' := gb246) (o := .cells #[.int .i64 t241, .slice Ao19 t242.length co19] 29 (0, 0)) (spec_DrawPostTo_vb BK246) NB246_235.out (by simp)); have n4_ := Aside0.mk (hb); have n5_ := Aside0.mk (hi); clear BK232; clear HO239; clear HO244; clear BK246; clear HB; clear HI235; have BK232 := n0_; have HO239 := n1_; have HO244 := n2_; have BK246 := n3_; have HB := n4_; have HI235 := n5_; clear n0_ n1_ n2_ n3_ n4_ n5_; (try clear hb); (try clear hb2); (try clear hk); (try clear hi)))
    have n0_ := Aside0.mk (Kd.R_drew HO239.out)
    have n1_ := Aside0.mk (Kd.R_drew HO244.out)
    have n2_ := Aside0.mk (blk_drew BK232.out)
    have n3_ := Aside0.mk (blk_drew BK246.out)
    have n4_ := Aside0.mk (IsS74.drew HI235.out)
    have n5_ := Aside0.mk (below_drew1 HB.out)
    clear HO239
    clear HO244
    clear BK232
    clear BK246
    clear HI235
    clear HB
    have HO239 := n0_
    have HO244 := n1_
    have BK232 := n2_
    have BK246 := n3_
    have HI235 := n4_
    have HB := n5_
    clear n0_ n1_ n2_ n3_ n4_ n5_
    have p251 : 0 ≤ (0 : Int) := (by omega)
    have q251 : 0 < (t242.length : Int) := of_decide_eq_true (by first | (with_reducible assumption) | assumption)
    obtain ⟨ad251, e251, hx251_0, hx251_1, hx251_2⟩ := at_T41 (Kd.R_reads' HO244.out).2.2 0 p251 q251
    cases e251
    have qi251 : (0 < t242.length) = True := eq_true (by omega)
    (try rw [show ((0 : Int)).toNat = 0 from rfl] at hx251_0)
    (try rw [show 0 * 3 = 0 from rfl] at hx251_0)
    (try rw [Addr.add_zero'] at hx251_0)
    (try rw [show ((0 : Int)).toNat = 0 from rfl] at hx251_1)
    (try rw [show 0 * 3 = 0 from rfl] at hx251_1)
    (try rw [Addr.add_zero'] at hx251_1)
    (try rw [show ((0 : Int)).toNat = 0 from rfl] at hx251_2)
    (try rw [show 0 * 3 = 0 from rfl] at hx251_2)
    (try rw [Addr.add_zero'] at hx251_2)
    replace p251 := eq_true p251
    replace q251 := eq_true q251
    have p252 : 0 ≤ (0 : Int) := (by omega)
    have q252 : 0 < (t242.length : Int) := of_decide_eq_true (by first | (with_reducible assumption) | assumption)
    obtain ⟨ad252, e252, hx252_0, hx252_1, hx252_2⟩ := at_T41 (Kd.R_reads' HO244.out).2.2 0 p252 q252
    obtain rfl : ad251 = ad252 := (by injection e252)
    have qi252 : (0 < t242.length) = True := eq_true (by omega)
    (try rw [show ((0 : Int)).toNat = 0 from rfl] at hx252_0)
    (try rw [show 0 * 3 = 0 from rfl] at hx252_0)
    (try rw [Addr.add_zero'] at hx252_0)
    (try rw [show ((0 : Int)).toNat = 0 from rfl] at hx252_1)
    (try rw [show 0 * 3 = 0 from rfl] at hx252_1)
    (try rw [Addr.add_zero'] at hx252_1)
    (try rw [show ((0 : Int)).toNat = 0 from rfl] at hx252_2)
    (try rw [show 0 * 3 = 0 from rfl] at hx252_2)
    (try rw [Addr.add_zero'] at hx252_2)
    replace p252 := eq_true p252
    replace q252 := eq_true q252
    refine start_ (n := 14) (S := fun w' => w'.cell? ⟨gb246, 0, none⟩ = some (.int .i64 t241) ∧ w'.cell? ⟨gb246, 1, none⟩ = some (.slice (some ad251) t242.length co19) ∧ w'.cell? ad251 = some (.string ((rd_T41 t242 0).f0)) ∧ w'.cell? ⟨ad251.block, ad251.off + 1, none⟩ = some (.int .i64 ((rd_T41 t242 0).f1)) ∧ w'.cell? ⟨ad251.block, ad251.off + 2, none⟩ = some (.int .i64 ((rd_T41 t242 0).f2)) ∧ w'.cell? ad251 = some (.string ((rd_T41 t242 0).f0)) ∧ w'.cell? ⟨ad251.block, ad251.off + 1, none⟩ = some (.int .i64 ((rd_T41 t242 0).f1)) ∧ w'.cell? ⟨ad251.block, ad251.off + 2, none⟩ = some (.int .i64 ((rd_T41 t242 0).f2))) (ds := []) #[false, false, false, false, false, false, false, false, false, false, false, false, false, false] (by kernel_rfl) rfl rfl ⟨(blk_cell BK246.out 0).trans rfl, (blk_cell BK246.out 1).trans rfl, hx251_0, hx251_1, hx251_2, hx252_0, hx252_1, hx252_2⟩ (fun hHeld => ?_); refine with_tabW spec_DrawPostTo.tab5 spec_DrawPostTo.bits5 (fun HT_ HW_ => ?_)
    generalize w22.drew = w23 at HO239 HO244 BK232 BK246 HI235 HB hx251_0 hx251_1 hx251_2 hx252_0 hx252_1 hx252_2 hHeld ⊢
    refine pure_ (i := 1) (N := some 26) (v := ?_) (a' := ?_) #[false, true, false, false, false, false, false, false, false, false, false, false, false, false] rfl rfl (any_of HT_.out (by kernel_rfl)) (fun _ _ _ h => h) (Or.inl ⟨by rfl, ?_⟩) ?_ ?_
    rotate_left
    ·
     intro w'
     go_simp
     with_reducible rfl
    rotate_left
    ·
     simp only [Act.put, List.setIfInBounds_toArray, List.set_cons_zero, List.set_cons_succ, i64_w, i32_w]
     rfl
    refine pure_ (i := 6) (N := some 31) (v := ?_) (a' := ?_) #[false, true, false, false, false, false, true, false, false, false, false, false, false, false] rfl rfl (any_of HT_.out (by kernel_rfl)) (fun _ _ _ h => h) (Or.inl ⟨by rfl, ?_⟩) ?_ ?_
    rotate_left
    ·
     intro w'
     go_simp
     with_reducible rfl
    rotate_left
    ·
     simp only [Act.put, List.setIfInBounds_toArray, List.set_cons_zero, List.set_cons_succ, i64_w, i32_w]
     rfl
    refine take_ (i := 0) (N := some 25) (v := ?_) (a' := ?_) #[true, true, false, false, false, false, true, false, false, false, false, false, false, false] rfl rfl (take_ofW HT_.out HW_.out (by kernel_rfl)) (fun _ _ _ h => h) (Or.inl ⟨by rfl, ?_⟩) hHeld ?_ ?_
    rotate_left
    ·
     rintro w' ⟨s0, s1, s2, s3, s4, s5, s6, s7⟩
     go_simp
     with_reducible rfl
    rotate_left
    ·
     simp only [Act.put, List.setIfInBounds_toArray, List.set_cons_zero, List.set_cons_succ, i64_w, i32_w]
     rfl
    refine take_ (i := 2) (N := some 27) (v := ?_) (a' := ?_) #[true, true, true, false, false, false, true, false, false, false, false, false, false, false] rfl rfl (take_ofW HT_.out HW_.out (by kernel_rfl)) (fun _ _ _ h => h) (Or.inl ⟨by rfl, ?_⟩) hHeld ?_ ?_
    rotate_left
    ·
     rintro w' ⟨s0, s1, s2, s3, s4, s5, s6, s7⟩
     go_simp
     with_reducible rfl
    rotate_left
    ·
     simp only [Act.put, List.setIfInBounds_toArray, List.set_cons_zero, List.set_cons_succ, i64_w, i32_w]
     rfl
    refine pure_ (i := 3) (N := some 28) (v := ?_) (a' := ?_) #[true, true, true, true, false, false, true, false, false, false, false, false, false, false] rfl rfl (any_of HT_.out (by kernel_rfl)) (fun _ _ _ h => h) (Or.inl ⟨by rfl, ?_⟩) ?_ ?_
    rotate_left
    ·
     intro w'
     go_simp
     with_reducible rfl
    rotate_left
    ·
     simp only [Act.put, List.setIfInBounds_toArray, List.set_cons_zero, List.set_cons_succ, i64_w, i32_w]
     rfl
    refine pure_ (i := 4) (N := some 29) (v := ?_) (a' := ?_) #[true, true, true, true, true, false, true, false, false, false, false, false, false, false] rfl rfl (any_of HT_.out (by kernel_rfl)) (fun _ _ _ h => h) (Or.inl ⟨by rfl, ?_⟩) ?_ ?_
    rotate_left
    ·
     intro w'
     go_simp
     with_reducible rfl
    rotate_left
    ·
     simp only [Act.put, List.setIfInBounds_toArray, List.set_cons_zero, List.set_cons_succ, i64_w, i32_w]
     rfl
    refine take_ (i := 5) (N := some 30) (v := ?_) (a' := ?_) #[true, true, true, true, true, true, true, false, false, false, false, false, false, false] rfl rfl (take_ofW HT_.out HW_.out (by kernel_rfl)) (fun _ _ _ h => h) (Or.inl ⟨by rfl, ?_⟩) hHeld ?_ ?_
    rotate_left
    ·
     rintro w' ⟨s0, s1, s2, s3, s4, s5, s6, s7⟩
     go_simp
     with_reducible rfl
    rotate_left
    ·
     simp only [Act.put, List.setIfInBounds_toArray, List.set_cons_zero, List.set_cons_succ, i64_w, i32_w]
     rfl
    refine take_ (i := 7) (N := some 32) (v := ?_) (a' := ?_) #[true, true, true, true, true, true, true, true, false, false, false, false, false, false] rfl rfl (take_ofW HT_.out HW_.out (by kernel_rfl)) (fun _ _ _ h => h) (Or.inl ⟨by rfl, ?_⟩) hHeld ?_ ?_
    rotate_left
    ·
     rintro w' ⟨s0, s1, s2, s3, s4, s5, s6, s7⟩
     go_simp
     with_reducible rfl
    rotate_left
    ·
     simp only [Act.put, List.setIfInBounds_toArray, List.set_cons_zero, List.set_cons_succ, i64_w, i32_w]
     rfl
    refine pure_ (i := 8) (N := some 33) (v := ?_) (a' := ?_) #[true, true, true, true, true, true, true, true, true, false, false, false, false, false] rfl rfl (any_of HT_.out (by kernel_rfl)) (fun _ _ _ h => h) (Or.inl ⟨by rfl, ?_⟩) ?_ ?_
    rotate_left
    ·
     intro w'
     go_simp
     with_reducible rfl
    rotate_left
    ·
     simp only [Act.put, List.setIfInBounds_toArray, List.set_cons_zero, List.set_cons_succ, i64_w, i32_w]
     rfl
    refine pure_ (i := 9) (N := some 34) (v := ?_) (a' := ?_) #[true, true, true, true, true, true, true, true, true, true, false, false, false, false] rfl rfl (any_of HT_.out (by kernel_rfl)) (fun _ _ _ h => h) (Or.inl ⟨by rfl, ?_⟩) ?_ ?_
    rotate_left
    ·
     intro w'
     go_simp
     with_reducible rfl
    rotate_left
    ·
     simp only [Act.put, List.setIfInBounds_toArray, List.set_cons_zero, List.set_cons_succ, i64_w, i32_w]
     rfl
    refine take_ (i := 10) (N := some 35) (v := ?_) (a' := ?_) #[true, true, true, true, true, true, true, true, true, true, true, false, false, false] rfl rfl (take_ofW HT_.out HW_.out (by kernel_rfl)) (fun _ _ _ h => h) (Or.inl ⟨by rfl, ?_⟩) hHeld ?_ ?_
    rotate_left
    ·
     rintro w' ⟨s0, s1, s2, s3, s4, s5, s6, s7⟩
     go_simp
     with_reducible rfl
    rotate_left
    ·
     simp only [Act.put, List.setIfInBounds_toArray, List.set_cons_zero, List.set_cons_succ, i64_w, i32_w]
     rfl
    refine one_ (i := 11) (N := none) #[true, true, true, true, true, true, true, true, true, true, true, true, false, false] rfl rfl (one_of HT_.out (by kernel_rfl)) (by decide) (fun K hK => ?_)
    have hs24 : w23.cell? ⟨gb232, 0, none⟩ = some (.int .i64 0) := (blk_cell BK232.out 0).trans rfl
    have hfs24 := blk_frozen BK232.out 0
    have hns24_1 := NB246_232.out
    have hms24_1 := NB232_246.out
    have hs25 : w23.cell? ⟨gb232, 1, none⟩ = some (.slice none 0 0) := (blk_cell BK232.out 1).trans rfl
    have hfs25 := blk_frozen BK232.out 1
    have hns25_1 := NB246_232.out
    have hms25_1 := NB232_246.out
    refine skip_ (w1 := ?_) (by rfl) rfl ?_ ?_
    rotate_left
    ·
     go_simp
     rfl
    refine hK.out _ _ ⟨((cell_far (p := ⟨gb232, _, none⟩) NB246_232.out _).trans (((cell_far (p := ⟨gb232, _, none⟩) NB246_232.out _).trans (hHeld.1)))), ((cell_far (p := ⟨gb232, _, none⟩) NB246_232.out _).trans (((cell_far (p := ⟨gb232, _, none⟩) NB246_232.out _).trans (hHeld.2.1)))), ((cell_far (p := ⟨gb232, _, none⟩) (by first | exact Kd.own_blk (Kd.R_ne HO244.out BK232.out (by decide)) | (rw [add_block]; exact Kd.own_blk (Kd.R_ne HO244.out BK232.out (by decide))) | (show (Addr.add _ _).block ≠ _; rw [add_block]; exact Kd.own_blk (Kd.R_ne HO244.out BK232.out (by decide))) | (dsimp only; exact Kd.own_blk (Kd.R_ne HO244.out BK232.out (by decide)))) _).trans (((cell_far (p := ⟨gb232, _, none⟩) (by first | exact Kd.own_blk (Kd.R_ne HO244.out BK232.out (by decide)) | (rw [add_block]; exact Kd.own_blk (Kd.R_ne HO244.out BK232.out (by decide))) | (show (Addr.add _ _).block ≠ _; rw [add_block]; exact Kd.own_blk (Kd.R_ne HO244.out BK232.out (by decide))) | (dsimp only; exact Kd.own_blk (Kd.R_ne HO244.out BK232.out (by decide)))) _).trans (hHeld.2.2.1)))), ((cell_far (p := ⟨gb232, _, none⟩) (by first | exact Kd.own_blk (Kd.R_ne HO244.out BK232.out (by decide)) | (rw [add_block]; exact Kd.own_blk (Kd.R_ne HO244.out BK232.out (by decide))) | (show (Addr.add _ _).block ≠ _; rw [add_block]; exact Kd.own_blk (Kd.R_ne HO244.out BK232.out (by decide))) | (dsimp only; exact Kd.own_blk (Kd.R_ne HO244.out BK232.out (by decide)))) _).trans (((cell_far (p := ⟨gb232, _, none⟩) (by first | exact Kd.own_blk (Kd.R_ne HO244.out BK232.out (by decide)) | (rw [add_block]; exact Kd.own_blk (Kd.R_ne HO244.out BK232.out (by decide))) | (show (Addr.add _ _).block ≠ _; rw [add_block]; exact Kd.own_blk (Kd.R_ne HO244.out BK232.out (by decide))) | (dsimp only; exact Kd.own_blk (Kd.R_ne HO244.out BK232.out (by decide)))) _).trans (hHeld.2.2.2.1)))), ((cell_far (p := ⟨gb232, _, none⟩) (by first | exact Kd.own_blk (Kd.R_ne HO244.out BK232.out (by decide)) | (rw [add_block]; exact Kd.own_blk (Kd.R_ne HO244.out BK232.out (by decide))) | (show (Addr.add _ _).block ≠ _; rw [add_block]; exact Kd.own_blk (Kd.R_ne HO244.out BK232.out (by decide))) | (dsimp only; exact Kd.own_blk (Kd.R_ne HO244.out BK232.out (by decide)))) _).trans (((cell_far (p := ⟨gb232, _, none⟩) (by first | exact Kd.own_blk (Kd.R_ne HO244.out BK232.out (by decide)) | (rw [add_block]; exact Kd.own_blk (Kd.R_ne HO244.out BK232.out (by decide))) | (show (Addr.add _ _).block ≠ _; rw [add_block]; exact Kd.own_blk (Kd.R_ne HO244.out BK232.out (by decide))) | (dsimp only; exact Kd.own_blk (Kd.R_ne HO244.out BK232.out (by decide)))) _).trans (hHeld.2.2.2.2.1)))), ((cell_far (p := ⟨gb232, _, none⟩) (by first | exact Kd.own_blk (Kd.R_ne HO244.out BK232.out (by decide)) | (rw [add_block]; exact Kd.own_blk (Kd.R_ne HO244.out BK232.out (by decide))) | (show (Addr.add _ _).block ≠ _; rw [add_block]; exact Kd.own_blk (Kd.R_ne HO244.out BK232.out (by decide))) | (dsimp only; exact Kd.own_blk (Kd.R_ne HO244.out BK232.out (by decide)))) _).trans (((cell_far (p := ⟨gb232, _, none⟩) (by first | exact Kd.own_blk (Kd.R_ne HO244.out BK232.out (by decide)) | (rw [add_block]; exact Kd.own_blk (Kd.R_ne HO244.out BK232.out (by decide))) | (show (Addr.add _ _).block ≠ _; rw [add_block]; exact Kd.own_blk (Kd.R_ne HO244.out BK232.out (by decide))) | (dsimp only; exact Kd.own_blk (Kd.R_ne HO244.out BK232.out (by decide)))) _).trans (hHeld.2.2.2.2.2.1)))), ((cell_far (p := ⟨gb232, _, none⟩) (by first | exact Kd.own_blk (Kd.R_ne HO244.out BK232.out (by decide)) | (rw [add_block]; exact Kd.own_blk (Kd.R_ne HO244.out BK232.out (by decide))) | (show (Addr.add _ _).block ≠ _; rw [add_block]; exact Kd.own_blk (Kd.R_ne HO244.out BK232.out (by decide))) | (dsimp only; exact Kd.own_blk (Kd.R_ne HO244.out BK232.out (by decide)))) _).trans (((cell_far (p := ⟨gb232, _, none⟩) (by first | exact Kd.own_blk (Kd.R_ne HO244.out BK232.out (by decide)) | (rw [add_block]; exact Kd.own_blk (Kd.R_ne HO244.out BK232.out (by decide))) | (show (Addr.add _ _).block ≠ _; rw [add_block]; exact Kd.own_blk (Kd.R_ne HO244.out BK232.out (by decide))) | (dsimp only; exact Kd.own_blk (Kd.R_ne HO244.out BK232.out (by decide)))) _).trans (hHeld.2.2.2.2.2.2.1)))), ((cell_far (p := ⟨gb232, _, none⟩) (by first | exact Kd.own_blk (Kd.R_ne HO244.out BK232.out (by decide)) | (rw [add_block]; exact Kd.own_blk (Kd.R_ne HO244.out BK232.out (by decide))) | (show (Addr.add _ _).block ≠ _; rw [add_block]; exact Kd.own_blk (Kd.R_ne HO244.out BK232.out (by decide))) | (dsimp only; exact Kd.own_blk (Kd.R_ne HO244.out BK232.out (by decide)))) _).trans (((cell_far (p := ⟨gb232, _, none⟩) (by first | exact Kd.own_blk (Kd.R_ne HO244.out BK232.out (by decide)) | (rw [add_block]; exact Kd.own_blk (Kd.R_ne HO244.out BK232.out (by decide))) | (show (Addr.add _ _).block ≠ _; rw [add_block]; exact Kd.own_blk (Kd.R_ne HO244.out BK232.out (by decide))) | (dsimp only; exact Kd.own_blk (Kd.R_ne HO244.out BK232.out (by decide)))) _).trans (hHeld.2.2.2.2.2.2.2))))⟩ (fun hHeld => ?_)
    clear hK K
    refine pure_ (i := 12) (N := some 3) (v := ?_) (a' := ?_) #[true, true, true, true, true, true, true, true, true, true, true, true, true, false] rfl rfl (any_of HT_.out (by kernel_rfl)) (fun _ _ _ h => h) (Or.inl ⟨by rfl, ?_⟩) ?_ ?_
    rotate_left
    ·
     intro w'
     go_simp
     with_reducible rfl
    rotate_left
    ·
     simp only [Act.put, List.setIfInBounds_toArray, List.set_cons_zero, List.set_cons_succ, i64_w, i32_w]
     rfl
    refine pure_ (i := 13) (N := some 4) (v := ?_) (a' := ?_) #[true, true, true, true, true, true, true, true, true, true, true, true, true, true] rfl rfl (any_of HT_.out (by kernel_rfl)) (fun _ _ _ h => h) (Or.inl ⟨by rfl, ?_⟩) ?_ ?_
    rotate_left
    ·
     intro w'
     go_simp
     with_reducible rfl
    rotate_left
    ·
     simp only [Act.put, List.setIfInBounds_toArray, List.set_cons_zero, List.set_cons_succ, i64_w, i32_w]
     rfl
    refine done_ (done_of HT_.out (by kernel_rfl)) ?_
    try go_wp2
    refine bodyPost_ret (results_ctt rfl _ _ gb232 29 #[.int .i64 t241, .slice (some ad251) t242.length co19] (0, 0) _ rfl (by (with_reducible repeat (first | refine blk_drewN ?_ _ | refine blk_drew ?_ | refine blk_alloc ?_ _)); refine blk_put (cs := #[.int .i64 t241, .slice none 0 0]) ?_ 1 _ rfl; (with_reducible repeat (first | refine blk_drewN ?_ _ | refine blk_drew ?_ | refine blk_alloc ?_ _)); refine blk_put (cs := #[.int .i64 0, .slice none 0 0]) ?_ 0 _ rfl; (with_reducible repeat (first | refine blk_drewN ?_ _ | refine blk_drew ?_ | refine blk_alloc ?_ _)); exact BK232.out) Try.underlying29 rfl (by kernel_rfl)) rfl ?_
    exact ⟨_, by first | rfl | (simp [errW_none, errW_some] <;> rfl) | (simp [*, errW_none, errW_some] <;> rfl), by (with_reducible repeat (first | apply Kd.R_alloc | apply Kd.R_drewN | apply Kd.R_drew)); exact Kd.R_mono (Kd.R_far (p := ⟨gb232, 1, none⟩) (Kd.R_far (p := ⟨gb232, 0, none⟩) (Kd.R_types HO244.out BK232.out (by decide)) (fun _ hk => hk.2) (.int .i64 t241)) (fun _ hk => hk.2) (.slice (some ad251) t242.length co19)) (fun _ hk => trivial), spec_DrawPostTo_auHB⟩
   ·
    rw [if_neg c9] at H
    exact absurd H (by simp)
  ·
   rw [if_neg c8] at H
   have c8b0 : decide (0 < t249) = false := decide_eq_false c8
   clear c8
   obtain ⟨y253, hy253⟩ : ∃ y_ : List Int, y_ = (([1, 2, 3, 0, 4] : List Int)) := ⟨_, rfl⟩
   replace H : ((spec_l9Rd_num.f k t233 t250 y253).bind fun bt256 => (some (t241, t242, t247, bt256.1))) = some (r1, r2, r3, r4) := by first | (rw [hy253]; with_reducible exact H) | (have H2_ := (Option.bind_some _ _).symm.trans H; rw [hy253]; with_reducible exact H2_) | (have H2_ := (Option.bind_some _ _).symm.trans H; with_reducible exact H2_) | with_reducible exact H | (rw [hy253]; exact H) | exact H
   have Ny253 := Aside0.mk hy253
   clear hy253
   replace H := Option.bind_eq_some_iff.mp H
   obtain ⟨⟨t256, t257⟩, A260, H⟩ := H
   replace H : (some (t241, t242, t247, t256)) = some (r1, r2, r3, r4) := H
   have A26 := Aside0.mk A260
   clear A260
   simp only [Option.some.injEq, Prod.mk.injEq] at H
   obtain ⟨rfl, rfl, rfl, rfl⟩ := H
   go_enter Try.func33, Try.ntmps33
   try go_wp2_with (first | ((with_reducible refine gate_dst (N := 2) rfl ?_); refine box_event ?hg (N := 2) ?hd (cs := #[.int .i64 0, .slice none 0 0]) (t := 29) ?hr ?_; (case hd => rfl); (case hg => rfl); (case hr => first | (go_simp; done) | (go_simp; rfl)); intro gb232 hg w27 hbox hb; have n0_ := Aside0.mk (below_step (spec_DrawPostTo_auHB) hb); have n1_ := Aside0.mk (hbox); have n2_ := Aside0.mk ((by rw [hg]; exact (below_size (spec_DrawPostTo_auHB)) : w.heap.size ≤ gb232)); have n3_ := Aside0.mk ((by rw [hg]; exact (below_size (spec_DrawPostTo_auHB)) : w.heap.size ≤ gb232)); clear HB; have HB := n0_; have BK232 := n1_; have GW232 := n2_; have GE232 := n3_; clear n0_ n1_ n2_ n3_; clear hb hbox hg) | ((with_reducible refine gate_callee (f := 40) rfl ?_); refine goesL_ (some 9) rfl rfl Try.func40 (by kernel_rfl) rfl #[.slice A0 l0.length c0] rfl (by (try simp only [List.map_toArray, List.map_cons, List.map_nil]); first | done | rfl | (simp only [List.length_drop, List.length_take]; rfl)) ?_; (with_reducible refine (spec_l9Open.calls _ _ l0 t233 t234 w _ ?side1 ?side2 ?side3 A2.out).mono ?_); (case side1 => exact spec_DrawPostTo_auHB); (case side2 => exact HR0.out); (case side3 => exact HC0.out); rintro e w28 ⟨g235, rfl, hi, hb, hb2⟩; refine ⟨_, rfl, ?_⟩; have n0_ := Aside0.mk (blk_below (g := gb232) (o := .cells #[.int .i64 0, .slice none 0 0] 29 (0, 0)) (spec_DrawPostTo_vb BK232) hb2); have n1_ := Aside0.mk (hb); have n2_ := Aside0.mk (hi); have n3_ := Aside0.mk (IsS74.ne_blk hi (blk_below (g := gb232) (o := .cells #[.int .i64 0, .slice none 0 0] 29 (0, 0)) (spec_DrawPostTo_vb BK232) hb2) (by decide)); have n4_ := Aside0.mk (Ne.symm (IsS74.ne_blk hi (blk_below (g := gb232) (o := .cells #[.int .i64 0, .slice none 0 0] 29 (0, 0)) (spec_DrawPostTo_vb BK232) hb2) (by decide))); clear BK232; clear HB; have BK232 := n0_; have HB := n1_; have HI235 := n2_; have NB235_232 := n3_; have NB232_235 := n4_; clear n0_ n1_ n2_ n3_ n4_; (try clear hb); (try clear hb2); (try clear hk); (try clear hi)) | ((with_reducible refine gate_callee (f := 41) rfl ?_); refine goesL_ (some 12) rfl rfl Try.func41 (by kernel_rfl) rfl #[.pointer (some ⟨g235, 0, none⟩)] rfl (by (try simp only [List.map_toArray, List.map_cons, List.map_nil]); first | done | rfl | (simp only [List.length_drop, List.length_take]; rfl)) ?_; (with_reducible refine (spec_l1Post.calls k g235 t233 t234 t236 t237 t240 w _ ?side1 ?side2 A3.out).mono ?_); (case side1 => exact spec_DrawPostTo_auHI235); (case side2 => exact spec_DrawPostTo_auHB); rintro e w29 ⟨v238, rfl, ho0, hi, hb, hk⟩; refine ⟨_, rfl, ?_⟩; have n0_ := Aside0.mk (KeepBut.blk hk (g' := gb232) (o := .cells #[.int .i64 0, .slice none 0 0] 29 (0, 0)) (spec_DrawPostTo_vb BK232) NB232_235.out (by simp)); have n1_ := Aside0.mk (Kd.R_lower ho0 (below_size (spec_DrawPostTo_auHB))); have n2_ := Aside0.mk (hb); have n3_ := Aside0.mk (hi); clear BK232; clear HB; clear HI235; have BK232 := n0_; have HO239 := n1_; have HB := n2_; have HI235 := n3_; clear n0_ n1_ n2_ n3_; (try clear hb); (try clear hb2); (try clear hk); (try clear hi); (try clear ho0); obtain ⟨Ao30, co30, eo30⟩ := Kd.R_slice HO239.out; subst eo30) | ((with_reducible refine gate_callee (f := 42) rfl ?_); refine goesL_ (some 13) rfl rfl Try.func42 (by kernel_rfl) rfl #[.pointer (some ⟨g235, 0, none⟩), .agg #[.int .i64 t236, .slice Ao30 t237.length co30]] rfl (by (try simp only [List.map_toArray, List.map_cons, List.map_nil]); first | done | rfl | (simp only [List.length_drop, List.length_take]; rfl)) ?_; (with_reducible refine (spec_l1Bent.calls k g235 t233 t240 t236 _ _ t237 t241 t242 t245 w _ ?side1 ?side2 ?side3 ?side4 A4.out).mono ?_); (case side1 => exact spec_DrawPostTo_auHI235); (case side2 => exact spec_DrawPostTo_auHB); (case side3 => exact Kd.C_foot_own (IsS74.apart (show IsS74 w _ g235 t233 t240 from spec_DrawPostTo_auHI235) (by (with_reducible repeat (first | apply Kd.R_alloc | apply Kd.R_drewN | apply Kd.R_drew)); exact HO239.out) (by decide)) (fun _ h_ => h_.2)); (case side4 => exact (Kd.R_reads' HO239.out).2.1); rintro e w31 ⟨v243, rfl, ho0, hi, hb, hk⟩; refine ⟨_, rfl, ?_⟩; have n0_ := Aside0.mk (KeepBut.blk hk (g' := gb232) (o := .cells #[.int .i64 0, .slice none 0 0] 29 (0, 0)) (spec_DrawPostTo_vb BK232) NB232_235.out (by simp)); have n1_ := Aside0.mk (Kd.R_mono (Kd.R_told (Kd.R_oldK (IsS74.apart (show IsS74 w _ g235 t233 t240 from spec_DrawPostTo_auHI235) (by (with_reducible repeat (first | apply Kd.R_alloc | apply Kd.R_drewN | apply Kd.R_drew)); exact HO239.out) (by decide)) hk) (Kd.R_base ho0)) (fun _ h_ => h_.1)); have n2_ := Aside0.mk (Kd.R_lower (Kd.R_new' ho0 (Kd.R_lt (by (with_reducible repeat (first | apply Kd.R_alloc | apply Kd.R_drewN | apply Kd.R_drew)); exact HO239.out))) (below_size (spec_DrawPostTo_auHB))); have n3_ := Aside0.mk (hb); have n4_ := Aside0.mk (hi); clear BK232; clear HO239; clear HB; clear HI235; have BK232 := n0_; have HO239 := n1_; have HO244 := n2_; have HB := n3_; have HI235 := n4_; clear n0_ n1_ n2_ n3_ n4_; (try clear hb); (try clear hb2); (try clear hk); (try clear hi); (try clear ho0)) | ((with_reducible refine gate_dst (N := 6) rfl ?_); refine box_event ?hg (N := 6) ?hd (cs := #[.int .i64 0, .slice none 0 0]) (t := 29) ?hr ?_; (case hd => rfl); (case hg => rfl); (case hr => first | (go_simp; done) | (go_simp; rfl)); intro gb246 hg w32 hbox hb; have n0_ := Aside0.mk (Kd.R_below (by (with_reducible repeat (first | apply Kd.R_alloc | apply Kd.R_drewN | apply Kd.R_drew)); exact HO239.out) hb); have n1_ := Aside0.mk (Kd.R_below (by (with_reducible repeat (first | apply Kd.R_alloc | apply Kd.R_drewN | apply Kd.R_drew)); exact HO244.out) hb); have n2_ := Aside0.mk (blk_below (g := gb232) (o := .cells #[.int .i64 0, .slice none 0 0] 29 (0, 0)) (spec_DrawPostTo_vb BK232) hb); have n3_ := Aside0.mk (IsS74.below (spec_DrawPostTo_auHI235) hb); have n4_ := Aside0.mk (below_step (spec_DrawPostTo_auHB) hb); have n5_ := Aside0.mk (hbox); have n6_ := Aside0.mk ((by rw [hg]; exact (below_size (spec_DrawPostTo_auHB)) : w.heap.size ≤ gb246)); have n7_ := Aside0.mk ((by rw [hg]; exact (below_size (spec_DrawPostTo_auHB)) : w.heap.size ≤ gb246)); have n8_ := Aside0.mk ((by rw [hg]; exact Nat.ne_of_lt (blk_lt (g := gb232) (o := .cells #[.int .i64 0, .slice none 0 0] 29 (0, 0)) (spec_DrawPostTo_vb BK232)) : gb232 ≠ gb246)); have n9_ := Aside0.mk ((by rw [hg]; exact Nat.ne_of_gt (blk_lt (g := gb232) (o := .cells #[.int .i64 0, .slice none 0 0] 29 (0, 0)) (spec_DrawPostTo_vb BK232)) : gb246 ≠ gb232)); have n10_ := Aside0.mk ((by rw [hg]; exact Nat.ne_of_lt (IsS74.lt (show IsS74 w _ g235 t233 t245 from spec_DrawPostTo_auHI235)) : g235 ≠ gb246)); have n11_ := Aside0.mk ((by rw [hg]; exact Nat.ne_of_gt (IsS74.lt (show IsS74 w _ g235 t233 t245 from spec_DrawPostTo_auHI235)) : gb246 ≠ g235)); clear HO239; clear HO244; clear BK232; clear HI235; clear HB; have HO239 := n0_; have HO244 := n1_; have BK232 := n2_; have HI235 := n3_; have HB := n4_; have BK246 := n5_; have GW246 := n6_; have GE246 := n7_; have NB232_246 := n8_; have NB246_232 := n9_; have NB235_246 := n10_; have NB246_235 := n11_; clear n0_ n1_ n2_ n3_ n4_ n5_ n6_ n7_ n8_ n9_ n10_ n11_; clear hb hbox hg; have hnb33 := NB246_232.out; have hnc33 := NB232_246.out; have hnb34 := NB246_235.out; have hnc34 := NB235_246.out; have hcz35_0 : w32.cell? ⟨gb246, 0, none⟩ = some (.int .i64 0) := (blk_cell BK246.out 0).trans rfl; have hcz35_1 : w32.cell? ⟨gb246, 1, none⟩ = some (.slice none 0 0) := (blk_cell BK246.out 1).trans rfl; have hfz35_0 := blk_frozen BK246.out 0; have hfz35_1 := blk_frozen BK246.out 1; obtain ⟨Ao36, co36, eo36⟩ := Kd.R_slice HO244.out; subst eo36) | ((with_reducible refine gate_callee (f := 45) rfl ?_); refine goesL_ (some 15) rfl rfl Try.func45 (by kernel_rfl) rfl #[.pointer (some ⟨g235, 0, none⟩)] rfl (by (try simp only [List.map_toArray, List.map_cons, List.map_nil]); first | done | rfl | (simp only [List.length_drop, List.length_take]; rfl)) ?_; (with_reducible refine (spec_l1Acct.calls k g235 t233 t245 t247 t248 w _ ?side1 ?side2 A5.out).mono ?_); (case side1 => exact spec_DrawPostTo_auHI235); (case side2 => exact spec_DrawPostTo_auHB); rintro e w37 ⟨rfl, hi, hb, hk⟩; refine ⟨_, rfl, ?_⟩; have n0_ := Aside0.mk (KeepBut.blk hk (g' := gb232) (o := .cells #[.int .i64 0, .slice none 0 0] 29 (0, 0)) (by (with_reducible repeat (first | refine blk_drewN ?_ _ | refine blk_drew ?_ | refine blk_alloc ?_ _)); refine blk_far ?_ NB232_246.out _; (with_reducible repeat (first | refine blk_drewN ?_ _ | refine blk_drew ?_ | refine blk_alloc ?_ _)); refine blk_far ?_ NB232_246.out _; (with_reducible repeat (first | refine blk_drewN ?_ _ | refine blk_drew ?_ | refine blk_alloc ?_ _)); exact BK232.out) NB232_235.out (by simp)); have n1_ := Aside0.mk (Kd.R_mono (Kd.R_keep (IsS74.apart (show IsS74 w _ g235 t233 t245 from spec_DrawPostTo_auHI235) (by (with_reducible repeat (first | apply Kd.R_alloc | apply Kd.R_drewN | apply Kd.R_drew)); exact (Kd.R_mono (Kd.R_far (p := ⟨gb246, 1, none⟩) (Kd.R_far (p := ⟨gb246, 0, none⟩) (Kd.R_types HO239.out BK246.out (by decide)) (fun _ hk => hk.2) (.int .i64 t241)) (fun _ hk => hk.2) (.slice Ao36 t242.length co36)) (fun _ h_ => h_.1))) (by decide)) hk (fun _ h => h.2)) (fun _ h => h.1)); have n2_ := Aside0.mk (Kd.R_mono (Kd.R_keep (IsS74.apart (show IsS74 w _ g235 t233 t245 from spec_DrawPostTo_auHI235) (by (with_reducible repeat (first | apply Kd.R_alloc | apply Kd.R_drewN | apply Kd.R_drew)); exact (Kd.R_mono (Kd.R_far (p := ⟨gb246, 1, none⟩) (Kd.R_far (p := ⟨gb246, 0, none⟩) (Kd.R_types HO244.out BK246.out (by decide)) (fun _ hk => hk.2) (.int .i64 t241)) (fun _ hk => hk.2) (.slice Ao36 t242.length co36)) (fun _ h_ => h_.1))) (by decide)) hk (fun _ h => h.2)) (fun _ h => h.1)); have n3_ := Aside0.mk (KeepBut.blk hk (g' := gb246) (o := .cells #[.int .i64 t241, .slice Ao36 t242.length co36] 29 (0, 0)) (by (with_reducible repeat (first | refine blk_drewN ?_ _ | refine blk_drew ?_ | refine blk_alloc ?_ _)); refine blk_put (cs := #[.int .i64 t241, .slice none 0 0]) ?_ 1 _ rfl; (with_reducible repeat (first | refine blk_drewN ?_ _ | refine blk_drew ?_ | refine blk_alloc ?_ _)); refine blk_put (cs := #[.int .i64 0, .slice none 0 0]) ?_ 0 _ rfl; (with_reducible repeat (first | refine blk_drewN ?_ _ | refine blk_drew ?_ | refine blk_alloc ?_ _)); exact BK246.out) NB246_235.out (by simp)); have n4_ := Aside0.mk (hb); have n5_ := Aside0.mk (hi); clear BK232; clear HO239; clear HO244; clear BK246; clear HB; clear HI235; have BK232 := n0_; have HO239 := n1_; have HO244 := n2_; have BK246 := n3_; have HB := n4_; have HI235 := n5_; clear n0_ n1_ n2_ n3_ n4_ n5_; (try clear hb); (try clear hb2); (try clear hk); (try clear hi); have hcz38_0 : w37.cell? ⟨gb246, 0, none⟩ = some (.int .i64 t241) := (blk_cell BK246.out 0).trans rfl; have hcz38_1 : w37.cell? ⟨gb246, 1, none⟩ = some (.slice Ao36 t242.length co36) := (blk_cell BK246.out 1).trans rfl; have hfz38_0 := blk_frozen BK246.out 0; have hfz38_1 := blk_frozen BK246.out 1) | (go_at_call 43; (with_reducible refine (spec_l9Rd_pick.calls k g235 t233 t248 3 t249 t250 w _ ?side1 ?side2 A7.out).mono ?_); (case side1 => exact spec_DrawPostTo_auHI235); (case side2 => exact spec_DrawPostTo_auHB); rintro e w39 ⟨rfl, hi, hb, hk⟩; have n0_ := Aside0.mk (KeepBut.blk hk (g' := gb232) (o := .cells #[.int .i64 0, .slice none 0 0] 29 (0, 0)) (spec_DrawPostTo_vb BK232) NB232_235.out (by simp)); have n1_ := Aside0.mk (Kd.R_mono (Kd.R_keep (IsS74.apart (show IsS74 w _ g235 t233 t248 from spec_DrawPostTo_auHI235) (by (with_reducible repeat (first | apply Kd.R_alloc | apply Kd.R_drewN | apply Kd.R_drew)); exact HO239.out) (by decide)) hk (fun _ h => h.2)) (fun _ h => h.1)); have n2_ := Aside0.mk (Kd.R_mono (Kd.R_keep (IsS74.apart (show IsS74 w _ g235 t233 t248 from spec_DrawPostTo_auHI235) (by (with_reducible repeat (first | apply Kd.R_alloc | apply Kd.R_drewN | apply Kd.R_drew)); exact HO244.out) (by decide)) hk (fun _ h => h.2)) (fun _ h => h.1)); have n3_ := Aside0.mk (KeepBut.blk hk (g' := gb246) (o := .cells #[.int .i64 t241, .slice Ao36 t242.length co36] 29 (0, 0)) (spec_DrawPostTo_vb BK246) NB246_235.out (by simp)); have n4_ := Aside0.mk (hb); have n5_ := Aside0.mk (hi); clear BK232; clear HO239; clear HO244; clear BK246; clear HB; clear HI235; have BK232 := n0_; have HO239 := n1_; have HO244 := n2_; have BK246 := n3_; have HB := n4_; have HI235 := n5_; clear n0_ n1_ n2_ n3_ n4_ n5_; (try clear hb); (try clear hb2); (try clear hk); (try clear hi)))
   have n0_ := Aside0.mk (Kd.R_drew HO239.out)
   have n1_ := Aside0.mk (Kd.R_drew HO244.out)
   have n2_ := Aside0.mk (blk_drew BK232.out)
   have n3_ := Aside0.mk (blk_drew BK246.out)
   have n4_ := Aside0.mk (IsS74.drew HI235.out)
   have n5_ := Aside0.mk (below_drew1 HB.out)
   clear HO239
   clear HO244
   clear BK232
   clear BK246
   clear HI235
   clear HB
   have HO239 := n0_
   have HO244 := n1_
   have BK232 := n2_
   have BK246 := n3_
   have HI235 := n4_
   have HB := n5_
   clear n0_ n1_ n2_ n3_ n4_ n5_
   refine start_ (n := 8) (S := fun w' => w'.cell? ⟨gb246, 0, none⟩ = some (.int .i64 t241) ∧ w'.cell? ⟨gb246, 1, none⟩ = some (.slice Ao36 t242.length co36)) (ds := []) #[false, false, false, false, false, false, false, false] (by kernel_rfl) rfl rfl ⟨(blk_cell BK246.out 0).trans rfl, (blk_cell BK246.out 1).trans rfl⟩ (fun hHeld => ?_); refine with_tabW spec_DrawPostTo.tab6 spec_DrawPostTo.bits6 (fun HT_ HW_ => ?_)
   generalize w39.drew = w40 at HO239 HO244 BK232 BK246 HI235 HB hHeld ⊢
   refine pure_ (i := 1) (N := some 37) (v := ?_) (a' := ?_) #[false, true, false, false, false, false, false, false] rfl rfl (any_of HT_.out (by kernel_rfl)) (fun _ _ _ h => h) (Or.inl ⟨by rfl, ?_⟩) ?_ ?_
   rotate_left
   ·
    intro w'
    go_simp
    with_reducible rfl
   rotate_left
   ·
    simp only [Act.put, List.setIfInBounds_toArray, List.set_cons_zero, List.set_cons_succ, i64_w, i32_w]
    rfl
   refine pure_ (i := 2) (N := some 38) (v := ?_) (a' := ?_) #[false, true, true, false, false, false, false, false] rfl rfl (any_of HT_.out (by kernel_rfl)) (fun _ _ _ h => h) (Or.inl ⟨by rfl, ?_⟩) ?_ ?_
   rotate_left
   ·
    intro w'
    go_simp
    with_reducible rfl
   rotate_left
   ·
    simp only [Act.put, List.setIfInBounds_toArray, List.set_cons_zero, List.set_cons_succ, i64_w, i32_w]
    rfl
   refine take_ (i := 0) (N := some 36) (v := ?_) (a' := ?_) #[true, true, true, false, false, false, false, false] rfl rfl (take_ofW HT_.out HW_.out (by kernel_rfl)) (fun _ _ _ h => h) (Or.inl ⟨by rfl, ?_⟩) hHeld ?_ ?_
   rotate_left
   ·
    rintro w' ⟨s0, s1⟩
    go_simp
    with_reducible rfl
   rotate_left
   ·
    simp only [Act.put, List.setIfInBounds_toArray, List.set_cons_zero, List.set_cons_succ, i64_w, i32_w]
    rfl
   refine one_ (i := 3) (N := some 39) #[true, true, true, true, false, false, false, false] rfl rfl (one_of HT_.out (by kernel_rfl)) (by decide) (fun K hK => ?_)
   refine Kd.R_lit_step (Kd.int .i64) _ 3 ?hg (N := 39) ?hd (xs := ([1, 2, 3, 0, 4] : List Int)) (inner := [.int .i64 1, .int .i64 2, .int .i64 3, .int .i64 0, .int .i64 4]) (ok := fun _ => True) (okp := fun _ => True) ?hr ?hp (fun _ hk => hk) trivial (Below.refl _ _) (Nat.le_refl _) (by simp) ?_; (case hd => rfl); (case hg => rfl); (case hr => first | (go_simp; done) | (go_simp; rfl)); (case hp => exact (Reps.one (show Kd.M (Kd.int .i64) _ _ _ 1 [.int .i64 1] from rfl) (Reps.one (show Kd.M (Kd.int .i64) _ _ _ 2 [.int .i64 2] from rfl) (Reps.one (show Kd.M (Kd.int .i64) _ _ _ 3 [.int .i64 3] from rfl) (Reps.one (show Kd.M (Kd.int .i64) _ _ _ 0 [.int .i64 0] from rfl) (Reps.one (show Kd.M (Kd.int .i64) _ _ _ 4 [.int .i64 4] from rfl) (Reps.none _ _)))))))
   intro v254 w41 ho42 hb hg_ hnew_
   clear hg_ hnew_
   (first | rw [← Ny253.out] at ho42 | (simp only [Int.reduceToNat] at ho42; rw [← Ny253.out] at ho42))
   have n0_ := Aside0.mk (Kd.R_below (by (with_reducible repeat (first | apply Kd.R_alloc | apply Kd.R_drewN | apply Kd.R_drew)); exact HO239.out) hb)
   have n1_ := Aside0.mk (Kd.R_below (by (with_reducible repeat (first | apply Kd.R_alloc | apply Kd.R_drewN | apply Kd.R_drew)); exact HO244.out) hb)
   have n2_ := Aside0.mk (Kd.R_lower ho42 (below_size (spec_DrawPostTo_auHB)))
   have n3_ := Aside0.mk (blk_below (g := gb232) (o := .cells #[.int .i64 0, .slice none 0 0] 29 (0, 0)) (spec_DrawPostTo_vb BK232) hb)
   have n4_ := Aside0.mk (IsS74.below (spec_DrawPostTo_auHI235) hb)
   have n5_ := Aside0.mk (blk_below (g := gb246) (o := .cells #[.int .i64 t241, .slice Ao36 t242.length co36] 29 (0, 0)) (spec_DrawPostTo_vb BK246) hb)
   have n6_ := Aside0.mk (below_step (spec_DrawPostTo_auHB) hb)
   clear HO239
   clear HO244
   clear BK232
   clear HI235
   clear BK246
   clear HB
   have HO239 := n0_
   have HO244 := n1_
   have HO255 := n2_
   have BK232 := n3_
   have HI235 := n4_
   have BK246 := n5_
   have HB := n6_
   clear n0_ n1_ n2_ n3_ n4_ n5_ n6_
   clear hb ho42
   obtain ⟨Ao43, co43, eo43⟩ := Kd.R_slice HO255.out
   (first | subst eo43 | (injection eo43 with f1_ f2_ f3_; have f4_ := f1_.symm; have f5_ := f3_.symm; clear f1_ f2_ f3_; subst f4_; subst f5_))
   refine hK.out _ _ ⟨(blk_cell BK246.out 0).trans rfl, (blk_cell BK246.out 1).trans rfl⟩ (fun hHeld => ?_)
   clear hK K
   refine norm_ (a' := ?_) ?_ ?_
   rotate_left
   ·
    show Act.put _ (some 39) _ = _
    simp only [Act.put, List.setIfInBounds_toArray, List.set_cons_zero, List.set_cons_succ, i64_w, i32_w]
    rfl
   refine one_ (i := 4) (N := some 40) #[true, true, true, true, true, false, false, false] rfl rfl (one_of HT_.out (by kernel_rfl)) (by decide) (fun K hK => ?_)
   refine goes_ Try.func46 (by kernel_rfl) rfl #[.pointer (some ⟨g235, 0, none⟩), .slice Ao43 y253.length co43] (by rfl) rfl rfl (by (try simp only [List.map_toArray, List.map_cons, List.map_nil]); first | done | rfl | (simp only [List.length_drop, List.length_take]; rfl)) ?_
   with_reducible refine (spec_l9Rd_num.calls k g235 t233 t250 _ _ y253 t256 t257 w _ ?side1 ?side2 ?side3 ?side4 ?side5 A26.out).mono ?_
   (case side1 => exact spec_DrawPostTo_auHI235)
   (case side2 => exact spec_DrawPostTo_auHB)
   (case side3 => repeat (first | exact (Kd.R_reads' HO255.out).2.2 | (with_reducible refine Kd.C_alloc ?_ _) | (with_reducible refine Kd.C_drewN ?_ _) | (with_reducible refine Kd.C_drew ?_)))
   (case side4 => exact (Kd.R_reads' HO255.out).2.1)
   (case side5 => exact far_slice (IsS74.own_ne HI235.out HO255.out (by decide)))
   rintro e w44 ⟨rfl, hi, hb, hk⟩
   refine ⟨_, rfl, ?_⟩
   have n0_ := Aside0.mk (KeepBut.blk hk (g' := gb232) (o := .cells #[.int .i64 0, .slice none 0 0] 29 (0, 0)) (spec_DrawPostTo_vb BK232) NB232_235.out (by simp))
   have n1_ := Aside0.mk (Kd.R_mono (Kd.R_keep (IsS74.apart (show IsS74 w _ g235 t233 t250 from spec_DrawPostTo_auHI235) (by (with_reducible repeat (first | apply Kd.R_alloc | apply Kd.R_drewN | apply Kd.R_drew)); exact HO239.out) (by decide)) hk (fun _ h => h.2)) (fun _ h => h.1))
   have n2_ := Aside0.mk (Kd.R_mono (Kd.R_keep (IsS74.apart (show IsS74 w _ g235 t233 t250 from spec_DrawPostTo_auHI235) (by (with_reducible repeat (first | apply Kd.R_alloc | apply Kd.R_drewN | apply Kd.R_drew)); exact HO244.out) (by decide)) hk (fun _ h => h.2)) (fun _ h => h.1))
   have n3_ := Aside0.mk (KeepBut.blk hk (g' := gb246) (o := .cells #[.int .i64 t241, .slice Ao36 t242.length co36] 29 (0, 0)) (spec_DrawPostTo_vb BK246) NB246_235.out (by simp))
   have n4_ := Aside0.mk (Kd.R_mono (Kd.R_keep (IsS74.apart (show IsS74 w _ g235 t233 t250 from spec_DrawPostTo_auHI235) (by (with_reducible repeat (first | apply Kd.R_alloc | apply Kd.R_drewN | apply Kd.R_drew)); exact HO255.out) (by decide)) hk (fun _ h => h.2)) (fun _ h => h.1))
   have n5_ := Aside0.mk (hb)
   have n6_ := Aside0.mk (hi)
   clear BK232
   clear HO239
   clear HO244
   clear BK246
   clear HO255
   clear HB
   clear HI235
   have BK232 := n0_
   have HO239 := n1_
   have HO244 := n2_
   have BK246 := n3_
   have HO255 := n4_
   have HB := n5_
   have HI235 := n6_
   clear n0_ n1_ n2_ n3_ n4_ n5_ n6_
   (try clear hb)
   (try clear hb2)
   (try clear hk)
   (try clear hi)
   refine hK.out _ _ ⟨(blk_cell BK246.out 0).trans rfl, (blk_cell BK246.out 1).trans rfl⟩ (fun hHeld => ?_)
   clear hK K
   refine norm_ (a' := ?_) ?_ ?_
   rotate_left
   ·
    show Act.put _ (some 40) _ = _
    simp only [Act.put, List.setIfInBounds_toArray, List.set_cons_zero, List.set_cons_succ, i64_w, i32_w]
    rfl
   refine one_ (i := 5) (N := none) #[true, true, true, true, true, true, false, false] rfl rfl (one_of HT_.out (by kernel_rfl)) (by decide) (fun K hK => ?_)
   have hs45 : w44.cell? ⟨gb232, 0, none⟩ = some (.int .i64 0) := (blk_cell BK232.out 0).trans rfl
   have hfs45 := blk_frozen BK232.out 0
   have hns45_1 := NB246_232.out
   have hms45_1 := NB232_246.out
   have hs46 : w44.cell? ⟨gb232, 1, none⟩ = some (.slice none 0 0) := (blk_cell BK232.out 1).trans rfl
   have hfs46 := blk_frozen BK232.out 1
   have hns46_1 := NB246_232.out
   have hms46_1 := NB232_246.out
   refine skip_ (w1 := ?_) (by rfl) rfl ?_ ?_
   rotate_left
   ·
    go_simp
    rfl
   refine hK.out _ _ ⟨((cell_far (p := ⟨gb232, _, none⟩) NB246_232.out _).trans (((cell_far (p := ⟨gb232, _, none⟩) NB246_232.out _).trans (hHeld.1)))), ((cell_far (p := ⟨gb232, _, none⟩) NB246_232.out _).trans (((cell_far (p := ⟨gb232, _, none⟩) NB246_232.out _).trans (hHeld.2))))⟩ (fun hHeld => ?_)
   clear hK K
   refine pure_ (i := 6) (N := some 3) (v := ?_) (a' := ?_) #[true, true, true, true, true, true, true, false] rfl rfl (any_of HT_.out (by kernel_rfl)) (fun _ _ _ h => h) (Or.inl ⟨by rfl, ?_⟩) ?_ ?_
   rotate_left
   ·
    intro w'
    go_simp
    with_reducible rfl
   rotate_left
   ·
    simp only [Act.put, List.setIfInBounds_toArray, List.set_cons_zero, List.set_cons_succ, i64_w, i32_w]
    rfl
   refine pure_ (i := 7) (N := some 4) (v := ?_) (a' := ?_) #[true, true, true, true, true, true, true, true] rfl rfl (any_of HT_.out (by kernel_rfl)) (fun _ _ _ h => h) (Or.inl ⟨by rfl, ?_⟩) ?_ ?_
   rotate_left
   ·
    intro w'
    go_simp
    with_reducible rfl
   rotate_left
   ·
    simp only [Act.put, List.setIfInBounds_toArray, List.set_cons_zero, List.set_cons_succ, i64_w, i32_w]
    rfl
   refine done_ (done_of HT_.out (by kernel_rfl)) ?_
   try go_wp2
   refine bodyPost_ret (results_ctt rfl _ _ gb232 29 #[.int .i64 t241, .slice Ao36 t242.length co36] (0, 0) _ rfl (by (with_reducible repeat (first | refine blk_drewN ?_ _ | refine blk_drew ?_ | refine blk_alloc ?_ _)); refine blk_put (cs := #[.int .i64 t241, .slice none 0 0]) ?_ 1 _ rfl; (with_reducible repeat (first | refine blk_drewN ?_ _ | refine blk_drew ?_ | refine blk_alloc ?_ _)); refine blk_put (cs := #[.int .i64 0, .slice none 0 0]) ?_ 0 _ rfl; (with_reducible repeat (first | refine blk_drewN ?_ _ | refine blk_drew ?_ | refine blk_alloc ?_ _)); exact BK232.out) Try.underlying29 rfl (by kernel_rfl)) rfl ?_
   exact ⟨_, by first | rfl | (simp [errW_none, errW_some] <;> rfl) | (simp [*, errW_none, errW_some] <;> rfl), by (with_reducible repeat (first | apply Kd.R_alloc | apply Kd.R_drewN | apply Kd.R_drew)); exact Kd.R_mono (Kd.R_far (p := ⟨gb232, 1, none⟩) (Kd.R_far (p := ⟨gb232, 0, none⟩) (Kd.R_types HO244.out BK232.out (by decide)) (fun _ hk => hk.2) (.int .i64 t241)) (fun _ hk => hk.2) (.slice Ao36 t242.length co36)) (fun _ hk => trivial), spec_DrawPostTo_auHB⟩
 ·
  rw [if_neg c6] at H
  have c6b0 : decide (0 < (t242.length : Int)) = false := decide_eq_false c6
  have c6b1 : decide (0 < t242.length) = false := decide_eq_false (by omega)
  clear c6
  obtain ⟨y258, hy258⟩ : ∃ y_ : List Int, y_ = (([1, 2, 3, 0, 4] : List Int)) := ⟨_, rfl⟩
  replace H : ((spec_l9Rd_num.f k t233 t248 y258).bind fun bt261 => (some (t241, t242, t247, bt261.1))) = some (r1, r2, r3, r4) := by first | (rw [hy258]; with_reducible exact H) | (have H2_ := (Option.bind_some _ _).symm.trans H; rw [hy258]; with_reducible exact H2_) | (have H2_ := (Option.bind_some _ _).symm.trans H; with_reducible exact H2_) | with_reducible exact H | (rw [hy258]; exact H) | exact H
  have Ny258 := Aside0.mk hy258
  clear hy258
  replace H := Option.bind_eq_some_iff.mp H
  obtain ⟨⟨t261, t262⟩, A470, H⟩ := H
  replace H : (some (t241, t242, t247, t261)) = some (r1, r2, r3, r4) := H
  have A47 := Aside0.mk A470
  clear A470
  simp only [Option.some.injEq, Prod.mk.injEq] at H
  obtain ⟨rfl, rfl, rfl, rfl⟩ := H
  go_enter Try.func33, Try.ntmps33
  try go_wp2_with (first | ((with_reducible refine gate_dst (N := 2) rfl ?_); refine box_event ?hg (N := 2) ?hd (cs := #[.int .i64 0, .slice none 0 0]) (t := 29) ?hr ?_; (case hd => rfl); (case hg => rfl); (case hr => first | (go_simp; done) | (go_simp; rfl)); intro gb232 hg w48 hbox hb; have n0_ := Aside0.mk (below_step (spec_DrawPostTo_auHB) hb); have n1_ := Aside0.mk (hbox); have n2_ := Aside0.mk ((by rw [hg]; exact (below_size (spec_DrawPostTo_auHB)) : w.heap.size ≤ gb232)); have n3_ := Aside0.mk ((by rw [hg]; exact (below_size (spec_DrawPostTo_auHB)) : w.heap.size ≤ gb232)); clear HB; have HB := n0_; have BK232 := n1_; have GW232 := n2_; have GE232 := n3_; clear n0_ n1_ n2_ n3_; clear hb hbox hg) | ((with_reducible refine gate_callee (f := 40) rfl ?_); refine goesL_ (some 9) rfl rfl Try.func40 (by kernel_rfl) rfl #[.slice A0 l0.length c0] rfl (by (try simp only [List.map_toArray, List.map_cons, List.map_nil]); first | done | rfl | (simp only [List.length_drop, List.length_take]; rfl)) ?_; (with_reducible refine (spec_l9Open.calls _ _ l0 t233 t234 w _ ?side1 ?side2 ?side3 A2.out).mono ?_); (case side1 => exact spec_DrawPostTo_auHB); (case side2 => exact HR0.out); (case side3 => exact HC0.out); rintro e w49 ⟨g235, rfl, hi, hb, hb2⟩; refine ⟨_, rfl, ?_⟩; have n0_ := Aside0.mk (blk_below (g := gb232) (o := .cells #[.int .i64 0, .slice none 0 0] 29 (0, 0)) (spec_DrawPostTo_vb BK232) hb2); have n1_ := Aside0.mk (hb); have n2_ := Aside0.mk (hi); have n3_ := Aside0.mk (IsS74.ne_blk hi (blk_below (g := gb232) (o := .cells #[.int .i64 0, .slice none 0 0] 29 (0, 0)) (spec_DrawPostTo_vb BK232) hb2) (by decide)); have n4_ := Aside0.mk (Ne.symm (IsS74.ne_blk hi (blk_below (g := gb232) (o := .cells #[.int .i64 0, .slice none 0 0] 29 (0, 0)) (spec_DrawPostTo_vb BK232) hb2) (by decide))); clear BK232; clear HB; have BK232 := n0_; have HB := n1_; have HI235 := n2_; have NB235_232 := n3_; have NB232_235 := n4_; clear n0_ n1_ n2_ n3_ n4_; (try clear hb); (try clear hb2); (try clear hk); (try clear hi)) | ((with_reducible refine gate_callee (f := 41) rfl ?_); refine goesL_ (some 12) rfl rfl Try.func41 (by kernel_rfl) rfl #[.pointer (some ⟨g235, 0, none⟩)] rfl (by (try simp only [List.map_toArray, List.map_cons, List.map_nil]); first | done | rfl | (simp only [List.length_drop, List.length_take]; rfl)) ?_; (with_reducible refine (spec_l1Post.calls k g235 t233 t234 t236 t237 t240 w _ ?side1 ?side2 A3.out).mono ?_); (case side1 => exact spec_DrawPostTo_auHI235); (case side2 => exact spec_DrawPostTo_auHB); rintro e w50 ⟨v238, rfl, ho0, hi, hb, hk⟩; refine ⟨_, rfl, ?_⟩; have n0_ := Aside0.mk (KeepBut.blk hk (g' := gb232) (o := .cells #[.int .i64 0, .slice none 0 0] 29 (0, 0)) (spec_DrawPostTo_vb BK232) NB232_235.out (by simp)); have n1_ := Aside0.mk (Kd.R_lower ho0 (below_size (spec_DrawPostTo_auHB))); have n2_ := Aside0.mk (hb); have n3_ := Aside0.mk (hi); clear BK232; clear HB; clear HI235; have BK232 := n0_; have HO239 := n1_; have HB := n2_; have HI235 := n3_; clear n0_ n1_ n2_ n3_; (try clear hb); (try clear hb2); (try clear hk); (try clear hi); (try clear ho0); obtain ⟨Ao51, co51, eo51⟩ := Kd.R_slice HO239.out; subst eo51) | ((with_reducible refine gate_callee (f := 42) rfl ?_); refine goesL_ (some 13) rfl rfl Try.func42 (by kernel_rfl) rfl #[.pointer (some ⟨g235, 0, none⟩), .agg #[.int .i64 t236, .slice Ao51 t237.length co51]] rfl (by (try simp only [List.map_toArray, List.map_cons, List.map_nil]); first | done | rfl | (simp only [List.length_drop, List.length_take]; rfl)) ?_; (with_reducible refine (spec_l1Bent.calls k g235 t233 t240 t236 _ _ t237 t241 t242 t245 w _ ?side1 ?side2 ?side3 ?side4 A4.out).mono ?_); (case side1 => exact spec_DrawPostTo_auHI235); (case side2 => exact spec_DrawPostTo_auHB); (case side3 => exact Kd.C_foot_own (IsS74.apart (show IsS74 w _ g235 t233 t240 from spec_DrawPostTo_auHI235) (by (with_reducible repeat (first | apply Kd.R_alloc | apply Kd.R_drewN | apply Kd.R_drew)); exact HO239.out) (by decide)) (fun _ h_ => h_.2)); (case side4 => exact (Kd.R_reads' HO239.out).2.1); rintro e w52 ⟨v243, rfl, ho0, hi, hb, hk⟩; refine ⟨_, rfl, ?_⟩; have n0_ := Aside0.mk (KeepBut.blk hk (g' := gb232) (o := .cells #[.int .i64 0, .slice none 0 0] 29 (0, 0)) (spec_DrawPostTo_vb BK232) NB232_235.out (by simp)); have n1_ := Aside0.mk (Kd.R_mono (Kd.R_told (Kd.R_oldK (IsS74.apart (show IsS74 w _ g235 t233 t240 from spec_DrawPostTo_auHI235) (by (with_reducible repeat (first | apply Kd.R_alloc | apply Kd.R_drewN | apply Kd.R_drew)); exact HO239.out) (by decide)) hk) (Kd.R_base ho0)) (fun _ h_ => h_.1)); have n2_ := Aside0.mk (Kd.R_lower (Kd.R_new' ho0 (Kd.R_lt (by (with_reducible repeat (first | apply Kd.R_alloc | apply Kd.R_drewN | apply Kd.R_drew)); exact HO239.out))) (below_size (spec_DrawPostTo_auHB))); have n3_ := Aside0.mk (hb); have n4_ := Aside0.mk (hi); clear BK232; clear HO239; clear HB; clear HI235; have BK232 := n0_; have HO239 := n1_; have HO244 := n2_; have HB := n3_; have HI235 := n4_; clear n0_ n1_ n2_ n3_ n4_; (try clear hb); (try clear hb2); (try clear hk); (try clear hi); (try clear ho0)) | ((with_reducible refine gate_dst (N := 6) rfl ?_); refine box_event ?hg (N := 6) ?hd (cs := #[.int .i64 0, .slice none 0 0]) (t := 29) ?hr ?_; (case hd => rfl); (case hg => rfl); (case hr => first | (go_simp; done) | (go_simp; rfl)); intro gb246 hg w53 hbox hb; have n0_ := Aside0.mk (Kd.R_below (by (with_reducible repeat (first | apply Kd.R_alloc | apply Kd.R_drewN | apply Kd.R_drew)); exact HO239.out) hb); have n1_ := Aside0.mk (Kd.R_below (by (with_reducible repeat (first | apply Kd.R_alloc | apply Kd.R_drewN | apply Kd.R_drew)); exact HO244.out) hb); have n2_ := Aside0.mk (blk_below (g := gb232) (o := .cells #[.int .i64 0, .slice none 0 0] 29 (0, 0)) (spec_DrawPostTo_vb BK232) hb); have n3_ := Aside0.mk (IsS74.below (spec_DrawPostTo_auHI235) hb); have n4_ := Aside0.mk (below_step (spec_DrawPostTo_auHB) hb); have n5_ := Aside0.mk (hbox); have n6_ := Aside0.mk ((by rw [hg]; exact (below_size (spec_DrawPostTo_auHB)) : w.heap.size ≤ gb246)); have n7_ := Aside0.mk ((by rw [hg]; exact (below_size (spec_DrawPostTo_auHB)) : w.heap.size ≤ gb246)); have n8_ := Aside0.mk ((by rw [hg]; exact Nat.ne_of_lt (blk_lt (g := gb232) (o := .cells #[.int .i64 0, .slice none 0 0] 29 (0, 0)) (spec_DrawPostTo_vb BK232)) : gb232 ≠ gb246)); have n9_ := Aside0.mk ((by rw [hg]; exact Nat.ne_of_gt (blk_lt (g := gb232) (o := .cells #[.int .i64 0, .slice none 0 0] 29 (0, 0)) (spec_DrawPostTo_vb BK232)) : gb246 ≠ gb232)); have n10_ := Aside0.mk ((by rw [hg]; exact Nat.ne_of_lt (IsS74.lt (show IsS74 w _ g235 t233 t245 from spec_DrawPostTo_auHI235)) : g235 ≠ gb246)); have n11_ := Aside0.mk ((by rw [hg]; exact Nat.ne_of_gt (IsS74.lt (show IsS74 w _ g235 t233 t245 from spec_DrawPostTo_auHI235)) : gb246 ≠ g235)); clear HO239; clear HO244; clear BK232; clear HI235; clear HB; have HO239 := n0_; have HO244 := n1_; have BK232 := n2_; have HI235 := n3_; have HB := n4_; have BK246 := n5_; have GW246 := n6_; have GE246 := n7_; have NB232_246 := n8_; have NB246_232 := n9_; have NB235_246 := n10_; have NB246_235 := n11_; clear n0_ n1_ n2_ n3_ n4_ n5_ n6_ n7_ n8_ n9_ n10_ n11_; clear hb hbox hg; have hnb54 := NB246_232.out; have hnc54 := NB232_246.out; have hnb55 := NB246_235.out; have hnc55 := NB235_246.out; have hcz56_0 : w53.cell? ⟨gb246, 0, none⟩ = some (.int .i64 0) := (blk_cell BK246.out 0).trans rfl; have hcz56_1 : w53.cell? ⟨gb246, 1, none⟩ = some (.slice none 0 0) := (blk_cell BK246.out 1).trans rfl; have hfz56_0 := blk_frozen BK246.out 0; have hfz56_1 := blk_frozen BK246.out 1; obtain ⟨Ao57, co57, eo57⟩ := Kd.R_slice HO244.out; subst eo57) | ((with_reducible refine gate_callee (f := 45) rfl ?_); refine goesL_ (some 15) rfl rfl Try.func45 (by kernel_rfl) rfl #[.pointer (some ⟨g235, 0, none⟩)] rfl (by (try simp only [List.map_toArray, List.map_cons, List.map_nil]); first | done | rfl | (simp only [List.length_drop, List.length_take]; rfl)) ?_; (with_reducible refine (spec_l1Acct.calls k g235 t233 t245 t247 t248 w _ ?side1 ?side2 A5.out).mono ?_); (case side1 => exact spec_DrawPostTo_auHI235); (case side2 => exact spec_DrawPostTo_auHB); rintro e w58 ⟨rfl, hi, hb, hk⟩; refine ⟨_, rfl, ?_⟩; have n0_ := Aside0.mk (KeepBut.blk hk (g' := gb232) (o := .cells #[.int .i64 0, .slice none 0 0] 29 (0, 0)) (by (with_reducible repeat (first | refine blk_drewN ?_ _ | refine blk_drew ?_ | refine blk_alloc ?_ _)); refine blk_far ?_ NB232_246.out _; (with_reducible repeat (first | refine blk_drewN ?_ _ | refine blk_drew ?_ | refine blk_alloc ?_ _)); refine blk_far ?_ NB232_246.out _; (with_reducible repeat (first | refine blk_drewN ?_ _ | refine blk_drew ?_ | refine blk_alloc ?_ _)); exact BK232.out) NB232_235.out (by simp)); have n1_ := Aside0.mk (Kd.R_mono (Kd.R_keep (IsS74.apart (show IsS74 w _ g235 t233 t245 from spec_DrawPostTo_auHI235) (by (with_reducible repeat (first | apply Kd.R_alloc | apply Kd.R_drewN | apply Kd.R_drew)); exact (Kd.R_mono (Kd.R_far (p := ⟨gb246, 1, none⟩) (Kd.R_far (p := ⟨gb246, 0, none⟩) (Kd.R_types HO239.out BK246.out (by decide)) (fun _ hk => hk.2) (.int .i64 t241)) (fun _ hk => hk.2) (.slice Ao57 t242.length co57)) (fun _ h_ => h_.1))) (by decide)) hk (fun _ h => h.2)) (fun _ h => h.1)); have n2_ := Aside0.mk (Kd.R_mono (Kd.R_keep (IsS74.apart (show IsS74 w _ g235 t233 t245 from spec_DrawPostTo_auHI235) (by (with_reducible repeat (first | apply Kd.R_alloc | apply Kd.R_drewN | apply Kd.R_drew)); exact (Kd.R_mono (Kd.R_far (p := ⟨gb246, 1, none⟩) (Kd.R_far (p := ⟨gb246, 0, none⟩) (Kd.R_types HO244.out BK246.out (by decide)) (fun _ hk => hk.2) (.int .i64 t241)) (fun _ hk => hk.2) (.slice Ao57 t242.length co57)) (fun _ h_ => h_.1))) (by decide)) hk (fun _ h => h.2)) (fun _ h => h.1)); have n3_ := Aside0.mk (KeepBut.blk hk (g' := gb246) (o := .cells #[.int .i64 t241, .slice Ao57 t242.length co57] 29 (0, 0)) (by (with_reducible repeat (first | refine blk_drewN ?_ _ | refine blk_drew ?_ | refine blk_alloc ?_ _)); refine blk_put (cs := #[.int .i64 t241, .slice none 0 0]) ?_ 1 _ rfl; (with_reducible repeat (first | refine blk_drewN ?_ _ | refine blk_drew ?_ | refine blk_alloc ?_ _)); refine blk_put (cs := #[.int .i64 0, .slice none 0 0]) ?_ 0 _ rfl; (with_reducible repeat (first | refine blk_drewN ?_ _ | refine blk_drew ?_ | refine blk_alloc ?_ _)); exact BK246.out) NB246_235.out (by simp)); have n4_ := Aside0.mk (hb); have n5_ := Aside0.mk (hi); clear BK232; clear HO239; clear HO244; clear BK246; clear HB; clear HI235; have BK232 := n0_; have HO239 := n1_; have HO244 := n2_; have BK246 := n3_; have HB := n4_; have HI235 := n5_; clear n0_ n1_ n2_ n3_ n4_ n5_; (try clear hb); (try clear hb2); (try clear hk); (try clear hi); have hcz59_0 : w58.cell? ⟨gb246, 0, none⟩ = some (.int .i64 t241) := (blk_cell BK246.out 0).trans rfl; have hcz59_1 : w58.cell? ⟨gb246, 1, none⟩ = some (.slice Ao57 t242.length co57) := (blk_cell BK246.out 1).trans rfl; have hfz59_0 := blk_frozen BK246.out 0; have hfz59_1 := blk_frozen BK246.out 1))
  have n0_ := Aside0.mk (Kd.R_drew HO239.out)
  have n1_ := Aside0.mk (Kd.R_drew HO244.out)
  have n2_ := Aside0.mk (blk_drew BK232.out)
  have n3_ := Aside0.mk (blk_drew BK246.out)
  have n4_ := Aside0.mk (IsS74.drew HI235.out)
  have n5_ := Aside0.mk (below_drew1 HB.out)
  clear HO239
  clear HO244
  clear BK232
  clear BK246
  clear HI235
  clear HB
  have HO239 := n0_
  have HO244 := n1_
  have BK232 := n2_
  have BK246 := n3_
  have HI235 := n4_
  have HB := n5_
  clear n0_ n1_ n2_ n3_ n4_ n5_
  refine start_ (n := 8) (S := fun w' => w'.cell? ⟨gb246, 0, none⟩ = some (.int .i64 t241) ∧ w'.cell? ⟨gb246, 1, none⟩ = some (.slice Ao57 t242.length co57)) (ds := []) #[false, false, false, false, false, false, false, false] (by kernel_rfl) rfl rfl ⟨(blk_cell BK246.out 0).trans rfl, (blk_cell BK246.out 1).trans rfl⟩ (fun hHeld => ?_); refine with_tabW spec_DrawPostTo.tab6 spec_DrawPostTo.bits6 (fun HT_ HW_ => ?_)
  generalize w58.drew = w60 at HO239 HO244 BK232 BK246 HI235 HB hHeld ⊢
  refine pure_ (i := 1) (N := some 37) (v := ?_) (a' := ?_) #[false, true, false, false, false, false, false, false] rfl rfl (any_of HT_.out (by kernel_rfl)) (fun _ _ _ h => h) (Or.inl ⟨by rfl, ?_⟩) ?_ ?_
  rotate_left
  ·
   intro w'
   go_simp
   with_reducible rfl
  rotate_left
  ·
   simp only [Act.put, List.setIfInBounds_toArray, List.set_cons_zero, List.set_cons_succ, i64_w, i32_w]
   rfl
  refine pure_ (i := 2) (N := some 38) (v := ?_) (a' := ?_) #[false, true, true, false, false, false, false, false] rfl rfl (any_of HT_.out (by kernel_rfl)) (fun _ _ _ h => h) (Or.inl ⟨by rfl, ?_⟩) ?_ ?_
  rotate_left
  ·
   intro w'
   go_simp
   with_reducible rfl
  rotate_left
  ·
   simp only [Act.put, List.setIfInBounds_toArray, List.set_cons_zero, List.set_cons_succ, i64_w, i32_w]
   rfl
  refine take_ (i := 0) (N := some 36) (v := ?_) (a' := ?_) #[true, true, true, false, false, false, false, false] rfl rfl (take_ofW HT_.out HW_.out (by kernel_rfl)) (fun _ _ _ h => h) (Or.inl ⟨by rfl, ?_⟩) hHeld ?_ ?_
  rotate_left
  ·
   rintro w' ⟨s0, s1⟩
   go_simp
   with_reducible rfl
  rotate_left
  ·
   simp only [Act.put, List.setIfInBounds_toArray, List.set_cons_zero, List.set_cons_succ, i64_w, i32_w]
   rfl
  refine one_ (i := 3) (N := some 39) #[true, true, true, true, false, false, false, false] rfl rfl (one_of HT_.out (by kernel_rfl)) (by decide) (fun K hK => ?_)
  refine Kd.R_lit_step (Kd.int .i64) _ 3 ?hg (N := 39) ?hd (xs := ([1, 2, 3, 0, 4] : List Int)) (inner := [.int .i64 1, .int .i64 2, .int .i64 3, .int .i64 0, .int .i64 4]) (ok := fun _ => True) (okp := fun _ => True) ?hr ?hp (fun _ hk => hk) trivial (Below.refl _ _) (Nat.le_refl _) (by simp) ?_; (case hd => rfl); (case hg => rfl); (case hr => first | (go_simp; done) | (go_simp; rfl)); (case hp => exact (Reps.one (show Kd.M (Kd.int .i64) _ _ _ 1 [.int .i64 1] from rfl) (Reps.one (show Kd.M (Kd.int .i64) _ _ _ 2 [.int .i64 2] from rfl) (Reps.one (show Kd.M (Kd.int .i64) _ _ _ 3 [.int .i64 3] from rfl) (Reps.one (show Kd.M (Kd.int .i64) _ _ _ 0 [.int .i64 0] from rfl) (Reps.one (show Kd.M (Kd.int .i64) _ _ _ 4 [.int .i64 4] from rfl) (Reps.none _ _)))))))
  intro v259 w61 ho62 hb hg_ hnew_
  clear hg_ hnew_
  (first | rw [← Ny258.out] at ho62 | (simp only [Int.reduceToNat] at ho62; rw [← Ny258.out] at ho62))
  have n0_ := Aside0.mk (Kd.R_below (by (with_reducible repeat (first | apply Kd.R_alloc | apply Kd.R_drewN | apply Kd.R_drew)); exact HO239.out) hb)
  have n1_ := Aside0.mk (Kd.R_below (by (with_reducible repeat (first | apply Kd.R_alloc | apply Kd.R_drewN | apply Kd.R_drew)); exact HO244.out) hb)
  have n2_ := Aside0.mk (Kd.R_lower ho62 (below_size (spec_DrawPostTo_auHB)))
  have n3_ := Aside0.mk (blk_below (g := gb232) (o := .cells #[.int .i64 0, .slice none 0 0] 29 (0, 0)) (spec_DrawPostTo_vb BK232) hb)
  have n4_ := Aside0.mk (IsS74.below (spec_DrawPostTo_auHI235) hb)
  have n5_ := Aside0.mk (blk_below (g := gb246) (o := .cells #[.int .i64 t241, .slice Ao57 t242.length co57] 29 (0, 0)) (spec_DrawPostTo_vb BK246) hb)
  have n6_ := Aside0.mk (below_step (spec_DrawPostTo_auHB) hb)
  clear HO239
  clear HO244
  clear BK232
  clear HI235
  clear BK246
  clear HB
  have HO239 := n0_
  have HO244 := n1_
  have HO260 := n2_
  have BK232 := n3_
  have HI235 := n4_
  have BK246 := n5_
  have HB := n6_
  clear n0_ n1_ n2_ n3_ n4_ n5_ n6_
  clear hb ho62
  obtain ⟨Ao63, co63, eo63⟩ := Kd.R_slice HO260.out
  (first | subst eo63 | (injection eo63 with f1_ f2_ f3_; have f4_ := f1_.symm; have f5_ := f3_.symm; clear f1_ f2_ f3_; subst f4_; subst f5_))
  refine hK.out _ _ ⟨(blk_cell BK246.out 0).trans rfl, (blk_cell BK246.out 1).trans rfl⟩ (fun hHeld => ?_)
  clear hK K
  refine norm_ (a' := ?_) ?_ ?_
  rotate_left
  ·
   show Act.put _ (some 39) _ = _
   simp only [Act.put, List.setIfInBounds_toArray, List.set_cons_zero, List.set_cons_succ, i64_w, i32_w]
   rfl
  refine one_ (i := 4) (N := some 40) #[true, true, true, true, true, false, false, false] rfl rfl (one_of HT_.out (by kernel_rfl)) (by decide) (fun K hK => ?_)
  refine goes_ Try.func46 (by kernel_rfl) rfl #[.pointer (some ⟨g235, 0, none⟩), .slice Ao63 y258.length co63] (by rfl) rfl rfl (by (try simp only [List.map_toArray, List.map_cons, List.map_nil]); first | done | rfl | (simp only [List.length_drop, List.length_take]; rfl)) ?_
  with_reducible refine (spec_l9Rd_num.calls k g235 t233 t248 _ _ y258 t261 t262 w _ ?side1 ?side2 ?side3 ?side4 ?side5 A47.out).mono ?_
  (case side1 => exact spec_DrawPostTo_auHI235)
  (case side2 => exact spec_DrawPostTo_auHB)
  (case side3 => repeat (first | exact (Kd.R_reads' HO260.out).2.2 | (with_reducible refine Kd.C_alloc ?_ _) | (with_reducible refine Kd.C_drewN ?_ _) | (with_reducible refine Kd.C_drew ?_)))
  (case side4 => exact (Kd.R_reads' HO260.out).2.1)
  (case side5 => exact far_slice (IsS74.own_ne HI235.out HO260.out (by decide)))
  rintro e w64 ⟨rfl, hi, hb, hk⟩
  refine ⟨_, rfl, ?_⟩
  have n0_ := Aside0.mk (KeepBut.blk hk (g' := gb232) (o := .cells #[.int .i64 0, .slice none 0 0] 29 (0, 0)) (spec_DrawPostTo_vb BK232) NB232_235.out (by simp))
  have n1_ := Aside0.mk (Kd.R_mono (Kd.R_keep (IsS74.apart (show IsS74 w _ g235 t233 t248 from spec_DrawPostTo_auHI235) (by (with_reducible repeat (first | apply Kd.R_alloc | apply Kd.R_drewN | apply Kd.R_drew)); exact HO239.out) (by decide)) hk (fun _ h => h.2)) (fun _ h => h.1))
  have n2_ := Aside0.mk (Kd.R_mono (Kd.R_keep (IsS74.apart (show IsS74 w _ g235 t233 t248 from spec_DrawPostTo_auHI235) (by (with_reducible repeat (first | apply Kd.R_alloc | apply Kd.R_drewN | apply Kd.R_drew)); exact HO244.out) (by decide)) hk (fun _ h => h.2)) (fun _ h => h.1))
  have n3_ := Aside0.mk (KeepBut.blk hk (g' := gb246) (o := .cells #[.int .i64 t241, .slice Ao57 t242.length co57] 29 (0, 0)) (spec_DrawPostTo_vb BK246) NB246_235.out (by simp))
  have n4_ := Aside0.mk (Kd.R_mono (Kd.R_keep (IsS74.apart (show IsS74 w _ g235 t233 t248 from spec_DrawPostTo_auHI235) (by (with_reducible repeat (first | apply Kd.R_alloc | apply Kd.R_drewN | apply Kd.R_drew)); exact HO260.out) (by decide)) hk (fun _ h => h.2)) (fun _ h => h.1))
  have n5_ := Aside0.mk (hb)
  have n6_ := Aside0.mk (hi)
  clear BK232
  clear HO239
  clear HO244
  clear BK246
  clear HO260
  clear HB
  clear HI235
  have BK232 := n0_
  have HO239 := n1_
  have HO244 := n2_
  have BK246 := n3_
  have HO260 := n4_
  have HB := n5_
  have HI235 := n6_
  clear n0_ n1_ n2_ n3_ n4_ n5_ n6_
  (try clear hb)
  (try clear hb2)
  (try clear hk)
  (try clear hi)
  refine hK.out _ _ ⟨(blk_cell BK246.out 0).trans rfl, (blk_cell BK246.out 1).trans rfl⟩ (fun hHeld => ?_)
  clear hK K
  refine norm_ (a' := ?_) ?_ ?_
  rotate_left
  ·
   show Act.put _ (some 40) _ = _
   simp only [Act.put, List.setIfInBounds_toArray, List.set_cons_zero, List.set_cons_succ, i64_w, i32_w]
   rfl
  refine one_ (i := 5) (N := none) #[true, true, true, true, true, true, false, false] rfl rfl (one_of HT_.out (by kernel_rfl)) (by decide) (fun K hK => ?_)
  have hs65 : w64.cell? ⟨gb232, 0, none⟩ = some (.int .i64 0) := (blk_cell BK232.out 0).trans rfl
  have hfs65 := blk_frozen BK232.out 0
  have hns65_1 := NB246_232.out
  have hms65_1 := NB232_246.out
  have hs66 : w64.cell? ⟨gb232, 1, none⟩ = some (.slice none 0 0) := (blk_cell BK232.out 1).trans rfl
  have hfs66 := blk_frozen BK232.out 1
  have hns66_1 := NB246_232.out
  have hms66_1 := NB232_246.out
  refine skip_ (w1 := ?_) (by rfl) rfl ?_ ?_
  rotate_left
  ·
   go_simp
   rfl
  refine hK.out _ _ ⟨((cell_far (p := ⟨gb232, _, none⟩) NB246_232.out _).trans (((cell_far (p := ⟨gb232, _, none⟩) NB246_232.out _).trans (hHeld.1)))), ((cell_far (p := ⟨gb232, _, none⟩) NB246_232.out _).trans (((cell_far (p := ⟨gb232, _, none⟩) NB246_232.out _).trans (hHeld.2))))⟩ (fun hHeld => ?_)
  clear hK K
  refine pure_ (i := 6) (N := some 3) (v := ?_) (a' := ?_) #[true, true, true, true, true, true, true, false] rfl rfl (any_of HT_.out (by kernel_rfl)) (fun _ _ _ h => h) (Or.inl ⟨by rfl, ?_⟩) ?_ ?_
  rotate_left
  ·
   intro w'
   go_simp
   with_reducible rfl
  rotate_left
  ·
   simp only [Act.put, List.setIfInBounds_toArray, List.set_cons_zero, List.set_cons_succ, i64_w, i32_w]
   rfl
  refine pure_ (i := 7) (N := some 4) (v := ?_) (a' := ?_) #[true, true, true, true, true, true, true, true] rfl rfl (any_of HT_.out (by kernel_rfl)) (fun _ _ _ h => h) (Or.inl ⟨by rfl, ?_⟩) ?_ ?_
  rotate_left
  ·
   intro w'
   go_simp
   with_reducible rfl
  rotate_left
  ·
   simp only [Act.put, List.setIfInBounds_toArray, List.set_cons_zero, List.set_cons_succ, i64_w, i32_w]
   rfl
  refine done_ (done_of HT_.out (by kernel_rfl)) ?_
  try go_wp2
  refine bodyPost_ret (results_ctt rfl _ _ gb232 29 #[.int .i64 t241, .slice Ao57 t242.length co57] (0, 0) _ rfl (by (with_reducible repeat (first | refine blk_drewN ?_ _ | refine blk_drew ?_ | refine blk_alloc ?_ _)); refine blk_put (cs := #[.int .i64 t241, .slice none 0 0]) ?_ 1 _ rfl; (with_reducible repeat (first | refine blk_drewN ?_ _ | refine blk_drew ?_ | refine blk_alloc ?_ _)); refine blk_put (cs := #[.int .i64 0, .slice none 0 0]) ?_ 0 _ rfl; (with_reducible repeat (first | refine blk_drewN ?_ _ | refine blk_drew ?_ | refine blk_alloc ?_ _)); exact BK232.out) Try.underlying29 rfl (by kernel_rfl)) rfl ?_
  exact ⟨_, by first | rfl | (simp [errW_none, errW_some] <;> rfl) | (simp [*, errW_none, errW_some] <;> rfl), by (with_reducible repeat (first | apply Kd.R_alloc | apply Kd.R_drewN | apply Kd.R_drew)); exact Kd.R_mono (Kd.R_far (p := ⟨gb232, 1, none⟩) (Kd.R_far (p := ⟨gb232, 0, none⟩) (Kd.R_types HO244.out BK232.out (by decide)) (fun _ hk => hk.2) (.int .i64 t241)) (fun _ hk => hk.2) (.slice Ao57 t242.length co57)) (fun _ hk => trivial), spec_DrawPostTo_auHB⟩

end Go.Proofs.Ytogggmipcldkaaa.QFnPostTo
