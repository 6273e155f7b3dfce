/- What the law FnPostJoin reaches, function by function: what each computes, and that the machine's call comes to it. Laid by a program. -/
import Derived.Test.YtemnggadcgmmkaaQFnPostJoinx0
import Derived.Test.YtemnggadcgmmkaaQFnPostJoinx1
import Derived.Test.YtemnggadcgmmkaaQFnPostJoinx2
import Derived.Test.YtemnggadcgmmkaaQFnPostJoinx3
namespace Go.Proofs.Ytemnggadcgmmkaa.QFnPostJoin
open Go.RowKit Go.Proofs.YtemnggadcgmmkaaW.PrintWords Go.Proofs.YtemnggadcgmmkaaW.PrintLast Go.Proofs.YtemnggadcgmmkaaW.PrintMore
attribute [local go_sem] max2_int min2_int max_two min_two max_three min_three max_four min_four   -- for this text's walks alone
set_option linter.unusedVariables false
set_option linter.unusedSimpArgs false

/-! ### spec_DrawPostTo: function 15 -/
def spec_DrawPostTo.f (k : Nat) (l0 : List Int) : Option (Int × (List (S29)) × ByteArray × Int) := (spec_l9Open.f l0).bind fun bt211 => ((spec_l1Post.f k bt211.1 bt211.2).bind fun bt214 => ((spec_l1Bent.f k bt211.1 bt214.2.2 bt214.1 bt214.2.1).bind fun bt219 => ((spec_l1Acct.f k bt211.1 bt219.2.2).bind fun bt225 => (if (bt219.2.1.length : Int) > 0 then ((spec_l9Rd_pick.f k bt211.1 bt225.2 3).bind fun bt227 => (if bt227.1 > 0 then (if 0 < (bt219.2.1.length : Int) then (some (bt219.1, bt219.2.1, (rd_T29 bt219.2.1 0).f0, (rd_T29 bt219.2.1 0).f1)) else (none)) else ((spec_l9Rd_num.f k bt211.1 bt227.2 (([1, 2, 3, 0, 4] : List Int))).bind fun bt234 => (some (bt219.1, bt219.2.1, bt225.1, bt234.1))))) else ((spec_l9Rd_num.f k bt211.1 bt225.2 (([1, 2, 3, 0, 4] : List Int))).bind fun bt239 => (some (bt219.1, bt219.2.1, bt225.1, bt239.1)))))))
theorem spec_DrawPostTo.mono : ∀ a0 k, LeO (spec_DrawPostTo.f k a0) (spec_DrawPostTo.f (k + 1) a0) := by
  intro a0 k
  unfold spec_DrawPostTo.f
  repeat' first
      | (with_reducible exact spec_l1Acct.mono _ _ _)
      | (with_reducible exact spec_l1Bent.mono _ _ _ _ _)
      | (with_reducible exact spec_l1Post.mono _ _ _)
      | (with_reducible exact spec_l9Rd_num.mono _ _ _ _)
      | (with_reducible exact spec_l9Rd_pick.mono _ _ _ _)
      | (with_reducible exact LeO.refl _)
      | (with_reducible exact LeO.none _)
      | (with_reducible refine LeO.ite ?_ ?_)
      | (with_reducible refine LeO.bind ?_ (fun _ => ?_))
      | exact spec_l1Acct.mono _ _ _
      | exact spec_l1Bent.mono _ _ _ _ _
      | exact spec_l1Post.mono _ _ _
      | exact spec_l9Rd_num.mono _ _ _ _
      | exact spec_l9Rd_pick.mono _ _ _ _
      | exact LeO.none _
      | refine LeO.ite ?_ ?_
      | refine LeO.bind ?_ (fun _ => ?_)
def spec_DrawPostTo.T5 : Bool × List (List Nat × List Nat) := (true, [([], []), ([], []), ([1], [1]), ([2], [2]), ([3], [3]), ([4], [4]), ([], []), ([6], [6]), ([7], [7]), ([8], [8]), ([9], [9]), ([0, 0], [0]), ([5, 11, 0, 1, 2, 3, 4, 5, 11], [5]), ([10, 12, 0, 1, 2, 3, 4, 5, 6, 7, 8, 9, 10, 11, 12], [10])])
def spec_DrawPostTo.B5 : List Nat := [0, 0, 2, 6, 14, 30, 0, 64, 192, 448, 960, 1, 2111, 8191]
theorem spec_DrawPostTo.tab5 : rtab .any (opsOf Try.f15 5) = spec_DrawPostTo.T5 := by kernel_rfl
theorem spec_DrawPostTo.bits5 : waitsOk spec_DrawPostTo.T5.2 spec_DrawPostTo.B5 = true := by kernel_rfl
def spec_DrawPostTo.T6 : Bool × List (List Nat × List Nat) := (true, [([], []), ([], []), ([], []), ([], []), ([2, 3], [2, 3]), ([0, 4, 0], [0]), ([1, 5, 0, 1, 5], [1]), ([4, 6, 0, 1, 2, 3, 4, 5, 6], [4])])
def spec_DrawPostTo.B6 : List Nat := [0, 0, 0, 0, 12, 29, 63, 127]
theorem spec_DrawPostTo.tab6 : rtab .any (opsOf Try.f15 6) = spec_DrawPostTo.T6 := by kernel_rfl
theorem spec_DrawPostTo.bits6 : waitsOk spec_DrawPostTo.T6.2 spec_DrawPostTo.B6 = true := by kernel_rfl
theorem spec_DrawPostTo_vb {p q : Prop} (h : Aside0 p) (k : p → q := by (intro hz; (with_reducible repeat (first | refine blk_drewN ?_ _ | refine blk_drew ?_ | refine blk_alloc ?_ _)); exact hz)) : q := k h.out
theorem spec_DrawPostTo_auHB {q : Prop} (h : q := by (repeat (first | (with_reducible first | exact HB.out | apply below_alloc | apply pw_below_drewN | apply below_drew1 | refine below_set ?_ GE210.out | refine below_set ?_ (IsS58.ge HI213.out) | refine below_set ?_ GE224.out) | exact HB.out))) : q := h
theorem spec_DrawPostTo_auHI213 {q : Prop} (h : q := by (repeat (first | (with_reducible first | exact HI213.out | apply IsS58.alloc | apply IsS58.drewN | apply IsS58.drew | apply IsS58.set_1 | refine IsS58.far ?_ NB213_210.out _ | refine IsS58.far ?_ NB213_224.out _) | exact HI213.out))) : q := h
set_option maxHeartbeats 8000000 in
set_option maxRecDepth 100000 in
theorem spec_DrawPostTo.calls (k : Nat) (A0 : Option Addr) (c0 : Nat) (l0 : List Int) (r1 : Int) (r2 : List (S29)) (r3 : ByteArray) (r4 : Int) (w : World) (hr0 : Kd.C (Kd.int .u8) w A0 l0.length l0) (hc0 : l0.length ≤ c0) (h : spec_DrawPostTo.f k l0 = some (r1, r2, r3, r4)) :
  Calls Try.prog 15 #[.slice A0 l0.length c0] w fun e w' => ∃ v1_ : Value, e = .returned (.tuple #[.agg #[.int .i64 r1, v1_], .string r3, .int .i64 r4]) ∧ Kd.R k29 29 w' w.heap.size (fun _ => True) v1_ r2 ∧ Below w.heap.size w w' := by
 have hu25 := Try.underlying25
 have HR0 := Aside0.mk hr0
 have HC0 := Aside0.mk hc0
 clear hr0 hc0
 have HB := Aside0.mk (Below.refl w.heap.size w)
 have H : ((spec_l9Open.f l0).bind fun bt211 => ((spec_l1Post.f k bt211.1 bt211.2).bind fun bt214 => ((spec_l1Bent.f k bt211.1 bt214.2.2 bt214.1 bt214.2.1).bind fun bt219 => ((spec_l1Acct.f k bt211.1 bt219.2.2).bind fun bt225 => (if (bt219.2.1.length : Int) > 0 then ((spec_l9Rd_pick.f k bt211.1 bt225.2 3).bind fun bt227 => (if bt227.1 > 0 then (if 0 < (bt219.2.1.length : Int) then (some (bt219.1, bt219.2.1, (rd_T29 bt219.2.1 0).f0, (rd_T29 bt219.2.1 0).f1)) else (none)) else ((spec_l9Rd_num.f k bt211.1 bt227.2 (([1, 2, 3, 0, 4] : List Int))).bind fun bt234 => (some (bt219.1, bt219.2.1, bt225.1, bt234.1))))) else ((spec_l9Rd_num.f k bt211.1 bt225.2 (([1, 2, 3, 0, 4] : List Int))).bind fun bt239 => (some (bt219.1, bt219.2.1, bt225.1, bt239.1)))))))) = some (r1, r2, r3, r4) := h
 clear h
 replace H := Option.bind_eq_some_iff.mp H
 obtain ⟨⟨t211, t212⟩, A20, H⟩ := H
 replace H : ((spec_l1Post.f k t211 t212).bind fun bt214 => ((spec_l1Bent.f k t211 bt214.2.2 bt214.1 bt214.2.1).bind fun bt219 => ((spec_l1Acct.f k t211 bt219.2.2).bind fun bt225 => (if (bt219.2.1.length : Int) > 0 then ((spec_l9Rd_pick.f k t211 bt225.2 3).bind fun bt227 => (if bt227.1 > 0 then (if 0 < (bt219.2.1.length : Int) then (some (bt219.1, bt219.2.1, (rd_T29 bt219.2.1 0).f0, (rd_T29 bt219.2.1 0).f1)) else (none)) else ((spec_l9Rd_num.f k t211 bt227.2 (([1, 2, 3, 0, 4] : List Int))).bind fun bt234 => (some (bt219.1, bt219.2.1, bt225.1, bt234.1))))) else ((spec_l9Rd_num.f k t211 bt225.2 (([1, 2, 3, 0, 4] : List Int))).bind fun bt239 => (some (bt219.1, bt219.2.1, bt225.1, bt239.1))))))) = some (r1, r2, r3, r4) := H
 have A2 := Aside0.mk A20
 clear A20
 replace H := Option.bind_eq_some_iff.mp H
 obtain ⟨⟨t214, t215, t218⟩, A30, H⟩ := H
 replace H : ((spec_l1Bent.f k t211 t218 t214 t215).bind fun bt219 => ((spec_l1Acct.f k t211 bt219.2.2).bind fun bt225 => (if (bt219.2.1.length : Int) > 0 then ((spec_l9Rd_pick.f k t211 bt225.2 3).bind fun bt227 => (if bt227.1 > 0 then (if 0 < (bt219.2.1.length : Int) then (some (bt219.1, bt219.2.1, (rd_T29 bt219.2.1 0).f0, (rd_T29 bt219.2.1 0).f1)) else (none)) else ((spec_l9Rd_num.f k t211 bt227.2 (([1, 2, 3, 0, 4] : List Int))).bind fun bt234 => (some (bt219.1, bt219.2.1, bt225.1, bt234.1))))) else ((spec_l9Rd_num.f k t211 bt225.2 (([1, 2, 3, 0, 4] : List Int))).bind fun bt239 => (some (bt219.1, bt219.2.1, bt225.1, bt239.1)))))) = some (r1, r2, r3, r4) := H
 have A3 := Aside0.mk A30
 clear A30
 replace H := Option.bind_eq_some_iff.mp H
 obtain ⟨⟨t219, t220, t223⟩, A40, H⟩ := H
 replace H : ((spec_l1Acct.f k t211 t223).bind fun bt225 => (if (t220.length : Int) > 0 then ((spec_l9Rd_pick.f k t211 bt225.2 3).bind fun bt227 => (if bt227.1 > 0 then (if 0 < (t220.length : Int) then (some (t219, t220, (rd_T29 t220 0).f0, (rd_T29 t220 0).f1)) else (none)) else ((spec_l9Rd_num.f k t211 bt227.2 (([1, 2, 3, 0, 4] : List Int))).bind fun bt234 => (some (t219, t220, bt225.1, bt234.1))))) else ((spec_l9Rd_num.f k t211 bt225.2 (([1, 2, 3, 0, 4] : List Int))).bind fun bt239 => (some (t219, t220, bt225.1, bt239.1))))) = some (r1, r2, r3, r4) := H
 have A4 := Aside0.mk A40
 clear A40
 replace H := Option.bind_eq_some_iff.mp H
 obtain ⟨⟨t225, t226⟩, A50, H⟩ := H
 replace H : (if (t220.length : Int) > 0 then ((spec_l9Rd_pick.f k t211 t226 3).bind fun bt227 => (if bt227.1 > 0 then (if 0 < (t220.length : Int) then (some (t219, t220, (rd_T29 t220 0).f0, (rd_T29 t220 0).f1)) else (none)) else ((spec_l9Rd_num.f k t211 bt227.2 (([1, 2, 3, 0, 4] : List Int))).bind fun bt234 => (some (t219, t220, t225, bt234.1))))) else ((spec_l9Rd_num.f k t211 t226 (([1, 2, 3, 0, 4] : List Int))).bind fun bt239 => (some (t219, t220, t225, bt239.1)))) = some (r1, r2, r3, r4) := H
 have A5 := Aside0.mk A50
 clear A50
 by_cases c6 : (t220.length : Int) > 0
 ·
  rw [if_pos c6] at H
  have c6b0 : decide (0 < (t220.length : Int)) = true := decide_eq_true c6
  have c6b1 : decide (0 < t220.length) = true := decide_eq_true (by omega)
  clear c6
  replace H := Option.bind_eq_some_iff.mp H
  obtain ⟨⟨t227, t228⟩, A70, H⟩ := H
  replace H : (if t227 > 0 then (if 0 < (t220.length : Int) then (some (t219, t220, (rd_T29 t220 0).f0, (rd_T29 t220 0).f1)) else (none)) else ((spec_l9Rd_num.f k t211 t228 (([1, 2, 3, 0, 4] : List Int))).bind fun bt234 => (some (t219, t220, t225, bt234.1)))) = some (r1, r2, r3, r4) := H
  have A7 := Aside0.mk A70
  clear A70
  by_cases c8 : t227 > 0
  ·
   rw [if_pos c8] at H
   have c8b0 : decide (0 < t227) = true := decide_eq_true c8
   clear c8
   by_cases c9 : 0 < (t220.length : Int)
   ·
    rw [if_pos c9] at H
    have c9b0 : decide (0 < (t220.length : Int)) = true := decide_eq_true c9
    have c9b1 : decide (0 < t220.length) = true := decide_eq_true (by omega)
    clear c9
    simp only [Option.some.injEq, Prod.mk.injEq] at H
    obtain ⟨rfl, rfl, rfl, rfl⟩ := H
    go_enter Try.func15, Try.ntmps15
    try go_wp2_with (first | ((with_reducible refine gate_dst (N := 2) rfl ?_); refine box_event ?hg (N := 2) ?hd (cs := #[.int .i64 0, .slice none 0 0]) (t := 25) ?hr ?_; (case hd => rfl); (case hg => rfl); (case hr => first | (go_simp; done) | (go_simp; rfl)); intro gb210 hg w10 hbox hb; have n0_ := Aside0.mk (below_step (spec_DrawPostTo_auHB) hb); have n1_ := Aside0.mk (hbox); have n2_ := Aside0.mk ((by rw [hg]; exact (below_size (spec_DrawPostTo_auHB)) : w.heap.size ≤ gb210)); have n3_ := Aside0.mk ((by rw [hg]; exact (below_size (spec_DrawPostTo_auHB)) : w.heap.size ≤ gb210)); clear HB; have HB := n0_; have BK210 := n1_; have GW210 := n2_; have GE210 := n3_; clear n0_ n1_ n2_ n3_; clear hb hbox hg) | ((with_reducible refine gate_callee (f := 21) rfl ?_); refine goesL_ (some 9) rfl rfl Try.func21 (by kernel_rfl) rfl #[.slice A0 l0.length c0] rfl (by (try simp only [List.map_toArray, List.map_cons, List.map_nil]); first | done | rfl | (simp only [List.length_drop, List.length_take]; rfl)) ?_; (with_reducible refine (spec_l9Open.calls _ _ l0 t211 t212 w _ ?side1 ?side2 ?side3 A2.out).mono ?_); (case side1 => exact spec_DrawPostTo_auHB); (case side2 => exact HR0.out); (case side3 => exact HC0.out); rintro e w11 ⟨g213, rfl, hi, hb, hb2⟩; refine ⟨_, rfl, ?_⟩; have n0_ := Aside0.mk (blk_below (g := gb210) (o := .cells #[.int .i64 0, .slice none 0 0] 25 (0, 0)) (spec_DrawPostTo_vb BK210) hb2); have n1_ := Aside0.mk (hb); have n2_ := Aside0.mk (hi); have n3_ := Aside0.mk (IsS58.ne_blk hi (blk_below (g := gb210) (o := .cells #[.int .i64 0, .slice none 0 0] 25 (0, 0)) (spec_DrawPostTo_vb BK210) hb2) (by decide)); have n4_ := Aside0.mk (Ne.symm (IsS58.ne_blk hi (blk_below (g := gb210) (o := .cells #[.int .i64 0, .slice none 0 0] 25 (0, 0)) (spec_DrawPostTo_vb BK210) hb2) (by decide))); clear BK210; clear HB; have BK210 := n0_; have HB := n1_; have HI213 := n2_; have NB213_210 := n3_; have NB210_213 := n4_; clear n0_ n1_ n2_ n3_ n4_; (try clear hb); (try clear hb2); (try clear hk); (try clear hi)) | ((with_reducible refine gate_callee (f := 22) rfl ?_); refine goesL_ (some 12) rfl rfl Try.func22 (by kernel_rfl) rfl #[.pointer (some ⟨g213, 0, none⟩)] rfl (by (try simp only [List.map_toArray, List.map_cons, List.map_nil]); first | done | rfl | (simp only [List.length_drop, List.length_take]; rfl)) ?_; (with_reducible refine (spec_l1Post.calls k g213 t211 t212 t214 t215 t218 w _ ?side1 ?side2 A3.out).mono ?_); (case side1 => exact spec_DrawPostTo_auHI213); (case side2 => exact spec_DrawPostTo_auHB); rintro e w12 ⟨v216, rfl, ho0, hi, hb, hk⟩; refine ⟨_, rfl, ?_⟩; have n0_ := Aside0.mk (KeepBut.blk hk (g' := gb210) (o := .cells #[.int .i64 0, .slice none 0 0] 25 (0, 0)) (spec_DrawPostTo_vb BK210) NB210_213.out (by simp)); have n1_ := Aside0.mk (Kd.R_lower ho0 (below_size (spec_DrawPostTo_auHB))); have n2_ := Aside0.mk (hb); have n3_ := Aside0.mk (hi); clear BK210; clear HB; clear HI213; have BK210 := n0_; have HO217 := n1_; have HB := n2_; have HI213 := n3_; clear n0_ n1_ n2_ n3_; (try clear hb); (try clear hb2); (try clear hk); (try clear hi); (try clear ho0); obtain ⟨Ao13, co13, eo13⟩ := Kd.R_slice HO217.out; subst eo13) | ((with_reducible refine gate_callee (f := 23) rfl ?_); refine goesL_ (some 13) rfl rfl Try.func23 (by kernel_rfl) rfl #[.pointer (some ⟨g213, 0, none⟩), .agg #[.int .i64 t214, .slice Ao13 t215.length co13]] rfl (by (try simp only [List.map_toArray, List.map_cons, List.map_nil]); first | done | rfl | (simp only [List.length_drop, List.length_take]; rfl)) ?_; (with_reducible refine (spec_l1Bent.calls k g213 t211 t218 t214 _ _ t215 t219 t220 t223 w _ ?side1 ?side2 ?side3 ?side4 A4.out).mono ?_); (case side1 => exact spec_DrawPostTo_auHI213); (case side2 => exact spec_DrawPostTo_auHB); (case side3 => exact Kd.C_foot_own (IsS58.apart (show IsS58 w _ g213 t211 t218 from spec_DrawPostTo_auHI213) (by (with_reducible repeat (first | apply Kd.R_alloc | apply Kd.R_drewN | apply Kd.R_drew)); exact HO217.out) (by decide)) (fun _ h_ => h_.2)); (case side4 => exact (Kd.R_reads' HO217.out).2.1); rintro e w14 ⟨v221, rfl, ho0, hi, hb, hk⟩; refine ⟨_, rfl, ?_⟩; have n0_ := Aside0.mk (KeepBut.blk hk (g' := gb210) (o := .cells #[.int .i64 0, .slice none 0 0] 25 (0, 0)) (spec_DrawPostTo_vb BK210) NB210_213.out (by simp)); have n1_ := Aside0.mk (Kd.R_mono (Kd.R_told (Kd.R_oldK (IsS58.apart (show IsS58 w _ g213 t211 t218 from spec_DrawPostTo_auHI213) (by (with_reducible repeat (first | apply Kd.R_alloc | apply Kd.R_drewN | apply Kd.R_drew)); exact HO217.out) (by decide)) hk) (Kd.R_base ho0)) (fun _ h_ => h_.1)); have n2_ := Aside0.mk (Kd.R_lower (Kd.R_new' ho0 (Kd.R_lt (by (with_reducible repeat (first | apply Kd.R_alloc | apply Kd.R_drewN | apply Kd.R_drew)); exact HO217.out))) (below_size (spec_DrawPostTo_auHB))); have n3_ := Aside0.mk (hb); have n4_ := Aside0.mk (hi); clear BK210; clear HO217; clear HB; clear HI213; have BK210 := n0_; have HO217 := n1_; have HO222 := n2_; have HB := n3_; have HI213 := n4_; clear n0_ n1_ n2_ n3_ n4_; (try clear hb); (try clear hb2); (try clear hk); (try clear hi); (try clear ho0)) | ((with_reducible refine gate_dst (N := 6) rfl ?_); refine box_event ?hg (N := 6) ?hd (cs := #[.int .i64 0, .slice none 0 0]) (t := 25) ?hr ?_; (case hd => rfl); (case hg => rfl); (case hr => first | (go_simp; done) | (go_simp; rfl)); intro gb224 hg w15 hbox hb; have n0_ := Aside0.mk (Kd.R_below (by (with_reducible repeat (first | apply Kd.R_alloc | apply Kd.R_drewN | apply Kd.R_drew)); exact HO217.out) hb); have n1_ := Aside0.mk (Kd.R_below (by (with_reducible repeat (first | apply Kd.R_alloc | apply Kd.R_drewN | apply Kd.R_drew)); exact HO222.out) hb); have n2_ := Aside0.mk (blk_below (g := gb210) (o := .cells #[.int .i64 0, .slice none 0 0] 25 (0, 0)) (spec_DrawPostTo_vb BK210) hb); have n3_ := Aside0.mk (IsS58.below (spec_DrawPostTo_auHI213) hb); have n4_ := Aside0.mk (below_step (spec_DrawPostTo_auHB) hb); have n5_ := Aside0.mk (hbox); have n6_ := Aside0.mk ((by rw [hg]; exact (below_size (spec_DrawPostTo_auHB)) : w.heap.size ≤ gb224)); have n7_ := Aside0.mk ((by rw [hg]; exact (below_size (spec_DrawPostTo_auHB)) : w.heap.size ≤ gb224)); have n8_ := Aside0.mk ((by rw [hg]; exact Nat.ne_of_lt (blk_lt (g := gb210) (o := .cells #[.int .i64 0, .slice none 0 0] 25 (0, 0)) (spec_DrawPostTo_vb BK210)) : gb210 ≠ gb224)); have n9_ := Aside0.mk ((by rw [hg]; exact Nat.ne_of_gt (blk_lt (g := gb210) (o := .cells #[.int .i64 0, .slice none 0 0] 25 (0, 0)) (spec_DrawPostTo_vb BK210)) : gb224 ≠ gb210)); have n10_ := Aside0.mk ((by rw [hg]; exact Nat.ne_of_lt (IsS58.lt (show IsS58 w _ g213 t211 t223 from spec_DrawPostTo_auHI213)) : g213 ≠ gb224)); have n11_ := Aside0.mk ((by rw [hg]; exact Nat.ne_of_gt (IsS58.lt (show IsS58 w _ g213 t211 t223 from spec_DrawPostTo_auHI213)) : gb224 ≠ g213)); clear HO217; clear HO222; clear BK210; clear HI213; clear HB; have HO217 := n0_; have HO222 := n1_; have BK210 := n2_; have HI213 := n3_; have HB := n4_; have BK224 := n5_; have GW224 := n6_; have GE224 := n7_; have NB210_224 := n8_; have NB224_210 := n9_; have NB213_224 := n10_; have NB224_213 := n11_; clear n0_ n1_ n2_ n3_ n4_ n5_ n6_ n7_ n8_ n9_ n10_ n11_; clear hb hbox hg; have hnb16 := NB224_210.out; have hnc16 := NB210_224.out; have hnb17 := NB224_213.out; have hnc17 := NB213_224.out; have hcz18_0 : w15.cell? ⟨gb224, 0, none⟩ = some (.int .i64 0) := (blk_cell BK224.out 0).trans rfl; have hcz18_1 : w15.cell? ⟨gb224, 1, none⟩ = some (.slice none 0 0) := (blk_cell BK224.out 1).trans rfl; have hfz18_0 := blk_frozen BK224.out 0; have hfz18_1 := blk_frozen BK224.out 1; obtain ⟨Ao19, co19, eo19⟩ := Kd.R_slice HO222.out; subst eo19) | ((with_reducible refine gate_callee (f := 26) rfl ?_); refine goesL_ (some 15) rfl rfl Try.func26 (by kernel_rfl) rfl #[.pointer (some ⟨g213, 0, none⟩)] rfl (by (try simp only [List.map_toArray, List.map_cons, List.map_nil]); first | done | rfl | (simp only [List.length_drop, List.length_take]; rfl)) ?_; (with_reducible refine (spec_l1Acct.calls k g213 t211 t223 t225 t226 w _ ?side1 ?side2 A5.out).mono ?_); (case side1 => exact spec_DrawPostTo_auHI213); (case side2 => exact spec_DrawPostTo_auHB); rintro e w20 ⟨rfl, hi, hb, hk⟩; refine ⟨_, rfl, ?_⟩; have n0_ := Aside0.mk (KeepBut.blk hk (g' := gb210) (o := .cells #[.int .i64 0, .slice none 0 0] 25 (0, 0)) (by (with_reducible repeat (first | refine blk_drewN ?_ _ | refine blk_drew ?_ | refine blk_alloc ?_ _)); refine blk_far ?_ NB210_224.out _; (with_reducible repeat (first | refine blk_drewN ?_ _ | refine blk_drew ?_ | refine blk_alloc ?_ _)); refine blk_far ?_ NB210_224.out _; (with_reducible repeat (first | refine blk_drewN ?_ _ | refine blk_drew ?_ | refine blk_alloc ?_ _)); exact BK210.out) NB210_213.out (by simp)); have n1_ := Aside0.mk (Kd.R_mono (Kd.R_keep (IsS58.apart (show IsS58 w _ g213 t211 t223 from spec_DrawPostTo_auHI213) (by (with_reducible repeat (first | apply Kd.R_alloc | apply Kd.R_drewN | apply Kd.R_drew)); exact (Kd.R_mono (Kd.R_far (p := ⟨gb224, 1, none⟩) (Kd.R_far (p := ⟨gb224, 0, none⟩) (Kd.R_types HO217.out BK224.out (by decide)) (fun _ hk => hk.2) (.int .i64 t219)) (fun _ hk => hk.2) (.slice Ao19 t220.length co19)) (fun _ h_ => h_.1))) (by decide)) hk (fun _ h => h.2)) (fun _ h => h.1)); have n2_ := Aside0.mk (Kd.R_mono (Kd.R_keep (IsS58.apart (show IsS58 w _ g213 t211 t223 from spec_DrawPostTo_auHI213) (by (with_reducible repeat (first | apply Kd.R_alloc | apply Kd.R_drewN | apply Kd.R_drew)); exact (Kd.R_mono (Kd.R_far (p := ⟨gb224, 1, none⟩) (Kd.R_far (p := ⟨gb224, 0, none⟩) (Kd.R_types HO222.out BK224.out (by decide)) (fun _ hk => hk.2) (.int .i64 t219)) (fun _ hk => hk.2) (.slice Ao19 t220.length co19)) (fun _ h_ => h_.1))) (by decide)) hk (fun _ h => h.2)) (fun _ h => h.1)); have n3_ := Aside0.mk (KeepBut.blk hk (g' := gb224) (o := .cells #[.int .i64 t219, .slice Ao19 t220.length co19] 25 (0, 0)) (by (with_reducible repeat (first | refine blk_drewN ?_ _ | refine blk_drew ?_ | refine blk_alloc ?_ _)); refine blk_put (cs := #[.int .i64 t219, .slice none 0 0]) ?_ 1 _ rfl; (with_reducible repeat (first | refine blk_drewN ?_ _ | refine blk_drew ?_ | refine blk_alloc ?_ _)); refine blk_put (cs := #[.int .i64 0, .slice none 0 0]) ?_ 0 _ rfl; (with_reducible repeat (first | refine blk_drewN ?_ _ | refine blk_drew ?_ | refine blk_alloc ?_ _)); exact BK224.out) NB224_213.out (by simp)); have n4_ := Aside0.mk (hb); have n5_ := Aside0.mk (hi); clear BK210; clear HO217; clear HO222; clear BK224; clear HB; clear HI213; have BK210 := n0_; have HO217 := n1_; have HO222 := n2_; have BK224 := n3_; have HB := n4_; have HI213 := n5_; clear n0_ n1_ n2_ n3_ n4_ n5_; (try clear hb); (try clear hb2); (try clear hk); (try clear hi); have hcz21_0 : w20.cell? ⟨gb224, 0, none⟩ = some (.int .i64 t219) := (blk_cell BK224.out 0).trans rfl; have hcz21_1 : w20.cell? ⟨gb224, 1, none⟩ = some (.slice Ao19 t220.length co19) := (blk_cell BK224.out 1).trans rfl; have hfz21_0 := blk_frozen BK224.out 0; have hfz21_1 := blk_frozen BK224.out 1) | (go_at_call 24; (with_reducible refine (spec_l9Rd_pick.calls k g213 t211 t226 3 t227 t228 w _ ?side1 ?side2 A7.out).mono ?_); (case side1 => exact spec_DrawPostTo_auHI213); (case side2 => exact spec_DrawPostTo_auHB); rintro e w22 ⟨rfl, hi, hb, hk⟩; have n0_ := Aside0.mk (KeepBut.blk hk (g' := gb210) (o := .cells #[.int .i64 0, .slice none 0 0] 25 (0, 0)) (spec_DrawPostTo_vb BK210) NB210_213.out (by simp)); have n1_ := Aside0.mk (Kd.R_mono (Kd.R_keep (IsS58.apart (show IsS58 w _ g213 t211 t226 from spec_DrawPostTo_auHI213) (by (with_reducible repeat (first | apply Kd.R_alloc | apply Kd.R_drewN | apply Kd.R_drew)); exact HO217.out) (by decide)) hk (fun _ h => h.2)) (fun _ h => h.1)); have n2_ := Aside0.mk (Kd.R_mono (Kd.R_keep (IsS58.apart (show IsS58 w _ g213 t211 t226 from spec_DrawPostTo_auHI213) (by (with_reducible repeat (first | apply Kd.R_alloc | apply Kd.R_drewN | apply Kd.R_drew)); exact HO222.out) (by decide)) hk (fun _ h => h.2)) (fun _ h => h.1)); have n3_ := Aside0.mk (KeepBut.blk hk (g' := gb224) (o := .cells #[.int .i64 t219, .slice Ao19 t220.length co19] 25 (0, 0)) (spec_DrawPostTo_vb BK224) NB224_213.out (by simp)); have n4_ := Aside0.mk (hb); have n5_ := Aside0.mk (hi); clear BK210; clear HO217; clear HO222; clear BK224; clear HB; clear HI213; have BK210 := n0_; have HO217 := n1_; have HO222 := n2_; have BK224 := n3_; have HB := n4_; have HI213 := n5_; clear n0_ n1_ n2_ n3_ n4_ n5_; (try clear hb); (try clear hb2); (try clear hk); (try clear hi)))
    have n0_ := Aside0.mk (Kd.R_drew HO217.out)
    have n1_ := Aside0.mk (Kd.R_drew HO222.out)
    have n2_ := Aside0.mk (blk_drew BK210.out)
    have n3_ := Aside0.mk (blk_drew BK224.out)
    have n4_ := Aside0.mk (IsS58.drew HI213.out)
    have n5_ := Aside0.mk (below_drew1 HB.out)
    clear HO217
    clear HO222
    clear BK210
    clear BK224
    clear HI213
    clear HB
    have HO217 := n0_
    have HO222 := n1_
    have BK210 := n2_
    have BK224 := n3_
    have HI213 := n4_
    have HB := n5_
    clear n0_ n1_ n2_ n3_ n4_ n5_
    have p229 : 0 ≤ (0 : Int) := (by omega)
    have q229 : 0 < (t220.length : Int) := of_decide_eq_true (by first | (with_reducible assumption) | assumption)
    obtain ⟨ad229, e229, hx229_0, hx229_1, hx229_2⟩ := at_T29 (Kd.R_reads' HO222.out).2.2 0 p229 q229
    cases e229
    have qi229 : (0 < t220.length) = True := eq_true (by omega)
    (try rw [show ((0 : Int)).toNat = 0 from rfl] at hx229_0)
    (try rw [show 0 * 3 = 0 from rfl] at hx229_0)
    (try rw [Addr.add_zero'] at hx229_0)
    (try rw [show ((0 : Int)).toNat = 0 from rfl] at hx229_1)
    (try rw [show 0 * 3 = 0 from rfl] at hx229_1)
    (try rw [Addr.add_zero'] at hx229_1)
    (try rw [show ((0 : Int)).toNat = 0 from rfl] at hx229_2)
    (try rw [show 0 * 3 = 0 from rfl] at hx229_2)
    (try rw [Addr.add_zero'] at hx229_2)
    replace p229 := eq_true p229
    replace q229 := eq_true q229
    have p230 : 0 ≤ (0 : Int) := (by omega)
    have q230 : 0 < (t220.length : Int) := of_decide_eq_true (by first | (with_reducible assumption) | assumption)
    obtain ⟨ad230, e230, hx230_0, hx230_1, hx230_2⟩ := at_T29 (Kd.R_reads' HO222.out).2.2 0 p230 q230
    obtain rfl : ad229 = ad230 := (by injection e230)
    have qi230 : (0 < t220.length) = True := eq_true (by omega)
    (try rw [show ((0 : Int)).toNat = 0 from rfl] at hx230_0)
    (try rw [show 0 * 3 = 0 from rfl] at hx230_0)
    (try rw [Addr.add_zero'] at hx230_0)
    (try rw [show ((0 : Int)).toNat = 0 from rfl] at hx230_1)
    (try rw [show 0 * 3 = 0 from rfl] at hx230_1)
    (try rw [Addr.add_zero'] at hx230_1)
    (try rw [show ((0 : Int)).toNat = 0 from rfl] at hx230_2)
    (try rw [show 0 * 3 = 0 from rfl] at hx230_2)
    (try rw [Addr.add_zero'] at hx230_2)
    replace p230 := eq_true p230
    replace q230 := eq_true q230
    refine start_ (n := 14) (S := fun w' => w'.cell? ⟨gb224, 0, none⟩ = some (.int .i64 t219) ∧ w'.cell? ⟨gb224, 1, none⟩ = some (.slice (some ad229) t220.length co19) ∧ w'.cell? ad229 = some (.string ((rd_T29 t220 0).f0)) ∧ w'.cell? ⟨ad229.block, ad229.off + 1, none⟩ = some (.int .i64 ((rd_T29 t220 0).f1)) ∧ w'.cell? ⟨ad229.block, ad229.off + 2, none⟩ = some (.int .i64 ((rd_T29 t220 0).f2)) ∧ w'.cell? ad229 = some (.string ((rd_T29 t220 0).f0)) ∧ w'.cell? ⟨ad229.block, ad229.off + 1, none⟩ = some (.int .i64 ((rd_T29 t220 0).f1)) ∧ w'.cell? ⟨ad229.block, ad229.off + 2, none⟩ = some (.int .i64 ((rd_T29 t220 0).f2))) (ds := []) #[false, false, false, false, false, false, false, false, false, false, false, false, false, false] (by kernel_rfl) rfl rfl ⟨(blk_cell BK224.out 0).trans rfl, (blk_cell BK224.out 1).trans rfl, hx229_0, hx229_1, hx229_2, hx230_0, hx230_1, hx230_2⟩ (fun hHeld => ?_); refine with_tabW spec_DrawPostTo.tab5 spec_DrawPostTo.bits5 (fun HT_ HW_ => ?_)
    generalize w22.drew = w23 at HO217 HO222 BK210 BK224 HI213 HB hx229_0 hx229_1 hx229_2 hx230_0 hx230_1 hx230_2 hHeld ⊢
    refine pure_ (i := 1) (N := some 26) (v := ?_) (a' := ?_) #[false, true, false, false, false, false, false, false, false, false, false, false, false, false] rfl rfl (any_of HT_.out (by kernel_rfl)) (fun _ _ _ h => h) (Or.inl ⟨by rfl, ?_⟩) ?_ ?_
    rotate_left
    ·
     intro w'
     go_simp
     with_reducible rfl
    rotate_left
    ·
     simp only [Act.put, List.setIfInBounds_toArray, List.set_cons_zero, List.set_cons_succ, i64_w, i32_w]
     rfl
    refine pure_ (i := 6) (N := some 31) (v := ?_) (a' := ?_) #[false, true, false, false, false, false, true, false, false, false, false, false, false, false] rfl rfl (any_of HT_.out (by kernel_rfl)) (fun _ _ _ h => h) (Or.inl ⟨by rfl, ?_⟩) ?_ ?_
    rotate_left
    ·
     intro w'
     go_simp
     with_reducible rfl
    rotate_left
    ·
     simp only [Act.put, List.setIfInBounds_toArray, List.set_cons_zero, List.set_cons_succ, i64_w, i32_w]
     rfl
    refine take_ (i := 0) (N := some 25) (v := ?_) (a' := ?_) #[true, true, false, false, false, false, true, false, false, false, false, false, false, false] rfl rfl (take_ofW HT_.out HW_.out (by kernel_rfl)) (fun _ _ _ h => h) (Or.inl ⟨by rfl, ?_⟩) hHeld ?_ ?_
    rotate_left
    ·
     rintro w' ⟨s0, s1, s2, s3, s4, s5, s6, s7⟩
     go_simp
     with_reducible rfl
    rotate_left
    ·
     simp only [Act.put, List.setIfInBounds_toArray, List.set_cons_zero, List.set_cons_succ, i64_w, i32_w]
     rfl
    refine take_ (i := 2) (N := some 27) (v := ?_) (a' := ?_) #[true, true, true, false, false, false, true, false, false, false, false, false, false, false] rfl rfl (take_ofW HT_.out HW_.out (by kernel_rfl)) (fun _ _ _ h => h) (Or.inl ⟨by rfl, ?_⟩) hHeld ?_ ?_
    rotate_left
    ·
     rintro w' ⟨s0, s1, s2, s3, s4, s5, s6, s7⟩
     go_simp
     with_reducible rfl
    rotate_left
    ·
     simp only [Act.put, List.setIfInBounds_toArray, List.set_cons_zero, List.set_cons_succ, i64_w, i32_w]
     rfl
    refine pure_ (i := 3) (N := some 28) (v := ?_) (a' := ?_) #[true, true, true, true, false, false, true, false, false, false, false, false, false, false] rfl rfl (any_of HT_.out (by kernel_rfl)) (fun _ _ _ h => h) (Or.inl ⟨by rfl, ?_⟩) ?_ ?_
    rotate_left
    ·
     intro w'
     go_simp
     with_reducible rfl
    rotate_left
    ·
     simp only [Act.put, List.setIfInBounds_toArray, List.set_cons_zero, List.set_cons_succ, i64_w, i32_w]
     rfl
    refine pure_ (i := 4) (N := some 29) (v := ?_) (a' := ?_) #[true, true, true, true, true, false, true, false, false, false, false, false, false, false] rfl rfl (any_of HT_.out (by kernel_rfl)) (fun _ _ _ h => h) (Or.inl ⟨by rfl, ?_⟩) ?_ ?_
    rotate_left
    ·
     intro w'
     go_simp
     with_reducible rfl
    rotate_left
    ·
     simp only [Act.put, List.setIfInBounds_toArray, List.set_cons_zero, List.set_cons_succ, i64_w, i32_w]
     rfl
    refine take_ (i := 5) (N := some 30) (v := ?_) (a' := ?_) #[true, true, true, true, true, true, true, false, false, false, false, false, false, false] rfl rfl (take_ofW HT_.out HW_.out (by kernel_rfl)) (fun _ _ _ h => h) (Or.inl ⟨by rfl, ?_⟩) hHeld ?_ ?_
    rotate_left
    ·
     rintro w' ⟨s0, s1, s2, s3, s4, s5, s6, s7⟩
     go_simp
     with_reducible rfl
    rotate_left
    ·
     simp only [Act.put, List.setIfInBounds_toArray, List.set_cons_zero, List.set_cons_succ, i64_w, i32_w]
     rfl
    refine take_ (i := 7) (N := some 32) (v := ?_) (a' := ?_) #[true, true, true, true, true, true, true, true, false, false, false, false, false, false] rfl rfl (take_ofW HT_.out HW_.out (by kernel_rfl)) (fun _ _ _ h => h) (Or.inl ⟨by rfl, ?_⟩) hHeld ?_ ?_
    rotate_left
    ·
     rintro w' ⟨s0, s1, s2, s3, s4, s5, s6, s7⟩
     go_simp
     with_reducible rfl
    rotate_left
    ·
     simp only [Act.put, List.setIfInBounds_toArray, List.set_cons_zero, List.set_cons_succ, i64_w, i32_w]
     rfl
    refine pure_ (i := 8) (N := some 33) (v := ?_) (a' := ?_) #[true, true, true, true, true, true, true, true, true, false, false, false, false, false] rfl rfl (any_of HT_.out (by kernel_rfl)) (fun _ _ _ h => h) (Or.inl ⟨by rfl, ?_⟩) ?_ ?_
    rotate_left
    ·
     intro w'
     go_simp
     with_reducible rfl
    rotate_left
    ·
     simp only [Act.put, List.setIfInBounds_toArray, List.set_cons_zero, List.set_cons_succ, i64_w, i32_w]
     rfl
    refine pure_ (i := 9) (N := some 34) (v := ?_) (a' := ?_) #[true, true, true, true, true, true, true, true, true, true, false, false, false, false] rfl rfl (any_of HT_.out (by kernel_rfl)) (fun _ _ _ h => h) (Or.inl ⟨by rfl, ?_⟩) ?_ ?_
    rotate_left
    ·
     intro w'
     go_simp
     with_reducible rfl
    rotate_left
    ·
     simp only [Act.put, List.setIfInBounds_toArray, List.set_cons_zero, List.set_cons_succ, i64_w, i32_w]
     rfl
    refine take_ (i := 10) (N := some 35) (v := ?_) (a' := ?_) #[true, true, true, true, true, true, true, true, true, true, true, false, false, false] rfl rfl (take_ofW HT_.out HW_.out (by kernel_rfl)) (fun _ _ _ h => h) (Or.inl ⟨by rfl, ?_⟩) hHeld ?_ ?_
    rotate_left
    ·
     rintro w' ⟨s0, s1, s2, s3, s4, s5, s6, s7⟩
     go_simp
     with_reducible rfl
    rotate_left
    ·
     simp only [Act.put, List.setIfInBounds_toArray, List.set_cons_zero, List.set_cons_succ, i64_w, i32_w]
     rfl
    refine one_ (i := 11) (N := none) #[true, true, true, true, true, true, true, true, true, true, true, true, false, false] rfl rfl (one_of HT_.out (by kernel_rfl)) (by decide) (fun K hK => ?_)
    have hs24 : w23.cell? ⟨gb210, 0, none⟩ = some (.int .i64 0) := (blk_cell BK210.out 0).trans rfl
    have hfs24 := blk_frozen BK210.out 0
    have hns24_1 := NB224_210.out
    have hms24_1 := NB210_224.out
    have hs25 : w23.cell? ⟨gb210, 1, none⟩ = some (.slice none 0 0) := (blk_cell BK210.out 1).trans rfl
    have hfs25 := blk_frozen BK210.out 1
    have hns25_1 := NB224_210.out
    have hms25_1 := NB210_224.out
    refine skip_ (w1 := ?_) (by rfl) rfl ?_ ?_
    rotate_left
    ·
     go_simp
     rfl
    refine hK.out _ _ ⟨((cell_far (p := ⟨gb210, _, none⟩) NB224_210.out _).trans (((cell_far (p := ⟨gb210, _, none⟩) NB224_210.out _).trans (hHeld.1)))), ((cell_far (p := ⟨gb210, _, none⟩) NB224_210.out _).trans (((cell_far (p := ⟨gb210, _, none⟩) NB224_210.out _).trans (hHeld.2.1)))), ((cell_far (p := ⟨gb210, _, none⟩) (by first | exact Kd.own_blk (Kd.R_ne HO222.out BK210.out (by decide)) | (rw [add_block]; exact Kd.own_blk (Kd.R_ne HO222.out BK210.out (by decide))) | (show (Addr.add _ _).block ≠ _; rw [add_block]; exact Kd.own_blk (Kd.R_ne HO222.out BK210.out (by decide))) | (dsimp only; exact Kd.own_blk (Kd.R_ne HO222.out BK210.out (by decide)))) _).trans (((cell_far (p := ⟨gb210, _, none⟩) (by first | exact Kd.own_blk (Kd.R_ne HO222.out BK210.out (by decide)) | (rw [add_block]; exact Kd.own_blk (Kd.R_ne HO222.out BK210.out (by decide))) | (show (Addr.add _ _).block ≠ _; rw [add_block]; exact Kd.own_blk (Kd.R_ne HO222.out BK210.out (by decide))) | (dsimp only; exact Kd.own_blk (Kd.R_ne HO222.out BK210.out (by decide)))) _).trans (hHeld.2.2.1)))), ((cell_far (p := ⟨gb210, _, none⟩) (by first | exact Kd.own_blk (Kd.R_ne HO222.out BK210.out (by decide)) | (rw [add_block]; exact Kd.own_blk (Kd.R_ne HO222.out BK210.out (by decide))) | (show (Addr.add _ _).block ≠ _; rw [add_block]; exact Kd.own_blk (Kd.R_ne HO222.out BK210.out (by decide))) | (dsimp only; exact Kd.own_blk (Kd.R_ne HO222.out BK210.out (by decide)))) _).trans (((cell_far (p := ⟨gb210, _, none⟩) (by first | exact Kd.own_blk (Kd.R_ne HO222.out BK210.out (by decide)) | (rw [add_block]; exact Kd.own_blk (Kd.R_ne HO222.out BK210.out (by decide))) | (show (Addr.add _ _).block ≠ _; rw [add_block]; exact Kd.own_blk (Kd.R_ne HO222.out BK210.out (by decide))) | (dsimp only; exact Kd.own_blk (Kd.R_ne HO222.out BK210.out (by decide)))) _).trans (hHeld.2.2.2.1)))), ((cell_far (p := ⟨gb210, _, none⟩) (by first | exact Kd.own_blk (Kd.R_ne HO222.out BK210.out (by decide)) | (rw [add_block]; exact Kd.own_blk (Kd.R_ne HO222.out BK210.out (by decide))) | (show (Addr.add _ _).block ≠ _; rw [add_block]; exact Kd.own_blk (Kd.R_ne HO222.out BK210.out (by decide))) | (dsimp only; exact Kd.own_blk (Kd.R_ne HO222.out BK210.out (by decide)))) _).trans (((cell_far (p := ⟨gb210, _, none⟩) (by first | exact Kd.own_blk (Kd.R_ne HO222.out BK210.out (by decide)) | (rw [add_block]; exact Kd.own_blk (Kd.R_ne HO222.out BK210.out (by decide))) | (show (Addr.add _ _).block ≠ _; rw [add_block]; exact Kd.own_blk (Kd.R_ne HO222.out BK210.out (by decide))) | (dsimp only; exact Kd.own_blk (Kd.R_ne HO222.out BK210.out (by decide)))) _).trans (hHeld.2.2.2.2.1)))), ((cell_far (p := ⟨gb210, _, none⟩) (by first | exact Kd.own_blk (Kd.R_ne HO222.out BK210.out (by decide)) | (rw [add_block]; exact Kd.own_blk (Kd.R_ne HO222.out BK210.out (by decide))) | (show (Addr.add _ _).block ≠ _; rw [add_block]; exact Kd.own_blk (Kd.R_ne HO222.out BK210.out (by decide))) | (dsimp only; exact Kd.own_blk (Kd.R_ne HO222.out BK210.out (by decide)))) _).trans (((cell_far (p := ⟨gb210, _, none⟩) (by first | exact Kd.own_blk (Kd.R_ne HO222.out BK210.out (by decide)) | (rw [add_block]; exact Kd.own_blk (Kd.R_ne HO222.out BK210.out (by decide))) | (show (Addr.add _ _).block ≠ _; rw [add_block]; exact Kd.own_blk (Kd.R_ne HO222.out BK210.out (by decide))) | (dsimp only; exact Kd.own_blk (Kd.R_ne HO222.out BK210.out (by decide)))) _).trans (hHeld.2.2.2.2.2.1)))), ((cell_far (p := ⟨gb210, _, none⟩) (by first | exact Kd.own_blk (Kd.R_ne HO222.out BK210.out (by decide)) | (rw [add_block]; exact Kd.own_blk (Kd.R_ne HO222.out BK210.out (by decide))) | (show (Addr.add _ _).block ≠ _; rw [add_block]; exact Kd.own_blk (Kd.R_ne HO222.out BK210.out (by decide))) | (dsimp only; exact Kd.own_blk (Kd.R_ne HO222.out BK210.out (by decide)))) _).trans (((cell_far (p := ⟨gb210, _, none⟩) (by first | exact Kd.own_blk (Kd.R_ne HO222.out BK210.out (by decide)) | (rw [add_block]; exact Kd.own_blk (Kd.R_ne HO222.out BK210.out (by decide))) | (show (Addr.add _ _).block ≠ _; rw [add_block]; exact Kd.own_blk (Kd.R_ne HO222.out BK210.out (by decide))) | (dsimp only; exact Kd.own_blk (Kd.R_ne HO222.out BK210.out (by decide)))) _).trans (hHeld.2.2.2.2.2.2.1)))), ((cell_far (p := ⟨gb210, _, none⟩) (by first | exact Kd.own_blk (Kd.R_ne HO222.out BK210.out (by decide)) | (rw [add_block]; exact Kd.own_blk (Kd.R_ne HO222.out BK210.out (by decide))) | (show (Addr.add _ _).block ≠ _; rw [add_block]; exact Kd.own_blk (Kd.R_ne HO222.out BK210.out (by decide))) | (dsimp only; exact Kd.own_blk (Kd.R_ne HO222.out BK210.out (by decide)))) _).trans (((cell_far (p := ⟨gb210, _, none⟩) (by first | exact Kd.own_blk (Kd.R_ne HO222.out BK210.out (by decide)) | (rw [add_block]; exact Kd.own_blk (Kd.R_ne HO222.out BK210.out (by decide))) | (show (Addr.add _ _).block ≠ _; rw [add_block]; exact Kd.own_blk (Kd.R_ne HO222.out BK210.out (by decide))) | (dsimp only; exact Kd.own_blk (Kd.R_ne HO222.out BK210.out (by decide)))) _).trans (hHeld.2.2.2.2.2.2.2))))⟩ (fun hHeld => ?_)
    clear hK K
    refine pure_ (i := 12) (N := some 3) (v := ?_) (a' := ?_) #[true, true, true, true, true, true, true, true, true, true, true, true, true, false] rfl rfl (any_of HT_.out (by kernel_rfl)) (fun _ _ _ h => h) (Or.inl ⟨by rfl, ?_⟩) ?_ ?_
    rotate_left
    ·
     intro w'
     go_simp
     with_reducible rfl
    rotate_left
    ·
     simp only [Act.put, List.setIfInBounds_toArray, List.set_cons_zero, List.set_cons_succ, i64_w, i32_w]
     rfl
    refine pure_ (i := 13) (N := some 4) (v := ?_) (a' := ?_) #[true, true, true, true, true, true, true, true, true, true, true, true, true, true] rfl rfl (any_of HT_.out (by kernel_rfl)) (fun _ _ _ h => h) (Or.inl ⟨by rfl, ?_⟩) ?_ ?_
    rotate_left
    ·
     intro w'
     go_simp
     with_reducible rfl
    rotate_left
    ·
     simp only [Act.put, List.setIfInBounds_toArray, List.set_cons_zero, List.set_cons_succ, i64_w, i32_w]
     rfl
    refine done_ (done_of HT_.out (by kernel_rfl)) ?_
    try go_wp2
    refine bodyPost_ret (results_ctt rfl _ _ gb210 25 #[.int .i64 t219, .slice (some ad229) t220.length co19] (0, 0) _ rfl (by (with_reducible repeat (first | refine blk_drewN ?_ _ | refine blk_drew ?_ | refine blk_alloc ?_ _)); refine blk_put (cs := #[.int .i64 t219, .slice none 0 0]) ?_ 1 _ rfl; (with_reducible repeat (first | refine blk_drewN ?_ _ | refine blk_drew ?_ | refine blk_alloc ?_ _)); refine blk_put (cs := #[.int .i64 0, .slice none 0 0]) ?_ 0 _ rfl; (with_reducible repeat (first | refine blk_drewN ?_ _ | refine blk_drew ?_ | refine blk_alloc ?_ _)); exact BK210.out) Try.underlying25 rfl (by kernel_rfl)) rfl ?_
    exact ⟨_, by first | rfl | (simp [errW_none, errW_some] <;> rfl) | (simp [*, errW_none, errW_some] <;> rfl), by (with_reducible repeat (first | apply Kd.R_alloc | apply Kd.R_drewN | apply Kd.R_drew)); exact Kd.R_mono (Kd.R_far (p := ⟨gb210, 1, none⟩) (Kd.R_far (p := ⟨gb210, 0, none⟩) (Kd.R_types HO222.out BK210.out (by decide)) (fun _ hk => hk.2) (.int .i64 t219)) (fun _ hk => hk.2) (.slice (some ad229) t220.length co19)) (fun _ hk => trivial), spec_DrawPostTo_auHB⟩
   ·
    rw [if_neg c9] at H
    exact absurd H (by simp)
  ·
   rw [if_neg c8] at H
   have c8b0 : decide (0 < t227) = false := decide_eq_false c8
   clear c8
   obtain ⟨y231, hy231⟩ : ∃ y_ : List Int, y_ = (([1, 2, 3, 0, 4] : List Int)) := ⟨_, rfl⟩
   replace H : ((spec_l9Rd_num.f k t211 t228 y231).bind fun bt234 => (some (t219, t220, t225, bt234.1))) = some (r1, r2, r3, r4) := by first | (rw [hy231]; with_reducible exact H) | (have H2_ := (Option.bind_some _ _).symm.trans H; rw [hy231]; with_reducible exact H2_) | (have H2_ := (Option.bind_some _ _).symm.trans H; with_reducible exact H2_) | with_reducible exact H | (rw [hy231]; exact H) | exact H
   have Ny231 := Aside0.mk hy231
   clear hy231
   replace H := Option.bind_eq_some_iff.mp H
   obtain ⟨⟨t234, t235⟩, A260, H⟩ := H
   replace H : (some (t219, t220, t225, t234)) = some (r1, r2, r3, r4) := H
   have A26 := Aside0.mk A260
   clear A260
   simp only [Option.some.injEq, Prod.mk.injEq] at H
   obtain ⟨rfl, rfl, rfl, rfl⟩ := H
   go_enter Try.func15, Try.ntmps15
   try go_wp2_with (first | ((with_reducible refine gate_dst (N := 2) rfl ?_); refine box_event ?hg (N := 2) ?hd (cs := #[.int .i64 0, .slice none 0 0]) (t := 25) ?hr ?_; (case hd => rfl); (case hg => rfl); (case hr => first | (go_simp; done) | (go_simp; rfl)); intro gb210 hg w27 hbox hb; have n0_ := Aside0.mk (below_step (spec_DrawPostTo_auHB) hb); have n1_ := Aside0.mk (hbox); have n2_ := Aside0.mk ((by rw [hg]; exact (below_size (spec_DrawPostTo_auHB)) : w.heap.size ≤ gb210)); have n3_ := Aside0.mk ((by rw [hg]; exact (below_size (spec_DrawPostTo_auHB)) : w.heap.size ≤ gb210)); clear HB; have HB := n0_; have BK210 := n1_; have GW210 := n2_; have GE210 := n3_; clear n0_ n1_ n2_ n3_; clear hb hbox hg) | ((with_reducible refine gate_callee (f := 21) rfl ?_); refine goesL_ (some 9) rfl rfl Try.func21 (by kernel_rfl) rfl #[.slice A0 l0.length c0] rfl (by (try simp only [List.map_toArray, List.map_cons, List.map_nil]); first | done | rfl | (simp only [List.length_drop, List.length_take]; rfl)) ?_; (with_reducible refine (spec_l9Open.calls _ _ l0 t211 t212 w _ ?side1 ?side2 ?side3 A2.out).mono ?_); (case side1 => exact spec_DrawPostTo_auHB); (case side2 => exact HR0.out); (case side3 => exact HC0.out); rintro e w28 ⟨g213, rfl, hi, hb, hb2⟩; refine ⟨_, rfl, ?_⟩; have n0_ := Aside0.mk (blk_below (g := gb210) (o := .cells #[.int .i64 0, .slice none 0 0] 25 (0, 0)) (spec_DrawPostTo_vb BK210) hb2); have n1_ := Aside0.mk (hb); have n2_ := Aside0.mk (hi); have n3_ := Aside0.mk (IsS58.ne_blk hi (blk_below (g := gb210) (o := .cells #[.int .i64 0, .slice none 0 0] 25 (0, 0)) (spec_DrawPostTo_vb BK210) hb2) (by decide)); have n4_ := Aside0.mk (Ne.symm (IsS58.ne_blk hi (blk_below (g := gb210) (o := .cells #[.int .i64 0, .slice none 0 0] 25 (0, 0)) (spec_DrawPostTo_vb BK210) hb2) (by decide))); clear BK210; clear HB; have BK210 := n0_; have HB := n1_; have HI213 := n2_; have NB213_210 := n3_; have NB210_213 := n4_; clear n0_ n1_ n2_ n3_ n4_; (try clear hb); (try clear hb2); (try clear hk); (try clear hi)) | ((with_reducible refine gate_callee (f := 22) rfl ?_); refine goesL_ (some 12) rfl rfl Try.func22 (by kernel_rfl) rfl #[.pointer (some ⟨g213, 0, none⟩)] rfl (by (try simp only [List.map_toArray, List.map_cons, List.map_nil]); first | done | rfl | (simp only [List.length_drop, List.length_take]; rfl)) ?_; (with_reducible refine (spec_l1Post.calls k g213 t211 t212 t214 t215 t218 w _ ?side1 ?side2 A3.out).mono ?_); (case side1 => exact spec_DrawPostTo_auHI213); (case side2 => exact spec_DrawPostTo_auHB); rintro e w29 ⟨v216, rfl, ho0, hi, hb, hk⟩; refine ⟨_, rfl, ?_⟩; have n0_ := Aside0.mk (KeepBut.blk hk (g' := gb210) (o := .cells #[.int .i64 0, .slice none 0 0] 25 (0, 0)) (spec_DrawPostTo_vb BK210) NB210_213.out (by simp)); have n1_ := Aside0.mk (Kd.R_lower ho0 (below_size (spec_DrawPostTo_auHB))); have n2_ := Aside0.mk (hb); have n3_ := Aside0.mk (hi); clear BK210; clear HB; clear HI213; have BK210 := n0_; have HO217 := n1_; have HB := n2_; have HI213 := n3_; clear n0_ n1_ n2_ n3_; (try clear hb); (try clear hb2); (try clear hk); (try clear hi); (try clear ho0); obtain ⟨Ao30, co30, eo30⟩ := Kd.R_slice HO217.out; subst eo30) | ((with_reducible refine gate_callee (f := 23) rfl ?_); refine goesL_ (some 13) rfl rfl Try.func23 (by kernel_rfl) rfl #[.pointer (some ⟨g213, 0, none⟩), .agg #[.int .i64 t214, .slice Ao30 t215.length co30]] rfl (by (try simp only [List.map_toArray, List.map_cons, List.map_nil]); first | done | rfl | (simp only [List.length_drop, List.length_take]; rfl)) ?_; (with_reducible refine (spec_l1Bent.calls k g213 t211 t218 t214 _ _ t215 t219 t220 t223 w _ ?side1 ?side2 ?side3 ?side4 A4.out).mono ?_); (case side1 => exact spec_DrawPostTo_auHI213); (case side2 => exact spec_DrawPostTo_auHB); (case side3 => exact Kd.C_foot_own (IsS58.apart (show IsS58 w _ g213 t211 t218 from spec_DrawPostTo_auHI213) (by (with_reducible repeat (first | apply Kd.R_alloc | apply Kd.R_drewN | apply Kd.R_drew)); exact HO217.out) (by decide)) (fun _ h_ => h_.2)); (case side4 => exact (Kd.R_reads' HO217.out).2.1); rintro e w31 ⟨v221, rfl, ho0, hi, hb, hk⟩; refine ⟨_, rfl, ?_⟩; have n0_ := Aside0.mk (KeepBut.blk hk (g' := gb210) (o := .cells #[.int .i64 0, .slice none 0 0] 25 (0, 0)) (spec_DrawPostTo_vb BK210) NB210_213.out (by simp)); have n1_ := Aside0.mk (Kd.R_mono (Kd.R_told (Kd.R_oldK (IsS58.apart (show IsS58 w _ g213 t211 t218 from spec_DrawPostTo_auHI213) (by (with_reducible repeat (first | apply Kd.R_alloc | apply Kd.R_drewN | apply Kd.R_drew)); exact HO217.out) (by decide)) hk) (Kd.R_base ho0)) (fun _ h_ => h_.1)); have n2_ := Aside0.mk (Kd.R_lower (Kd.R_new' ho0 (Kd.R_lt (by (with_reducible repeat (first | apply Kd.R_alloc | apply Kd.R_drewN | apply Kd.R_drew)); exact HO217.out))) (below_size (spec_DrawPostTo_auHB))); have n3_ := Aside0.mk (hb); have n4_ := Aside0.mk (hi); clear BK210; clear HO217; clear HB; clear HI213; have BK210 := n0_; have HO217 := n1_; have HO222 := n2_; have HB := n3_; have HI213 := n4_; clear n0_ n1_ n2_ n3_ n4_; (try clear hb); (try clear hb2); (try clear hk); (try clear hi); (try clear ho0)) | ((with_reducible refine gate_dst (N := 6) rfl ?_); refine box_event ?hg (N := 6) ?hd (cs := #[.int .i64 0, .slice none 0 0]) (t := 25) ?hr ?_; (case hd => rfl); (case hg => rfl); (case hr => first | (go_simp; done) | (go_simp; rfl)); intro gb224 hg w32 hbox hb; have n0_ := Aside0.mk (Kd.R_below (by (with_reducible repeat (first | apply Kd.R_alloc | apply Kd.R_drewN | apply Kd.R_drew)); exact HO217.out) hb); have n1_ := Aside0.mk (Kd.R_below (by (with_reducible repeat (first | apply Kd.R_alloc | apply Kd.R_drewN | apply Kd.R_drew)); exact HO222.out) hb); have n2_ := Aside0.mk (blk_below (g := gb210) (o := .cells #[.int .i64 0, .slice none 0 0] 25 (0, 0)) (spec_DrawPostTo_vb BK210) hb); have n3_ := Aside0.mk (IsS58.below (spec_DrawPostTo_auHI213) hb); have n4_ := Aside0.mk (below_step (spec_DrawPostTo_auHB) hb); have n5_ := Aside0.mk (hbox); have n6_ := Aside0.mk ((by rw [hg]; exact (below_size (spec_DrawPostTo_auHB)) : w.heap.size ≤ gb224)); have n7_ := Aside0.mk ((by rw [hg]; exact (below_size (spec_DrawPostTo_auHB)) : w.heap.size ≤ gb224)); have n8_ := Aside0.mk ((by rw [hg]; exact Nat.ne_of_lt (blk_lt (g := gb210) (o := .cells #[.int .i64 0, .slice none 0 0] 25 (0, 0)) (spec_DrawPostTo_vb BK210)) : gb210 ≠ gb224)); have n9_ := Aside0.mk ((by rw [hg]; exact Nat.ne_of_gt (blk_lt (g := gb210) (o := .cells #[.int .i64 0, .slice none 0 0] 25 (0, 0)) (spec_DrawPostTo_vb BK210)) : gb224 ≠ gb210)); have n10_ := Aside0.mk ((by rw [hg]; exact Nat.ne_of_lt (IsS58.lt (show IsS58 w _ g213 t211 t223 from spec_DrawPostTo_auHI213)) : g213 ≠ gb224)); have n11_ := Aside0.mk ((by rw [hg]; exact Nat.ne_of_gt (IsS58.lt (show IsS58 w _ g213 t211 t223 from spec_DrawPostTo_auHI213)) : gb224 ≠ g213)); clear HO217; clear HO222; clear BK210; clear HI213; clear HB; have HO217 := n0_; have HO222 := n1_; have BK210 := n2_; have HI213 := n3_; have HB := n4_; have BK224 := n5_; have GW224 := n6_; have GE224 := n7_; have NB210_224 := n8_; have NB224_210 := n9_; have NB213_224 := n10_; have NB224_213 := n11_; clear n0_ n1_ n2_ n3_ n4_ n5_ n6_ n7_ n8_ n9_ n10_ n11_; clear hb hbox hg; have hnb33 := NB224_210.out; have hnc33 := NB210_224.out; have hnb34 := NB224_213.out; have hnc34 := NB213_224.out; have hcz35_0 : w32.cell? ⟨gb224, 0, none⟩ = some (.int .i64 0) := (blk_cell BK224.out 0).trans rfl; have hcz35_1 : w32.cell? ⟨gb224, 1, none⟩ = some (.slice none 0 0) := (blk_cell BK224.out 1).trans rfl; have hfz35_0 := blk_frozen BK224.out 0; have hfz35_1 := blk_frozen BK224.out 1; obtain ⟨Ao36, co36, eo36⟩ := Kd.R_slice HO222.out; subst eo36) | ((with_reducible refine gate_callee (f := 26) rfl ?_); refine goesL_ (some 15) rfl rfl Try.func26 (by kernel_rfl) rfl #[.pointer (some ⟨g213, 0, none⟩)] rfl (by (try simp only [List.map_toArray, List.map_cons, List.map_nil]); first | done | rfl | (simp only [List.length_drop, List.length_take]; rfl)) ?_; (with_reducible refine (spec_l1Acct.calls k g213 t211 t223 t225 t226 w _ ?side1 ?side2 A5.out).mono ?_); (case side1 => exact spec_DrawPostTo_auHI213); (case side2 => exact spec_DrawPostTo_auHB); rintro e w37 ⟨rfl, hi, hb, hk⟩; refine ⟨_, rfl, ?_⟩; have n0_ := Aside0.mk (KeepBut.blk hk (g' := gb210) (o := .cells #[.int .i64 0, .slice none 0 0] 25 (0, 0)) (by (with_reducible repeat (first | refine blk_drewN ?_ _ | refine blk_drew ?_ | refine blk_alloc ?_ _)); refine blk_far ?_ NB210_224.out _; (with_reducible repeat (first | refine blk_drewN ?_ _ | refine blk_drew ?_ | refine blk_alloc ?_ _)); refine blk_far ?_ NB210_224.out _; (with_reducible repeat (first | refine blk_drewN ?_ _ | refine blk_drew ?_ | refine blk_alloc ?_ _)); exact BK210.out) NB210_213.out (by simp)); have n1_ := Aside0.mk (Kd.R_mono (Kd.R_keep (IsS58.apart (show IsS58 w _ g213 t211 t223 from spec_DrawPostTo_auHI213) (by (with_reducible repeat (first | apply Kd.R_alloc | apply Kd.R_drewN | apply Kd.R_drew)); exact (Kd.R_mono (Kd.R_far (p := ⟨gb224, 1, none⟩) (Kd.R_far (p := ⟨gb224, 0, none⟩) (Kd.R_types HO217.out BK224.out (by decide)) (fun _ hk => hk.2) (.int .i64 t219)) (fun _ hk => hk.2) (.slice Ao36 t220.length co36)) (fun _ h_ => h_.1))) (by decide)) hk (fun _ h => h.2)) (fun _ h => h.1)); have n2_ := Aside0.mk (Kd.R_mono (Kd.R_keep (IsS58.apart (show IsS58 w _ g213 t211 t223 from spec_DrawPostTo_auHI213) (by (with_reducible repeat (first | apply Kd.R_alloc | apply Kd.R_drewN | apply Kd.R_drew)); exact (Kd.R_mono (Kd.R_far (p := ⟨gb224, 1, none⟩) (Kd.R_far (p := ⟨gb224, 0, none⟩) (Kd.R_types HO222.out BK224.out (by decide)) (fun _ hk => hk.2) (.int .i64 t219)) (fun _ hk => hk.2) (.slice Ao36 t220.length co36)) (fun _ h_ => h_.1))) (by decide)) hk (fun _ h => h.2)) (fun _ h => h.1)); have n3_ := Aside0.mk (KeepBut.blk hk (g' := gb224) (o := .cells #[.int .i64 t219, .slice Ao36 t220.length co36] 25 (0, 0)) (by (with_reducible repeat (first | refine blk_drewN ?_ _ | refine blk_drew ?_ | refine blk_alloc ?_ _)); refine blk_put (cs := #[.int .i64 t219, .slice none 0 0]) ?_ 1 _ rfl; (with_reducible repeat (first | refine blk_drewN ?_ _ | refine blk_drew ?_ | refine blk_alloc ?_ _)); refine blk_put (cs := #[.int .i64 0, .slice none 0 0]) ?_ 0 _ rfl; (with_reducible repeat (first | refine blk_drewN ?_ _ | refine blk_drew ?_ | refine blk_alloc ?_ _)); exact BK224.out) NB224_213.out (by simp)); have n4_ := Aside0.mk (hb); have n5_ := Aside0.mk (hi); clear BK210; clear HO217; clear HO222; clear BK224; clear HB; clear HI213; have BK210 := n0_; have HO217 := n1_; have HO222 := n2_; have BK224 := n3_; have HB := n4_; have HI213 := n5_; clear n0_ n1_ n2_ n3_ n4_ n5_; (try clear hb); (try clear hb2); (try clear hk); (try clear hi); have hcz38_0 : w37.cell? ⟨gb224, 0, none⟩ = some (.int .i64 t219) := (blk_cell BK224.out 0).trans rfl; have hcz38_1 : w37.cell? ⟨gb224, 1, none⟩ = some (.slice Ao36 t220.length co36) := (blk_cell BK224.out 1).trans rfl; have hfz38_0 := blk_frozen BK224.out 0; have hfz38_1 := blk_frozen BK224.out 1) | (go_at_call 24; (with_reducible refine (spec_l9Rd_pick.calls k g213 t211 t226 3 t227 t228 w _ ?side1 ?side2 A7.out).mono ?_); (case side1 => exact spec_DrawPostTo_auHI213); (case side2 => exact spec_DrawPostTo_auHB); rintro e w39 ⟨rfl, hi, hb, hk⟩; have n0_ := Aside0.mk (KeepBut.blk hk (g' := gb210) (o := .cells #[.int .i64 0, .slice none 0 0] 25 (0, 0)) (spec_DrawPostTo_vb BK210) NB210_213.out (by simp)); have n1_ := Aside0.mk (Kd.R_mono (Kd.R_keep (IsS58.apart (show IsS58 w _ g213 t211 t226 from spec_DrawPostTo_auHI213) (by (with_reducible repeat (first | apply Kd.R_alloc | apply Kd.R_drewN | apply Kd.R_drew)); exact HO217.out) (by decide)) hk (fun _ h => h.2)) (fun _ h => h.1)); have n2_ := Aside0.mk (Kd.R_mono (Kd.R_keep (IsS58.apart (show IsS58 w _ g213 t211 t226 from spec_DrawPostTo_auHI213) (by (with_reducible repeat (first | apply Kd.R_alloc | apply Kd.R_drewN | apply Kd.R_drew)); exact HO222.out) (by decide)) hk (fun _ h => h.2)) (fun _ h => h.1)); have n3_ := Aside0.mk (KeepBut.blk hk (g' := gb224) (o := .cells #[.int .i64 t219, .slice Ao36 t220.length co36] 25 (0, 0)) (spec_DrawPostTo_vb BK224) NB224_213.out (by simp)); have n4_ := Aside0.mk (hb); have n5_ := Aside0.mk (hi); clear BK210; clear HO217; clear HO222; clear BK224; clear HB; clear HI213; have BK210 := n0_; have HO217 := n1_; have HO222 := n2_; have BK224 := n3_; have HB := n4_; have HI213 := n5_; clear n0_ n1_ n2_ n3_ n4_ n5_; (try clear hb); (try clear hb2); (try clear hk); (try clear hi)))
   have n0_ := Aside0.mk (Kd.R_drew HO217.out)
   have n1_ := Aside0.mk (Kd.R_drew HO222.out)
   have n2_ := Aside0.mk (blk_drew BK210.out)
   have n3_ := Aside0.mk (blk_drew BK224.out)
   have n4_ := Aside0.mk (IsS58.drew HI213.out)
   have n5_ := Aside0.mk (below_drew1 HB.out)
   clear HO217
   clear HO222
   clear BK210
   clear BK224
   clear HI213
   clear HB
   have HO217 := n0_
   have HO222 := n1_
   have BK210 := n2_
   have BK224 := n3_
   have HI213 := n4_
   have HB := n5_
   clear n0_ n1_ n2_ n3_ n4_ n5_
   refine start_ (n := 8) (S := fun w' => w'.cell? ⟨gb224, 0, none⟩ = some (.int .i64 t219) ∧ w'.cell? ⟨gb224, 1, none⟩ = some (.slice Ao36 t220.length co36)) (ds := []) #[false, false, false, false, false, false, false, false] (by kernel_rfl) rfl rfl ⟨(blk_cell BK224.out 0).trans rfl, (blk_cell BK224.out 1).trans rfl⟩ (fun hHeld => ?_); refine with_tabW spec_DrawPostTo.tab6 spec_DrawPostTo.bits6 (fun HT_ HW_ => ?_)
   generalize w39.drew = w40 at HO217 HO222 BK210 BK224 HI213 HB hHeld ⊢
   refine pure_ (i := 1) (N := some 37) (v := ?_) (a' := ?_) #[false, true, false, false, false, false, false, false] rfl rfl (any_of HT_.out (by kernel_rfl)) (fun _ _ _ h => h) (Or.inl ⟨by rfl, ?_⟩) ?_ ?_
   rotate_left
   ·
    intro w'
    go_simp
    with_reducible rfl
   rotate_left
   ·
    simp only [Act.put, List.setIfInBounds_toArray, List.set_cons_zero, List.set_cons_succ, i64_w, i32_w]
    rfl
   refine pure_ (i := 2) (N := some 38) (v := ?_) (a' := ?_) #[false, true, true, false, false, false, false, false] rfl rfl (any_of HT_.out (by kernel_rfl)) (fun _ _ _ h => h) (Or.inl ⟨by rfl, ?_⟩) ?_ ?_
   rotate_left
   ·
    intro w'
    go_simp
    with_reducible rfl
   rotate_left
   ·
    simp only [Act.put, List.setIfInBounds_toArray, List.set_cons_zero, List.set_cons_succ, i64_w, i32_w]
    rfl
   refine take_ (i := 0) (N := some 36) (v := ?_) (a' := ?_) #[true, true, true, false, false, false, false, false] rfl rfl (take_ofW HT_.out HW_.out (by kernel_rfl)) (fun _ _ _ h => h) (Or.inl ⟨by rfl, ?_⟩) hHeld ?_ ?_
   rotate_left
   ·
    rintro w' ⟨s0, s1⟩
    go_simp
    with_reducible rfl
   rotate_left
   ·
    simp only [Act.put, List.setIfInBounds_toArray, List.set_cons_zero, List.set_cons_succ, i64_w, i32_w]
    rfl
   refine one_ (i := 3) (N := some 39) #[true, true, true, true, false, false, false, false] rfl rfl (one_of HT_.out (by kernel_rfl)) (by decide) (fun K hK => ?_)
   refine Kd.R_lit_step (Kd.int .i64) _ 3 ?hg (N := 39) ?hd (xs := ([1, 2, 3, 0, 4] : List Int)) (inner := [.int .i64 1, .int .i64 2, .int .i64 3, .int .i64 0, .int .i64 4]) (ok := fun _ => True) (okp := fun _ => True) ?hr ?hp (fun _ hk => hk) trivial (Below.refl _ _) (Nat.le_refl _) (by simp) ?_; (case hd => rfl); (case hg => rfl); (case hr => first | (go_simp; done) | (go_simp; rfl)); (case hp => exact (Reps.one (show Kd.M (Kd.int .i64) _ _ _ 1 [.int .i64 1] from rfl) (Reps.one (show Kd.M (Kd.int .i64) _ _ _ 2 [.int .i64 2] from rfl) (Reps.one (show Kd.M (Kd.int .i64) _ _ _ 3 [.int .i64 3] from rfl) (Reps.one (show Kd.M (Kd.int .i64) _ _ _ 0 [.int .i64 0] from rfl) (Reps.one (show Kd.M (Kd.int .i64) _ _ _ 4 [.int .i64 4] from rfl) (Reps.none _ _)))))))
   intro v232 w41 ho42 hb hg_ hnew_
   clear hg_ hnew_
   (first | rw [← Ny231.out] at ho42 | (simp only [Int.reduceToNat] at ho42; rw [← Ny231.out] at ho42))
   have n0_ := Aside0.mk (Kd.R_below (by (with_reducible repeat (first | apply Kd.R_alloc | apply Kd.R_drewN | apply Kd.R_drew)); exact HO217.out) hb)
   have n1_ := Aside0.mk (Kd.R_below (by (with_reducible repeat (first | apply Kd.R_alloc | apply Kd.R_drewN | apply Kd.R_drew)); exact HO222.out) hb)
   have n2_ := Aside0.mk (Kd.R_lower ho42 (below_size (spec_DrawPostTo_auHB)))
   have n3_ := Aside0.mk (blk_below (g := gb210) (o := .cells #[.int .i64 0, .slice none 0 0] 25 (0, 0)) (spec_DrawPostTo_vb BK210) hb)
   have n4_ := Aside0.mk (IsS58.below (spec_DrawPostTo_auHI213) hb)
   have n5_ := Aside0.mk (blk_below (g := gb224) (o := .cells #[.int .i64 t219, .slice Ao36 t220.length co36] 25 (0, 0)) (spec_DrawPostTo_vb BK224) hb)
   have n6_ := Aside0.mk (below_step (spec_DrawPostTo_auHB) hb)
   clear HO217
   clear HO222
   clear BK210
   clear HI213
   clear BK224
   clear HB
   have HO217 := n0_
   have HO222 := n1_
   have HO233 := n2_
   have BK210 := n3_
   have HI213 := n4_
   have BK224 := n5_
   have HB := n6_
   clear n0_ n1_ n2_ n3_ n4_ n5_ n6_
   clear hb ho42
   obtain ⟨Ao43, co43, eo43⟩ := Kd.R_slice HO233.out
   (first | subst eo43 | (injection eo43 with f1_ f2_ f3_; have f4_ := f1_.symm; have f5_ := f3_.symm; clear f1_ f2_ f3_; subst f4_; subst f5_))
   refine hK.out _ _ ⟨(blk_cell BK224.out 0).trans rfl, (blk_cell BK224.out 1).trans rfl⟩ (fun hHeld => ?_)
   clear hK K
   refine norm_ (a' := ?_) ?_ ?_
   rotate_left
   ·
    show Act.put _ (some 39) _ = _
    simp only [Act.put, List.setIfInBounds_toArray, List.set_cons_zero, List.set_cons_succ, i64_w, i32_w]
    rfl
   refine one_ (i := 4) (N := some 40) #[true, true, true, true, true, false, false, false] rfl rfl (one_of HT_.out (by kernel_rfl)) (by decide) (fun K hK => ?_)
   refine goes_ Try.func27 (by kernel_rfl) rfl #[.pointer (some ⟨g213, 0, none⟩), .slice Ao43 y231.length co43] (by rfl) rfl rfl (by (try simp only [List.map_toArray, List.map_cons, List.map_nil]); first | done | rfl | (simp only [List.length_drop, List.length_take]; rfl)) ?_
   with_reducible refine (spec_l9Rd_num.calls k g213 t211 t228 _ _ y231 t234 t235 w _ ?side1 ?side2 ?side3 ?side4 ?side5 A26.out).mono ?_
   (case side1 => exact spec_DrawPostTo_auHI213)
   (case side2 => exact spec_DrawPostTo_auHB)
   (case side3 => repeat (first | exact (Kd.R_reads' HO233.out).2.2 | (with_reducible refine Kd.C_alloc ?_ _) | (with_reducible refine Kd.C_drewN ?_ _) | (with_reducible refine Kd.C_drew ?_)))
   (case side4 => exact (Kd.R_reads' HO233.out).2.1)
   (case side5 => exact far_slice (IsS58.own_ne HI213.out HO233.out (by decide)))
   rintro e w44 ⟨rfl, hi, hb, hk⟩
   refine ⟨_, rfl, ?_⟩
   have n0_ := Aside0.mk (KeepBut.blk hk (g' := gb210) (o := .cells #[.int .i64 0, .slice none 0 0] 25 (0, 0)) (spec_DrawPostTo_vb BK210) NB210_213.out (by simp))
   have n1_ := Aside0.mk (Kd.R_mono (Kd.R_keep (IsS58.apart (show IsS58 w _ g213 t211 t228 from spec_DrawPostTo_auHI213) (by (with_reducible repeat (first | apply Kd.R_alloc | apply Kd.R_drewN | apply Kd.R_drew)); exact HO217.out) (by decide)) hk (fun _ h => h.2)) (fun _ h => h.1))
   have n2_ := Aside0.mk (Kd.R_mono (Kd.R_keep (IsS58.apart (show IsS58 w _ g213 t211 t228 from spec_DrawPostTo_auHI213) (by (with_reducible repeat (first | apply Kd.R_alloc | apply Kd.R_drewN | apply Kd.R_drew)); exact HO222.out) (by decide)) hk (fun _ h => h.2)) (fun _ h => h.1))
   have n3_ := Aside0.mk (KeepBut.blk hk (g' := gb224) (o := .cells #[.int .i64 t219, .slice Ao36 t220.length co36] 25 (0, 0)) (spec_DrawPostTo_vb BK224) NB224_213.out (by simp))
   have n4_ := Aside0.mk (Kd.R_mono (Kd.R_keep (IsS58.apart (show IsS58 w _ g213 t211 t228 from spec_DrawPostTo_auHI213) (by (with_reducible repeat (first | apply Kd.R_alloc | apply Kd.R_drewN | apply Kd.R_drew)); exact HO233.out) (by decide)) hk (fun _ h => h.2)) (fun _ h => h.1))
   have n5_ := Aside0.mk (hb)
   have n6_ := Aside0.mk (hi)
   clear BK210
   clear HO217
   clear HO222
   clear BK224
   clear HO233
   clear HB
   clear HI213
   have BK210 := n0_
   have HO217 := n1_
   have HO222 := n2_
   have BK224 := n3_
   have HO233 := n4_
   have HB := n5_
   have HI213 := n6_
   clear n0_ n1_ n2_ n3_ n4_ n5_ n6_
   (try clear hb)
   (try clear hb2)
   (try clear hk)
   (try clear hi)
   refine hK.out _ _ ⟨(blk_cell BK224.out 0).trans rfl, (blk_cell BK224.out 1).trans rfl⟩ (fun hHeld => ?_)
   clear hK K
   refine norm_ (a' := ?_) ?_ ?_
   rotate_left
   ·
    show Act.put _ (some 40) _ = _
    simp only [Act.put, List.setIfInBounds_toArray, List.set_cons_zero, List.set_cons_succ, i64_w, i32_w]
    rfl
   refine one_ (i := 5) (N := none) #[true, true, true, true, true, true, false, false] rfl rfl (one_of HT_.out (by kernel_rfl)) (by decide) (fun K hK => ?_)
   have hs45 : w44.cell? ⟨gb210, 0, none⟩ = some (.int .i64 0) := (blk_cell BK210.out 0).trans rfl
   have hfs45 := blk_frozen BK210.out 0
   have hns45_1 := NB224_210.out
   have hms45_1 := NB210_224.out
   have hs46 : w44.cell? ⟨gb210, 1, none⟩ = some (.slice none 0 0) := (blk_cell BK210.out 1).trans rfl
   have hfs46 := blk_frozen BK210.out 1
   have hns46_1 := NB224_210.out
   have hms46_1 := NB210_224.out
   refine skip_ (w1 := ?_) (by rfl) rfl ?_ ?_
   rotate_left
   ·
    go_simp
    rfl
   refine hK.out _ _ ⟨((cell_far (p := ⟨gb210, _, none⟩) NB224_210.out _).trans (((cell_far (p := ⟨gb210, _, none⟩) NB224_210.out _).trans (hHeld.1)))), ((cell_far (p := ⟨gb210, _, none⟩) NB224_210.out _).trans (((cell_far (p := ⟨gb210, _, none⟩) NB224_210.out _).trans (hHeld.2))))⟩ (fun hHeld => ?_)
   clear hK K
   refine pure_ (i := 6) (N := some 3) (v := ?_) (a' := ?_) #[true, true, true, true, true, true, true, false] rfl rfl (any_of HT_.out (by kernel_rfl)) (fun _ _ _ h => h) (Or.inl ⟨by rfl, ?_⟩) ?_ ?_
   rotate_left
   ·
    intro w'
    go_simp
    with_reducible rfl
   rotate_left
   ·
    simp only [Act.put, List.setIfInBounds_toArray, List.set_cons_zero, List.set_cons_succ, i64_w, i32_w]
    rfl
   refine pure_ (i := 7) (N := some 4) (v := ?_) (a' := ?_) #[true, true, true, true, true, true, true, true] rfl rfl (any_of HT_.out (by kernel_rfl)) (fun _ _ _ h => h) (Or.inl ⟨by rfl, ?_⟩) ?_ ?_
   rotate_left
   ·
    intro w'
    go_simp
    with_reducible rfl
   rotate_left
   ·
    simp only [Act.put, List.setIfInBounds_toArray, List.set_cons_zero, List.set_cons_succ, i64_w, i32_w]
    rfl
   refine done_ (done_of HT_.out (by kernel_rfl)) ?_
   try go_wp2
   refine bodyPost_ret (results_ctt rfl _ _ gb210 25 #[.int .i64 t219, .slice Ao36 t220.length co36] (0, 0) _ rfl (by (with_reducible repeat (first | refine blk_drewN ?_ _ | refine blk_drew ?_ | refine blk_alloc ?_ _)); refine blk_put (cs := #[.int .i64 t219, .slice none 0 0]) ?_ 1 _ rfl; (with_reducible repeat (first | refine blk_drewN ?_ _ | refine blk_drew ?_ | refine blk_alloc ?_ _)); refine blk_put (cs := #[.int .i64 0, .slice none 0 0]) ?_ 0 _ rfl; (with_reducible repeat (first | refine blk_drewN ?_ _ | refine blk_drew ?_ | refine blk_alloc ?_ _)); exact BK210.out) Try.underlying25 rfl (by kernel_rfl)) rfl ?_
   exact ⟨_, by first | rfl | (simp [errW_none, errW_some] <;> rfl) | (simp [*, errW_none, errW_some] <;> rfl), by (with_reducible repeat (first | apply Kd.R_alloc | apply Kd.R_drewN | apply Kd.R_drew)); exact Kd.R_mono (Kd.R_far (p := ⟨gb210, 1, none⟩) (Kd.R_far (p := ⟨gb210, 0, none⟩) (Kd.R_types HO222.out BK210.out (by decide)) (fun _ hk => hk.2) (.int .i64 t219)) (fun _ hk => hk.2) (.slice Ao36 t220.length co36)) (fun _ hk => trivial), spec_DrawPostTo_auHB⟩
 ·
  rw [if_neg c6] at H
  have c6b0 : decide (0 < (t220.length : Int)) = false := decide_eq_false c6
  have c6b1 : decide (0 < t220.length) = false := decide_eq_false (by omega)
  clear c6
  obtain ⟨y236, hy236⟩ : ∃ y_ : List Int, y_ = (([1, 2, 3, 0, 4] : List Int)) := ⟨_, rfl⟩
  replace H : ((spec_l9Rd_num.f k t211 t226 y236).bind fun bt239 => (some (t219, t220, t225, bt239.1))) = some (r1, r2, r3, r4) := by first | (rw [hy236]; with_reducible exact H) | (have H2_ := (Option.bind_some _ _).symm.trans H; rw [hy236]; with_reducible exact H2_) | (have H2_ := (Option.bind_some _ _).symm.trans H; with_reducible exact H2_) | with_reducible exact H | (rw [hy236]; exact H) | exact H
  have Ny236 := Aside0.mk hy236
  clear hy236
  replace H := Option.bind_eq_some_iff.mp H
  obtain ⟨⟨t239, t240⟩, A470, H⟩ := H
  replace H : (some (t219, t220, t225, t239)) = some (r1, r2, r3, r4) := H
  have A47 := Aside0.mk A470
  clear A470
  simp only [Option.some.injEq, Prod.mk.injEq] at H
  obtain ⟨rfl, rfl, rfl, rfl⟩ := H
  go_enter Try.func15, Try.ntmps15
  try go_wp2_with (first | ((with_reducible refine gate_dst (N := 2) rfl ?_); refine box_event ?hg (N := 2) ?hd (cs := #[.int .i64 0, .slice none 0 0]) (t := 25) ?hr ?_; (case hd => rfl); (case hg => rfl); (case hr => first | (go_simp; done) | (go_simp; rfl)); intro gb210 hg w48 hbox hb; have n0_ := Aside0.mk (below_step (spec_DrawPostTo_auHB) hb); have n1_ := Aside0.mk (hbox); have n2_ := Aside0.mk ((by rw [hg]; exact (below_size (spec_DrawPostTo_auHB)) : w.heap.size ≤ gb210)); have n3_ := Aside0.mk ((by rw [hg]; exact (below_size (spec_DrawPostTo_auHB)) : w.heap.size ≤ gb210)); clear HB; have HB := n0_; have BK210 := n1_; have GW210 := n2_; have GE210 := n3_; clear n0_ n1_ n2_ n3_; clear hb hbox hg) | ((with_reducible refine gate_callee (f := 21) rfl ?_); refine goesL_ (some 9) rfl rfl Try.func21 (by kernel_rfl) rfl #[.slice A0 l0.length c0] rfl (by (try simp only [List.map_toArray, List.map_cons, List.map_nil]); first | done | rfl | (simp only [List.length_drop, List.length_take]; rfl)) ?_; (with_reducible refine (spec_l9Open.calls _ _ l0 t211 t212 w _ ?side1 ?side2 ?side3 A2.out).mono ?_); (case side1 => exact spec_DrawPostTo_auHB); (case side2 => exact HR0.out); (case side3 => exact HC0.out); rintro e w49 ⟨g213, rfl, hi, hb, hb2⟩; refine ⟨_, rfl, ?_⟩; have n0_ := Aside0.mk (blk_below (g := gb210) (o := .cells #[.int .i64 0, .slice none 0 0] 25 (0, 0)) (spec_DrawPostTo_vb BK210) hb2); have n1_ := Aside0.mk (hb); have n2_ := Aside0.mk (hi); have n3_ := Aside0.mk (IsS58.ne_blk hi (blk_below (g := gb210) (o := .cells #[.int .i64 0, .slice none 0 0] 25 (0, 0)) (spec_DrawPostTo_vb BK210) hb2) (by decide)); have n4_ := Aside0.mk (Ne.symm (IsS58.ne_blk hi (blk_below (g := gb210) (o := .cells #[.int .i64 0, .slice none 0 0] 25 (0, 0)) (spec_DrawPostTo_vb BK210) hb2) (by decide))); clear BK210; clear HB; have BK210 := n0_; have HB := n1_; have HI213 := n2_; have NB213_210 := n3_; have NB210_213 := n4_; clear n0_ n1_ n2_ n3_ n4_; (try clear hb); (try clear hb2); (try clear hk); (try clear hi)) | ((with_reducible refine gate_callee (f := 22) rfl ?_); refine goesL_ (some 12) rfl rfl Try.func22 (by kernel_rfl) rfl #[.pointer (some ⟨g213, 0, none⟩)] rfl (by (try simp only [List.map_toArray, List.map_cons, List.map_nil]); first | done | rfl | (simp only [List.length_drop, List.length_take]; rfl)) ?_; (with_reducible refine (spec_l1Post.calls k g213 t211 t212 t214 t215 t218 w _ ?side1 ?side2 A3.out).mono ?_); (case side1 => exact spec_DrawPostTo_auHI213); (case side2 => exact spec_DrawPostTo_auHB); rintro e w50 ⟨v216, rfl, ho0, hi, hb, hk⟩; refine ⟨_, rfl, ?_⟩; have n0_ := Aside0.mk (KeepBut.blk hk (g' := gb210) (o := .cells #[.int .i64 0, .slice none 0 0] 25 (0, 0)) (spec_DrawPostTo_vb BK210) NB210_213.out (by simp)); have n1_ := Aside0.mk (Kd.R_lower ho0 (below_size (spec_DrawPostTo_auHB))); have n2_ := Aside0.mk (hb); have n3_ := Aside0.mk (hi); clear BK210; clear HB; clear HI213; have BK210 := n0_; have HO217 := n1_; have HB := n2_; have HI213 := n3_; clear n0_ n1_ n2_ n3_; (try clear hb); (try clear hb2); (try clear hk); (try clear hi); (try clear ho0); obtain ⟨Ao51, co51, eo51⟩ := Kd.R_slice HO217.out; subst eo51) | ((with_reducible refine gate_callee (f := 23) rfl ?_); refine goesL_ (some 13) rfl rfl Try.func23 (by kernel_rfl) rfl #[.pointer (some ⟨g213, 0, none⟩), .agg #[.int .i64 t214, .slice Ao51 t215.length co51]] rfl (by (try simp only [List.map_toArray, List.map_cons, List.map_nil]); first | done | rfl | (simp only [List.length_drop, List.length_take]; rfl)) ?_; (with_reducible refine (spec_l1Bent.calls k g213 t211 t218 t214 _ _ t215 t219 t220 t223 w _ ?side1 ?side2 ?side3 ?side4 A4.out).mono ?_); (case side1 => exact spec_DrawPostTo_auHI213); (case side2 => exact spec_DrawPostTo_auHB); (case side3 => exact Kd.C_foot_own (IsS58.apart (show IsS58 w _ g213 t211 t218 from spec_DrawPostTo_auHI213) (by (with_reducible repeat (first | apply Kd.R_alloc | apply Kd.R_drewN | apply Kd.R_drew)); exact HO217.out) (by decide)) (fun _ h_ => h_.2)); (case side4 => exact (Kd.R_reads' HO217.out).2.1); rintro e w52 ⟨v221, rfl, ho0, hi, hb, hk⟩; refine ⟨_, rfl, ?_⟩; have n0_ := Aside0.mk (KeepBut.blk hk (g' := gb210) (o := .cells #[.int .i64 0, .slice none 0 0] 25 (0, 0)) (spec_DrawPostTo_vb BK210) NB210_213.out (by simp)); have n1_ := Aside0.mk (Kd.R_mono (Kd.R_told (Kd.R_oldK (IsS58.apart (show IsS58 w _ g213 t211 t218 from spec_DrawPostTo_auHI213) (by (with_reducible repeat (first | apply Kd.R_alloc | apply Kd.R_drewN | apply Kd.R_drew)); exact HO217.out) (by decide)) hk) (Kd.R_base ho0)) (fun _ h_ => h_.1)); have n2_ := Aside0.mk (Kd.R_lower (Kd.R_new' ho0 (Kd.R_lt (by (with_reducible repeat (first | apply Kd.R_alloc | apply Kd.R_drewN | apply Kd.R_drew)); exact HO217.out))) (below_size (spec_DrawPostTo_auHB))); have n3_ := Aside0.mk (hb); have n4_ := Aside0.mk (hi); clear BK210; clear HO217; clear HB; clear HI213; have BK210 := n0_; have HO217 := n1_; have HO222 := n2_; have HB := n3_; have HI213 := n4_; clear n0_ n1_ n2_ n3_ n4_; (try clear hb); (try clear hb2); (try clear hk); (try clear hi); (try clear ho0)) | ((with_reducible refine gate_dst (N := 6) rfl ?_); refine box_event ?hg (N := 6) ?hd (cs := #[.int .i64 0, .slice none 0 0]) (t := 25) ?hr ?_; (case hd => rfl); (case hg => rfl); (case hr => first | (go_simp; done) | (go_simp; rfl)); intro gb224 hg w53 hbox hb; have n0_ := Aside0.mk (Kd.R_below (by (with_reducible repeat (first | apply Kd.R_alloc | apply Kd.R_drewN | apply Kd.R_drew)); exact HO217.out) hb); have n1_ := Aside0.mk (Kd.R_below (by (with_reducible repeat (first | apply Kd.R_alloc | apply Kd.R_drewN | apply Kd.R_drew)); exact HO222.out) hb); have n2_ := Aside0.mk (blk_below (g := gb210) (o := .cells #[.int .i64 0, .slice none 0 0] 25 (0, 0)) (spec_DrawPostTo_vb BK210) hb); have n3_ := Aside0.mk (IsS58.below (spec_DrawPostTo_auHI213) hb); have n4_ := Aside0.mk (below_step (spec_DrawPostTo_auHB) hb); have n5_ := Aside0.mk (hbox); have n6_ := Aside0.mk ((by rw [hg]; exact (below_size (spec_DrawPostTo_auHB)) : w.heap.size ≤ gb224)); have n7_ := Aside0.mk ((by rw [hg]; exact (below_size (spec_DrawPostTo_auHB)) : w.heap.size ≤ gb224)); have n8_ := Aside0.mk ((by rw [hg]; exact Nat.ne_of_lt (blk_lt (g := gb210) (o := .cells #[.int .i64 0, .slice none 0 0] 25 (0, 0)) (spec_DrawPostTo_vb BK210)) : gb210 ≠ gb224)); have n9_ := Aside0.mk ((by rw [hg]; exact Nat.ne_of_gt (blk_lt (g := gb210) (o := .cells #[.int .i64 0, .slice none 0 0] 25 (0, 0)) (spec_DrawPostTo_vb BK210)) : gb224 ≠ gb210)); have n10_ := Aside0.mk ((by rw [hg]; exact Nat.ne_of_lt (IsS58.lt (show IsS58 w _ g213 t211 t223 from spec_DrawPostTo_auHI213)) : g213 ≠ gb224)); have n11_ := Aside0.mk ((by rw [hg]; exact Nat.ne_of_gt (IsS58.lt (show IsS58 w _ g213 t211 t223 from spec_DrawPostTo_auHI213)) : gb224 ≠ g213)); clear HO217; clear HO222; clear BK210; clear HI213; clear HB; have HO217 := n0_; have HO222 := n1_; have BK210 := n2_; have HI213 := n3_; have HB := n4_; have BK224 := n5_; have GW224 := n6_; have GE224 := n7_; have NB210_224 := n8_; have NB224_210 := n9_; have NB213_224 := n10_; have NB224_213 := n11_; clear n0_ n1_ n2_ n3_ n4_ n5_ n6_ n7_ n8_ n9_ n10_ n11_; clear hb hbox hg; have hnb54 := NB224_210.out; have hnc54 := NB210_224.out; have hnb55 := NB224_213.out; have hnc55 := NB213_224.out; have hcz56_0 : w53.cell? ⟨gb224, 0, none⟩ = some (.int .i64 0) := (blk_cell BK224.out 0).trans rfl; have hcz56_1 : w53.cell? ⟨gb224, 1, none⟩ = some (.slice none 0 0) := (blk_cell BK224.out 1).trans rfl; have hfz56_0 := blk_frozen BK224.out 0; have hfz56_1 := blk_frozen BK224.out 1; obtain ⟨Ao57, co57, eo57⟩ := Kd.R_slice HO222.out; subst eo57) | ((with_reducible refine gate_callee (f := 26) rfl ?_); refine goesL_ (some 15) rfl rfl Try.func26 (by kernel_rfl) rfl #[.pointer (some ⟨g213, 0, none⟩)] rfl (by (try simp only [List.map_toArray, List.map_cons, List.map_nil]); first | done | rfl | (simp only [List.length_drop, List.length_take]; rfl)) ?_; (with_reducible refine (spec_l1Acct.calls k g213 t211 t223 t225 t226 w _ ?side1 ?side2 A5.out).mono ?_); (case side1 => exact spec_DrawPostTo_auHI213); (case side2 => exact spec_DrawPostTo_auHB); rintro e w58 ⟨rfl, hi, hb, hk⟩; refine ⟨_, rfl, ?_⟩; have n0_ := Aside0.mk (KeepBut.blk hk (g' := gb210) (o := .cells #[.int .i64 0, .slice none 0 0] 25 (0, 0)) (by (with_reducible repeat (first | refine blk_drewN ?_ _ | refine blk_drew ?_ | refine blk_alloc ?_ _)); refine blk_far ?_ NB210_224.out _; (with_reducible repeat (first | refine blk_drewN ?_ _ | refine blk_drew ?_ | refine blk_alloc ?_ _)); refine blk_far ?_ NB210_224.out _; (with_reducible repeat (first | refine blk_drewN ?_ _ | refine blk_drew ?_ | refine blk_alloc ?_ _)); exact BK210.out) NB210_213.out (by simp)); have n1_ := Aside0.mk (Kd.R_mono (Kd.R_keep (IsS58.apart (show IsS58 w _ g213 t211 t223 from spec_DrawPostTo_auHI213) (by (with_reducible repeat (first | apply Kd.R_alloc | apply Kd.R_drewN | apply Kd.R_drew)); exact (Kd.R_mono (Kd.R_far (p := ⟨gb224, 1, none⟩) (Kd.R_far (p := ⟨gb224, 0, none⟩) (Kd.R_types HO217.out BK224.out (by decide)) (fun _ hk => hk.2) (.int .i64 t219)) (fun _ hk => hk.2) (.slice Ao57 t220.length co57)) (fun _ h_ => h_.1))) (by decide)) hk (fun _ h => h.2)) (fun _ h => h.1)); have n2_ := Aside0.mk (Kd.R_mono (Kd.R_keep (IsS58.apart (show IsS58 w _ g213 t211 t223 from spec_DrawPostTo_auHI213) (by (with_reducible repeat (first | apply Kd.R_alloc | apply Kd.R_drewN | apply Kd.R_drew)); exact (Kd.R_mono (Kd.R_far (p := ⟨gb224, 1, none⟩) (Kd.R_far (p := ⟨gb224, 0, none⟩) (Kd.R_types HO222.out BK224.out (by decide)) (fun _ hk => hk.2) (.int .i64 t219)) (fun _ hk => hk.2) (.slice Ao57 t220.length co57)) (fun _ h_ => h_.1))) (by decide)) hk (fun _ h => h.2)) (fun _ h => h.1)); have n3_ := Aside0.mk (KeepBut.blk hk (g' := gb224) (o := .cells #[.int .i64 t219, .slice Ao57 t220.length co57] 25 (0, 0)) (by (with_reducible repeat (first | refine blk_drewN ?_ _ | refine blk_drew ?_ | refine blk_alloc ?_ _)); refine blk_put (cs := #[.int .i64 t219, .slice none 0 0]) ?_ 1 _ rfl; (with_reducible repeat (first | refine blk_drewN ?_ _ | refine blk_drew ?_ | refine blk_alloc ?_ _)); refine blk_put (cs := #[.int .i64 0, .slice none 0 0]) ?_ 0 _ rfl; (with_reducible repeat (first | refine blk_drewN ?_ _ | refine blk_drew ?_ | refine blk_alloc ?_ _)); exact BK224.out) NB224_213.out (by simp)); have n4_ := Aside0.mk (hb); have n5_ := Aside0.mk (hi); clear BK210; clear HO217; clear HO222; clear BK224; clear HB; clear HI213; have BK210 := n0_; have HO217 := n1_; have HO222 := n2_; have BK224 := n3_; have HB := n4_; have HI213 := n5_; clear n0_ n1_ n2_ n3_ n4_ n5_; (try clear hb); (try clear hb2); (try clear hk); (try clear hi); have hcz59_0 : w58.cell? ⟨gb224, 0, none⟩ = some (.int .i64 t219) := (blk_cell BK224.out 0).trans rfl; have hcz59_1 : w58.cell? ⟨gb224, 1, none⟩ = some (.slice Ao57 t220.length co57) := (blk_cell BK224.out 1).trans rfl; have hfz59_0 := blk_frozen BK224.out 0; have hfz59_1 := blk_frozen BK224.out 1))
  have n0_ := Aside0.mk (Kd.R_drew HO217.out)
  have n1_ := Aside0.mk (Kd.R_drew HO222.out)
  have n2_ := Aside0.mk (blk_drew BK210.out)
  have n3_ := Aside0.mk (blk_drew BK224.out)
  have n4_ := Aside0.mk (IsS58.drew HI213.out)
  have n5_ := Aside0.mk (below_drew1 HB.out)
  clear HO217
  clear HO222
  clear BK210
  clear BK224
  clear HI213
  clear HB
  have HO217 := n0_
  have HO222 := n1_
  have BK210 := n2_
  have BK224 := n3_
  have HI213 := n4_
  have HB := n5_
  clear n0_ n1_ n2_ n3_ n4_ n5_
  refine start_ (n := 8) (S := fun w' => w'.cell? ⟨gb224, 0, none⟩ = some (.int .i64 t219) ∧ w'.cell? ⟨gb224, 1, none⟩ = some (.slice Ao57 t220.length co57)) (ds := []) #[false, false, false, false, false, false, false, false] (by kernel_rfl) rfl rfl ⟨(blk_cell BK224.out 0).trans rfl, (blk_cell BK224.out 1).trans rfl⟩ (fun hHeld => ?_); refine with_tabW spec_DrawPostTo.tab6 spec_DrawPostTo.bits6 (fun HT_ HW_ => ?_)
  generalize w58.drew = w60 at HO217 HO222 BK210 BK224 HI213 HB hHeld ⊢
  refine pure_ (i := 1) (N := some 37) (v := ?_) (a' := ?_) #[false, true, false, false, false, false, false, false] rfl rfl (any_of HT_.out (by kernel_rfl)) (fun _ _ _ h => h) (Or.inl ⟨by rfl, ?_⟩) ?_ ?_
  rotate_left
  ·
   intro w'
   go_simp
   with_reducible rfl
  rotate_left
  ·
   simp only [Act.put, List.setIfInBounds_toArray, List.set_cons_zero, List.set_cons_succ, i64_w, i32_w]
   rfl
  refine pure_ (i := 2) (N := some 38) (v := ?_) (a' := ?_) #[false, true, true, false, false, false, false, false] rfl rfl (any_of HT_.out (by kernel_rfl)) (fun _ _ _ h => h) (Or.inl ⟨by rfl, ?_⟩) ?_ ?_
  rotate_left
  ·
   intro w'
   go_simp
   with_reducible rfl
  rotate_left
  ·
   simp only [Act.put, List.setIfInBounds_toArray, List.set_cons_zero, List.set_cons_succ, i64_w, i32_w]
   rfl
  refine take_ (i := 0) (N := some 36) (v := ?_) (a' := ?_) #[true, true, true, false, false, false, false, false] rfl rfl (take_ofW HT_.out HW_.out (by kernel_rfl)) (fun _ _ _ h => h) (Or.inl ⟨by rfl, ?_⟩) hHeld ?_ ?_
  rotate_left
  ·
   rintro w' ⟨s0, s1⟩
   go_simp
   with_reducible rfl
  rotate_left
  ·
   simp only [Act.put, List.setIfInBounds_toArray, List.set_cons_zero, List.set_cons_succ, i64_w, i32_w]
   rfl
  refine one_ (i := 3) (N := some 39) #[true, true, true, true, false, false, false, false] rfl rfl (one_of HT_.out (by kernel_rfl)) (by decide) (fun K hK => ?_)
  refine Kd.R_lit_step (Kd.int .i64) _ 3 ?hg (N := 39) ?hd (xs := ([1, 2, 3, 0, 4] : List Int)) (inner := [.int .i64 1, .int .i64 2, .int .i64 3, .int .i64 0, .int .i64 4]) (ok := fun _ => True) (okp := fun _ => True) ?hr ?hp (fun _ hk => hk) trivial (Below.refl _ _) (Nat.le_refl _) (by simp) ?_; (case hd => rfl); (case hg => rfl); (case hr => first | (go_simp; done) | (go_simp; rfl)); (case hp => exact (Reps.one (show Kd.M (Kd.int .i64) _ _ _ 1 [.int .i64 1] from rfl) (Reps.one (show Kd.M (Kd.int .i64) _ _ _ 2 [.int .i64 2] from rfl) (Reps.one (show Kd.M (Kd.int .i64) _ _ _ 3 [.int .i64 3] from rfl) (Reps.one (show Kd.M (Kd.int .i64) _ _ _ 0 [.int .i64 0] from rfl) (Reps.one (show Kd.M (Kd.int .i64) _ _ _ 4 [.int .i64 4] from rfl) (Reps.none _ _)))))))
  intro v237 w61 ho62 hb hg_ hnew_
  clear hg_ hnew_
  (first | rw [← Ny236.out] at ho62 | (simp only [Int.reduceToNat] at ho62; rw [← Ny236.out] at ho62))
  have n0_ := Aside0.mk (Kd.R_below (by (with_reducible repeat (first | apply Kd.R_alloc | apply Kd.R_drewN | apply Kd.R_drew)); exact HO217.out) hb)
  have n1_ := Aside0.mk (Kd.R_below (by (with_reducible repeat (first | apply Kd.R_alloc | apply Kd.R_drewN | apply Kd.R_drew)); exact HO222.out) hb)
  have n2_ := Aside0.mk (Kd.R_lower ho62 (below_size (spec_DrawPostTo_auHB)))
  have n3_ := Aside0.mk (blk_below (g := gb210) (o := .cells #[.int .i64 0, .slice none 0 0] 25 (0, 0)) (spec_DrawPostTo_vb BK210) hb)
  have n4_ := Aside0.mk (IsS58.below (spec_DrawPostTo_auHI213) hb)
  have n5_ := Aside0.mk (blk_below (g := gb224) (o := .cells #[.int .i64 t219, .slice Ao57 t220.length co57] 25 (0, 0)) (spec_DrawPostTo_vb BK224) hb)
  have n6_ := Aside0.mk (below_step (spec_DrawPostTo_auHB) hb)
  clear HO217
  clear HO222
  clear BK210
  clear HI213
  clear BK224
  clear HB
  have HO217 := n0_
  have HO222 := n1_
  have HO238 := n2_
  have BK210 := n3_
  have HI213 := n4_
  have BK224 := n5_
  have HB := n6_
  clear n0_ n1_ n2_ n3_ n4_ n5_ n6_
  clear hb ho62
  obtain ⟨Ao63, co63, eo63⟩ := Kd.R_slice HO238.out
  (first | subst eo63 | (injection eo63 with f1_ f2_ f3_; have f4_ := f1_.symm; have f5_ := f3_.symm; clear f1_ f2_ f3_; subst f4_; subst f5_))
  refine hK.out _ _ ⟨(blk_cell BK224.out 0).trans rfl, (blk_cell BK224.out 1).trans rfl⟩ (fun hHeld => ?_)
  clear hK K
  refine norm_ (a' := ?_) ?_ ?_
  rotate_left
  ·
   show Act.put _ (some 39) _ = _
   simp only [Act.put, List.setIfInBounds_toArray, List.set_cons_zero, List.set_cons_succ, i64_w, i32_w]
   rfl
  refine one_ (i := 4) (N := some 40) #[true, true, true, true, true, false, false, false] rfl rfl (one_of HT_.out (by kernel_rfl)) (by decide) (fun K hK => ?_)
  refine goes_ Try.func27 (by kernel_rfl) rfl #[.pointer (some ⟨g213, 0, none⟩), .slice Ao63 y236.length co63] (by rfl) rfl rfl (by (try simp only [List.map_toArray, List.map_cons, List.map_nil]); first | done | rfl | (simp only [List.length_drop, List.length_take]; rfl)) ?_
  with_reducible refine (spec_l9Rd_num.calls k g213 t211 t226 _ _ y236 t239 t240 w _ ?side1 ?side2 ?side3 ?side4 ?side5 A47.out).mono ?_
  (case side1 => exact spec_DrawPostTo_auHI213)
  (case side2 => exact spec_DrawPostTo_auHB)
  (case side3 => repeat (first | exact (Kd.R_reads' HO238.out).2.2 | (with_reducible refine Kd.C_alloc ?_ _) | (with_reducible refine Kd.C_drewN ?_ _) | (with_reducible refine Kd.C_drew ?_)))
  (case side4 => exact (Kd.R_reads' HO238.out).2.1)
  (case side5 => exact far_slice (IsS58.own_ne HI213.out HO238.out (by decide)))
  rintro e w64 ⟨rfl, hi, hb, hk⟩
  refine ⟨_, rfl, ?_⟩
  have n0_ := Aside0.mk (KeepBut.blk hk (g' := gb210) (o := .cells #[.int .i64 0, .slice none 0 0] 25 (0, 0)) (spec_DrawPostTo_vb BK210) NB210_213.out (by simp))
  have n1_ := Aside0.mk (Kd.R_mono (Kd.R_keep (IsS58.apart (show IsS58 w _ g213 t211 t226 from spec_DrawPostTo_auHI213) (by (with_reducible repeat (first | apply Kd.R_alloc | apply Kd.R_drewN | apply Kd.R_drew)); exact HO217.out) (by decide)) hk (fun _ h => h.2)) (fun _ h => h.1))
  have n2_ := Aside0.mk (Kd.R_mono (Kd.R_keep (IsS58.apart (show IsS58 w _ g213 t211 t226 from spec_DrawPostTo_auHI213) (by (with_reducible repeat (first | apply Kd.R_alloc | apply Kd.R_drewN | apply Kd.R_drew)); exact HO222.out) (by decide)) hk (fun _ h => h.2)) (fun _ h => h.1))
  have n3_ := Aside0.mk (KeepBut.blk hk (g' := gb224) (o := .cells #[.int .i64 t219, .slice Ao57 t220.length co57] 25 (0, 0)) (spec_DrawPostTo_vb BK224) NB224_213.out (by simp))
  have n4_ := Aside0.mk (Kd.R_mono (Kd.R_keep (IsS58.apart (show IsS58 w _ g213 t211 t226 from spec_DrawPostTo_auHI213) (by (with_reducible repeat (first | apply Kd.R_alloc | apply Kd.R_drewN | apply Kd.R_drew)); exact HO238.out) (by decide)) hk (fun _ h => h.2)) (fun _ h => h.1))
  have n5_ := Aside0.mk (hb)
  have n6_ := Aside0.mk (hi)
  clear BK210
  clear HO217
  clear HO222
  clear BK224
  clear HO238
  clear HB
  clear HI213
  have BK210 := n0_
  have HO217 := n1_
  have HO222 := n2_
  have BK224 := n3_
  have HO238 := n4_
  have HB := n5_
  have HI213 := n6_
  clear n0_ n1_ n2_ n3_ n4_ n5_ n6_
  (try clear hb)
  (try clear hb2)
  (try clear hk)
  (try clear hi)
  refine hK.out _ _ ⟨(blk_cell BK224.out 0).trans rfl, (blk_cell BK224.out 1).trans rfl⟩ (fun hHeld => ?_)
  clear hK K
  refine norm_ (a' := ?_) ?_ ?_
  rotate_left
  ·
   show Act.put _ (some 40) _ = _
   simp only [Act.put, List.setIfInBounds_toArray, List.set_cons_zero, List.set_cons_succ, i64_w, i32_w]
   rfl
  refine one_ (i := 5) (N := none) #[true, true, true, true, true, true, false, false] rfl rfl (one_of HT_.out (by kernel_rfl)) (by decide) (fun K hK => ?_)
  have hs65 : w64.cell? ⟨gb210, 0, none⟩ = some (.int .i64 0) := (blk_cell BK210.out 0).trans rfl
  have hfs65 := blk_frozen BK210.out 0
  have hns65_1 := NB224_210.out
  have hms65_1 := NB210_224.out
  have hs66 : w64.cell? ⟨gb210, 1, none⟩ = some (.slice none 0 0) := (blk_cell BK210.out 1).trans rfl
  have hfs66 := blk_frozen BK210.out 1
  have hns66_1 := NB224_210.out
  have hms66_1 := NB210_224.out
  refine skip_ (w1 := ?_) (by rfl) rfl ?_ ?_
  rotate_left
  ·
   go_simp
   rfl
  refine hK.out _ _ ⟨((cell_far (p := ⟨gb210, _, none⟩) NB224_210.out _).trans (((cell_far (p := ⟨gb210, _, none⟩) NB224_210.out _).trans (hHeld.1)))), ((cell_far (p := ⟨gb210, _, none⟩) NB224_210.out _).trans (((cell_far (p := ⟨gb210, _, none⟩) NB224_210.out _).trans (hHeld.2))))⟩ (fun hHeld => ?_)
  clear hK K
  refine pure_ (i := 6) (N := some 3) (v := ?_) (a' := ?_) #[true, true, true, true, true, true, true, false] rfl rfl (any_of HT_.out (by kernel_rfl)) (fun _ _ _ h => h) (Or.inl ⟨by rfl, ?_⟩) ?_ ?_
  rotate_left
  ·
   intro w'
   go_simp
   with_reducible rfl
  rotate_left
  ·
   simp only [Act.put, List.setIfInBounds_toArray, List.set_cons_zero, List.set_cons_succ, i64_w, i32_w]
   rfl
  refine pure_ (i := 7) (N := some 4) (v := ?_) (a' := ?_) #[true, true, true, true, true, true, true, true] rfl rfl (any_of HT_.out (by kernel_rfl)) (fun _ _ _ h => h) (Or.inl ⟨by rfl, ?_⟩) ?_ ?_
  rotate_left
  ·
   intro w'
   go_simp
   with_reducible rfl
  rotate_left
  ·
   simp only [Act.put, List.setIfInBounds_toArray, List.set_cons_zero, List.set_cons_succ, i64_w, i32_w]
   rfl
  refine done_ (done_of HT_.out (by kernel_rfl)) ?_
  try go_wp2
  refine bodyPost_ret (results_ctt rfl _ _ gb210 25 #[.int .i64 t219, .slice Ao57 t220.length co57] (0, 0) _ rfl (by (with_reducible repeat (first | refine blk_drewN ?_ _ | refine blk_drew ?_ | refine blk_alloc ?_ _)); refine blk_put (cs := #[.int .i64 t219, .slice none 0 0]) ?_ 1 _ rfl; (with_reducible repeat (first | refine blk_drewN ?_ _ | refine blk_drew ?_ | refine blk_alloc ?_ _)); refine blk_put (cs := #[.int .i64 0, .slice none 0 0]) ?_ 0 _ rfl; (with_reducible repeat (first | refine blk_drewN ?_ _ | refine blk_drew ?_ | refine blk_alloc ?_ _)); exact BK210.out) Try.underlying25 rfl (by kernel_rfl)) rfl ?_
  exact ⟨_, by first | rfl | (simp [errW_none, errW_some] <;> rfl) | (simp [*, errW_none, errW_some] <;> rfl), by (with_reducible repeat (first | apply Kd.R_alloc | apply Kd.R_drewN | apply Kd.R_drew)); exact Kd.R_mono (Kd.R_far (p := ⟨gb210, 1, none⟩) (Kd.R_far (p := ⟨gb210, 0, none⟩) (Kd.R_types HO222.out BK210.out (by decide)) (fun _ hk => hk.2) (.int .i64 t219)) (fun _ hk => hk.2) (.slice Ao57 t220.length co57)) (fun _ hk => trivial), spec_DrawPostTo_auHB⟩

/-! ### impl_AcctOk: function 12 -/
mutual
def impl_AcctOk.j0 : Nat → ByteArray → Bool → Option (Bool)
  | 0, _, _ => none
  | k + 1, x0, x11 => if x11 = true then (some false) else (impl_AcctOk.l0 k x0 (x0.size : Int) 0)
def impl_AcctOk.l0 : Nat → ByteArray → Int → Int → Option (Bool)
  | 0, _, _, _ => none
  | k + 1, x0, x13, x14 => if x14 < x13 then (if 0 ≤ x14 then (if x14 < (x0.size : Int) then (if (bt x0 x14) < 97 then (some false) else (if (bt x0 x14) > 122 then (some false) else (impl_AcctOk.l0 k x0 x13 (wrap64 (x14 + 1))))) else (none)) else (none)) else (some true)
end
def impl_AcctOk.f (k : Nat) (a0 : ByteArray) : Option (Bool) := if (a0.size : Int) < 1 then (impl_AcctOk.j0 k a0 true) else (impl_AcctOk.j0 k a0 (decide ((a0.size : Int) > 4)))
theorem impl_AcctOk.mono_l : ∀ k, (∀ y0 y1, LeO (impl_AcctOk.j0 k y0 y1) (impl_AcctOk.j0 (k + 1) y0 y1)) ∧ (∀ y0 y1 y2, LeO (impl_AcctOk.l0 k y0 y1 y2) (impl_AcctOk.l0 (k + 1) y0 y1 y2))
  | 0 => ⟨fun _ _ r h => by simp [impl_AcctOk.j0] at h, fun _ _ _ r h => by simp [impl_AcctOk.l0] at h⟩
  | k + 1 => by
    obtain ⟨ih0, ih1⟩ := impl_AcctOk.mono_l k
    refine ⟨?_, ?_⟩
    · intro y0 y1
      unfold impl_AcctOk.j0
      repeat' first
      | (with_reducible exact ih0 _ _)
      | (with_reducible exact ih1 _ _ _)
      | (with_reducible exact LeO.refl _)
      | (with_reducible exact LeO.none _)
      | (with_reducible refine LeO.ite ?_ ?_)
      | (with_reducible refine LeO.bind ?_ (fun _ => ?_))
      | exact ih0 _ _
      | exact ih1 _ _ _
      | exact LeO.none _
      | refine LeO.ite ?_ ?_
      | refine LeO.bind ?_ (fun _ => ?_)
    · intro y0 y1 y2
      unfold impl_AcctOk.l0
      repeat' first
      | (with_reducible exact ih0 _ _)
      | (with_reducible exact ih1 _ _ _)
      | (with_reducible exact LeO.refl _)
      | (with_reducible exact LeO.none _)
      | (with_reducible refine LeO.ite ?_ ?_)
      | (with_reducible refine LeO.bind ?_ (fun _ => ?_))
      | exact ih0 _ _
      | exact ih1 _ _ _
      | exact LeO.none _
      | refine LeO.ite ?_ ?_
      | refine LeO.bind ?_ (fun _ => ?_)
theorem impl_AcctOk.mono : ∀ a0 k, LeO (impl_AcctOk.f k a0) (impl_AcctOk.f (k + 1) a0) := by
  intro a0 k
  obtain ⟨ih0, ih1⟩ := impl_AcctOk.mono_l k
  unfold impl_AcctOk.f
  repeat' first
      | (with_reducible exact ih0 _ _)
      | (with_reducible exact ih1 _ _ _)
      | (with_reducible exact LeO.refl _)
      | (with_reducible exact LeO.none _)
      | (with_reducible refine LeO.ite ?_ ?_)
      | (with_reducible refine LeO.bind ?_ (fun _ => ?_))
      | exact ih0 _ _
      | exact ih1 _ _ _
      | exact LeO.none _
      | refine LeO.ite ?_ ?_
      | refine LeO.bind ?_ (fun _ => ?_)
set_option maxHeartbeats 8000000 in
set_option maxRecDepth 100000 in
theorem impl_AcctOk.calls (k : Nat) (a0 : ByteArray) (r : Bool) (w : World) (h : impl_AcctOk.f k a0 = some r) :
    Calls Try.prog 12 #[.string a0] w fun e w' => e = .returned (.bool r) ∧ Drawn0 w w' := by
  have H : (if (a0.size : Int) < 1 then (impl_AcctOk.j0 k a0 true) else (impl_AcctOk.j0 k a0 (decide ((a0.size : Int) > 4)))) = some r := h
  clear h
  have HC2 := Aside0.mk H
  clear H
  go_enter Try.func12, Try.ntmps12
  go_upto_region 1 with (fail)
  go_cut [11] (fun v11 wc => ∃ (kq : Nat) (x11_1 : Bool), v11 = .bool x11_1 ∧ Aside0 (impl_AcctOk.j0 kq a0 x11_1 = some r) ∧ Aside0 (kq ≤ k) ∧ Drawn0 w wc)
  case first =>
    have H := HC2.out
    clear HC2
    by_cases c3 : (a0.size : Int) < 1
    · rw [if_pos c3] at H
      have c3b0 : decide ((a0.size : Int) < 1) = true := decide_eq_true c3
      have c3b1 : decide (a0.size < 1) = true := decide_eq_true (by omega)
      clear c3
      (first | rw [c3b0] | (simp only [i64_w, i32_w]; rw [c3b0]) | skip)
      have H' := Aside0.mk H
      clear H
      go_wp2
      go_meet
      case rel => exact ⟨_, (true), (by first | rfl | (simp; done) | (simp [*]; done)), H', ⟨by first | omega | exact Nat.le_refl _⟩, by repeat (first | exact Drawn0.refl _ | apply Drawn0.step)⟩
    · rw [if_neg c3] at H
      have c3b0 : decide ((a0.size : Int) < 1) = false := decide_eq_false c3
      have c3b1 : decide (a0.size < 1) = false := decide_eq_false (by omega)
      clear c3
      (first | rw [c3b0] | (simp only [i64_w, i32_w]; rw [c3b0]) | skip)
      have H' := Aside0.mk H
      clear H
      go_wp2
      go_meet
      case rel => exact ⟨_, (decide ((a0.size : Int) > 4)), (by first | rfl | (simp; done) | (simp [*]; done)), H', ⟨by first | omega | exact Nat.le_refl _⟩, by repeat (first | exact Drawn0.refl _ | apply Drawn0.step)⟩
  case rest =>
    clear HC2
    try clear c1
    try clear p2
    try clear c3
    try clear c3b0
    try clear c3b1
    obtain ⟨kq, x11_1, rfl, HA, HJ1, ⟨mc1, rfl⟩⟩ := hcut
    cases kq with
    | zero => exact absurd HA.out (by simp [impl_AcctOk.j0])
    | succ kj1 =>
      have H := HA.out
      clear HA
      simp only [impl_AcctOk.j0] at H
      by_cases c4 : x11_1 = true
      · subst c4
        have H1 : (some false) = some r := by rw [if_pos rfl] at H; exact H
        clear H
        have H := H1
        clear H1
        obtain rfl := Option.some.inj H
        go_wp2
        go_ret
        exact ⟨by first | rfl | (simp; done) | (simp [*]; done), by repeat (first | exact Drawn0.refl _ | apply Drawn0.step)⟩
      · replace c4 := Bool.eq_false_iff.mpr c4
        subst c4
        have H1 : (impl_AcctOk.l0 kj1 a0 (a0.size : Int) 0) = some r := by rw [if_neg (show ¬ (false = true) by decide)] at H; exact H
        clear H
        have H := H1
        clear H1
        have H' := Aside0.mk H
        clear H
        go_wp2
        go_loopg [14] kj1 (fun kq v14 w' => ∃ (x14_2 : Int), v14 = .int .i64 x14_2 ∧ Aside0 (impl_AcctOk.l0 kq a0 (a0.size : Int) x14_2 = some r) ∧ Aside0 (kq ≤ kj1) ∧ Drawn0 w w')
        case atStart => exact ⟨(0), (by first | rfl | (simp; done) | (simp [*]; done)), H', ⟨Nat.le_refl _⟩, by repeat (first | exact Drawn0.refl _ | apply Drawn0.step)⟩
        case round =>
          clear H'
          try clear c1
          try clear p2
          try clear c3
          try clear c3b0
          try clear c3b1
          try clear c4
          try clear p2
          obtain ⟨x14_2, rfl, HA, HK2, ⟨m2, rfl⟩⟩ := hrel
          cases gk with
          | zero => exact absurd HA.out (by simp [impl_AcctOk.l0])
          | succ k2 =>
            have H := HA.out
            clear HA
            simp only [impl_AcctOk.l0] at H
            by_cases c5 : x14_2 < (a0.size : Int)
            · rw [if_pos c5] at H
              have c5b0 : decide (x14_2 < (a0.size : Int)) = true := decide_eq_true c5
              clear c5
              by_cases c6 : 0 ≤ x14_2
              · rw [if_pos c6] at H
                have c6b0 : decide (0 ≤ x14_2) = true := decide_eq_true c6
                clear c6
                by_cases c7 : x14_2 < (a0.size : Int)
                · rw [if_pos c7] at H
                  have c7b0 : decide (x14_2 < (a0.size : Int)) = true := decide_eq_true c7
                  clear c7
                  by_cases c9 : (bt a0 x14_2) < 97
                  · rw [if_pos c9] at H
                    have c9b0 : decide ((bt a0 x14_2) < 97) = true := decide_eq_true c9
                    clear c9
                    obtain rfl := Option.some.inj H
                    have p8 : 0 ≤ (x14_2 : Int) := of_decide_eq_true (by first | (with_reducible assumption) | assumption)
                    have q8 : x14_2 < (a0.size : Int) := of_decide_eq_true (by first | (with_reducible assumption) | assumption)
                    have hx8 := bt_at a0 x14_2
                    replace p8 := eq_true p8
                    replace q8 := eq_true q8
                    go_wp2
                    go_ret
                    exact ⟨by first | rfl | (simp; done) | (simp [*]; done), by repeat (first | exact Drawn0.refl _ | apply Drawn0.step)⟩
                  · rw [if_neg c9] at H
                    have c9b0 : decide ((bt a0 x14_2) < 97) = false := decide_eq_false c9
                    clear c9
                    by_cases c11 : (bt a0 x14_2) > 122
                    · rw [if_pos c11] at H
                      have c11b0 : decide (122 < (bt a0 x14_2)) = true := decide_eq_true c11
                      clear c11
                      obtain rfl := Option.some.inj H
                      have p8 : 0 ≤ (x14_2 : Int) := of_decide_eq_true (by first | (with_reducible assumption) | assumption)
                      have q8 : x14_2 < (a0.size : Int) := of_decide_eq_true (by first | (with_reducible assumption) | assumption)
                      have hx8 := bt_at a0 x14_2
                      replace p8 := eq_true p8
                      replace q8 := eq_true q8
                      have p10 : 0 ≤ (x14_2 : Int) := of_decide_eq_true (by first | (with_reducible assumption) | assumption)
                      have q10 : x14_2 < (a0.size : Int) := of_decide_eq_true (by first | (with_reducible assumption) | assumption)
                      have hx10 := bt_at a0 x14_2
                      replace p10 := eq_true p10
                      replace q10 := eq_true q10
                      go_wp2
                      go_ret
                      exact ⟨by first | rfl | (simp; done) | (simp [*]; done), by repeat (first | exact Drawn0.refl _ | apply Drawn0.step)⟩
                    · rw [if_neg c11] at H
                      have c11b0 : decide (122 < (bt a0 x14_2)) = false := decide_eq_false c11
                      clear c11
                      have H' := Aside0.mk H
                      clear H
                      have p8 : 0 ≤ (x14_2 : Int) := of_decide_eq_true (by first | (with_reducible assumption) | assumption)
                      have q8 : x14_2 < (a0.size : Int) := of_decide_eq_true (by first | (with_reducible assumption) | assumption)
                      have hx8 := bt_at a0 x14_2
                      replace p8 := eq_true p8
                      replace q8 := eq_true q8
                      have p10 : 0 ≤ (x14_2 : Int) := of_decide_eq_true (by first | (with_reducible assumption) | assumption)
                      have q10 : x14_2 < (a0.size : Int) := of_decide_eq_true (by first | (with_reducible assumption) | assumption)
                      have hx10 := bt_at a0 x14_2
                      replace p10 := eq_true p10
                      replace q10 := eq_true q10
                      go_wp2
                      go_roundg k2
                      case measure => have := HJ1.out; have := HK2.out; omega
                      case rel => exact ⟨(wrap64 (x14_2 + 1)), (by first | rfl | (simp; done) | (simp [*]; done)), H', ⟨by have := HJ1.out; have := HK2.out; omega⟩, by repeat (first | exact Drawn0.refl _ | apply Drawn0.step)⟩
                · rw [if_neg c7] at H
                  exact absurd H (by simp)
              · rw [if_neg c6] at H
                exact absurd H (by simp)
            · rw [if_neg c5] at H
              have c5b0 : decide (x14_2 < (a0.size : Int)) = false := decide_eq_false c5
              clear c5
              obtain rfl := Option.some.inj H
              go_wp2
              go_ret
              exact ⟨by first | rfl | (simp; done) | (simp [*]; done), by repeat (first | exact Drawn0.refl _ | apply Drawn0.step)⟩


end Go.Proofs.Ytemnggadcgmmkaa.QFnPostJoin
