/- What the law FnSquashTwice reaches, function by function: what each computes, and that the machine's call comes to it. Laid by a program. -/
import Derived.Test.YtcfebbhiehaocaaQFnSquashTwicex0
import Derived.Test.YtcfebbhiehaocaaQFnSquashTwicex2
namespace Go.Proofs.Ytcfebbhiehaocaa.QFnSquashTwice
open Go.RowKit Go.Proofs.YtcfebbhiehaocaaW.PrintWords Go.Proofs.YtcfebbhiehaocaaW.PrintLast Go.Proofs.YtcfebbhiehaocaaW.PrintMore
attribute [local go_sem] max2_int min2_int max_two min_two max_three min_three max_four min_four   -- for this text's walks alone
set_option linter.unusedVariables false
set_option linter.unusedSimpArgs false

/-! ### spec_l4Join: function 78 -/
/-- What some entries of a key, the newest first, come to by the reference: the kind, the text, the sum. -/
def joinGo : List S48 → Bool → Int → Int × ByteArray × Int
  | [], _, n => (3, ⟨#[]⟩, n)
  | e :: r, first, n => if e.f2 = 1 then (1, e.f3, wrap64 (n + e.f4)) else if e.f2 = 2 then (if first = true then 2 else 1, ⟨#[]⟩, wrap64 (n + e.f4)) else joinGo r false (wrap64 (n + e.f4))
def spec_l4Join.f (k : Nat) (l0 : List S48) : Option (ByteArray × Int × Int × ByteArray × Int × Bool) := match l0 with
  | [] => none
  | e :: r => (spec_l3Sum.f (joinGo (e :: r) true 0).2.2).bind fun t => some (e.f0, e.f1, (joinGo (e :: r) true 0).1, (joinGo (e :: r) true 0).2.1, (joinGo (e :: r) true 0).2.2, t)
theorem spec_l4Join.mono : ∀ a0 k, LeO (spec_l4Join.f k a0) (spec_l4Join.f (k + 1) a0) := fun _ _ => LeO.refl _
theorem fiv_put {W : World} {b : Nat} {t : TypeId} {z0 z1 z2 z3 z4 : Value} (h : W.heap[b]? = some (.cells #[z0, z1, z2, z3, z4] t (0, 0))) (a0 a1 a2 a3 a4 : Value) : (((((W.setCell ⟨b, 0, none⟩ a0).setCell ⟨b, 1, none⟩ a1).setCell ⟨b, 2, none⟩ a2).setCell ⟨b, 3, none⟩ a3).setCell ⟨b, 4, none⟩ a4).heap[b]? = some (.cells #[a0, a1, a2, a3, a4] t (0, 0)) :=
  blk_put (blk_put (blk_put (blk_put (blk_put h 0 a0 rfl) 1 a1 rfl) 2 a2 rfl) 3 a3 rfl) 4 a4 rfl
theorem fiv_far {W : World} {b g : Nat} {cs : Array Value} {t : TypeId} (h : W.heap[g]? = some (.cells cs t (0, 0))) (hne : g ≠ b) (a0 a1 a2 a3 a4 : Value) : (((((W.setCell ⟨b, 0, none⟩ a0).setCell ⟨b, 1, none⟩ a1).setCell ⟨b, 2, none⟩ a2).setCell ⟨b, 3, none⟩ a3).setCell ⟨b, 4, none⟩ a4).heap[g]? = some (.cells cs t (0, 0)) :=
  blk_far (blk_far (blk_far (blk_far (blk_far h (p := ⟨b, 0, none⟩) hne a0) (p := ⟨b, 1, none⟩) hne a1) (p := ⟨b, 2, none⟩) hne a2) (p := ⟨b, 3, none⟩) hne a3) (p := ⟨b, 4, none⟩) hne a4
theorem fiv_below {B b : Nat} {w W : World} (h : Below B w W) (hb : B ≤ b) (a0 a1 a2 a3 a4 : Value) : Below B w (((((W.setCell ⟨b, 0, none⟩ a0).setCell ⟨b, 1, none⟩ a1).setCell ⟨b, 2, none⟩ a2).setCell ⟨b, 3, none⟩ a3).setCell ⟨b, 4, none⟩ a4) :=
  ((((h.setCell (p := ⟨b, 0, none⟩) hb a0).setCell (p := ⟨b, 1, none⟩) hb a1).setCell (p := ⟨b, 2, none⟩) hb a2).setCell (p := ⟨b, 3, none⟩) hb a3).setCell (p := ⟨b, 4, none⟩) hb a4
set_option maxRecDepth 100000 in
set_option maxHeartbeats 4000000 in
theorem spec_l4Join.calls (k : Nat) (A0 : Option Addr) (c0 : Nat) (l0 : List (S48)) (r1 : ByteArray) (r2 r3 : Int) (r4 : ByteArray) (r5 : Int) (r6 : Bool) (w : World) (hr0 : Kd.C k48 w A0 l0.length l0) (hc0 : l0.length ≤ c0) (h : spec_l4Join.f k l0 = some (r1, r2, r3, r4, r5, r6)) :
    Calls Try.prog 78 #[.slice A0 l0.length c0] w fun e w' => e = .returned (.tuple #[.agg #[.string r1, .int .i64 r2, .int .i64 r3, .string r4, .int .i64 r5], .bool r6]) ∧ Below w.heap.size w w' := by
  have HR := Aside0.mk hr0
  have HC := Aside0.mk hc0
  cases l0 with
  | nil => cases h
  | cons e0 r0 =>
    have H := Aside0.mk h
    have p0 : (0 : Int) ≤ 0 := Int.le_refl _
    have q0 : (0 : Int) < (((e0 :: r0).length : Nat) : Int) := by simp
    have hl0 : 0 < (e0 :: r0).length := by simp
    obtain ⟨ad, ea, g0, g1, g2, g3, g4⟩ := at_T48 hr0 0 p0 q0
    have hx : rd_T48 (e0 :: r0) 0 = e0 := by simp [rd_T48]
    rw [hx] at g0 g1 g2 g3 g4
    cases ea
    have ez : ad.add ((0 : Int).toNat * 5) = ad := by
      obtain ⟨b, o, sp⟩ := ad
      cases sp <;> simp [Addr.add]
    rw [ez] at g0 g1 g2 g3 g4
    clear hr0 hc0 h hx p0 ez
    obtain ⟨m, hm⟩ : ∃ m, (e0 :: r0).length = m := ⟨_, rfl⟩
    rw [hm] at hl0 q0 HR HC ⊢
    go_enter Try.func78, Try.ntmps78
    go_wp2
    obtain ⟨w1, hw1⟩ : ∃ w1, w.alloc (.cells #[.string ⟨#[]⟩, .int .i64 0, .int .i64 0, .string ⟨#[]⟩, .int .i64 0] 48) = w1 := ⟨_, rfl⟩
    rw [hw1]
    have l0 := World.block_lt_of_cell? w _ g0
    have k0 : w1.cell? ad = some (.string e0.f0) := by rw [← hw1]; exact (Below.cell ((Below.refl _ w).alloc (Nat.le_refl _) _) l0).trans g0
    have k1 : w1.cell? ⟨ad.block, ad.off + 1, none⟩ = some (.int .i64 e0.f1) := by rw [← hw1]; exact (Below.cell (p := ⟨ad.block, ad.off + 1, none⟩) ((Below.refl _ w).alloc (Nat.le_refl _) _) l0).trans g1
    have hB : Below w.heap.size w w1 := by rw [← hw1]; exact (Below.refl _ w).alloc (Nat.le_refl _) _
    have hb : w1.heap[w.heap.size]? = some (.cells #[.string ⟨#[]⟩, .int .i64 0, .int .i64 0, .string ⟨#[]⟩, .int .i64 0] 48 (0, 0)) := by rw [← hw1]; exact heap_alloc_new w _
    have l1 : ad.block < w1.heap.size := Nat.lt_of_lt_of_le l0 hB.size
    have HB := Aside0.mk hB
    have HB2 := Aside0.mk hb
    have G := Aside0.mk (And.intro g0 (And.intro g1 (And.intro g2 (And.intro g3 g4))))
    clear hB hb g0 g1 g2 g3 g4 hw1
    go_region
    obtain ⟨W2, hW2⟩ : ∃ W2, (w1.alloc (.cells #[.string e0.f0, .int .i64 e0.f1, .int .i64 3, .string ⟨#[]⟩, .int .i64 0] 48)).drew = W2 := ⟨_, rfl⟩
    have hone : W2.heap[w1.heap.size]? = some (.cells #[.string e0.f0, .int .i64 e0.f1, .int .i64 3, .string ⟨#[]⟩, .int .i64 0] 48 (0, 0)) := by rw [← hW2]; exact heap_alloc_new w1 _
    have hltR : w.heap.size < w1.heap.size := (Array.getElem?_eq_some_iff.1 HB2.out).1
    have hres : W2.heap[w.heap.size]? = some (.cells #[.string ⟨#[]⟩, .int .i64 0, .int .i64 0, .string ⟨#[]⟩, .int .i64 0] 48 (0, 0)) := by rw [← hW2]; exact (Below.heap_alloc w1 _ _ hltR).trans HB2.out
    have hB2 : Below w.heap.size w W2 := by
      rw [← hW2]
      have hb := HB.out.alloc HB.out.size (.cells #[.string e0.f0, .int .i64 e0.f1, .int .i64 3, .string ⟨#[]⟩, .int .i64 0] 48)
      exact ⟨hb.os, hb.tape, hb.output, hb.size, hb.block⟩
    rw [hW2]
    obtain ⟨L, hL⟩ : ∃ L, w1.heap.size = L := ⟨_, rfl⟩
    rw [hL] at hone hltR ⊢
    have AONE := Aside0.mk hone
    have ARES := Aside0.mk hres
    have AB2 := Aside0.mk hB2
    have hr3 : spec_l3Sum.f r5 = some r6 ∧ r3 = (joinGo (e0 :: r0) true 0).1 ∧ r4 = (joinGo (e0 :: r0) true 0).2.1 ∧ r5 = (joinGo (e0 :: r0) true 0).2.2 ∧ r1 = e0.f0 ∧ r2 = e0.f1 := by
      have h := H.out
      simp only [spec_l4Join.f] at h
      obtain ⟨t, ht, h⟩ := Option.bind_eq_some_iff.1 h
      simp only [Option.some.injEq, Prod.mk.injEq] at h
      obtain ⟨h1, h2, h3, h4, h5, h6⟩ := h
      exact ⟨by rw [← h5, ← h6]; exact ht, h3.symm, h4.symm, h5.symm, h1.symm, h2.symm⟩
    have AR := Aside0.mk hr3
    clear hone hres hB2 hW2 HB HB2 k0 k1 l0 l1 hL hr3 H
    have HM := Aside0.mk hm
    clear hm q0
    rename_i hK
    refine hK _ _ ?_
    clear hK
    go_wp2
    rename_i K hK
    have HT : ∀ {z0 z1 z5 z6 z7 z8 z9 z10 z11 z12 z13 z14 z15 z16 z17 z18 z19 z20 z21 z22 z23 z24 z25 z26 z27 z28 z29 z30 z31 z32 z33 z34 z35 z36 z37 z38 z39 z40 z41 z42 z43 z44 z45 z46 z47 z48 z49 : Value} {wr : World} {n kd : Int} {tx : ByteArray}, Aside0 ((kd, tx, n) = joinGo (e0 :: r0) true 0) → Aside0 (wr.heap[L]? = some (.cells #[.string e0.f0, .int .i64 e0.f1, .int .i64 kd, .string tx, .int .i64 n] 48 (0, 0))) → Aside0 (wr.heap[w.heap.size]? = some (.cells #[.string ⟨#[]⟩, .int .i64 0, .int .i64 0, .string ⟨#[]⟩, .int .i64 0] 48 (0, 0))) → Aside0 (Below w.heap.size w wr) → K ⟨#[z0, z1, .pointer (some ⟨w.heap.size, 0, none⟩), .bool false, .pointer (some ⟨L, 0, none⟩), z5, z6, z7, z8, z9, z10, z11, z12, z13, z14, z15, z16, z17, z18, z19, z20, z21, z22, z23, z24, z25, z26, z27, z28, z29, z30, z31, z32, z33, z34, z35, z36, z37, z38, z39, z40, z41, z42, z43, z44, z45, z46, z47, z48, z49], []⟩ wr := by
      intro z0 z1 z5 z6 z7 z8 z9 z10 z11 z12 z13 z14 z15 z16 z17 z18 z19 z20 z21 z22 z23 z24 z25 z26 z27 z28 z29 z30 z31 z32 z33 z34 z35 z36 z37 z38 z39 z40 z41 z42 z43 z44 z45 z46 z47 z48 z49 wr n kd tx HJ BO BR HB
      refine hK _ _ ?_
      clear hK AONE ARES AB2
      have HS := Aside0.mk (show spec_l3Sum.f n = some r6 by have := AR.out.1; rw [AR.out.2.2.2.1, ← HJ.out] at this; exact this)
      have NE := Aside0.mk (show L ≠ w.heap.size from Nat.ne_of_gt hltR)
      replace BO := Aside0.mk (blk_drew BO.out)
      replace BR := Aside0.mk (blk_drew BR.out)
      replace HB := Aside0.mk (below_drew1 HB.out)
      try go_wp2
      refine start_ (n := 6) (S := fun w' => w'.cell? ⟨L, 0, none⟩ = some (.string e0.f0) ∧ w'.cell? ⟨L, 1, none⟩ = some (.int .i64 e0.f1) ∧ w'.cell? ⟨L, 2, none⟩ = some (.int .i64 kd) ∧ w'.cell? ⟨L, 3, none⟩ = some (.string tx) ∧ w'.cell? ⟨L, 4, none⟩ = some (.int .i64 n)) (ds := []) #[false, false, false, false, false, false] (by kernel_rfl) rfl rfl ⟨(blk_cell BO.out 0).trans rfl, (blk_cell BO.out 1).trans rfl, (blk_cell BO.out 2).trans rfl, (blk_cell BO.out 3).trans rfl, (blk_cell BO.out 4).trans rfl⟩ (fun hHeld => ?_)
      generalize wr.drew = w1 at BO BR HB hHeld ⊢
      refine pure_ (i := 1) (N := some 47) (v := ?_) (a' := ?_) #[false, true, false, false, false, false] rfl rfl (by kernel_rfl) (fun _ _ _ h => h) (Or.inl ⟨by rfl, ?_⟩) ?_ ?_
      rotate_left
      · intro w'
        go_simp
        with_reducible rfl
      rotate_left
      · simp only [Act.put, List.setIfInBounds_toArray, List.set_cons_zero, List.set_cons_succ, i64_w, i32_w]
        rfl
      refine take_ (i := 0) (N := some 46) (v := ?_) (a' := ?_) #[true, true, false, false, false, false] rfl rfl (by kernel_rfl) (fun _ _ _ h => h) (Or.inl ⟨by rfl, ?_⟩) hHeld ?_ ?_
      rotate_left
      · rintro w' ⟨s0, s1, s2, s3, s4⟩
        go_simp
        with_reducible rfl
      rotate_left
      · simp only [Act.put, List.setIfInBounds_toArray, List.set_cons_zero, List.set_cons_succ, i64_w, i32_w]
        rfl
      refine take_ (i := 2) (N := some 48) (v := ?_) (a' := ?_) #[true, true, true, false, false, false] rfl rfl (by kernel_rfl) (fun _ _ _ h => h) (Or.inl ⟨by rfl, ?_⟩) hHeld ?_ ?_
      rotate_left
      · rintro w' ⟨s0, s1, s2, s3, s4⟩
        go_simp
        with_reducible rfl
      rotate_left
      · simp only [Act.put, List.setIfInBounds_toArray, List.set_cons_zero, List.set_cons_succ, i64_w, i32_w]
        rfl
      refine one_ (i := 3) (N := some 49) #[true, true, true, true, false, false] rfl rfl (by kernel_rfl) (by decide) (fun K hK => ?_)
      refine goes_ Try.func77 (by kernel_rfl) rfl #[.int .i64 n] (by rfl) rfl rfl (by (try simp only [List.map_toArray, List.map_cons, List.map_nil]); first | done | rfl) ?_
      with_reducible refine (spec_l3Sum.calls n r6 _ HS.out).mono ?_
      rintro e w' ⟨rfl, ⟨nd, rfl⟩⟩
      refine ⟨_, rfl, ?_⟩
      refine hK.out _ _ ⟨(blk_cell BO.out 0).trans rfl, (blk_cell BO.out 1).trans rfl, (blk_cell BO.out 2).trans rfl, (blk_cell BO.out 3).trans rfl, (blk_cell BO.out 4).trans rfl⟩ (fun hHeld => ?_)
      clear hK K
      refine norm_ (a' := ?_) ?_ ?_
      rotate_left
      · show Act.put _ (some 49) _ = _
        simp only [Act.put, List.setIfInBounds_toArray, List.set_cons_zero, List.set_cons_succ, i64_w, i32_w]
        rfl
      refine one_ (i := 4) (N := none) #[true, true, true, true, true, false] rfl rfl (by kernel_rfl) (by decide) (fun K hK => ?_)
      have s0 : w1.cell? ⟨w.heap.size, 0, none⟩ = some (.string ⟨#[]⟩) := (blk_cell BR.out 0).trans rfl
      have f0 := blk_frozen BR.out 0
      have s1 : w1.cell? ⟨w.heap.size, 1, none⟩ = some (.int .i64 0) := (blk_cell BR.out 1).trans rfl
      have f1 := blk_frozen BR.out 1
      have s2 : w1.cell? ⟨w.heap.size, 2, none⟩ = some (.int .i64 0) := (blk_cell BR.out 2).trans rfl
      have f2 := blk_frozen BR.out 2
      have s3 : w1.cell? ⟨w.heap.size, 3, none⟩ = some (.string ⟨#[]⟩) := (blk_cell BR.out 3).trans rfl
      have f3 := blk_frozen BR.out 3
      have s4 : w1.cell? ⟨w.heap.size, 4, none⟩ = some (.int .i64 0) := (blk_cell BR.out 4).trans rfl
      have f4 := blk_frozen BR.out 4
      refine skip_ (w1 := ?_) (by rfl) rfl ?_ ?_
      rotate_left
      · go_simp
        rfl
      refine hK.out _ _ ⟨(cell_far (p := ⟨w.heap.size, _, none⟩) NE.out _).trans ((cell_far (p := ⟨w.heap.size, _, none⟩) NE.out _).trans ((cell_far (p := ⟨w.heap.size, _, none⟩) NE.out _).trans ((cell_far (p := ⟨w.heap.size, _, none⟩) NE.out _).trans ((cell_far (p := ⟨w.heap.size, _, none⟩) NE.out _).trans (hHeld.1))))), (cell_far (p := ⟨w.heap.size, _, none⟩) NE.out _).trans ((cell_far (p := ⟨w.heap.size, _, none⟩) NE.out _).trans ((cell_far (p := ⟨w.heap.size, _, none⟩) NE.out _).trans ((cell_far (p := ⟨w.heap.size, _, none⟩) NE.out _).trans ((cell_far (p := ⟨w.heap.size, _, none⟩) NE.out _).trans (hHeld.2.1))))), (cell_far (p := ⟨w.heap.size, _, none⟩) NE.out _).trans ((cell_far (p := ⟨w.heap.size, _, none⟩) NE.out _).trans ((cell_far (p := ⟨w.heap.size, _, none⟩) NE.out _).trans ((cell_far (p := ⟨w.heap.size, _, none⟩) NE.out _).trans ((cell_far (p := ⟨w.heap.size, _, none⟩) NE.out _).trans (hHeld.2.2.1))))), (cell_far (p := ⟨w.heap.size, _, none⟩) NE.out _).trans ((cell_far (p := ⟨w.heap.size, _, none⟩) NE.out _).trans ((cell_far (p := ⟨w.heap.size, _, none⟩) NE.out _).trans ((cell_far (p := ⟨w.heap.size, _, none⟩) NE.out _).trans ((cell_far (p := ⟨w.heap.size, _, none⟩) NE.out _).trans (hHeld.2.2.2.1))))), (cell_far (p := ⟨w.heap.size, _, none⟩) NE.out _).trans ((cell_far (p := ⟨w.heap.size, _, none⟩) NE.out _).trans ((cell_far (p := ⟨w.heap.size, _, none⟩) NE.out _).trans ((cell_far (p := ⟨w.heap.size, _, none⟩) NE.out _).trans ((cell_far (p := ⟨w.heap.size, _, none⟩) NE.out _).trans (hHeld.2.2.2.2)))))⟩ (fun hHeld => ?_)
      clear hK K
      refine pure_ (i := 5) (N := some 3) (v := ?_) (a' := ?_) #[true, true, true, true, true, true] rfl rfl (by kernel_rfl) (fun _ _ _ h => h) (Or.inl ⟨by rfl, ?_⟩) ?_ ?_
      rotate_left
      · intro w'
        go_simp
        with_reducible rfl
      rotate_left
      · simp only [Act.put, List.setIfInBounds_toArray, List.set_cons_zero, List.set_cons_succ, i64_w, i32_w]
        rfl
      refine done_ (by kernel_rfl) ?_
      try go_wp2
      obtain ⟨e6, e3, e4, e5, e1, e2⟩ := AR.out
      rw [← HJ.out] at e3 e4 e5
      simp only at e3 e4 e5
      rw [e1, e2, e3, e4, e5]
      refine bodyPost_ret (results_ct rfl _ _ w.heap.size 48 #[.string e0.f0, .int .i64 e0.f1, .int .i64 kd, .string tx, .int .i64 n] (0, 0) _ rfl (fiv_put (blk_drewN BR.out _) _ _ _ _ _) Try.underlying48 rfl (by kernel_rfl)) rfl ?_
      exact ⟨rfl, fiv_below (pw_below_drewN HB.out _) (Nat.le_refl _) _ _ _ _ _⟩
    clear hK
    go_loopg [5] m (fun kq v5 wr => ∃ (pre rest : List S48) (n : Int), v5 = .int .i64 (pre.length : Nat) ∧ Aside0 (e0 :: r0 = pre ++ rest ∧ rest.length ≤ kq ∧ joinGo rest (pre.isEmpty) n = joinGo (e0 :: r0) true 0) ∧ Aside0 (wr.heap[L]? = some (.cells #[.string e0.f0, .int .i64 e0.f1, .int .i64 3, .string ⟨#[]⟩, .int .i64 n] 48 (0, 0))) ∧ Aside0 (wr.heap[w.heap.size]? = some (.cells #[.string ⟨#[]⟩, .int .i64 0, .int .i64 0, .string ⟨#[]⟩, .int .i64 0] 48 (0, 0))) ∧ Aside0 (Below w.heap.size w wr))
    case atStart => exact ⟨[], e0 :: r0, 0, rfl, ⟨rfl, Nat.le_of_eq HM.out, rfl⟩, AONE, ARES, AB2⟩
    case round =>
      clear AONE ARES AB2
      obtain ⟨pre, rest, n, rfl, HX, HO, HRS, HBW⟩ := hrel
      cases rest with
      | nil =>
        have hl : pre.length = m := by rw [← HM.out, HX.out.1]; simp
        have d1 : decide ((pre.length : Int) < (m : Int)) = false := decide_eq_false (by omega)
        have d2 : decide (pre.length < m) = false := decide_eq_false (by omega)
        clear hl
        go_wp2
        exact HT (n := n) (kd := 3) (tx := ⟨#[]⟩) ⟨HX.out.2.2⟩ HO HRS HBW
      | cons e rest =>
        have hl : m = pre.length + (rest.length + 1) := by rw [← HM.out, HX.out.1]; simp
        have hxx : rd_T48 (e0 :: r0) (pre.length : Int) = e := by rw [HX.out.1]; simp [rd_T48]
        have p0 : (0 : Int) ≤ (pre.length : Int) := by omega
        have q0 : (pre.length : Int) < (m : Int) := by omega
        obtain ⟨ad2, ea, g0, g1, g2, g3, g4⟩ := at_T48 (HM.out ▸ HR.out) (pre.length : Int) p0 (HM.out.symm ▸ q0)
        rw [hxx, Int.toNat_natCast] at g0 g1 g2 g3 g4
        cases ea
        replace g0 := (HBW.out.cell (World.block_lt_of_cell? w _ g0)).trans g0
        replace g1 := (HBW.out.cell (World.block_lt_of_cell? w _ g1)).trans g1
        replace g2 := (HBW.out.cell (World.block_lt_of_cell? w _ g2)).trans g2
        replace g3 := (HBW.out.cell (World.block_lt_of_cell? w _ g3)).trans g3
        replace g4 := (HBW.out.cell (World.block_lt_of_cell? w _ g4)).trans g4
        have d1 : decide ((pre.length : Int) < (m : Int)) = true := decide_eq_true (by omega)
        have d2 : decide (pre.length < m) = true := decide_eq_true (by omega)
        have HL := Aside0.mk hl
        clear hl hxx
        have hmx : m ≤ 9223372036854775807 := HR.out.2.1
        have HMX := Aside0.mk hmx
        have HNE := Aside0.mk (show w.heap.size ≠ L by omega)
        clear hmx
        go_upto_region 6 with (fail)
        obtain ⟨W4, hW4⟩ : ∃ W4, wr.alloc (.cells #[.string e.f0, .int .i64 e.f1, .int .i64 e.f2, .string e.f3, .int .i64 e.f4] 48) = W4 := ⟨_, rfl⟩
        rw [hW4]
        have n0 : W4.heap[wr.heap.size]? = some (.cells #[.string e.f0, .int .i64 e.f1, .int .i64 e.f2, .string e.f3, .int .i64 e.f4] 48 (0, 0)) := by rw [← hW4]; exact heap_alloc_new wr _
        have n1 : W4.heap[L]? = some (.cells #[.string e0.f0, .int .i64 e0.f1, .int .i64 3, .string ⟨#[]⟩, .int .i64 n] 48 (0, 0)) := by rw [← hW4]; exact blk_alloc HO.out _
        have n2 : W4.heap[w.heap.size]? = some (.cells #[.string ⟨#[]⟩, .int .i64 0, .int .i64 0, .string ⟨#[]⟩, .int .i64 0] 48 (0, 0)) := by rw [← hW4]; exact blk_alloc HRS.out _
        have nB : Below w.heap.size w W4 := by rw [← hW4]; exact HBW.out.alloc HBW.out.size _
        have nne : wr.heap.size ≠ L := Nat.ne_of_gt (blk_lt HO.out)
        obtain ⟨N, hN⟩ : ∃ N, wr.heap.size = N := ⟨_, rfl⟩
        rw [hN] at n0 nne ⊢
        clear hW4 hN g0 g1 g2 g3 g4
        have c4 := (blk_cell n0 4).trans (show _ = some (Value.int .i64 e.f4) from rfl)
        have o4 := (blk_cell n1 4).trans (show _ = some (Value.int .i64 n) from rfl)
        have z4 := blk_frozen n1 4
        obtain ⟨v, hv⟩ : ∃ v, wrap64 (n + e.f4) = v := ⟨_, rfl⟩
        have P0 := Aside0.mk (blk_far n0 (p := ⟨L, 4, none⟩) nne (.int .i64 v))
        have P1 := Aside0.mk (blk_put n1 4 (.int .i64 v) rfl)
        have P2 := Aside0.mk (blk_far n2 (p := ⟨L, 4, none⟩) HNE.out (.int .i64 v))
        have PB := Aside0.mk (nB.setCell (p := ⟨L, 4, none⟩) (by show w.heap.size ≤ L; omega) (.int .i64 v))
        have NNE := Aside0.mk nne
        have HV := Aside0.mk hv
        clear n0 n1 n2 nB nne HO HRS HBW hv
        go_upto_region 7 with (fail)
        clear c4 o4 z4
        rw [HV.out]
        obtain ⟨W5, hW5⟩ : ∃ W5, W4.setCell ⟨L, 4, none⟩ (.int .i64 v) = W5 := ⟨_, rfl⟩
        rw [hW5] at P0 P1 P2 PB ⊢
        clear hW5
        have c2 := (blk_cell P0.out 2).trans (show _ = some (Value.int .i64 e.f2) from rfl)
        have c3 := fun x => (blk_cell (blk_far P0.out (p := ⟨L, 2, none⟩) NNE.out x) 3).trans (show _ = some (Value.string e.f3) from rfl)
        have o2 := (blk_cell P1.out 2).trans (show _ = some (Value.int .i64 3) from rfl)
        have o3 := (blk_cell P1.out 3).trans (show _ = some (Value.string ⟨#[]⟩) from rfl)
        have z2 := blk_frozen P1.out 2
        have z3 := fun x => blk_frozen (blk_put P1.out 2 x rfl) 3
        have z5 := fun x => blk_frozen (blk_put P1.out 2 x rfl) 2
        have HG := HX.out.2.2
        rw [joinGo, HV.out] at HG
        by_cases h1 : e.f2 = 1
        · have k1 : decide (e.f2 = 1) = true := decide_eq_true h1
          have j1 : (e.f2 == 1) = true := beq_iff_eq.2 h1
          rw [if_pos h1] at HG
          replace HG := Aside0.mk HG
          clear h1
          go_wp2
          exact HT (n := v) (kd := 1) (tx := e.f3) HG ⟨blk_put (blk_put P1.out 2 _ rfl) 3 _ rfl⟩ ⟨blk_far (blk_far P2.out (p := ⟨L, 2, none⟩) HNE.out _) (p := ⟨L, 3, none⟩) HNE.out _⟩ ⟨(PB.out.setCell (p := ⟨L, 2, none⟩) (by show w.heap.size ≤ L; omega) _).setCell (p := ⟨L, 3, none⟩) (by show w.heap.size ≤ L; omega) _⟩
        · have k1 : decide (e.f2 = 1) = false := decide_eq_false h1
          have j1 : (e.f2 == 1) = false := beq_false_of_ne h1
          rw [if_neg h1] at HG
          clear h1
          by_cases h2 : e.f2 = 2
          · have k2 : decide (e.f2 = 2) = true := decide_eq_true h2
            have j2 : (e.f2 == 2) = true := beq_iff_eq.2 h2
            rw [if_pos h2] at HG
            clear h2
            by_cases hp : pre.length = 0
            · have k0 : decide ((pre.length : Int) = 0) = true := decide_eq_true (by omega)
              have j0 : ((pre.length : Int) == 0) = true := beq_iff_eq.2 (by omega)
              rw [if_pos (by cases pre <;> simp_all)] at HG
              replace HG := Aside0.mk HG
              clear hp
              go_wp2
              exact HT (n := v) (kd := 2) (tx := ⟨#[]⟩) HG ⟨blk_put (blk_put P1.out 2 _ rfl) 2 _ rfl⟩ ⟨blk_far (blk_far P2.out (p := ⟨L, 2, none⟩) HNE.out _) (p := ⟨L, 2, none⟩) HNE.out _⟩ ⟨(PB.out.setCell (p := ⟨L, 2, none⟩) (by show w.heap.size ≤ L; omega) _).setCell (p := ⟨L, 2, none⟩) (by show w.heap.size ≤ L; omega) _⟩
            · have k0 : decide ((pre.length : Int) = 0) = false := decide_eq_false (by omega)
              have j0 : ((pre.length : Int) == 0) = false := beq_false_of_ne (by omega)
              rw [if_neg (by cases pre <;> simp_all)] at HG
              replace HG := Aside0.mk HG
              clear hp
              go_wp2
              exact HT (n := v) (kd := 1) (tx := ⟨#[]⟩) HG ⟨blk_put P1.out 2 _ rfl⟩ ⟨blk_far P2.out (p := ⟨L, 2, none⟩) HNE.out _⟩ ⟨PB.out.setCell (p := ⟨L, 2, none⟩) (by show w.heap.size ≤ L; omega) _⟩
          · have k2 : decide (e.f2 = 2) = false := decide_eq_false h2
            have j2 : (e.f2 == 2) = false := beq_false_of_ne h2
            rw [if_neg h2] at HG
            replace HG := Aside0.mk HG
            clear h2
            go_wp2
            go_roundg rest.length
            case measure => have := HX.out.2.1; simp at this ⊢; omega
            case rel =>
              refine ⟨pre ++ [e], rest, v, ?_, ⟨by rw [HX.out.1]; simp, Nat.le_refl _, by rw [← HG.out]; cases pre <;> rfl⟩, P1, P2, PB⟩
              have e1 : wrap64 ((pre.length : Int) + 1) = ((pre ++ [e]).length : Int) := by have := HL.out; have := HMX.out; rw [List.length_append]; unfold wrap64; simp; omega
              first | rw [e1] | exact congrArg _ e1

/-! ### spec_l4Class: function 59 -/
def spec_l4Class.j0 : Nat → Bool → Bool → ByteArray → Int → Int → ByteArray → Int → Option ((List (S48)))
  | 0, _, _, _, _, _, _, _ => none
  | k + 1, x1, x22, x118000, x118001, x118002, x118003, x118004 => if x22 = true then (some (([] : List (S48)))) else (if x1 = true then (if x118002 = 3 then (some (([(⟨x118000, x118001, 1, x118003, x118004⟩ : S48)] : List (S48)))) else (some (([(⟨x118000, x118001, x118002, x118003, x118004⟩ : S48)] : List (S48))))) else (some (([(⟨x118000, x118001, x118002, x118003, x118004⟩ : S48)] : List (S48)))))
def spec_l4Class.f (k : Nat) (l0 : List (S48)) (a1 : Bool) : Option ((List (S48))) := (spec_l4Join.f k l0).bind fun bt111 => (if bt111.2.2.2.2.2 = true then (if a1 = true then (spec_l4Class.j0 k a1 (bt111.2.2.1 == 2) bt111.1 bt111.2.1 bt111.2.2.1 bt111.2.2.2.1 bt111.2.2.2.2.1) else (spec_l4Class.j0 k a1 false bt111.1 bt111.2.1 bt111.2.2.1 bt111.2.2.2.1 bt111.2.2.2.2.1)) else ((some (([] : List (S48)) : List (S48))).bind fun y118 => (if y118.length + l0.length < 2513169434916 then (some (y118 ++ l0)) else (none))))
theorem spec_l4Class.mono_l : ∀ k, (∀ y0 y1 y2 y3 y4 y5 y6, LeO (spec_l4Class.j0 k y0 y1 y2 y3 y4 y5 y6) (spec_l4Class.j0 (k + 1) y0 y1 y2 y3 y4 y5 y6))
  | 0 => fun _ _ _ _ _ _ _ r h => by simp [spec_l4Class.j0] at h
  | k + 1 => by
    have ih0 := spec_l4Class.mono_l k
    · intro y0 y1 y2 y3 y4 y5 y6
      unfold spec_l4Class.j0
      repeat' first
      | (with_reducible exact ih0 _ _ _ _ _ _ _)
      | (with_reducible exact spec_l4Join.mono _ _)
      | (with_reducible exact LeO.refl _)
      | (with_reducible exact LeO.none _)
      | (with_reducible refine LeO.ite ?_ ?_)
      | (with_reducible refine LeO.bind ?_ (fun _ => ?_))
      | exact ih0 _ _ _ _ _ _ _
      | exact spec_l4Join.mono _ _
      | exact LeO.none _
      | refine LeO.ite ?_ ?_
      | refine LeO.bind ?_ (fun _ => ?_)
theorem spec_l4Class.mono : ∀ a0 a1 k, LeO (spec_l4Class.f k a0 a1) (spec_l4Class.f (k + 1) a0 a1) := by
  intro a0 a1 k
  have ih0 := spec_l4Class.mono_l k
  unfold spec_l4Class.f
  repeat' first
      | (with_reducible exact ih0 _ _ _ _ _ _ _)
      | (with_reducible exact spec_l4Join.mono _ _)
      | (with_reducible exact LeO.refl _)
      | (with_reducible exact LeO.none _)
      | (with_reducible refine LeO.ite ?_ ?_)
      | (with_reducible refine LeO.bind ?_ (fun _ => ?_))
      | exact ih0 _ _ _ _ _ _ _
      | exact spec_l4Join.mono _ _
      | exact LeO.none _
      | refine LeO.ite ?_ ?_
      | refine LeO.bind ?_ (fun _ => ?_)
theorem spec_l4Class_vb {p q : Prop} (h : Aside0 p) (k : p → q := by (intro hz; (with_reducible repeat (first | refine blk_drewN ?_ _ | refine blk_drew ?_ | refine blk_alloc ?_ _)); exact hz)) : q := k h.out
theorem spec_l4Class_auHB {q : Prop} (h : q := by (repeat (first | (with_reducible first | exact HB.out | apply below_alloc | apply pw_below_drewN | apply below_drew1 | refine below_set ?_ GE117.out) | exact HB.out))) : q := h
set_option maxHeartbeats 8000000 in
set_option maxRecDepth 100000 in
theorem spec_l4Class.calls (k : Nat) (A0 : Option Addr) (c0 : Nat) (l0 : List (S48)) (a1 : Bool) (r : List (S48)) (w : World) (hr0 : Kd.C k48 w A0 l0.length l0) (hc0 : l0.length ≤ c0) (h : spec_l4Class.f k l0 a1 = some r) :
  Calls Try.prog 59 #[.slice A0 l0.length c0, .bool a1] w fun e w' => ∃ v0_ : Value, e = .returned (v0_) ∧ Kd.R k48 48 w' w.heap.size (fun _ => True) v0_ r ∧ Below w.heap.size w w' := by
 have hu48 := Try.underlying48
 have HR0 := Aside0.mk hr0
 have HC0 := Aside0.mk hc0
 clear hr0 hc0
 have HB := Aside0.mk (Below.refl w.heap.size w)
 have H : ((spec_l4Join.f k l0).bind fun bt111 => (if bt111.2.2.2.2.2 = true then (if a1 = true then (spec_l4Class.j0 k a1 (bt111.2.2.1 == 2) bt111.1 bt111.2.1 bt111.2.2.1 bt111.2.2.2.1 bt111.2.2.2.2.1) else (spec_l4Class.j0 k a1 false bt111.1 bt111.2.1 bt111.2.2.1 bt111.2.2.2.1 bt111.2.2.2.2.1)) else ((some (([] : List (S48)) : List (S48))).bind fun y118 => (if y118.length + l0.length < 2513169434916 then (some (y118 ++ l0)) else (none))))) = some r := h
 clear h
 replace H := Option.bind_eq_some_iff.mp H
 obtain ⟨⟨t111, t112, t113, t114, t115, t116⟩, A30, H⟩ := H
 replace H : (if t116 = true then (if a1 = true then (spec_l4Class.j0 k a1 (t113 == 2) t111 t112 t113 t114 t115) else (spec_l4Class.j0 k a1 false t111 t112 t113 t114 t115)) else ((some (([] : List (S48)) : List (S48))).bind fun y118 => (if y118.length + l0.length < 2513169434916 then (some (y118 ++ l0)) else (none)))) = some r := H
 have A3 := Aside0.mk A30
 clear A30
 by_cases c4 : t116 = true
 rotate_left
 ·
  replace c4 := Bool.eq_false_iff.mpr c4
  subst c4
  have H1 : ((some (([] : List (S48)) : List (S48))).bind fun y118 => (if y118.length + l0.length < 2513169434916 then (some (y118 ++ l0)) else (none))) = some r := by rw [if_neg (show ¬ (false = true) by decide)] at H; exact H
  clear H
  have H := H1
  clear H1
  obtain ⟨y118, hy118⟩ : ∃ y_ : List (S48), y_ = (([] : List (S48))) := ⟨_, rfl⟩
  replace H : (if y118.length + l0.length < 2513169434916 then (some (y118 ++ l0)) else (none)) = some r := by first | (rw [hy118]; with_reducible exact H) | (have H2_ := (Option.bind_some _ _).symm.trans H; rw [hy118]; with_reducible exact H2_) | (have H2_ := (Option.bind_some _ _).symm.trans H; with_reducible exact H2_) | with_reducible exact H | (rw [hy118]; exact H) | exact H
  have Ny118 := Aside0.mk hy118
  clear hy118
  by_cases c25 : y118.length + l0.length < 2513169434916
  rotate_left
  ·
   rw [if_neg c25] at H
   exact absurd H (by simp)
  rw [if_pos c25] at H
  have LMc25 := Aside0.mk c25
  clear c25
  obtain ⟨y121, hy121⟩ : ∃ y_ : List (S48), y_ = (y118 ++ l0) := ⟨_, rfl⟩
  replace H : (some y121) = some r := by first | (rw [hy121]; with_reducible exact H) | (have H2_ := (Option.bind_some _ _).symm.trans H; rw [hy121]; with_reducible exact H2_) | (have H2_ := (Option.bind_some _ _).symm.trans H; with_reducible exact H2_) | with_reducible exact H | (rw [hy121]; exact H) | exact H
  have Ny121 := Aside0.mk hy121
  clear hy121
  obtain rfl := Option.some.inj H
  go_enter Try.func59, Try.ntmps59
  go_wp2_with (first | ((with_reducible refine gate_callee (f := 78) rfl ?_); refine goesL_ (some 9) rfl rfl Try.func78 (by kernel_rfl) rfl #[.slice A0 l0.length c0] rfl (by (try simp only [List.map_toArray, List.map_cons, List.map_nil]); first | done | rfl | (simp only [List.length_drop, List.length_take]; rfl)) ?_; (with_reducible refine (spec_l4Join.calls k _ _ l0 t111 t112 t113 t114 t115 false _ ?side1 ?side2 A3.out).mono ?_); (case side1 => exact co_ HR0.out); (case side2 => exact HC0.out); rintro e w26 ⟨rfl, hb⟩; refine ⟨_, rfl, ?_⟩; replace HB := Aside0.mk (below_step (spec_l4Class_auHB) hb); (try clear hb); (try clear hb2); (try clear hk); (try clear hi)) | ((with_reducible refine gate_dst (N := 5) rfl ?_); refine box_event ?hg (N := 5) ?hd (cs := #[.string (⟨#[]⟩ : ByteArray), .int .i64 0, .int .i64 0, .string (⟨#[]⟩ : ByteArray), .int .i64 0]) (t := 48) ?hr ?_; (case hd => rfl); (case hg => rfl); (case hr => first | (go_simp; done) | (go_simp; rfl)); intro gb117 hg w27 hbox hb; have BK117 := Aside0.mk (hbox); have GW117 := Aside0.mk ((by rw [hg]; exact (below_size (spec_l4Class_auHB)) : w.heap.size ≤ gb117)); have GE117 := Aside0.mk ((by rw [hg]; exact (below_size (spec_l4Class_auHB)) : w.heap.size ≤ gb117)); replace HB := Aside0.mk (below_step (spec_l4Class_auHB) hb); clear hb hbox hg; have hcz28_0 : w27.cell? ⟨gb117, 0, none⟩ = some (.string (⟨#[]⟩ : ByteArray)) := (blk_cell BK117.out 0).trans rfl; have hcz28_1 : w27.cell? ⟨gb117, 1, none⟩ = some (.int .i64 0) := (blk_cell BK117.out 1).trans rfl; have hcz28_2 : w27.cell? ⟨gb117, 2, none⟩ = some (.int .i64 0) := (blk_cell BK117.out 2).trans rfl; have hcz28_3 : w27.cell? ⟨gb117, 3, none⟩ = some (.string (⟨#[]⟩ : ByteArray)) := (blk_cell BK117.out 3).trans rfl; have hcz28_4 : w27.cell? ⟨gb117, 4, none⟩ = some (.int .i64 0) := (blk_cell BK117.out 4).trans rfl; have hfz28_0 := blk_frozen BK117.out 0; have hfz28_1 := blk_frozen BK117.out 1; have hfz28_2 := blk_frozen BK117.out 2; have hfz28_3 := blk_frozen BK117.out 3; have hfz28_4 := blk_frozen BK117.out 4) | ((with_reducible refine gate_dst (N := 14) rfl ?_); refine Kd.R_lit k48 _ 48 ?hg (N := 14) ?hd (xs := ([] : List (S48))) (inner := []) (ok := fun _ => True) (okp := fun _ => True) ?hr ?hp (fun _ hk => hk) trivial (Below.refl _ _) (Nat.le_refl _) (by simp) ?_; (case hd => rfl); (case hg => rfl); (case hr => first | (go_simp; done) | (go_simp; rfl)); (case hp => exact (Reps.none _ _)); intro v119 w29 ho30 hb hg_ hnew_; clear hg_ hnew_; (first | rw [← Ny118.out] at ho30 | (simp only [Int.reduceToNat] at ho30; rw [← Ny118.out] at ho30)); have HO120 := Aside0.mk (Kd.R_lower (Kd.R_newB ho30 (g := gb117) (o := .cells #[.string t111, .int .i64 t112, .int .i64 t113, .string t114, .int .i64 t115] 48 (0, 0)) (by (with_reducible repeat (first | refine blk_drewN ?_ _ | refine blk_drew ?_ | refine blk_alloc ?_ _)); refine blk_put (cs := #[.string t111, .int .i64 t112, .int .i64 t113, .string t114, .int .i64 0]) ?_ 4 _ rfl; (with_reducible repeat (first | refine blk_drewN ?_ _ | refine blk_drew ?_ | refine blk_alloc ?_ _)); refine blk_put (cs := #[.string t111, .int .i64 t112, .int .i64 t113, .string (⟨#[]⟩ : ByteArray), .int .i64 0]) ?_ 3 _ rfl; (with_reducible repeat (first | refine blk_drewN ?_ _ | refine blk_drew ?_ | refine blk_alloc ?_ _)); refine blk_put (cs := #[.string t111, .int .i64 t112, .int .i64 0, .string (⟨#[]⟩ : ByteArray), .int .i64 0]) ?_ 2 _ rfl; (with_reducible repeat (first | refine blk_drewN ?_ _ | refine blk_drew ?_ | refine blk_alloc ?_ _)); refine blk_put (cs := #[.string t111, .int .i64 0, .int .i64 0, .string (⟨#[]⟩ : ByteArray), .int .i64 0]) ?_ 1 _ rfl; (with_reducible repeat (first | refine blk_drewN ?_ _ | refine blk_drew ?_ | refine blk_alloc ?_ _)); refine blk_put (cs := #[.string (⟨#[]⟩ : ByteArray), .int .i64 0, .int .i64 0, .string (⟨#[]⟩ : ByteArray), .int .i64 0]) ?_ 0 _ rfl; (with_reducible repeat (first | refine blk_drewN ?_ _ | refine blk_drew ?_ | refine blk_alloc ?_ _)); exact BK117.out)) (below_size (spec_l4Class_auHB))); replace BK117 := Aside0.mk (blk_below (g := gb117) (o := .cells #[.string t111, .int .i64 t112, .int .i64 t113, .string t114, .int .i64 t115] 48 (0, 0)) (by (with_reducible repeat (first | refine blk_drewN ?_ _ | refine blk_drew ?_ | refine blk_alloc ?_ _)); refine blk_put (cs := #[.string t111, .int .i64 t112, .int .i64 t113, .string t114, .int .i64 0]) ?_ 4 _ rfl; (with_reducible repeat (first | refine blk_drewN ?_ _ | refine blk_drew ?_ | refine blk_alloc ?_ _)); refine blk_put (cs := #[.string t111, .int .i64 t112, .int .i64 t113, .string (⟨#[]⟩ : ByteArray), .int .i64 0]) ?_ 3 _ rfl; (with_reducible repeat (first | refine blk_drewN ?_ _ | refine blk_drew ?_ | refine blk_alloc ?_ _)); refine blk_put (cs := #[.string t111, .int .i64 t112, .int .i64 0, .string (⟨#[]⟩ : ByteArray), .int .i64 0]) ?_ 2 _ rfl; (with_reducible repeat (first | refine blk_drewN ?_ _ | refine blk_drew ?_ | refine blk_alloc ?_ _)); refine blk_put (cs := #[.string t111, .int .i64 0, .int .i64 0, .string (⟨#[]⟩ : ByteArray), .int .i64 0]) ?_ 1 _ rfl; (with_reducible repeat (first | refine blk_drewN ?_ _ | refine blk_drew ?_ | refine blk_alloc ?_ _)); refine blk_put (cs := #[.string (⟨#[]⟩ : ByteArray), .int .i64 0, .int .i64 0, .string (⟨#[]⟩ : ByteArray), .int .i64 0]) ?_ 0 _ rfl; (with_reducible repeat (first | refine blk_drewN ?_ _ | refine blk_drew ?_ | refine blk_alloc ?_ _)); exact BK117.out) hb); replace HB := Aside0.mk (below_step (spec_l4Class_auHB) hb); clear hb ho30) | ((with_reducible refine gate_builtin (b := .append) (xs := #[.tmp 14, .tmp 15]) rfl ?_); at_builtin; refine Kd.R_append_rows k48 (w0 := w) w.heap.size rfl (.tmp 14) (.tmp 15) 25 48 (.agg #[(.string ⟨#[]⟩), (.int .i64 0), (.int .i64 0), (.string ⟨#[]⟩), (.int .i64 0)]) 56 rfl Try.underlying25 info48 rfl (by decide) (by omega) v119 y118 l0 _ _ _ (fun k_ => k_ ≠ gb117) (fun _ => False) rfl rfl ?aO ?aR (fun _ _ h => h) (fun _ h => h.elim) ?aF ?aB ?aS ?aL ?_; (case aR => repeat (first | exact (Kd.C_below HR0.out HB.out) | (with_reducible refine Kd.C_alloc ?_ _) | (with_reducible refine Kd.C_drewN ?_ _) | (with_reducible refine Kd.C_drew ?_))); (case aB => exact (spec_l4Class_auHB)); (case aF => exact (fun k_ hk => Kd.freshB (g := gb117) (o := .cells #[.string t111, .int .i64 t112, .int .i64 t113, .string t114, .int .i64 t115] 48 (0, 0)) (spec_l4Class_vb BK117) k_ hk)); (case aO => exact (by (with_reducible repeat (first | apply Kd.R_alloc | apply Kd.R_drewN | apply Kd.R_drew)); exact Kd.R_mono HO120.out (fun _ hk => hk.2))); (case aS => exact (below_size (spec_l4Class_auHB))); (case aL => have := LMc25.out; omega); intro v122 w31 ho hb hg hat; rw [← Ny121.out] at ho; have n0_ := Aside0.mk (blk_grown (g := gb117) (o := .cells #[.string t111, .int .i64 t112, .int .i64 t113, .string t114, .int .i64 t115] 48 (0, 0)) (spec_l4Class_vb BK117) hg (Kd.R_away HO120.out (fun _ hk => hk.2))); have n1_ := Aside0.mk (hb); have n2_ := Aside0.mk (ho); clear BK117; clear HB; clear HO120; have BK117 := n0_; have HB := n1_; have HO123 := n2_; clear n0_ n1_ n2_; clear ho hb hg hat))
  go_ret
  exact ⟨_, by first | rfl | (simp [errW_none, errW_some] <;> rfl) | (simp [*, errW_none, errW_some] <;> rfl), by (with_reducible repeat (first | apply Kd.R_alloc | apply Kd.R_drewN | apply Kd.R_drew)); exact Kd.R_mono HO123.out (fun _ hk => trivial), spec_l4Class_auHB⟩
 subst c4
 have H1 : (if a1 = true then (spec_l4Class.j0 k a1 (t113 == 2) t111 t112 t113 t114 t115) else (spec_l4Class.j0 k a1 false t111 t112 t113 t114 t115)) = some r := by rw [if_pos rfl] at H; exact H
 clear H
 have H := H1
 clear H1
 have HC5 := Aside0.mk H
 clear H
 go_enter Try.func59, Try.ntmps59
 go_upto_region 4 with (first | ((with_reducible refine gate_callee (f := 78) rfl ?_); refine goesL_ (some 9) rfl rfl Try.func78 (by kernel_rfl) rfl #[.slice A0 l0.length c0] rfl (by (try simp only [List.map_toArray, List.map_cons, List.map_nil]); first | done | rfl | (simp only [List.length_drop, List.length_take]; rfl)) ?_; (with_reducible refine (spec_l4Join.calls k _ _ l0 t111 t112 t113 t114 t115 true _ ?side1 ?side2 A3.out).mono ?_); (case side1 => exact co_ HR0.out); (case side2 => exact HC0.out); rintro e w6 ⟨rfl, hb⟩; refine ⟨_, rfl, ?_⟩; replace HB := Aside0.mk (below_step (spec_l4Class_auHB) hb); (try clear hb); (try clear hb2); (try clear hk); (try clear hi)) | ((with_reducible refine gate_dst (N := 5) rfl ?_); refine box_event ?hg (N := 5) ?hd (cs := #[.string (⟨#[]⟩ : ByteArray), .int .i64 0, .int .i64 0, .string (⟨#[]⟩ : ByteArray), .int .i64 0]) (t := 48) ?hr ?_; (case hd => rfl); (case hg => rfl); (case hr => first | (go_simp; done) | (go_simp; rfl)); intro gb117 hg w7 hbox hb; have BK117 := Aside0.mk (hbox); have GW117 := Aside0.mk ((by rw [hg]; exact (below_size (spec_l4Class_auHB)) : w.heap.size ≤ gb117)); have GE117 := Aside0.mk ((by rw [hg]; exact (below_size (spec_l4Class_auHB)) : w.heap.size ≤ gb117)); replace HB := Aside0.mk (below_step (spec_l4Class_auHB) hb); clear hb hbox hg; have hcz8_0 : w7.cell? ⟨gb117, 0, none⟩ = some (.string (⟨#[]⟩ : ByteArray)) := (blk_cell BK117.out 0).trans rfl; have hcz8_1 : w7.cell? ⟨gb117, 1, none⟩ = some (.int .i64 0) := (blk_cell BK117.out 1).trans rfl; have hcz8_2 : w7.cell? ⟨gb117, 2, none⟩ = some (.int .i64 0) := (blk_cell BK117.out 2).trans rfl; have hcz8_3 : w7.cell? ⟨gb117, 3, none⟩ = some (.string (⟨#[]⟩ : ByteArray)) := (blk_cell BK117.out 3).trans rfl; have hcz8_4 : w7.cell? ⟨gb117, 4, none⟩ = some (.int .i64 0) := (blk_cell BK117.out 4).trans rfl; have hfz8_0 := blk_frozen BK117.out 0; have hfz8_1 := blk_frozen BK117.out 1; have hfz8_2 := blk_frozen BK117.out 2; have hfz8_3 := blk_frozen BK117.out 3; have hfz8_4 := blk_frozen BK117.out 4))
 (try simp only [Act.put, List.setIfInBounds_toArray, List.set_cons_zero, List.set_cons_succ])
 go_cut [22] (fun v22 wc => ∃ (kq : Nat) (x22_4 : Bool), v22 = .bool x22_4 ∧ Aside0 (spec_l4Class.j0 kq a1 x22_4 t111 t112 t113 t114 t115 = some r) ∧ Aside0 (kq ≤ k) ∧ Aside0 (wc.heap[gb117]? = some (.cells #[.string t111, .int .i64 t112, .int .i64 t113, .string t114, .int .i64 t115] 48 (0, 0))) ∧ Aside0 (Below w.heap.size w wc))
 case first =>
  have H := HC5.out
  clear HC5
  by_cases c9 : a1 = true
  rotate_left
  ·
   replace c9 := Bool.eq_false_iff.mpr c9
   subst c9
   have H1 : (spec_l4Class.j0 k false false t111 t112 t113 t114 t115) = some r := by rw [if_neg (show ¬ (false = true) by decide)] at H; exact H
   clear H
   have H := H1
   clear H1
   have H' := Aside0.mk H
   clear H
   go_wp2
   go_meet
   case rel => exact ⟨_, (false), (by first | rfl | (simp; done) | (simp [*]; done)), H', ⟨by first | omega | exact Nat.le_refl _⟩, ⟨by (with_reducible repeat (first | refine blk_drewN ?_ _ | refine blk_drew ?_ | refine blk_alloc ?_ _)); refine blk_put (cs := #[.string t111, .int .i64 t112, .int .i64 t113, .string t114, .int .i64 0]) ?_ 4 _ rfl; (with_reducible repeat (first | refine blk_drewN ?_ _ | refine blk_drew ?_ | refine blk_alloc ?_ _)); refine blk_put (cs := #[.string t111, .int .i64 t112, .int .i64 t113, .string (⟨#[]⟩ : ByteArray), .int .i64 0]) ?_ 3 _ rfl; (with_reducible repeat (first | refine blk_drewN ?_ _ | refine blk_drew ?_ | refine blk_alloc ?_ _)); refine blk_put (cs := #[.string t111, .int .i64 t112, .int .i64 0, .string (⟨#[]⟩ : ByteArray), .int .i64 0]) ?_ 2 _ rfl; (with_reducible repeat (first | refine blk_drewN ?_ _ | refine blk_drew ?_ | refine blk_alloc ?_ _)); refine blk_put (cs := #[.string t111, .int .i64 0, .int .i64 0, .string (⟨#[]⟩ : ByteArray), .int .i64 0]) ?_ 1 _ rfl; (with_reducible repeat (first | refine blk_drewN ?_ _ | refine blk_drew ?_ | refine blk_alloc ?_ _)); refine blk_put (cs := #[.string (⟨#[]⟩ : ByteArray), .int .i64 0, .int .i64 0, .string (⟨#[]⟩ : ByteArray), .int .i64 0]) ?_ 0 _ rfl; (with_reducible repeat (first | refine blk_drewN ?_ _ | refine blk_drew ?_ | refine blk_alloc ?_ _)); exact BK117.out⟩, ⟨spec_l4Class_auHB⟩⟩
  subst c9
  have H1 : (spec_l4Class.j0 k true (t113 == 2) t111 t112 t113 t114 t115) = some r := by rw [if_pos rfl] at H; exact H
  clear H
  have H := H1
  clear H1
  have H' := Aside0.mk H
  clear H
  have hcz10_0 : w7.cell? ⟨gb117, 0, none⟩ = some (.string (⟨#[]⟩ : ByteArray)) := (blk_cell BK117.out 0).trans rfl
  have hcz10_1 : w7.cell? ⟨gb117, 1, none⟩ = some (.int .i64 0) := (blk_cell BK117.out 1).trans rfl
  have hcz10_2 : w7.cell? ⟨gb117, 2, none⟩ = some (.int .i64 0) := (blk_cell BK117.out 2).trans rfl
  have hcz10_3 : w7.cell? ⟨gb117, 3, none⟩ = some (.string (⟨#[]⟩ : ByteArray)) := (blk_cell BK117.out 3).trans rfl
  have hcz10_4 : w7.cell? ⟨gb117, 4, none⟩ = some (.int .i64 0) := (blk_cell BK117.out 4).trans rfl
  have hfz10_0 := blk_frozen BK117.out 0
  have hfz10_1 := blk_frozen BK117.out 1
  have hfz10_2 := blk_frozen BK117.out 2
  have hfz10_3 := blk_frozen BK117.out 3
  have hfz10_4 := blk_frozen BK117.out 4
  go_wp2
  go_meet
  case rel => exact ⟨_, ((t113 == 2)), (by first | rfl | (simp; done) | (simp [*]; done)), H', ⟨by first | omega | exact Nat.le_refl _⟩, ⟨by (with_reducible repeat (first | refine blk_drewN ?_ _ | refine blk_drew ?_ | refine blk_alloc ?_ _)); refine blk_put (cs := #[.string t111, .int .i64 t112, .int .i64 t113, .string t114, .int .i64 0]) ?_ 4 _ rfl; (with_reducible repeat (first | refine blk_drewN ?_ _ | refine blk_drew ?_ | refine blk_alloc ?_ _)); refine blk_put (cs := #[.string t111, .int .i64 t112, .int .i64 t113, .string (⟨#[]⟩ : ByteArray), .int .i64 0]) ?_ 3 _ rfl; (with_reducible repeat (first | refine blk_drewN ?_ _ | refine blk_drew ?_ | refine blk_alloc ?_ _)); refine blk_put (cs := #[.string t111, .int .i64 t112, .int .i64 0, .string (⟨#[]⟩ : ByteArray), .int .i64 0]) ?_ 2 _ rfl; (with_reducible repeat (first | refine blk_drewN ?_ _ | refine blk_drew ?_ | refine blk_alloc ?_ _)); refine blk_put (cs := #[.string t111, .int .i64 0, .int .i64 0, .string (⟨#[]⟩ : ByteArray), .int .i64 0]) ?_ 1 _ rfl; (with_reducible repeat (first | refine blk_drewN ?_ _ | refine blk_drew ?_ | refine blk_alloc ?_ _)); refine blk_put (cs := #[.string (⟨#[]⟩ : ByteArray), .int .i64 0, .int .i64 0, .string (⟨#[]⟩ : ByteArray), .int .i64 0]) ?_ 0 _ rfl; (with_reducible repeat (first | refine blk_drewN ?_ _ | refine blk_drew ?_ | refine blk_alloc ?_ _)); exact BK117.out⟩, ⟨spec_l4Class_auHB⟩⟩
 case rest =>
  clear HC5
  try clear p2
  try clear c4
  try clear c5
  try clear c7
  try clear c9
  try clear hcz10_0
  try clear hcz10_1
  try clear hcz10_2
  try clear hcz10_3
  try clear hcz10_4
  try clear hcz8_0
  try clear hcz8_1
  try clear hcz8_2
  try clear hcz8_3
  try clear hcz8_4
  try clear hfz10_0
  try clear hfz10_1
  try clear hfz10_2
  try clear hfz10_3
  try clear hfz10_4
  try clear hfz8_0
  try clear hfz8_1
  try clear hfz8_2
  try clear hfz8_3
  try clear hfz8_4
  obtain ⟨kq, x22_4, rfl, HA, HJ4, BK117, HB⟩ := hcut
  cases kq with
  | zero => exact absurd HA.out (by simp [spec_l4Class.j0])
  | succ kj4 =>
   have H := HA.out
   clear HA
   simp only [spec_l4Class.j0] at H
   by_cases c11 : x22_4 = true
   ·
    subst c11
    have H1 : (some (([] : List (S48)))) = some r := by rw [if_pos rfl] at H; exact H
    clear H
    have H := H1
    clear H1
    obtain ⟨y124, hy124⟩ : ∃ y_ : List (S48), y_ = (([] : List (S48))) := ⟨_, rfl⟩
    replace H : (some y124) = some r := by first | (rw [hy124]; with_reducible exact H) | (have H2_ := (Option.bind_some _ _).symm.trans H; rw [hy124]; with_reducible exact H2_) | (have H2_ := (Option.bind_some _ _).symm.trans H; with_reducible exact H2_) | with_reducible exact H | (rw [hy124]; exact H) | exact H
    have Ny124 := Aside0.mk hy124
    clear hy124
    obtain rfl := Option.some.inj H
    go_wp2_with (first | ((with_reducible refine gate_dst (N := 23) rfl ?_); refine Kd.R_lit k48 _ 48 ?hg (N := 23) ?hd (xs := ([] : List (S48))) (inner := []) (ok := fun _ => True) (okp := fun _ => True) ?hr ?hp (fun _ hk => hk) trivial (Below.refl _ _) (Nat.le_refl _) (by simp) ?_; (case hd => rfl); (case hg => rfl); (case hr => first | (go_simp; done) | (go_simp; rfl)); (case hp => exact (Reps.none _ _)); intro v125 w12 ho13 hb hg_ hnew_; clear hg_ hnew_; (first | rw [← Ny124.out] at ho13 | (simp only [Int.reduceToNat] at ho13; rw [← Ny124.out] at ho13)); have HO126 := Aside0.mk (Kd.R_lower (Kd.R_newB ho13 (g := gb117) (o := .cells #[.string t111, .int .i64 t112, .int .i64 t113, .string t114, .int .i64 t115] 48 (0, 0)) (spec_l4Class_vb BK117)) (below_size (spec_l4Class_auHB))); replace BK117 := Aside0.mk (blk_below (g := gb117) (o := .cells #[.string t111, .int .i64 t112, .int .i64 t113, .string t114, .int .i64 t115] 48 (0, 0)) (spec_l4Class_vb BK117) hb); replace HB := Aside0.mk (below_step (spec_l4Class_auHB) hb); clear hb ho13))
    go_ret
    exact ⟨_, by first | rfl | (simp [errW_none, errW_some] <;> rfl) | (simp [*, errW_none, errW_some] <;> rfl), by (with_reducible repeat (first | apply Kd.R_alloc | apply Kd.R_drewN | apply Kd.R_drew)); exact Kd.R_mono HO126.out (fun _ hk => trivial), spec_l4Class_auHB⟩
   replace c11 := Bool.eq_false_iff.mpr c11
   subst c11
   have H1 : (if a1 = true then (if t113 = 3 then (some (([(⟨t111, t112, 1, t114, t115⟩ : S48)] : List (S48)))) else (some (([(⟨t111, t112, t113, t114, t115⟩ : S48)] : List (S48))))) else (some (([(⟨t111, t112, t113, t114, t115⟩ : S48)] : List (S48))))) = some r := by rw [if_neg (show ¬ (false = true) by decide)] at H; exact H
   clear H
   have H := H1
   clear H1
   by_cases c14 : a1 = true
   rotate_left
   ·
    replace c14 := Bool.eq_false_iff.mpr c14
    subst c14
    have H1 : (some (([(⟨t111, t112, t113, t114, t115⟩ : S48)] : List (S48)))) = some r := by rw [if_neg (show ¬ (false = true) by decide)] at H; exact H
    clear H
    have H := H1
    clear H1
    obtain ⟨y133, hy133⟩ : ∃ y_ : List (S48), y_ = (([(⟨t111, t112, t113, t114, t115⟩ : S48)] : List (S48))) := ⟨_, rfl⟩
    replace H : (some y133) = some r := by first | (rw [hy133]; with_reducible exact H) | (have H2_ := (Option.bind_some _ _).symm.trans H; rw [hy133]; with_reducible exact H2_) | (have H2_ := (Option.bind_some _ _).symm.trans H; with_reducible exact H2_) | with_reducible exact H | (rw [hy133]; exact H) | exact H
    have Ny133 := Aside0.mk hy133
    clear hy133
    obtain rfl := Option.some.inj H
    have hcz22_0 : wc.cell? ⟨gb117, 0, none⟩ = some (.string t111) := (blk_cell BK117.out 0).trans rfl
    have hcz22_1 : wc.cell? ⟨gb117, 1, none⟩ = some (.int .i64 t112) := (blk_cell BK117.out 1).trans rfl
    have hcz22_2 : wc.cell? ⟨gb117, 2, none⟩ = some (.int .i64 t113) := (blk_cell BK117.out 2).trans rfl
    have hcz22_3 : wc.cell? ⟨gb117, 3, none⟩ = some (.string t114) := (blk_cell BK117.out 3).trans rfl
    have hcz22_4 : wc.cell? ⟨gb117, 4, none⟩ = some (.int .i64 t115) := (blk_cell BK117.out 4).trans rfl
    have hfz22_0 := blk_frozen BK117.out 0
    have hfz22_1 := blk_frozen BK117.out 1
    have hfz22_2 := blk_frozen BK117.out 2
    have hfz22_3 := blk_frozen BK117.out 3
    have hfz22_4 := blk_frozen BK117.out 4
    go_wp2_with (first | ((with_reducible refine gate_dst (N := 32) rfl ?_); refine Kd.R_lit k48 _ 48 ?hg (N := 32) ?hd (xs := ([(⟨t111, t112, t113, t114, t115⟩ : S48)] : List (S48))) (inner := [.string t111, .int .i64 t112, .int .i64 t113, .string t114, .int .i64 t115]) (ok := fun _ => True) (okp := fun _ => True) ?hr ?hp (fun _ hk => hk) trivial (Below.refl _ _) (Nat.le_refl _) (by simp) ?_; (case hd => rfl); (case hg => rfl); (case hr => first | (go_simp; done) | (go_simp; rfl)); (case hp => exact (Reps.c5 (show Kd.M k48 _ _ _ (⟨t111, t112, t113, t114, t115⟩ : S48) [.string t111, .int .i64 t112, .int .i64 t113, .string t114, .int .i64 t115] from (k48_mkM _ _ _ (⟨t111, t112, t113, t114, t115⟩ : S48) )) (Reps.none _ _))); intro v134 w23 ho24 hb hg_ hnew_; clear hg_ hnew_; (first | rw [← Ny133.out] at ho24 | (simp only [Int.reduceToNat] at ho24; rw [← Ny133.out] at ho24)); have HO135 := Aside0.mk (Kd.R_lower (Kd.R_newB ho24 (g := gb117) (o := .cells #[.string t111, .int .i64 t112, .int .i64 t113, .string t114, .int .i64 t115] 48 (0, 0)) (spec_l4Class_vb BK117)) (below_size (spec_l4Class_auHB))); replace BK117 := Aside0.mk (blk_below (g := gb117) (o := .cells #[.string t111, .int .i64 t112, .int .i64 t113, .string t114, .int .i64 t115] 48 (0, 0)) (spec_l4Class_vb BK117) hb); replace HB := Aside0.mk (below_step (spec_l4Class_auHB) hb); clear hb ho24))
    go_ret
    exact ⟨_, by first | rfl | (simp [errW_none, errW_some] <;> rfl) | (simp [*, errW_none, errW_some] <;> rfl), by (with_reducible repeat (first | apply Kd.R_alloc | apply Kd.R_drewN | apply Kd.R_drew)); exact Kd.R_mono HO135.out (fun _ hk => trivial), spec_l4Class_auHB⟩
   subst c14
   have H1 : (if t113 = 3 then (some (([(⟨t111, t112, 1, t114, t115⟩ : S48)] : List (S48)))) else (some (([(⟨t111, t112, t113, t114, t115⟩ : S48)] : List (S48))))) = some r := by rw [if_pos rfl] at H; exact H
   clear H
   have H := H1
   clear H1
   by_cases c15 : t113 = 3
   rotate_left
   ·
    rw [if_neg c15] at H
    have c15b0 : (t113 == 3) = false := beq_eq_false_iff_ne.mpr c15
    have c15b1 : (t113 != 3) = true := bne_iff_ne.mpr c15
    obtain ⟨y130, hy130⟩ : ∃ y_ : List (S48), y_ = (([(⟨t111, t112, t113, t114, t115⟩ : S48)] : List (S48))) := ⟨_, rfl⟩
    replace H : (some y130) = some r := by first | (rw [hy130]; with_reducible exact H) | (have H2_ := (Option.bind_some _ _).symm.trans H; rw [hy130]; with_reducible exact H2_) | (have H2_ := (Option.bind_some _ _).symm.trans H; with_reducible exact H2_) | with_reducible exact H | (rw [hy130]; exact H) | exact H
    have Ny130 := Aside0.mk hy130
    clear hy130
    obtain rfl := Option.some.inj H
    have hcz19_0 : wc.cell? ⟨gb117, 0, none⟩ = some (.string t111) := (blk_cell BK117.out 0).trans rfl
    have hcz19_1 : wc.cell? ⟨gb117, 1, none⟩ = some (.int .i64 t112) := (blk_cell BK117.out 1).trans rfl
    have hcz19_2 : wc.cell? ⟨gb117, 2, none⟩ = some (.int .i64 t113) := (blk_cell BK117.out 2).trans rfl
    have hcz19_3 : wc.cell? ⟨gb117, 3, none⟩ = some (.string t114) := (blk_cell BK117.out 3).trans rfl
    have hcz19_4 : wc.cell? ⟨gb117, 4, none⟩ = some (.int .i64 t115) := (blk_cell BK117.out 4).trans rfl
    have hfz19_0 := blk_frozen BK117.out 0
    have hfz19_1 := blk_frozen BK117.out 1
    have hfz19_2 := blk_frozen BK117.out 2
    have hfz19_3 := blk_frozen BK117.out 3
    have hfz19_4 := blk_frozen BK117.out 4
    go_wp2_with (first | ((with_reducible refine gate_dst (N := 32) rfl ?_); refine Kd.R_lit k48 _ 48 ?hg (N := 32) ?hd (xs := ([(⟨t111, t112, t113, t114, t115⟩ : S48)] : List (S48))) (inner := [.string t111, .int .i64 t112, .int .i64 t113, .string t114, .int .i64 t115]) (ok := fun _ => True) (okp := fun _ => True) ?hr ?hp (fun _ hk => hk) trivial (Below.refl _ _) (Nat.le_refl _) (by simp) ?_; (case hd => rfl); (case hg => rfl); (case hr => first | (go_simp; done) | (go_simp; rfl)); (case hp => exact (Reps.c5 (show Kd.M k48 _ _ _ (⟨t111, t112, t113, t114, t115⟩ : S48) [.string t111, .int .i64 t112, .int .i64 t113, .string t114, .int .i64 t115] from (k48_mkM _ _ _ (⟨t111, t112, t113, t114, t115⟩ : S48) )) (Reps.none _ _))); intro v131 w20 ho21 hb hg_ hnew_; clear hg_ hnew_; (first | rw [← Ny130.out] at ho21 | (simp only [Int.reduceToNat] at ho21; rw [← Ny130.out] at ho21)); have HO132 := Aside0.mk (Kd.R_lower (Kd.R_newB ho21 (g := gb117) (o := .cells #[.string t111, .int .i64 t112, .int .i64 t113, .string t114, .int .i64 t115] 48 (0, 0)) (spec_l4Class_vb BK117)) (below_size (spec_l4Class_auHB))); replace BK117 := Aside0.mk (blk_below (g := gb117) (o := .cells #[.string t111, .int .i64 t112, .int .i64 t113, .string t114, .int .i64 t115] 48 (0, 0)) (spec_l4Class_vb BK117) hb); replace HB := Aside0.mk (below_step (spec_l4Class_auHB) hb); clear hb ho21))
    go_ret
    exact ⟨_, by first | rfl | (simp [errW_none, errW_some] <;> rfl) | (simp [*, errW_none, errW_some] <;> rfl), by (with_reducible repeat (first | apply Kd.R_alloc | apply Kd.R_drewN | apply Kd.R_drew)); exact Kd.R_mono HO132.out (fun _ hk => trivial), spec_l4Class_auHB⟩
   rw [if_pos c15] at H
   have c15b0 : (t113 == 3) = true := beq_iff_eq.mpr c15
   have c15b1 : (t113 != 3) = false := bne_eq_false_iff_eq.mpr c15
   clear c15
   obtain ⟨y127, hy127⟩ : ∃ y_ : List (S48), y_ = (([(⟨t111, t112, 1, t114, t115⟩ : S48)] : List (S48))) := ⟨_, rfl⟩
   replace H : (some y127) = some r := by first | (rw [hy127]; with_reducible exact H) | (have H2_ := (Option.bind_some _ _).symm.trans H; rw [hy127]; with_reducible exact H2_) | (have H2_ := (Option.bind_some _ _).symm.trans H; with_reducible exact H2_) | with_reducible exact H | (rw [hy127]; exact H) | exact H
   have Ny127 := Aside0.mk hy127
   clear hy127
   obtain rfl := Option.some.inj H
   have hcz16_0 : wc.cell? ⟨gb117, 0, none⟩ = some (.string t111) := (blk_cell BK117.out 0).trans rfl
   have hcz16_1 : wc.cell? ⟨gb117, 1, none⟩ = some (.int .i64 t112) := (blk_cell BK117.out 1).trans rfl
   have hcz16_2 : wc.cell? ⟨gb117, 2, none⟩ = some (.int .i64 t113) := (blk_cell BK117.out 2).trans rfl
   have hcz16_3 : wc.cell? ⟨gb117, 3, none⟩ = some (.string t114) := (blk_cell BK117.out 3).trans rfl
   have hcz16_4 : wc.cell? ⟨gb117, 4, none⟩ = some (.int .i64 t115) := (blk_cell BK117.out 4).trans rfl
   have hfz16_0 := blk_frozen BK117.out 0
   have hfz16_1 := blk_frozen BK117.out 1
   have hfz16_2 := blk_frozen BK117.out 2
   have hfz16_3 := blk_frozen BK117.out 3
   have hfz16_4 := blk_frozen BK117.out 4
   go_wp2_with (first | ((with_reducible refine gate_dst (N := 32) rfl ?_); refine Kd.R_lit k48 _ 48 ?hg (N := 32) ?hd (xs := ([(⟨t111, t112, 1, t114, t115⟩ : S48)] : List (S48))) (inner := [.string t111, .int .i64 t112, .int .i64 1, .string t114, .int .i64 t115]) (ok := fun _ => True) (okp := fun _ => True) ?hr ?hp (fun _ hk => hk) trivial (Below.refl _ _) (Nat.le_refl _) (by simp) ?_; (case hd => rfl); (case hg => rfl); (case hr => first | (go_simp; done) | (go_simp; rfl)); (case hp => exact (Reps.c5 (show Kd.M k48 _ _ _ (⟨t111, t112, 1, t114, t115⟩ : S48) [.string t111, .int .i64 t112, .int .i64 1, .string t114, .int .i64 t115] from (k48_mkM _ _ _ (⟨t111, t112, 1, t114, t115⟩ : S48) )) (Reps.none _ _))); intro v128 w17 ho18 hb hg_ hnew_; clear hg_ hnew_; (first | rw [← Ny127.out] at ho18 | (simp only [Int.reduceToNat] at ho18; rw [← Ny127.out] at ho18)); have HO129 := Aside0.mk (Kd.R_lower (Kd.R_newB ho18 (g := gb117) (o := .cells #[.string t111, .int .i64 t112, .int .i64 1, .string t114, .int .i64 t115] 48 (0, 0)) (by (with_reducible repeat (first | refine blk_drewN ?_ _ | refine blk_drew ?_ | refine blk_alloc ?_ _)); refine blk_put (cs := #[.string t111, .int .i64 t112, .int .i64 t113, .string t114, .int .i64 t115]) ?_ 2 _ rfl; (with_reducible repeat (first | refine blk_drewN ?_ _ | refine blk_drew ?_ | refine blk_alloc ?_ _)); exact BK117.out)) (below_size (spec_l4Class_auHB))); replace BK117 := Aside0.mk (blk_below (g := gb117) (o := .cells #[.string t111, .int .i64 t112, .int .i64 1, .string t114, .int .i64 t115] 48 (0, 0)) (by (with_reducible repeat (first | refine blk_drewN ?_ _ | refine blk_drew ?_ | refine blk_alloc ?_ _)); refine blk_put (cs := #[.string t111, .int .i64 t112, .int .i64 t113, .string t114, .int .i64 t115]) ?_ 2 _ rfl; (with_reducible repeat (first | refine blk_drewN ?_ _ | refine blk_drew ?_ | refine blk_alloc ?_ _)); exact BK117.out) hb); replace HB := Aside0.mk (below_step (spec_l4Class_auHB) hb); clear hb ho18))
   go_ret
   exact ⟨_, by first | rfl | (simp [errW_none, errW_some] <;> rfl) | (simp [*, errW_none, errW_some] <;> rfl), by (with_reducible repeat (first | apply Kd.R_alloc | apply Kd.R_drewN | apply Kd.R_drew)); exact Kd.R_mono HO129.out (fun _ hk => trivial), spec_l4Class_auHB⟩

/-! ### spec_l4Left: function 34 -/
def spec_l4Left.l0 : Nat → List (List (S48)) → Bool → List (S48) → Int → Option ((List (S48)))
  | 0, _, _, _, _ => none
  | k + 1, x0, x1, x5, x6 => if x6 ≥ 0 then (if 0 ≤ x6 then (if x6 < (x0.length : Int) then ((spec_l4Class.f k (rd_L3 x0 x6) x1).bind fun t140 => (if (t140.length : Int) > 0 then ((some (([] : List (S48)) : List (S48))).bind fun y143 => (if y143.length + t140.length < 2513169434916 then ((some (y143 ++ t140 : List (S48))).bind fun y146 => (if y146.length + x5.length < 2513169434916 then (spec_l4Left.l0 k x0 false (y146 ++ x5) (wrap64 (x6 - 1))) else (none))) else (none))) else ((some (([] : List (S48)) : List (S48))).bind fun y152 => (if y152.length + t140.length < 2513169434916 then ((some (y152 ++ t140 : List (S48))).bind fun y155 => (if y155.length + x5.length < 2513169434916 then (spec_l4Left.l0 k x0 x1 (y155 ++ x5) (wrap64 (x6 - 1))) else (none))) else (none))))) else (none)) else (none)) else (some x5)
def spec_l4Left.f (k : Nat) (l0 : List (List (S48))) (a1 : Bool) : Option ((List (S48))) := spec_l4Left.l0 k l0 a1 (([] : List (S48))) (wrap64 ((l0.length : Int) - 1))
theorem spec_l4Left.mono_l : ∀ k, (∀ y0 y1 y2 y3, LeO (spec_l4Left.l0 k y0 y1 y2 y3) (spec_l4Left.l0 (k + 1) y0 y1 y2 y3))
  | 0 => fun _ _ _ _ r h => by simp [spec_l4Left.l0] at h
  | k + 1 => by
    have ih0 := spec_l4Left.mono_l k
    · intro y0 y1 y2 y3
      unfold spec_l4Left.l0
      repeat' first
      | (with_reducible exact ih0 _ _ _ _)
      | (with_reducible exact spec_l4Class.mono _ _ _)
      | (with_reducible exact LeO.refl _)
      | (with_reducible exact LeO.none _)
      | (with_reducible refine LeO.ite ?_ ?_)
      | (with_reducible refine LeO.bind ?_ (fun _ => ?_))
      | exact ih0 _ _ _ _
      | exact spec_l4Class.mono _ _ _
      | exact LeO.none _
      | refine LeO.ite ?_ ?_
      | refine LeO.bind ?_ (fun _ => ?_)
theorem spec_l4Left.mono : ∀ a0 a1 k, LeO (spec_l4Left.f k a0 a1) (spec_l4Left.f (k + 1) a0 a1) := by
  intro a0 a1 k
  have ih0 := spec_l4Left.mono_l k
  unfold spec_l4Left.f
  repeat' first
      | (with_reducible exact ih0 _ _ _ _)
      | (with_reducible exact spec_l4Class.mono _ _ _)
      | (with_reducible exact LeO.refl _)
      | (with_reducible exact LeO.none _)
      | (with_reducible refine LeO.ite ?_ ?_)
      | (with_reducible refine LeO.bind ?_ (fun _ => ?_))
      | exact ih0 _ _ _ _
      | exact spec_l4Class.mono _ _ _
      | exact LeO.none _
      | refine LeO.ite ?_ ?_
      | refine LeO.bind ?_ (fun _ => ?_)
theorem spec_l4Left_auHB {q : Prop} (h : q := by (repeat (first | (with_reducible first | exact HB.out | apply below_alloc | apply pw_below_drewN | apply below_drew1) | exact HB.out))) : q := h
set_option maxHeartbeats 8000000 in
set_option maxRecDepth 100000 in
theorem spec_l4Left.calls (k : Nat) (A0 : Option Addr) (c0 : Nat) (l0 : List (List (S48))) (a1 : Bool) (r : List (S48)) (w : World) (hr0 : Kd.C (Kd.slice 48 k48) w A0 l0.length l0) (hc0 : l0.length ≤ c0) (h : spec_l4Left.f k l0 a1 = some r) :
  Calls Try.prog 34 #[.slice A0 l0.length c0, .bool a1] w fun e w' => ∃ v0_ : Value, e = .returned (v0_) ∧ Kd.R k48 48 w' w.heap.size (fun _ => True) v0_ r ∧ Below w.heap.size w w' := by
 have HR0 := Aside0.mk hr0
 have HC0 := Aside0.mk hc0
 clear hr0 hc0
 have HB := Aside0.mk (Below.refl w.heap.size w)
 have H : (spec_l4Left.l0 k l0 a1 (([] : List (S48))) (wrap64 ((l0.length : Int) - 1))) = some r := h
 clear h
 obtain ⟨y136, hy136⟩ : ∃ y_ : List (S48), y_ = (([] : List (S48))) := ⟨_, rfl⟩
 replace H : (spec_l4Left.l0 k l0 a1 y136 (wrap64 ((l0.length : Int) - 1))) = some r := by first | (rw [hy136]; with_reducible exact H) | (have H2_ := (Option.bind_some _ _).symm.trans H; rw [hy136]; with_reducible exact H2_) | (have H2_ := (Option.bind_some _ _).symm.trans H; with_reducible exact H2_) | with_reducible exact H | (rw [hy136]; exact H) | exact H
 have Ny136 := Aside0.mk hy136
 clear hy136
 have H' := Aside0.mk H
 clear H
 go_enter Try.func34, Try.ntmps34
 go_wp2_with (first | ((with_reducible refine gate_dst (N := 8) rfl ?_); refine Kd.R_lit k48 _ 48 ?hg (N := 8) ?hd (xs := ([] : List (S48))) (inner := []) (ok := fun _ => True) (okp := fun _ => True) ?hr ?hp (fun _ hk => hk) trivial (Below.refl _ _) (Nat.le_refl _) (by simp) ?_; (case hd => rfl); (case hg => rfl); (case hr => first | (go_simp; done) | (go_simp; rfl)); (case hp => exact (Reps.none _ _)); intro v137 w3 ho4 hb hg_ hnew_; clear hg_ hnew_; (first | rw [← Ny136.out] at ho4 | (simp only [Int.reduceToNat] at ho4; rw [← Ny136.out] at ho4)); have HO138 := Aside0.mk (Kd.R_lower ho4 (below_size (spec_l4Left_auHB))); replace HB := Aside0.mk (below_step (spec_l4Left_auHB) hb); clear hb ho4))
 go_loopg [1, 5, 6] k (fun kq v1 v5 v6 w' => ∃ (x1_1 : Bool) (x5_1 : List (S48)) (x6_1 : Int), v1 = .bool x1_1 ∧ v6 = .int .i64 x6_1 ∧ Aside0 (spec_l4Left.l0 kq l0 x1_1 x5_1 x6_1 = some r) ∧ Aside0 (kq ≤ k) ∧ Aside0 (Kd.R k48 48 w' w.heap.size (fun _ => True) v5 x5_1) ∧ Aside0 (Below w.heap.size w w'))
 case atStart => exact ⟨(a1), (y136), (wrap64 ((l0.length : Int) - 1)), (by first | rfl | (simp; done) | (simp [*]; done)), (by first | rfl | (simp; done) | (simp [*]; done)), H', ⟨Nat.le_refl _⟩, ⟨by (with_reducible repeat (first | apply Kd.R_alloc | apply Kd.R_drewN | apply Kd.R_drew)); exact HO138.out⟩, ⟨spec_l4Left_auHB⟩⟩
 case round =>
  clear H'
  try clear p2
  try clear c3
  obtain ⟨x1_1, x5_1, x6_1, rfl, rfl, HA, HK1, HO_5, HB⟩ := hrel
  cases gk with
  | zero => exact absurd HA.out (by simp [spec_l4Left.l0])
  | succ k1 =>
   have H := HA.out
   clear HA
   simp only [spec_l4Left.l0] at H
   by_cases c5 : x6_1 ≥ 0
   rotate_left
   ·
    rw [if_neg c5] at H
    have c5b0 : decide (0 ≤ x6_1) = false := decide_eq_false c5
    clear c5
    obtain rfl := Option.some.inj H
    go_wp2
    go_ret
    exact ⟨_, by first | rfl | (simp [errW_none, errW_some] <;> rfl) | (simp [*, errW_none, errW_some] <;> rfl), by (with_reducible repeat (first | apply Kd.R_alloc | apply Kd.R_drewN | apply Kd.R_drew)); exact HO_5.out, spec_l4Left_auHB⟩
   rw [if_pos c5] at H
   have c5b0 : decide (0 ≤ x6_1) = true := decide_eq_true c5
   clear c5
   by_cases c6 : 0 ≤ x6_1
   rotate_left
   ·
    rw [if_neg c6] at H
    exact absurd H (by simp)
   rw [if_pos c6] at H
   have c6b0 : decide (0 ≤ x6_1) = true := decide_eq_true c6
   clear c6
   by_cases c7 : x6_1 < (l0.length : Int)
   rotate_left
   ·
    rw [if_neg c7] at H
    exact absurd H (by simp)
   rw [if_pos c7] at H
   have c7b0 : decide (x6_1 < (l0.length : Int)) = true := decide_eq_true c7
   clear c7
   replace H := Option.bind_eq_some_iff.mp H
   obtain ⟨t140, A80, H⟩ := H
   replace H : (if (t140.length : Int) > 0 then ((some (([] : List (S48)) : List (S48))).bind fun y143 => (if y143.length + t140.length < 2513169434916 then ((some (y143 ++ t140 : List (S48))).bind fun y146 => (if y146.length + x5_1.length < 2513169434916 then (spec_l4Left.l0 k1 l0 false (y146 ++ x5_1) (wrap64 (x6_1 - 1))) else (none))) else (none))) else ((some (([] : List (S48)) : List (S48))).bind fun y152 => (if y152.length + t140.length < 2513169434916 then ((some (y152 ++ t140 : List (S48))).bind fun y155 => (if y155.length + x5_1.length < 2513169434916 then (spec_l4Left.l0 k1 l0 x1_1 (y155 ++ x5_1) (wrap64 (x6_1 - 1))) else (none))) else (none)))) = some r := H
   have A8 := Aside0.mk A80
   clear A80
   by_cases c9 : (t140.length : Int) > 0
   ·
    rw [if_pos c9] at H
    have c9b0 : decide (0 < (t140.length : Int)) = true := decide_eq_true c9
    have c9b1 : decide (0 < t140.length) = true := decide_eq_true (by omega)
    clear c9
    obtain ⟨y143, hy143⟩ : ∃ y_ : List (S48), y_ = (([] : List (S48))) := ⟨_, rfl⟩
    replace H : (if y143.length + t140.length < 2513169434916 then ((some (y143 ++ t140 : List (S48))).bind fun y146 => (if y146.length + x5_1.length < 2513169434916 then (spec_l4Left.l0 k1 l0 false (y146 ++ x5_1) (wrap64 (x6_1 - 1))) else (none))) else (none)) = some r := by first | (rw [hy143]; with_reducible exact H) | (have H2_ := (Option.bind_some _ _).symm.trans H; rw [hy143]; with_reducible exact H2_) | (have H2_ := (Option.bind_some _ _).symm.trans H; with_reducible exact H2_) | with_reducible exact H | (rw [hy143]; exact H) | exact H
    have Ny143 := Aside0.mk hy143
    clear hy143
    by_cases c10 : y143.length + t140.length < 2513169434916
    rotate_left
    ·
     rw [if_neg c10] at H
     exact absurd H (by simp)
    rw [if_pos c10] at H
    have LMc10 := Aside0.mk c10
    clear c10
    obtain ⟨y146, hy146⟩ : ∃ y_ : List (S48), y_ = (y143 ++ t140) := ⟨_, rfl⟩
    replace H : (if y146.length + x5_1.length < 2513169434916 then (spec_l4Left.l0 k1 l0 false (y146 ++ x5_1) (wrap64 (x6_1 - 1))) else (none)) = some r := by first | (rw [hy146]; with_reducible exact H) | (have H2_ := (Option.bind_some _ _).symm.trans H; rw [hy146]; with_reducible exact H2_) | (have H2_ := (Option.bind_some _ _).symm.trans H; with_reducible exact H2_) | with_reducible exact H | (rw [hy146]; exact H) | exact H
    have Ny146 := Aside0.mk hy146
    clear hy146
    by_cases c11 : y146.length + x5_1.length < 2513169434916
    rotate_left
    ·
     rw [if_neg c11] at H
     exact absurd H (by simp)
    rw [if_pos c11] at H
    have LMc11 := Aside0.mk c11
    clear c11
    obtain ⟨y149, hy149⟩ : ∃ y_ : List (S48), y_ = (y146 ++ x5_1) := ⟨_, rfl⟩
    replace H : (spec_l4Left.l0 k1 l0 false y149 (wrap64 (x6_1 - 1))) = some r := by first | (rw [hy149]; with_reducible exact H) | (have H2_ := (Option.bind_some _ _).symm.trans H; rw [hy149]; with_reducible exact H2_) | (have H2_ := (Option.bind_some _ _).symm.trans H; with_reducible exact H2_) | with_reducible exact H | (rw [hy149]; exact H) | exact H
    have Ny149 := Aside0.mk hy149
    clear hy149
    have H' := Aside0.mk H
    clear H
    have p139 : 0 ≤ (x6_1 : Int) := of_decide_eq_true (by first | (with_reducible assumption) | assumption)
    have q139 : x6_1 < (l0.length : Int) := of_decide_eq_true (by first | (with_reducible assumption) | assumption)
    obtain ⟨ad139, A139_0, c139_0, e139, hx139_0, hl139_0, hi139_0⟩ := at_L3 HR0.out x6_1 p139 q139
    cases e139
    replace hx139_0 := (HB.out.cell (World.block_lt_of_cell? w _ hx139_0)).trans hx139_0
    have HR139_0 := Aside0.mk hi139_0
    have HC139_0 := Aside0.mk hl139_0
    clear hi139_0 hl139_0
    replace p139 := eq_true p139
    replace q139 := eq_true q139
    go_wp2_with (first | ((with_reducible refine gate_callee (f := 59) rfl ?_); refine goesL_ (some 21) rfl rfl Try.func59 (by kernel_rfl) rfl #[.slice A139_0 (rd_L3 l0 x6_1).length c139_0, .bool x1_1] rfl (by (try simp only [List.map_toArray, List.map_cons, List.map_nil]); first | done | rfl | (simp only [List.length_drop, List.length_take]; rfl)) ?_; (with_reducible refine (spec_l4Class.calls k1 _ _ (rd_L3 l0 x6_1) x1_1 t140 _ ?side1 ?side2 A8.out).mono ?_); (case side1 => repeat (first | exact (Kd.C_below HR139_0.out HB.out) | (with_reducible refine Kd.C_alloc ?_ _) | (with_reducible refine Kd.C_drewN ?_ _) | (with_reducible refine Kd.C_drew ?_))); (case side2 => exact HC139_0.out); rintro e w12 ⟨v141, rfl, ho0, hb⟩; refine ⟨_, rfl, ?_⟩; have HO142 := Aside0.mk (Kd.R_lower (Kd.R_new' ho0 (Kd.R_lt (lo_ HO_5))) (below_size (spec_l4Left_auHB))); replace HO_5 := Aside0.mk (Kd.R_elder' (lo_ HO_5) (Kd.R_base ho0) hb); replace HB := Aside0.mk (below_step (spec_l4Left_auHB) hb); (try clear hb); (try clear hb2); (try clear hk); (try clear hi); (try clear ho0); obtain ⟨Ao13, co13, eo13⟩ := Kd.R_slice HO142.out; subst eo13) | ((with_reducible refine gate_dst (N := 25) rfl ?_); refine Kd.R_lit k48 _ 48 ?hg (N := 25) ?hd (xs := ([] : List (S48))) (inner := []) (ok := fun _ => True) (okp := fun _ => True) ?hr ?hp (fun _ hk => hk) trivial (Below.refl _ _) (Nat.le_refl _) (by simp) ?_; (case hd => rfl); (case hg => rfl); (case hr => first | (go_simp; done) | (go_simp; rfl)); (case hp => exact (Reps.none _ _)); intro v144 w14 ho15 hb hg_ hnew_; clear hg_ hnew_; (first | rw [← Ny143.out] at ho15 | (simp only [Int.reduceToNat] at ho15; rw [← Ny143.out] at ho15)); have HO145 := Aside0.mk (Kd.R_lower (Kd.R_new' (Kd.R_new' ho15 (Kd.R_lt (lo_ HO_5))) (Kd.R_lt (lo_ HO142))) (below_size (spec_l4Left_auHB))); replace HO_5 := Aside0.mk (Kd.R_elder' (lo_ HO_5) (Kd.R_base ho15) hb); replace HO142 := Aside0.mk (Kd.R_elder' (lo_ HO142) (Kd.R_base ho15) hb); replace HB := Aside0.mk (below_step (spec_l4Left_auHB) hb); clear hb ho15) | ((with_reducible refine gate_builtin (b := .append) (xs := #[.tmp 25, .tmp 26]) rfl ?_); at_builtin; refine Kd.R_append_rows k48 (w0 := w) w.heap.size rfl (.tmp 25) (.tmp 26) 25 48 (.agg #[(.string ⟨#[]⟩), (.int .i64 0), (.int .i64 0), (.string ⟨#[]⟩), (.int .i64 0)]) 56 rfl Try.underlying25 info48 rfl (by decide) (by omega) v144 y143 t140 _ _ _ (fun k_ => some k_ ≠ (u5 : Value).ownBlock ∧ some k_ ≠ (.slice Ao13 t140.length co13 : Value).ownBlock) (fun _ => False) rfl rfl ?aO ?aR (fun _ _ h => h) (fun _ h => h.elim) ?aF ?aB ?aS ?aL ?_; (case aR => exact co_ (Kd.R_reads' HO142.out).2.2); (case aB => exact (spec_l4Left_auHB)); (case aF => exact (fun k_ hk => ⟨Kd.fresh' (Kd.R_lt (lo_ HO_5)) k_ hk, Kd.fresh' (Kd.R_lt (lo_ HO142)) k_ hk⟩)); (case aO => exact (by (with_reducible repeat (first | apply Kd.R_alloc | apply Kd.R_drewN | apply Kd.R_drew)); exact Kd.R_mono HO145.out (fun _ hk => ⟨hk.1.2, hk.2⟩))); (case aS => exact (below_size (spec_l4Left_auHB))); (case aL => have := LMc10.out; omega); intro v147 w16 ho hb hg hat; rw [← Ny146.out] at ho; have n0_ := Aside0.mk (Kd.R_after (ok := (fun k_ => some k_ ≠ (.slice Ao13 t140.length co13 : Value).ownBlock)) (by (with_reducible repeat (first | apply Kd.R_alloc | apply Kd.R_drewN | apply Kd.R_drew)); exact Kd.R_mono HO_5.out (fun _ hk => ⟨hk.1.2, hk.2⟩)) hg hat); have n1_ := Aside0.mk (Kd.R_after (ok := (fun k_ => some k_ ≠ (u5 : Value).ownBlock)) (by (with_reducible repeat (first | apply Kd.R_alloc | apply Kd.R_drewN | apply Kd.R_drew)); exact Kd.R_mono HO142.out (fun _ hk => ⟨hk.1.2, hk.2⟩)) hg hat); have n2_ := Aside0.mk (hb); have n3_ := Aside0.mk (ho); clear HO_5; clear HO142; clear HB; clear HO145; have HO_5 := n0_; have HO142 := n1_; have HB := n2_; have HO148 := n3_; clear n0_ n1_ n2_ n3_; clear ho hb hg hat; obtain ⟨Ao18, co18, eo18⟩ := Kd.R_slice HO_5.out; subst eo18) | ((with_reducible refine gate_builtin (b := .append) (xs := #[.tmp 27, .tmp 28]) rfl ?_); at_builtin; refine Kd.R_append_rows k48 (w0 := w) w.heap.size rfl (.tmp 27) (.tmp 28) 25 48 (.agg #[(.string ⟨#[]⟩), (.int .i64 0), (.int .i64 0), (.string ⟨#[]⟩), (.int .i64 0)]) 56 rfl Try.underlying25 info48 rfl (by decide) (by omega) v147 y146 x5_1 _ _ _ (fun k_ => some k_ ≠ (.slice Ao18 x5_1.length co18 : Value).ownBlock ∧ some k_ ≠ (.slice Ao13 t140.length co13 : Value).ownBlock) (fun _ => False) rfl rfl ?aO ?aR (fun _ _ h => h) (fun _ h => h.elim) ?aF ?aB ?aS ?aL ?_; (case aR => exact co_ (Kd.R_reads' HO_5.out).2.2); (case aB => exact (spec_l4Left_auHB)); (case aF => exact (fun k_ hk => ⟨Kd.fresh' (Kd.R_lt (lo_ HO_5)) k_ hk, Kd.fresh' (Kd.R_lt (lo_ HO142)) k_ hk⟩)); (case aO => exact (lo_ HO148)); (case aS => exact (below_size (spec_l4Left_auHB))); (case aL => have := LMc11.out; omega); intro v150 w17 ho hb hg hat; rw [← Ny149.out] at ho; have n0_ := Aside0.mk (Kd.R_after (ok := (fun k_ => some k_ ≠ (.slice Ao13 t140.length co13 : Value).ownBlock)) (lo_ HO_5) hg hat); have n1_ := Aside0.mk (Kd.R_after (ok := (fun k_ => some k_ ≠ (.slice Ao18 x5_1.length co18 : Value).ownBlock)) (lo_ HO142) hg hat); have n2_ := Aside0.mk (hb); have n3_ := Aside0.mk (ho); clear HO_5; clear HO142; clear HB; clear HO148; have HO_5 := n0_; have HO142 := n1_; have HB := n2_; have HO151 := n3_; clear n0_ n1_ n2_ n3_; clear ho hb hg hat))
    go_roundg k1
    case measure => have := HK1.out; omega
    case rel => exact ⟨(false), (y149), (wrap64 (x6_1 - 1)), (by first | rfl | (simp; done) | (simp [*]; done)), (by first | rfl | (simp; done) | (simp [*]; done)), H', ⟨by have := HK1.out; omega⟩, ⟨by (with_reducible repeat (first | apply Kd.R_alloc | apply Kd.R_drewN | apply Kd.R_drew)); exact Kd.R_mono HO151.out (fun _ hk => trivial)⟩, ⟨spec_l4Left_auHB⟩⟩
   rw [if_neg c9] at H
   have c9b0 : decide (0 < (t140.length : Int)) = false := decide_eq_false c9
   have c9b1 : decide (0 < t140.length) = false := decide_eq_false (by omega)
   clear c9
   obtain ⟨y152, hy152⟩ : ∃ y_ : List (S48), y_ = (([] : List (S48))) := ⟨_, rfl⟩
   replace H : (if y152.length + t140.length < 2513169434916 then ((some (y152 ++ t140 : List (S48))).bind fun y155 => (if y155.length + x5_1.length < 2513169434916 then (spec_l4Left.l0 k1 l0 x1_1 (y155 ++ x5_1) (wrap64 (x6_1 - 1))) else (none))) else (none)) = some r := by first | (rw [hy152]; with_reducible exact H) | (have H2_ := (Option.bind_some _ _).symm.trans H; rw [hy152]; with_reducible exact H2_) | (have H2_ := (Option.bind_some _ _).symm.trans H; with_reducible exact H2_) | with_reducible exact H | (rw [hy152]; exact H) | exact H
   have Ny152 := Aside0.mk hy152
   clear hy152
   by_cases c19 : y152.length + t140.length < 2513169434916
   rotate_left
   ·
    rw [if_neg c19] at H
    exact absurd H (by simp)
   rw [if_pos c19] at H
   have LMc19 := Aside0.mk c19
   clear c19
   obtain ⟨y155, hy155⟩ : ∃ y_ : List (S48), y_ = (y152 ++ t140) := ⟨_, rfl⟩
   replace H : (if y155.length + x5_1.length < 2513169434916 then (spec_l4Left.l0 k1 l0 x1_1 (y155 ++ x5_1) (wrap64 (x6_1 - 1))) else (none)) = some r := by first | (rw [hy155]; with_reducible exact H) | (have H2_ := (Option.bind_some _ _).symm.trans H; rw [hy155]; with_reducible exact H2_) | (have H2_ := (Option.bind_some _ _).symm.trans H; with_reducible exact H2_) | with_reducible exact H | (rw [hy155]; exact H) | exact H
   have Ny155 := Aside0.mk hy155
   clear hy155
   by_cases c20 : y155.length + x5_1.length < 2513169434916
   rotate_left
   ·
    rw [if_neg c20] at H
    exact absurd H (by simp)
   rw [if_pos c20] at H
   have LMc20 := Aside0.mk c20
   clear c20
   obtain ⟨y158, hy158⟩ : ∃ y_ : List (S48), y_ = (y155 ++ x5_1) := ⟨_, rfl⟩
   replace H : (spec_l4Left.l0 k1 l0 x1_1 y158 (wrap64 (x6_1 - 1))) = some r := by first | (rw [hy158]; with_reducible exact H) | (have H2_ := (Option.bind_some _ _).symm.trans H; rw [hy158]; with_reducible exact H2_) | (have H2_ := (Option.bind_some _ _).symm.trans H; with_reducible exact H2_) | with_reducible exact H | (rw [hy158]; exact H) | exact H
   have Ny158 := Aside0.mk hy158
   clear hy158
   have H' := Aside0.mk H
   clear H
   have p139 : 0 ≤ (x6_1 : Int) := of_decide_eq_true (by first | (with_reducible assumption) | assumption)
   have q139 : x6_1 < (l0.length : Int) := of_decide_eq_true (by first | (with_reducible assumption) | assumption)
   obtain ⟨ad139, A139_0, c139_0, e139, hx139_0, hl139_0, hi139_0⟩ := at_L3 HR0.out x6_1 p139 q139
   cases e139
   replace hx139_0 := (HB.out.cell (World.block_lt_of_cell? w _ hx139_0)).trans hx139_0
   have HR139_0 := Aside0.mk hi139_0
   have HC139_0 := Aside0.mk hl139_0
   clear hi139_0 hl139_0
   replace p139 := eq_true p139
   replace q139 := eq_true q139
   go_wp2_with (first | ((with_reducible refine gate_callee (f := 59) rfl ?_); refine goesL_ (some 21) rfl rfl Try.func59 (by kernel_rfl) rfl #[.slice A139_0 (rd_L3 l0 x6_1).length c139_0, .bool x1_1] rfl (by (try simp only [List.map_toArray, List.map_cons, List.map_nil]); first | done | rfl | (simp only [List.length_drop, List.length_take]; rfl)) ?_; (with_reducible refine (spec_l4Class.calls k1 _ _ (rd_L3 l0 x6_1) x1_1 t140 _ ?side1 ?side2 A8.out).mono ?_); (case side1 => repeat (first | exact (Kd.C_below HR139_0.out HB.out) | (with_reducible refine Kd.C_alloc ?_ _) | (with_reducible refine Kd.C_drewN ?_ _) | (with_reducible refine Kd.C_drew ?_))); (case side2 => exact HC139_0.out); rintro e w21 ⟨v141, rfl, ho0, hb⟩; refine ⟨_, rfl, ?_⟩; have HO142 := Aside0.mk (Kd.R_lower (Kd.R_new' ho0 (Kd.R_lt (lo_ HO_5))) (below_size (spec_l4Left_auHB))); replace HO_5 := Aside0.mk (Kd.R_elder' (lo_ HO_5) (Kd.R_base ho0) hb); replace HB := Aside0.mk (below_step (spec_l4Left_auHB) hb); (try clear hb); (try clear hb2); (try clear hk); (try clear hi); (try clear ho0); obtain ⟨Ao22, co22, eo22⟩ := Kd.R_slice HO142.out; subst eo22) | ((with_reducible refine gate_dst (N := 25) rfl ?_); refine Kd.R_lit k48 _ 48 ?hg (N := 25) ?hd (xs := ([] : List (S48))) (inner := []) (ok := fun _ => True) (okp := fun _ => True) ?hr ?hp (fun _ hk => hk) trivial (Below.refl _ _) (Nat.le_refl _) (by simp) ?_; (case hd => rfl); (case hg => rfl); (case hr => first | (go_simp; done) | (go_simp; rfl)); (case hp => exact (Reps.none _ _)); intro v153 w23 ho24 hb hg_ hnew_; clear hg_ hnew_; (first | rw [← Ny152.out] at ho24 | (simp only [Int.reduceToNat] at ho24; rw [← Ny152.out] at ho24)); have HO154 := Aside0.mk (Kd.R_lower (Kd.R_new' (Kd.R_new' ho24 (Kd.R_lt (lo_ HO_5))) (Kd.R_lt (lo_ HO142))) (below_size (spec_l4Left_auHB))); replace HO_5 := Aside0.mk (Kd.R_elder' (lo_ HO_5) (Kd.R_base ho24) hb); replace HO142 := Aside0.mk (Kd.R_elder' (lo_ HO142) (Kd.R_base ho24) hb); replace HB := Aside0.mk (below_step (spec_l4Left_auHB) hb); clear hb ho24) | ((with_reducible refine gate_builtin (b := .append) (xs := #[.tmp 25, .tmp 26]) rfl ?_); at_builtin; refine Kd.R_append_rows k48 (w0 := w) w.heap.size rfl (.tmp 25) (.tmp 26) 25 48 (.agg #[(.string ⟨#[]⟩), (.int .i64 0), (.int .i64 0), (.string ⟨#[]⟩), (.int .i64 0)]) 56 rfl Try.underlying25 info48 rfl (by decide) (by omega) v153 y152 t140 _ _ _ (fun k_ => some k_ ≠ (u5 : Value).ownBlock ∧ some k_ ≠ (.slice Ao22 t140.length co22 : Value).ownBlock) (fun _ => False) rfl rfl ?aO ?aR (fun _ _ h => h) (fun _ h => h.elim) ?aF ?aB ?aS ?aL ?_; (case aR => exact co_ (Kd.R_reads' HO142.out).2.2); (case aB => exact (spec_l4Left_auHB)); (case aF => exact (fun k_ hk => ⟨Kd.fresh' (Kd.R_lt (lo_ HO_5)) k_ hk, Kd.fresh' (Kd.R_lt (lo_ HO142)) k_ hk⟩)); (case aO => exact (by (with_reducible repeat (first | apply Kd.R_alloc | apply Kd.R_drewN | apply Kd.R_drew)); exact Kd.R_mono HO154.out (fun _ hk => ⟨hk.1.2, hk.2⟩))); (case aS => exact (below_size (spec_l4Left_auHB))); (case aL => have := LMc19.out; omega); intro v156 w25 ho hb hg hat; rw [← Ny155.out] at ho; have n0_ := Aside0.mk (Kd.R_after (ok := (fun k_ => some k_ ≠ (.slice Ao22 t140.length co22 : Value).ownBlock)) (by (with_reducible repeat (first | apply Kd.R_alloc | apply Kd.R_drewN | apply Kd.R_drew)); exact Kd.R_mono HO_5.out (fun _ hk => ⟨hk.1.2, hk.2⟩)) hg hat); have n1_ := Aside0.mk (Kd.R_after (ok := (fun k_ => some k_ ≠ (u5 : Value).ownBlock)) (by (with_reducible repeat (first | apply Kd.R_alloc | apply Kd.R_drewN | apply Kd.R_drew)); exact Kd.R_mono HO142.out (fun _ hk => ⟨hk.1.2, hk.2⟩)) hg hat); have n2_ := Aside0.mk (hb); have n3_ := Aside0.mk (ho); clear HO_5; clear HO142; clear HB; clear HO154; have HO_5 := n0_; have HO142 := n1_; have HB := n2_; have HO157 := n3_; clear n0_ n1_ n2_ n3_; clear ho hb hg hat; obtain ⟨Ao27, co27, eo27⟩ := Kd.R_slice HO_5.out; subst eo27) | ((with_reducible refine gate_builtin (b := .append) (xs := #[.tmp 27, .tmp 28]) rfl ?_); at_builtin; refine Kd.R_append_rows k48 (w0 := w) w.heap.size rfl (.tmp 27) (.tmp 28) 25 48 (.agg #[(.string ⟨#[]⟩), (.int .i64 0), (.int .i64 0), (.string ⟨#[]⟩), (.int .i64 0)]) 56 rfl Try.underlying25 info48 rfl (by decide) (by omega) v156 y155 x5_1 _ _ _ (fun k_ => some k_ ≠ (.slice Ao27 x5_1.length co27 : Value).ownBlock ∧ some k_ ≠ (.slice Ao22 t140.length co22 : Value).ownBlock) (fun _ => False) rfl rfl ?aO ?aR (fun _ _ h => h) (fun _ h => h.elim) ?aF ?aB ?aS ?aL ?_; (case aR => exact co_ (Kd.R_reads' HO_5.out).2.2); (case aB => exact (spec_l4Left_auHB)); (case aF => exact (fun k_ hk => ⟨Kd.fresh' (Kd.R_lt (lo_ HO_5)) k_ hk, Kd.fresh' (Kd.R_lt (lo_ HO142)) k_ hk⟩)); (case aO => exact (lo_ HO157)); (case aS => exact (below_size (spec_l4Left_auHB))); (case aL => have := LMc20.out; omega); intro v159 w26 ho hb hg hat; rw [← Ny158.out] at ho; have n0_ := Aside0.mk (Kd.R_after (ok := (fun k_ => some k_ ≠ (.slice Ao22 t140.length co22 : Value).ownBlock)) (lo_ HO_5) hg hat); have n1_ := Aside0.mk (Kd.R_after (ok := (fun k_ => some k_ ≠ (.slice Ao27 x5_1.length co27 : Value).ownBlock)) (lo_ HO142) hg hat); have n2_ := Aside0.mk (hb); have n3_ := Aside0.mk (ho); clear HO_5; clear HO142; clear HB; clear HO157; have HO_5 := n0_; have HO142 := n1_; have HB := n2_; have HO160 := n3_; clear n0_ n1_ n2_ n3_; clear ho hb hg hat))
   go_roundg k1
   case measure => have := HK1.out; omega
   case rel => exact ⟨(x1_1), (y158), (wrap64 (x6_1 - 1)), (by first | rfl | (simp; done) | (simp [*]; done)), (by first | rfl | (simp; done) | (simp [*]; done)), H', ⟨by have := HK1.out; omega⟩, ⟨by (with_reducible repeat (first | apply Kd.R_alloc | apply Kd.R_drewN | apply Kd.R_drew)); exact Kd.R_mono HO160.out (fun _ hk => trivial)⟩, ⟨spec_l4Left_auHB⟩⟩

/-! ### spec_l4Apart: function 60 -/
def spec_l4Apart.l0 : Nat → List Int → Int → Int → Int → Option (Bool)
  | 0, _, _, _, _ => none
  | k + 1, x0, x1, x2, x7 => if x7 < (x0.length : Int) then (if 0 ≤ x7 then (if x1 ≤ (rd x0 x7) then (if (rd x0 x7) < x2 then (some true) else (spec_l4Apart.l0 k x0 x1 x2 (wrap64 (x7 + 1)))) else (spec_l4Apart.l0 k x0 x1 x2 (wrap64 (x7 + 1)))) else (none)) else (some false)
def spec_l4Apart.f (k : Nat) (l0 : List Int) (a1 : Int) (a2 : Int) : Option (Bool) := spec_l4Apart.l0 k l0 a1 a2 0
theorem spec_l4Apart.mono_l : ∀ k, (∀ y0 y1 y2 y3, LeO (spec_l4Apart.l0 k y0 y1 y2 y3) (spec_l4Apart.l0 (k + 1) y0 y1 y2 y3))
  | 0 => fun _ _ _ _ r h => by simp [spec_l4Apart.l0] at h
  | k + 1 => by
    have ih0 := spec_l4Apart.mono_l k
    · intro y0 y1 y2 y3
      unfold spec_l4Apart.l0
      repeat' first
      | (with_reducible exact ih0 _ _ _ _)
      | (with_reducible exact LeO.refl _)
      | (with_reducible exact LeO.none _)
      | (with_reducible refine LeO.ite ?_ ?_)
      | (with_reducible refine LeO.bind ?_ (fun _ => ?_))
      | exact ih0 _ _ _ _
      | exact LeO.none _
      | refine LeO.ite ?_ ?_
      | refine LeO.bind ?_ (fun _ => ?_)
theorem spec_l4Apart.mono : ∀ a0 a1 a2 k, LeO (spec_l4Apart.f k a0 a1 a2) (spec_l4Apart.f (k + 1) a0 a1 a2) := by
  intro a0 a1 a2 k
  have ih0 := spec_l4Apart.mono_l k
  unfold spec_l4Apart.f
  repeat' first
      | (with_reducible exact ih0 _ _ _ _)
      | (with_reducible exact LeO.refl _)
      | (with_reducible exact LeO.none _)
      | (with_reducible refine LeO.ite ?_ ?_)
      | (with_reducible refine LeO.bind ?_ (fun _ => ?_))
      | exact ih0 _ _ _ _
      | exact LeO.none _
      | refine LeO.ite ?_ ?_
      | refine LeO.bind ?_ (fun _ => ?_)
set_option maxHeartbeats 8000000 in
set_option maxRecDepth 100000 in
theorem spec_l4Apart.calls (k : Nat) (A0 : Option Addr) (c0 : Nat) (l0 : List Int) (a1 : Int) (a2 : Int) (r : Bool) (w : World) (hr0 : Kd.C (Kd.int .i64) w A0 l0.length l0) (hc0 : l0.length ≤ c0) (h : spec_l4Apart.f k l0 a1 a2 = some r) :
    Calls Try.prog 60 #[.slice A0 l0.length c0, .int .i64 a1, .int .i64 a2] w fun e w' => e = .returned (.bool r) ∧ Drawn0 w w' := by
  have HR0 := Aside0.mk hr0
  have HC0 := Aside0.mk hc0
  clear hr0 hc0
  have H : (spec_l4Apart.l0 k l0 a1 a2 0) = some r := h
  clear h
  have H' := Aside0.mk H
  clear H
  go_enter Try.func60, Try.ntmps60
  go_wp2
  go_loopg [7] k (fun kq v7 w' => ∃ (x7_1 : Int), v7 = .int .i64 x7_1 ∧ Aside0 (spec_l4Apart.l0 kq l0 a1 a2 x7_1 = some r) ∧ Aside0 (kq ≤ k) ∧ Drawn0 w w')
  case atStart => exact ⟨(0), (by first | rfl | (simp; done) | (simp [*]; done)), H', ⟨Nat.le_refl _⟩, by repeat (first | exact Drawn0.refl _ | apply Drawn0.step)⟩
  case round =>
    clear H'
    try clear p2
    obtain ⟨x7_1, rfl, HA, HK1, ⟨m1, rfl⟩⟩ := hrel
    cases gk with
    | zero => exact absurd HA.out (by simp [spec_l4Apart.l0])
    | succ k1 =>
      have H := HA.out
      clear HA
      simp only [spec_l4Apart.l0] at H
      by_cases c4 : x7_1 < (l0.length : Int)
      · rw [if_pos c4] at H
        have c4b0 : decide (x7_1 < (l0.length : Int)) = true := decide_eq_true c4
        clear c4
        by_cases c5 : 0 ≤ x7_1
        · rw [if_pos c5] at H
          have c5b0 : decide (0 ≤ x7_1) = true := decide_eq_true c5
          clear c5
          by_cases c6 : a1 ≤ (rd l0 x7_1)
          · rw [if_pos c6] at H
            have c6b0 : decide (a1 ≤ (rd l0 x7_1)) = true := decide_eq_true c6
            clear c6
            by_cases c7 : (rd l0 x7_1) < a2
            · rw [if_pos c7] at H
              have c7b0 : decide ((rd l0 x7_1) < a2) = true := decide_eq_true c7
              clear c7
              obtain rfl := Option.some.inj H
              have p161 : 0 ≤ (x7_1 : Int) := of_decide_eq_true (by first | (with_reducible assumption) | assumption)
              have q161 : x7_1 < (l0.length : Int) := of_decide_eq_true (by first | (with_reducible assumption) | assumption)
              obtain ⟨ad161, e161, hx161_0⟩ := Kd.at_int HR0.out x7_1 p161 q161
              cases e161
              replace p161 := eq_true p161
              replace q161 := eq_true q161
              have p162 : 0 ≤ (x7_1 : Int) := of_decide_eq_true (by first | (with_reducible assumption) | assumption)
              have q162 : x7_1 < (l0.length : Int) := of_decide_eq_true (by first | (with_reducible assumption) | assumption)
              obtain ⟨ad162, e162, hx162_0⟩ := Kd.at_int HR0.out x7_1 p162 q162
              obtain rfl : ad161 = ad162 := (by injection e162)
              replace p162 := eq_true p162
              replace q162 := eq_true q162
              go_wp2
              go_ret
              exact ⟨by first | rfl | (simp; done) | (simp [*]; done), by repeat (first | exact Drawn0.refl _ | apply Drawn0.step)⟩
            · rw [if_neg c7] at H
              have c7b0 : decide ((rd l0 x7_1) < a2) = false := decide_eq_false c7
              clear c7
              have H' := Aside0.mk H
              clear H
              have p161 : 0 ≤ (x7_1 : Int) := of_decide_eq_true (by first | (with_reducible assumption) | assumption)
              have q161 : x7_1 < (l0.length : Int) := of_decide_eq_true (by first | (with_reducible assumption) | assumption)
              obtain ⟨ad161, e161, hx161_0⟩ := Kd.at_int HR0.out x7_1 p161 q161
              cases e161
              replace p161 := eq_true p161
              replace q161 := eq_true q161
              have p162 : 0 ≤ (x7_1 : Int) := of_decide_eq_true (by first | (with_reducible assumption) | assumption)
              have q162 : x7_1 < (l0.length : Int) := of_decide_eq_true (by first | (with_reducible assumption) | assumption)
              obtain ⟨ad162, e162, hx162_0⟩ := Kd.at_int HR0.out x7_1 p162 q162
              obtain rfl : ad161 = ad162 := (by injection e162)
              replace p162 := eq_true p162
              replace q162 := eq_true q162
              go_wp2
              go_roundg k1
              case measure => have := HK1.out; omega
              case rel => exact ⟨(wrap64 (x7_1 + 1)), (by first | rfl | (simp; done) | (simp [*]; done)), H', ⟨by have := HK1.out; omega⟩, by repeat (first | exact Drawn0.refl _ | apply Drawn0.step)⟩
          · rw [if_neg c6] at H
            have c6b0 : decide (a1 ≤ (rd l0 x7_1)) = false := decide_eq_false c6
            clear c6
            have H' := Aside0.mk H
            clear H
            have p161 : 0 ≤ (x7_1 : Int) := of_decide_eq_true (by first | (with_reducible assumption) | assumption)
            have q161 : x7_1 < (l0.length : Int) := of_decide_eq_true (by first | (with_reducible assumption) | assumption)
            obtain ⟨ad161, e161, hx161_0⟩ := Kd.at_int HR0.out x7_1 p161 q161
            cases e161
            replace p161 := eq_true p161
            replace q161 := eq_true q161
            go_wp2
            go_roundg k1
            case measure => have := HK1.out; omega
            case rel => exact ⟨(wrap64 (x7_1 + 1)), (by first | rfl | (simp; done) | (simp [*]; done)), H', ⟨by have := HK1.out; omega⟩, by repeat (first | exact Drawn0.refl _ | apply Drawn0.step)⟩
        · rw [if_neg c5] at H
          exact absurd H (by simp)
      · rw [if_neg c4] at H
        have c4b0 : decide (x7_1 < (l0.length : Int)) = false := decide_eq_false c4
        clear c4
        obtain rfl := Option.some.inj H
        go_wp2
        go_ret
        exact ⟨by first | rfl | (simp; done) | (simp [*]; done), by repeat (first | exact Drawn0.refl _ | apply Drawn0.step)⟩


end Go.Proofs.Ytcfebbhiehaocaa.QFnSquashTwice
