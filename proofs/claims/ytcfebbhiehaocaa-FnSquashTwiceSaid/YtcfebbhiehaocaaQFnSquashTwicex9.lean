/- What the law FnSquashTwice reaches, function by function: what each computes, and that the machine's call comes to it. Laid by a program. -/
import Derived.Test.YtcfebbhiehaocaaQFnSquashTwicex0
namespace Go.Proofs.Ytcfebbhiehaocaa.QFnSquashTwice
open Go.RowKit Go.Proofs.YtcfebbhiehaocaaW.PrintWords Go.Proofs.YtcfebbhiehaocaaW.PrintLast Go.Proofs.YtcfebbhiehaocaaW.PrintMore
attribute [local go_sem] max2_int min2_int max_two min_two max_three min_three max_four min_four   -- for this text's walks alone
set_option linter.unusedVariables false
set_option linter.unusedSimpArgs false

/-! ### impl_classOne: function 81 -/
/-- What some entries of a key, the newest first, come to: the kind, the text, the sum. -/
def oneGo : List S48 → Bool → Int → Int × ByteArray × Int
  | [], _, n => (3, ⟨#[]⟩, n)
  | e :: r, first, n => if e.f2 = 3 then oneGo r false (wrap64 (n + e.f4)) else if e.f2 = 1 then (1, e.f3, wrap64 (n + e.f4)) else if first = true then (2, ⟨#[]⟩, n) else (1, ⟨#[]⟩, n)
def impl_classOne.f (l0 : List S48) : Option (ByteArray × Int × Int × ByteArray × Int) := match l0 with
  | [] => none
  | e :: r => some (e.f0, e.f1, (oneGo (e :: r) true 0).1, (oneGo (e :: r) true 0).2.1, (oneGo (e :: r) true 0).2.2)
theorem five_put {W : World} {b : Nat} {t : TypeId} {z0 z1 z2 z3 z4 : Value} (h : W.heap[b]? = some (.cells #[z0, z1, z2, z3, z4] t (0, 0))) (a0 a1 a2 a3 a4 : Value) : (((((W.setCell ⟨b, 0, none⟩ a0).setCell ⟨b, 1, none⟩ a1).setCell ⟨b, 2, none⟩ a2).setCell ⟨b, 3, none⟩ a3).setCell ⟨b, 4, none⟩ a4).heap[b]? = some (.cells #[a0, a1, a2, a3, a4] t (0, 0)) :=
  blk_put (blk_put (blk_put (blk_put (blk_put h 0 a0 rfl) 1 a1 rfl) 2 a2 rfl) 3 a3 rfl) 4 a4 rfl
theorem five_far {W : World} {b g : Nat} {cs : Array Value} {t : TypeId} (h : W.heap[g]? = some (.cells cs t (0, 0))) (hne : g ≠ b) (a0 a1 a2 a3 a4 : Value) : (((((W.setCell ⟨b, 0, none⟩ a0).setCell ⟨b, 1, none⟩ a1).setCell ⟨b, 2, none⟩ a2).setCell ⟨b, 3, none⟩ a3).setCell ⟨b, 4, none⟩ a4).heap[g]? = some (.cells cs t (0, 0)) :=
  blk_far (blk_far (blk_far (blk_far (blk_far h (p := ⟨b, 0, none⟩) hne a0) (p := ⟨b, 1, none⟩) hne a1) (p := ⟨b, 2, none⟩) hne a2) (p := ⟨b, 3, none⟩) hne a3) (p := ⟨b, 4, none⟩) hne a4
theorem five_below {B b : Nat} {w W : World} (h : Below B w W) (hb : B ≤ b) (a0 a1 a2 a3 a4 : Value) : Below B w (((((W.setCell ⟨b, 0, none⟩ a0).setCell ⟨b, 1, none⟩ a1).setCell ⟨b, 2, none⟩ a2).setCell ⟨b, 3, none⟩ a3).setCell ⟨b, 4, none⟩ a4) :=
  ((((h.setCell (p := ⟨b, 0, none⟩) hb a0).setCell (p := ⟨b, 1, none⟩) hb a1).setCell (p := ⟨b, 2, none⟩) hb a2).setCell (p := ⟨b, 3, none⟩) hb a3).setCell (p := ⟨b, 4, none⟩) hb a4
set_option maxRecDepth 100000 in
set_option maxHeartbeats 4000000 in
theorem impl_classOne.calls (A0 : Option Addr) (c0 : Nat) (l0 : List (S48)) (r1 : ByteArray) (r2 r3 : Int) (r4 : ByteArray) (r5 : Int) (w : World) (hr0 : Kd.C k48 w A0 l0.length l0) (hc0 : l0.length ≤ c0) (h : impl_classOne.f l0 = some (r1, r2, r3, r4, r5)) :
    Calls Try.prog 81 #[.slice A0 l0.length c0] w fun e w' => e = .returned (.agg #[.string r1, .int .i64 r2, .int .i64 r3, .string r4, .int .i64 r5]) ∧ Below w.heap.size w w' := by
  have HR := Aside0.mk hr0
  have HC := Aside0.mk hc0
  cases l0 with
  | nil => cases h
  | cons e0 r0 =>
    have H := Aside0.mk h
    have p0 : (0 : Int) ≤ 0 := Int.le_refl _
    have q0 : (0 : Int) < (((e0 :: r0).length : Nat) : Int) := by simp
    have hl0 : 0 < (e0 :: r0).length := by simp
    obtain ⟨ad, ea, g0, g1, g2, g3, g4⟩ := at_T48 hr0 0 p0 q0
    have hx : rd_T48 (e0 :: r0) 0 = e0 := by simp [rd_T48]
    rw [hx] at g0 g1 g2 g3 g4
    cases ea
    have ez : ad.add ((0 : Int).toNat * 5) = ad := by
      obtain ⟨b, o, sp⟩ := ad
      cases sp <;> simp [Addr.add]
    rw [ez] at g0 g1 g2 g3 g4
    clear hr0 hc0 h hx p0 ez
    obtain ⟨m, hm⟩ : ∃ m, (e0 :: r0).length = m := ⟨_, rfl⟩
    rw [hm] at hl0 q0 HR HC ⊢
    go_enter Try.func81, Try.ntmps81
    go_wp2
    obtain ⟨w1, hw1⟩ : ∃ w1, w.alloc (.cells #[.string ⟨#[]⟩, .int .i64 0, .int .i64 0, .string ⟨#[]⟩, .int .i64 0] 48) = w1 := ⟨_, rfl⟩
    rw [hw1]
    have l0 := World.block_lt_of_cell? w _ g0
    have k0 : w1.cell? ad = some (.string e0.f0) := by rw [← hw1]; exact (Below.cell ((Below.refl _ w).alloc (Nat.le_refl _) _) l0).trans g0
    have k1 : w1.cell? ⟨ad.block, ad.off + 1, none⟩ = some (.int .i64 e0.f1) := by rw [← hw1]; exact (Below.cell (p := ⟨ad.block, ad.off + 1, none⟩) ((Below.refl _ w).alloc (Nat.le_refl _) _) l0).trans g1
    have hB : Below w.heap.size w w1 := by rw [← hw1]; exact (Below.refl _ w).alloc (Nat.le_refl _) _
    have hb : w1.heap[w.heap.size]? = some (.cells #[.string ⟨#[]⟩, .int .i64 0, .int .i64 0, .string ⟨#[]⟩, .int .i64 0] 48 (0, 0)) := by rw [← hw1]; exact heap_alloc_new w _
    have l1 : ad.block < w1.heap.size := Nat.lt_of_lt_of_le l0 hB.size
    have HB := Aside0.mk hB
    have HB2 := Aside0.mk hb
    have G := Aside0.mk (And.intro g0 (And.intro g1 (And.intro g2 (And.intro g3 g4))))
    clear hB hb g0 g1 g2 g3 g4 hw1
    go_region
    obtain ⟨W2, hW2⟩ : ∃ W2, (w1.alloc (.cells #[.string e0.f0, .int .i64 e0.f1, .int .i64 3, .string ⟨#[]⟩, .int .i64 0] 48)).drew = W2 := ⟨_, rfl⟩
    have hone : W2.heap[w1.heap.size]? = some (.cells #[.string e0.f0, .int .i64 e0.f1, .int .i64 3, .string ⟨#[]⟩, .int .i64 0] 48 (0, 0)) := by rw [← hW2]; exact heap_alloc_new w1 _
    have hltR : w.heap.size < w1.heap.size := (Array.getElem?_eq_some_iff.1 HB2.out).1
    have hres : W2.heap[w.heap.size]? = some (.cells #[.string ⟨#[]⟩, .int .i64 0, .int .i64 0, .string ⟨#[]⟩, .int .i64 0] 48 (0, 0)) := by rw [← hW2]; exact (Below.heap_alloc w1 _ _ hltR).trans HB2.out
    have hB2 : Below w.heap.size w W2 := by
      rw [← hW2]
      have hb := HB.out.alloc HB.out.size (.cells #[.string e0.f0, .int .i64 e0.f1, .int .i64 3, .string ⟨#[]⟩, .int .i64 0] 48)
      exact ⟨hb.os, hb.tape, hb.output, hb.size, hb.block⟩
    rw [hW2]
    obtain ⟨L, hL⟩ : ∃ L, w1.heap.size = L := ⟨_, rfl⟩
    rw [hL] at hone hltR ⊢
    have AONE := Aside0.mk hone
    have ARES := Aside0.mk hres
    have AB2 := Aside0.mk hB2
    have hr3 : r3 = (oneGo (e0 :: r0) true 0).1 ∧ r4 = (oneGo (e0 :: r0) true 0).2.1 ∧ r5 = (oneGo (e0 :: r0) true 0).2.2 ∧ r1 = e0.f0 ∧ r2 = e0.f1 := by
      have h := H.out
      simp only [impl_classOne.f, Option.some.injEq, Prod.mk.injEq] at h
      exact ⟨h.2.2.1.symm, h.2.2.2.1.symm, h.2.2.2.2.symm, h.1.symm, h.2.1.symm⟩
    have AR := Aside0.mk hr3
    clear hone hres hB2 hW2 HB HB2 k0 k1 l0 l1 hL hr3 H
    have HM := Aside0.mk hm
    clear hm q0
    rename_i hK
    refine hK _ _ ?_
    clear hK
    go_wp2
    go_loopg [17] m (fun kq v17 wr => ∃ (pre rest : List S48) (n : Int), v17 = .int .i64 (pre.length : Nat) ∧ Aside0 (e0 :: r0 = pre ++ rest ∧ rest.length ≤ kq ∧ oneGo rest (pre.isEmpty) n = oneGo (e0 :: r0) true 0) ∧ Aside0 (wr.heap[L]? = some (.cells #[.string e0.f0, .int .i64 e0.f1, .int .i64 3, .string ⟨#[]⟩, .int .i64 n] 48 (0, 0))) ∧ Aside0 (wr.heap[w.heap.size]? = some (.cells #[.string ⟨#[]⟩, .int .i64 0, .int .i64 0, .string ⟨#[]⟩, .int .i64 0] 48 (0, 0))) ∧ Aside0 (Below w.heap.size w wr))
    case atStart => exact ⟨[], e0 :: r0, 0, rfl, ⟨rfl, Nat.le_of_eq HM.out, rfl⟩, AONE, ARES, AB2⟩
    case round =>
      clear AONE ARES AB2
      obtain ⟨pre, rest, n, rfl, HX, HO, HRS, HBW⟩ := hrel
      cases rest with
      | nil =>
        have hl : pre.length = m := by rw [← HM.out, HX.out.1]; simp
        have d1 : decide ((pre.length : Int) < (m : Int)) = false := decide_eq_false (by omega)
        have d2 : decide (pre.length < m) = false := decide_eq_false (by omega)
        clear hl
        have o0 := (blk_cell HO.out 0).trans (show _ = some (Value.string e0.f0) from rfl)
        have o1 := (blk_cell HO.out 1).trans (show _ = some (Value.int .i64 e0.f1) from rfl)
        have o2 := (blk_cell HO.out 2).trans (show _ = some (Value.int .i64 3) from rfl)
        have o3 := (blk_cell HO.out 3).trans (show _ = some (Value.string ⟨#[]⟩) from rfl)
        have o4 := (blk_cell HO.out 4).trans (show _ = some (Value.int .i64 n) from rfl)
        have s0 := (blk_cell HRS.out 0).trans (show _ = some (Value.string ⟨#[]⟩) from rfl)
        have s1 := (blk_cell HRS.out 1).trans (show _ = some (Value.int .i64 0) from rfl)
        have s2 := (blk_cell HRS.out 2).trans (show _ = some (Value.int .i64 0) from rfl)
        have s3 := (blk_cell HRS.out 3).trans (show _ = some (Value.string ⟨#[]⟩) from rfl)
        have s4 := (blk_cell HRS.out 4).trans (show _ = some (Value.int .i64 0) from rfl)
        have f0 := blk_frozen HRS.out 0
        have f1 := blk_frozen HRS.out 1
        have f2 := blk_frozen HRS.out 2
        have f3 := blk_frozen HRS.out 3
        have f4 := blk_frozen HRS.out 4
        go_wp2
        obtain ⟨e3, e4, e5, e1, e2⟩ := AR.out
        have hx : oneGo ([] : List S48) pre.isEmpty n = _ := HX.out.2.2
        rw [← hx] at e3 e4 e5
        subst e1 e2 e3 e4 e5
        apply bodyPost_ret (v := .agg #[.string e0.f0, .int .i64 e0.f1, .int .i64 3, .string ⟨#[]⟩, .int .i64 r5])
        case hr => exact results_cell_row rfl _ _ w.heap.size 48 #[.string e0.f0, .int .i64 e0.f1, .int .i64 3, .string ⟨#[]⟩, .int .i64 r5] (0, 0) _ rfl (five_put HRS.out _ _ _ _ _) Try.underlying48 rfl (by kernel_rfl)
        case hd => rfl
        exact ⟨rfl, five_below HBW.out (Nat.le_refl _) _ _ _ _ _⟩
      | cons e rest =>
        have hl : m = pre.length + (rest.length + 1) := by rw [← HM.out, HX.out.1]; simp
        have hxx : rd_T48 (e0 :: r0) (pre.length : Int) = e := by rw [HX.out.1]; simp [rd_T48]
        have p0 : (0 : Int) ≤ (pre.length : Int) := by omega
        have q0 : (pre.length : Int) < (m : Int) := by omega
        obtain ⟨ad2, ea, g0, g1, g2, g3, g4⟩ := at_T48 (HM.out ▸ HR.out) (pre.length : Int) p0 (HM.out.symm ▸ q0)
        rw [hxx, Int.toNat_natCast] at g0 g1 g2 g3 g4
        cases ea
        replace g0 := (HBW.out.cell (World.block_lt_of_cell? w _ g0)).trans g0
        replace g1 := (HBW.out.cell (World.block_lt_of_cell? w _ g1)).trans g1
        replace g2 := (HBW.out.cell (World.block_lt_of_cell? w _ g2)).trans g2
        replace g3 := (HBW.out.cell (World.block_lt_of_cell? w _ g3)).trans g3
        replace g4 := (HBW.out.cell (World.block_lt_of_cell? w _ g4)).trans g4
        have d1 : decide ((pre.length : Int) < (m : Int)) = true := decide_eq_true (by omega)
        have d2 : decide (pre.length < m) = true := decide_eq_true (by omega)
        have HL := Aside0.mk hl
        clear hl hxx
        have o4 := fun o => (blk_cell (blk_alloc HO.out o) 4).trans (show _ = some (Value.int .i64 n) from rfl)
        have fz := fun o => blk_frozen (blk_alloc HO.out o) 4
        have hmx : m ≤ 9223372036854775807 := HR.out.2.1
        have HMX := Aside0.mk hmx
        have HNE := Aside0.mk (show w.heap.size ≠ L by omega)
        clear hmx
        by_cases h3 : e.f2 = 3
        · have k3 : decide (e.f2 = 3) = true := decide_eq_true h3
          go_wp2
          go_roundg rest.length
          case measure => have := HX.out.2.1; simp at this ⊢; omega
          case rel =>
            refine ⟨pre ++ [e], rest, wrap64 (n + e.f4), ?_, ⟨by rw [HX.out.1]; simp, Nat.le_refl _, ?_⟩, ⟨blk_put (blk_alloc HO.out _) 4 _ rfl⟩, ⟨blk_far (blk_alloc HRS.out _) (p := ⟨L, 4, none⟩) HNE.out _⟩, ⟨(HBW.out.alloc HBW.out.size _).setCell (p := ⟨L, 4, none⟩) (by show w.heap.size ≤ L; omega) _⟩⟩
            · have e1 : wrap64 ((pre.length : Int) + 1) = ((pre ++ [e]).length : Int) := by have := HL.out; have := HMX.out; rw [List.length_append]; unfold wrap64; simp; omega
              first | rw [e1] | exact congrArg _ e1
            · have hg := HX.out.2.2
              rw [← hg]
              conv => rhs; rw [oneGo]
              rw [if_pos h3]
              cases pre <;> rfl
        · have k3 : decide (e.f2 = 3) = false := decide_eq_false h3
          have j3 : (e.f2 == 3) = false := beq_false_of_ne h3
          by_cases h1 : e.f2 = 1
          · have k1 : decide (e.f2 = 1) = true := decide_eq_true h1
            go_wp2
            rename_i hK
            obtain ⟨W4, hW4⟩ : ∃ W4, wr.alloc (.cells #[.string e.f0, .int .i64 e.f1, .int .i64 1, .string e.f3, .int .i64 e.f4] 48) = W4 := ⟨_, rfl⟩
            rw [hW4]
            have n0 : W4.heap[wr.heap.size]? = some (.cells #[.string e.f0, .int .i64 e.f1, .int .i64 1, .string e.f3, .int .i64 e.f4] 48 (0, 0)) := by rw [← hW4]; exact heap_alloc_new wr _
            have n1 : W4.heap[L]? = some (.cells #[.string e0.f0, .int .i64 e0.f1, .int .i64 3, .string ⟨#[]⟩, .int .i64 n] 48 (0, 0)) := by rw [← hW4]; exact blk_alloc HO.out _
            have n2 : W4.heap[w.heap.size]? = some (.cells #[.string ⟨#[]⟩, .int .i64 0, .int .i64 0, .string ⟨#[]⟩, .int .i64 0] 48 (0, 0)) := by rw [← hW4]; exact blk_alloc HRS.out _
            have nB : Below w.heap.size w W4 := by rw [← hW4]; exact HBW.out.alloc HBW.out.size _
            have nne : L ≠ wr.heap.size := Nat.ne_of_lt (blk_lt HO.out)
            obtain ⟨N, hN⟩ : ∃ N, wr.heap.size = N := ⟨_, rfl⟩
            rw [hN] at n0 nne ⊢
            clear hW4 hN o4 fz g0 g1 g2 g3 g4
            have c3 := (blk_cell n0 3).trans (show _ = some (Value.string e.f3) from rfl)
            have c4 := (blk_cell n0 4).trans (show _ = some (Value.int .i64 e.f4) from rfl)
            have o2 := (blk_cell n1 2).trans (show _ = some (Value.int .i64 3) from rfl)
            have o3 := (blk_cell n1 3).trans (show _ = some (Value.string ⟨#[]⟩) from rfl)
            have o4 := (blk_cell n1 4).trans (show _ = some (Value.int .i64 n) from rfl)
            have z2 := blk_frozen n1 2
            have z3 := blk_frozen n1 3
            have z4 := blk_frozen n1 4
            have N0 := Aside0.mk n0
            have N1 := Aside0.mk n1
            have N2 := Aside0.mk n2
            have NB := Aside0.mk nB
            clear n0 n1 n2 nB
            go_region
            have m1 := blk_drew (blk_put (blk_put (blk_put N1.out 2 (.int .i64 1) rfl) 3 (.string e.f3) rfl) 4 (.int .i64 (wrap64 (n + e.f4))) rfl)
            have m2 := blk_drew (blk_far (blk_far (blk_far N2.out (p := ⟨L, 2, none⟩) HNE.out (.int .i64 1)) (p := ⟨L, 3, none⟩) HNE.out (.string e.f3)) (p := ⟨L, 4, none⟩) HNE.out (.int .i64 (wrap64 (n + e.f4))))
            have mB : Below w.heap.size w ((((W4.setCell ⟨L, 2, none⟩ (.int .i64 1)).setCell ⟨L, 3, none⟩ (.string e.f3)).setCell ⟨L, 4, none⟩ (.int .i64 (wrap64 (n + e.f4)))).drew) := by
              have hle : w.heap.size ≤ L := by omega
              have hb := ((NB.out.setCell (p := ⟨L, 2, none⟩) hle (.int .i64 1)).setCell (p := ⟨L, 3, none⟩) hle (.string e.f3)).setCell (p := ⟨L, 4, none⟩) hle (.int .i64 (wrap64 (n + e.f4)))
              exact ⟨hb.os, hb.tape, hb.output, hb.size, hb.block⟩
            obtain ⟨W5, hW5⟩ : ∃ W5, (((W4.setCell ⟨L, 2, none⟩ (.int .i64 1)).setCell ⟨L, 3, none⟩ (.string e.f3)).setCell ⟨L, 4, none⟩ (.int .i64 (wrap64 (n + e.f4)))).drew = W5 := ⟨_, rfl⟩
            rw [hW5] at m1 m2 mB ⊢
            have M1 := Aside0.mk m1
            have M2 := Aside0.mk m2
            have MB := Aside0.mk mB
            clear m1 m2 mB hW5 c3 c4 o2 o3 o4 z2 z3 z4 N0 N1 N2 NB
            have q0 := (blk_cell M1.out 0).trans (show _ = some (Value.string e0.f0) from rfl)
            have q1 := (blk_cell M1.out 1).trans (show _ = some (Value.int .i64 e0.f1) from rfl)
            have q2 := (blk_cell M1.out 2).trans (show _ = some (Value.int .i64 1) from rfl)
            have q3 := (blk_cell M1.out 3).trans (show _ = some (Value.string e.f3) from rfl)
            have q4 := (blk_cell M1.out 4).trans (show _ = some (Value.int .i64 (wrap64 (n + e.f4))) from rfl)
            have s0 := (blk_cell M2.out 0).trans (show _ = some (Value.string ⟨#[]⟩) from rfl)
            have s1 := (blk_cell M2.out 1).trans (show _ = some (Value.int .i64 0) from rfl)
            have s2 := (blk_cell M2.out 2).trans (show _ = some (Value.int .i64 0) from rfl)
            have s3 := (blk_cell M2.out 3).trans (show _ = some (Value.string ⟨#[]⟩) from rfl)
            have s4 := (blk_cell M2.out 4).trans (show _ = some (Value.int .i64 0) from rfl)
            have f0 := blk_frozen M2.out 0
            have f1 := blk_frozen M2.out 1
            have f2 := blk_frozen M2.out 2
            have f3 := blk_frozen M2.out 3
            have f4 := blk_frozen M2.out 4
            refine hK _ _ ?_
            clear hK
            go_wp2
            obtain ⟨e3, e4, e5, e1, e2⟩ := AR.out
            have hx : oneGo (e :: rest) pre.isEmpty n = _ := HX.out.2.2
            rw [oneGo, if_neg h3, if_pos h1] at hx
            rw [← hx] at e3 e4 e5
            simp only at e3 e4 e5
            rw [e1, e2, e3, e4, e5]
            apply bodyPost_ret (v := .agg #[.string e0.f0, .int .i64 e0.f1, .int .i64 1, .string e.f3, .int .i64 (wrap64 (n + e.f4))])
            case hr => exact results_cell_row rfl _ _ w.heap.size 48 #[.string e0.f0, .int .i64 e0.f1, .int .i64 1, .string e.f3, .int .i64 (wrap64 (n + e.f4))] (0, 0) _ rfl (five_put M2.out _ _ _ _ _) Try.underlying48 rfl (by kernel_rfl)
            case hd => rfl
            exact ⟨rfl, five_below MB.out (Nat.le_refl _) _ _ _ _ _⟩
          · have k1 : decide (e.f2 = 1) = false := decide_eq_false h1
            have j1 : (e.f2 == 1) = false := beq_false_of_ne h1
            have z2 := fun o => blk_frozen (blk_alloc HO.out o) 2
            have y2 := fun o => (blk_cell (blk_alloc HO.out o) 2).trans (show _ = some (Value.int .i64 3) from rfl)
            by_cases hp : pre.length = 0
            · have k0 : decide ((pre.length : Int) = 0) = true := decide_eq_true (by omega)
              have j0 : ((pre.length : Int) == 0) = true := beq_iff_eq.2 (by omega)
              have HP := Aside0.mk hp
              clear hp
              have q0 := fun o v => (blk_cell (blk_put (blk_alloc HO.out o) 2 v rfl) 0).trans (show _ = some (Value.string e0.f0) from rfl)
              have q1 := fun o v => (blk_cell (blk_put (blk_alloc HO.out o) 2 v rfl) 1).trans (show _ = some (Value.int .i64 e0.f1) from rfl)
              have q2 := fun o v => (blk_cell (blk_put (blk_alloc HO.out o) 2 v rfl) 2).trans (show _ = some v from rfl)
              have q3 := fun o v => (blk_cell (blk_put (blk_alloc HO.out o) 2 v rfl) 3).trans (show _ = some (Value.string ⟨#[]⟩) from rfl)
              have q4 := fun o v => (blk_cell (blk_put (blk_alloc HO.out o) 2 v rfl) 4).trans (show _ = some (Value.int .i64 n) from rfl)
              have s0 := fun o v => (blk_cell (blk_far (blk_alloc HRS.out o) (p := ⟨L, 2, none⟩) HNE.out v) 0).trans (show _ = some (Value.string ⟨#[]⟩) from rfl)
              have s1 := fun o v => (blk_cell (blk_far (blk_alloc HRS.out o) (p := ⟨L, 2, none⟩) HNE.out v) 1).trans (show _ = some (Value.int .i64 0) from rfl)
              have s2 := fun o v => (blk_cell (blk_far (blk_alloc HRS.out o) (p := ⟨L, 2, none⟩) HNE.out v) 2).trans (show _ = some (Value.int .i64 0) from rfl)
              have s3 := fun o v => (blk_cell (blk_far (blk_alloc HRS.out o) (p := ⟨L, 2, none⟩) HNE.out v) 3).trans (show _ = some (Value.string ⟨#[]⟩) from rfl)
              have s4 := fun o v => (blk_cell (blk_far (blk_alloc HRS.out o) (p := ⟨L, 2, none⟩) HNE.out v) 4).trans (show _ = some (Value.int .i64 0) from rfl)
              have f0 := fun o v => blk_frozen (blk_far (blk_alloc HRS.out o) (p := ⟨L, 2, none⟩) HNE.out v) 0
              have f1 := fun o v => blk_frozen (blk_far (blk_alloc HRS.out o) (p := ⟨L, 2, none⟩) HNE.out v) 1
              have f2 := fun o v => blk_frozen (blk_far (blk_alloc HRS.out o) (p := ⟨L, 2, none⟩) HNE.out v) 2
              have f3 := fun o v => blk_frozen (blk_far (blk_alloc HRS.out o) (p := ⟨L, 2, none⟩) HNE.out v) 3
              have f4 := fun o v => blk_frozen (blk_far (blk_alloc HRS.out o) (p := ⟨L, 2, none⟩) HNE.out v) 4
              go_wp2
              obtain ⟨e3, e4, e5, e1, e2⟩ := AR.out
              have hx : oneGo (e :: rest) pre.isEmpty n = _ := HX.out.2.2
              rw [oneGo, if_neg h3, if_neg h1, if_pos (by have := HP.out; cases pre <;> simp_all)] at hx
              rw [← hx] at e3 e4 e5
              subst e1 e2 e3 e4 e5
              apply bodyPost_ret (v := .agg #[.string e0.f0, .int .i64 e0.f1, .int .i64 2, .string ⟨#[]⟩, .int .i64 r5])
              case hr => exact results_cell_row rfl _ _ w.heap.size 48 #[.string e0.f0, .int .i64 e0.f1, .int .i64 2, .string ⟨#[]⟩, .int .i64 r5] (0, 0) _ rfl (five_put (blk_far (blk_alloc HRS.out _) (p := ⟨L, 2, none⟩) HNE.out _) _ _ _ _ _) Try.underlying48 rfl (by kernel_rfl)
              case hd => rfl
              exact ⟨rfl, five_below ((HBW.out.alloc HBW.out.size _).setCell (p := ⟨L, 2, none⟩) (by show w.heap.size ≤ L; omega) _) (Nat.le_refl _) _ _ _ _ _⟩
            · have k0 : decide ((pre.length : Int) = 0) = false := decide_eq_false (by omega)
              have j0 : ((pre.length : Int) == 0) = false := beq_false_of_ne (by omega)
              have HP := Aside0.mk hp
              clear hp
              have q0 := fun o v => (blk_cell (blk_put (blk_alloc HO.out o) 2 v rfl) 0).trans (show _ = some (Value.string e0.f0) from rfl)
              have q1 := fun o v => (blk_cell (blk_put (blk_alloc HO.out o) 2 v rfl) 1).trans (show _ = some (Value.int .i64 e0.f1) from rfl)
              have q2 := fun o v => (blk_cell (blk_put (blk_alloc HO.out o) 2 v rfl) 2).trans (show _ = some v from rfl)
              have q3 := fun o v => (blk_cell (blk_put (blk_alloc HO.out o) 2 v rfl) 3).trans (show _ = some (Value.string ⟨#[]⟩) from rfl)
              have q4 := fun o v => (blk_cell (blk_put (blk_alloc HO.out o) 2 v rfl) 4).trans (show _ = some (Value.int .i64 n) from rfl)
              have s0 := fun o v => (blk_cell (blk_far (blk_alloc HRS.out o) (p := ⟨L, 2, none⟩) HNE.out v) 0).trans (show _ = some (Value.string ⟨#[]⟩) from rfl)
              have s1 := fun o v => (blk_cell (blk_far (blk_alloc HRS.out o) (p := ⟨L, 2, none⟩) HNE.out v) 1).trans (show _ = some (Value.int .i64 0) from rfl)
              have s2 := fun o v => (blk_cell (blk_far (blk_alloc HRS.out o) (p := ⟨L, 2, none⟩) HNE.out v) 2).trans (show _ = some (Value.int .i64 0) from rfl)
              have s3 := fun o v => (blk_cell (blk_far (blk_alloc HRS.out o) (p := ⟨L, 2, none⟩) HNE.out v) 3).trans (show _ = some (Value.string ⟨#[]⟩) from rfl)
              have s4 := fun o v => (blk_cell (blk_far (blk_alloc HRS.out o) (p := ⟨L, 2, none⟩) HNE.out v) 4).trans (show _ = some (Value.int .i64 0) from rfl)
              have f0 := fun o v => blk_frozen (blk_far (blk_alloc HRS.out o) (p := ⟨L, 2, none⟩) HNE.out v) 0
              have f1 := fun o v => blk_frozen (blk_far (blk_alloc HRS.out o) (p := ⟨L, 2, none⟩) HNE.out v) 1
              have f2 := fun o v => blk_frozen (blk_far (blk_alloc HRS.out o) (p := ⟨L, 2, none⟩) HNE.out v) 2
              have f3 := fun o v => blk_frozen (blk_far (blk_alloc HRS.out o) (p := ⟨L, 2, none⟩) HNE.out v) 3
              have f4 := fun o v => blk_frozen (blk_far (blk_alloc HRS.out o) (p := ⟨L, 2, none⟩) HNE.out v) 4
              go_wp2
              obtain ⟨e3, e4, e5, e1, e2⟩ := AR.out
              have hx : oneGo (e :: rest) pre.isEmpty n = _ := HX.out.2.2
              rw [oneGo, if_neg h3, if_neg h1, if_neg (by have := HP.out; cases pre <;> simp_all)] at hx
              rw [← hx] at e3 e4 e5
              subst e1 e2 e3 e4 e5
              apply bodyPost_ret (v := .agg #[.string e0.f0, .int .i64 e0.f1, .int .i64 1, .string ⟨#[]⟩, .int .i64 r5])
              case hr => exact results_cell_row rfl _ _ w.heap.size 48 #[.string e0.f0, .int .i64 e0.f1, .int .i64 1, .string ⟨#[]⟩, .int .i64 r5] (0, 0) _ rfl (five_put (blk_far (blk_alloc HRS.out _) (p := ⟨L, 2, none⟩) HNE.out _) _ _ _ _ _) Try.underlying48 rfl (by kernel_rfl)
              case hd => rfl
              exact ⟨rfl, five_below ((HBW.out.alloc HBW.out.size _).setCell (p := ⟨L, 2, none⟩) (by show w.heap.size ≤ L; omega) _) (Nat.le_refl _) _ _ _ _ _⟩

/-! ### impl_squashClass: function 62 -/
/-- What is left of a class that comes to one entry. -/
def sqOne (l0 : List S48) (a1 : Bool) (o : ByteArray × Int × Int × ByteArray × Int) : List S48 :=
  if o.2.2.2.2 > 1000000 ∨ o.2.2.2.2 < -1000000 then l0 else if a1 = true ∧ o.2.2.1 = 2 then [] else [⟨o.1, o.2.1, if a1 = true ∧ o.2.2.1 = 3 then 1 else o.2.2.1, o.2.2.2.1, o.2.2.2.2⟩]
def impl_squashClass.f (l0 : List S48) (a1 : Bool) : Option (List S48) := (impl_classOne.f l0).bind fun o => some (sqOne l0 a1 o)
theorem R_oneS (W : World) (x : S48) : Kd.R k48 48 (W.alloc (.cells #[.string x.f0, .int .i64 x.f1, .int .i64 x.f2, .string x.f3, .int .i64 x.f4] 48)) W.heap.size (fun _ => True) (.slice (some ⟨W.heap.size, 0, none⟩) 1 1) [x] :=
  ⟨fun _ _ => trivial, [.string x.f0, .int .i64 x.f1, .int .i64 x.f2, .string x.f3, .int .i64 x.f4], World.ownsRow_lit (base := W.heap.size) (e := 48) (size := 5) W #[.string x.f0, .int .i64 x.f1, .int .i64 x.f2, .string x.f3, .int .i64 x.f4] 1 (Nat.le_refl _) (by unfold maxLen; omega) (by simp), Reps.c5 (k48_mkM _ _ _ x) (Reps.none _ _)⟩
section
set_option maxRecDepth 100000 in
set_option maxHeartbeats 4000000 in
theorem impl_squashClass.calls (A0 : Option Addr) (c0 : Nat) (l0 : List (S48)) (a1 : Bool) (r : List S48) (w : World) (hr0 : Kd.C k48 w A0 l0.length l0) (hc0 : l0.length ≤ c0) (h : impl_squashClass.f l0 a1 = some r) :
    Calls Try.prog 62 #[.slice A0 l0.length c0, .bool a1] w fun e w' => ∃ v0_ : Value, e = .returned v0_ ∧ ((v0_ = .slice A0 l0.length c0 ∧ r = l0) ∨ Kd.R k48 48 w' w.heap.size (fun _ => True) v0_ r) ∧ Below w.heap.size w w' := by
  obtain ⟨⟨t0, t1, t2, t3, t4⟩, h1, h2⟩ := Option.bind_eq_some_iff.1 h
  have CO := Aside0.mk (impl_classOne.calls A0 c0 l0 t0 t1 t2 t3 t4 w hr0 hc0 h1)
  have HRR := Aside0.mk (Option.some.inj h2)
  clear h h1 h2 hr0 hc0
  go_enter Try.func62, Try.ntmps62
  go_upto_region 2 with (first
    | (go_at_call 81; refine CO.out.mono ?_; rintro e w1 ⟨rfl, hb⟩)
    | ((with_reducible refine gate_dst (N := 5) rfl ?_); refine box_event ?hg (N := 5) ?hd (cs := #[.string (⟨#[]⟩ : ByteArray), .int .i64 0, .int .i64 0, .string ⟨#[]⟩, .int .i64 0]) (t := 48) ?hr ?_; (case hd => rfl); (case hg => rfl); (case hr => first | (go_simp; done) | (go_simp; rfl)); intro gb hg w2 hbox hb2; have HBX := Aside0.mk hbox; have HB2 := Aside0.mk hb2; have HB := Aside0.mk hb; have HG := Aside0.mk hg; have hcz0 : w2.cell? ⟨gb, 0, none⟩ = some (.string (⟨#[]⟩ : ByteArray)) := (blk_cell hbox 0).trans rfl; have hcz1 : w2.cell? ⟨gb, 1, none⟩ = some (.int .i64 0) := (blk_cell hbox 1).trans rfl; have hcz2 : w2.cell? ⟨gb, 2, none⟩ = some (.int .i64 0) := (blk_cell hbox 2).trans rfl; have hcz3 : w2.cell? ⟨gb, 3, none⟩ = some (.string (⟨#[]⟩ : ByteArray)) := (blk_cell hbox 3).trans rfl; have hcz4 : w2.cell? ⟨gb, 4, none⟩ = some (.int .i64 0) := (blk_cell hbox 4).trans rfl; have hfz0 := blk_frozen hbox 0; have hfz1 := blk_frozen hbox 1; have hfz2 := blk_frozen hbox 2; have hfz3 := blk_frozen hbox 3; have hfz4 := blk_frozen hbox 4; clear hbox hb2 hb hg))
  have hne := five_put HBX.out (.string t0) (.int .i64 t1) (.int .i64 t2) (.string t3) (.int .i64 t4)
  have hB3 := five_below (HB.out.trans (HB2.out.mono HB.out.size)) (b := gb) (by rw [HG.out]; exact HB.out.size) (.string t0) (.int .i64 t1) (.int .i64 t2) (.string t3) (.int .i64 t4)
  obtain ⟨W, hW⟩ : ∃ W, (((((w2.setCell ⟨gb, 0, none⟩ (.string t0)).setCell ⟨gb, 1, none⟩ (.int .i64 t1)).setCell ⟨gb, 2, none⟩ (.int .i64 t2)).setCell ⟨gb, 3, none⟩ (.string t3)).setCell ⟨gb, 4, none⟩ (.int .i64 t4)) = W := ⟨_, rfl⟩
  rw [hW] at hne hB3 ⊢
  have HNE := Aside0.mk hne
  have HB3 := Aside0.mk hB3
  have q0 := (blk_cell HNE.out 0).trans (show _ = some (Value.string t0) from rfl)
  have q1 := (blk_cell HNE.out 1).trans (show _ = some (Value.int .i64 t1) from rfl)
  have q2 := (blk_cell HNE.out 2).trans (show _ = some (Value.int .i64 t2) from rfl)
  have q3 := (blk_cell HNE.out 3).trans (show _ = some (Value.string t3) from rfl)
  have q4 := (blk_cell HNE.out 4).trans (show _ = some (Value.int .i64 t4) from rfl)
  have z2 := blk_frozen HNE.out 2
  have GB := Aside0.mk (show w.heap.size ≤ gb by rw [HG.out]; exact HB.out.size)
  clear hne hB3 hW hcz0 hcz1 hcz2 hcz3 hcz4 hfz0 hfz1 hfz2 hfz3 hfz4 HBX HB2 HB HG CO
  by_cases c1 : t4 > 1000000
  · have d1 : decide (1000000 < t4) = true := decide_eq_true c1
    have HE := Aside0.mk (show l0 = r by rw [← HRR.out]; simp [sqOne, c1])
    clear c1 HRR
    go_wp2
    go_ret
    exact ⟨_, rfl, .inl ⟨rfl, HE.out.symm⟩, HB3.out⟩
  · have d1 : decide (1000000 < t4) = false := decide_eq_false c1
    by_cases c2 : t4 < -1000000
    · have d2 : decide (t4 < -1000000) = true := decide_eq_true c2
      have HE := Aside0.mk (show l0 = r by rw [← HRR.out]; simp [sqOne, c2])
      clear c1 c2 HRR
      go_wp2
      go_ret
      exact ⟨_, rfl, .inl ⟨rfl, HE.out.symm⟩, HB3.out⟩
    · have d2 : decide (t4 < -1000000) = false := decide_eq_false c2
      have HE := Aside0.mk (show (if a1 = true ∧ t2 = 2 then [] else [⟨t0, t1, if a1 = true ∧ t2 = 3 then 1 else t2, t3, t4⟩] : List S48) = r by rw [← HRR.out]; exact (if_neg (show ¬ (t4 > 1000000 ∨ t4 < -1000000) from fun h => h.elim c1 c2)).symm)
      clear c1 c2 HRR
      cases a1 with
      | false =>
        have HE2 := Aside0.mk (show ([⟨t0, t1, t2, t3, t4⟩] : List S48) = r by rw [← HE.out]; simp)
        clear HE
        go_wp2
        go_ret
        refine ⟨_, rfl, .inr ?_, HB3.out.alloc HB3.out.size _⟩
        rw [← HE2.out]
        exact Kd.R_lower (R_oneS W ⟨t0, t1, t2, t3, t4⟩) HB3.out.size
      | true =>
        by_cases c3 : t2 = 2
        · have d3 : decide (t2 = 2) = true := decide_eq_true c3
          have j3 : (t2 == 2) = true := beq_iff_eq.2 c3
          have HE2 := Aside0.mk (show ([] : List S48) = r by rw [← HE.out]; simp [c3])
          clear HE c3
          go_wp2
          go_ret
          refine ⟨_, rfl, .inr ?_, HB3.out⟩
          rw [← HE2.out]
          exact Kd.R_nil _ _ _ _ _
        · have d3 : decide (t2 = 2) = false := decide_eq_false c3
          have j3 : (t2 == 2) = false := beq_false_of_ne c3
          by_cases c4 : t2 = 3
          · have d4 : decide (t2 = 3) = true := decide_eq_true c4
            have j4 : (t2 == 3) = true := beq_iff_eq.2 c4
            have HE2 := Aside0.mk (show ([⟨t0, t1, 1, t3, t4⟩] : List S48) = r by rw [← HE.out]; simp [c3, c4])
            have n0 := blk_put HNE.out 2 (.int .i64 1) rfl
            have p0 := (blk_cell n0 0).trans (show _ = some (Value.string t0) from rfl)
            have p1 := (blk_cell n0 1).trans (show _ = some (Value.int .i64 t1) from rfl)
            have p2 := (blk_cell n0 2).trans (show _ = some (Value.int .i64 1) from rfl)
            have p3 := (blk_cell n0 3).trans (show _ = some (Value.string t3) from rfl)
            have p4 := (blk_cell n0 4).trans (show _ = some (Value.int .i64 t4) from rfl)
            clear HE c3 c4 n0
            go_wp2
            go_ret
            have hB4 := HB3.out.setCell (p := ⟨gb, 2, none⟩) GB.out (.int .i64 1)
            refine ⟨_, rfl, .inr ?_, hB4.alloc hB4.size _⟩
            rw [← HE2.out]
            have hs : (W.setCell ⟨gb, 2, none⟩ (.int .i64 1)).heap.size = W.heap.size := by simp
            have hr := R_oneS (W.setCell ⟨gb, 2, none⟩ (.int .i64 1)) ⟨t0, t1, 1, t3, t4⟩
            rw [hs] at hr
            exact Kd.R_lower hr HB3.out.size
          · have d4 : decide (t2 = 3) = false := decide_eq_false c4
            have j4 : (t2 == 3) = false := beq_false_of_ne c4
            have HE2 := Aside0.mk (show ([⟨t0, t1, t2, t3, t4⟩] : List S48) = r by rw [← HE.out]; simp [c3, c4])
            clear HE c3 c4
            go_wp2
            go_ret
            refine ⟨_, rfl, .inr ?_, HB3.out.alloc HB3.out.size _⟩
            rw [← HE2.out]
            exact Kd.R_lower (R_oneS W ⟨t0, t1, t2, t3, t4⟩) HB3.out.size
end

-- NOT PRINTED: function 82 (impl_Entry_82)

-- NOT PRINTED: function 63 (impl_Entry_63)

end Go.Proofs.Ytcfebbhiehaocaa.QFnSquashTwice
