/- What the law FnPost reaches, function by function: what each computes, and that the machine's call comes to it. Laid by a program. -/
import Derived.Test.YtdjohhobmipagaaDoorBShelf2
import Derived.Test.YtdjohhobmipagaaDoorQFnPostx0
import Derived.Test.YtdjohhobmipagaaDoorQFnPostx4
import Derived.Test.YtdjohhobmipagaaDoorQFnPostx5
import Derived.Test.YtdjohhobmipagaaDoorQFnPostx7
namespace Go.Proofs.YtdjohhobmipagaaDoor.QFnPost
open Go.RowKit Go.Proofs.YtdjohhobmipagaaDoorW.PrintWords Go.Proofs.YtdjohhobmipagaaDoorW.PrintLast Go.Proofs.YtdjohhobmipagaaDoorW.PrintMore
attribute [local go_sem] max2_int min2_int max_two min_two max_three min_three max_four min_four   -- for this text's walks alone
set_option linter.unusedVariables false
set_option linter.unusedSimpArgs false

/-! ### impl_legRead: function 33 -/
section
attribute [local go_sem] Oper.semAt_some
/-! #### A leg that is read -/
/-- Where the first colon stands. -/
def colonAt (s : ByteArray) : Int := Lib.indexByte s.data.toList 58
theorem colon_cases (s : ByteArray) : colonAt s = -1 ∨ ∃ i : Nat, colonAt s = (i : Int) ∧ i < s.size := by
  have h1 := Lib.indexByte_ge s.data.toList 58
  unfold colonAt
  by_cases h : Lib.indexByte s.data.toList 58 = -1
  · exact .inl h
  · refine .inr ⟨(Lib.indexByte s.data.toList 58).toNat, by omega, ?_⟩
    have h2 := (Lib.indexByte_some (l := s.data.toList) (c := 58) (o := (Lib.indexByte s.data.toList 58).toNat) (by omega)).1
    exact (List.getElem?_eq_some_iff.1 h2).1
set_option maxRecDepth 100000 in
set_option maxHeartbeats 4000000 in
theorem cut_miss (s : ByteArray) (w : World) (h : colonAt s = -1) : Calls Tryd.prog 51 #[.string s, .string ⟨#[58]⟩] w fun e w' => e = .returned (.tuple #[.string s, .string ⟨#[]⟩, .bool false]) ∧ Below w.heap.size w w' := by
  have inner : Calls Tryd.prog 65 #[.string s, .string ⟨#[58]⟩] w fun e w' => e = .returned (.tuple #[.string s, .string ⟨#[]⟩, .bool false]) ∧ Below w.heap.size w w' := by
    go_enter Tryd.func65, Tryd.ntmps65
    go_wp2_with (go_at_call 75; refine (Tryd.stringslite_Index_one s 58 _).mono ?_; rintro e w' ⟨rfl, rfl⟩; rw [show Lib.indexByte s.data.toList 58 = _ from h])
    go_ret3
    exact ⟨rfl, Below.refl _ _⟩
  go_enter Tryd.func51, Tryd.ntmps51
  go_wp2_with (go_at_call 65; refine inner.mono ?_; rintro e w' ⟨rfl, hb⟩)
  go_ret3
  exact ⟨rfl, hb⟩
set_option maxRecDepth 100000 in
set_option maxHeartbeats 4000000 in
theorem cut_hit (s : ByteArray) (w : World) (i : Nat) (h : colonAt s = (i : Int)) (hi : i < s.size) (hs : s.size ≤ 1048576) : Calls Tryd.prog 51 #[.string s, .string ⟨#[58]⟩] w fun e w' => e = .returned (.tuple #[.string (s.extract 0 i), .string (s.extract (i + 1) s.size), .bool true]) ∧ Below w.heap.size w w' := by
  have inner : Calls Tryd.prog 65 #[.string s, .string ⟨#[58]⟩] w fun e w' => e = .returned (.tuple #[.string (s.extract 0 i), .string (s.extract (i + 1) s.size), .bool true]) ∧ Below w.heap.size w w' := by
    have c1 : (0 : Int) ≤ (i : Int) := by omega
    have c2 : (i : Int) ≤ (s.size : Int) := by omega
    have mixed : Tryd.prog.follows .mixedOrders = true := by kernel_rfl
    have c3 : IntKind.i64.wrap ((i : Int) + 1) = (i : Int) + 1 := by rw [IntKind.wrap_i64]; omega
    have c4 : (0 : Int) ≤ (i : Int) + 1 := by omega
    have c5 : (i : Int) + 1 ≤ (s.size : Int) := by omega
    clear hi hs
    go_enter Tryd.func65, Tryd.ntmps65
    go_wp2_with (go_at_call 75; refine (Tryd.stringslite_Index_one s 58 _).mono ?_; rintro e w' ⟨rfl, rfl⟩; rw [show Lib.indexByte s.data.toList 58 = _ from h])
    go_region_o
    go_wp2
    go_ret3
    exact ⟨rfl, (Below.refl _ _).drew⟩
  go_enter Tryd.func51, Tryd.ntmps51
  go_wp2_with (go_at_call 65; refine inner.mono ?_; rintro e w' ⟨rfl, hb⟩)
  go_ret3
  exact ⟨rfl, hb⟩
theorem atoi_good (s : ByteArray) (hs : s.size ≤ 1048576) (v : Int) (h : Lib.atoiAll s.data.toList = .ok v) (W : World) : Calls Tryd.prog 32 #[.string s] W fun e w' => e = .returned (.tuple #[.int .i64 v, .nilIface]) ∧ Below W.heap.size W w' := by
  refine (Tryd.strconv_Atoi_ok s (by omega) v h W).mono ?_
  rintro e w' ⟨rfl, rfl | ⟨t, rfl⟩⟩
  · exact ⟨rfl, Below.refl _ _⟩
  · exact ⟨rfl, Lib.bytesWorld_below _ _ _⟩
theorem atoi_bad (s : ByteArray) (hs : s.size ≤ 1048576) (h : ∀ v, Lib.atoiAll s.data.toList ≠ .ok v) (w W : World) (ht : Tab w) (hb : Below w.heap.size w W) : Calls Tryd.prog 32 #[.string s] W fun e w' => ∃ (n : Int) (N : Nat), e = .returned (.tuple #[.int .i64 n, .iface 94 (.pointer (some ⟨N, 0, none⟩))]) ∧ Below W.heap.size W w' := by
  obtain ⟨⟨tp, p, hv⟩, tq, q, hq⟩ := (ht.below hb).2
  cases hc : Lib.atoiAll s.data.toList with
  | ok v => exact absurd hc (h v)
  | «syntax» =>
    refine (Tryd.strconv_Atoi_syntax_var s (by omega) hc tp p W hv).mono ?_
    rintro e w' ⟨N, rfl, _, _, hb'⟩
    exact ⟨_, N, rfl, hb'⟩
  | range =>
    refine (Tryd.strconv_Atoi_range_var s (by omega) hc tq q W hq).mono ?_
    rintro e w' ⟨N, rfl, _, _, hb'⟩
    exact ⟨_, N, rfl, hb'⟩
/-- The number that a text tells, if it is one. -/
def numOf (s : ByteArray) : Option Int := match Lib.atoiAll s.data.toList with
  | .ok v => some v
  | _ => none
theorem numOf_some {s : ByteArray} {v : Int} (h : numOf s = some v) : Lib.atoiAll s.data.toList = .ok v := by
  unfold numOf at h
  split at h
  · next hc => rw [hc, Option.some.inj h]
  · cases h
theorem numOf_none {s : ByteArray} (h : numOf s = none) (v : Int) : Lib.atoiAll s.data.toList ≠ .ok v := by
  intro hc
  rw [numOf, hc] at h
  cases h
/-- A leg that is read, if it is one. -/
def legReadOf (s : ByteArray) : Option S45 :=
  if colonAt s < 0 then none
  else if colonAt (s.extract ((colonAt s).toNat + 1) s.size) < 0 then none
  else (numOf ((s.extract ((colonAt s).toNat + 1) s.size).extract 0 (colonAt (s.extract ((colonAt s).toNat + 1) s.size)).toNat)).bind fun c =>
    (numOf ((s.extract ((colonAt s).toNat + 1) s.size).extract ((colonAt (s.extract ((colonAt s).toNat + 1) s.size)).toNat + 1) (s.extract ((colonAt s).toNat + 1) s.size).size)).bind fun n => some ⟨s.extract 0 (colonAt s).toNat, c, n⟩
def legV : Option S45 → Value
  | some x => .tuple #[.agg #[.string x.f0, .int .i64 x.f1, .int .i64 x.f2], .bool true]
  | none => .tuple #[.agg #[.string ⟨#[]⟩, .int .i64 0, .int .i64 0], .bool false]
theorem bk_on {w W W' : World} {g : Nat} {o : Obj} (hB : Below w.heap.size w W) (hk : W.heap[g]? = some o) (hb : Below W.heap.size W W') : Below w.heap.size w W' ∧ W'.heap[g]? = some o :=
  ⟨below_then hB hB.size hb, (hb.block g (Array.getElem?_eq_some_iff.1 hk).1).trans hk⟩
set_option maxRecDepth 100000 in
set_option maxHeartbeats 4000000 in
theorem legRead_calls (s : ByteArray) (hs : s.size ≤ 1048576) (w : World) (ht : Tab w) : Calls Tryd.prog 33 #[.string s] w fun e w' => e = .returned (legV (legReadOf s)) ∧ Below w.heap.size w w' := by
  have bk0 := heap_alloc_new w (.cells #[.string ⟨#[]⟩, .int .i64 0, .int .i64 0] 45)
  have hB0 : Below w.heap.size w (w.alloc (.cells #[.string ⟨#[]⟩, .int .i64 0, .int .i64 0] 45)) := (Below.refl _ w).alloc (Nat.le_refl _) _
  have HS := Aside0.mk hs
  have HT := Aside0.mk ht
  have BK0 := Aside0.mk bk0
  have HB0 := Aside0.mk hB0
  clear hs ht bk0 hB0
  rcases colon_cases s with h1 | ⟨i, h1, hi⟩
  · have e0 : legReadOf s = none := by rw [legReadOf, if_pos (by omega)]
    rw [e0]
    have H1 := Aside0.mk h1
    clear h1 e0
    go_enter Tryd.func33, Tryd.ntmps33
    go_wp2_with (go_at_call 51; refine (cut_miss s _ H1.out).mono ?_; rintro e w1 ⟨rfl, hb⟩; refine Hid.out ?_)
    obtain ⟨hB, bk⟩ := bk_on HB0.out BK0.out hb
    have HB1 := Aside0.mk hB
    have BK1 := Aside0.mk bk
    clear hb hB bk
    refine Lib.hid ?_
    have z0 : w1.cell? ⟨w.heap.size, 0, none⟩ = some (.string ⟨#[]⟩) := (blk_cell BK1.out 0).trans rfl
    have z1 : w1.cell? ⟨w.heap.size, 1, none⟩ = some (.int .i64 0) := (blk_cell BK1.out 1).trans rfl
    have z2 : w1.cell? ⟨w.heap.size, 2, none⟩ = some (.int .i64 0) := (blk_cell BK1.out 2).trans rfl
    have f0 := blk_frozen BK1.out 0
    have f1 := blk_frozen BK1.out 1
    have f2 := blk_frozen BK1.out 2
    go_wp2
    refine bodyPost_ret (results_ct rfl _ _ w.heap.size 45 #[.string ⟨#[]⟩, .int .i64 0, .int .i64 0] (0, 0) _ rfl (blk_put (blk_put (blk_put BK1.out 0 _ rfl) 1 _ rfl) 2 _ rfl) Tryd.underlying45 rfl (by kernel_rfl)) rfl ⟨rfl, ?_⟩
    exact ((HB1.out.setCell (p := ⟨w.heap.size, 0, none⟩) (Nat.le_refl _) _).setCell (p := ⟨w.heap.size, 1, none⟩) (Nat.le_refl _) _).setCell (p := ⟨w.heap.size, 2, none⟩) (Nat.le_refl _) _
  · have i1 : (colonAt s).toNat = i := by omega
    have n1 : ¬ colonAt s < 0 := by omega
    obtain ⟨s2, hs2⟩ : ∃ s2, s.extract (i + 1) s.size = s2 := ⟨_, rfl⟩
    have hz2 : s2.size ≤ 1048576 := by rw [← hs2]; have := HS.out; simp [ByteArray.size_extract]; omega
    rcases colon_cases s2 with h2 | ⟨j, h2, hj⟩
    · have e0 : legReadOf s = none := by rw [legReadOf, if_neg n1, i1, hs2, if_pos (by omega)]
      rw [e0]
      have H1 := Aside0.mk h1
      have HI := Aside0.mk hi
      have H2 := Aside0.mk h2
      have HS2 := Aside0.mk hs2
      clear h1 hi h2 e0 i1 n1 hs2 hz2
      go_enter Tryd.func33, Tryd.ntmps33
      go_wp2_with (go_at_call 51; refine (cut_hit s _ i H1.out HI.out HS.out).mono ?_; rintro e w1 ⟨rfl, hb⟩; rw [HS2.out]; refine Hid.out ?_)
      obtain ⟨hB, bk⟩ := bk_on HB0.out BK0.out hb
      have HB1 := Aside0.mk hB
      have BK1 := Aside0.mk bk
      clear hb hB bk
      refine Lib.hid ?_
      go_wp2_with (go_at_call 51; refine (cut_miss s2 _ H2.out).mono ?_; rintro e w2 ⟨rfl, hb⟩; refine Hid.out ?_)
      obtain ⟨hB, bk⟩ := bk_on HB1.out BK1.out hb
      have HB2 := Aside0.mk hB
      have BK2 := Aside0.mk bk
      clear hb hB bk
      refine Lib.hid ?_
      have z0 : w2.cell? ⟨w.heap.size, 0, none⟩ = some (.string ⟨#[]⟩) := (blk_cell BK2.out 0).trans rfl
      have z1 : w2.cell? ⟨w.heap.size, 1, none⟩ = some (.int .i64 0) := (blk_cell BK2.out 1).trans rfl
      have z2 : w2.cell? ⟨w.heap.size, 2, none⟩ = some (.int .i64 0) := (blk_cell BK2.out 2).trans rfl
      have f0 := blk_frozen BK2.out 0
      have f1 := blk_frozen BK2.out 1
      have f2 := blk_frozen BK2.out 2
      go_wp2
      refine bodyPost_ret (results_ct rfl _ _ w.heap.size 45 #[.string ⟨#[]⟩, .int .i64 0, .int .i64 0] (0, 0) _ rfl (blk_put (blk_put (blk_put BK2.out 0 _ rfl) 1 _ rfl) 2 _ rfl) Tryd.underlying45 rfl (by kernel_rfl)) rfl ⟨rfl, ?_⟩
      exact ((HB2.out.setCell (p := ⟨w.heap.size, 0, none⟩) (Nat.le_refl _) _).setCell (p := ⟨w.heap.size, 1, none⟩) (Nat.le_refl _) _).setCell (p := ⟨w.heap.size, 2, none⟩) (Nat.le_refl _) _
    · have j1 : (colonAt s2).toNat = j := by omega
      have n2 : ¬ colonAt s2 < 0 := by omega
      obtain ⟨s3, hs3⟩ : ∃ s3, s2.extract 0 j = s3 := ⟨_, rfl⟩
      obtain ⟨s4, hs4⟩ : ∃ s4, s2.extract (j + 1) s2.size = s4 := ⟨_, rfl⟩
      have hz3 : s3.size ≤ 1048576 := by rw [← hs3]; simp [ByteArray.size_extract]; omega
      have hz4 : s4.size ≤ 1048576 := by rw [← hs4]; simp [ByteArray.size_extract]; omega
      have eL : legReadOf s = (numOf s3).bind fun c => (numOf s4).bind fun n => some ⟨s.extract 0 i, c, n⟩ := by rw [legReadOf, if_neg n1, i1, hs2, if_neg n2, j1, hs3, hs4]
      rw [eL]
      have H1 := Aside0.mk h1
      have HI := Aside0.mk hi
      have H2 := Aside0.mk h2
      have HJ := Aside0.mk hj
      have HS2 := Aside0.mk hs2
      have HS3 := Aside0.mk hs3
      have HS4 := Aside0.mk hs4
      have HZ2 := Aside0.mk hz2
      have HZ3 := Aside0.mk hz3
      have HZ4 := Aside0.mk hz4
      clear h1 hi h2 hj eL i1 n1 j1 n2 hs2 hs3 hs4 hz2 hz3 hz4
      cases h3 : numOf s3 with
      | none =>
        have H3 := Aside0.mk h3
        clear h3
        simp only [Option.bind_none]
        go_enter Tryd.func33, Tryd.ntmps33
        go_wp2_with (go_at_call 51; refine (cut_hit s _ i H1.out HI.out HS.out).mono ?_; rintro e w1 ⟨rfl, hb⟩; rw [HS2.out]; refine Hid.out ?_)
        obtain ⟨hB, bk⟩ := bk_on HB0.out BK0.out hb
        have HB1 := Aside0.mk hB
        have BK1 := Aside0.mk bk
        clear hb hB bk
        refine Lib.hid ?_
        go_wp2_with (go_at_call 51; refine (cut_hit s2 _ j H2.out HJ.out HZ2.out).mono ?_; rintro e w2 ⟨rfl, hb⟩; rw [HS3.out, HS4.out]; refine Hid.out ?_)
        obtain ⟨hB, bk⟩ := bk_on HB1.out BK1.out hb
        have HB2 := Aside0.mk hB
        have BK2 := Aside0.mk bk
        clear hb hB bk
        refine Lib.hid ?_
        go_wp2_with (go_at_call 32; refine (atoi_bad s3 HZ3.out (numOf_none H3.out) w _ HT.out HB2.out).mono ?_; rintro e w3 ⟨n, N, rfl, hb⟩; refine Hid.out ?_)
        obtain ⟨hB, bk⟩ := bk_on HB2.out BK2.out hb
        have HB3 := Aside0.mk hB
        have BK3 := Aside0.mk bk
        clear hb hB bk
        refine Lib.hid ?_
        have z0 : w3.cell? ⟨w.heap.size, 0, none⟩ = some (.string ⟨#[]⟩) := (blk_cell BK3.out 0).trans rfl
        have z1 : w3.cell? ⟨w.heap.size, 1, none⟩ = some (.int .i64 0) := (blk_cell BK3.out 1).trans rfl
        have z2 : w3.cell? ⟨w.heap.size, 2, none⟩ = some (.int .i64 0) := (blk_cell BK3.out 2).trans rfl
        have f0 := blk_frozen BK3.out 0
        have f1 := blk_frozen BK3.out 1
        have f2 := blk_frozen BK3.out 2
        go_wp2
        refine bodyPost_ret (results_ct rfl _ _ w.heap.size 45 #[.string ⟨#[]⟩, .int .i64 0, .int .i64 0] (0, 0) _ rfl (blk_put (blk_put (blk_put BK3.out 0 _ rfl) 1 _ rfl) 2 _ rfl) Tryd.underlying45 rfl (by kernel_rfl)) rfl ⟨rfl, ?_⟩
        exact ((HB3.out.setCell (p := ⟨w.heap.size, 0, none⟩) (Nat.le_refl _) _).setCell (p := ⟨w.heap.size, 1, none⟩) (Nat.le_refl _) _).setCell (p := ⟨w.heap.size, 2, none⟩) (Nat.le_refl _) _
      | some c =>
        cases h4 : numOf s4 with
        | none =>
          have H3 := Aside0.mk h3
          have H4 := Aside0.mk h4
          clear h3 h4
          simp only [Option.bind_some, Option.bind_none]
          go_enter Tryd.func33, Tryd.ntmps33
          go_wp2_with (go_at_call 51; refine (cut_hit s _ i H1.out HI.out HS.out).mono ?_; rintro e w1 ⟨rfl, hb⟩; rw [HS2.out]; refine Hid.out ?_)
          obtain ⟨hB, bk⟩ := bk_on HB0.out BK0.out hb
          have HB1 := Aside0.mk hB
          have BK1 := Aside0.mk bk
          clear hb hB bk
          refine Lib.hid ?_
          go_wp2_with (go_at_call 51; refine (cut_hit s2 _ j H2.out HJ.out HZ2.out).mono ?_; rintro e w2 ⟨rfl, hb⟩; rw [HS3.out, HS4.out]; refine Hid.out ?_)
          obtain ⟨hB, bk⟩ := bk_on HB1.out BK1.out hb
          have HB2 := Aside0.mk hB
          have BK2 := Aside0.mk bk
          clear hb hB bk
          refine Lib.hid ?_
          go_wp2_with (go_at_call 32; refine (atoi_good s3 HZ3.out c (numOf_some H3.out) _).mono ?_; rintro e w3 ⟨rfl, hb⟩; refine Hid.out ?_)
          obtain ⟨hB, bk⟩ := bk_on HB2.out BK2.out hb
          have HB3 := Aside0.mk hB
          have BK3 := Aside0.mk bk
          clear hb hB bk
          refine Lib.hid ?_
          go_wp2_with (go_at_call 32; refine (atoi_bad s4 HZ4.out (numOf_none H4.out) w _ HT.out HB3.out).mono ?_; rintro e w4 ⟨n, N, rfl, hb⟩; refine Hid.out ?_)
          obtain ⟨hB, bk⟩ := bk_on HB3.out BK3.out hb
          have HB4 := Aside0.mk hB
          have BK4 := Aside0.mk bk
          clear hb hB bk
          refine Lib.hid ?_
          have z0 : w4.cell? ⟨w.heap.size, 0, none⟩ = some (.string ⟨#[]⟩) := (blk_cell BK4.out 0).trans rfl
          have z1 : w4.cell? ⟨w.heap.size, 1, none⟩ = some (.int .i64 0) := (blk_cell BK4.out 1).trans rfl
          have z2 : w4.cell? ⟨w.heap.size, 2, none⟩ = some (.int .i64 0) := (blk_cell BK4.out 2).trans rfl
          have f0 := blk_frozen BK4.out 0
          have f1 := blk_frozen BK4.out 1
          have f2 := blk_frozen BK4.out 2
          go_wp2
          refine bodyPost_ret (results_ct rfl _ _ w.heap.size 45 #[.string ⟨#[]⟩, .int .i64 0, .int .i64 0] (0, 0) _ rfl (blk_put (blk_put (blk_put BK4.out 0 _ rfl) 1 _ rfl) 2 _ rfl) Tryd.underlying45 rfl (by kernel_rfl)) rfl ⟨rfl, ?_⟩
          exact ((HB4.out.setCell (p := ⟨w.heap.size, 0, none⟩) (Nat.le_refl _) _).setCell (p := ⟨w.heap.size, 1, none⟩) (Nat.le_refl _) _).setCell (p := ⟨w.heap.size, 2, none⟩) (Nat.le_refl _) _
        | some n =>
          have H3 := Aside0.mk h3
          have H4 := Aside0.mk h4
          clear h3 h4
          simp only [Option.bind_some]
          go_enter Tryd.func33, Tryd.ntmps33
          go_wp2_with (go_at_call 51; refine (cut_hit s _ i H1.out HI.out HS.out).mono ?_; rintro e w1 ⟨rfl, hb⟩; rw [HS2.out]; refine Hid.out ?_)
          obtain ⟨hB, bk⟩ := bk_on HB0.out BK0.out hb
          have HB1 := Aside0.mk hB
          have BK1 := Aside0.mk bk
          clear hb hB bk
          refine Lib.hid ?_
          go_wp2_with (go_at_call 51; refine (cut_hit s2 _ j H2.out HJ.out HZ2.out).mono ?_; rintro e w2 ⟨rfl, hb⟩; rw [HS3.out, HS4.out]; refine Hid.out ?_)
          obtain ⟨hB, bk⟩ := bk_on HB1.out BK1.out hb
          have HB2 := Aside0.mk hB
          have BK2 := Aside0.mk bk
          clear hb hB bk
          refine Lib.hid ?_
          go_wp2_with (go_at_call 32; refine (atoi_good s3 HZ3.out c (numOf_some H3.out) _).mono ?_; rintro e w3 ⟨rfl, hb⟩; refine Hid.out ?_)
          obtain ⟨hB, bk⟩ := bk_on HB2.out BK2.out hb
          have HB3 := Aside0.mk hB
          have BK3 := Aside0.mk bk
          clear hb hB bk
          refine Lib.hid ?_
          go_wp2_with (go_at_call 32; refine (atoi_good s4 HZ4.out n (numOf_some H4.out) _).mono ?_; rintro e w4 ⟨rfl, hb⟩; refine Hid.out ?_)
          obtain ⟨hB, bk⟩ := bk_on HB3.out BK3.out hb
          have HB4 := Aside0.mk hB
          have BK4 := Aside0.mk bk
          clear hb hB bk
          refine Lib.hid ?_
          have z0 : w4.cell? ⟨w.heap.size, 0, none⟩ = some (.string ⟨#[]⟩) := (blk_cell BK4.out 0).trans rfl
          have z1 : w4.cell? ⟨w.heap.size, 1, none⟩ = some (.int .i64 0) := (blk_cell BK4.out 1).trans rfl
          have z2 : w4.cell? ⟨w.heap.size, 2, none⟩ = some (.int .i64 0) := (blk_cell BK4.out 2).trans rfl
          have f0 := blk_frozen BK4.out 0
          have f1 := blk_frozen BK4.out 1
          have f2 := blk_frozen BK4.out 2
          go_wp2
          refine bodyPost_ret (results_ct rfl _ _ w.heap.size 45 #[.string (s.extract 0 i), .int .i64 c, .int .i64 n] (0, 0) _ rfl (blk_put (blk_put (blk_put BK4.out 0 _ rfl) 1 _ rfl) 2 _ rfl) Tryd.underlying45 rfl (by kernel_rfl)) rfl ⟨rfl, ?_⟩
          exact ((HB4.out.setCell (p := ⟨w.heap.size, 0, none⟩) (Nat.le_refl _) _).setCell (p := ⟨w.heap.size, 1, none⟩) (Nat.le_refl _) _).setCell (p := ⟨w.heap.size, 2, none⟩) (Nat.le_refl _) _
end

/-! ### impl_PostRead: function 12 -/
section
attribute [local go_sem] Oper.semAt_some
/-! #### A posting that is read -/
theorem pieces_sizes (s : ByteArray) : ∀ (d pos start : Nat) (words : List ByteArray), (∀ x ∈ words, x.size ≤ s.size) → ∀ x ∈ (piecesFrom s d pos start words).1, x.size ≤ s.size := by
  intro d
  have ext : ∀ a b : Nat, (s.extract a b).size ≤ s.size := fun a b => by simp [ByteArray.size_extract]; omega
  induction d with
  | zero =>
    intro pos start words h x hx
    simp only [piecesFrom, List.mem_append, List.mem_singleton] at hx
    rcases hx with hx | rfl
    · exact h x hx
    · exact ext _ _
  | succ d ih =>
    intro pos start words h x hx
    simp only [piecesFrom] at hx
    split at hx
    · split at hx
      · refine ih _ _ _ (fun y hy => ?_) x hx
        rcases List.mem_append.1 hy with hy | hy
        · exact h y hy
        · rw [List.mem_singleton.1 hy]
          exact ext _ _
      · exact ih _ _ _ h x hx
    · simp at hx
def legsReadOf : List ByteArray → Option (List S45)
  | [] => some []
  | x :: r => (legReadOf x).bind fun l => (legsReadOf r).bind fun ls => some (l :: ls)
def impl_PostRead.f (k : Nat) (a0 : ByteArray) : Option (Int × List S45 × Bool) :=
  if a0.size ≤ 1048576 then
    (if (piecesOf a0).2 = true ∧ 2 ≤ (piecesOf a0).1.length ∧ (piecesOf a0).1.length ≤ 5 then
      (match numOf (rdOf ByteArray.empty (piecesOf a0).1 0) with
      | none => some (0, [], false)
      | some id => (match legsReadOf ((piecesOf a0).1.drop 1) with
        | none => some (0, [], false)
        | some legs => (impl_PostOk.f k id legs).bind fun ok => if ok = true then ((impl_PostText.f k id legs).bind fun t => if t.toList = a0.toList then some (id, legs, true) else some (0, [], false)) else some (0, [], false)))
    else some (0, [], false))
  else none
theorem impl_PostRead.mono : ∀ a0 k, LeO (impl_PostRead.f k a0) (impl_PostRead.f (k + 1) a0) := by
  intro a0 k
  unfold impl_PostRead.f
  split
  · split
    · split
      · exact LeO.refl _
      · split
        · exact LeO.refl _
        · refine LeO.bind (impl_PostOk.mono _ _ _) (fun _ => ?_)
          split
          · exact LeO.bind (impl_PostText.mono _ _ _) (fun _ => LeO.refl _)
          · exact LeO.refl _
    · exact LeO.refl _
  · exact LeO.refl _
theorem rd_words {ws ts pre r : List ByteArray} {x : ByteArray} (h : ws.drop 1 = ts) (e : ts = pre ++ x :: r) : rdOf ByteArray.empty ws ((pre.length + 1 : Nat) : Int) = x ∧ x ∈ ws := by
  have h1 : ws[pre.length + 1]? = some x := by
    have h2 : (ws.drop 1)[pre.length]? = some x := by rw [h, e]; simp
    rw [List.getElem?_drop] at h2
    rw [← h2, Nat.add_comm]
  exact ⟨by simp [rdOf, h1], List.mem_of_getElem? h1⟩
theorem wrap_next {n : Nat} (h : n ≤ 1048576) : wrap64 ((n : Int) + 1) = ((n + 1 : Nat) : Int) := by unfold wrap64; omega
theorem meas_ {W n : Nat} (h1 : n + 1 < W) (h2 : n ≤ 1048576) : W - (intOf (.int .i64 (wrap64 ((n : Int) + 1)))).toNat < W - (intOf (.int .i64 (n : Int))).toNat := by
  rw [wrap_next h2]
  simp only [intOf]
  omega
theorem info_leg : (Tryd.prog.info? 45).map (fun i => (i.zero, i.size, i.bytes)) = some (some (.agg #[(.string ⟨#[]⟩), (.int .i64 0), (.int .i64 0)]), k45.sz, 32) := by kernel_rfl
set_option maxRecDepth 100000 in
set_option maxHeartbeats 4000000 in
theorem impl_PostRead.calls (k : Nat) (a0 : ByteArray) (r1 : Int) (r2 : List (S45)) (r3 : Bool) (w : World) (htab : Tab w) (h : impl_PostRead.f k a0 = some (r1, r2, r3)) :
    Calls Tryd.prog 12 #[.string a0] w fun e w' => ∃ v1_ : Value, e = .returned (.tuple #[.agg #[.int .i64 r1, v1_], .bool r3]) ∧ Kd.R k45 45 w' w.heap.size (fun _ => True) v1_ r2 ∧ Below w.heap.size w w' := by
  unfold impl_PostRead.f at h
  by_cases hs : a0.size ≤ 1048576
  rotate_left
  · rw [if_neg hs] at h
    cases h
  rw [if_pos hs] at h
  have bk0 := heap_alloc_new w (.cells #[.int .i64 0, .slice none 0 0] 29)
  have hB0 : Below w.heap.size w (w.alloc (.cells #[.int .i64 0, .slice none 0 0] 29)) := (Below.refl _ w).alloc (Nat.le_refl _) _
  have hsz : ∀ x ∈ (piecesOf a0).1, x.size ≤ 1048576 := fun x hx => Nat.le_trans (pieces_sizes a0 a0.size 0 0 [] (fun x hx => by simp at hx) x hx) hs
  have hP := pieces_calls a0 hs (w.alloc (.cells #[.int .i64 0, .slice none 0 0] 29))
  obtain ⟨ws, ok, hws⟩ : ∃ ws ok, piecesOf a0 = (ws, ok) := ⟨_, _, rfl⟩
  rw [hws] at h hsz hP
  simp only at h hsz hP
  have HS := Aside0.mk hs
  have HT := Aside0.mk htab
  have BK0 := Aside0.mk bk0
  have HB0 := Aside0.mk hB0
  have HSZ := Aside0.mk hsz
  have HP := Aside0.mk hP
  clear hs htab bk0 hB0 hsz hP hws
  by_cases hc : ok = true ∧ 2 ≤ ws.length ∧ ws.length ≤ 5
  rotate_left
  · rw [if_neg hc] at h
    obtain ⟨rfl, rfl, rfl⟩ : r1 = 0 ∧ r2 = [] ∧ r3 = false := by simpa [eq_comm] using h
    have hcc : (ok = false) ∨ (ok = true ∧ ws.length < 2) ∨ (ok = true ∧ 2 ≤ ws.length ∧ 5 < ws.length) := by
      cases ok
      · exact .inl rfl
      · have hn : ¬ (2 ≤ ws.length ∧ ws.length ≤ 5) := fun g => hc ⟨rfl, g⟩
        by_cases h2 : ws.length < 2
        · exact .inr (.inl ⟨rfl, h2⟩)
        · exact .inr (.inr ⟨rfl, by omega, by omega⟩)
    clear h hc
    go_enter Tryd.func12, Tryd.ntmps12
    go_wp2_with (go_at_call 31; refine HP.out.mono ?_; rintro e w1 ⟨v, rfl, hR, hb⟩; refine Hid.out ?_)
    obtain ⟨hB, bk⟩ := bk_on HB0.out BK0.out hb
    have z0 : w1.cell? ⟨w.heap.size, 0, none⟩ = some (.int .i64 0) := (blk_cell bk 0).trans rfl
    have z1 : w1.cell? ⟨w.heap.size, 1, none⟩ = some (.slice none 0 0) := (blk_cell bk 1).trans rfl
    have f0 := blk_frozen bk 0
    have f1 := blk_frozen bk 1
    obtain ⟨A, c, rfl⟩ := Kd.R_slice hR
    have HB := Aside0.mk hB
    have BK := Aside0.mk bk
    clear hb hR hB bk
    refine Lib.hid ?_
    rcases hcc with rfl | ⟨rfl, hl⟩ | ⟨rfl, hl, hl2⟩
    · go_wp2
      refine bodyPost_ret (results_ct rfl _ _ w.heap.size 29 #[.int .i64 0, .slice none 0 0] (0, 0) _ rfl (blk_put (blk_put BK.out 0 _ rfl) 1 _ rfl) Tryd.underlying29 rfl (by kernel_rfl)) rfl ⟨_, rfl, Kd.R_nil _ _ _ _ _, ?_⟩
      exact (HB.out.setCell (p := ⟨w.heap.size, 0, none⟩) (Nat.le_refl _) _).setCell (p := ⟨w.heap.size, 1, none⟩) (Nat.le_refl _) _
    · have d1 : decide (ws.length < 2) = true := decide_eq_true hl
      have d2 : decide ((ws.length : Int) < 2) = true := decide_eq_true (by omega)
      clear hl
      go_wp2
      refine bodyPost_ret (results_ct rfl _ _ w.heap.size 29 #[.int .i64 0, .slice none 0 0] (0, 0) _ rfl (blk_put (blk_put BK.out 0 _ rfl) 1 _ rfl) Tryd.underlying29 rfl (by kernel_rfl)) rfl ⟨_, rfl, Kd.R_nil _ _ _ _ _, ?_⟩
      exact (HB.out.setCell (p := ⟨w.heap.size, 0, none⟩) (Nat.le_refl _) _).setCell (p := ⟨w.heap.size, 1, none⟩) (Nat.le_refl _) _
    · have d1 : decide (ws.length < 2) = false := decide_eq_false (by omega)
      have d2 : decide ((ws.length : Int) < 2) = false := decide_eq_false (by omega)
      have d3 : decide (5 < ws.length) = true := decide_eq_true (by omega)
      have d4 : decide (5 < (ws.length : Int)) = true := decide_eq_true (by omega)
      clear hl hl2
      go_wp2
      refine bodyPost_ret (results_ct rfl _ _ w.heap.size 29 #[.int .i64 0, .slice none 0 0] (0, 0) _ rfl (blk_put (blk_put BK.out 0 _ rfl) 1 _ rfl) Tryd.underlying29 rfl (by kernel_rfl)) rfl ⟨_, rfl, Kd.R_nil _ _ _ _ _, ?_⟩
      exact (HB.out.setCell (p := ⟨w.heap.size, 0, none⟩) (Nat.le_refl _) _).setCell (p := ⟨w.heap.size, 1, none⟩) (Nat.le_refl _) _
  obtain ⟨rfl, hl2, hl5⟩ := hc
  rw [if_pos ⟨rfl, hl2, hl5⟩] at h
  have H := Aside0.mk h
  clear h
  go_enter Tryd.func12, Tryd.ntmps12
  go_wp2_with (go_at_call 31; refine HP.out.mono ?_; rintro e w1 ⟨v, rfl, hR, hb⟩; refine Hid.out ?_)
  obtain ⟨hB, bk⟩ := bk_on HB0.out BK0.out hb
  obtain ⟨g, cap, rfl, hgb, hgl, cells, hcells⟩ := Kd.R_form hR (by omega)
  have hw0 := Kd.R_cell ByteArray.empty hR 0 (by omega) (by omega)
  have x0 : w1.cell? ⟨g, 0, none⟩ = some (.string (rdOf ByteArray.empty ws 0)) := hw0.1
  have hm0 : (rdOf ByteArray.empty ws 0).size ≤ 1048576 := HSZ.out _ (by
    have : rdOf ByteArray.empty ws 0 = ws[0]'(by omega) := by simp [rdOf, List.getElem?_eq_getElem (show 0 < ws.length by omega)]
    rw [this]
    exact List.getElem_mem _)
  have d1 : decide (ws.length < 2) = false := decide_eq_false (by omega)
  have d2 : decide ((ws.length : Int) < 2) = false := decide_eq_false (by omega)
  have d3 : decide (5 < ws.length) = false := decide_eq_false (by omega)
  have d4 : decide (5 < (ws.length : Int)) = false := decide_eq_false (by omega)
  have d5 : decide ((0 : Int) < (ws.length : Int)) = true := decide_eq_true (by omega)
  have d6 : (0 < ws.length) = True := eq_true (by omega)
  have hcap : ws.length ≤ cap := (Kd.R_reads' hR).2.1
  have HCAP := Aside0.mk hcap
  obtain ⟨s0, hs0⟩ : ∃ s0, rdOf ByteArray.empty ws 0 = s0 := ⟨_, rfl⟩
  rw [hs0] at x0 hm0
  have HB := Aside0.mk hB
  have BK := Aside0.mk bk
  have HR := Aside0.mk hR
  have HL2 := Aside0.mk hl2
  have HL5 := Aside0.mk hl5
  have HM0 := Aside0.mk hm0
  have HS0 := Aside0.mk hs0
  clear hb hR hB bk hw0 hl2 hl5 hm0 hgb hgl hcells hs0 hcap
  refine Lib.hid ?_
  have h := H.out
  rw [HS0.out] at h
  cases hn : numOf s0 with
  | none =>
    rw [hn] at h
    obtain ⟨rfl, rfl, rfl⟩ : r1 = 0 ∧ r2 = [] ∧ r3 = false := by simpa [eq_comm] using h
    have HN := Aside0.mk hn
    clear h hn H
    go_wp2_with (go_at_call 32; refine (atoi_bad s0 HM0.out (numOf_none HN.out) w _ HT.out HB.out).mono ?_; rintro e w2 ⟨n, N, rfl, hb⟩; refine Hid.out ?_)
    obtain ⟨hB, bk⟩ := bk_on HB.out BK.out hb
    have z0 : w2.cell? ⟨w.heap.size, 0, none⟩ = some (.int .i64 0) := (blk_cell bk 0).trans rfl
    have z1 : w2.cell? ⟨w.heap.size, 1, none⟩ = some (.slice none 0 0) := (blk_cell bk 1).trans rfl
    have f0 := blk_frozen bk 0
    have f1 := blk_frozen bk 1
    have HB2 := Aside0.mk hB
    have BK2 := Aside0.mk bk
    clear hb hB bk
    refine Lib.hid ?_
    go_wp2
    refine bodyPost_ret (results_ct rfl _ _ w.heap.size 29 #[.int .i64 0, .slice none 0 0] (0, 0) _ rfl (blk_put (blk_put BK2.out 0 _ rfl) 1 _ rfl) Tryd.underlying29 rfl (by kernel_rfl)) rfl ⟨_, rfl, Kd.R_nil _ _ _ _ _, ?_⟩
    exact (HB2.out.setCell (p := ⟨w.heap.size, 0, none⟩) (Nat.le_refl _) _).setCell (p := ⟨w.heap.size, 1, none⟩) (Nat.le_refl _) _
  | some id =>
    rw [hn] at h
    simp only at h
    have HH := Aside0.mk h
    have HN := Aside0.mk hn
    clear h hn H
    go_wp2_with (go_at_call 32; refine (atoi_good s0 HM0.out id (numOf_some HN.out) _).mono ?_; rintro e w2 ⟨rfl, hb⟩; refine Hid.out ?_)
    obtain ⟨hB, bk⟩ := bk_on HB.out BK.out hb
    have hR2 := Kd.R_below HR.out hb
    have HB2 := Aside0.mk hB
    have BK2 := Aside0.mk bk
    have HR2 := Aside0.mk hR2
    clear hb hB bk hR2
    refine Lib.hid ?_
    have e1 : ((1 : Int) ≤ (ws.length : Int)) = True := eq_true (by have := HL2.out; omega)
    have e2 : (cap = 1) = False := eq_false (by have := HL2.out; have := HCAP.out; omega)
    have hbkP := heap_alloc_new w2 (.cells #[.int .i64 id, .slice none 0 0] 29)
    have hB3 : Below w.heap.size w (w2.alloc (.cells #[.int .i64 id, .slice none 0 0] 29)) := HB2.out.alloc HB2.out.size _
    have hbk3 : (w2.alloc (.cells #[.int .i64 id, .slice none 0 0] 29)).heap[w.heap.size]? = some (.cells #[.int .i64 0, .slice none 0 0] 29 (0, 0)) := blk_below BK2.out ((Below.refl _ w2).alloc (Nat.le_refl _) _)
    have hR3 := Kd.R_alloc HR2.out (.cells #[.int .i64 id, .slice none 0 0] 29)
    have HBKP := Aside0.mk hbkP
    have HB3 := Aside0.mk hB3
    have HBK3 := Aside0.mk hbk3
    have HR3 := Aside0.mk hR3
    clear hbkP hB3 hbk3 hR3
    go_wp2
    obtain ⟨gP, hgP⟩ : ∃ gP, w2.heap.size = gP := ⟨_, rfl⟩
    obtain ⟨ts, hts⟩ : ∃ ts, ws.drop 1 = ts := ⟨_, rfl⟩
    have hgne : gP ≠ w.heap.size := by rw [← hgP]; have := (Array.getElem?_eq_some_iff.1 BK2.out).1; omega
    have hbase : w.heap.size ≤ gP := by rw [← hgP]; exact HB2.out.size
    have htl : ts.length + 1 = ws.length := by rw [← hts]; have := HL2.out; simp; omega
    have hr0 := HH.out
    rw [hts] at hr0
    rw [hgP] at HBKP ⊢
    have HTS := Aside0.mk hts
    have HGNE := Aside0.mk hgne
    have HBASE := Aside0.mk hbase
    have HTL := Aside0.mk htl
    have HRES := Aside0.mk hr0
    clear hgP hts hgne hbase htl hr0 HH
    go_loopw [46] (fun v46 wr => ∃ (pre rest : List ByteArray) (legs : List S45) (u : Value), v46 = .int .i64 (pre.length : Nat) ∧ ts = pre ++ rest ∧ legsReadOf ts = ((legsReadOf rest).bind fun ls => some (legs ++ ls)) ∧ legs.length = pre.length ∧ Kd.R Kd.string 9 wr w.heap.size (fun _ => True) (.slice (some ⟨g, 0, none⟩) ws.length cap) ws ∧ wr.heap[w.heap.size]? = some (.cells #[.int .i64 0, .slice none 0 0] 29 (0, 0)) ∧ wr.heap[gP]? = some (.cells #[.int .i64 id, u] 29 (0, 0)) ∧ Kd.R k45 45 wr w.heap.size (fun _ => True) u legs ∧ Below w.heap.size w wr) (fun v46 _ => ws.length - (intOf v46).toNat)
    case atStart =>
      refine ⟨[], ts, [], .slice none 0 0, rfl, rfl, by cases legsReadOf ts <;> rfl, rfl, Kd.R_lower HR3.out (by simp), HBK3.out, HBKP.out, Kd.R_nil _ _ _ _ _, HB3.out⟩
    case round =>
      obtain ⟨pre, rest, legs, u, rfl, hpr, hlr, hll, hRw, hkR, hkP, hRl, hBw⟩ := hrel
      obtain ⟨A, c, rfl⟩ := Kd.R_slice hRl
      have HRW := Aside0.mk hRw
      have HKR := Aside0.mk hkR
      have HKP := Aside0.mk hkP
      have HRL := Aside0.mk hRl
      have HBW := Aside0.mk hBw
      have HLL := Aside0.mk hll
      clear hRw hkR hkP hRl hBw hll
      cases rest with
      | nil =>
        have hle : legsReadOf ts = some legs := by rw [hlr]; simp [legsReadOf]
        have hpl : pre.length = ts.length := by rw [hpr]; simp
        have c1 : decide ((pre.length : Int) < ((ws.length - 1 : Nat) : Int)) = false := decide_eq_false (by have := HTL.out; omega)
        have c2 : decide (pre.length < ws.length - 1) = false := decide_eq_false (by have := HTL.out; omega)
        have h := HRES.out
        rw [hle] at h
        simp only at h
        have p0 : wr.cell? ⟨gP, 0, none⟩ = some (.int .i64 id) := (blk_cell HKP.out 0).trans rfl
        have p1 : wr.cell? ⟨gP, 1, none⟩ = some (.slice A legs.length c) := (blk_cell HKP.out 1).trans rfl
        obtain ⟨ok, hok, h⟩ := Option.bind_eq_some_iff.1 h
        have hcP : ∀ W, Below wr.heap.size wr W → Calls Tryd.prog 16 #[.agg #[.int .i64 id, .slice A legs.length c]] W fun e w' => e = .returned (.bool ok) ∧ Below W.heap.size W w' := fun W hW =>
          impl_PostOk.calls k id A c legs ok W (Kd.C_below (Kd.R_reads' HRL.out).2.2 hW) (Kd.R_reads' HRL.out).2.1 hok
        have HCP := Aside0.mk hcP
        clear hle hpl hlr hpr hok hcP
        cases ok with
        | false =>
          rw [if_neg (by decide)] at h
          obtain ⟨rfl, rfl, rfl⟩ : r1 = 0 ∧ r2 = [] ∧ r3 = false := by simpa [eq_comm] using h
          clear h HRES
          go_wp2_with (go_at_call 16; refine (HCP.out _ (Below.refl _ _)).mono ?_; rintro e w4 ⟨rfl, hb⟩; refine Hid.out ?_)
          obtain ⟨hB, bk⟩ := bk_on HBW.out HKR.out hb
          have HB4 := Aside0.mk hB
          have BK4 := Aside0.mk bk
          clear hb hB bk
          have z0 : w4.cell? ⟨w.heap.size, 0, none⟩ = some (.int .i64 0) := (blk_cell BK4.out 0).trans rfl
          have z1 : w4.cell? ⟨w.heap.size, 1, none⟩ = some (.slice none 0 0) := (blk_cell BK4.out 1).trans rfl
          have f0 := blk_frozen BK4.out 0
          have f1 := blk_frozen BK4.out 1
          refine Lib.hid ?_
          go_wp2
          refine bodyPost_ret (results_ct rfl _ _ w.heap.size 29 #[.int .i64 0, .slice none 0 0] (0, 0) _ rfl (blk_put (blk_put BK4.out 0 _ rfl) 1 _ rfl) Tryd.underlying29 rfl (by kernel_rfl)) rfl ⟨_, rfl, Kd.R_nil _ _ _ _ _, ?_⟩
          exact (HB4.out.setCell (p := ⟨w.heap.size, 0, none⟩) (Nat.le_refl _) _).setCell (p := ⟨w.heap.size, 1, none⟩) (Nat.le_refl _) _
        | true =>
          rw [if_pos rfl] at h
          obtain ⟨tx, htx, h⟩ := Option.bind_eq_some_iff.1 h
          have hcT : ∀ W, Below wr.heap.size wr W → Calls Tryd.prog 9 #[.agg #[.int .i64 id, .slice A legs.length c]] W fun e w' => e = .returned (.string tx) ∧ Below W.heap.size W w' := fun W hW =>
            impl_PostText.calls k id A c legs tx W (HT.out.below (HBW.out.trans (hW.mono HBW.out.size))) (Kd.C_below (Kd.R_reads' HRL.out).2.2 hW) (Kd.R_reads' HRL.out).2.1 htx
          have HCT := Aside0.mk hcT
          clear htx hcT
          by_cases he : tx.toList = a0.toList
          · rw [if_pos he] at h
            obtain ⟨rfl, rfl, rfl⟩ : r1 = id ∧ r2 = legs ∧ r3 = true := by simpa [eq_comm] using h
            have q0 : (tx.toList == a0.toList) = true := by simp [he]
            have q1 : (tx.toList != a0.toList) = false := by simp [he]
            clear h HRES he
            go_wp2_with (go_at_call 16; refine (HCP.out _ (Below.refl _ _)).mono ?_; rintro e w4 ⟨rfl, hb⟩; refine Hid.out ?_)
            obtain ⟨hB, bk⟩ := bk_on HBW.out HKR.out hb
            have bkp := blk_below HKP.out hb
            have hb4 := hb
            have HB4 := Aside0.mk hB
            have BK4 := Aside0.mk bk
            have BP4 := Aside0.mk bkp
            have HR4 := Aside0.mk (Kd.R_below HRL.out hb)
            have HW4 := Aside0.mk hb4
            have p40 : w4.cell? ⟨gP, 0, none⟩ = some (.int .i64 r1) := (blk_cell bkp 0).trans rfl
            have p41 : w4.cell? ⟨gP, 1, none⟩ = some (.slice A r2.length c) := (blk_cell bkp 1).trans rfl
            clear hb hB bk bkp hb4 p0 p1
            refine Lib.hid ?_
            go_wp2_with (go_at_call 9; refine (HCT.out _ HW4.out).mono ?_; rintro e w5 ⟨rfl, hb⟩; refine Hid.out ?_)
            obtain ⟨hB, bk⟩ := bk_on HB4.out BK4.out hb
            have bkp := blk_below BP4.out hb
            have HB5 := Aside0.mk hB
            have BK5 := Aside0.mk bk
            have HR5 := Aside0.mk (Kd.R_below HR4.out hb)
            have p50 : w5.cell? ⟨gP, 0, none⟩ = some (.int .i64 r1) := (blk_cell bkp 0).trans rfl
            have p51 : w5.cell? ⟨gP, 1, none⟩ = some (.slice A r2.length c) := (blk_cell bkp 1).trans rfl
            clear hb hB bk bkp p40 p41
            have z0 : w5.cell? ⟨w.heap.size, 0, none⟩ = some (.int .i64 0) := (blk_cell BK5.out 0).trans rfl
            have z1 : w5.cell? ⟨w.heap.size, 1, none⟩ = some (.slice none 0 0) := (blk_cell BK5.out 1).trans rfl
            have f0 := blk_frozen BK5.out 0
            have f1 := blk_frozen BK5.out 1
            refine Lib.hid ?_
            go_wp2
            refine bodyPost_ret (results_ct rfl _ _ w.heap.size 29 #[.int .i64 r1, .slice A r2.length c] (0, 0) _ rfl (blk_put (blk_put BK5.out 0 _ rfl) 1 _ rfl) Tryd.underlying29 rfl (by kernel_rfl)) rfl ⟨_, rfl, Kd.R_set (Kd.R_set HR5.out BK5.out (by decide) 0 _) (blk_put BK5.out 0 _ rfl) (by decide) 1 _, ?_⟩
            exact (HB5.out.setCell (p := ⟨w.heap.size, 0, none⟩) (Nat.le_refl _) _).setCell (p := ⟨w.heap.size, 1, none⟩) (Nat.le_refl _) _
          · rw [if_neg he] at h
            obtain ⟨rfl, rfl, rfl⟩ : r1 = 0 ∧ r2 = [] ∧ r3 = false := by simpa [eq_comm] using h
            have q0 : (tx.toList == a0.toList) = false := by simp [he]
            have q1 : (tx.toList != a0.toList) = true := by simp [he]
            clear h HRES he
            go_wp2_with (go_at_call 16; refine (HCP.out _ (Below.refl _ _)).mono ?_; rintro e w4 ⟨rfl, hb⟩; refine Hid.out ?_)
            obtain ⟨hB, bk⟩ := bk_on HBW.out HKR.out hb
            have bkp := blk_below HKP.out hb
            have HB4 := Aside0.mk hB
            have BK4 := Aside0.mk bk
            have HW4 := Aside0.mk hb
            have p40 : w4.cell? ⟨gP, 0, none⟩ = some (.int .i64 id) := (blk_cell bkp 0).trans rfl
            have p41 : w4.cell? ⟨gP, 1, none⟩ = some (.slice A legs.length c) := (blk_cell bkp 1).trans rfl
            clear hb hB bk bkp p0 p1
            refine Lib.hid ?_
            go_wp2_with (go_at_call 9; refine (HCT.out _ HW4.out).mono ?_; rintro e w5 ⟨rfl, hb⟩; refine Hid.out ?_)
            obtain ⟨hB, bk⟩ := bk_on HB4.out BK4.out hb
            have HB5 := Aside0.mk hB
            have BK5 := Aside0.mk bk
            clear hb hB bk p40 p41
            have z0 : w5.cell? ⟨w.heap.size, 0, none⟩ = some (.int .i64 0) := (blk_cell BK5.out 0).trans rfl
            have z1 : w5.cell? ⟨w.heap.size, 1, none⟩ = some (.slice none 0 0) := (blk_cell BK5.out 1).trans rfl
            have f0 := blk_frozen BK5.out 0
            have f1 := blk_frozen BK5.out 1
            refine Lib.hid ?_
            go_wp2
            refine bodyPost_ret (results_ct rfl _ _ w.heap.size 29 #[.int .i64 0, .slice none 0 0] (0, 0) _ rfl (blk_put (blk_put BK5.out 0 _ rfl) 1 _ rfl) Tryd.underlying29 rfl (by kernel_rfl)) rfl ⟨_, rfl, Kd.R_nil _ _ _ _ _, ?_⟩
            exact (HB5.out.setCell (p := ⟨w.heap.size, 0, none⟩) (Nat.le_refl _) _).setCell (p := ⟨w.heap.size, 1, none⟩) (Nat.le_refl _) _
      | cons x r =>
        obtain ⟨hrd, hmem⟩ := rd_words HTS.out hpr
        have hxs : x.size ≤ 1048576 := HSZ.out x hmem
        have hlt : pre.length + 1 < ws.length := by have := HTL.out; rw [hpr] at this; simp at this; omega
        have hcx := Kd.R_cell ByteArray.empty HRW.out ((pre.length + 1 : Nat) : Int) (by omega) (by omega)
        rw [hrd, Int.toNat_natCast] at hcx
        have x1 : wr.cell? ⟨g, pre.length + 1, none⟩ = some (.string x) := hcx.1
        have x2 : wr.cell? ⟨g, 1 + pre.length, none⟩ = some (.string x) := by rw [Nat.add_comm]; exact hcx.1
        have c1 : decide ((pre.length : Int) < ((ws.length - 1 : Nat) : Int)) = true := decide_eq_true (by omega)
        have c2 : decide (pre.length < ws.length - 1) = true := decide_eq_true (by omega)
        have c3 : ((pre.length : Int) < ((ws.length - 1 : Nat) : Int)) = True := eq_true (by omega)
        have c4 : (pre.length < ws.length - 1) = True := eq_true (by omega)
        have hLR := legRead_calls x hxs wr (HT.out.below HBW.out)
        have hltN : pre.length ≤ 1048576 := by have := HL5.out; omega
        have HLT := Aside0.mk hltN
        have HLW := Aside0.mk hlt
        have HPR := Aside0.mk hpr
        have HLR := Aside0.mk hlr
        clear hrd hmem hxs hlt hcx hltN hpr hlr
        cases hx : legReadOf x with
        | none =>
          rw [hx] at hLR
          simp only [legV] at hLR
          have hnone : legsReadOf ts = none := by rw [HLR.out]; simp [legsReadOf, hx]
          have h := HRES.out
          rw [hnone] at h
          obtain ⟨rfl, rfl, rfl⟩ : r1 = 0 ∧ r2 = [] ∧ r3 = false := by simpa [eq_comm] using h
          have HLC := Aside0.mk hLR
          clear h HRES hnone hx hLR
          go_wp2_with (go_at_call 33; refine HLC.out.mono ?_; rintro e w4 ⟨rfl, hb⟩; refine Hid.out ?_)
          obtain ⟨hB, bk⟩ := bk_on HBW.out HKR.out hb
          have hB4' : Below w.heap.size w (w4.alloc (.cells #[.string ⟨#[]⟩, .int .i64 0, .int .i64 0] 45)) := hB.alloc hB.size _
          have bk4' := blk_below bk ((Below.refl _ w4).alloc (Nat.le_refl _) (.cells #[.string ⟨#[]⟩, .int .i64 0, .int .i64 0] 45))
          have HB4 := Aside0.mk hB4'
          have BK4 := Aside0.mk bk4'
          have z0 : ∀ o, (w4.alloc o).cell? ⟨w.heap.size, 0, none⟩ = some (.int .i64 0) := fun o => (blk_cell (blk_below bk ((Below.refl _ w4).alloc (Nat.le_refl _) o)) 0).trans rfl
          have z1 : ∀ o, (w4.alloc o).cell? ⟨w.heap.size, 1, none⟩ = some (.slice none 0 0) := fun o => (blk_cell (blk_below bk ((Below.refl _ w4).alloc (Nat.le_refl _) o)) 1).trans rfl
          have f0 : ∀ o, (w4.alloc o).frozen? ⟨w.heap.size, 0, none⟩ = false := fun o => blk_frozen (blk_below bk ((Below.refl _ w4).alloc (Nat.le_refl _) o)) 0
          have f1 : ∀ o, (w4.alloc o).frozen? ⟨w.heap.size, 1, none⟩ = false := fun o => blk_frozen (blk_below bk ((Below.refl _ w4).alloc (Nat.le_refl _) o)) 1
          clear hb hB bk hB4' bk4'
          refine Lib.hid ?_
          go_wp2
          refine bodyPost_ret (results_ct rfl _ _ w.heap.size 29 #[.int .i64 0, .slice none 0 0] (0, 0) _ rfl (blk_put (blk_put BK4.out 0 _ rfl) 1 _ rfl) Tryd.underlying29 rfl (by kernel_rfl)) rfl ⟨_, rfl, Kd.R_nil _ _ _ _ _, ?_⟩
          exact (HB4.out.setCell (p := ⟨w.heap.size, 0, none⟩) (Nat.le_refl _) _).setCell (p := ⟨w.heap.size, 1, none⟩) (Nat.le_refl _) _
        | some l =>
          rw [hx] at hLR
          simp only [legV] at hLR
          have HLC := Aside0.mk hLR
          have HX := Aside0.mk hx
          clear hx hLR
          go_wp2_with (go_at_call 33; refine HLC.out.mono ?_; rintro e w4 ⟨rfl, hb⟩; refine Hid.out ?_)
          obtain ⟨hB, bk⟩ := bk_on HBW.out HKR.out hb
          have bkp := blk_below HKP.out hb
          have hal : Below w4.heap.size w4 (w4.alloc (.cells #[.string l.f0, .int .i64 l.f1, .int .i64 l.f2] 45)) := (Below.refl _ w4).alloc (Nat.le_refl _) _
          have bkr4 := blk_below bk hal
          have bkp4 := blk_below bkp hal
          have p0 : ∀ o, (w4.alloc o).cell? ⟨gP, 0, none⟩ = some (.int .i64 id) := fun o => (blk_cell (blk_below bkp ((Below.refl _ w4).alloc (Nat.le_refl _) o)) 0).trans rfl
          have p1 : ∀ o, (w4.alloc o).cell? ⟨gP, 1, none⟩ = some (.slice A legs.length c) := fun o => (blk_cell (blk_below bkp ((Below.refl _ w4).alloc (Nat.le_refl _) o)) 1).trans rfl
          have HB4 := Aside0.mk (below_then hB hB.size hal)
          have BR4 := Aside0.mk bkr4
          have BP4 := Aside0.mk bkp4
          have HRL4 := Aside0.mk (Kd.R_below (Kd.R_below HRL.out hb) hal)
          have HRW4 := Aside0.mk (Kd.R_below (Kd.R_below HRW.out hb) hal)
          clear hb hB bk bkp hal bkr4 bkp4
          refine Lib.hid ?_
          go_wp2_with (first | ((with_reducible refine gate_builtin (b := .append) (xs := #[.tmp 59, .tmp 61]) rfl ?_); at_builtin; refine Kd.R_append k45 (w0 := w) w.heap.size rfl (.tmp 59) (.tmp 61) 27 45 (.agg #[(.string ⟨#[]⟩), (.int .i64 0), (.int .i64 0)]) 32 rfl Tryd.underlying27 info_leg rfl (by decide) (by omega) (.slice A legs.length c) legs l [.string l.f0, .int .i64 l.f1, .int .i64 l.f2] (fun _ => True) (fun _ => False) rfl (by first | (go_simp; done) | (go_simp; rfl)) ?aP (fun _ hk => hk.elim) ?aF ?aO ?aB ?aS ?aL ?_; (case aP => exact k45_mkM _ _ _ l); (case aB => exact HB4.out); (case aF => exact fun _ _ => trivial); (case aO => exact HRL4.out); (case aS => exact HB4.out.size); (case aL => have h1 := HLL.out; have h2 := HLT.out; omega); intro v1 w5 ho hb hg hat; refine Hid.out ?_))
          obtain ⟨A1, c1', rfl⟩ := Kd.R_slice ho
          have bkr := blk_grown BR4.out hg (Kd.R_ne HRL4.out BR4.out (by decide))
          have bkp := blk_grown BP4.out hg (Kd.R_ne HRL4.out BP4.out (by decide))
          have hrw := Kd.R_over HRW4.out HRL4.out (by decide) hg
          have p50 : w5.cell? ⟨gP, 0, none⟩ = some (.int .i64 id) := (blk_cell bkp 0).trans rfl
          have p51 : w5.cell? ⟨gP, 1, none⟩ = some (.slice A legs.length c) := (blk_cell bkp 1).trans rfl
          have f51 := blk_frozen bkp 1
          have BR5 := Aside0.mk bkr
          have BP5 := Aside0.mk bkp
          have HRW5 := Aside0.mk hrw
          have HRL5 := Aside0.mk ho
          have HB5 := Aside0.mk hb
          clear bkr bkp hrw ho hb hg hat p0 p1
          refine Lib.hid ?_
          go_wp2
          go_roundw
          case rel =>
            refine ⟨pre ++ [x], r, legs ++ [l], .slice A1 (legs ++ [l]).length c1', by rw [wrap_next HLT.out]; simp, by rw [HPR.out]; simp, ?_, by have := HLL.out; simp [this], Kd.R_set HRW5.out BP5.out (by decide) 1 _, blk_far BR5.out (fun e => HGNE.out e.symm) _, blk_put BP5.out 1 _ (by simp), Kd.R_set HRL5.out BP5.out (by decide) 1 _, HB5.out.setCell (p := ⟨gP, 1, none⟩) HBASE.out _⟩
            rw [HLR.out, legsReadOf, HX.out]
            cases legsReadOf r <;> simp
          case measure => exact meas_ HLW.out HLT.out
end

/-- A state of type 84 at block g of W; what its slices lead to came in by w0. -/
def IsS84 (w0 W : World) (g : Nat) (f0 : List Int) (f1 : Int) : Prop := ∃ A0 c0, W.heap[g]? = some (.cells #[.slice A0 f0.length c0, .int .i64 f1] 84 (0, 0)) ∧ w0.heap.size ≤ g ∧ Kd.C (Kd.int .u8) w0 A0 f0.length f0
theorem IsS84.grown {w0 W : World} {g : Nat} {f0 : List Int} {f1 : Int} {W1 : World} {row : Option Nat} (h : IsS84 w0 W g f0 f1) (hw : W.grownBy W1 row) (hne : some g ≠ row) : IsS84 w0 W1 g f0 f1 := by
  obtain ⟨A0, c0, hb, hg, hr0⟩ := h
  exact ⟨A0, c0, blk_grown hb hw hne, hg, hr0⟩
theorem IsS84.own_neN {w0 W : World} {g : Nat} {f0 : List Int} {f1 : Int} {α : Type} {d : Kd α} {e : Nat} {base : Nat} {ok : Nat → Prop} {v : Value} {xs : List α} (h : IsS84 w0 W g f0 f1) (ho : Kd.N d e W base ok v xs) (ht : e ≠ 84) : some g ≠ v.ownBlock := by
  obtain ⟨A0, c0, hb, hg, hr0⟩ := h
  exact Kd.N_ne ho hb ht
theorem IsS84.fresh {w0 W : World} {g : Nat} {f0 : List Int} {f1 : Int} (h : IsS84 w0 W g f0 f1) : ∀ k, W.heap.size ≤ k → k ≠ g := by
  obtain ⟨A0, c0, hb, hg, hr0⟩ := h
  exact Kd.freshB hb
theorem IsS84.kept {w0 W : World} {g : Nat} {f0 : List Int} {f1 : Int} {W1 : World} {S : Nat → Prop} (h : IsS84 w0 W g f0 f1) (hk : Kept W W1 S) (hne : ¬ S g) : IsS84 w0 W1 g f0 f1 := by
  obtain ⟨A0, c0, hb, hg, hr0⟩ := h
  exact ⟨A0, c0, blk_kept hb hk hne, hg, hr0⟩
theorem IsS84.below {w0 W : World} {g : Nat} {f0 : List Int} {f1 : Int} {W1 : World} (h : IsS84 w0 W g f0 f1) (hw : Below W.heap.size W W1) : IsS84 w0 W1 g f0 f1 := h.grown (grown_of_below hw none) (by simp)
theorem IsS84.alloc {w0 W : World} {g : Nat} {f0 : List Int} {f1 : Int} (h : IsS84 w0 W g f0 f1) (o : Obj) : IsS84 w0 (W.alloc o) g f0 f1 := h.below (below_alloc (Below.refl _ _) o)
theorem IsS84.drewN {w0 W : World} {g : Nat} {f0 : List Int} {f1 : Int} (h : IsS84 w0 W g f0 f1) (m : Nat) : IsS84 w0 (W.drewN m) g f0 f1 := h
theorem IsS84.drew {w0 W : World} {g : Nat} {f0 : List Int} {f1 : Int} (h : IsS84 w0 W g f0 f1) : IsS84 w0 W.drew g f0 f1 := h
theorem IsS84.at_ {w0 W : World} {g : Nat} {f0 : List Int} {f1 : Int} {w' : World} {m : Nat} (hq : W.drewN m = w') (h : IsS84 w0 W g f0 f1) : IsS84 w0 w' g f0 f1 := by subst hq; exact IsS84.drewN h m
theorem IsS84.apart {w0 W : World} {g : Nat} {f0 : List Int} {f1 : Int} {α : Type} {d : Kd α} {e : Nat} {base : Nat} {ok : Nat → Prop} {v : Value} {xs : List α} (h : IsS84 w0 W g f0 f1) (ho : d.R e W base ok v xs) (ht : ∀ q, q ∈ e :: d.E → q ≠ 84) : d.R e W base (fun k => ok k ∧ k ≠ g) v xs := by
  obtain ⟨A0, c0, hb, hg, hr0⟩ := h
  exact Kd.R_types ho hb ht
theorem IsS84.own_ne {w0 W : World} {g : Nat} {f0 : List Int} {f1 : Int} {α : Type} {d : Kd α} {e : Nat} {base : Nat} {ok : Nat → Prop} {v : Value} {xs : List α} (h : IsS84 w0 W g f0 f1) (ho : d.R e W base ok v xs) (ht : e ≠ 84) : some g ≠ v.ownBlock := by
  obtain ⟨A0, c0, hb, hg, hr0⟩ := h
  exact Kd.R_ne ho hb ht
theorem IsS84.apartQ {w0 W : World} {g : Nat} {f0 : List Int} {f1 : Int} {α : Type} {d : Kd α} {e : Nat} {base : Nat} {ok : Nat → Prop} {v : Value} {xs : List α} (h : IsS84 w0 W g f0 f1) (ho : d.Q e W base ok v xs) (ht : ∀ q, q ∈ e :: d.E → q ≠ 84) : d.Q e W base (fun k => ok k ∧ k ≠ g) v xs := by
  obtain ⟨A0, c0, hb, hg, hr0⟩ := h
  exact Kd.Q_types ho hb ht
theorem IsS84.own_neQ {w0 W : World} {g : Nat} {f0 : List Int} {f1 : Int} {α : Type} {d : Kd α} {e : Nat} {base : Nat} {ok : Nat → Prop} {v : Value} {xs : List α} (h : IsS84 w0 W g f0 f1) (ho : d.Q e W base ok v xs) (ht : e ≠ 84) : some g ≠ v.ownBlock := by
  obtain ⟨A0, c0, hb, hg, hr0⟩ := h
  exact Kd.Q_ne ho hb ht
theorem IsS84.apartS {w0 W : World} {g : Nat} {f0 : List Int} {f1 : Int} {α : Type} {d : Kd α} {e : Nat} {base : Nat} {ok : Nat → Prop} {v : Value} {xs : List α} (h : IsS84 w0 W g f0 f1) (ho : d.S e W base ok v xs) (ht : ∀ q, q ∈ e :: d.E → q ≠ 84) : d.S e W base (fun k => ok k ∧ k ≠ g) v xs := by
  obtain ⟨A0, c0, hb, hg, hr0⟩ := h
  exact Kd.S_types ho hb ht
theorem IsS84.own_neS {w0 W : World} {g : Nat} {f0 : List Int} {f1 : Int} {α : Type} {d : Kd α} {e : Nat} {base : Nat} {ok : Nat → Prop} {v : Value} {xs : List α} (h : IsS84 w0 W g f0 f1) (ho : d.S e W base ok v xs) (ht : e ≠ 84) : some g ≠ v.ownBlock := by
  obtain ⟨A0, c0, hb, hg, hr0⟩ := h
  exact Kd.S_ne ho hb ht
theorem IsS84.lt {w0 W : World} {g : Nat} {f0 : List Int} {f1 : Int} (h : IsS84 w0 W g f0 f1) : g < W.heap.size := by
  obtain ⟨A0, c0, hb, hg, hr0⟩ := h
  exact blk_lt hb
theorem IsS84.ge {w0 W : World} {g : Nat} {f0 : List Int} {f1 : Int} (h : IsS84 w0 W g f0 f1) : w0.heap.size ≤ g := by
  obtain ⟨A0, c0, hb, hg, hr0⟩ := h
  exact hg
theorem IsS84.ne_blk {w0 W : World} {g : Nat} {f0 : List Int} {f1 : Int} {a : Nat} {cs : Array Value} {t : TypeId} {fr : Nat × Nat} (h : IsS84 w0 W g f0 f1) (hb2 : W.heap[a]? = some (.cells cs t fr)) (ht : t ≠ 84) : g ≠ a := by
  obtain ⟨A0, c0, hb, hg, hr0⟩ := h
  rintro rfl
  rw [hb] at hb2
  injection hb2 with hb2
  injection hb2 with _ ht2
  exact ht ht2.symm
theorem IsS84.far {w0 W : World} {g : Nat} {f0 : List Int} {f1 : Int} {p : Addr} (h : IsS84 w0 W g f0 f1) (hne : g ≠ p.block) (u : Value) : IsS84 w0 (W.setCell p u) g f0 f1 := by
  obtain ⟨A0, c0, hb, hg, hr0⟩ := h
  exact ⟨A0, c0, blk_far hb hne u, hg, hr0⟩
theorem cellS84_0 {W : World} {g : Nat} {A0 : Option Addr} {c0 : Nat} {f0 : List Int} {f1 : Int} (h : W.heap[g]? = some (.cells #[.slice A0 f0.length c0, .int .i64 f1] 84 (0, 0))) : W.cell? ⟨g, 0, none⟩ = some (.slice A0 f0.length c0) := (blk_cell h 0).trans rfl
theorem cellS84_1 {W : World} {g : Nat} {A0 : Option Addr} {c0 : Nat} {f0 : List Int} {f1 : Int} (h : W.heap[g]? = some (.cells #[.slice A0 f0.length c0, .int .i64 f1] 84 (0, 0))) : W.cell? ⟨g, 1, none⟩ = some (.int .i64 f1) := (blk_cell h 1).trans rfl
theorem IsS84.set_1 {w0 W : World} {g : Nat} {f0 : List Int} {f1 : Int} (h : IsS84 w0 W g f0 f1) (x : Int) : IsS84 w0 (W.setCell ⟨g, 1, none⟩ (.int .i64 x)) g f0 x := by
  obtain ⟨A0, c0, hb, hg, hr0⟩ := h
  exact ⟨A0, c0, by simpa using blk_set hb 1 (.int .i64 x), hg, hr0⟩
theorem IsS84.new (w0 W : World) (A0 : Option Addr) (c0 : Nat) (f0 : List Int) (f1 : Int) (hB : Below w0.heap.size w0 W) (hr0 : Kd.C (Kd.int .u8) w0 A0 f0.length f0) : IsS84 w0 (W.alloc (.cells #[.slice A0 f0.length c0, .int .i64 f1] 84)) W.heap.size f0 f1 := ⟨A0, c0, by simpa using heap_alloc_new W _, hB.size, hr0⟩

/-! ### spec_l9Open: function 39 -/
def spec_l9Open.f (l0 : List Int) : Option (List Int × Int) := if (l0.length : Int) > 2000 then (if 2000 ≤ (l0.length : Int) then (some (l0.take 2000, 0)) else (none)) else (some (l0, 0))
set_option maxHeartbeats 8000000 in
set_option maxRecDepth 100000 in
theorem spec_l9Open.calls (A0 : Option Addr) (c0 : Nat) (l0 : List Int) (r1 : List Int) (r2 : Int) (w0 w : World) (hB : Below w0.heap.size w0 w) (hr0 : Kd.C (Kd.int .u8) w0 A0 l0.length l0) (hc0 : l0.length ≤ c0) (h : spec_l9Open.f l0 = some (r1, r2)) :
    Calls Tryd.prog 39 #[.slice A0 l0.length c0] w fun e w' => ∃ g_ : Nat, e = .returned (.pointer (some ⟨g_, 0, none⟩)) ∧ IsS84 w0 w' g_ r1 r2 ∧ Below w0.heap.size w0 w' ∧ Below w.heap.size w w' := by
  have hu84 := Tryd.underlying84
  have HR0 := Aside0.mk hr0
  have HC0 := Aside0.mk hc0
  clear hr0 hc0
  have HBW := Aside0.mk (Below.refl w.heap.size w)
  have HW0 := Aside0.mk hB.size
  have HB := Aside0.mk hB
  clear hB
  have H : (if (l0.length : Int) > 2000 then (if 2000 ≤ (l0.length : Int) then (some (l0.take 2000, 0)) else (none)) else (some (l0, 0))) = some (r1, r2) := h
  clear h
  by_cases c2 : (l0.length : Int) > 2000
  · rw [if_pos c2] at H
    have c2b0 : decide (2000 < (l0.length : Int)) = true := decide_eq_true c2
    have c2b1 : decide (2000 < l0.length) = true := decide_eq_true (by omega)
    clear c2
    by_cases c3 : 2000 ≤ (l0.length : Int)
    · rw [if_pos c3] at H
      have c3b0 := eq_true c3
      have c3b1 : decide (2000 ≤ (l0.length : Int)) = true := decide_eq_true c3
      clear c3
      simp only [Option.some.injEq, Prod.mk.injEq] at H
      obtain ⟨rfl, rfl⟩ := H
      obtain ⟨i04, hi04, _, hsz4, _⟩ := info_parts info5
      obtain ⟨hcut4, hA4, hC4⟩ := print_take_of (P := Tryd.prog) (Value.int .u8) 0 37 5 .i64 Tryd.underlying37 hi04 hsz4 A0 c0 l0 2000 (by omega) (of_decide_eq_true (by first | (with_reducible assumption) | assumption)) HC0.out
      have HR169 := Aside0.mk (Kd.C_of_reads (h1 := fun _ => rfl) (hA4 _ (Kd.reads_of_C HR0.out)))
      have HC169 := Aside0.mk hC4
      clear hA4 hC4 hi04 hsz4
      go_enter Tryd.func39, Tryd.ntmps39
      go_wp2_with (first | ((with_reducible refine gate_dst (N := 10) rfl ?_); refine box_event ?hg (N := 10) ?hd (cs := #[.slice A0 (l0.take 2000).length c0, .int .i64 0]) (t := 84) ?hr ?_; (case hd => rfl); (case hg => rfl); (case hr => first | (go_simp; done) | (go_simp; rfl)); intro gb170 hg w5 hbox hb; replace HB := Aside0.mk (below_step (by repeat (first | (with_reducible first | exact HB.out | apply below_alloc | apply pw_below_drewN | apply below_drew1) | exact HB.out)) hb); have BK170 := Aside0.mk (hbox); have GW170 := Aside0.mk ((by rw [hg]; exact (below_size (by repeat (first | (with_reducible first | exact HBW.out | apply below_alloc | apply pw_below_drewN | apply below_drew1) | exact HBW.out))) : w.heap.size ≤ gb170)); have GE170 := Aside0.mk ((Nat.le_trans HW0.out (by rw [hg]; exact (below_size (by repeat (first | (with_reducible first | exact HBW.out | apply below_alloc | apply pw_below_drewN | apply below_drew1) | exact HBW.out))) : w.heap.size ≤ gb170) : w0.heap.size ≤ gb170)); replace HBW := Aside0.mk (below_step HBW.out hb); clear hb hbox hg))
      go_ret
      exact ⟨_, rfl, (show IsS84 w0 _ gb170 (l0.take 2000) 0 from ⟨_, _, by (with_reducible repeat (first | refine blk_drewN ?_ _ | refine blk_drew ?_ | refine blk_alloc ?_ _)); exact BK170.out, GE170.out, HR169.out⟩), by repeat (first | (with_reducible first | exact HB.out | apply below_alloc | apply pw_below_drewN | apply below_drew1 | refine below_set ?_ GE170.out) | exact HB.out), by repeat (first | (with_reducible first | exact HBW.out | apply below_alloc | apply pw_below_drewN | apply below_drew1 | refine below_set ?_ GW170.out) | exact HBW.out)⟩
    · rw [if_neg c3] at H
      exact absurd H (by simp)
  · rw [if_neg c2] at H
    have c2b0 : decide (2000 < (l0.length : Int)) = false := decide_eq_false c2
    have c2b1 : decide (2000 < l0.length) = false := decide_eq_false (by omega)
    clear c2
    simp only [Option.some.injEq, Prod.mk.injEq] at H
    obtain ⟨rfl, rfl⟩ := H
    go_enter Tryd.func39, Tryd.ntmps39
    go_wp2_with (first | ((with_reducible refine gate_dst (N := 10) rfl ?_); refine box_event ?hg (N := 10) ?hd (cs := #[.slice A0 l0.length c0, .int .i64 0]) (t := 84) ?hr ?_; (case hd => rfl); (case hg => rfl); (case hr => first | (go_simp; done) | (go_simp; rfl)); intro gb171 hg w6 hbox hb; replace HB := Aside0.mk (below_step (by repeat (first | (with_reducible first | exact HB.out | apply below_alloc | apply pw_below_drewN | apply below_drew1) | exact HB.out)) hb); have BK171 := Aside0.mk (hbox); have GW171 := Aside0.mk ((by rw [hg]; exact (below_size (by repeat (first | (with_reducible first | exact HBW.out | apply below_alloc | apply pw_below_drewN | apply below_drew1) | exact HBW.out))) : w.heap.size ≤ gb171)); have GE171 := Aside0.mk ((Nat.le_trans HW0.out (by rw [hg]; exact (below_size (by repeat (first | (with_reducible first | exact HBW.out | apply below_alloc | apply pw_below_drewN | apply below_drew1) | exact HBW.out))) : w.heap.size ≤ gb171) : w0.heap.size ≤ gb171)); replace HBW := Aside0.mk (below_step HBW.out hb); clear hb hbox hg))
    go_ret
    exact ⟨_, rfl, (show IsS84 w0 _ gb171 l0 0 from ⟨_, _, by (with_reducible repeat (first | refine blk_drewN ?_ _ | refine blk_drew ?_ | refine blk_alloc ?_ _)); exact BK171.out, GE171.out, HR0.out⟩), by repeat (first | (with_reducible first | exact HB.out | apply below_alloc | apply pw_below_drewN | apply below_drew1 | refine below_set ?_ GE171.out) | exact HB.out), by repeat (first | (with_reducible first | exact HBW.out | apply below_alloc | apply pw_below_drewN | apply below_drew1 | refine below_set ?_ GW171.out) | exact HBW.out)⟩


end Go.Proofs.YtdjohhobmipagaaDoor.QFnPost
