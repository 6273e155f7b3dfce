/- What the law FnExactBookSides reaches, function by function: what each computes, and that the machine's call comes to it. Laid by a program. -/
import Derived.Test.YteijmkjfgieciaaQFnExactBookSidesx0
import Derived.Test.YteijmkjfgieciaaQFnExactBookSidesx7
import Derived.Test.YteijmkjfgieciaaQFnExactBookSidesx8
import Derived.Test.YteijmkjfgieciaaQFnExactBookSidesx9
namespace Go.Proofs.Yteijmkjfgieciaa.QFnExactBookSides
open Go.RowKit Go.Proofs.YteijmkjfgieciaaW.PrintWords Go.Proofs.YteijmkjfgieciaaW.PrintLast Go.Proofs.YteijmkjfgieciaaW.PrintMore
attribute [local go_sem] max2_int min2_int max_two min_two max_three min_three max_four min_four   -- for this text's walks alone
set_option linter.unusedVariables false
set_option linter.unusedSimpArgs false

/-! ### impl_ledger_add: function 66 -/
section
attribute [local go_sem] Oper.semAt_some
open Go.ChangeMaps Go.MapKept in
theorem IntMap.of_block {W W' : World} {K B n : Nat} {f : Lit → Int} (h : IntMap W K B n f) (hb : W'.heap[B]? = W.heap[B]?) : IntMap W' K B n f := by
  obtain ⟨D, ⟨es, ck, h1, h4⟩, h2, h3⟩ := h
  exact ⟨D, ⟨es, ck, hb.trans h1, h4⟩, h2, h3⟩
theorem IntMap.update {W : World} {K B n : Nat} {f : Lit → Int} (h : IntMap W K B n f) {t : TypeId} (hK : Maps.Keyed Try.prog K) (ht : Try.prog.underlying t = some (.map K 3)) (hn : n < maxLen) {key : Value} {kl : Lit} (hkey : keyOf Try.prog K key = some kl) (c : Int) (hc : (Lit.int .i64 c).wf = true) :
    ∃ W', (Instr.mapUpdate t (.map (some B)) key (.int .i64 c)).run Try.prog W = .ok () W' ∧ IntMap W' K B (n + 1) (putAt f kl c) ∧ W.grownBy W' (some B) := by
  obtain ⟨D, h1, h2, h3⟩ := h
  obtain ⟨W', hr, ho, hg⟩ := h1.update hK ht hn hkey (plainElem_int Try.underlying3 hc)
  exact ⟨W', hr, IntMap.put h3 h2 (hK.key hkey) ho, hg⟩
theorem putAt_same (f : Lit → Int) (kl : Lit) : putAt f kl (f kl) = f := by
  funext k
  unfold putAt
  split
  · rename_i h; rw [h]
  · rfl
open Go.ChangeMaps Go.MapKept in
/-- 'm[k] += c' in two steps: the entry is there (with what it held, or 0), then it is written. -/
theorem IntMap.entry {W : World} {K B n : Nat} {f : Lit → Int} (h : IntMap W K B n f) {t : TypeId} (KL : WideMaps.KeyLaw Try.prog K) (ht : Try.prog.underlying t = some (.map K 3)) (hn : n < maxLen) {key : Value} {kl : Lit} (hkey : keyOf Try.prog K key = some kl) :
    ∃ (v0 : Value) (st : Nat) (W1 : World), (Instr.mapEntry t (.map (some B)) key).run Try.prog W = .ok (.tuple #[v0, goInt st]) W1 ∧ IntMap W1 K B (n + 1) f ∧ W.grownBy W1 (some B) ∧
      ∀ (c : Int), (Lit.int .i64 c).wf = true → ∃ W3, (Instr.entryStore t (.map (some B)) (goInt st) (.int .i64 c)).run Try.prog W1 = .ok () W3 ∧ IntMap W3 K B (n + 1) (putAt f kl c) ∧ W1.grownBy W3 (some B) := by
  have hlook := h.look (Maps.Keyed.of_law KL) ht hkey
  have hupd := fun c hc => h.update (Maps.Keyed.of_law KL) ht hn hkey c hc
  have h' := h
  obtain ⟨D, ⟨es, clock, hb, F, hs, rfl⟩, h2, h3⟩ := h
  obtain ⟨v0, st, es1, clock1, hrun, hv, hst⟩ := WideElems.entry_then_store KL ht (fun u => Try.zeroValue3 u) hb F hkey
  have hblk : ∀ o : Obj, (setBlock W B o).heap[B]? = some o := fun o => heap_setBlock_same hb o
  have hgrow : ∀ o : Obj, W.grownBy (setBlock W B o) (some B) := fun o => ⟨rfl, rfl, rfl, by simp [setBlock], fun i _ hi => heap_setBlock_other hb _ (fun e => hi (by rw [e]))⟩
  refine ⟨v0, st, _, hrun, ?_, hgrow _, fun c hc => ?_⟩
  · rcases KL.find W hkey es.toList F.keys with ⟨k1, k2⟩ | ⟨j, e0, k1, k2, k3⟩
    · -- a new entry: 0
      have hz : (zeroValue 3).run Try.prog W = .ok (.int .i64 0) W := Try.zeroValue3 W
      have hf : f kl = 0 := by
        have e : (Instr.lookup t (.map (some B)) key false).run Try.prog W = .ok (.int .i64 0) W := by
          simp [Instr.lookup, run_underlying ht, MapKept.run_getObj_map hb, KL.check W es.isEmpty hkey, k1, hz, Result.andThen]
        exact (Value.int.inj (Result.ok.inj (hlook.symm.trans e)).1).2
      obtain ⟨W', hu, hm, _⟩ := hupd 0 (by decide)
      have e1 : (Instr.mapUpdate t (.map (some B)) key (.int .i64 0)).run Try.prog W = .ok () (setBlock W B (.map (es.push ⟨key, .int .i64 0, clock⟩) (clock + 1))) := by
        simp [Instr.mapUpdate, run_underlying ht, MapKept.run_getObj_map hb, KL.check W false hkey, k1, MapKept.run_setObj_map _ hb, Result.andThen, setBlock]
      have e2 : (Instr.mapEntry t (.map (some B)) key).run Try.prog W = .ok (.tuple #[.int .i64 0, goInt clock]) (setBlock W B (.map (es.push ⟨key, .int .i64 0, clock⟩) (clock + 1))) := by
        simp [Instr.mapEntry, run_underlying ht, MapKept.run_getObj_map hb, KL.check W false hkey, k1, hz, MapKept.run_setObj_map _ hb, Result.andThen, setBlock]
      rw [hrun] at e2
      rw [hu] at e1
      replace e1 := (Result.ok.inj e1).2
      replace e2 := (Result.ok.inj e2).2
      rw [e2, ← e1]
      have := hm
      rw [← hf, putAt_same] at this
      exact this
    · have e2 : (Instr.mapEntry t (.map (some B)) key).run Try.prog W = .ok (.tuple #[e0.val, goInt e0.born]) (setBlock W B (.map es clock)) := by
        have hj : es[j]? = some e0 := by simpa using k2
        have hsame : es.modify j (fun e => { e with key := key }) = es := by
          apply Array.ext'
          rw [Array.toList_modify, modify_eq_set _ _ _ _ k2]
          have : ({ e0 with key := key } : MapEntry) = e0 := by rw [← k3]
          rw [this]
          exact WideElems.set_self _ _ _ k2
        simp [Instr.mapEntry, run_underlying ht, MapKept.run_getObj_map hb, KL.check W false hkey, k1, hj, k3, KL.stays W hkey, hsame, MapKept.run_setObj_map _ hb, Result.andThen, setBlock]
      rw [hrun] at e2
      replace e2 := (Result.ok.inj e2).2
      rw [e2]
      obtain ⟨D', hD1, hD2, hD3⟩ := h'.mono (Nat.le_succ n)
      exact IntMap.of_block ⟨D', hD1, hD2, hD3⟩ ((hblk _).trans hb.symm)
  · obtain ⟨es', clock', r1, r2⟩ := hst (setBlock W B (.map es1 clock1)) (.int .i64 c) (hblk _)
    obtain ⟨W', hu, hm, _⟩ := hupd c hc
    rw [hu] at r2
    replace r2 := (Result.ok.inj r2).2
    refine ⟨_, r1, ?_, ?_⟩
    · refine IntMap.of_block hm ?_
      rw [r2]
      exact (heap_setBlock_same (hblk _) _).trans (hblk _).symm
    · exact ⟨rfl, rfl, rfl, by simp [setBlock], fun i _ hi => heap_setBlock_other (hblk _) _ (fun e => hi (by rw [e]))⟩
theorem cell_grown {W W' : World} {B b o : Nat} {v : Value} (hg : W.grownBy W' (some B)) (h : W.cell? ⟨b, o, none⟩ = some v) (hne : b ≠ B) : W'.cell? ⟨b, o, none⟩ = some v := by
  have hl := World.block_lt_of_cell? _ _ h
  have e := hg.block b hl (fun e => hne (Option.some.inj e))
  rw [← h]
  unfold World.cell?
  simp only [e]
theorem val_ {P : Program} {ops : Array Oper} {Q : Exit → Act → World → Prop} {oi : Oper} {N : Option Tmp} {a : Act} {w w1 : World} {v : Value} {K : Act → World → Prop} (hw : Region.wanted oi (yielded ops a.tmps) = true) (hN : oi.dst = N) (hrun : (execOp a.eval oi).run P w = .ok (.value v) w1)
    (h : K (a.put N v) w1) : if Region.wanted oi (yielded ops a.tmps) = true then Oper.wp P oi a w K Q else K (a.put N undef) w := by
  subst hN
  rw [if_pos hw]
  unfold Oper.wp
  rw [hrun]
  exact h
/-- What the balances are behind some legs. -/
noncomputable def balsF (f : Lit → Int) (ys : List S77) : Lit → Int := ys.foldl (fun f x => putAt f (sideLit x.f0 x.f1) (wrap64 (f (sideLit x.f0 x.f1) + x.f2))) f
theorem balsF_snoc (f : Lit → Int) (pre : List S77) (x : S77) : balsF f (pre ++ [x]) = putAt (balsF f pre) (sideLit x.f0 x.f1) (wrap64 (balsF f pre (sideLit x.f0 x.f1) + x.f2)) := by simp [balsF]
set_option maxRecDepth 100000 in
set_option maxHeartbeats 4000000 in
theorem add_calls (k : Nat) (G B1 B2 n1 n2 : Nat) (cnt : Int) (f1 f2 : Lit → Int) (id : Int) (A : Option Addr) (c : Nat) (xs : List LegW) (w00 w : World) (hG : w.heap[G]? = some (.cells #[.int .i64 cnt, .map (some B1), .map (some B2)] 73 (0, 0))) (m1 : IntMap w 3 B1 n1 f1) (m2 : IntMap w 75 B2 n2 f2) (hB12 : B1 ≠ B2)
    (hn1 : n1 ≤ 1048576) (hn2 : n2 + xs.length ≤ 1125899906842624) (hGn : w00.heap.size ≤ G) (hB1n : w00.heap.size ≤ B1) (hB2n : w00.heap.size ≤ B2) (hb00 : Below w00.heap.size w00 w)
    (hr0 : Kd.C k77 w00 A xs.length (xs.map (fun y : LegW => y.1))) (hc0 : xs.length ≤ c) (hid : (Lit.int .i64 id).wf = true) (ok : Bool) (hok : impl_PostOk.f k id (xs.map (fun y : LegW => y.1)) = some ok) :
    Calls Try.prog 66 #[.pointer (some ⟨G, 0, none⟩), .agg #[.int .i64 id, .slice A xs.length c]] w fun e w' => e = .returned (.tuple #[]) ∧ w'.heap[G]? = some (.cells #[.int .i64 (wrap64 (cnt + 1)), .map (some B1), .map (some B2)] 73 (0, 0)) ∧
      IntMap w' 3 B1 (n1 + 1) (putAt f1 (.int .i64 id) (wrap64 (f1 (.int .i64 id) + 1))) ∧ IntMap w' 75 B2 (n2 + xs.length) (balsF f2 ((selLegs ok xs).map (fun y : LegW => y.1))) ∧ Below w00.heap.size w w' := by
  refine (callsIn_wide (n := 6)).1 ?_
  refine callsIn_of_wp_marks Try.func66 rfl trivial ?_ rfl
  simp only [Try.ntmps66, List.size_toArray, List.length_cons, List.length_nil, Nat.reduceAdd, Nat.reduceSub, Array.replicate_succ, Array.replicate_zero, List.push_toArray, List.append_toArray, List.nil_append, List.cons_append]
  have HR := Aside0.mk hr0
  have HC := Aside0.mk hc0
  have HOK := Aside0.mk hok
  have HG := Aside0.mk hG
  have HM1 := Aside0.mk m1
  have HM2 := Aside0.mk m2
  have HN2 := Aside0.mk hn2
  have H00 := Aside0.mk hb00
  have hGl : G < w.heap.size := (Array.getElem?_eq_some_iff.1 hG).1
  have hB1l := m1.lt
  have hB2l := m2.lt
  have hG1 : G ≠ B1 := fun e => by
    obtain ⟨o, ho, hc⟩ := m1.block
    rw [← e, hG] at ho
    cases ho
    cases hc
  have hG2 : G ≠ B2 := fun e => by
    obtain ⟨o, ho, hc⟩ := m2.block
    rw [← e, hG] at ho
    cases ho
    cases hc
  have hcnt : w.cell? ⟨G, 0, none⟩ = some (.int .i64 cnt) := (cell_of_row w _ 0 _ _ _ hG).trans rfl
  have hb1 : w.cell? ⟨G, 1, none⟩ = some (.map (some B1)) := (cell_of_row w _ 1 _ _ _ hG).trans rfl
  have hb2 : w.cell? ⟨G, 2, none⟩ = some (.map (some B2)) := (cell_of_row w _ 2 _ _ _ hG).trans rfl
  have hfz : w.frozen? ⟨G, 0, none⟩ = false := by unfold World.frozen?; simp [hG]
  clear hr0 hc0 hok hG m1 m2 hn2 hb00
  gi_wp2
  have hsz0 : (w.setCell ⟨G, 0, none⟩ (.int .i64 (wrap64 (cnt + 1)))).heap.size = w.heap.size := by simp [World.setCell]
  have gw : (w.setCell ⟨G, 0, none⟩ (.int .i64 (wrap64 (cnt + 1)))).heap[G]? = some (.cells #[.int .i64 (wrap64 (cnt + 1)), .map (some B1), .map (some B2)] 73 (0, 0)) := blk_put HG.out 0 _ rfl
  have M1 := ((IntMap.of_block HM1.out (Below.heap_setCell w ⟨G, 0, none⟩ (.int .i64 (wrap64 (cnt + 1))) B1 (Ne.symm hG1))).alloc (.cells #[.pointer (some ⟨G, 0, none⟩)] 67)).alloc (.cells #[.int .i64 id, .slice A xs.length c] 52)
  have M2 := ((IntMap.of_block HM2.out (Below.heap_setCell w ⟨G, 0, none⟩ (.int .i64 (wrap64 (cnt + 1))) B2 (Ne.symm hG2))).alloc (.cells #[.pointer (some ⟨G, 0, none⟩)] 67)).alloc (.cells #[.int .i64 id, .slice A xs.length c] 52)
  have bW1 : Below w00.heap.size w (((w.setCell ⟨G, 0, none⟩ (.int .i64 (wrap64 (cnt + 1)))).alloc (.cells #[.pointer (some ⟨G, 0, none⟩)] 67)).alloc (.cells #[.int .i64 id, .slice A xs.length c] 52)) :=
    (((Below.refl _ w).setCell (p := ⟨G, 0, none⟩) hGn _).alloc (by rw [hsz0]; exact H00.out.size) _).alloc (by simp; have := H00.out.size; omega) _
  have rG1 := (Below.heap_alloc ((w.setCell ⟨G, 0, none⟩ (.int .i64 (wrap64 (cnt + 1)))).alloc (.cells #[.pointer (some ⟨G, 0, none⟩)] 67)) (.cells #[.int .i64 id, .slice A xs.length c] 52) G (by simp; omega)).trans ((Below.heap_alloc (w.setCell ⟨G, 0, none⟩ (.int .i64 (wrap64 (cnt + 1)))) (.cells #[.pointer (some ⟨G, 0, none⟩)] 67) G (by omega)).trans gw)
  have rP1 := heap_alloc_new ((w.setCell ⟨G, 0, none⟩ (.int .i64 (wrap64 (cnt + 1)))).alloc (.cells #[.pointer (some ⟨G, 0, none⟩)] 67)) (.cells #[.int .i64 id, .slice A xs.length c] 52)
  have rB1 : (((w.setCell ⟨G, 0, none⟩ (.int .i64 (wrap64 (cnt + 1)))).alloc (.cells #[.pointer (some ⟨G, 0, none⟩)] 67)).alloc (.cells #[.int .i64 id, .slice A xs.length c] 52)).heap[w.heap.size]? = some (.cells #[.pointer (some ⟨G, 0, none⟩)] 67 (0, 0)) := (Below.heap_alloc ((w.setCell ⟨G, 0, none⟩ (.int .i64 (wrap64 (cnt + 1)))).alloc (.cells #[.pointer (some ⟨G, 0, none⟩)] 67)) (.cells #[.int .i64 id, .slice A xs.length c] 52) w.heap.size (by simp [hsz0])).trans (by have h := heap_alloc_new (w.setCell ⟨G, 0, none⟩ (.int .i64 (wrap64 (cnt + 1)))) (.cells #[.pointer (some ⟨G, 0, none⟩)] 67); rw [hsz0] at h; exact h)
  have hs1 : (((w.setCell ⟨G, 0, none⟩ (.int .i64 (wrap64 (cnt + 1)))).alloc (.cells #[.pointer (some ⟨G, 0, none⟩)] 67)).alloc (.cells #[.int .i64 id, .slice A xs.length c] 52)).heap.size = w.heap.size + 2 := by simp [hsz0]
  rw [World.size_alloc, hsz0] at rP1
  obtain ⟨W1, hW1⟩ : ∃ W1, (((w.setCell ⟨G, 0, none⟩ (.int .i64 (wrap64 (cnt + 1)))).alloc (.cells #[.pointer (some ⟨G, 0, none⟩)] 67)).alloc (.cells #[.int .i64 id, .slice A xs.length c] 52)) = W1 := ⟨_, rfl⟩
  rw [hW1] at M1 M2 bW1 rG1 rP1 rB1 hs1 ⊢
  have HS1 := Aside0.mk hs1
  clear hW1 gw hsz0 hcnt hb1 hb2 hfz hs1
  have c1 : W1.cell? ⟨G, 1, none⟩ = some (.map (some B1)) := (cell_of_row W1 _ 1 _ _ _ rG1).trans rfl
  have b0 : W1.cell? ⟨w.heap.size, 0, none⟩ = some (.pointer (some ⟨G, 0, none⟩)) := (cell_of_row W1 _ 0 _ _ _ rB1).trans rfl
  have p0 : W1.cell? ⟨w.heap.size + 1, 0, none⟩ = some (.int .i64 id) := (cell_of_row W1 _ 0 _ _ _ rP1).trans rfl
  have p1 : W1.cell? ⟨w.heap.size + 1, 1, none⟩ = some (.slice A xs.length c) := (cell_of_row W1 _ 1 _ _ _ rP1).trans rfl
  have kid := Maps.keyOf_int_mk Try.underlying3 hid
  have l1 := M1.drew.look (Maps.int_keyed Try.underlying3) Try.underlying70 kid
  obtain ⟨W2, u1, M1', hg2⟩ := M1.drew.update (Maps.int_keyed Try.underlying3) Try.underlying70 (by unfold maxLen; omega) kid (wrap64 (f1 (.int .i64 id) + 1)) (wrap64_wf _)
  have HM1' := Aside0.mk M1'
  have HM2' := Aside0.mk M2
  clear M1 M2 M1'
  gi_region
  have cg : ∀ {b o : Nat} {v : Value}, b ≠ B1 → W1.cell? ⟨b, o, none⟩ = some v → W2.cell? ⟨b, o, none⟩ = some v := fun hne h => cell_grown hg2 h hne
  have p0' := cg (by omega) p0
  have p1' := cg (by omega) p1
  have bb0' := cg (by omega) b0
  have HBB := Aside0.mk bb0'
  clear cg p0 p1 b0 c1 l1 u1 bb0'
  gi_wp2_with (refine ⟨trivial, ?_⟩; gi_at_call 47; refine (callsIn_wide.2 (legsOf_calls id A _ c _)).mono ?_; rintro e w' ⟨rfl, rfl⟩)
  have hq := heap_alloc_new W2 (.cells #[.int .i64 id, .slice A xs.length c] 52)
  have gs2 := hg2.size
  have hBW : Below W2.heap.size W2 (W2.alloc (.cells #[.int .i64 id, .slice A xs.length c] 52)) := (Below.refl _ W2).alloc (Nat.le_refl _) _
  have hsz : (W2.alloc (.cells #[.int .i64 id, .slice A xs.length c] 52)).heap.size = W2.heap.size + 1 := by simp
  have rG2 : W2.heap[G]? = some (.cells #[.int .i64 (wrap64 (cnt + 1)), .map (some B1), .map (some B2)] 73 (0, 0)) := (hg2.block G (by have := HS1.out; show G < W1.heap.size; omega) (fun e => hG1 (Option.some.inj e))).trans rG1
  have M2' := (IntMap.kept (W' := W2) (row := some B1) HM2'.out.drew hg2 (fun e => hB12 (Option.some.inj e).symm)).alloc (.cells #[.int .i64 id, .slice A xs.length c] 52)
  have M1' := HM1'.out.alloc (.cells #[.int .i64 id, .slice A xs.length c] 52)
  have bW2 : Below w00.heap.size w W2 := bW1.drew.grown hg2 (by have := HS1.out; have := H00.out.size; show w00.heap.size ≤ W1.heap.size; omega) (fun j e => by cases e; exact hB1n)
  obtain ⟨W0, hW0⟩ : ∃ W0, W2.alloc (.cells #[.int .i64 id, .slice A xs.length c] 52) = W0 := ⟨_, rfl⟩
  rw [hW0] at hBW hsz hq M1' M2' ⊢
  have hs2 : w.heap.size + 2 ≤ W2.heap.size := by have := HS1.out; have : W1.heap.size ≤ W2.heap.size := gs2; omega
  clear hW0 gs2
  have hB0 : Below w00.heap.size w00 W0 := (H00.out.trans bW2).trans (hBW.mono (by have := H00.out.size; omega))
  have hw0 : Below w00.heap.size w W0 := bW2.trans (hBW.mono (by have := H00.out.size; omega))
  have hc0 : W0.cell? ⟨W2.heap.size, 0, none⟩ = some (.int .i64 id) := (cell_of_row W0 _ 0 _ _ _ hq).trans rfl
  have hc1 : W0.cell? ⟨W2.heap.size, 1, none⟩ = some (.slice A xs.length c) := (cell_of_row W0 _ 1 _ _ _ hq).trans rfl
  have rG0 : W0.heap[G]? = some (.cells #[.int .i64 (wrap64 (cnt + 1)), .map (some B1), .map (some B2)] 73 (0, 0)) := (hBW.block _ (by omega)).trans rG2
  have rB0 : W0.heap[w.heap.size]? = some (.cells #[.pointer (some ⟨G, 0, none⟩)] 67 (0, 0)) := (hBW.block _ (by omega)).trans ((hg2.block _ (by have := HS1.out; show w.heap.size < W1.heap.size; omega) (fun e => by have := Option.some.inj e; omega)).trans rB1)
  have HSZ := Aside0.mk hsz
  have HS2 := Aside0.mk hs2
  clear hsz hs2 hq rG1 rG2 rB1 rP1 p0' p1'
  have hsel : (selLegs ok xs).length ≤ xs.length := by unfold selLegs; split <;> simp
  have HSL := Aside0.mk hsel
  clear hsel
  refine wpIn_rangeFunc_ownH rfl (by omega) (gf := 68) (lb := #[.pointer (some ⟨W2.heap.size, 0, none⟩)]) rfl trivial (enters_of Try.func68 (by kernel_rfl) rfl)
    (legsOf_stops _ (by omega) (fun y : LegW => y.1) W2.heap.size k id A c xs w00 W0 HR.out HC.out ok HOK.out hB0 (by have := HSZ.out; omega) hc0 hc1) belowK_t (belowK_b hB0.size) (Below.refl _ _) (fun _ => rfl)
    (fun pre W => (W.heap[G]? = some (.cells #[.int .i64 (wrap64 (cnt + 1)), .map (some B1), .map (some B2)] 73 (0, 0)) ∧ W.heap[w.heap.size]? = some (.cells #[.pointer (some ⟨G, 0, none⟩)] 67 (0, 0))) ∧ (IntMap W 3 B1 (n1 + 1) (putAt f1 (.int .i64 id) (wrap64 (f1 (.int .i64 id) + 1))) ∧ IntMap W 75 B2 (n2 + pre.length) (balsF f2 (pre.map (fun y : LegW => y.1)))) ∧ (W0.heap.size ≤ W.heap.size ∧ Below w00.heap.size w W))
    (fun _ _ _ => False)
    (fun s X Y row hs hg hr => by
      obtain ⟨⟨h1, h2⟩, ⟨h3, h4⟩, h5, h6⟩ := hs
      have hlt : ∀ j, row = some j → W0.heap.size ≤ j := fun j e => (hr j e).1
      have hG0 : G < W0.heap.size := (Array.getElem?_eq_some_iff.1 rG0).1
      have hb0 : w.heap.size < W0.heap.size := (Array.getElem?_eq_some_iff.1 rB0).1
      have hm1 := M1'.lt
      have hm2 := M2'.lt
      refine ⟨⟨(hg.block _ (by omega) (fun e => by have := hlt _ e.symm; omega)).trans h1, (hg.block _ (by omega) (fun e => by have := hlt _ e.symm; omega)).trans h2⟩, ⟨h3.kept hg (fun e => by have := hlt _ e.symm; omega), h4.kept hg (fun e => by have := hlt _ e.symm; omega)⟩, Nat.le_trans h5 hg.size, h6.grown hg (Nat.le_trans hB0.size h5) (fun j e => Nat.le_trans hB0.size (hlt j e))⟩)
    (fun _ _ _ _ _ hs _ _ => hs)
    ⟨⟨rG0, rB0⟩, ⟨M1', M2'⟩, Nat.le_refl _, hw0⟩
    (fun x a' W => ∃ Bx, W0.heap.size ≤ Bx ∧ W.heap[Bx]? = some (.cells #[.string x.1.f0, .int .i64 x.1.f1, .int .i64 x.1.f2] 77 (0, 0)) ∧ a' = { tmps := #[.pointer (some ⟨G, 0, none⟩), .agg #[.int .i64 id, .slice A xs.length c], .pointer (some ⟨w.heap.size, 0, none⟩), .pointer (some ⟨w.heap.size + 1, 0, none⟩), .pointer (some ⟨Bx, 0, none⟩), .pointer (some ⟨G, 0, none⟩), .pointer (some ⟨G, 0, none⟩), .pointer (some ⟨G, 0, none⟩), .int .i64 cnt, .int .i64 (wrap64 (cnt + 1)), .pointer (some ⟨G, 0, none⟩), .pointer (some ⟨G, 0, none⟩), .pointer (some ⟨G, 0, none⟩), .pointer (some ⟨G, 0, none⟩), .pointer (some ⟨G, 1, none⟩), .map (some B1), .pointer (some ⟨w.heap.size + 1, 0, none⟩), .int .i64 id, .int .i64 (f1 (.int .i64 id)), .int .i64 (wrap64 (f1 (.int .i64 id) + 1)), .agg #[.int .i64 id, .slice A xs.length c], .func (.func 68) #[] #[.pointer (some ⟨W2.heap.size, 0, none⟩)], .agg #[.string x.1.f0, .int .i64 x.1.f1, .int .i64 x.1.f2], undef, undef, undef, undef, undef, undef, undef, undef, undef, undef, undef, undef, undef, undef, undef], defers := [] })
    (fun x a' _ X Y row hs hg hr => by
      obtain ⟨Bx, h1, h2, h3⟩ := hs
      refine ⟨Bx, h1, (hg.block Bx (Array.getElem?_eq_some_iff.1 h2).1 (fun e => ?_)).trans h2, h3⟩
      obtain ⟨_, o, ho, hcc⟩ := hr Bx e.symm
      rw [h2] at ho
      cases ho
      cases hcc)
    ?assign ?body ?done ?stop
  case assign =>
    rintro l pre x W K ⟨⟨h1, h2⟩, ⟨h3, h4⟩, h5, h6⟩ hK
    dsimp only [legEnc]
    gi_wp2
    exact hK _ _ ((KeepsOthers.alloc _ _).from _) ((Below.refl _ W).alloc (Nat.le_trans hB0.size h5) _) ⟨⟨(Below.heap_alloc _ _ _ (Array.getElem?_eq_some_iff.1 h1).1).trans h1, (Below.heap_alloc _ _ _ (Array.getElem?_eq_some_iff.1 h2).1).trans h2⟩, ⟨h3.alloc _, h4.alloc _⟩, Nat.le_trans h5 (by simp), h6.alloc (Nat.le_trans hB0.size h5) _⟩ ⟨W.heap.size, h5, heap_alloc_new W _, rfl⟩
  case body =>
      rintro l pre x a' W hl ⟨rr, hrr⟩ ⟨⟨h1, h2⟩, ⟨h3, h4⟩, h5, h6⟩ ⟨Bx, hBx, bX, rfl⟩ hlt
      have hm2 := M2'.lt
      have hG0 : G < W0.heap.size := (Array.getElem?_eq_some_iff.1 rG0).1
      have hb0 : w.heap.size < W0.heap.size := (Array.getElem?_eq_some_iff.1 rB0).1
      have x0 : W.cell? ⟨Bx, 0, none⟩ = some (.string x.1.f0) := (cell_of_row W _ 0 _ _ _ bX).trans rfl
      have x1 : W.cell? ⟨Bx, 1, none⟩ = some (.int .i64 x.1.f1) := (cell_of_row W _ 1 _ _ _ bX).trans rfl
      have x2 : W.cell? ⟨Bx, 2, none⟩ = some (.int .i64 x.1.f2) := (cell_of_row W _ 2 _ _ _ bX).trans rfl
      have d2 : W.cell? ⟨G, 2, none⟩ = some (.map (some B2)) := (cell_of_row W _ 2 _ _ _ h1).trans rfl
      have g0 : W.cell? ⟨w.heap.size, 0, none⟩ = some (.pointer (some ⟨G, 0, none⟩)) := (cell_of_row W _ 0 _ _ _ h2).trans rfl
      have hsk := side_key x.1.f0 x.1.f1 x.2.1 x.2.2
      have hnl : n2 + pre.length < maxLen := by have := HSL.out; have := HN2.out; unfold maxLen; omega
      obtain ⟨old, hold⟩ : ∃ old, balsF f2 (pre.map (fun y : LegW => y.1)) (sideLit x.1.f0 x.1.f1) = old := ⟨_, rfl⟩
      have look0 := h4.drew.look side_keyed Try.underlying71 hsk
      rw [hold] at look0
      obtain ⟨v0, st, W4, r4, m4, hgr4, hst⟩ := h4.drew.entry side_law Try.underlying71 hnl hsk
      obtain ⟨W5, r5, m5, hgr5⟩ := hst (wrap64 (old + x.1.f2)) (wrap64_wf _)
      have l4 := m4.look side_keyed Try.underlying71 hsk
      rw [hold] at l4
      replace r4 : (Instr.mapEntry 71 (.map (some B2)) (.agg #[.string x.1.f0, .int .i64 x.1.f1])).run Try.prog W.drew = .ok (.tuple #[v0, .int .i64 st]) W4 := r4
      replace r5 : (Instr.entryStore 71 (.map (some B2)) (.int .i64 st) (.int .i64 (wrap64 (old + x.1.f2)))).run Try.prog W4 = .ok () W5 := r5
      have HOLD := Aside0.mk hold
      have HM5 := Aside0.mk m5
      have H1 := Aside0.mk h1
      have H2 := Aside0.mk h2
      have HM3 := Aside0.mk h3
      clear hold m5 h1 h2 h3 h4 m4 hst
      gi_wp2
      refine startR_ (n := 16) (S := fun w' => w'.cell? ⟨w.heap.size, 0, none⟩ = some (.pointer (some ⟨G, 0, none⟩)) ∧ w'.cell? ⟨G, 2, none⟩ = some (.map (some B2)) ∧ w'.cell? ⟨Bx, 0, none⟩ = some (.string x.1.f0) ∧ w'.cell? ⟨Bx, 1, none⟩ = some (.int .i64 x.1.f1) ∧ w'.cell? ⟨Bx, 2, none⟩ = some (.int .i64 x.1.f2) ∧ (Instr.lookup 71 (.map (some B2)) (.agg #[.string x.1.f0, .int .i64 x.1.f1]) false).run Try.prog w' = .ok (.int .i64 old) w') (ds := [15]) #[false, false, false, false, false, false, false, false, false, false, false, false, false, false, false, false] (by kernel_rfl) rfl rfl (fun _ _ h => h) (by kernel_rfl) ⟨g0, d2, x0, x1, x2, look0⟩ (fun hHeld => ?_)
      refine take_ (i := 0) (N := some 23) (v := ?_) (a' := ?_) #[true, false, false, false, false, false, false, false, false, false, false, false, false, false, false, false] rfl rfl (by kernel_rfl) (fun _ _ _ h => h) (Or.inl ⟨by rfl, ?_⟩) hHeld ?_ ?_
      rotate_left
      · rintro w' ⟨s0, s1, s2, s3, s4, s5⟩
        go_simp
        with_reducible rfl
      rotate_left
      · simp only [Act.put, List.setIfInBounds_toArray, List.set_cons_zero, List.set_cons_succ, i64_w, i32_w]
        rfl
      refine pure_ (i := 1) (N := some 24) (v := ?_) (a' := ?_) #[true, true, false, false, false, false, false, false, false, false, false, false, false, false, false, false] rfl rfl (by kernel_rfl) (fun _ _ _ h => h) (Or.inl ⟨by rfl, ?_⟩) ?_ ?_
      rotate_left
      · intro w'
        go_simp
        with_reducible rfl
      rotate_left
      · simp only [Act.put, List.setIfInBounds_toArray, List.set_cons_zero, List.set_cons_succ, i64_w, i32_w]
        rfl
      refine pure_ (i := 2) (N := some 25) (v := ?_) (a' := ?_) #[true, true, true, false, false, false, false, false, false, false, false, false, false, false, false, false] rfl rfl (by kernel_rfl) (fun _ _ _ h => h) (Or.inl ⟨by rfl, ?_⟩) ?_ ?_
      rotate_left
      · intro w'
        go_simp
        with_reducible rfl
      rotate_left
      · simp only [Act.put, List.setIfInBounds_toArray, List.set_cons_zero, List.set_cons_succ, i64_w, i32_w]
        rfl
      refine take_ (i := 3) (N := some 26) (v := ?_) (a' := ?_) #[true, true, true, true, false, false, false, false, false, false, false, false, false, false, false, false] rfl rfl (by kernel_rfl) (fun _ _ _ h => h) (Or.inl ⟨by rfl, ?_⟩) hHeld ?_ ?_
      rotate_left
      · rintro w' ⟨s0, s1, s2, s3, s4, s5⟩
        go_simp
        with_reducible rfl
      rotate_left
      · simp only [Act.put, List.setIfInBounds_toArray, List.set_cons_zero, List.set_cons_succ, i64_w, i32_w]
        rfl
      refine pure_ (i := 4) (N := some 27) (v := ?_) (a' := ?_) #[true, true, true, true, true, false, false, false, false, false, false, false, false, false, false, false] rfl rfl (by kernel_rfl) (fun _ _ _ h => h) (Or.inl ⟨by rfl, ?_⟩) ?_ ?_
      rotate_left
      · intro w'
        go_simp
        with_reducible rfl
      rotate_left
      · simp only [Act.put, List.setIfInBounds_toArray, List.set_cons_zero, List.set_cons_succ, i64_w, i32_w]
        rfl
      refine take_ (i := 5) (N := some 28) (v := ?_) (a' := ?_) #[true, true, true, true, true, true, false, false, false, false, false, false, false, false, false, false] rfl rfl (by kernel_rfl) (fun _ _ _ h => h) (Or.inl ⟨by rfl, ?_⟩) hHeld ?_ ?_
      rotate_left
      · rintro w' ⟨s0, s1, s2, s3, s4, s5⟩
        go_simp
        with_reducible rfl
      rotate_left
      · simp only [Act.put, List.setIfInBounds_toArray, List.set_cons_zero, List.set_cons_succ, i64_w, i32_w]
        rfl
      refine pure_ (i := 6) (N := some 29) (v := ?_) (a' := ?_) #[true, true, true, true, true, true, true, false, false, false, false, false, false, false, false, false] rfl rfl (by kernel_rfl) (fun _ _ _ h => h) (Or.inl ⟨by rfl, ?_⟩) ?_ ?_
      rotate_left
      · intro w'
        go_simp
        with_reducible rfl
      rotate_left
      · simp only [Act.put, List.setIfInBounds_toArray, List.set_cons_zero, List.set_cons_succ, i64_w, i32_w]
        rfl
      refine take_ (i := 7) (N := some 30) (v := ?_) (a' := ?_) #[true, true, true, true, true, true, true, true, false, false, false, false, false, false, false, false] rfl rfl (by kernel_rfl) (fun _ _ _ h => h) (Or.inl ⟨by rfl, ?_⟩) hHeld ?_ ?_
      rotate_left
      · rintro w' ⟨s0, s1, s2, s3, s4, s5⟩
        go_simp
        with_reducible rfl
      rotate_left
      · simp only [Act.put, List.setIfInBounds_toArray, List.set_cons_zero, List.set_cons_succ, i64_w, i32_w]
        rfl
      refine pure_ (i := 8) (N := some 31) (v := ?_) (a' := ?_) #[true, true, true, true, true, true, true, true, true, false, false, false, false, false, false, false] rfl rfl (by kernel_rfl) (fun _ _ _ h => h) (Or.inl ⟨by rfl, ?_⟩) ?_ ?_
      rotate_left
      · intro w'
        go_simp
        with_reducible rfl
      rotate_left
      · simp only [Act.put, List.setIfInBounds_toArray, List.set_cons_zero, List.set_cons_succ, i64_w, i32_w]
        rfl
      refine take_ (i := 9) (N := some 32) (v := ?_) (a' := ?_) #[true, true, true, true, true, true, true, true, true, true, false, false, false, false, false, false] rfl rfl (by kernel_rfl) (fun _ _ _ h => h) (Or.inl ⟨by rfl, ?_⟩) hHeld ?_ ?_
      rotate_left
      · rintro w' ⟨s0, s1, s2, s3, s4, s5⟩
        go_simp
        with_reducible rfl
      rotate_left
      · simp only [Act.put, List.setIfInBounds_toArray, List.set_cons_zero, List.set_cons_succ, i64_w, i32_w]
        rfl
      refine pure_ (i := 10) (N := some 33) (v := ?_) (a' := ?_) #[true, true, true, true, true, true, true, true, true, true, true, false, false, false, false, false] rfl rfl (by kernel_rfl) (fun _ _ _ h => h) (Or.inl ⟨by rfl, ?_⟩) ?_ ?_
      rotate_left
      · intro w'
        go_simp
        with_reducible rfl
      rotate_left
      · simp only [Act.put, List.setIfInBounds_toArray, List.set_cons_zero, List.set_cons_succ, i64_w, i32_w]
        rfl
      refine take_ (i := 11) (N := some 34) (v := ?_) (a' := ?_) #[true, true, true, true, true, true, true, true, true, true, true, true, false, false, false, false] rfl rfl (by kernel_rfl) (fun _ _ _ h => h) (Or.inl ⟨by rfl, ?_⟩) hHeld ?_ ?_
      rotate_left
      · rintro w' ⟨s0, s1, s2, s3, s4, s5⟩
        go_simp
        with_reducible rfl
      rotate_left
      · simp only [Act.put, List.setIfInBounds_toArray, List.set_cons_zero, List.set_cons_succ, i64_w, i32_w]
        rfl
      refine pure_ (i := 12) (N := some 35) (v := ?_) (a' := ?_) #[true, true, true, true, true, true, true, true, true, true, true, true, true, false, false, false] rfl rfl (by kernel_rfl) (fun _ _ _ h => h) (Or.inl ⟨by rfl, ?_⟩) ?_ ?_
      rotate_left
      · intro w'
        go_simp
        with_reducible rfl
      rotate_left
      · simp only [Act.put, List.setIfInBounds_toArray, List.set_cons_zero, List.set_cons_succ, i64_w, i32_w]
        rfl
      refine one_ (i := 13) (N := some 36) #[true, true, true, true, true, true, true, true, true, true, true, true, true, true, false, false] rfl rfl (by kernel_rfl) (by decide) (fun K hK => ?_)
      refine val_ (v := .tuple #[v0, .int .i64 st]) (w1 := W4) (by rfl) rfl ?_ ?_
      · go_simp
        try rfl
      have cg4 : ∀ {b o : Nat} {v : Value}, b ≠ B2 → W.cell? ⟨b, o, none⟩ = some v → W4.cell? ⟨b, o, none⟩ = some v := fun hne h => (cell_grown hgr4 h hne)
      refine hK.out _ _ ⟨cg4 (by omega) g0, cg4 hG2 d2, cg4 (by omega) x0, cg4 (by omega) x1, cg4 (by omega) x2, l4⟩ (fun hHeld => ?_)
      clear hK K
      refine norm_ (a' := ?_) ?_ ?_
      rotate_left
      · show Act.put _ (some 36) _ = _
        simp only [Act.put, List.setIfInBounds_toArray, List.set_cons_zero, List.set_cons_succ, i64_w, i32_w]
        rfl
      refine pure_ (i := 14) (N := some 37) (v := ?_) (a' := ?_) #[true, true, true, true, true, true, true, true, true, true, true, true, true, true, true, false] rfl rfl (by kernel_rfl) (fun _ _ _ h => h) (Or.inl ⟨by rfl, ?_⟩) ?_ ?_
      rotate_left
      · intro w'
        go_simp
        with_reducible rfl
      rotate_left
      · simp only [Act.put, List.setIfInBounds_toArray, List.set_cons_zero, List.set_cons_succ, i64_w, i32_w]
        rfl
      refine last_ (i := 15) (N := none) #[true, true, true, true, true, true, true, true, true, true, true, true, true, true, true, true] rfl rfl (by kernel_rfl) (by decide) (fun K hK => ?_)
      refine skip_ (w1 := W5) (by rfl) rfl ?_ ?_
      · go_simp
        try rfl
      refine hK.out _ _ ?_
      clear hK K
      refine done_ (by kernel_rfl) ?_
      gi_wp2
      have hgr : W.grownBy W5 (some B2) := ⟨hgr5.os.trans hgr4.os, hgr5.tape.trans hgr4.tape, hgr5.output.trans hgr4.output, Nat.le_trans hgr4.size hgr5.size, fun i hi hne => (hgr5.block i (Nat.lt_of_lt_of_le hi hgr4.size) hne).trans (hgr4.block i hi hne)⟩
      refine ⟨KeepsFrom.of_grownBy hgr (fun j e => by cases e; exact hm2), (Below.refl _ W).grown hgr (Nat.le_trans hB0.size h5) (fun j e => by cases e; exact hB2n), ⟨(hgr.block _ (by omega) (fun e => hG2 (Option.some.inj e))).trans H1.out, (hgr.block _ (by omega) (fun e => by have := Option.some.inj e; omega)).trans H2.out⟩, ⟨HM3.out.kept hgr (fun e => hB12 (Option.some.inj e)), ?_⟩, Nat.le_trans h5 hgr.size, h6.grown hgr (Nat.le_trans hB0.size h5) (fun j e => by cases e; exact hB2n)⟩
      have := HM5.out
      rw [← HOLD.out] at this
      show IntMap W5 75 B2 (n2 + (pre ++ [x]).length) (balsF f2 ((pre ++ [x]).map (fun y : LegW => y.1)))
      rw [List.map_append, List.map_cons, List.map_nil, balsF_snoc, List.length_append]
      exact this
  case done =>
    rintro D zs W hD rfl ⟨⟨h1, h2⟩, ⟨h3, h4⟩, h5, h6⟩ hK
    have hD2 : W0.heap.size ≤ D := hD
    have hG0 : G < W0.heap.size := (Array.getElem?_eq_some_iff.1 rG0).1
    have hm1 := M1'.lt
    have hm2 := M2'.lt
    have H1 := Aside0.mk h1
    have H3 := Aside0.mk h3
    have H4 := Aside0.mk h4
    have H6 := Aside0.mk h6
    have HK := Aside0.mk hK
    have hgK := grownBy_putObj' W D (.deferred none)
    clear h1 h2 h3 h4 h6 hK
    gi_wp2
    refine ⟨by simp, .inl ⟨_, _, rfl, run_takeDeferred HK.out, ?_⟩⟩
    exact ⟨_, results_none rfl _ _ _, rfl, (hgK.block _ (by omega) (fun e => by have := Option.some.inj e; omega)).trans H1.out, H3.out.kept hgK (fun e => by have := Option.some.inj e; omega), (H4.out.mono (by have := HSL.out; omega)).kept hgK (fun e => by have := Option.some.inj e; omega), H6.out.grown hgK (Nat.le_trans hB0.size h5) (fun j e => by cases e; exact Nat.le_trans hB0.size hD2)⟩
  case stop =>
    rintro D c pre W _ _ h _
    exact h.elim
end

/-! ### impl_ledgerOf: function 45 -/
section
/-! #### The ledger of some postings, told in plain lists -/
def idsOf (done : List S52) (id : Int) : Int := done.foldl (fun s p => if p.f0 = id then wrap64 (s + 1) else s) 0
def balOf (legs : List S77) (a : ByteArray) (c : Int) : Int := legs.foldl (fun s x => if x.f0.toList = a.toList ∧ x.f1 = c then wrap64 (s + x.f2) else s) 0
def farP (legs sel : List S77) (x : S77) : Bool := decide (wrap64 (balOf legs x.f0 x.f1 + sumTo x.f0 x.f1 sel) > 2000) || decide (wrap64 (balOf legs x.f0 x.f1 + sumTo x.f0 x.f1 sel) < -2000)
def codeP (done : List S52) (legs : List S77) (id : Int) (fair : Bool) (sel : List S77) : Int :=
  if fair = true then (if idsOf done id > 0 then 2 else if sel.any (farP legs sel) = true then 3 else if (done.length : Int) ≥ 40 then 4 else 0) else 1
def ledP (k : Nat) : List S52 → List S52 → List S77 → Option (Bool × List S52 × List S77)
  | [], done, legs => some (true, done, legs)
  | p :: r, done, legs => (impl_PostFair.f k p.f0 p.f1).bind fun fair => (impl_PostOk.f k p.f0 p.f1).bind fun ok => if codeP done legs p.f0 fair (selLegs ok p.f1) = 0 then ledP k r (done ++ [p]) (legs ++ selLegs ok p.f1) else some (false, done, legs)
def okLeg (x : S77) : Bool := decide (x.f0.size ≤ 9223372036854775807) && (Lit.int .i64 x.f1).wf
def okPost (p : S52) : Bool := (Lit.int .i64 p.f0).wf && decide (p.f1.length ≤ 1048576) && p.f1.all okLeg
def ledR (k : Nat) (xs : List S52) : Option (Bool × List S52 × List S77) := if xs.all okPost = true then (if xs.length > 40 then some (false, [], []) else ledP k xs [] []) else none
theorem idsOf_snoc (done : List S52) (p : S52) (id : Int) : idsOf (done ++ [p]) id = if p.f0 = id then wrap64 (idsOf done id + 1) else idsOf done id := by simp [idsOf]
theorem balOf_snoc (legs : List S77) (x : S77) (a : ByteArray) (c : Int) : balOf (legs ++ [x]) a c = if x.f0.toList = a.toList ∧ x.f1 = c then wrap64 (balOf legs a c + x.f2) else balOf legs a c := by simp [balOf]
theorem bytes_eq {s t : ByteArray} : s = t ↔ s.toList = t.toList := by
  constructor
  · intro h; rw [h]
  · intro h
    rw [ByteArray.toList_eq, ByteArray.toList_eq] at h
    exact ByteArray.ext (Array.toList_inj.1 h)
/-- What the two maps hold, in those words. -/
def HoldsIds (f1 : Lit → Int) (done : List S52) : Prop := ∀ id, (Lit.int .i64 id).wf = true → f1 (.int .i64 id) = idsOf done id
def HoldsBals (f2 : Lit → Int) (legs : List S77) : Prop := ∀ (a : ByteArray) (c : Int), a.size ≤ maxLen → (Lit.int .i64 c).wf = true → f2 (sideLit a c) = balOf legs a c
theorem HoldsIds.put {f1 : Lit → Int} {done : List S52} (h : HoldsIds f1 done) (p : S52) (hp : (Lit.int .i64 p.f0).wf = true) : HoldsIds (putAt f1 (.int .i64 p.f0) (wrap64 (f1 (.int .i64 p.f0) + 1))) (done ++ [p]) := by
  intro id hid
  rw [idsOf_snoc]
  unfold putAt
  by_cases e : p.f0 = id
  · subst e
    rw [if_pos rfl, if_pos rfl, h _ hp]
  · rw [if_neg (fun g => e (by injection g with _ g; exact g.symm)), if_neg e, h _ hid]
theorem HoldsBals.put {f2 : Lit → Int} {legs : List S77} (h : HoldsBals f2 legs) : ∀ ys : List LegW, HoldsBals (balsF f2 (ys.map (fun y : LegW => y.1))) (legs ++ ys.map (fun y : LegW => y.1)) := by
  have key : ∀ (r ys : List LegW), ys.reverse = r → HoldsBals (balsF f2 (ys.map (fun y : LegW => y.1))) (legs ++ ys.map (fun y : LegW => y.1)) := by
    intro r
    induction r with
    | nil =>
      intro ys hy
      obtain rfl : ys = [] := by simpa using hy
      simpa [balsF] using h
    | cons x r ih =>
      intro ys hy
      have hys : ys = r.reverse ++ [x] := by
        have := congrArg List.reverse hy
        simpa using this
      have hr := ih r.reverse (by simp)
      intro a c ha hc
      rw [hys, List.map_append, List.map_cons, List.map_nil, balsF_snoc, ← List.append_assoc, balOf_snoc]
      unfold putAt
      by_cases e : x.1.f0.toList = a.toList ∧ x.1.f1 = c
      · have e1 : x.1.f0 = a := bytes_eq.2 e.1
        have e2 := e.2
        rw [if_pos e, if_pos (by rw [e1, e2]), e1, e2, hr a c ha hc]
      · rw [if_neg e, if_neg (fun g => e (by
          obtain ⟨e1, e2⟩ := sideLit_inj ha x.2.1 hc x.2.2 g
          exact ⟨by rw [e1], e2.symm⟩)), hr a c ha hc]
  exact fun ys => key _ ys rfl
theorem codeP_eq {f1 f2 : Lit → Int} {done : List S52} {legs : List S77} (h1 : HoldsIds f1 done) (h2 : HoldsBals f2 legs) (id : Int) (hid : (Lit.int .i64 id).wf = true) (fair : Bool) (ys : List LegW) (cnt : Int) (hc : cnt = (done.length : Int)) :
    codeB f1 f2 cnt id fair (ys.map (fun y : LegW => y.1)) = codeP done legs id fair (ys.map (fun y : LegW => y.1)) := by
  have e : ∀ (sel : List S77) (zs : List LegW), overB f2 sel (zs.map (fun y : LegW => y.1)) = (zs.map (fun y : LegW => y.1)).any (farP legs sel) := by
    intro sel zs
    induction zs with
    | nil => rfl
    | cons z zs ih =>
      unfold overB at ih ⊢
      rw [List.map_cons, List.any_cons, List.any_cons, ih]
      unfold farB farP
      rw [h2 _ _ z.2.1 z.2.2]
  unfold codeB codeP
  rw [h1 id hid, e, hc]
theorem okLegs {p : S52} (h : okPost p = true) : ∃ ys : List LegW, ys.map (fun y : LegW => y.1) = p.f1 := by
  unfold okPost at h
  simp only [Bool.and_eq_true, List.all_eq_true] at h
  refine ⟨p.f1.attach.map (fun y => ⟨y.1, ?_⟩), by simp⟩
  have := h.2 y.1 y.2
  unfold okLeg at this
  simp only [Bool.and_eq_true, decide_eq_true_eq] at this
  exact ⟨by unfold maxLen; exact this.1, this.2⟩
end
section
set_option maxRecDepth 100000 in
set_option maxHeartbeats 4000000 in
theorem ledgerOf_calls (k : Nat) (A : Option Addr) (c : Nat) (xs : List (S52)) (r : Bool) (done : List S52) (legs : List S77) (w : World) (hr0 : Kd.C k52 w A xs.length xs) (hc0 : xs.length ≤ c) (h : ledR k xs = some (r, done, legs)) :
    Calls Try.prog 45 #[.slice A xs.length c] w fun e w' => ∃ (G B1 B2 n1 n2 : Nat) (f1 f2 : Lit → Int), e = .returned (.tuple #[.pointer (some ⟨G, 0, none⟩), .bool r]) ∧ (w'.heap[G]? = some (.cells #[.int .i64 (done.length : Int), .map (some B1), .map (some B2)] 73 (0, 0)) ∧ IntMap w' 3 B1 n1 f1 ∧ IntMap w' 75 B2 n2 f2) ∧ (HoldsIds f1 done ∧ HoldsBals f2 legs) ∧ Below w.heap.size w w' := by
  have hmm := @run_makeMap Try.prog
  have HR := Aside0.mk hr0
  have HC := Aside0.mk hc0
  have hlen : xs.length ≤ 9223372036854775807 := hr0.2.1
  unfold ledR at h
  have hok : xs.all okPost = true := by
    by_cases e : xs.all okPost = true
    · exact e
    · rw [if_neg e] at h; cases h
  rw [if_pos hok] at h
  have HOK := Aside0.mk hok
  have hG := heap_alloc_new ((w.alloc (.map #[] 0)).alloc (.map #[] 0)) (.cells #[.int .i64 0, .map (some w.heap.size), .map (some (w.heap.size + 1))] 73)
  have hM1 := ((IntMap.made w 3).alloc (.map #[] 0)).alloc (.cells #[.int .i64 0, .map (some w.heap.size), .map (some (w.heap.size + 1))] 73)
  have hM2 := (IntMap.made (w.alloc (.map #[] 0)) 75).alloc (.cells #[.int .i64 0, .map (some w.heap.size), .map (some (w.heap.size + 1))] 73)
  have hBel : Below w.heap.size w (((w.alloc (.map #[] 0)).alloc (.map #[] 0)).alloc (.cells #[.int .i64 0, .map (some w.heap.size), .map (some (w.heap.size + 1))] 73)) := (((Below.refl _ w).alloc (Nat.le_refl _) _).alloc (by simp) _).alloc (by simp; omega) _
  simp only [World.size_alloc] at hG hM1 hM2
  have h01 : HoldsIds (fun _ => 0) [] := fun _ _ => rfl
  have h02 : HoldsBals (fun _ => 0) [] := fun _ _ _ _ => rfl
  have HG := Aside0.mk hG
  have HM1 := Aside0.mk hM1
  have HM2 := Aside0.mk hM2
  have HBEL := Aside0.mk hBel
  have H01 := Aside0.mk h01
  have H02 := Aside0.mk h02
  clear hr0 hc0 hok hG hM1 hM2 hBel h01 h02
  by_cases h40 : xs.length > 40
  · rw [if_pos h40] at h
    obtain ⟨rfl, rfl, rfl⟩ : false = r ∧ [] = done ∧ [] = legs := by simpa using h
    have d1 : decide ((40 : Int) < (xs.length : Int)) = true := decide_eq_true (by omega)
    have d2 : decide (40 < xs.length) = true := decide_eq_true h40
    clear h h40
    go_enter Try.func45, Try.ntmps45
    go_wp2
    go_ret2
    exact ⟨_, _, _, _, _, _, _, rfl, ⟨HG.out, HM1.out, HM2.out⟩, ⟨H01.out, H02.out⟩, HBEL.out⟩
  · rw [if_neg h40] at h
    have d1 : decide ((40 : Int) < (xs.length : Int)) = false := decide_eq_false (by omega)
    have d2 : decide (40 < xs.length) = false := decide_eq_false h40
    have H := Aside0.mk h
    have H40 := Aside0.mk h40
    clear h h40
    go_enter Try.func45, Try.ntmps45
    go_wp2
    go_loopw [17] (fun i wr => ∃ (pre rest : List S52) (lg : List S77) (f1 f2 : Lit → Int), i = .int .i64 (pre.length : Nat) ∧ (xs = pre ++ rest ∧ ledP k rest pre lg = some (r, done, legs)) ∧ (wr.heap[w.heap.size + 1 + 1]? = some (.cells #[.int .i64 (pre.length : Int), .map (some w.heap.size), .map (some (w.heap.size + 1))] 73 (0, 0)) ∧ IntMap wr 3 w.heap.size pre.length f1 ∧ IntMap wr 75 (w.heap.size + 1) (pre.length * 1048576) f2) ∧ (HoldsIds f1 pre ∧ HoldsBals f2 lg) ∧ Below w.heap.size w wr) (fun i _ => xs.length - (intOf i).toNat)
    case atStart => exact ⟨[], xs, [], fun _ => 0, fun _ => 0, rfl, ⟨rfl, H.out⟩, ⟨HG.out, HM1.out, HM2.out⟩, ⟨H01.out, H02.out⟩, HBEL.out⟩
    case round =>
      obtain ⟨pre, rest, lg, f1, f2, rfl, ⟨hx, hled⟩, ⟨hG, hM1, hM2⟩, ⟨hI, hS⟩, hB⟩ := hrel
      cases rest with
      | nil =>
        have hl : pre.length = xs.length := by rw [hx]; simp
        have d3 : decide ((pre.length : Int) < (xs.length : Int)) = false := decide_eq_false (by omega)
        have d4 : decide (pre.length < xs.length) = false := decide_eq_false (by omega)
        obtain ⟨rfl, rfl, rfl⟩ : true = r ∧ pre = done ∧ lg = legs := by simpa [ledP] using hled
        have KG := Aside0.mk hG
        have KB := Aside0.mk hB
        clear hx hl hled hG hB
        go_wp2
        go_ret2
        exact ⟨_, _, _, _, _, _, _, rfl, ⟨KG.out, hM1, hM2⟩, ⟨hI, hS⟩, KB.out⟩
      | cons p rest =>
        have hl : xs.length = pre.length + (rest.length + 1) := by rw [hx]; simp
        have hp : okPost p = true := List.all_eq_true.1 HOK.out p (by rw [hx]; simp)
        have hxx : rd_T52 xs (pre.length : Int) = p := by rw [hx]; simp [rd_T52]
        have q0 : (0 : Int) ≤ (pre.length : Int) := by omega
        have q1 : (pre.length : Int) < (xs.length : Int) := by omega
        obtain ⟨ad, A1, c1, e0, e1, e2, e3, e4⟩ := at_T52 HR.out (pre.length : Int) q0 q1
        rw [hxx, Int.toNat_natCast] at e1
        rw [hxx, Int.toNat_natCast] at e2
        rw [hxx] at e3 e4
        replace e1 := (hB.cell (World.block_lt_of_cell? w _ e1)).trans e1
        replace e2 := (hB.cell (World.block_lt_of_cell? w _ e2)).trans e2
        cases e0
        obtain ⟨ys, hys⟩ := okLegs hp
        have hyl : p.f1.length = ys.length := by rw [← hys]; simp
        rw [hyl] at e2 e3 e4
        rw [← hys] at e4
        have hpw : (Lit.int .i64 p.f0).wf = true ∧ ys.length ≤ 1048576 := by
          unfold okPost at hp
          simp only [Bool.and_eq_true, decide_eq_true_eq] at hp
          exact ⟨hp.1.1, by rw [← hyl]; exact hp.1.2⟩
        simp only [ledP] at hled
        obtain ⟨fair, hfair, hled⟩ := Option.bind_eq_some_iff.1 hled
        obtain ⟨ok, hok, hled⟩ := Option.bind_eq_some_iff.1 hled
        rw [← hys] at hfair hok hled
        have hsel : selLegs ok (ys.map (fun y : LegW => y.1)) = (selLegs ok ys).map (fun y : LegW => y.1) := by cases ok <;> rfl
        have hGl : w.heap.size + 1 + 1 < wr.heap.size := (Array.getElem?_eq_some_iff.1 hG).1
        obtain ⟨sel, hsl⟩ : ∃ sel, selLegs ok (ys.map (fun y : LegW => y.1)) = sel := ⟨_, rfl⟩
        obtain ⟨code, hcode⟩ : ∃ code, codeP pre lg p.f0 fair sel = code := ⟨_, rfl⟩
        have hcB : code = codeB f1 f2 (pre.length : Int) p.f0 fair sel := by
          rw [← hcode, ← hsl, hsel]
          exact (codeP_eq hI hS p.f0 hpw.1 fair _ _ rfl).symm
        rw [hsl, hcode] at hled
        have hck : ∀ W, Below wr.heap.size wr W → Calls Try.prog 65 #[.pointer (some ⟨w.heap.size + 1 + 1, 0, none⟩), .agg #[.int .i64 p.f0, .slice A1 ys.length c1]] W fun e w' => e = .returned (errV code) ∧ Below W.heap.size W w' := by
          intro W hW
          exact check_calls k _ _ _ _ _ _ f1 f2 p.f0 A1 c1 ys W ((hW.block _ hGl).trans hG) (hM1.below hW hM1.lt) (hM2.below hW hM2.lt) (Kd.C_below e4 (hB.trans (hW.mono hB.size))) e3 hpw.1 hpw.2 fair ok hfair hok sel hsl code hcB
        have hadd : ∀ W, Below wr.heap.size wr W → Calls Try.prog 66 #[.pointer (some ⟨w.heap.size + 1 + 1, 0, none⟩), .agg #[.int .i64 p.f0, .slice A1 ys.length c1]] W fun e w' => e = .returned (.tuple #[]) ∧ w'.heap[w.heap.size + 1 + 1]? = some (.cells #[.int .i64 (wrap64 ((pre.length : Int) + 1)), .map (some w.heap.size), .map (some (w.heap.size + 1))] 73 (0, 0)) ∧
            IntMap w' 3 w.heap.size (pre.length + 1) (putAt f1 (.int .i64 p.f0) (wrap64 (f1 (.int .i64 p.f0) + 1))) ∧ IntMap w' 75 (w.heap.size + 1) (pre.length * 1048576 + ys.length) (balsF f2 ((selLegs ok ys).map (fun y : LegW => y.1))) ∧ Below w.heap.size W w' := by
          intro W hW
          have h40 := H40.out
          exact add_calls k _ _ _ _ _ _ f1 f2 p.f0 A1 c1 ys w W ((hW.block _ hGl).trans hG) (hM1.below hW hM1.lt) (hM2.below hW hM2.lt) (by omega) (by omega) (by omega) (by omega) (by omega) (by omega) (hB.trans (hW.mono hB.size)) e4 e3 hpw.1 ok hok
        have d3 : decide ((pre.length : Int) < (xs.length : Int)) = true := decide_eq_true q1
        have d4 : decide (pre.length < xs.length) = true := decide_eq_true (by omega)
        have KG := Aside0.mk hG
        have KB := Aside0.mk hB
        have KL := Aside0.mk hl
        have KX := Aside0.mk hx
        have KP := Aside0.mk hpw
        have KS := Aside0.mk hsel
        have KSL := Aside0.mk hsl
        have KLED := Aside0.mk hled
        have KI := Aside0.mk hI
        have KSS := Aside0.mk hS
        have KM1 := Aside0.mk hM1
        have KM2 := Aside0.mk hM2
        have KADD := Aside0.mk hadd
        have hsz : w.heap.size ≤ wr.heap.size := hB.size
        have p0' : decide ((0 : Int) ≤ (pre.length : Int)) = true := decide_eq_true q0
        clear hG hB hl hx hp hxx hys hyl hpw hfair hok hled hsel hcB hI hS hM1 hM2 hadd e3 e4 hsl
        by_cases hz : code = 0
        · have hev : errV code = .nilIface := by unfold errV; rw [if_pos hz]
          rw [hev] at hck
          have KZ := Aside0.mk hz
          have KCK := Aside0.mk hck
          clear hev hz hck hcode
          go_wp2_with (first
            | (go_at_call 65; refine (KCK.out _ ?hB1).mono ?_; (case hB1 => exact (Below.refl _ _).alloc (Nat.le_refl _) _); rintro e w1 ⟨rfl, hb1⟩; obtain ⟨hc1, hf1⟩ := bcell hb1)
            | (go_at_call 66; refine (KADD.out _ ?hB2).mono ?_; (case hB2 => exact ((Below.refl _ _).alloc (Nat.le_refl _) _).trans (hb1.mono (by simp))); rintro e w2 ⟨rfl, g1, g2, g3, g4⟩; have G1 := Aside0.mk g1; clear g1))
          have h40 := H40.out
          have hl := KL.out
          have hW : Below wr.heap.size wr w1 := ((Below.refl _ _).alloc (Nat.le_refl _) _).trans (hb1.mono (by simp))
          have hw64 : wrap64 ((pre.length : Int) + 1) = ((pre ++ [p]).length : Int) := by
            unfold wrap64
            rw [List.length_append, List.length_singleton]
            omega
          have G2 := G1.out
          rw [hw64] at G2
          have hled := KLED.out
          rw [if_pos KZ.out] at hled
          have hbal := KSS.out.put (selLegs ok ys)
          rw [← KS.out, KSL.out] at hbal
          rw [← KS.out, KSL.out] at g3
          refine ⟨⟨pre ++ [p], rest, lg ++ sel, _, _, by simp, ⟨by rw [KX.out]; simp, hled⟩, ⟨G2, ?_, ?_⟩, ⟨KI.out.put p KP.out.1, hbal⟩, (KB.out.trans (hW.mono KB.out.size)).trans g4⟩, ?_⟩
          · rw [List.length_append, List.length_singleton]; exact g2
          · exact g3.mono (by rw [List.length_append, List.length_singleton]; have := KP.out.2; omega)
          · simp [intOf]; omega
        · have hev : errV code = .iface 121 (.agg #[.int .i64 code]) := by unfold errV; rw [if_neg hz]
          rw [hev] at hck
          have KZ := Aside0.mk hz
          have KCK := Aside0.mk hck
          clear hev hz hck hcode
          go_wp2_with (go_at_call 65; refine (KCK.out _ ?hB1).mono ?_; (case hB1 => exact (Below.refl _ _).alloc (Nat.le_refl _) _); rintro e w1 ⟨rfl, hb1⟩)
          go_ret2
          have hled := KLED.out
          rw [if_neg KZ.out] at hled
          obtain ⟨rfl, rfl, rfl⟩ : false = r ∧ pre = done ∧ lg = legs := by simpa using hled
          have hW : Below wr.heap.size wr w1 := ((Below.refl _ _).alloc (Nat.le_refl _) _).trans (hb1.mono (by simp))
          exact ⟨_, _, _, _, _, _, _, rfl, ⟨(hW.block _ hGl).trans KG.out, KM1.out.below hW KM1.out.lt, KM2.out.below hW KM2.out.lt⟩, ⟨KI.out, KSS.out⟩, KB.out.trans (hW.mono KB.out.size)⟩
theorem ledP.mono (k : Nat) : ∀ (xs done : List S52) (legs : List S77), LeO (ledP k xs done legs) (ledP (k + 1) xs done legs)
  | [], done, legs => LeO.refl _
  | p :: xs, done, legs => by
    unfold ledP
    refine LeO.bind (impl_PostFair.mono _ _ k) (fun _ => LeO.bind (impl_PostOk.mono _ _ k) (fun _ => LeO.ite (ledP.mono k xs _ _) (LeO.refl _)))
theorem ledR.mono (k : Nat) (xs : List S52) : LeO (ledR k xs) (ledR (k + 1) xs) := by
  unfold ledR
  exact LeO.ite (LeO.ite (LeO.refl _) (ledP.mono k xs [] [])) (LeO.refl _)
end

/-! ### impl_BookOk: function 18 -/
section
def impl_BookOk.f (k : Nat) (l0 : List S52) : Option Bool := (ledR k l0).bind fun t => some t.1
theorem impl_BookOk.mono : ∀ a0 k, LeO (impl_BookOk.f k a0) (impl_BookOk.f (k + 1) a0) := by
  intro a0 k
  unfold impl_BookOk.f
  exact LeO.bind (ledR.mono k a0) (fun _ => LeO.refl _)
set_option maxRecDepth 100000 in
set_option maxHeartbeats 4000000 in
theorem impl_BookOk.calls (k : Nat) (A0 : Option Addr) (c0 : Nat) (l0 : List (S52)) (r : Bool) (w : World) (hr0 : Kd.C k52 w A0 l0.length l0) (hc0 : l0.length ≤ c0) (h : impl_BookOk.f k l0 = some r) :
    Calls Try.prog 18 #[.slice A0 l0.length c0] w fun e w' => e = .returned (.bool r) ∧ Below w.heap.size w w' := by
  obtain ⟨⟨r', done, legs⟩, h1, h2⟩ := Option.bind_eq_some_iff.1 h
  obtain rfl : r' = r := by simpa using h2
  have hL := ledgerOf_calls k A0 c0 l0 r' done legs w hr0 hc0 h1
  have HL := Aside0.mk hL
  clear h h1 h2 hL hr0 hc0
  go_enter Try.func18, Try.ntmps18
  go_wp2_with (go_at_call 45; refine HL.out.mono ?_; rintro e w1 ⟨G, B1, B2, n1, n2, f1, f2, rfl, hl, hh, hb⟩)
  go_ret
  exact ⟨rfl, hb⟩
end
section
attribute [local go_sem] Oper.semAt_some
/-- What a book that is one tells of its postings. -/
theorem book_ok {k : Nat} {xs : List S52} {t : Bool} (h : impl_BookOk.f k xs = some t) : (∀ p ∈ xs, okPost p = true) ∧ (t = true → xs.length ≤ 40) := by
  obtain ⟨⟨r, d, l⟩, h1, h2⟩ := Option.bind_eq_some_iff.1 h
  obtain rfl : r = t := by simpa using h2
  unfold ledR at h1
  by_cases c : xs.all okPost = true
  · rw [if_pos c] at h1
    refine ⟨by simpa using c, fun ht => ?_⟩
    by_cases c2 : xs.length > 40
    · rw [if_pos c2] at h1
      subst ht
      cases h1
    · omega
  · rw [if_neg c] at h1
    cases h1
theorem okPost_len {p : S52} (h : okPost p = true) : p.f1.length ≤ 1048576 := by
  unfold okPost at h
  simp only [Bool.and_eq_true, decide_eq_true_eq] at h
  exact h.1.2
/-- A row abides what turns blocks that are no cells. -/
theorem R_other {α : Type} {d : Kd α} {e : Nat} {W W' : World} {base : Nat} {ok : Nat → Prop} {v : Value} {xs : List α} {row : Option Nat} (h : d.R e W base ok v xs) (hg : W.grownBy W' row) (hr : ∀ r, row = some r → ∃ o, W.heap[r]? = some o ∧ o.isCells = false) : d.R e W' base ok v xs :=
  Kd.R_mono (Kd.R_move (Kd.R_bound h) (fun k hk => hg.block k hk.2.2.1 (fun e => by obtain ⟨o, ho, hc⟩ := hr k e.symm; obtain ⟨q, _, cells, hh⟩ := hk.2.2.2; rw [hh] at ho; cases ho; cases hc))) (fun k hk => hk.1)
theorem blk_other {W W' : World} {row : Option Nat} {b : Nat} {cs : Array Value} {t : TypeId} {z : Nat × Nat} (h : W.heap[b]? = some (.cells cs t z)) (hg : W.grownBy W' row) (hr : ∀ r, row = some r → ∃ o, W.heap[r]? = some o ∧ o.isCells = false) : W'.heap[b]? = some (.cells cs t z) :=
  (hg.block b (Array.getElem?_eq_some_iff.1 h).1 (fun e => by obtain ⟨o, ho, hc⟩ := hr b e.symm; rw [h] at ho; cases ho; cases hc)).trans h
def markOf (D : Nat) : Deferred := { target := .collected D, args := #[] }
/-- A function that held ranges over functions leaves: one mark after the other is taken over. -/
theorem leaves_marks {F : Fence} {n : Nat} {P : Program} {fn : Func} {tmps : Array Value} {R : Ending → World → Prop} (base : Nat) (J : World → Prop) (hJ : ∀ X D, J X → base ≤ D → X.heap[D]? = some (.deferred (some [])) → J (X.putObj D (.deferred none))) (hend : ∀ X, J X → LeavesIn F n P fn tmps R [] .returning X) :
    ∀ (Ds : List Nat) (W : World), J W → (∀ D ∈ Ds, base ≤ D ∧ W.heap[D]? = some (.deferred (some []))) → Ds.Nodup → LeavesInM F n P fn tmps R (Ds.map markOf) .returning W := by
  intro Ds
  induction Ds with
  | nil => exact fun W h _ _ => hend W h
  | cons D Ds ih =>
    intro W h hD hn
    have h0 := hD D (by simp)
    refine ⟨by simp, .inl ⟨D, _, rfl, run_takeDeferred h0.2, ?_⟩⟩
    refine ih _ (hJ W D h h0.1 h0.2) (fun E hE => ?_) (List.nodup_cons.1 hn).2
    have h1 := hD E (by simp [hE])
    have hne : E ≠ D := fun e => (List.nodup_cons.1 hn).1 (e ▸ hE)
    refine ⟨h1.1, ((grownBy_putObj' W D (.deferred none)).block E (Array.getElem?_eq_some_iff.1 h1.2).1 (fun e => hne (Option.some.inj e))).trans h1.2⟩
theorem cells_new (W : World) (cs : Array Value) (t : TypeId) : ∀ j u, cs.toList[j]? = some u → (W.alloc (.cells cs t)).cell? ((⟨W.heap.size, 0, none⟩ : Addr).add j) = some u := by
  intro j u hj
  have h : (W.alloc (.cells cs t)).heap[W.heap.size]? = some (.cells cs t (0, 0)) := heap_alloc_new W _
  have : cs[j]? = some u := by simpa using hj
  revert h
  generalize W.alloc (.cells cs t) = W1
  intro h
  rcases j with _ | j <;> simp [World.cell?, Addr.add, h, this]
/-- append(v, x) within a fence, where v is a row of the call's own. -/
theorem R_appendIn {α : Type} {F : Fence} {n : Nat} {P : Program} {ops : Array Oper} {rest : List Oper} {o : Oper} {a : Act} {Q : Exit → Act → World → Prop} (d : Kd α) (W : World) (base : Nat) (hgd : o.guard = none) (s x : Operand) (t e : TypeId) (z : Value) (bytes : Nat)
    (hop : o.op = .call { callee := .builtin .append, args := #[s, x], argTypes := #[t, t] })
    (ht : P.underlying t = some (.slice e)) (hinfo : (P.info? e).map (fun i => (i.zero, i.size, i.bytes)) = some (some z, d.sz, bytes)) (hz : z.cells.size = d.sz) (hs0 : 0 < d.sz) (hb0 : 0 < bytes)
    (v : Value) (xs : List α) (p : α) (cs : List Value) (ok okp : Nat → Prop) (hs : a.eval s = v) (ad : Addr) (hx : a.eval x = .slice (some ad) 1 1) (hcs : ∀ j u, cs[j]? = some u → W.cell? (ad.add j) = some u) (hp : d.M W base okp p cs) (hokp : ∀ k, okp k → ok k ∧ some k ≠ v.ownBlock) (hfresh : ∀ k, W.heap.size ≤ k → ok k)
    (HO : d.R e W base ok v xs) (hbase : base ≤ W.heap.size) (hl : (xs.length + 1) * bytes ≤ 140737488355328)
    (h : ∀ v1 w1, d.R e w1 base ok v1 (xs ++ [p]) → W.grownBy w1 v.ownBlock → wpListIn F n P ops Q rest (a.put o.dst v1) w1) : wpListIn F n P ops Q (o :: rest) a W := by
  obtain ⟨h0, inner, hown, hr⟩ := HO
  obtain ⟨i, hi, hii⟩ := Option.map_eq_some_iff.1 hinfo
  injection hii with e1 e2
  injection e2 with e2 e3
  have hm : xs.length + 1 ≤ maxLen := by
    have := Nat.le_mul_of_pos_right (xs.length + 1) hb0
    unfold maxLen
    omega
  refine wpListIn_plain hgd fun K hK => ?_
  obtain ⟨v', w', hrun, r1, r2, r3, r4⟩ := run_append_own_at (P := P) W base t o.type e i z d.sz bytes ht hi e1 e2 e3 hz hs0 v xs.length inner hown ad 1 1 cs (by rw [d.K_len (d.K_of_M hp)]; omega) hcs (d.K_one (d.K_of_M hp)) hm hl hbase
  unfold Oper.wpIn
  refine ⟨?_, ?_⟩
  · simp [Oper.about, hop, resolve, Target.leads, Sem.run_pure]
  · rw [Oper.semAt_plain F _ _ (by rw [hop]; intro c hc'; cases hc')]
    simp [execOp, hop, resolve, invoke, builtin, hs, hx, hrun, Result.andThen]
    exact hK _ _ (h v' w' (Kd.R_appended h0 hr hp hokp hfresh r1 r2 (r4.imp id (fun hh => ⟨_, hh, Nat.le_refl _⟩))) r2)
theorem blk_other2 {W : World} {b L : Nat} {cs : Array Value} {t : TypeId} (h : W.heap[b]? = some (.cells cs t (0, 0))) (hne : b ≠ L) (v : Value) : (W.setCell ⟨L, 0, none⟩ v).heap[b]? = some (.cells cs t (0, 0)) := (Below.heap_setCell W ⟨L, 0, none⟩ v b hne).trans h
/-- A row abides a store into a block of another type. -/
theorem R_setOther {α : Type} {d : Kd α} {e : Nat} {W : World} {base : Nat} {ok : Nat → Prop} {v : Value} {xs : List α} {L t : Nat} {cs : Array Value} (h : d.R e W base ok v xs) (hL : W.heap[L]? = some (.cells cs t (0, 0))) (ht : t ∉ e :: d.E) (u : Value) : d.R e (W.setCell ⟨L, 0, none⟩ u) base ok v xs :=
  Kd.R_mono (Kd.R_move (Kd.R_bound h) (fun k hk => Below.heap_setCell W ⟨L, 0, none⟩ u k (fun e' => by obtain ⟨q, hq, cells, hh⟩ := hk.2.2.2; subst e'; rw [hL] at hh; injection hh with hh; injection hh with _ hh _; subst hh; exact ht hq))) (fun k hk => hk.1)
end

/-! ### cmp_isNaN_string: function 86 -/
def cmp_isNaN_string.f (a0 : ByteArray) : Option (Bool) := some (a0.toList != a0.toList)
set_option maxHeartbeats 8000000 in
set_option maxRecDepth 100000 in
theorem cmp_isNaN_string.calls (a0 : ByteArray) (r : Bool) (w : World) (h : cmp_isNaN_string.f a0 = some r) :
    Calls Try.prog 86 #[.string a0] w fun e w' => e = .returned (.bool r) ∧ Drawn0 w w' := by
  have H : (some (a0.toList != a0.toList)) = some r := h
  clear h
  obtain rfl := Option.some.inj H
  go_enter Try.func86, Try.ntmps86
  go_wp2
  go_ret
  exact ⟨by first | rfl | (simp; done) | (simp [*]; done), by repeat (first | exact Drawn0.refl _ | apply Drawn0.step)⟩

/-! ### cmp_Less_string: function 71 -/
def cmp_Less_string.f (a0 : ByteArray) (a1 : ByteArray) : Option (Bool) := (cmp_isNaN_string.f a0).bind fun t236 => (if t236 = true then ((cmp_isNaN_string.f a1).bind fun t237 => (if t237 = true then (some (Op.bytesLess a0.toList a1.toList)) else (some true))) else (some (Op.bytesLess a0.toList a1.toList)))
set_option maxHeartbeats 8000000 in
set_option maxRecDepth 100000 in
theorem cmp_Less_string.calls (a0 : ByteArray) (a1 : ByteArray) (r : Bool) (w : World) (h : cmp_Less_string.f a0 a1 = some r) :
    Calls Try.prog 71 #[.string a0, .string a1] w fun e w' => e = .returned (.bool r) ∧ Drawn0 w w' := by
  have H : ((cmp_isNaN_string.f a0).bind fun t236 => (if t236 = true then ((cmp_isNaN_string.f a1).bind fun t237 => (if t237 = true then (some (Op.bytesLess a0.toList a1.toList)) else (some true))) else (some (Op.bytesLess a0.toList a1.toList)))) = some r := h
  clear h
  replace H := Option.bind_eq_some_iff.mp H
  obtain ⟨t236, A30, H⟩ := H
  replace H : (if t236 = true then ((cmp_isNaN_string.f a1).bind fun t237 => (if t237 = true then (some (Op.bytesLess a0.toList a1.toList)) else (some true))) else (some (Op.bytesLess a0.toList a1.toList))) = some r := H
  have A3 := Aside0.mk A30
  clear A30
  by_cases c4 : t236 = true
  · subst c4
    have H1 : ((cmp_isNaN_string.f a1).bind fun t237 => (if t237 = true then (some (Op.bytesLess a0.toList a1.toList)) else (some true))) = some r := by rw [if_pos rfl] at H; exact H
    clear H
    have H := H1
    clear H1
    replace H := Option.bind_eq_some_iff.mp H
    obtain ⟨t237, A50, H⟩ := H
    replace H : (if t237 = true then (some (Op.bytesLess a0.toList a1.toList)) else (some true)) = some r := H
    have A5 := Aside0.mk A50
    clear A50
    by_cases c6 : t237 = true
    · subst c6
      have H1 : (some (Op.bytesLess a0.toList a1.toList)) = some r := by rw [if_pos rfl] at H; exact H
      clear H
      have H := H1
      clear H1
      obtain rfl := Option.some.inj H
      go_enter Try.func71, Try.ntmps71
      go_wp2_with (first | ((with_reducible refine gate_callee (f := 86) rfl ?_); refine goesL_ (some 6) rfl rfl Try.func86 (by kernel_rfl) rfl #[.string a0] rfl (by (try simp only [List.map_toArray, List.map_cons, List.map_nil]); first | done | rfl | (simp only [List.length_drop, List.length_take]; rfl)) ?_; (with_reducible refine (cmp_isNaN_string.calls a0 true _ A3.out).mono ?_); rintro e w' ⟨rfl, ⟨nd, rfl⟩⟩; refine ⟨_, rfl, ?_⟩) | (go_at_call 86; (with_reducible refine (cmp_isNaN_string.calls a1 true _ A5.out).mono ?_); rintro e w' ⟨rfl, ⟨nd, rfl⟩⟩))
      go_ret
      exact ⟨by first | rfl | (simp; done) | (simp [*]; done), by repeat (first | exact Drawn0.refl _ | apply Drawn0.step)⟩
    · replace c6 := Bool.eq_false_iff.mpr c6
      subst c6
      have H1 : (some true) = some r := by rw [if_neg (show ¬ (false = true) by decide)] at H; exact H
      clear H
      have H := H1
      clear H1
      obtain rfl := Option.some.inj H
      go_enter Try.func71, Try.ntmps71
      go_wp2_with (first | ((with_reducible refine gate_callee (f := 86) rfl ?_); refine goesL_ (some 6) rfl rfl Try.func86 (by kernel_rfl) rfl #[.string a0] rfl (by (try simp only [List.map_toArray, List.map_cons, List.map_nil]); first | done | rfl | (simp only [List.length_drop, List.length_take]; rfl)) ?_; (with_reducible refine (cmp_isNaN_string.calls a0 true _ A3.out).mono ?_); rintro e w' ⟨rfl, ⟨nd, rfl⟩⟩; refine ⟨_, rfl, ?_⟩) | (go_at_call 86; (with_reducible refine (cmp_isNaN_string.calls a1 false _ A5.out).mono ?_); rintro e w' ⟨rfl, ⟨nd, rfl⟩⟩))
      go_ret
      exact ⟨by first | rfl | (simp; done) | (simp [*]; done), by repeat (first | exact Drawn0.refl _ | apply Drawn0.step)⟩
  · replace c4 := Bool.eq_false_iff.mpr c4
    subst c4
    have H1 : (some (Op.bytesLess a0.toList a1.toList)) = some r := by rw [if_neg (show ¬ (false = true) by decide)] at H; exact H
    clear H
    have H := H1
    clear H1
    obtain rfl := Option.some.inj H
    go_enter Try.func71, Try.ntmps71
    go_wp2_with (first | ((with_reducible refine gate_callee (f := 86) rfl ?_); refine goesL_ (some 6) rfl rfl Try.func86 (by kernel_rfl) rfl #[.string a0] rfl (by (try simp only [List.map_toArray, List.map_cons, List.map_nil]); first | done | rfl | (simp only [List.length_drop, List.length_take]; rfl)) ?_; (with_reducible refine (cmp_isNaN_string.calls a0 false _ A3.out).mono ?_); rintro e w' ⟨rfl, ⟨nd, rfl⟩⟩; refine ⟨_, rfl, ?_⟩))
    go_ret
    exact ⟨by first | rfl | (simp; done) | (simp [*]; done), by repeat (first | exact Drawn0.refl _ | apply Drawn0.step)⟩

/-! ### slices_isNaN_string: function 72 -/
def slices_isNaN_string.f (a0 : ByteArray) : Option (Bool) := some (a0.toList != a0.toList)
set_option maxHeartbeats 8000000 in
set_option maxRecDepth 100000 in
theorem slices_isNaN_string.calls (a0 : ByteArray) (r : Bool) (w : World) (h : slices_isNaN_string.f a0 = some r) :
    Calls Try.prog 72 #[.string a0] w fun e w' => e = .returned (.bool r) ∧ Drawn0 w w' := by
  have H : (some (a0.toList != a0.toList)) = some r := h
  clear h
  obtain rfl := Option.some.inj H
  go_enter Try.func72, Try.ntmps72
  go_wp2
  go_ret
  exact ⟨by first | rfl | (simp; done) | (simp [*]; done), by repeat (first | exact Drawn0.refl _ | apply Drawn0.step)⟩

end Go.Proofs.Yteijmkjfgieciaa.QFnExactBookSides
