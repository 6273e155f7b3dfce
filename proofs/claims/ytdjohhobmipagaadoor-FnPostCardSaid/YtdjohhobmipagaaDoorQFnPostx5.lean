/- What the law FnPost reaches, function by function: what each computes, and that the machine's call comes to it. Laid by a program. -/
import Derived.Test.YtdjohhobmipagaaDoorBShelf
import Derived.Test.YtdjohhobmipagaaDoorQFnPostx0
import Derived.Test.YtdjohhobmipagaaDoorQFnPostx4
namespace Go.Proofs.YtdjohhobmipagaaDoor.QFnPost
open Go.RowKit Go.Proofs.YtdjohhobmipagaaDoorW.PrintWords Go.Proofs.YtdjohhobmipagaaDoorW.PrintLast Go.Proofs.YtdjohhobmipagaaDoorW.PrintMore
attribute [local go_sem] max2_int min2_int max_two min_two max_three min_three max_four min_four   -- for this text's walks alone
set_option linter.unusedVariables false
set_option linter.unusedSimpArgs false

/-! ### impl_PostText: function 9 -/
section
attribute [local go_sem] Oper.semAt_some
/-! #### A region that draws its order, within a round of a range over a function -/
theorem rowsIn_wide {n : Nat} {P : Program} {row : String} {args : Array Value} {w : World} {R : Value → World → Prop} (h : Rows P row args w R) : RowsIn Fence.wide n P row args w R :=
  fun c cs _ => let ⟨v, w', r, s⟩ := h c cs; ⟨v, w', r, stepsIn_wide.2 s⟩
theorem upon_round {P : Program} {o : Oper} {a : Act} {K K' : Act → World → Prop} {Q : Exit → Act → World → Prop} {l n : Nat} (_hout : ∀ a w, ¬ Q .outgrown a w) (hK : ∀ a w, K a w → K' a w) (r : Result Next) (h : o.upon P a K Q r) :
    o.uponIn (Fence.wide.inRound l) n P a K' Q r := by
  cases r with
  | ok x w' =>
    cases x <;> simp only [Oper.upon, Oper.uponIn] at h ⊢ <;> first
      | exact hK _ _ h
      | exact h.elim
      | (refine ⟨(fun h => by cases h), CallsIn.inRound l (callsIn_wide.2 (Calls.mono h ?_))⟩
         intro e w'' he
         cases e with
         | returned v => exact hK _ _ he
         | panicked c => exact he
         | outgrown => exact he)
      | exact ⟨(fun h => by cases h), rowsIn_wide (Rows.mono h (fun v w'' he => hK _ _ he))⟩
  | halt x w' => cases x <;> simp only [Oper.upon, Oper.uponIn] at h ⊢ <;> exact h
def noDefer (ops : Array Oper) : Bool := ops.all fun o => match o.op with | .defer _ => false | _ => true
theorem noDefer_at {ops : Array Oper} (h : noDefer ops = true) {i : Nat} {o : Oper} (hi : ops[i]? = some o) : ∀ c, o.op ≠ .defer c := by
  intro c hc
  have hm : o ∈ ops := Array.mem_of_getElem? hi
  have := Array.all_eq_true_iff_forall_mem.1 h o hm
  rw [hc] at this
  cases this
theorem wpAny_round {P : Program} {md : Region.Mode} {ops : Array Oper} {Q : Exit → Act → World → Prop} {l n : Nat} (hout : ∀ a w, ¬ Q .outgrown a w) (hnd : noDefer ops = true) : ∀ (fuel : Nat) (listed : Array Bool) (a : Act) (w : World), wpAny P md ops Q fuel listed a w → wpAnyIn (Fence.wide.inRound l) n P md ops Q fuel listed a w
  | 0, _, _, _, h => h
  | fuel + 1, listed, a, w, h => by
    refine ⟨h.1, fun i hi => ?_⟩
    have h2 := h.2 i hi
    unfold wpOp at h2
    unfold wpOpIn
    cases ho : ops[i]? with
    | none =>
      rw [ho] at h2
      exact wpAny_round hout hnd fuel _ _ _ h2
    | some o =>
      rw [ho] at h2
      simp only at h2 ⊢
      split
      · rename_i hw
        rw [if_pos hw] at h2
        rcases h2 with h2 | ⟨_, a', w', h3⟩
        · refine ⟨fun _ _ => trivial, ?_⟩
          rw [Oper.semAt_eq _ _ _ (noDefer_at hnd ho)]
          exact upon_round hout (fun a' w' h' => wpAny_round hout hnd fuel _ a' w' h') _ h2
        · exact absurd h3 (hout a' w')
      · rename_i hw
        rw [if_neg hw] at h2
        exact ⟨fun _ _ => trivial, wpAny_round hout hnd fuel _ _ _ h2⟩
/-- A region that draws its order, within a round of a range over a function: as 'start_'. -/
theorem startR_ {P : Program} {ops : Array Oper} {Q : Exit → Act → World → Prop} {S : World → Prop} {ds : List Nat} {id n N l : Nat} {a : Act} {w : World} (L : Array Bool) (hm : P.follows .mixedOrders = true) (hn : ops.size = n) (hl : Array.replicate n false = L) (hout : ∀ a w, ¬ Q .outgrown a w) (hnd : noDefer ops = true) (hS : S w.drew)
    (h : S w.drew → wpAnyLast P .any ops Q S ds n L a w.drew) : (Code.region id ops true).wpIn (Fence.wide.inRound l) N P Q a w := by
  subst hn
  subst hl
  exact wpIn_region_any hm (wpAny_round hout hnd _ _ _ _ (wpAny_of_last _ _ _ _ (h hS)))
/-- A leg, as it is written. -/
def legText (x : S45) : List UInt8 := 32 :: (x.f0.data.toList ++ 58 :: (Lib.itoa x.f1 ++ 58 :: Lib.itoa x.f2))
/-- A posting, as it is written. -/
def postText (id : Int) (xs : List S45) : List UInt8 := Lib.itoa id ++ xs.flatMap legText
theorem postText_snoc (id : Int) (pre : List S45) (x : S45) : postText id (pre ++ [x]) = postText id pre ++ legText x := by simp [postText]
def intFits (n : Int) : Bool := decide (-1000000 ≤ n) && decide (n ≤ 1000000)
def legFits (x : S45) : Bool := decide (x.f0.size ≤ 1000) && (intFits x.f1 && intFits x.f2)
def postFits (id : Int) (xs : List S45) : Bool := intFits id && (decide (xs.length ≤ 1000) && xs.all legFits)
abbrev LegF := { x : S45 // legFits x = true }
theorem legF_of (xs : List S45) (h : xs.all legFits = true) : ∃ ys : List LegF, ys.map (fun y => y.1) = xs :=
  ⟨xs.pmap Subtype.mk (fun x hx => List.all_eq_true.1 h x hx), by simp [List.map_pmap]⟩
theorem var_below {P : Program} {w W : World} {n : String} {cs : Array Value} (h : w.var? P n = some cs) (hb : Below w.heap.size w W) : W.var? P n = some cs := by
  unfold World.var? at h ⊢
  cases hg : P.globalNamed n with
  | none => simp [hg] at h
  | some g =>
    simp only [hg, Option.bind_some] at h ⊢
    have hlt : g < w.heap.size := by
      rcases Nat.lt_or_ge g w.heap.size with h' | h'
      · exact h'
      · simp [Array.getElem?_eq_none h'] at h
    rw [hb.block g hlt]
    exact h
/-- The errors of strconv lie as they are laid. -/
def Errs (w : World) : Prop := (∃ tp p, w.var? Tryd.prog "strconv.ErrSyntax" = some #[.iface tp p]) ∧ ∃ tp p, w.var? Tryd.prog "strconv.ErrRange" = some #[.iface tp p]
/-- The library's variables that are read lie as they are laid: the table of the powers of ten, and more where more is read. -/
def Tab (w : World) : Prop := Lib.TabIs Tryd.prog w "internal/strconv.uint64pow10" .u64 Lib.pow10Tab ∧ (Errs w)
theorem Tab.below {w W : World} (h : Tab w) (hb : Below w.heap.size w W) : Tab W := by
  have e : Errs w → Errs W := fun h => ⟨h.1.elim fun tp h => h.elim fun p h => ⟨tp, p, var_below h hb⟩, h.2.elim fun tp h => h.elim fun p h => ⟨tp, p, var_below h hb⟩⟩
  exact ⟨var_below h.1 hb, by first | exact trivial | exact e h.2⟩
theorem itoa_calls (n : Int) (h : intFits n = true) (w W : World) (ht : Tab w) (hb : Below w.heap.size w W) :
    Calls Tryd.prog 24 #[.int .i64 n] W fun e w' => e = .returned (.string ⟨(Lib.itoa n).toArray⟩) ∧ Below W.heap.size W w' := by
  have h0 : -1000000 ≤ n ∧ n ≤ 1000000 := by simpa [intFits] using h
  refine (Tryd.strconv_Itoa n (by omega) (by omega) W (ht.below hb).1).mono ?_
  rintro e w' ⟨rfl, k, os, rfl⟩
  exact ⟨rfl, Lib.below_grow _ W (Nat.le_refl _) k os⟩
/-- A builder stays one where only what is no cells turns, and new blocks come. -/
theorem builderAt_grown {T e : TypeId} {B b : Nat} {p : Value} {bs : List Value} {w W : World} {row : Option Nat} (h : Lib.BuilderAtF T e B b p bs w) (hg : w.grownBy W row) (hr : ∀ r, row = some r → ∃ o : Obj, w.heap[r]? = some o ∧ o.isCells = false) : Lib.BuilderAtF T e B b p bs W := by
  have hlt := h.lt
  obtain ⟨hB, v, hb, hown, hne⟩ := h
  have nr : ∀ r, row = some r → ∀ cs t fz, w.heap[r]? ≠ some (.cells cs t fz) := fun r hr' cs t fz hc => by
    obtain ⟨o, ho, hcc⟩ := hr r hr'
    rw [hc] at ho
    cases ho
    cases hcc
  refine ⟨hB, v, (hg.block b hlt (fun e' => nr b e'.symm _ _ _ hb)).trans hb, hown.kept hg ?_, hne⟩
  cases hv : v.ownBlock with
  | none => exact .inl rfl
  | some g =>
    refine .inr (fun e' => ?_)
    obtain ⟨c, fz, hc⟩ := Lib.ownsRowF_kind hown g hv
    exact nr g e'.symm _ _ _ hc
theorem builder_grown {T e : TypeId} {B b : Nat} {bs : List Value} {w W : World} {row : Option Nat} (h : Lib.IsBuilderF T e B b bs w) (hg : w.grownBy W row) (hr : ∀ r, row = some r → ∃ o : Obj, w.heap[r]? = some o ∧ o.isCells = false) : Lib.IsBuilderF T e B b bs W :=
  h.elim (fun h => .inl (builderAt_grown h hg hr)) (fun h => .inr (builderAt_grown h hg hr))
theorem builder_below {T e : TypeId} {B b : Nat} {bs : List Value} {w W : World} (h : Lib.IsBuilderF T e B b bs w) (hb : Below w.heap.size w W) : Lib.IsBuilderF T e B b bs W := builder_grown h (grown_of_below hb none) (fun r e => by cases e)
theorem builder_own {β : Type} (T e : TypeId) (B b : Nat) (f : β → List Value) : Own (fun s W => Lib.IsBuilderF T e B b (f s) W) := fun s X Y row hs hg hrow => builder_grown hs hg hrow
theorem builder_lt {T e : TypeId} {B b : Nat} {bs : List Value} {w : World} (h : Lib.IsBuilderF T e B b bs w) : B ≤ b ∧ b < w.heap.size := h.elim (fun h => ⟨h.1, h.lt⟩) (fun h => ⟨h.1, h.lt⟩)
theorem keeps_below {B : Nat} {W W' : World} (h : Below W.heap.size W W') : KeepsFrom B W W' := KeepsFrom.of_grownBy (grown_of_below h none) (fun j e => by cases e)
theorem keeps_others {T e : TypeId} {B0 B b : Nat} {bs : List Value} {W W' : World} (hI : Lib.IsBuilderF T e B0 b bs W) (h : Lib.OthersKept e (some b) W W') (hs : W.heap.size ≤ W'.heap.size) : KeepsFrom B W W' := by
  refine ⟨hs, fun k o _ hk ho => h k o hk ?_ (fun c fz e' => by subst e'; cases ho)⟩
  intro e'
  obtain rfl : k = b := by simpa using e'
  rcases hI with ⟨_, v, hb, _⟩ | ⟨_, v, hb, _⟩ <;> (rw [hb] at hk; cases hk; cases ho)
theorem builder_ne {T e : TypeId} {B b k : Nat} {bs : List Value} {W : World} (hI : Lib.IsBuilderF T e B b bs W) {cs : Array Value} {t : TypeId} {fz : Nat × Nat} (hk : W.heap[k]? = some (.cells cs t fz)) (hT : t ≠ T) : k ≠ b := by
  rintro rfl
  rcases hI with ⟨_, v, hb, _⟩ | ⟨_, v, hb, _⟩ <;> (rw [hb] at hk; cases hk; exact hT rfl)
/-- A leg's text, as it is put together. -/
abbrev legT (x : S45) : ByteArray := (((((⟨#[32]⟩ : ByteArray) ++ x.f0) ++ (⟨#[58]⟩ : ByteArray)) ++ (⟨(Lib.itoa x.f1).toArray⟩ : ByteArray)) ++ (⟨#[58]⟩ : ByteArray)) ++ (⟨(Lib.itoa x.f2).toArray⟩ : ByteArray)
theorem legT_eq (x : S45) : (legT x).data.toList = legText x := by simp [legT, legText, ByteArray.data_append]
theorem legT_size (x : S45) : (legT x).size = 1 + x.f0.size + 1 + (Lib.itoa x.f1).length + 1 + (Lib.itoa x.f2).length := by
  have h := congrArg List.length (legT_eq x)
  simp only [Array.length_toList, legText, List.length_cons, List.length_append] at h
  have e : (legT x).size = (legT x).data.size := rfl
  have e2 : x.f0.size = x.f0.data.size := rfl
  omega
theorem legs_len (pre : List LegF) : ((pre.map (fun y : LegF => y.1)).flatMap legText).length ≤ 1100 * pre.length := by
  induction pre with
  | nil => simp
  | cons x r ih =>
    have hx : (x.1.f0.size ≤ 1000 ∧ (-1000000 ≤ x.1.f1 ∧ x.1.f1 ≤ 1000000) ∧ -1000000 ≤ x.1.f2 ∧ x.1.f2 ≤ 1000000) := by have := x.2; simpa only [legFits, intFits, Bool.and_eq_true, decide_eq_true_eq] using this
    have l1 := Lib.itoa_length_le x.1.f1 (by omega) (by omega)
    have l2 := Lib.itoa_length_le x.1.f2 (by omega) (by omega)
    have e2 : x.1.f0.size = x.1.f0.data.size := rfl
    have e1 : (legText x.1).length ≤ 1100 := by simp only [legText, List.length_cons, List.length_append, Array.length_toList]; omega
    simp only [List.map_cons, List.flatMap_cons, List.length_append, List.length_cons]
    omega
set_option maxRecDepth 100000 in
set_option maxHeartbeats 4000000 in
theorem postText_no (k : Nat) (id : Int) (A : Option Addr) (c : Nat) (xs : List S45) (w : World) (hr0 : Kd.C k45 w A xs.length xs) (hc0 : xs.length ≤ c) (hok : impl_PostOk.f k id xs = some false) :
    Calls Tryd.prog 9 #[.agg #[.int .i64 id, .slice A xs.length c]] w fun e w' => e = .returned (.string ⟨#[]⟩) ∧ Below w.heap.size w w' := by
  refine (callsIn_wide (n := 6)).1 ?_
  refine callsIn_of_wp_marks Tryd.func9 rfl trivial ?_ rfl
  simp only [Tryd.ntmps9, List.size_toArray, List.length_cons, List.length_nil, Nat.reduceAdd, Nat.reduceSub, Array.replicate_succ, Array.replicate_zero, List.push_toArray, List.append_toArray, List.nil_append, List.cons_append]
  have cP : ∀ W, Below w.heap.size w W → Calls Tryd.prog 16 #[.agg #[.int .i64 id, .slice A xs.length c]] W fun e w' => e = .returned (.bool false) ∧ Below W.heap.size W w' := by
    intro W hW
    have h := impl_PostOk.calls k id A c xs false W (Kd.C_below hr0 hW) hc0 hok
    exact h
  have CP := Aside0.mk cP
  have HOK := Aside0.mk hok
  have HR := Aside0.mk hr0
  have HC := Aside0.mk hc0
  clear cP hok hr0 hc0
  have hB1 : Below w.heap.size w (w.alloc (.cells #[.int .i64 id, .slice A xs.length c] 29)) := (Below.refl _ w).alloc (Nat.le_refl _) _
  have bk1 := heap_alloc_new w (.cells #[.int .i64 id, .slice A xs.length c] 29)
  have HB1 := Aside0.mk hB1
  have BK1 := Aside0.mk bk1
  clear hB1 bk1
  gi_wp2_with (refine ⟨trivial, ?_⟩; gi_at_call 16; refine (callsIn_wide.2 (CP.out _ HB1.out)).mono ?_; rintro e w1 ⟨rfl, hb⟩)
  refine ⟨_, results_tmp rfl _ _ _, rfl, ?_⟩
  exact below_then HB1.out HB1.out.size hb
set_option maxRecDepth 100000 in
set_option maxHeartbeats 4000000 in
theorem postText_calls (k : Nat) (id : Int) (A : Option Addr) (c : Nat) (xs : List LegF) (w : World) (hr0 : Kd.C k45 w A xs.length (xs.map (fun y : LegF => y.1))) (hc0 : xs.length ≤ c) (hid : intFits id = true) (hlen : xs.length ≤ 1000) (htab : Tab w) (hok : impl_PostOk.f k id (xs.map (fun y : LegF => y.1)) = some true) :
    Calls Tryd.prog 9 #[.agg #[.int .i64 id, .slice A xs.length c]] w fun e w' => e = .returned (.string ⟨(postText id (xs.map (fun y : LegF => y.1))).toArray⟩) ∧ Below w.heap.size w w' := by
  refine (callsIn_wide (n := 6)).1 ?_
  refine callsIn_of_wp_marks Tryd.func9 rfl trivial ?_ rfl
  simp only [Tryd.ntmps9, List.size_toArray, List.length_cons, List.length_nil, Nat.reduceAdd, Nat.reduceSub, Array.replicate_succ, Array.replicate_zero, List.push_toArray, List.append_toArray, List.nil_append, List.cons_append]
  have cP : ∀ W, Below w.heap.size w W → Calls Tryd.prog 16 #[.agg #[.int .i64 id, .slice A xs.length c]] W fun e w' => e = .returned (.bool true) ∧ Below W.heap.size W w' := by
    intro W hW
    have h := impl_PostOk.calls k id A c (xs.map (fun y : LegF => y.1)) true W (by rw [List.length_map]; exact Kd.C_below hr0 hW) (by rw [List.length_map]; exact hc0) hok
    rw [List.length_map] at h
    exact h
  have CP := Aside0.mk cP
  have HOK := Aside0.mk hok
  have HR := Aside0.mk hr0
  have HC := Aside0.mk hc0
  have HID := Aside0.mk hid
  have HLEN := Aside0.mk hlen
  have HTAB := Aside0.mk htab
  clear cP hok hr0 hc0 hid hlen htab
  have hB1 : Below w.heap.size w (w.alloc (.cells #[.int .i64 id, .slice A xs.length c] 29)) := (Below.refl _ w).alloc (Nat.le_refl _) _
  have bk1 := heap_alloc_new w (.cells #[.int .i64 id, .slice A xs.length c] 29)
  have HB1 := Aside0.mk hB1
  have BK1 := Aside0.mk bk1
  clear hB1 bk1
  gi_wp2_with (refine ⟨trivial, ?_⟩; gi_at_call 16; refine (callsIn_wide.2 (CP.out _ HB1.out)).mono ?_; rintro e w1 ⟨rfl, hb⟩; refine Hid.out ?_)
  have hB2 : Below w.heap.size w w1 := below_then HB1.out HB1.out.size hb
  have bk2 : w1.heap[w.heap.size]? = some (.cells #[.int .i64 id, .slice A xs.length c] 29 (0, 0)) := (hb.block w.heap.size (by simp)).trans BK1.out
  have hlt2 : w.heap.size < w1.heap.size := (Array.getElem?_eq_some_iff.1 bk2).1
  have hB3 : Below w.heap.size w (w1.alloc (.cells #[.pointer none, .slice none 0 0] 49)) := hB2.alloc hB2.size _
  have hI3 : Lib.IsBuilderF 49 5 w1.heap.size w1.heap.size [] (w1.alloc (.cells #[.pointer none, .slice none 0 0] 49)) := Lib.IsBuilderF.of (Lib.fresh_isBuilder 49 5 w1)
  have c0 : ∀ o, (w1.alloc o).cell? ⟨w.heap.size, 0, none⟩ = some (.int .i64 id) := fun o => ((Below.refl w1.heap.size w1).alloc (Nat.le_refl _) o |>.cell (p := ⟨w.heap.size, 0, none⟩) hlt2).trans ((cell_of_row w1 _ 0 _ _ _ bk2).trans rfl)
  have HB := Aside0.mk hb
  have BK2 := Aside0.mk bk2
  have HB2 := Aside0.mk hB2
  have HLT2 := Aside0.mk hlt2
  have HB3 := Aside0.mk hB3
  have HI3 := Aside0.mk hI3
  clear hb bk2 hB2 hlt2 hB3 hI3
  refine Lib.hid ?_
  gi_wp2_with (refine ⟨trivial, ?_⟩; gi_at_call 24; refine (callsIn_wide.2 (itoa_calls id HID.out w _ HTAB.out HB3.out)).mono ?_; rintro e w2 ⟨rfl, hb2⟩; refine Hid.out ?_)
  have hI4 : Lib.IsBuilderF 49 5 w1.heap.size w1.heap.size [] w2 := builder_below HI3.out hb2
  have hB4 : Below w.heap.size w w2 := below_then HB3.out HB3.out.size hb2
  have bk4 : w2.heap[w.heap.size]? = some (.cells #[.int .i64 id, .slice A xs.length c] 29 (0, 0)) := (hb2.block w.heap.size (by simp; have := HLT2.out; omega)).trans ((((Below.refl w1.heap.size w1).alloc (Nat.le_refl _) _).block w.heap.size HLT2.out).trans BK2.out)
  have hl21 := Lib.itoa_length_le id (by have := HID.out; simp [intFits] at this; omega) (by have := HID.out; simp [intFits] at this; omega)
  have HL21 := Aside0.mk hl21
  have HI4 := Aside0.mk hI4
  have HB4 := Aside0.mk hB4
  have BK4 := Aside0.mk bk4
  have hsz : (⟨(Lib.itoa id).toArray⟩ : ByteArray).size = (Lib.itoa id).length := by simp [ByteArray.size]
  have HSZ := Aside0.mk hsz
  have hle4 : w1.heap.size ≤ w2.heap.size := by have := hb2.size; simp at this; omega
  have HLE4 := Aside0.mk hle4
  clear hI4 hB4 bk4 hl21 hb2 hsz hle4
  refine Lib.hid ?_
  gi_wp2_with (refine ⟨trivial, ?_⟩; gi_at_call 23; refine (callsIn_wide.2 (Tryd.Builder_WriteString_k w1.heap.size w1.heap.size [] _ w2 HI4.out (by rw [HSZ.out]; have := HL21.out; simp; omega) HLE4.out)).mono ?_; rintro e w3 ⟨rfl, hI5, hb5, hk5⟩; refine Hid.out ?_)
  have bk5 : w3.heap[w.heap.size]? = some (.cells #[.int .i64 id, .slice A xs.length c] 29 (0, 0)) := (hb5.block w.heap.size HLT2.out).trans BK4.out
  have e0 : ([] : List Value) ++ Lib.strCells ⟨(Lib.itoa id).toArray⟩ = Lib.byteCells (postText id (([] : List LegF).map (fun y => y.1))) := by rw [Lib.strCells_toArray]; simp [postText]
  rw [e0] at hI5
  have hI5' : Lib.IsBuilderF 49 5 w1.heap.size w1.heap.size (Lib.byteCells (postText id (([] : List LegF).map (fun y => y.1)))) w3 := .inr hI5
  have hle5 : w1.heap.size ≤ w3.heap.size := Nat.le_trans HLE4.out hb5.size
  have hB5 : Below w.heap.size w w3 := HB4.out.trans (hb5.mono (Nat.le_of_lt HLT2.out))
  have HI5 := Aside0.mk hI5'
  have HB5 := Aside0.mk hB5
  have HLE5 := Aside0.mk hle5
  have c50 : w3.cell? ⟨w.heap.size, 0, none⟩ = some (.int .i64 id) := (cell_of_row w3 _ 0 _ _ _ bk5).trans rfl
  have c51 : w3.cell? ⟨w.heap.size, 1, none⟩ = some (.slice A xs.length c) := (cell_of_row w3 _ 1 _ _ _ bk5).trans rfl
  clear e0 hI5 hI5' hb5 hk5 hle5 hB5 bk5
  refine Lib.hid ?_
  gi_wp2_with (refine ⟨trivial, ?_⟩; gi_at_call 25; refine (callsIn_wide.2 (legsOf_calls id A _ c _)).mono ?_; rintro e w' ⟨rfl, rfl⟩)
  have hI6 := builder_grown HI5.out (World.grownBy_alloc w3 (.cells #[.int .i64 id, .slice A xs.length c] 29) none) (fun r e => by cases e)
  have hB6 : Below w.heap.size w (w3.alloc (.cells #[.int .i64 id, .slice A xs.length c] 29)) := HB5.out.alloc HB5.out.size _
  have hq := heap_alloc_new w3 (.cells #[.int .i64 id, .slice A xs.length c] 29)
  have hs6 : (w3.alloc (.cells #[.int .i64 id, .slice A xs.length c] 29)).heap.size = w3.heap.size + 1 := by simp
  obtain ⟨W0, hW0⟩ : ∃ W0, w3.alloc (.cells #[.int .i64 id, .slice A xs.length c] 29) = W0 := ⟨_, rfl⟩
  rw [hW0] at hI6 hB6 hq hs6 ⊢
  clear hW0 c50 c51
  have hc0 : W0.cell? ⟨w3.heap.size, 0, none⟩ = some (.int .i64 id) := (cell_of_row W0 _ 0 _ _ _ hq).trans rfl
  have hc1 : W0.cell? ⟨w3.heap.size, 1, none⟩ = some (.slice A xs.length c) := (cell_of_row W0 _ 1 _ _ _ hq).trans rfl
  have hw03 : w.heap.size ≤ W0.heap.size := hB6.size
  refine wpIn_rangeFunc_ownH rfl (by omega) (gf := 47) (lb := #[.pointer (some ⟨w3.heap.size, 0, none⟩)]) rfl trivial (enters_of Tryd.func47 (by kernel_rfl) rfl)
    (legsOf_stops _ (by omega) (fun y : LegF => y.1) w3.heap.size k id A c xs w W0 HR.out HC.out true HOK.out hB6 (by omega) hc0 hc1) belowK_t (belowK_b hw03) (Below.refl _ _) (fun _ => rfl)
    (fun pre W => Lib.IsBuilderF 49 5 w1.heap.size w1.heap.size (Lib.byteCells (postText id (pre.map (fun y : LegF => y.1)))) W ∧ Below w.heap.size w W)
    (fun _ _ _ => False)
    (OwnFrom.and (Own.from (builder_own _ _ _ _ _) _) (ownFrom_below (Nat.le_refl _) hw03))
    (fun _ _ _ _ _ hs _ _ => hs)
    ⟨hI6, hB6⟩
    (fun x a' W => ∃ Bx, W.heap[Bx]? = some (.cells #[.string x.1.f0, .int .i64 x.1.f1, .int .i64 x.1.f2] 45 (0, 0)) ∧ a' = { tmps := #[.agg #[.int .i64 id, .slice A xs.length c], .pointer (some ⟨w.heap.size, 0, none⟩), .string ⟨#[]⟩, .pointer (some ⟨w1.heap.size, 0, none⟩), .pointer (some ⟨Bx, 0, none⟩), .agg #[.int .i64 id, .slice A xs.length c], .bool true, .bool false, .pointer (some ⟨w.heap.size, 0, none⟩), .int .i64 id, .string ⟨(Lib.itoa id).toArray⟩, .tuple #[.int .i64 ((Lib.itoa id).length : Nat), .nilIface], .agg #[.int .i64 id, .slice A xs.length c], .func (.func 47) #[] #[.pointer (some ⟨w3.heap.size, 0, none⟩)], .agg #[.string x.1.f0, .int .i64 x.1.f1, .int .i64 x.1.f2], undef, undef, undef, undef, undef, undef, undef, undef, undef, undef, undef, undef, undef, undef, undef], defers := [] })
    (fun x a' _ X Y row hs hg hr => by
      obtain ⟨Bx, h2, h3⟩ := hs
      refine ⟨Bx, (hg.block Bx (Array.getElem?_eq_some_iff.1 h2).1 (fun e => ?_)).trans h2, h3⟩
      obtain ⟨_, o, ho, hcc⟩ := hr Bx e.symm
      rw [h2] at ho
      cases ho
      cases hcc)
    ?assign ?body ?done ?stop
  case assign =>
    rintro l pre x W K ⟨hI1, hB1⟩ hK
    dsimp only [legEnc]
    gi_wp2
    exact hK _ _ ((KeepsOthers.alloc _ _).from _) ((Below.refl _ W).alloc hB1.size _) ⟨builder_grown hI1 (World.grownBy_alloc W _ none) (fun r e => by cases e), hB1.alloc hB1.size _⟩ ⟨W.heap.size, heap_alloc_new W _, rfl⟩
  case body =>
    rintro l pre x a' W hl ⟨r, hr⟩ ⟨hI1, hB1⟩ ⟨Bx, bX, rfl⟩ hlt
    have hx : (x.1.f0.size ≤ 1000 ∧ (-1000000 ≤ x.1.f1 ∧ x.1.f1 ≤ 1000000) ∧ -1000000 ≤ x.1.f2 ∧ x.1.f2 ≤ 1000000) := by have := x.2; simpa only [legFits, intFits, Bool.and_eq_true, decide_eq_true_eq] using this
    have hf1 : intFits x.1.f1 = true := by simp [intFits]; omega
    have hf2 : intFits x.1.f2 = true := by simp [intFits]; omega
    have l1 := Lib.itoa_length_le x.1.f1 (by omega) (by omega)
    have l2 := Lib.itoa_length_le x.1.f2 (by omega) (by omega)
    have x0 : W.cell? ⟨Bx, 0, none⟩ = some (.string x.1.f0) := (cell_of_row W _ 0 _ _ _ bX).trans rfl
    have x1 : W.cell? ⟨Bx, 1, none⟩ = some (.int .i64 x.1.f1) := (cell_of_row W _ 1 _ _ _ bX).trans rfl
    have x2 : W.cell? ⟨Bx, 2, none⟩ = some (.int .i64 x.1.f2) := (cell_of_row W _ 2 _ _ _ bX).trans rfl
    have hBx : Bx < W.heap.size := (Array.getElem?_eq_some_iff.1 bX).1
    have hbl : w1.heap.size ≤ W.heap.size := Nat.le_of_lt (builder_lt hI1).2
    have hsum : (Lib.byteCells (postText id (pre.map (fun y : LegF => y.1)))).length ≤ 2000000 := by
      have h1 := legs_len pre
      have h2 := HL21.out
      have h3 := HLEN.out
      have h4 : pre.length < xs.length := by simpa [selLegs] using hlt
      simp only [Lib.byteCells, List.length_map, postText, List.length_append]
      omega
    have s0 : x.1.f0.size = x.1.f0.data.size := rfl
    have t1 : ((⟨#[32]⟩ : ByteArray) ++ x.1.f0).size = 1 + x.1.f0.size := by rw [ByteArray.size_append]; rfl
    have t2 : (((⟨#[32]⟩ : ByteArray) ++ x.1.f0) ++ (⟨#[58]⟩ : ByteArray)).size = 1 + x.1.f0.size + 1 := by rw [ByteArray.size_append, t1]; rfl
    have t3 : ((((⟨#[32]⟩ : ByteArray) ++ x.1.f0) ++ (⟨#[58]⟩ : ByteArray)) ++ (⟨(Lib.itoa x.1.f1).toArray⟩ : ByteArray)).size = 1 + x.1.f0.size + 1 + (Lib.itoa x.1.f1).length := by rw [ByteArray.size_append, t2]; exact congrArg (1 + x.1.f0.size + 1 + ·) (List.size_toArray)
    have t4 : (((((⟨#[32]⟩ : ByteArray) ++ x.1.f0) ++ (⟨#[58]⟩ : ByteArray)) ++ (⟨(Lib.itoa x.1.f1).toArray⟩ : ByteArray)) ++ (⟨#[58]⟩ : ByteArray)).size = 1 + x.1.f0.size + 1 + (Lib.itoa x.1.f1).length + 1 := by rw [ByteArray.size_append, t3]; rfl
    have z2 : (⟨(Lib.itoa x.1.f1).toArray⟩ : ByteArray).size = (Lib.itoa x.1.f1).length := List.size_toArray
    have z4 : (⟨(Lib.itoa x.1.f2).toArray⟩ : ByteArray).size = (Lib.itoa x.1.f2).length := List.size_toArray
    have n1 : ¬ 9223372036854775807 < 1 + x.1.f0.size := by omega
    have n2 : ¬ 9223372036854775807 < 1 + x.1.f0.size + 1 := by omega
    have n3 : ¬ 9223372036854775807 < 1 + x.1.f0.size + 1 + (Lib.itoa x.1.f1).length := by omega
    have n4 : ¬ 9223372036854775807 < 1 + x.1.f0.size + 1 + (Lib.itoa x.1.f1).length + 1 := by omega
    have n5 : ¬ 9223372036854775807 < 1 + x.1.f0.size + 1 + (Lib.itoa x.1.f1).length + 1 + (Lib.itoa x.1.f2).length := by omega
    have HX := Aside0.mk hx
    have HF1 := Aside0.mk hf1
    have HF2 := Aside0.mk hf2
    have L1 := Aside0.mk l1
    have L2 := Aside0.mk l2
    have HI1 := Aside0.mk hI1
    have HB1' := Aside0.mk hB1
    have BX := Aside0.mk bX
    have HBX := Aside0.mk hBx
    have HBL := Aside0.mk hbl
    have HSUM := Aside0.mk hsum
    have HTS := Aside0.mk (legT_size x.1)
    clear hx hf1 hf2 l1 l2 hI1 hB1 bX hBx hbl hsum s0 t1 t2 t3 t4 z2 z4
    gi_wp2
    refine startR_ (n := 14) (S := fun w' => w'.cell? ⟨Bx, 0, none⟩ = some (.string x.1.f0) ∧ w'.cell? ⟨Bx, 1, none⟩ = some (.int .i64 x.1.f1) ∧ w'.cell? ⟨Bx, 2, none⟩ = some (.int .i64 x.1.f2)) (ds := []) #[false, false, false, false, false, false, false, false, false, false, false, false, false, false] (by kernel_rfl) rfl rfl (fun _ _ h => h) (by kernel_rfl) ⟨x0, x1, x2⟩ (fun hHeld => ?_)
    refine pure_ (i := 0) (N := some 15) (v := ?_) (a' := ?_) #[true, false, false, false, false, false, false, false, false, false, false, false, false, false] rfl rfl (by kernel_rfl) (fun _ _ _ h => h) (Or.inl ⟨by rfl, ?_⟩) ?_ ?_
    rotate_left
    · intro w'
      go_simp
      with_reducible rfl
    rotate_left
    · simp only [Act.put, List.setIfInBounds_toArray, List.set_cons_zero, List.set_cons_succ, i64_w, i32_w]
      rfl
    refine take_ (i := 1) (N := some 16) (v := ?_) (a' := ?_) #[true, true, false, false, false, false, false, false, false, false, false, false, false, false] rfl rfl (by kernel_rfl) (fun _ _ _ h => h) (Or.inl ⟨by rfl, ?_⟩) hHeld ?_ ?_
    rotate_left
    · rintro w' ⟨s0, s1, s2⟩
      go_simp
      with_reducible rfl
    rotate_left
    · simp only [Act.put, List.setIfInBounds_toArray, List.set_cons_zero, List.set_cons_succ, i64_w, i32_w]
      rfl
    refine pure_ (i := 2) (N := some 17) (v := ?_) (a' := ?_) #[true, true, true, false, false, false, false, false, false, false, false, false, false, false] rfl rfl (by kernel_rfl) (fun _ _ _ h => h) (Or.inl ⟨by rfl, ?_⟩) ?_ ?_
    rotate_left
    · intro w'
      go_simp
      with_reducible rfl
    rotate_left
    · simp only [Act.put, List.setIfInBounds_toArray, List.set_cons_zero, List.set_cons_succ, i64_w, i32_w]
      rfl
    refine pure_ (i := 3) (N := some 18) (v := ?_) (a' := ?_) #[true, true, true, true, false, false, false, false, false, false, false, false, false, false] rfl rfl (by kernel_rfl) (fun _ _ _ h => h) (Or.inl ⟨by rfl, ?_⟩) ?_ ?_
    rotate_left
    · intro w'
      go_simp
      with_reducible rfl
    rotate_left
    · simp only [Act.put, List.setIfInBounds_toArray, List.set_cons_zero, List.set_cons_succ, i64_w, i32_w]
      rfl
    refine pure_ (i := 4) (N := some 19) (v := ?_) (a' := ?_) #[true, true, true, true, true, false, false, false, false, false, false, false, false, false] rfl rfl (by kernel_rfl) (fun _ _ _ h => h) (Or.inl ⟨by rfl, ?_⟩) ?_ ?_
    rotate_left
    · intro w'
      go_simp
      with_reducible rfl
    rotate_left
    · simp only [Act.put, List.setIfInBounds_toArray, List.set_cons_zero, List.set_cons_succ, i64_w, i32_w]
      rfl
    refine take_ (i := 5) (N := some 20) (v := ?_) (a' := ?_) #[true, true, true, true, true, true, false, false, false, false, false, false, false, false] rfl rfl (by kernel_rfl) (fun _ _ _ h => h) (Or.inl ⟨by rfl, ?_⟩) hHeld ?_ ?_
    rotate_left
    · rintro w' ⟨s0, s1, s2⟩
      go_simp
      with_reducible rfl
    rotate_left
    · simp only [Act.put, List.setIfInBounds_toArray, List.set_cons_zero, List.set_cons_succ, i64_w, i32_w]
      rfl
    refine pure_ (i := 9) (N := some 24) (v := ?_) (a' := ?_) #[true, true, true, true, true, true, false, false, false, true, false, false, false, false] rfl rfl (by kernel_rfl) (fun _ _ _ h => h) (Or.inl ⟨by rfl, ?_⟩) ?_ ?_
    rotate_left
    · intro w'
      go_simp
      with_reducible rfl
    rotate_left
    · simp only [Act.put, List.setIfInBounds_toArray, List.set_cons_zero, List.set_cons_succ, i64_w, i32_w]
      rfl
    refine take_ (i := 10) (N := some 25) (v := ?_) (a' := ?_) #[true, true, true, true, true, true, false, false, false, true, true, false, false, false] rfl rfl (by kernel_rfl) (fun _ _ _ h => h) (Or.inl ⟨by rfl, ?_⟩) hHeld ?_ ?_
    rotate_left
    · rintro w' ⟨s0, s1, s2⟩
      go_simp
      with_reducible rfl
    rotate_left
    · simp only [Act.put, List.setIfInBounds_toArray, List.set_cons_zero, List.set_cons_succ, i64_w, i32_w]
      rfl
    refine one_ (i := 6) (N := some 21) #[true, true, true, true, true, true, true, false, false, true, true, false, false, false] rfl rfl (by kernel_rfl) (by decide) (fun K hK => ?_)
    refine goes_ Tryd.func24 (by kernel_rfl) rfl #[.int .i64 x.1.f1] (by rfl) rfl rfl (by (try simp only [List.map_toArray, List.map_cons, List.map_nil]); first | done | rfl) ?_
    refine (itoa_calls x.1.f1 HF1.out w _ HTAB.out (HB1'.out.trans ((Below.refl _ W).drew.mono HB1'.out.size))).mono ?_
    rintro e w4 ⟨rfl, hb4⟩
    refine ⟨_, rfl, ?_⟩
    have hd4 : Below W.heap.size W w4 := (Below.refl _ W).drew.trans hb4
    have HD4 := Aside0.mk hd4
    have bcs : ∀ {b o : Nat} {v : Value}, W.cell? ⟨b, o, none⟩ = some v → w4.cell? ⟨b, o, none⟩ = some v := fun h => (hd4.cell (World.block_lt_of_cell? _ _ h)).trans h
    refine hK.out _ _ ⟨bcs x0, bcs x1, bcs x2⟩ (fun hHeld => ?_)
    clear bcs hd4 hb4
    clear hK K
    refine norm_ (a' := ?_) ?_ ?_
    rotate_left
    · show Act.put _ (some 21) _ = _
      simp only [Act.put, List.setIfInBounds_toArray, List.set_cons_zero, List.set_cons_succ, i64_w, i32_w]
      rfl
    refine pure_ (i := 7) (N := some 22) (v := ?_) (a' := ?_) #[true, true, true, true, true, true, true, true, false, true, true, false, false, false] rfl rfl (by kernel_rfl) (fun _ _ _ h => h) (Or.inl ⟨by rfl, ?_⟩) ?_ ?_
    rotate_left
    · intro w'
      go_simp
      with_reducible rfl
    rotate_left
    · simp only [Act.put, List.setIfInBounds_toArray, List.set_cons_zero, List.set_cons_succ, i64_w, i32_w]
      rfl
    refine pure_ (i := 8) (N := some 23) (v := ?_) (a' := ?_) #[true, true, true, true, true, true, true, true, true, true, true, false, false, false] rfl rfl (by kernel_rfl) (fun _ _ _ h => h) (Or.inl ⟨by rfl, ?_⟩) ?_ ?_
    rotate_left
    · intro w'
      go_simp
      with_reducible rfl
    rotate_left
    · simp only [Act.put, List.setIfInBounds_toArray, List.set_cons_zero, List.set_cons_succ, i64_w, i32_w]
      rfl
    refine one_ (i := 11) (N := some 26) #[true, true, true, true, true, true, true, true, true, true, true, true, false, false] rfl rfl (by kernel_rfl) (by decide) (fun K hK => ?_)
    refine goes_ Tryd.func24 (by kernel_rfl) rfl #[.int .i64 x.1.f2] (by rfl) rfl rfl (by (try simp only [List.map_toArray, List.map_cons, List.map_nil]); first | done | rfl) ?_
    refine (itoa_calls x.1.f2 HF2.out w _ HTAB.out (HB1'.out.trans (HD4.out.mono HB1'.out.size))).mono ?_
    rintro e w5 ⟨rfl, hb5⟩
    refine ⟨_, rfl, ?_⟩
    have hd5 : Below W.heap.size W w5 := below_then HD4.out HD4.out.size hb5
    have HD5 := Aside0.mk hd5
    have bcs : ∀ {b o : Nat} {v : Value}, W.cell? ⟨b, o, none⟩ = some v → w5.cell? ⟨b, o, none⟩ = some v := fun h => (hd5.cell (World.block_lt_of_cell? _ _ h)).trans h
    refine hK.out _ _ ⟨bcs x0, bcs x1, bcs x2⟩ (fun hHeld => ?_)
    clear bcs hd5 hb5
    clear hK K
    refine norm_ (a' := ?_) ?_ ?_
    rotate_left
    · show Act.put _ (some 26) _ = _
      simp only [Act.put, List.setIfInBounds_toArray, List.set_cons_zero, List.set_cons_succ, i64_w, i32_w]
      rfl
    refine pure_ (i := 12) (N := some 27) (v := ?_) (a' := ?_) #[true, true, true, true, true, true, true, true, true, true, true, true, true, false] rfl rfl (by kernel_rfl) (fun _ _ _ h => h) (Or.inl ⟨by rfl, ?_⟩) ?_ ?_
    rotate_left
    · intro w'
      go_simp
      with_reducible rfl
    rotate_left
    · simp only [Act.put, List.setIfInBounds_toArray, List.set_cons_zero, List.set_cons_succ, i64_w, i32_w]
      rfl
    refine one_ (i := 13) (N := some 28) #[true, true, true, true, true, true, true, true, true, true, true, true, true, true] rfl rfl (by kernel_rfl) (by decide) (fun K hK => ?_)
    refine goes_ Tryd.func23 (by kernel_rfl) rfl #[.pointer (some ⟨w1.heap.size, 0, none⟩), .string (legT x.1)] (by rfl) rfl rfl (by (try simp only [List.map_toArray, List.map_cons, List.map_nil]); first | done | rfl) ?_
    refine (Tryd.Builder_WriteString_k w1.heap.size w1.heap.size _ (legT x.1) w5 (builder_below HI1.out HD5.out) (by rw [HTS.out]; have := HSUM.out; have := HX.out; have := L1.out; have := L2.out; omega) (Nat.le_trans HBL.out HD5.out.size)).mono ?_
    rintro e w6 ⟨rfl, hI6, hb6, hk6⟩
    refine ⟨_, rfl, ?_⟩
    have hne : Bx ≠ w1.heap.size := builder_ne HI1.out BX.out (by decide)
    have hbx : w6.heap[Bx]? = some (.cells #[.string x.1.f0, .int .i64 x.1.f1, .int .i64 x.1.f2] 45 (0, 0)) := hk6 Bx _ ((HD5.out.block Bx HBX.out).trans BX.out) (by simpa using hne) (fun c fz e' => by cases e')
    have HI6 := Aside0.mk hI6
    have HB6 := Aside0.mk hb6
    have HK6 := Aside0.mk hk6
    refine hK.out _ _ ⟨(cell_of_row w6 _ 0 _ _ _ hbx).trans rfl, (cell_of_row w6 _ 1 _ _ _ hbx).trans rfl, (cell_of_row w6 _ 2 _ _ _ hbx).trans rfl⟩ (fun hHeld => ?_)
    clear hne hbx hI6 hb6 hk6
    clear hK K
    refine norm_ (a' := ?_) ?_ ?_
    rotate_left
    · show Act.put _ (some 28) _ = _
      simp only [Act.put, List.setIfInBounds_toArray, List.set_cons_zero, List.set_cons_succ, i64_w, i32_w]
      rfl
    refine done_ (by kernel_rfl) ?_
    have hb5 : Below w.heap.size W w5 := HD5.out.mono HB1'.out.size
    have hb6 : Below w.heap.size W w6 := hb5.trans (HB6.out.mono (Nat.le_of_lt HLT2.out))
    refine ⟨(keeps_below HD5.out).trans (keeps_others (builder_below HI1.out HD5.out) HK6.out HB6.out.size), hb6, ?_, HB1'.out.trans hb6⟩
    have e1 : Lib.byteCells (postText id ((pre ++ [x]).map (fun y : LegF => y.1))) = Lib.byteCells (postText id (pre.map (fun y : LegF => y.1))) ++ Lib.strCells (legT x.1) := by
      rw [List.map_append, List.map_cons, List.map_nil, postText_snoc, Lib.strCells_eq, legT_eq, Lib.byteCells_append]
    rw [e1]
    exact .inr HI6.out
  case done =>
    rintro D zs W hD rfl ⟨hI1, hB1⟩ hK
    have hbs : w1.heap.size ≤ W.heap.size := by have := builder_lt hI1; omega
    gi_wp2_with (refine ⟨trivial, ?_⟩; gi_at_call 26; refine (callsIn_wide.2 (Tryd.Builder_String_any_k w1.heap.size w1.heap.size _ W hI1 hbs)).mono ?_; rintro e w4 ⟨rfl, hI5, hb5, hk5⟩)
    have hne : some D ≠ some w1.heap.size := by
      intro e
      obtain rfl : D = w1.heap.size := by simpa using e
      rcases hI1 with ⟨_, v, hb, _⟩ | ⟨_, v, hb, _⟩ <;> (rw [hb] at hK; cases hK)
    have hK4 := hk5 D _ hK hne (fun c fz e => by cases e)
    refine ⟨by simp, .inl ⟨_, _, rfl, run_takeDeferred hK4, ?_⟩⟩
    refine ⟨_, results_tmp rfl _ _ _, by simp, ?_⟩
    exact (hB1.trans (hb5.mono (Nat.le_of_lt HLT2.out))).trans (belowK_b (w := w) (Nat.le_refl _) w4 D _ _ (by omega) hK4 rfl rfl)
  case stop =>
    rintro D c pre W _ _ h _
    exact h.elim
/-- What PostText answers. -/
def impl_PostText.f (k : Nat) (a0_0 : Int) (l0_1 : List S45) : Option ByteArray := (impl_PostOk.f k a0_0 l0_1).bind fun t => if t = true then (if postFits a0_0 l0_1 = true then some ⟨(postText a0_0 l0_1).toArray⟩ else none) else some ⟨#[]⟩
theorem impl_PostText.mono : ∀ a0 a1 k, LeO (impl_PostText.f k a0 a1) (impl_PostText.f (k + 1) a0 a1) := by
  intro a0 a1 k
  unfold impl_PostText.f
  exact LeO.bind (impl_PostOk.mono a0 a1 k) (fun _ => LeO.refl _)
theorem impl_PostText.calls (k : Nat) (a0_0 : Int) (A0_1 : Option Addr) (c0_1 : Nat) (l0_1 : List (S45)) (r : ByteArray) (w : World) (htab : Tab w) (hr0_1 : Kd.C k45 w A0_1 l0_1.length l0_1) (hc0_1 : l0_1.length ≤ c0_1) (h : impl_PostText.f k a0_0 l0_1 = some r) :
    Calls Tryd.prog 9 #[.agg #[.int .i64 a0_0, .slice A0_1 l0_1.length c0_1]] w fun e w' => e = .returned (.string r) ∧ Below w.heap.size w w' := by
  obtain ⟨ok, hok, hr⟩ := Option.bind_eq_some_iff.1 h
  cases ok with
  | false =>
    rw [if_neg (by decide)] at hr
    obtain rfl := Option.some.inj hr
    exact postText_no k a0_0 A0_1 c0_1 l0_1 w hr0_1 hc0_1 hok
  | true =>
    rw [if_pos rfl] at hr
    by_cases hf : postFits a0_0 l0_1 = true
    · rw [if_pos hf] at hr
      obtain rfl := Option.some.inj hr
      simp only [postFits, Bool.and_eq_true, decide_eq_true_eq] at hf
      obtain ⟨ys, rfl⟩ := legF_of l0_1 hf.2.2
      rw [List.length_map] at hr0_1 hc0_1 hf ⊢
      exact postText_calls k a0_0 A0_1 c0_1 ys w hr0_1 hc0_1 hf.1 hf.2.1 htab hok
    · rw [if_neg hf] at hr
      cases hr
end

/-! ### spec_l9Cut: function 28 -/
def spec_l9Cut.l0 : Nat → ByteArray → Int → List ByteArray → Int → Int → Option (List ByteArray)
  | 0, _, _, _, _, _ => none
  | k + 1, x0, x1, x5, x6, x7 => if x7 ≤ (x0.size : Int) then (if x7 = (x0.size : Int) then (if 0 ≤ x6 then (if x6 ≤ x7 then (if x5.length < 8796093022208 then (spec_l9Cut.l0 k x0 x1 (x5 ++ [x0.extract (x6 : Int).toNat (x7 : Int).toNat]) (wrap64 (x7 + 1)) (wrap64 (x7 + 1))) else (none)) else (none)) else (none)) else (if 0 ≤ x7 then (if x7 < (x0.size : Int) then (if (bt x0 x7) = x1 then (if 0 ≤ x6 then (if x6 ≤ x7 then (if x5.length < 8796093022208 then (spec_l9Cut.l0 k x0 x1 (x5 ++ [x0.extract (x6 : Int).toNat (x7 : Int).toNat]) (wrap64 (x7 + 1)) (wrap64 (x7 + 1))) else (none)) else (none)) else (none)) else (spec_l9Cut.l0 k x0 x1 x5 x6 (wrap64 (x7 + 1)))) else (none)) else (none))) else (some x5)
def spec_l9Cut.f (k : Nat) (a0 : ByteArray) (a1 : Int) : Option (List ByteArray) := spec_l9Cut.l0 k a0 a1 (([] : List ByteArray)) 0 0
theorem spec_l9Cut.mono_l : ∀ k, (∀ y0 y1 y2 y3 y4, LeO (spec_l9Cut.l0 k y0 y1 y2 y3 y4) (spec_l9Cut.l0 (k + 1) y0 y1 y2 y3 y4))
  | 0 => fun _ _ _ _ _ r h => by simp [spec_l9Cut.l0] at h
  | k + 1 => by
    have ih0 := spec_l9Cut.mono_l k
    · intro y0 y1 y2 y3 y4
      unfold spec_l9Cut.l0
      repeat' first
      | (with_reducible exact ih0 _ _ _ _ _)
      | (with_reducible exact LeO.refl _)
      | (with_reducible exact LeO.none _)
      | (with_reducible refine LeO.ite ?_ ?_)
      | (with_reducible refine LeO.bind ?_ (fun _ => ?_))
      | exact ih0 _ _ _ _ _
      | exact LeO.none _
      | refine LeO.ite ?_ ?_
      | refine LeO.bind ?_ (fun _ => ?_)
theorem spec_l9Cut.mono : ∀ a0 a1 k, LeO (spec_l9Cut.f k a0 a1) (spec_l9Cut.f (k + 1) a0 a1) := by
  intro a0 a1 k
  have ih0 := spec_l9Cut.mono_l k
  unfold spec_l9Cut.f
  repeat' first
      | (with_reducible exact ih0 _ _ _ _ _)
      | (with_reducible exact LeO.refl _)
      | (with_reducible exact LeO.none _)
      | (with_reducible refine LeO.ite ?_ ?_)
      | (with_reducible refine LeO.bind ?_ (fun _ => ?_))
      | exact ih0 _ _ _ _ _
      | exact LeO.none _
      | refine LeO.ite ?_ ?_
      | refine LeO.bind ?_ (fun _ => ?_)
set_option maxHeartbeats 8000000 in
set_option maxRecDepth 100000 in
theorem spec_l9Cut.calls (k : Nat) (a0 : ByteArray) (a1 : Int) (r : List ByteArray) (w : World) (h : spec_l9Cut.f k a0 a1 = some r) :
  Calls Tryd.prog 28 #[.string a0, .int .u8 a1] w fun e w' => ∃ v0_ : Value, e = .returned (v0_) ∧ Kd.R Kd.string 9 w' w.heap.size (fun _ => True) v0_ r ∧ Below w.heap.size w w' := by
 have HB := Aside0.mk (Below.refl w.heap.size w)
 have H : (spec_l9Cut.l0 k a0 a1 (([] : List ByteArray)) 0 0) = some r := h
 clear h
 obtain ⟨y127, hy127⟩ : ∃ y_ : List ByteArray, y_ = (([] : List ByteArray)) := ⟨_, rfl⟩
 replace H : (spec_l9Cut.l0 k a0 a1 y127 0 0) = some r := by first | (rw [hy127]; with_reducible exact H) | (have H2_ := (Option.bind_some _ _).symm.trans H; rw [hy127]; with_reducible exact H2_) | (have H2_ := (Option.bind_some _ _).symm.trans H; with_reducible exact H2_) | with_reducible exact H | (rw [hy127]; exact H) | exact H
 have Ny127 := Aside0.mk hy127
 clear hy127
 have H' := Aside0.mk H
 clear H
 go_enter Tryd.func28, Tryd.ntmps28
 go_wp2_with (first | ((with_reducible refine gate_dst (N := 8) rfl ?_); refine Kd.R_lit Kd.string _ 9 ?hg (N := 8) ?hd (xs := ([] : List ByteArray)) (inner := []) (ok := fun _ => True) (okp := fun _ => True) ?hr ?hp (fun _ hk => hk) trivial (Below.refl _ _) (Nat.le_refl _) (by simp) ?_; (case hd => rfl); (case hg => rfl); (case hr => first | (go_simp; done) | (go_simp; rfl)); (case hp => exact (Reps.none _ _)); intro v128 w3 ho4 hb hg_ hnew_; clear hg_ hnew_; (first | rw [← Ny127.out] at ho4 | (simp only [Int.reduceToNat] at ho4; rw [← Ny127.out] at ho4)); have HO129 := Aside0.mk (Kd.R_lower ho4 (below_size (by repeat (first | (with_reducible first | exact HB.out | apply below_alloc | apply pw_below_drewN | apply below_drew1) | exact HB.out)))); replace HB := Aside0.mk (below_step (by repeat (first | (with_reducible first | exact HB.out | apply below_alloc | apply pw_below_drewN | apply below_drew1) | exact HB.out)) hb); clear hb ho4))
 go_loopg [5, 6, 7] k (fun kq v5 v6 v7 w' => ∃ (x5_1 : List ByteArray) (x6_1 : Int) (x7_1 : Int), v6 = .int .i64 x6_1 ∧ v7 = .int .i64 x7_1 ∧ Aside0 (spec_l9Cut.l0 kq a0 a1 x5_1 x6_1 x7_1 = some r) ∧ Aside0 (kq ≤ k) ∧ Aside0 (Kd.R Kd.string 9 w' w.heap.size (fun _ => True) v5 x5_1) ∧ Aside0 (Below w.heap.size w w'))
 case atStart => exact ⟨(y127), (0), (0), (by first | rfl | (simp; done) | (simp [*]; done)), (by first | rfl | (simp; done) | (simp [*]; done)), H', ⟨Nat.le_refl _⟩, ⟨by (with_reducible repeat (first | apply Kd.R_alloc | apply Kd.R_drewN | apply Kd.R_drew)); exact HO129.out⟩, ⟨by repeat (first | (with_reducible first | exact HB.out | apply below_alloc | apply pw_below_drewN | apply below_drew1) | exact HB.out)⟩⟩
 case round =>
  clear H'
  try clear c2
  try clear p2
  obtain ⟨x5_1, x6_1, x7_1, rfl, rfl, HA, HK1, HO_5, HB⟩ := hrel
  cases gk with
  | zero => exact absurd HA.out (by simp [spec_l9Cut.l0])
  | succ k1 =>
   have H := HA.out
   clear HA
   simp only [spec_l9Cut.l0] at H
   by_cases c5 : x7_1 ≤ (a0.size : Int)
   rotate_left
   ·
    rw [if_neg c5] at H
    have c5b0 : decide (x7_1 ≤ (a0.size : Int)) = false := decide_eq_false c5
    clear c5
    obtain rfl := Option.some.inj H
    go_wp2
    go_ret
    exact ⟨_, by first | rfl | (simp [errW_none, errW_some] <;> rfl) | (simp [*, errW_none, errW_some] <;> rfl), by (with_reducible repeat (first | apply Kd.R_alloc | apply Kd.R_drewN | apply Kd.R_drew)); exact HO_5.out, by repeat (first | (with_reducible first | exact HB.out | apply below_alloc | apply pw_below_drewN | apply below_drew1) | exact HB.out)⟩
   rw [if_pos c5] at H
   have c5b0 : decide (x7_1 ≤ (a0.size : Int)) = true := decide_eq_true c5
   clear c5
   by_cases c6 : x7_1 = (a0.size : Int)
   ·
    rw [if_pos c6] at H
    have c6b0 : (x7_1 == (a0.size : Int)) = true := beq_iff_eq.mpr c6
    have c6b1 : (x7_1 != (a0.size : Int)) = false := bne_eq_false_iff_eq.mpr c6
    clear c6
    by_cases c7 : 0 ≤ x6_1
    rotate_left
    ·
     rw [if_neg c7] at H
     exact absurd H (by simp)
    rw [if_pos c7] at H
    have c7b0 := eq_true c7
    have c7b1 : decide (0 ≤ x6_1) = true := decide_eq_true c7
    clear c7
    by_cases c8 : x6_1 ≤ x7_1
    rotate_left
    ·
     rw [if_neg c8] at H
     exact absurd H (by simp)
    rw [if_pos c8] at H
    have c8b0 := eq_true c8
    have c8b1 : decide (x6_1 ≤ x7_1) = true := decide_eq_true c8
    clear c8
    have c9b0 := eq_true (of_decide_eq_true (by first | (with_reducible assumption) | assumption) : x7_1 ≤ (a0.size : Int))
    by_cases c10 : x5_1.length < 8796093022208
    rotate_left
    ·
     rw [if_neg c10] at H
     exact absurd H (by simp)
    rw [if_pos c10] at H
    have LMc10 := Aside0.mk c10
    clear c10
    obtain ⟨y130, hy130⟩ : ∃ y_ : List ByteArray, y_ = (x5_1 ++ [a0.extract (x6_1 : Int).toNat (x7_1 : Int).toNat]) := ⟨_, rfl⟩
    replace H : (spec_l9Cut.l0 k1 a0 a1 y130 (wrap64 (x7_1 + 1)) (wrap64 (x7_1 + 1))) = some r := by first | (rw [hy130]; with_reducible exact H) | (have H2_ := (Option.bind_some _ _).symm.trans H; rw [hy130]; with_reducible exact H2_) | (have H2_ := (Option.bind_some _ _).symm.trans H; with_reducible exact H2_) | with_reducible exact H | (rw [hy130]; exact H) | exact H
    have Ny130 := Aside0.mk hy130
    clear hy130
    have H' := Aside0.mk H
    clear H
    go_wp2_with (first | ((with_reducible refine gate_builtin (b := .append) (xs := #[.tmp 26, .tmp 31]) rfl ?_); at_builtin; refine Kd.R_append Kd.string (w0 := w) w.heap.size rfl (.tmp 26) (.tmp 31) 59 9 (.string ⟨#[]⟩) 16 rfl Tryd.underlying59 info9 rfl (by decide) (by omega) u5 x5_1 (a0.extract (x6_1 : Int).toNat (x7_1 : Int).toNat) [.string (a0.extract (x6_1 : Int).toNat (x7_1 : Int).toNat)] (fun _ => True) (fun _ => False) rfl rfl ?aP (fun _ hk => hk.elim) ?aF ?aO ?aB ?aS ?aL ?_; (case aP => exact rfl); (case aB => exact (by repeat (first | (with_reducible first | exact HB.out | apply below_alloc | apply pw_below_drewN | apply below_drew1) | exact HB.out))); (case aF => exact (fun _ _ => trivial)); (case aO => exact (lo_ HO_5)); (case aS => exact (below_size (by repeat (first | (with_reducible first | exact HB.out | apply below_alloc | apply pw_below_drewN | apply below_drew1) | exact HB.out)))); (case aL => have := LMc10.out; omega); intro v131 w11 ho hb hg hat; rw [← Ny130.out] at ho; have n0_ := Aside0.mk (hb); have n1_ := Aside0.mk (ho); clear HB; clear HO_5; have HB := n0_; have HO132 := n1_; clear n0_ n1_; clear ho hb hg hat))
    go_roundg k1
    case measure => have := HK1.out; omega
    case rel => exact ⟨(y130), (wrap64 (x7_1 + 1)), (wrap64 (x7_1 + 1)), (by first | rfl | (simp; done) | (simp [*]; done)), (by first | rfl | (simp; done) | (simp [*]; done)), H', ⟨by have := HK1.out; omega⟩, ⟨by (with_reducible repeat (first | apply Kd.R_alloc | apply Kd.R_drewN | apply Kd.R_drew)); exact HO132.out⟩, ⟨by repeat (first | (with_reducible first | exact HB.out | apply below_alloc | apply pw_below_drewN | apply below_drew1) | exact HB.out)⟩⟩
   rw [if_neg c6] at H
   have c6b0 : (x7_1 == (a0.size : Int)) = false := beq_eq_false_iff_ne.mpr c6
   have c6b1 : (x7_1 != (a0.size : Int)) = true := bne_iff_ne.mpr c6
   by_cases c12 : 0 ≤ x7_1
   rotate_left
   ·
    rw [if_neg c12] at H
    exact absurd H (by simp)
   rw [if_pos c12] at H
   have c12b0 : decide (0 ≤ x7_1) = true := decide_eq_true c12
   clear c12
   by_cases c13 : x7_1 < (a0.size : Int)
   rotate_left
   ·
    rw [if_neg c13] at H
    exact absurd H (by simp)
   rw [if_pos c13] at H
   have c13b0 : decide (x7_1 < (a0.size : Int)) = true := decide_eq_true c13
   clear c13
   by_cases c15 : (bt a0 x7_1) = a1
   rotate_left
   ·
    rw [if_neg c15] at H
    have c15b0 : ((bt a0 x7_1) == a1) = false := beq_eq_false_iff_ne.mpr c15
    have c15b1 : ((bt a0 x7_1) != a1) = true := bne_iff_ne.mpr c15
    have H' := Aside0.mk H
    clear H
    have p14 : 0 ≤ (x7_1 : Int) := of_decide_eq_true (by first | (with_reducible assumption) | assumption)
    have q14 : x7_1 < (a0.size : Int) := of_decide_eq_true (by first | (with_reducible assumption) | assumption)
    have hx14 := bt_at a0 x7_1
    replace p14 := eq_true p14
    replace q14 := eq_true q14
    go_wp2
    go_roundg k1
    case measure => have := HK1.out; omega
    case rel => exact ⟨(x5_1), (x6_1), (wrap64 (x7_1 + 1)), (by first | rfl | (simp; done) | (simp [*]; done)), (by first | rfl | (simp; done) | (simp [*]; done)), H', ⟨by have := HK1.out; omega⟩, ⟨by (with_reducible repeat (first | apply Kd.R_alloc | apply Kd.R_drewN | apply Kd.R_drew)); exact HO_5.out⟩, ⟨by repeat (first | (with_reducible first | exact HB.out | apply below_alloc | apply pw_below_drewN | apply below_drew1) | exact HB.out)⟩⟩
   rw [if_pos c15] at H
   have c15b0 : ((bt a0 x7_1) == a1) = true := beq_iff_eq.mpr c15
   have c15b1 : ((bt a0 x7_1) != a1) = false := bne_eq_false_iff_eq.mpr c15
   clear c15
   by_cases c16 : 0 ≤ x6_1
   rotate_left
   ·
    rw [if_neg c16] at H
    exact absurd H (by simp)
   rw [if_pos c16] at H
   have c16b0 := eq_true c16
   have c16b1 : decide (0 ≤ x6_1) = true := decide_eq_true c16
   clear c16
   by_cases c17 : x6_1 ≤ x7_1
   rotate_left
   ·
    rw [if_neg c17] at H
    exact absurd H (by simp)
   rw [if_pos c17] at H
   have c17b0 := eq_true c17
   have c17b1 : decide (x6_1 ≤ x7_1) = true := decide_eq_true c17
   clear c17
   have c18b0 := eq_true (of_decide_eq_true (by first | (with_reducible assumption) | assumption) : x7_1 ≤ (a0.size : Int))
   by_cases c19 : x5_1.length < 8796093022208
   rotate_left
   ·
    rw [if_neg c19] at H
    exact absurd H (by simp)
   rw [if_pos c19] at H
   have LMc19 := Aside0.mk c19
   clear c19
   obtain ⟨y133, hy133⟩ : ∃ y_ : List ByteArray, y_ = (x5_1 ++ [a0.extract (x6_1 : Int).toNat (x7_1 : Int).toNat]) := ⟨_, rfl⟩
   replace H : (spec_l9Cut.l0 k1 a0 a1 y133 (wrap64 (x7_1 + 1)) (wrap64 (x7_1 + 1))) = some r := by first | (rw [hy133]; with_reducible exact H) | (have H2_ := (Option.bind_some _ _).symm.trans H; rw [hy133]; with_reducible exact H2_) | (have H2_ := (Option.bind_some _ _).symm.trans H; with_reducible exact H2_) | with_reducible exact H | (rw [hy133]; exact H) | exact H
   have Ny133 := Aside0.mk hy133
   clear hy133
   have H' := Aside0.mk H
   clear H
   have p14 : 0 ≤ (x7_1 : Int) := of_decide_eq_true (by first | (with_reducible assumption) | assumption)
   have q14 : x7_1 < (a0.size : Int) := of_decide_eq_true (by first | (with_reducible assumption) | assumption)
   have hx14 := bt_at a0 x7_1
   replace p14 := eq_true p14
   replace q14 := eq_true q14
   go_wp2_with (first | ((with_reducible refine gate_builtin (b := .append) (xs := #[.tmp 26, .tmp 31]) rfl ?_); at_builtin; refine Kd.R_append Kd.string (w0 := w) w.heap.size rfl (.tmp 26) (.tmp 31) 59 9 (.string ⟨#[]⟩) 16 rfl Tryd.underlying59 info9 rfl (by decide) (by omega) u5 x5_1 (a0.extract (x6_1 : Int).toNat (x7_1 : Int).toNat) [.string (a0.extract (x6_1 : Int).toNat (x7_1 : Int).toNat)] (fun _ => True) (fun _ => False) rfl rfl ?aP (fun _ hk => hk.elim) ?aF ?aO ?aB ?aS ?aL ?_; (case aP => exact rfl); (case aB => exact (by repeat (first | (with_reducible first | exact HB.out | apply below_alloc | apply pw_below_drewN | apply below_drew1) | exact HB.out))); (case aF => exact (fun _ _ => trivial)); (case aO => exact (lo_ HO_5)); (case aS => exact (below_size (by repeat (first | (with_reducible first | exact HB.out | apply below_alloc | apply pw_below_drewN | apply below_drew1) | exact HB.out)))); (case aL => have := LMc19.out; omega); intro v134 w20 ho hb hg hat; rw [← Ny133.out] at ho; have n0_ := Aside0.mk (hb); have n1_ := Aside0.mk (ho); clear HB; clear HO_5; have HB := n0_; have HO135 := n1_; clear n0_ n1_; clear ho hb hg hat))
   go_roundg k1
   case measure => have := HK1.out; omega
   case rel => exact ⟨(y133), (wrap64 (x7_1 + 1)), (wrap64 (x7_1 + 1)), (by first | rfl | (simp; done) | (simp [*]; done)), (by first | rfl | (simp; done) | (simp [*]; done)), H', ⟨by have := HK1.out; omega⟩, ⟨by (with_reducible repeat (first | apply Kd.R_alloc | apply Kd.R_drewN | apply Kd.R_drew)); exact HO135.out⟩, ⟨by repeat (first | (with_reducible first | exact HB.out | apply below_alloc | apply pw_below_drewN | apply below_drew1) | exact HB.out)⟩⟩


end Go.Proofs.YtdjohhobmipagaaDoor.QFnPost
