/- What the law FnMerge reaches, function by function: what each computes, and that the machine's call comes to it. Laid by a program. -/
import Derived.RegionTactic
import Derived.BigRegion
import Derived.StillTailTactics
import Derived.Shelf.RegionOpenPlain
import Derived.Test.YtcfebbhiehaocaaQFnMergex0
import Derived.Test.YtcfebbhiehaocaaQFnMergex5
import Derived.Test.YtcfebbhiehaocaaQFnMergex6
namespace Go.Proofs.Ytcfebbhiehaocaa.QFnMerge
open Go.RowKit Go.Proofs.YtcfebbhiehaocaaW.PrintWords Go.Proofs.YtcfebbhiehaocaaW.PrintLast Go.Proofs.YtcfebbhiehaocaaW.PrintMore
attribute [local go_sem] max2_int min2_int max_two min_two max_three min_three max_four min_four   -- for this text's walks alone
set_option linter.unusedVariables false
set_option linter.unusedSimpArgs false

/-! ### impl_MergeAll: function 25 -/
section
/-! #### The heap's own methods, through its interface -/
theorem hid_ {p : Prop} (h : p) : Hid p := h
theorem load_me (p : Addr) (A : Option Addr) (n c : Nat) (w : World) (h : w.cell? p = some (.slice A n c)) : (loadVar 71 p).run Try.prog w = .ok (.slice A n c) w := by
  rw [show (loadVar 71 p).run Try.prog w = (load p).run Try.prog w by kernel_rfl]
  simp [go_sem, h]
theorem recv_me (p : Addr) (A : Option Addr) (n c : Nat) (w : World) (s : String) (h : w.cell? p = some (.slice A n c)) : (receiverAt 77 (.val (.pointer (some p))) false (some s)).run Try.prog w = .ok (.slice A n c) w := by
  rw [receiverAt, Sem.run_bind, show (underlying 77).run Try.prog w = .ok (.pointer 71) w by kernel_rfl, Result.andThen_ok]
  show ((Sem.run Try.prog (loadVar 71 p)) w) = _
  exact load_me p A n c w h
theorem me_of (nm : String) (f : Nat) (hf : ∃ m, Array.find? (fun x => x.name == nm) Try.prog.types[77]!.methods = some m ∧ m.path = #[] ∧ m.func = some (f, false)) (p : Addr) (A : Option Addr) (n c : Nat) (w : World) (h : w.cell? p = some (.slice A n c)) : (method 236 77 (.pointer (some p)) nm).run Try.prog w = .ok (f, .slice A n c) w := by
  obtain ⟨m, hm, h1, h2⟩ := hf
  rw [method, Sem.run_bind, show (typeInfo 77).run Try.prog w = .ok (Try.prog.types[77]!) w by kernel_rfl, Result.andThen_ok, hm]
  simp only [h1, h2, follow, Sem.run_bind, Sem.run_pure, Result.andThen_ok, Array.isEmpty]
  rw [if_pos (by decide), recv_me p A n c w _ h]
  rfl
theorem me_len (p : Addr) (A : Option Addr) (n c : Nat) (w : World) (h : w.cell? p = some (.slice A n c)) : (method 236 77 (.pointer (some p)) "Len").run Try.prog w = .ok (109, .slice A n c) w :=
  me_of "Len" 109 ⟨(Array.find? (fun x => x.name == "Len") Try.prog.types[77]!.methods).getD default, by kernel_rfl, by kernel_rfl, by kernel_rfl⟩ p A n c w h
theorem me_less (p : Addr) (A : Option Addr) (n c : Nat) (w : World) (h : w.cell? p = some (.slice A n c)) : (method 236 77 (.pointer (some p)) "Less").run Try.prog w = .ok (110, .slice A n c) w :=
  me_of "Less" 110 ⟨(Array.find? (fun x => x.name == "Less") Try.prog.types[77]!.methods).getD default, by kernel_rfl, by kernel_rfl, by kernel_rfl⟩ p A n c w h
theorem me_swap (p : Addr) (A : Option Addr) (n c : Nat) (w : World) (h : w.cell? p = some (.slice A n c)) : (method 236 77 (.pointer (some p)) "Swap").run Try.prog w = .ok (111, .slice A n c) w :=
  me_of "Swap" 111 ⟨(Array.find? (fun x => x.name == "Swap") Try.prog.types[77]!.methods).getD default, by kernel_rfl, by kernel_rfl, by kernel_rfl⟩ p A n c w h
theorem me_pop (p : Addr) (w : World) : (method 236 77 (.pointer (some p)) "Pop").run Try.prog w = .ok (112, .pointer (some p)) w := by kernel_rfl
theorem na_len (p : Addr) (w : World) : (nilAhead 236 77 (.pointer (some p)) "Len").run Try.prog w = .ok (some false) w := by kernel_rfl
theorem na_less (p : Addr) (w : World) : (nilAhead 236 77 (.pointer (some p)) "Less").run Try.prog w = .ok (some false) w := by kernel_rfl
theorem na_swap (p : Addr) (w : World) : (nilAhead 236 77 (.pointer (some p)) "Swap").run Try.prog w = .ok (some false) w := by kernel_rfl
theorem na_pop (p : Addr) (w : World) : (nilAhead 236 77 (.pointer (some p)) "Pop").run Try.prog w = .ok (some false) w := by kernel_rfl
/-! #### The heads, as the machine holds them -/
/-- A list of entries that is read at some place of a row of entries. -/
def LeftAt (w : World) (N : Nat) (v : Value) (l : List S48) : Prop := ∃ b o c cs, v = .slice (some ⟨b, o, none⟩) l.length c ∧ l.length ≤ c ∧ (w.heap[b]? = some (.cells cs 48 (0, 0)) ∧ b < N) ∧ Kd.C k48 w (some ⟨b, o, none⟩) l.length l
/-- What happens to the heap's row and to its variable alone. -/
structure Moves (g gh : Nat) (w w' : World) : Prop where
  low : ∀ B, B ≤ g → B ≤ gh → B ≤ w.heap.size → Below B w w'
  keep : ∀ k, k < w.heap.size → k ≠ g → k ≠ gh → w'.heap[k]? = w.heap[k]?
theorem Moves.refl (g gh : Nat) (w : World) : Moves g gh w w := ⟨fun B _ _ _ => Below.refl B w, fun _ _ _ _ => rfl⟩
theorem Moves.size {g gh : Nat} {w w' : World} (h : Moves g gh w w') : w.heap.size ≤ w'.heap.size := (h.low 0 (Nat.zero_le _) (Nat.zero_le _) (Nat.zero_le _)).size
theorem Moves.trans {g gh : Nat} {w w1 w2 : World} (h : Moves g gh w w1) (k : Moves g gh w1 w2) : Moves g gh w w2 :=
  ⟨fun B h1 h2 h3 => (h.low B h1 h2 h3).trans (k.low B h1 h2 (Nat.le_trans h3 h.size)), fun j h1 h2 h3 => (k.keep j (Nat.lt_of_lt_of_le h1 h.size) h2 h3).trans (h.keep j h1 h2 h3)⟩
theorem Moves.of_below {g gh : Nat} {w w' : World} (h : Below w.heap.size w w') : Moves g gh w w' := ⟨fun B _ _ h3 => h.mono h3, fun k h1 _ _ => h.block k h1⟩
theorem Moves.drew {g gh : Nat} {w w' : World} (h : Moves g gh w w') : Moves g gh w w'.drew := ⟨fun B h1 h2 h3 => (h.low B h1 h2 h3).drew, h.keep⟩
theorem Moves.set {g gh : Nat} {w w' : World} (h : Moves g gh w w') (p : Addr) (hp : p.block = g ∨ p.block = gh) (u : Value) : Moves g gh w (w'.setCell p u) :=
  ⟨fun B h1 h2 h3 => (h.low B h1 h2 h3).setCell (by rcases hp with e | e <;> rw [e] <;> assumption) u, fun k h1 h2 h3 => (Below.heap_setCell w' p u k (by rcases hp with e | e <;> rw [e] <;> assumption)).trans (h.keep k h1 h2 h3)⟩
theorem Moves.alloc {g gh : Nat} {w w' : World} (h : Moves g gh w w') (o : Obj) : Moves g gh w (w'.alloc o) := h.trans (Moves.of_below ((Below.refl _ w').alloc (Nat.le_refl _) o))
theorem addr_add (b o n : Nat) : (⟨b, o, none⟩ : Addr).add n = ⟨b, o + n, none⟩ := by
  unfold Addr.add
  split
  · next h => rw [h]; rfl
  · rfl
theorem k_entry_move {w w' : World} {x : S48} {cs : List Value} (h : k48.K w x cs) : k48.K w' x cs := by
  rw [k48_open h]
  exact k48_mk w' x
theorem LeftAt.move {w w' : World} {N : Nat} {v : Value} {l : List S48} (h : LeftAt w N v l) (hm : ∀ (b : Nat) (cs : Array Value), b < N → w.heap[b]? = some (.cells cs 48 (0, 0)) → w'.heap[b]? = some (.cells cs 48 (0, 0))) : LeftAt w' N v l := by
  obtain ⟨b, o, c, cs, e, hc, ⟨hb, hN⟩, h1, h2, h3⟩ := h
  refine ⟨b, o, c, cs, e, hc, ⟨hm b cs hN hb, hN⟩, h1, h2, fun hp => ?_⟩
  obtain ⟨ad, ea, h4⟩ := h3 hp
  obtain rfl := Option.some.inj ea
  refine ⟨_, rfl, fun j p hj => ?_⟩
  obtain ⟨c', h5, h6, h7⟩ := h4 j p hj
  refine ⟨c', h5, k_entry_move h6, fun i u hi => ?_⟩
  have h8 := h7 i u hi
  have e1 : (⟨b, o, none⟩ : Addr).add (j * k48.sz + i) = ⟨b, o + (j * k48.sz + i), none⟩ := addr_add _ _ _
  rw [e1] at h8 ⊢
  rw [blk_cell hb] at h8
  rw [blk_cell (hm b cs hN hb)]
  exact h8
/-- The heap's row. -/
def HeadsAt (w : World) (N g cap : Nat) (hs : List S75) : Prop := ∃ cells : Array Value, w.heap[g]? = some (.cells cells 75 (0, 0)) ∧ cells.size = cap * 2 ∧ hs.length ≤ cap ∧ hs.length ≤ 3 ∧
  ∀ i x, hs[i]? = some x → ∃ v, cells[i * 2]? = some v ∧ cells[i * 2 + 1]? = some (.int .i64 x.f1) ∧ LeftAt w N v x.f0
/-- The heap's row and its variable. -/
def HeapAt (w : World) (N gh g cap : Nat) (hs : List S75) : Prop := w.heap[gh]? = some (.cells #[.slice (some ⟨g, 0, none⟩) hs.length cap] 71 (0, 0)) ∧ HeadsAt w N g cap hs
theorem cells_ne {w : World} {a b : Nat} {cs cs' : Array Value} {t t' : Nat} (h : w.heap[a]? = some (.cells cs t (0, 0))) (h' : w.heap[b]? = some (.cells cs' t' (0, 0))) (hne : t ≠ t') : a ≠ b := by
  rintro rfl
  rw [h] at h'
  injection h' with h'
  injection h' with _ h'
  exact hne h'
theorem HeapAt.ne {w : World} {N gh g cap : Nat} {hs : List S75} (h : HeapAt w N gh g cap hs) : gh ≠ g := by
  obtain ⟨h1, cells, h2, _⟩ := h
  exact cells_ne h1 h2 (by decide)
/-- Entries' rows stay where they are. -/
theorem HeapAt.still {w w' : World} {N gh g cap : Nat} {hs : List S75} (h : HeapAt w N gh g cap hs) (hm : Moves g gh w w') (b : Nat) (cs : Array Value) (_ : b < N) (hb : w.heap[b]? = some (.cells cs 48 (0, 0))) : w'.heap[b]? = some (.cells cs 48 (0, 0)) := by
  obtain ⟨h1, cells, h2, _⟩ := h
  exact (hm.keep b (blk_lt hb) (cells_ne hb h2 (by decide)) (cells_ne hb h1 (by decide))).trans hb
theorem HeapAt.below {w w' : World} {N gh g cap : Nat} {hs : List S75} (h : HeapAt w N gh g cap hs) (hb : Below w.heap.size w w') : HeapAt w' N gh g cap hs := by
  have hst := h.still (Moves.of_below hb)
  obtain ⟨h1, cells, h2, h3, h4, h4', h5⟩ := h
  refine ⟨(hb.block gh (blk_lt h1)).trans h1, cells, (hb.block g (blk_lt h2)).trans h2, h3, h4, h4', fun i x hx => ?_⟩
  obtain ⟨v, e1, e2, e3⟩ := h5 i x hx
  exact ⟨v, e1, e2, e3.move hst⟩
theorem HeapAt.reads {w : World} {N gh g cap : Nat} {hs : List S75} (h : HeapAt w N gh g cap hs) : Kd.C k75 w (some ⟨g, 0, none⟩) hs.length hs ∧ hs.length ≤ cap := by
  obtain ⟨_, cells, h2, h3, h4, h4', h5⟩ := h
  refine ⟨⟨rfl, by omega, fun _ => ⟨_, rfl, fun j p hj => ?_⟩⟩, h4⟩
  obtain ⟨v, e1, e2, b, o, c, cs, rfl, h6, h7, h8⟩ := h5 j p hj
  refine ⟨[.slice (some ⟨b, o, none⟩) p.f0.length c, .int .i64 p.f1], rfl, k75_mk w p h6 h8, fun i u hi => ?_⟩
  have e3 : (⟨g, 0, none⟩ : Addr).add (j * k75.sz + i) = ⟨g, j * 2 + i, none⟩ := by
    rw [show k75.sz = 2 from rfl]
    rw [addr_add, Nat.zero_add]
  rw [e3, blk_cell h2]
  match i, hi with
  | 0, hi => rw [← hi]; exact e1
  | 1, hi => rw [← hi]; exact e2
theorem HeapAt.cell {w : World} {N gh g cap : Nat} {hs : List S75} (h : HeapAt w N gh g cap hs) : w.cell? ⟨gh, 0, none⟩ = some (.slice (some ⟨g, 0, none⟩) hs.length cap) := (blk_cell h.1 0).trans rfl
/-- Two heads changed. -/
def swapL (hs : List S75) (i j : Nat) : List S75 := (hs.set i (hs.getD j z75)).set j (hs.getD i z75)
theorem swapL_length (hs : List S75) (i j : Nat) : (swapL hs i j).length = hs.length := by simp [swapL]
theorem set4 (cells : Array Value) (a b c d m : Nat) (v1 v2 v3 v4 : Value) (hm : m < cells.size) : ((((cells.setIfInBounds a v1).setIfInBounds b v2).setIfInBounds c v3).setIfInBounds d v4)[m]? = if d = m then some v4 else if c = m then some v3 else if b = m then some v2 else if a = m then some v1 else cells[m]? := by
  simp only [Array.getElem?_setIfInBounds, Array.size_setIfInBounds]
  repeat' split
  all_goals first | rfl | omega
theorem HeapAt.swapped {w : World} {N gh g cap : Nat} {hs : List S75} (h : HeapAt w N gh g cap hs) {i j : Nat} (hi : i < hs.length) (hj : j < hs.length) :
    ∃ vi pi vj pj, (∃ A n c, vi = .slice A n c) ∧ (∃ m, pi = .int .i64 m) ∧ (∃ A n c, vj = .slice A n c) ∧ (∃ m, pj = .int .i64 m) ∧ w.cell? ⟨g, i * 2, none⟩ = some vi ∧ w.cell? ⟨g, i * 2 + 1, none⟩ = some pi ∧ w.cell? ⟨g, j * 2, none⟩ = some vj ∧ w.cell? ⟨g, j * 2 + 1, none⟩ = some pj ∧
      HeapAt ((((w.setCell ⟨g, i * 2, none⟩ vj).setCell ⟨g, i * 2 + 1, none⟩ pj).setCell ⟨g, j * 2, none⟩ vi).setCell ⟨g, j * 2 + 1, none⟩ pi) N gh g cap (swapL hs i j) ∧
      Moves g gh w ((((w.setCell ⟨g, i * 2, none⟩ vj).setCell ⟨g, i * 2 + 1, none⟩ pj).setCell ⟨g, j * 2, none⟩ vi).setCell ⟨g, j * 2 + 1, none⟩ pi) := by
  have hne := h.ne
  have hst := fun w' => h.still (w' := w')
  obtain ⟨h1, cells, h2, h3, h4, h4', h5⟩ := h
  obtain ⟨vi, i1, i2, i3⟩ := h5 i _ (List.getElem?_eq_getElem hi)
  obtain ⟨vj, j1, j2, j3⟩ := h5 j _ (List.getElem?_eq_getElem hj)
  have m : Moves g gh w ((((w.setCell ⟨g, i * 2, none⟩ vj).setCell ⟨g, i * 2 + 1, none⟩ (.int .i64 hs[j].f1)).setCell ⟨g, j * 2, none⟩ vi).setCell ⟨g, j * 2 + 1, none⟩ (.int .i64 hs[i].f1)) :=
    ((((Moves.refl g gh w).set _ (.inl rfl) _).set _ (.inl rfl) _).set _ (.inl rfl) _).set _ (.inl rfl) _
  have si : ∃ A n c, vi = .slice A n c := by obtain ⟨_, _, _, _, e, _⟩ := i3; exact ⟨_, _, _, e⟩
  have sj : ∃ A n c, vj = .slice A n c := by obtain ⟨_, _, _, _, e, _⟩ := j3; exact ⟨_, _, _, e⟩
  refine ⟨vi, _, vj, _, si, ⟨_, rfl⟩, sj, ⟨_, rfl⟩, (blk_cell h2 _).trans i1, (blk_cell h2 _).trans i2, (blk_cell h2 _).trans j1, (blk_cell h2 _).trans j2, ⟨?_, _, blk_put (blk_put (blk_put (blk_put h2 _ _ rfl) _ _ rfl) _ _ rfl) _ _ rfl, by simpa using h3, by rw [swapL_length]; exact h4, by rw [swapL_length]; exact h4', ?_⟩, m⟩
  · rw [swapL_length]
    have f1 : ∀ (W : World) (o : Nat) (u : Value), (W.setCell ⟨g, o, none⟩ u).heap[gh]? = W.heap[gh]? := fun W o u => Below.heap_setCell W ⟨g, o, none⟩ u gh hne
    rw [f1, f1, f1, f1]
    exact h1
  · intro q x hx
    have hq : q < hs.length := by
      have := (List.getElem?_eq_some_iff.1 hx).1
      rwa [swapL_length] at this
    have hn1 : cells.size = cap * 2 := h3
    by_cases e : q = j
    · subst e
      have ex : x = hs[i] := by
        have : (swapL hs i q)[q]? = some hs[i] := by simp [swapL, hi, hq]
        rw [this] at hx
        exact (Option.some.inj hx).symm
      subst ex
      refine ⟨vi, ?_, ?_, i3.move (hst _ m)⟩
      · rw [set4 _ _ _ _ _ _ _ _ _ _ (by omega), if_neg (by omega), if_pos rfl]
      · rw [set4 _ _ _ _ _ _ _ _ _ _ (by omega), if_pos rfl]
    · by_cases e' : q = i
      · subst e'
        have ex : x = hs[j] := by
          have : (swapL hs q j)[q]? = some hs[j] := by simp [swapL, hj, hq, List.getElem?_set, e, Ne.symm e]
          rw [this] at hx
          exact (Option.some.inj hx).symm
        subst ex
        refine ⟨vj, ?_, ?_, j3.move (hst _ m)⟩
        · rw [set4 _ _ _ _ _ _ _ _ _ _ (by omega), if_neg (by omega), if_neg (by omega), if_neg (by omega), if_pos rfl]
        · rw [set4 _ _ _ _ _ _ _ _ _ _ (by omega), if_neg (by omega), if_neg (by omega), if_pos rfl]
      · have ex : hs[q]? = some x := by
          have : (swapL hs i j)[q]? = hs[q]? := by simp [swapL, List.getElem?_set, e, e', Ne.symm e, Ne.symm e']
          rw [← this]
          exact hx
        obtain ⟨v, c1, c2, c3⟩ := h5 q x ex
        refine ⟨v, ?_, ?_, c3.move (hst _ m)⟩
        · rw [set4 _ _ _ _ _ _ _ _ _ _ (by omega), if_neg (by omega), if_neg (by omega), if_neg (by omega), if_neg (by omega), c1]
        · rw [set4 _ _ _ _ _ _ _ _ _ _ (by omega), if_neg (by omega), if_neg (by omega), if_neg (by omega), if_neg (by omega), c2]
set_option maxRecDepth 100000 in
set_option maxHeartbeats 4000000 in
theorem len_at (v : Option Addr) (n c : Nat) (w : World) : Calls Try.prog 109 #[.slice v n c] w fun e w' => e = .returned (.int .i64 n) ∧ w' = w := by
  go_enter Try.func109, Try.ntmps109
  go_wp2
  go_ret
  exact ⟨rfl, rfl⟩
set_option maxRecDepth 100000 in
set_option maxHeartbeats 4000000 in
theorem swap_0 {N gh g cap : Nat} {hs : List S75} {w : World} (H : HeapAt w N gh g cap hs) (hj : 0 < hs.length) :
    Calls Try.prog 111 #[.slice (some ⟨g, 0, none⟩) hs.length cap, .int .i64 0, .int .i64 0] w fun e w' => e = .returned (.tuple #[]) ∧ HeapAt w' N gh g cap (swapL hs 0 0) ∧ Moves g gh w w' := by
  obtain ⟨_, _, _, _, ⟨Ai, ni, ci, rfl⟩, ⟨pi, rfl⟩, ⟨Aj, nj, cj, rfl⟩, ⟨pj, rfl⟩, i1, i2, j1, j2, hH, hM⟩ := H.swapped (i := 0) (j := 0) (by omega) hj
  obtain ⟨_, cells, hrow, _⟩ := H
  have mixed : Try.prog.follows .mixedOrders = true := by kernel_rfl
  have d1 : decide (0 < hs.length) = true := decide_eq_true (by omega)
  have d2 : decide (0 < hs.length) = true := decide_eq_true hj
  have d3 : decide ((0 : Int) < (hs.length : Int)) = true := decide_eq_true (by omega)
  have d4 : decide ((0 : Int) < (hs.length : Int)) = true := decide_eq_true (by omega)
  replace i1 : w.cell? ⟨g, 0, none⟩ = some (.slice Ai ni ci) := i1
  replace i2 : w.cell? ⟨g, 1, none⟩ = some (.int .i64 pi) := i2
  replace j1 : w.cell? ⟨g, 0, none⟩ = some (.slice Aj nj cj) := j1
  replace j2 : w.cell? ⟨g, 1, none⟩ = some (.int .i64 pj) := j2
  obtain ⟨rfl, rfl, rfl⟩ : Ai = Aj ∧ ni = nj ∧ ci = cj := by simpa using i1.symm.trans j1
  obtain rfl : pi = pj := by simpa using i2.symm.trans j2
  have f0 := blk_frozen hrow 0
  have f1 := blk_frozen hrow 1
  have f2 := blk_frozen hrow 0
  have f3 := blk_frozen hrow 1
  have HH := Aside0.mk hH
  have HM := Aside0.mk hM
  clear hH hM hrow
  go_enter Try.func111, Try.ntmps111
  go_wp2
  go_region_o
  go_wp2
  go_end0
  exact ⟨rfl, HH.out.below (Below.refl _ _).drew, HM.out.drew⟩
set_option maxRecDepth 100000 in
set_option maxHeartbeats 4000000 in
theorem swap_1 {N gh g cap : Nat} {hs : List S75} {w : World} (H : HeapAt w N gh g cap hs) (hj : 1 < hs.length) :
    Calls Try.prog 111 #[.slice (some ⟨g, 0, none⟩) hs.length cap, .int .i64 0, .int .i64 1] w fun e w' => e = .returned (.tuple #[]) ∧ HeapAt w' N gh g cap (swapL hs 0 1) ∧ Moves g gh w w' := by
  obtain ⟨_, _, _, _, ⟨Ai, ni, ci, rfl⟩, ⟨pi, rfl⟩, ⟨Aj, nj, cj, rfl⟩, ⟨pj, rfl⟩, i1, i2, j1, j2, hH, hM⟩ := H.swapped (i := 0) (j := 1) (by omega) hj
  obtain ⟨_, cells, hrow, _⟩ := H
  have mixed : Try.prog.follows .mixedOrders = true := by kernel_rfl
  have d1 : decide (0 < hs.length) = true := decide_eq_true (by omega)
  have d2 : decide (1 < hs.length) = true := decide_eq_true hj
  have d3 : decide ((0 : Int) < (hs.length : Int)) = true := decide_eq_true (by omega)
  have d4 : decide ((1 : Int) < (hs.length : Int)) = true := decide_eq_true (by omega)
  replace i1 : w.cell? ⟨g, 0, none⟩ = some (.slice Ai ni ci) := i1
  replace i2 : w.cell? ⟨g, 1, none⟩ = some (.int .i64 pi) := i2
  replace j1 : w.cell? ⟨g, 2, none⟩ = some (.slice Aj nj cj) := j1
  replace j2 : w.cell? ⟨g, 3, none⟩ = some (.int .i64 pj) := j2
  have f0 := blk_frozen hrow 0
  have f1 := blk_frozen hrow 1
  have f2 := blk_frozen hrow 2
  have f3 := blk_frozen hrow 3
  have HH := Aside0.mk hH
  have HM := Aside0.mk hM
  clear hH hM hrow
  go_enter Try.func111, Try.ntmps111
  go_wp2
  go_region_o
  go_wp2
  go_end0
  exact ⟨rfl, HH.out.below (Below.refl _ _).drew, HM.out.drew⟩
set_option maxRecDepth 100000 in
set_option maxHeartbeats 4000000 in
theorem swap_2 {N gh g cap : Nat} {hs : List S75} {w : World} (H : HeapAt w N gh g cap hs) (hj : 2 < hs.length) :
    Calls Try.prog 111 #[.slice (some ⟨g, 0, none⟩) hs.length cap, .int .i64 0, .int .i64 2] w fun e w' => e = .returned (.tuple #[]) ∧ HeapAt w' N gh g cap (swapL hs 0 2) ∧ Moves g gh w w' := by
  obtain ⟨_, _, _, _, ⟨Ai, ni, ci, rfl⟩, ⟨pi, rfl⟩, ⟨Aj, nj, cj, rfl⟩, ⟨pj, rfl⟩, i1, i2, j1, j2, hH, hM⟩ := H.swapped (i := 0) (j := 2) (by omega) hj
  obtain ⟨_, cells, hrow, _⟩ := H
  have mixed : Try.prog.follows .mixedOrders = true := by kernel_rfl
  have d1 : decide (0 < hs.length) = true := decide_eq_true (by omega)
  have d2 : decide (2 < hs.length) = true := decide_eq_true hj
  have d3 : decide ((0 : Int) < (hs.length : Int)) = true := decide_eq_true (by omega)
  have d4 : decide ((2 : Int) < (hs.length : Int)) = true := decide_eq_true (by omega)
  replace i1 : w.cell? ⟨g, 0, none⟩ = some (.slice Ai ni ci) := i1
  replace i2 : w.cell? ⟨g, 1, none⟩ = some (.int .i64 pi) := i2
  replace j1 : w.cell? ⟨g, 4, none⟩ = some (.slice Aj nj cj) := j1
  replace j2 : w.cell? ⟨g, 5, none⟩ = some (.int .i64 pj) := j2
  have f0 := blk_frozen hrow 0
  have f1 := blk_frozen hrow 1
  have f2 := blk_frozen hrow 4
  have f3 := blk_frozen hrow 5
  have HH := Aside0.mk hH
  have HM := Aside0.mk hM
  clear hH hM hrow
  go_enter Try.func111, Try.ntmps111
  go_wp2
  go_region_o
  go_wp2
  go_end0
  exact ⟨rfl, HH.out.below (Below.refl _ _).drew, HM.out.drew⟩
/-- What sinking the top head leaves, of the first heads. -/
def downF (k : Nat) (hs : List S75) : Nat → Option (List S75)
  | 0 => some hs
  | 1 => some hs
  | 2 => (impl_heads_Less.f k hs 1 0).bind fun b => some (if b = true then swapL hs 0 1 else hs)
  | 3 => (impl_heads_Less.f k hs 2 1).bind fun b => if b = true then ((impl_heads_Less.f k hs 2 0).bind fun c => some (if c = true then swapL hs 0 2 else hs)) else ((impl_heads_Less.f k hs 1 0).bind fun c => some (if c = true then swapL hs 0 1 else hs))
  | _ => none
theorem less_at (k : Nat) {N gh g cap : Nat} {hs : List S75} {w : World} (H : HeapAt w N gh g cap hs) (i j : Int) (b : Bool) (h : impl_heads_Less.f k hs i j = some b) (W : World) (hW : Below w.heap.size w W) :
    Calls Try.prog 110 #[.slice (some ⟨g, 0, none⟩) hs.length cap, .int .i64 i, .int .i64 j] W fun e w' => e = .returned (.bool b) ∧ Below W.heap.size W w' :=
  impl_heads_Less.calls k _ _ hs i j b W (H.below hW).reads.1 H.reads.2 h
/-- It came back with one or the other. -/
def RetB (e : Ending) : Prop := ∃ b, e = .returned (.bool b)
theorem RetB.mk (b : Bool) : RetB (.returned (.bool b)) := ⟨b, rfl⟩
set_option maxRecDepth 100000 in
set_option maxHeartbeats 4000000 in
theorem down_0 (k : Nat) {N gh g cap : Nat} {hs hs' : List S75} {w : World} (H : HeapAt w N gh g cap hs) (hn : 0 ≤ hs.length) (h : downF k hs 0 = some hs') :
    Calls Try.prog 73 #[.iface 77 (.pointer (some ⟨gh, 0, none⟩)), .int .i64 0, .int .i64 0] w fun e w' => RetB e ∧ HeapAt w' N gh g cap hs' ∧ Moves g gh w w' := by
  simp only [downF] at h
  obtain rfl := Option.some.inj h
  have HH := Aside0.mk H
  clear h hn H
  go_enter Try.func73, Try.ntmps73
  go_wp2
  apply wp_loop_rounds 1
  rw [rounds_succ]
  go_wp2
  go_ret
  exact ⟨RetB.mk _, HH.out, Moves.refl _ _ _⟩
set_option maxRecDepth 100000 in
set_option maxHeartbeats 4000000 in
theorem down_1 (k : Nat) {N gh g cap : Nat} {hs hs' : List S75} {w : World} (H : HeapAt w N gh g cap hs) (hn : 1 ≤ hs.length) (h : downF k hs 1 = some hs') :
    Calls Try.prog 73 #[.iface 77 (.pointer (some ⟨gh, 0, none⟩)), .int .i64 0, .int .i64 1] w fun e w' => RetB e ∧ HeapAt w' N gh g cap hs' ∧ Moves g gh w w' := by
  simp only [downF] at h
  obtain rfl := Option.some.inj h
  have HH := Aside0.mk H
  clear h hn H
  go_enter Try.func73, Try.ntmps73
  go_wp2
  apply wp_loop_rounds 1
  rw [rounds_succ]
  go_wp2
  go_ret
  exact ⟨RetB.mk _, HH.out, Moves.refl _ _ _⟩
set_option maxRecDepth 100000 in
set_option maxHeartbeats 4000000 in
theorem down_2 (k : Nat) {N gh g cap : Nat} {hs hs' : List S75} {w : World} (H : HeapAt w N gh g cap hs) (hn : 2 ≤ hs.length) (h : downF k hs 2 = some hs') :
    Calls Try.prog 73 #[.iface 77 (.pointer (some ⟨gh, 0, none⟩)), .int .i64 0, .int .i64 2] w fun e w' => RetB e ∧ HeapAt w' N gh g cap hs' ∧ Moves g gh w w' := by
  simp only [downF] at h
  obtain ⟨b, hb, h⟩ := Option.bind_eq_some_iff.1 h
  obtain rfl := Option.some.inj h
  have hL := less_at k H 1 0 b hb w (Below.refl _ w)
  have m1 := me_less ⟨gh, 0, none⟩ _ _ _ w H.cell
  have n1 := na_less ⟨gh, 0, none⟩ w
  have HL := Aside0.mk hL
  have HH := Aside0.mk H
  have HN := Aside0.mk hn
  clear hL h hb H hn
  cases b
  · rw [if_neg (by decide)]
    go_enter Try.func73, Try.ntmps73
    go_wp2
    apply wp_loop_rounds 1
    rw [rounds_succ]
    go_wp2_with (go_at_call 110; refine HL.out.mono ?_; rintro e w1 ⟨rfl, hb⟩)
    go_ret
    exact ⟨RetB.mk _, HH.out.below hb, Moves.of_below hb⟩
  · rw [if_pos rfl]
    go_enter Try.func73, Try.ntmps73
    go_wp2
    apply wp_loop_rounds 2
    rw [rounds_succ]
    go_wp2_with (go_at_call 110; refine HL.out.mono ?_; rintro e w1 ⟨rfl, hb⟩; refine Hid.out ?_)
    have H1 := Aside0.mk (HH.out.below hb)
    have M1 := Aside0.mk (Moves.of_below (g := g) (gh := gh) hb)
    have m2 := me_swap ⟨gh, 0, none⟩ _ _ _ w1 H1.out.cell
    have n2 := na_swap ⟨gh, 0, none⟩ w1
    clear m1 n1 hb HL
    refine hid_ ?_
    go_wp2_with (go_at_call 111; refine (swap_1 H1.out (by have := HN.out; omega)).mono ?_; rintro e w2 ⟨rfl, hH, hM⟩; refine Hid.out ?_)
    have H2 := Aside0.mk hH
    have M2 := Aside0.mk (M1.out.trans hM)
    clear hH hM m2 n2
    refine hid_ ?_
    go_wp2
    rw [rounds_succ]
    go_wp2
    go_ret
    exact ⟨RetB.mk _, H2.out, M2.out⟩
set_option maxRecDepth 100000 in
set_option maxHeartbeats 4000000 in
theorem down_3 (k : Nat) {N gh g cap : Nat} {hs hs' : List S75} {w : World} (H : HeapAt w N gh g cap hs) (hn : 3 ≤ hs.length) (h : downF k hs 3 = some hs') :
    Calls Try.prog 73 #[.iface 77 (.pointer (some ⟨gh, 0, none⟩)), .int .i64 0, .int .i64 3] w fun e w' => RetB e ∧ HeapAt w' N gh g cap hs' ∧ Moves g gh w w' := by
  simp only [downF] at h
  obtain ⟨b, hb, h⟩ := Option.bind_eq_some_iff.1 h
  have hL := less_at k H 2 1 b hb w (Below.refl _ w)
  have m1 := me_less ⟨gh, 0, none⟩ _ _ _ w H.cell
  have n1 := na_less ⟨gh, 0, none⟩ w
  have HL := Aside0.mk hL
  have HH := Aside0.mk H
  have HN := Aside0.mk hn
  clear hL hb hn
  cases b
  · rw [if_neg (by decide)] at h
    obtain ⟨c, hc, h⟩ := Option.bind_eq_some_iff.1 h
    obtain rfl := Option.some.inj h
    have HK := Aside0.mk (less_at k H 1 0 c hc)
    clear h hc H
    cases c
    · rw [if_neg (by decide)]
      go_enter Try.func73, Try.ntmps73
      go_wp2
      apply wp_loop_rounds 1
      rw [rounds_succ]
      go_wp2_with (go_at_call 110; refine HL.out.mono ?_; rintro e w1 ⟨rfl, hb⟩; refine Hid.out ?_)
      have H1 := Aside0.mk (HH.out.below hb)
      have M1 := Aside0.mk (Moves.of_below (g := g) (gh := gh) hb)
      have K1 := Aside0.mk (HK.out w1 hb)
      have m2 := me_less ⟨gh, 0, none⟩ _ _ _ w1 H1.out.cell
      have n2 := na_less ⟨gh, 0, none⟩ w1
      clear m1 n1 hb HL
      refine hid_ ?_
      go_wp2_with (go_at_call 110; refine K1.out.mono ?_; rintro e w2 ⟨rfl, hb⟩)
      go_ret
      exact ⟨RetB.mk _, H1.out.below hb, M1.out.trans (Moves.of_below hb)⟩
    · rw [if_pos rfl]
      go_enter Try.func73, Try.ntmps73
      go_wp2
      apply wp_loop_rounds 2
      rw [rounds_succ]
      go_wp2_with (go_at_call 110; refine HL.out.mono ?_; rintro e w1 ⟨rfl, hb⟩; refine Hid.out ?_)
      have H1 := Aside0.mk (HH.out.below hb)
      have M1 := Aside0.mk (Moves.of_below (g := g) (gh := gh) hb)
      have K1 := Aside0.mk (HK.out w1 hb)
      have m2 := me_less ⟨gh, 0, none⟩ _ _ _ w1 H1.out.cell
      have n2 := na_less ⟨gh, 0, none⟩ w1
      clear m1 n1 hb HL
      refine hid_ ?_
      go_wp2_with (go_at_call 110; refine K1.out.mono ?_; rintro e w2 ⟨rfl, hb⟩; refine Hid.out ?_)
      have H2 := Aside0.mk (H1.out.below hb)
      have M2 := Aside0.mk (M1.out.trans (Moves.of_below hb))
      have m3 := me_swap ⟨gh, 0, none⟩ _ _ _ w2 H2.out.cell
      have n3 := na_swap ⟨gh, 0, none⟩ w2
      clear m2 n2 hb K1
      refine hid_ ?_
      go_wp2_with (go_at_call 111; refine (swap_1 H2.out (by have := HN.out; omega)).mono ?_; rintro e w3 ⟨rfl, hH, hM⟩; refine Hid.out ?_)
      have H3 := Aside0.mk hH
      have M3 := Aside0.mk (M2.out.trans hM)
      clear hH hM m3 n3
      refine hid_ ?_
      go_wp2
      rw [rounds_succ]
      go_wp2
      go_ret
      exact ⟨RetB.mk _, H3.out, M3.out⟩
  · rw [if_pos rfl] at h
    obtain ⟨c, hc, h⟩ := Option.bind_eq_some_iff.1 h
    obtain rfl := Option.some.inj h
    have HK := Aside0.mk (less_at k H 2 0 c hc)
    clear h hc H
    cases c
    · rw [if_neg (by decide)]
      go_enter Try.func73, Try.ntmps73
      go_wp2
      apply wp_loop_rounds 1
      rw [rounds_succ]
      go_wp2_with (go_at_call 110; refine HL.out.mono ?_; rintro e w1 ⟨rfl, hb⟩; refine Hid.out ?_)
      have H1 := Aside0.mk (HH.out.below hb)
      have M1 := Aside0.mk (Moves.of_below (g := g) (gh := gh) hb)
      have K1 := Aside0.mk (HK.out w1 hb)
      have m2 := me_less ⟨gh, 0, none⟩ _ _ _ w1 H1.out.cell
      have n2 := na_less ⟨gh, 0, none⟩ w1
      clear m1 n1 hb HL
      refine hid_ ?_
      go_wp2_with (go_at_call 110; refine K1.out.mono ?_; rintro e w2 ⟨rfl, hb⟩)
      go_ret
      exact ⟨RetB.mk _, H1.out.below hb, M1.out.trans (Moves.of_below hb)⟩
    · rw [if_pos rfl]
      go_enter Try.func73, Try.ntmps73
      go_wp2
      apply wp_loop_rounds 2
      rw [rounds_succ]
      go_wp2_with (go_at_call 110; refine HL.out.mono ?_; rintro e w1 ⟨rfl, hb⟩; refine Hid.out ?_)
      have H1 := Aside0.mk (HH.out.below hb)
      have M1 := Aside0.mk (Moves.of_below (g := g) (gh := gh) hb)
      have K1 := Aside0.mk (HK.out w1 hb)
      have m2 := me_less ⟨gh, 0, none⟩ _ _ _ w1 H1.out.cell
      have n2 := na_less ⟨gh, 0, none⟩ w1
      clear m1 n1 hb HL
      refine hid_ ?_
      go_wp2_with (go_at_call 110; refine K1.out.mono ?_; rintro e w2 ⟨rfl, hb⟩; refine Hid.out ?_)
      have H2 := Aside0.mk (H1.out.below hb)
      have M2 := Aside0.mk (M1.out.trans (Moves.of_below hb))
      have m3 := me_swap ⟨gh, 0, none⟩ _ _ _ w2 H2.out.cell
      have n3 := na_swap ⟨gh, 0, none⟩ w2
      clear m2 n2 hb K1
      refine hid_ ?_
      go_wp2_with (go_at_call 111; refine (swap_2 H2.out (by have := HN.out; omega)).mono ?_; rintro e w3 ⟨rfl, hH, hM⟩; refine Hid.out ?_)
      have H3 := Aside0.mk hH
      have M3 := Aside0.mk (M2.out.trans hM)
      clear hH hM m3 n3
      refine hid_ ?_
      go_wp2
      rw [rounds_succ]
      go_wp2
      go_ret
      exact ⟨RetB.mk _, H3.out, M3.out⟩
theorem down_at (k : Nat) {N gh g cap : Nat} {hs hs' : List S75} {w : World} (H : HeapAt w N gh g cap hs) (n : Nat) (hn : n ≤ hs.length) (h : downF k hs n = some hs') :
    Calls Try.prog 73 #[.iface 77 (.pointer (some ⟨gh, 0, none⟩)), .int .i64 0, .int .i64 n] w fun e w' => RetB e ∧ HeapAt w' N gh g cap hs' ∧ Moves g gh w w' := by
  match n, hn, h with
  | 0, hn, h => exact down_0 k H hn h
  | 1, hn, h => exact down_1 k H hn h
  | 2, hn, h => exact down_2 k H hn h
  | 3, hn, h => exact down_3 k H hn h
  | _ + 4, _, h => simp [downF] at h
theorem HeapAt.len3 {w : World} {N gh g cap : Nat} {hs : List S75} (h : HeapAt w N gh g cap hs) : hs.length ≤ 3 := by
  obtain ⟨_, _, _, _, _, h, _⟩ := h
  exact h
theorem downF_length {k : Nat} {hs hs' : List S75} {n : Nat} (h : downF k hs n = some hs') : hs'.length = hs.length := by
  have key : ∀ (c : Bool) (j : Nat) (zs : List S75), some (if c = true then swapL hs 0 j else hs) = some zs → zs.length = hs.length := fun c j zs e => by
    obtain rfl := Option.some.inj e
    split
    · exact swapL_length _ _ _
    · rfl
  match n, h with
  | 0, h => obtain rfl := Option.some.inj h; rfl
  | 1, h => obtain rfl := Option.some.inj h; rfl
  | 2, h =>
    simp only [downF] at h
    obtain ⟨b, _, h⟩ := Option.bind_eq_some_iff.1 h
    exact key b 1 _ h
  | 3, h =>
    simp only [downF] at h
    obtain ⟨b, _, h⟩ := Option.bind_eq_some_iff.1 h
    split at h
    · obtain ⟨c, _, h⟩ := Option.bind_eq_some_iff.1 h
      exact key c 2 _ h
    · obtain ⟨c, _, h⟩ := Option.bind_eq_some_iff.1 h
      exact key c 1 _ h
set_option maxRecDepth 100000 in
set_option maxHeartbeats 4000000 in
theorem fix_at (k : Nat) {N gh g cap : Nat} {hs hs' : List S75} {w : World} (H : HeapAt w N gh g cap hs) (h : downF k hs hs.length = some hs') :
    Calls Try.prog 51 #[.iface 77 (.pointer (some ⟨gh, 0, none⟩)), .int .i64 0] w fun e w' => e = .returned (.tuple #[]) ∧ HeapAt w' N gh g cap hs' ∧ Moves g gh w w' := by
  have up0 : ∀ W : World, Calls Try.prog 74 #[.iface 77 (.pointer (some ⟨gh, 0, none⟩)), .int .i64 0] W fun e w' => e = .returned (.tuple #[]) ∧ w' = W := by
    intro W
    go_enter Try.func74, Try.ntmps74
    go_wp2
    apply wp_loop_rounds 1
    rw [rounds_succ]
    go_wp2
    go_end0
    exact ⟨rfl, rfl⟩
  have hD := down_at k H hs.length (Nat.le_refl _) h
  have m1 := me_len ⟨gh, 0, none⟩ _ _ _ w H.cell
  have n1 := na_len ⟨gh, 0, none⟩ w
  have HD := Aside0.mk hD
  clear hD h
  go_enter Try.func51, Try.ntmps51
  go_wp2_with (first | (go_at_call 109; refine (len_at _ _ _ _).mono ?_; rintro e w1 ⟨rfl, rfl⟩) | (go_at_call 73; refine HD.out.mono ?_; rintro e w1 ⟨⟨b, rfl⟩, hH, hM⟩; refine Hid.out ?_))
  have H2 := Aside0.mk hH
  have M2 := Aside0.mk hM
  clear hH hM m1 n1 HD H
  refine hid_ ?_
  cases b
  · go_wp2_with (go_at_call 74; refine (up0 _).mono ?_; rintro e w2 ⟨rfl, rfl⟩)
    go_end0
    exact ⟨rfl, H2.out, M2.out⟩
  · go_wp2
    go_end0
    exact ⟨rfl, H2.out, M2.out⟩
set_option maxRecDepth 100000 in
set_option maxHeartbeats 4000000 in
theorem init_none {gh : Nat} {w : World} (A : Option Addr) (c : Nat) (H : w.heap[gh]? = some (.cells #[.slice A 0 c] 71 (0, 0))) :
    Calls Try.prog 49 #[.iface 77 (.pointer (some ⟨gh, 0, none⟩))] w fun e w' => e = .returned (.tuple #[]) ∧ w' = w := by
  have m1 := me_len ⟨gh, 0, none⟩ A 0 c w ((blk_cell H 0).trans rfl)
  have n1 := na_len ⟨gh, 0, none⟩ w
  clear H
  go_enter Try.func49, Try.ntmps49
  go_wp2_with (go_at_call 109; refine (len_at _ _ _ _).mono ?_; rintro e w1 ⟨rfl, rfl⟩)
  apply wp_loop_rounds 1
  rw [rounds_succ]
  go_wp2
  go_end0
  exact ⟨rfl, rfl⟩
set_option maxRecDepth 100000 in
set_option maxHeartbeats 4000000 in
theorem init_one {N gh g cap : Nat} {hs : List S75} {w : World} (H : HeapAt w N gh g cap hs) (hl : hs.length = 1) :
    Calls Try.prog 49 #[.iface 77 (.pointer (some ⟨gh, 0, none⟩))] w fun e w' => e = .returned (.tuple #[]) ∧ w' = w := by
  have m1 := me_len ⟨gh, 0, none⟩ _ _ _ w H.cell
  have n1 := na_len ⟨gh, 0, none⟩ w
  rw [hl] at m1
  clear H
  go_enter Try.func49, Try.ntmps49
  go_wp2_with (go_at_call 109; refine (len_at _ _ _ _).mono ?_; rintro e w1 ⟨rfl, rfl⟩)
  apply wp_loop_rounds 1
  rw [rounds_succ]
  go_wp2
  go_end0
  exact ⟨rfl, rfl⟩
set_option maxRecDepth 100000 in
set_option maxHeartbeats 4000000 in
theorem init_more (k : Nat) {N gh g cap n : Nat} {hs hs' : List S75} {w : World} (H : HeapAt w N gh g cap hs) (hl : hs.length = n) (hn : n = 2 ∨ n = 3) (h : downF k hs n = some hs') :
    Calls Try.prog 49 #[.iface 77 (.pointer (some ⟨gh, 0, none⟩))] w fun e w' => e = .returned (.tuple #[]) ∧ HeapAt w' N gh g cap hs' ∧ Moves g gh w w' := by
  have hD := down_at k H n (by omega) h
  have m1 := me_len ⟨gh, 0, none⟩ _ _ _ w H.cell
  have n1 := na_len ⟨gh, 0, none⟩ w
  rw [hl] at m1
  have HD := Aside0.mk hD
  clear hD h hl H
  rcases hn with rfl | rfl
  all_goals
    go_enter Try.func49, Try.ntmps49
    go_wp2_with (go_at_call 109; refine (len_at _ _ _ _).mono ?_; rintro e w1 ⟨rfl, rfl⟩)
    apply wp_loop_rounds 2
    rw [rounds_succ]
    go_wp2_with (go_at_call 73; refine HD.out.mono ?_; rintro e w1 ⟨⟨b, rfl⟩, hH, hM⟩; refine Hid.out ?_)
    have H2 := Aside0.mk hH
    have M2 := Aside0.mk hM
    clear hH hM m1 n1 HD
    refine hid_ ?_
    go_wp2
    rw [rounds_succ]
    go_wp2
    go_end0
    exact ⟨rfl, H2.out, M2.out⟩
/-- Init: the top head sinks. -/
theorem init_at (k : Nat) {N gh g cap : Nat} {hs hs' : List S75} {w : World} (H : HeapAt w N gh g cap hs) (h0 : hs ≠ []) (h : downF k hs hs.length = some hs') :
    Calls Try.prog 49 #[.iface 77 (.pointer (some ⟨gh, 0, none⟩))] w fun e w' => e = .returned (.tuple #[]) ∧ HeapAt w' N gh g cap hs' ∧ Moves g gh w w' := by
  have h3 := H.len3
  have h1 := List.length_pos_iff.2 h0
  by_cases hl : hs.length = 1
  · rw [hl] at h
    simp only [downF] at h
    obtain rfl := Option.some.inj h
    refine (init_one H hl).mono ?_
    rintro e w' ⟨rfl, rfl⟩
    exact ⟨rfl, H, Moves.refl _ _ _⟩
  · exact init_more k H rfl (by omega) h
theorem HeapAt.shrunk {w : World} {N gh g cap : Nat} {hs : List S75} (h : HeapAt w N gh g cap hs) (m : Nat) (hm : m ≤ hs.length) :
    HeapAt (w.setCell ⟨gh, 0, none⟩ (.slice (some ⟨g, 0, none⟩) m cap)) N gh g cap (hs.take m) ∧ Moves g gh w (w.setCell ⟨gh, 0, none⟩ (.slice (some ⟨g, 0, none⟩) m cap)) := by
  have hM : Moves g gh w (w.setCell ⟨gh, 0, none⟩ (.slice (some ⟨g, 0, none⟩) m cap)) := (Moves.refl g gh w).set _ (.inr rfl) _
  have hst := h.still hM
  have hne := h.ne
  obtain ⟨h1, cells, h2, h3, h4, h4', h5⟩ := h
  have hl : (hs.take m).length = m := by simp; omega
  refine ⟨⟨?_, cells, ?_, h3, by omega, by omega, fun i x hx => ?_⟩, hM⟩
  · rw [hl]
    exact blk_put h1 0 _ rfl
  · exact (Below.heap_setCell w _ _ g (fun e => hne e.symm)).trans h2
  · have hx' : hs[i]? = some x := by
      have hi : i < m := by have := (List.getElem?_eq_some_iff.1 hx).1; omega
      rw [List.getElem?_take, if_pos hi] at hx
      exact hx
    obtain ⟨v, e1, e2, e3⟩ := h5 i x hx'
    exact ⟨v, e1, e2, e3.move hst⟩
set_option maxRecDepth 100000 in
set_option maxHeartbeats 4000000 in
theorem pop_0 {N gh g cap : Nat} {hs : List S75} {w : World} (H : HeapAt w N gh g cap hs) (hl : hs.length = 1) :
    Calls Try.prog 112 #[.pointer (some ⟨gh, 0, none⟩)] w fun e w' => (∃ v, e = .returned v) ∧ HeapAt w' N gh g cap (hs.take 0) ∧ Moves g gh w w' := by
  have hx := H.cell
  rw [hl] at hx
  obtain ⟨h1, cells, h2, h3, h4, h4', h5⟩ := id H
  obtain ⟨_, c1, c2, b, o, c, cs, rfl, h6, _, _⟩ := h5 0 hs[0] (List.getElem?_eq_getElem (by omega))
  replace c1 := (blk_cell h2 (0 * 2)).trans c1
  replace c2 := (blk_cell h2 (0 * 2 + 1)).trans c2
  replace c1 : w.cell? ⟨g, 0, none⟩ = _ := c1
  replace c2 : w.cell? ⟨g, 1, none⟩ = _ := c2
  have hg1 := blk_lt h1
  have hg2 := blk_lt h2
  have f0 := blk_frozen h1 0
  have q1 : decide (0 ≤ cap) = true := decide_eq_true (by omega)
  have q2 : decide ((0 : Int) ≤ (cap : Int)) = true := decide_eq_true (by omega)
  have q3 : (0 ≤ cap) = True := eq_true (by omega)
  have q4 : ((0 : Int) ≤ (cap : Int)) = True := eq_true (by omega)
  have HH := Aside0.mk (H.shrunk 0 (by omega))
  clear H h1 h2 h3 h4 h4' h5 h6
  go_enter Try.func112, Try.ntmps112
  go_wp2
  go_ret
  exact ⟨⟨_, rfl⟩, HH.out.1.below ((Below.refl _ _).alloc (Nat.le_refl _) _), HH.out.2.alloc _⟩
set_option maxRecDepth 100000 in
set_option maxHeartbeats 4000000 in
theorem pop_1 {N gh g cap : Nat} {hs : List S75} {w : World} (H : HeapAt w N gh g cap hs) (hl : hs.length = 2) :
    Calls Try.prog 112 #[.pointer (some ⟨gh, 0, none⟩)] w fun e w' => (∃ v, e = .returned v) ∧ HeapAt w' N gh g cap (hs.take 1) ∧ Moves g gh w w' := by
  have hx := H.cell
  rw [hl] at hx
  obtain ⟨h1, cells, h2, h3, h4, h4', h5⟩ := id H
  obtain ⟨_, c1, c2, b, o, c, cs, rfl, h6, _, _⟩ := h5 1 hs[1] (List.getElem?_eq_getElem (by omega))
  replace c1 := (blk_cell h2 (1 * 2)).trans c1
  replace c2 := (blk_cell h2 (1 * 2 + 1)).trans c2
  replace c1 : w.cell? ⟨g, 2, none⟩ = _ := c1
  replace c2 : w.cell? ⟨g, 3, none⟩ = _ := c2
  have hg1 := blk_lt h1
  have hg2 := blk_lt h2
  have f0 := blk_frozen h1 0
  have q1 : decide (1 ≤ cap) = true := decide_eq_true (by omega)
  have q2 : decide ((1 : Int) ≤ (cap : Int)) = true := decide_eq_true (by omega)
  have q3 : (1 ≤ cap) = True := eq_true (by omega)
  have q4 : ((1 : Int) ≤ (cap : Int)) = True := eq_true (by omega)
  have HH := Aside0.mk (H.shrunk 1 (by omega))
  clear H h1 h2 h3 h4 h4' h5 h6
  go_enter Try.func112, Try.ntmps112
  go_wp2
  go_ret
  exact ⟨⟨_, rfl⟩, HH.out.1.below ((Below.refl _ _).alloc (Nat.le_refl _) _), HH.out.2.alloc _⟩
set_option maxRecDepth 100000 in
set_option maxHeartbeats 4000000 in
theorem pop_2 {N gh g cap : Nat} {hs : List S75} {w : World} (H : HeapAt w N gh g cap hs) (hl : hs.length = 3) :
    Calls Try.prog 112 #[.pointer (some ⟨gh, 0, none⟩)] w fun e w' => (∃ v, e = .returned v) ∧ HeapAt w' N gh g cap (hs.take 2) ∧ Moves g gh w w' := by
  have hx := H.cell
  rw [hl] at hx
  obtain ⟨h1, cells, h2, h3, h4, h4', h5⟩ := id H
  obtain ⟨_, c1, c2, b, o, c, cs, rfl, h6, _, _⟩ := h5 2 hs[2] (List.getElem?_eq_getElem (by omega))
  replace c1 := (blk_cell h2 (2 * 2)).trans c1
  replace c2 := (blk_cell h2 (2 * 2 + 1)).trans c2
  replace c1 : w.cell? ⟨g, 4, none⟩ = _ := c1
  replace c2 : w.cell? ⟨g, 5, none⟩ = _ := c2
  have hg1 := blk_lt h1
  have hg2 := blk_lt h2
  have f0 := blk_frozen h1 0
  have q1 : decide (2 ≤ cap) = true := decide_eq_true (by omega)
  have q2 : decide ((2 : Int) ≤ (cap : Int)) = true := decide_eq_true (by omega)
  have q3 : (2 ≤ cap) = True := eq_true (by omega)
  have q4 : ((2 : Int) ≤ (cap : Int)) = True := eq_true (by omega)
  have HH := Aside0.mk (H.shrunk 2 (by omega))
  clear H h1 h2 h3 h4 h4' h5 h6
  go_enter Try.func112, Try.ntmps112
  go_wp2
  go_ret
  exact ⟨⟨_, rfl⟩, HH.out.1.below ((Below.refl _ _).alloc (Nat.le_refl _) _), HH.out.2.alloc _⟩
/-- What is left when the top head is taken out. -/
def popF (k : Nat) (hs : List S75) : Option (List S75) := (downF k (swapL hs 0 (hs.length - 1)) (hs.length - 1)).bind fun zs => some (zs.take (hs.length - 1))
set_option maxRecDepth 100000 in
set_option maxHeartbeats 4000000 in
theorem heapPop_0 (k : Nat) {N gh g cap : Nat} {hs zs : List S75} {w : World} (H : HeapAt w N gh g cap hs) (hl : hs.length = 1) (h : downF k (swapL hs 0 0) 0 = some zs) :
    Calls Try.prog 50 #[.iface 77 (.pointer (some ⟨gh, 0, none⟩))] w fun e w' => (∃ v, e = .returned v) ∧ HeapAt w' N gh g cap (zs.take 0) ∧ Moves g gh w w' := by
  have hS := swap_0 H (by omega)
  have m1 := me_len ⟨gh, 0, none⟩ _ _ _ w H.cell
  have n1 := na_len ⟨gh, 0, none⟩ w
  have m2 := me_swap ⟨gh, 0, none⟩ _ _ _ w H.cell
  have n2 := na_swap ⟨gh, 0, none⟩ w
  rw [hl] at m1 m2 hS
  have hz : zs.length = 1 := (downF_length h).trans ((swapL_length _ _ _).trans hl)
  have hD := fun W (hW : HeapAt W N gh g cap (swapL hs 0 0)) => down_at k hW 0 (by rw [swapL_length]; omega) h
  have HS := Aside0.mk hS
  have HD := Aside0.mk hD
  have HZ := Aside0.mk hz
  clear hS hD h hl hz H
  go_enter Try.func50, Try.ntmps50
  go_wp2_with (first | (go_at_call 109; refine (len_at _ _ _ _).mono ?_; rintro e w1 ⟨rfl, rfl⟩) | (go_at_call 111; refine HS.out.mono ?_; rintro e w2 ⟨rfl, hH, hM⟩; refine Hid.out ?_))
  have HD2 := Aside0.mk (HD.out _ hH)
  have M2 := Aside0.mk hM
  clear hH hM m1 n1 m2 n2 HD HS
  refine hid_ ?_
  go_wp2_with (go_at_call 73; refine HD2.out.mono ?_; rintro e w3 ⟨⟨b, rfl⟩, hH, hM⟩; refine Hid.out ?_)
  have P3 := Aside0.mk (pop_0 hH HZ.out)
  have M3 := Aside0.mk (M2.out.trans hM)
  have m3 := me_pop ⟨gh, 0, none⟩ w3
  have n3 := na_pop ⟨gh, 0, none⟩ w3
  clear hH hM HD2
  refine hid_ ?_
  go_wp2_with (go_at_call 112; refine P3.out.mono ?_; rintro e w4 ⟨⟨v, rfl⟩, hH, hM⟩)
  go_ret
  exact ⟨⟨_, rfl⟩, hH, M3.out.trans hM⟩
set_option maxRecDepth 100000 in
set_option maxHeartbeats 4000000 in
theorem heapPop_1 (k : Nat) {N gh g cap : Nat} {hs zs : List S75} {w : World} (H : HeapAt w N gh g cap hs) (hl : hs.length = 2) (h : downF k (swapL hs 0 1) 1 = some zs) :
    Calls Try.prog 50 #[.iface 77 (.pointer (some ⟨gh, 0, none⟩))] w fun e w' => (∃ v, e = .returned v) ∧ HeapAt w' N gh g cap (zs.take 1) ∧ Moves g gh w w' := by
  have hS := swap_1 H (by omega)
  have m1 := me_len ⟨gh, 0, none⟩ _ _ _ w H.cell
  have n1 := na_len ⟨gh, 0, none⟩ w
  have m2 := me_swap ⟨gh, 0, none⟩ _ _ _ w H.cell
  have n2 := na_swap ⟨gh, 0, none⟩ w
  rw [hl] at m1 m2 hS
  have hz : zs.length = 2 := (downF_length h).trans ((swapL_length _ _ _).trans hl)
  have hD := fun W (hW : HeapAt W N gh g cap (swapL hs 0 1)) => down_at k hW 1 (by rw [swapL_length]; omega) h
  have HS := Aside0.mk hS
  have HD := Aside0.mk hD
  have HZ := Aside0.mk hz
  clear hS hD h hl hz H
  go_enter Try.func50, Try.ntmps50
  go_wp2_with (first | (go_at_call 109; refine (len_at _ _ _ _).mono ?_; rintro e w1 ⟨rfl, rfl⟩) | (go_at_call 111; refine HS.out.mono ?_; rintro e w2 ⟨rfl, hH, hM⟩; refine Hid.out ?_))
  have HD2 := Aside0.mk (HD.out _ hH)
  have M2 := Aside0.mk hM
  clear hH hM m1 n1 m2 n2 HD HS
  refine hid_ ?_
  go_wp2_with (go_at_call 73; refine HD2.out.mono ?_; rintro e w3 ⟨⟨b, rfl⟩, hH, hM⟩; refine Hid.out ?_)
  have P3 := Aside0.mk (pop_1 hH HZ.out)
  have M3 := Aside0.mk (M2.out.trans hM)
  have m3 := me_pop ⟨gh, 0, none⟩ w3
  have n3 := na_pop ⟨gh, 0, none⟩ w3
  clear hH hM HD2
  refine hid_ ?_
  go_wp2_with (go_at_call 112; refine P3.out.mono ?_; rintro e w4 ⟨⟨v, rfl⟩, hH, hM⟩)
  go_ret
  exact ⟨⟨_, rfl⟩, hH, M3.out.trans hM⟩
set_option maxRecDepth 100000 in
set_option maxHeartbeats 4000000 in
theorem heapPop_2 (k : Nat) {N gh g cap : Nat} {hs zs : List S75} {w : World} (H : HeapAt w N gh g cap hs) (hl : hs.length = 3) (h : downF k (swapL hs 0 2) 2 = some zs) :
    Calls Try.prog 50 #[.iface 77 (.pointer (some ⟨gh, 0, none⟩))] w fun e w' => (∃ v, e = .returned v) ∧ HeapAt w' N gh g cap (zs.take 2) ∧ Moves g gh w w' := by
  have hS := swap_2 H (by omega)
  have m1 := me_len ⟨gh, 0, none⟩ _ _ _ w H.cell
  have n1 := na_len ⟨gh, 0, none⟩ w
  have m2 := me_swap ⟨gh, 0, none⟩ _ _ _ w H.cell
  have n2 := na_swap ⟨gh, 0, none⟩ w
  rw [hl] at m1 m2 hS
  have hz : zs.length = 3 := (downF_length h).trans ((swapL_length _ _ _).trans hl)
  have hD := fun W (hW : HeapAt W N gh g cap (swapL hs 0 2)) => down_at k hW 2 (by rw [swapL_length]; omega) h
  have HS := Aside0.mk hS
  have HD := Aside0.mk hD
  have HZ := Aside0.mk hz
  clear hS hD h hl hz H
  go_enter Try.func50, Try.ntmps50
  go_wp2_with (first | (go_at_call 109; refine (len_at _ _ _ _).mono ?_; rintro e w1 ⟨rfl, rfl⟩) | (go_at_call 111; refine HS.out.mono ?_; rintro e w2 ⟨rfl, hH, hM⟩; refine Hid.out ?_))
  have HD2 := Aside0.mk (HD.out _ hH)
  have M2 := Aside0.mk hM
  clear hH hM m1 n1 m2 n2 HD HS
  refine hid_ ?_
  go_wp2_with (go_at_call 73; refine HD2.out.mono ?_; rintro e w3 ⟨⟨b, rfl⟩, hH, hM⟩; refine Hid.out ?_)
  have P3 := Aside0.mk (pop_2 hH HZ.out)
  have M3 := Aside0.mk (M2.out.trans hM)
  have m3 := me_pop ⟨gh, 0, none⟩ w3
  have n3 := na_pop ⟨gh, 0, none⟩ w3
  clear hH hM HD2
  refine hid_ ?_
  go_wp2_with (go_at_call 112; refine P3.out.mono ?_; rintro e w4 ⟨⟨v, rfl⟩, hH, hM⟩)
  go_ret
  exact ⟨⟨_, rfl⟩, hH, M3.out.trans hM⟩
/-- Pop: the top head is taken out. -/
theorem pop_at (k : Nat) {N gh g cap : Nat} {hs hs' : List S75} {w : World} (H : HeapAt w N gh g cap hs) (h0 : hs ≠ []) (h : popF k hs = some hs') :
    Calls Try.prog 50 #[.iface 77 (.pointer (some ⟨gh, 0, none⟩))] w fun e w' => (∃ v, e = .returned v) ∧ HeapAt w' N gh g cap hs' ∧ Moves g gh w w' := by
  have h3 := H.len3
  have h1 := List.length_pos_iff.2 h0
  unfold popF at h
  obtain ⟨zs, hz, h⟩ := Option.bind_eq_some_iff.1 h
  obtain rfl := Option.some.inj h
  have hc : hs.length = 1 ∨ hs.length = 2 ∨ hs.length = 3 := by omega
  rcases hc with hl | hl | hl
  · rw [hl] at hz ⊢
    exact heapPop_0 k H hl hz
  · rw [hl] at hz ⊢
    exact heapPop_1 k H hl hz
  · rw [hl] at hz ⊢
    exact heapPop_2 k H hl hz
end
section
theorem HeapAt.grown {N gh g cap : Nat} {hs : List S75} {w w1 : World} (h : HeapAt w N gh g cap hs) {row : Option Nat} (hg : w.grownBy w1 row) (hr : ∀ k, row = some k → N ≤ k) (n1 : gh < N) (n2 : g < N) : HeapAt w1 N gh g cap hs := by
  obtain ⟨h1, cells, h2, h3, h4, h4', h5⟩ := h
  have ne : ∀ k, k < N → some k ≠ row := fun k hk e => by have := hr k e.symm; omega
  refine ⟨blk_grown h1 hg (ne gh n1), cells, blk_grown h2 hg (ne g n2), h3, h4, h4', fun i x hx => ?_⟩
  obtain ⟨v, e1, e2, e3⟩ := h5 i x hx
  exact ⟨v, e1, e2, e3.move fun b cs hb hbl => blk_grown hbl hg (ne b hb)⟩
theorem Moves.grown {N gh g : Nat} {w w1 : World} {row : Option Nat} (hg : w.grownBy w1 row) : w.heap.size ≤ w1.heap.size := hg.size
/-- The top head's list, one shorter. -/
theorem HeapAt.tailed {N gh g cap : Nat} {x : S75} {r : List S75} {e : S48} {rest : List S48} {w : World} (h : HeapAt w N gh g cap (x :: r)) (hx : x.f0 = e :: rest) :
    ∃ b o c o', w.cell? ⟨g, 0, none⟩ = some (.slice (some ⟨b, o, none⟩) (rest.length + 1) c) ∧ rest.length + 1 ≤ c ∧ (if c = 1 then (⟨b, o, none⟩ : Addr) else ⟨b, o + 5, none⟩) = ⟨b, o', none⟩ ∧
      w.cell? ⟨b, o, none⟩ = some (.string e.f0) ∧ w.cell? ⟨b, o + 1, none⟩ = some (.int .i64 e.f1) ∧ w.cell? ⟨b, o + 2, none⟩ = some (.int .i64 e.f2) ∧ w.cell? ⟨b, o + 3, none⟩ = some (.string e.f3) ∧ w.cell? ⟨b, o + 4, none⟩ = some (.int .i64 e.f4) ∧
      w.frozen? ⟨g, 0, none⟩ = false ∧ b < N ∧
      (∀ W, HeapAt W N gh g cap (x :: r) → W.cell? ⟨g, 0, none⟩ = some (.slice (some ⟨b, o, none⟩) (rest.length + 1) c) → HeapAt (W.setCell ⟨g, 0, none⟩ (.slice (some ⟨b, o', none⟩) rest.length (c - 1))) N gh g cap (⟨rest, x.f1⟩ :: r) ∧ Moves g gh W (W.setCell ⟨g, 0, none⟩ (.slice (some ⟨b, o', none⟩) rest.length (c - 1)))) := by
  obtain ⟨h1, cells, h2, h3, h4, h4', h5⟩ := id h
  obtain ⟨v, e1, e2, b, o, c, cs, rfl, h6, ⟨h7, hbN⟩, hC⟩ := h5 0 x rfl
  have hl : x.f0.length = rest.length + 1 := by rw [hx]; rfl
  obtain ⟨ad, ea, hcell⟩ := hC.2.2 (by omega)
  obtain rfl := Option.some.inj ea
  obtain ⟨cv, hcl, hK, hat⟩ := hcell 0 e (by rw [hx]; rfl)
  have hcv := k48_open hK
  subst hcv
  have at_ : ∀ i u, ([.string e.f0, .int .i64 e.f1, .int .i64 e.f2, .string e.f3, .int .i64 e.f4] : List Value)[i]? = some u → w.cell? ⟨b, o + i, none⟩ = some u := fun i u hi => by
    have := hat i u hi
    rwa [addr_add, Nat.zero_mul, Nat.zero_add] at this
  obtain ⟨o', ho'⟩ : ∃ o', (if c = 1 then (⟨b, o, none⟩ : Addr) else ⟨b, o + 5, none⟩) = ⟨b, o', none⟩ := by
    split
    · exact ⟨_, rfl⟩
    · exact ⟨_, rfl⟩
  refine ⟨b, o, c, o', ?_, by omega, ho', at_ 0 _ rfl, at_ 1 _ rfl, at_ 2 _ rfl, at_ 3 _ rfl, at_ 4 _ rfl, blk_frozen h2 0, hbN, fun W HW hWc => ?_⟩
  · rw [← hl]
    exact (blk_cell h2 0).trans e1
  · have hM : Moves g gh W (W.setCell ⟨g, 0, none⟩ (.slice (some ⟨b, o', none⟩) rest.length (c - 1))) := (Moves.refl g gh W).set _ (.inl rfl) _
    have hst := HW.still hM
    have hne := HW.ne
    obtain ⟨H1, C, H2, H3, H4, H4', H5⟩ := HW
    obtain ⟨V, E1, E2, E3⟩ := H5 0 x rfl
    have hV : V = .slice (some ⟨b, o, none⟩) (rest.length + 1) c := Option.some.inj (((blk_cell H2 0).trans E1).symm.trans hWc)
    subst hV
    obtain ⟨B, O, CC, CS, EV, G1, ⟨G2, GN⟩, G3⟩ := E3
    injection EV with EV1 EV2 EV3
    injection EV1 with EV1
    injection EV1 with EB EO
    subst EB EO EV3
    refine ⟨⟨?_, C.setIfInBounds 0 (.slice (some ⟨b, o', none⟩) rest.length (c - 1)), blk_put H2 0 _ rfl, by simpa using H3, by simpa using H4, by simpa using H4', fun i y hy => ?_⟩, hM⟩
    · exact (Below.heap_setCell W _ _ gh hne).trans H1
    · cases i with
      | zero =>
        obtain rfl : y = ⟨rest, x.f1⟩ := (Option.some.inj hy).symm
        have hcs : 0 < C.size := by simp at H4; omega
        refine ⟨_, by simp [hcs], by simpa using E2, LeftAt.move (w := W) ⟨b, o', c - 1, CS, rfl, by show rest.length ≤ _; omega, ⟨G2, GN⟩, ?_⟩ hst⟩
        have hd := Kd.C_drop (k := k48) (m := 1) G3 (by omega) G1
        rw [hx] at hd
        have hA : (if c = 1 then (some (⟨b, o, none⟩ : Addr)) else (some (⟨b, o, none⟩ : Addr)).map (·.add (1 * k48.sz))) = some ⟨b, o', none⟩ := by
          rw [← ho']
          split
          · rfl
          · rw [Option.map_some, addr_add]
            rfl
        rw [hA] at hd
        exact hd
      | succ i =>
        obtain ⟨v', c1, c2, c3⟩ := H5 (i + 1) y hy
        refine ⟨v', ?_, ?_, c3.move hst⟩
        · rw [Array.getElem?_setIfInBounds, if_neg (by omega)]; exact c1
        · rw [Array.getElem?_setIfInBounds, if_neg (by omega)]; exact c2
/-! #### MergeAll -/
/-- The heads that are made of lists, from a place on. -/
def buildF (k : Nat) : List (List S48) → Int → List S75 → Option (List S75)
  | [], _, hs => some hs
  | l :: ls, p, hs => if l.length = 0 then buildF k ls (p + 1) hs else if hs.length < 3 ∧ l.length ≤ 1048576 then (impl_Entry_47.f k l 0).bind fun s => buildF k ls (p + 1) (hs ++ [⟨s, p⟩]) else none
/-- What the heap gives, one by one. -/
def mergeF : Nat → List S75 → List S48 → Option (List S48)
  | 0, _, _ => none
  | _ + 1, [], all => some all
  | k + 1, x :: r, all => match x.f0 with
    | [] => none
    | e :: rest => if all.length < 1048576 then (if rest.length = 0 then ((popF k (⟨rest, x.f1⟩ :: r)).bind fun hs' => mergeF k hs' (all ++ [e])) else ((downF k (⟨rest, x.f1⟩ :: r) (r.length + 1)).bind fun hs' => mergeF k hs' (all ++ [e]))) else none
def impl_MergeAll.f (k : Nat) (l0 : List (List S48)) : Option (List S48) :=
  if l0.length ≤ 1048576 then ((buildF k l0 0 []).bind fun hs => if hs.length = 0 then some [] else ((downF k hs hs.length).bind fun hs' => mergeF k hs' [])) else none
theorem downF_mono (k : Nat) (hs : List S75) (n : Nat) : LeO (downF k hs n) (downF (k + 1) hs n) := by
  match n with
  | 0 => exact LeO.refl _
  | 1 => exact LeO.refl _
  | 2 => exact LeO.bind (impl_heads_Less.mono _ _ _ _) (fun _ => LeO.refl _)
  | 3 =>
    refine LeO.bind (impl_heads_Less.mono _ _ _ _) (fun b => ?_)
    split
    · exact LeO.bind (impl_heads_Less.mono _ _ _ _) (fun _ => LeO.refl _)
    · exact LeO.bind (impl_heads_Less.mono _ _ _ _) (fun _ => LeO.refl _)
  | _ + 4 => exact LeO.refl _
theorem popF_mono (k : Nat) (hs : List S75) : LeO (popF k hs) (popF (k + 1) hs) := LeO.bind (downF_mono _ _ _) (fun _ => LeO.refl _)
theorem buildF_mono (k : Nat) : ∀ (ls : List (List S48)) (p : Int) (hs : List S75), LeO (buildF k ls p hs) (buildF (k + 1) ls p hs) := by
  intro ls
  induction ls with
  | nil => intro p hs; exact LeO.refl _
  | cons l ls ih =>
    intro p hs
    simp only [buildF]
    split
    · exact ih _ _
    · split
      · exact LeO.bind (impl_Entry_47.mono _ _ _) (fun _ => ih _ _)
      · exact LeO.refl _
theorem mergeF_mono : ∀ (k : Nat) (hs : List S75) (all : List S48), LeO (mergeF k hs all) (mergeF (k + 1) hs all) := by
  intro k
  induction k with
  | zero => intro hs all r h; cases h
  | succ k ih =>
    intro hs all
    cases hs with
    | nil => exact LeO.refl _
    | cons x r =>
      rw [mergeF, mergeF]
      split
      · exact LeO.refl _
      · split
        · split
          · exact LeO.bind (popF_mono _ _) (fun _ => ih _ _)
          · exact LeO.bind (downF_mono _ _ _) (fun _ => ih _ _)
        · exact LeO.refl _
theorem impl_MergeAll.mono : ∀ a0 k, LeO (impl_MergeAll.f k a0) (impl_MergeAll.f (k + 1) a0) := by
  intro a0 k
  unfold impl_MergeAll.f
  split
  · refine LeO.bind (buildF_mono _ _ _ _) (fun hs => ?_)
    split
    · exact LeO.refl _
    · exact LeO.bind (downF_mono _ _ _) (fun _ => mergeF_mono _ _ _)
  · exact LeO.refl _
theorem info_head : (Try.prog.info? 75).map (fun i => (i.zero, i.size, i.bytes)) = some (some (.agg #[.slice none 0 0, .int .i64 0]), k75.sz, 32) := by kernel_rfl
theorem wrap_nextM {n : Nat} (h : n ≤ 1048576) : wrap64 ((n : Int) + 1) = ((n + 1 : Nat) : Int) := by unfold wrap64; omega
def sliceLen : Value → Nat
  | .slice _ n _ => n
  | _ => 0
theorem meas_all {α : Type} {A B : Option Addr} {c d : Nat} {all : List α} (h : all.length < 1048576) : 1048576 - sliceLen (.slice A (all.length + 1) c) < 1048576 - sliceLen (.slice B all.length d) := by
  simp only [sliceLen]
  omega
theorem meas_b {W n : Nat} (h1 : n < W) (h2 : n ≤ 1048576) : W - (intOf (.int .i64 (wrap64 ((n : Int) + 1)))).toNat < W - (intOf (.int .i64 (n : Int))).toNat := by
  rw [wrap_nextM h2]
  simp only [intOf]
  omega
theorem elem_rowM {α : Type} {e : Nat} {d : Kd α} {w : World} {A : Option Addr} {ls pre rest : List (List α)} {x : List α} (hr : (Kd.slice e d).C w A ls.length ls) (hl : ls = pre ++ x :: rest) :
    ∃ ad A' c', A = some ad ∧ w.cell? (ad.add pre.length) = some (.slice A' x.length c') ∧ x.length ≤ c' ∧ d.C w A' x.length x := by
  have h0 : 0 < ls.length := by rw [hl]; simp; omega
  obtain ⟨ad, ha, hc⟩ := hr.2.2 h0
  obtain ⟨c, h1, ⟨A', c', rfl, h2, h3⟩, h4⟩ := hc pre.length x (by rw [hl]; simp)
  refine ⟨ad, A', c', ha, ?_, h2, h3⟩
  have := h4 0 _ rfl
  rw [show pre.length * (Kd.slice e d).sz + 0 = pre.length from by show pre.length * 1 + 0 = _; omega] at this
  exact this
theorem twoCells {l : List Value} {a : Nat} {p q : Value} (h : (l.drop a).take 2 = [p, q]) : l[a]? = some p ∧ l[a + 1]? = some q := by
  have h0 := congrArg (fun z => z[0]?) h
  have h1 := congrArg (fun z => z[1]?) h
  simp only [List.getElem?_take, List.getElem?_drop] at h0 h1
  exact ⟨by simpa using h0, by simpa using h1⟩
/-- The row that was made, as the heap's. -/
theorem HeapAt.made {w : World} {gh base : Nat} {ok : Nat → Prop} {v : Value} {hs : List S75} (hb : w.heap[gh]? = some (.cells #[v] 71 (0, 0))) (hr : Kd.R k75 75 w base ok v hs) (h0 : hs ≠ []) (h3 : hs.length ≤ 3) (hne : ∀ x ∈ hs, x.f0 ≠ []) :
    ∃ g cap, v = .slice (some ⟨g, 0, none⟩) hs.length cap ∧ base ≤ g ∧ g < w.heap.size ∧ HeapAt w w.heap.size gh g cap hs := by
  have hp := List.length_pos_iff.2 h0
  obtain ⟨hok, inner, hown, hl, hreps⟩ := hr
  rcases hown.2 with h | ⟨g, cap, cur, rfl, hg, hh, hle, _, hsz, htk⟩
  · have := h.2
    omega
  · refine ⟨g, cap, rfl, hg, blk_lt hh, hb, cur, hh, hsz, hle, h3, fun i x hx => ?_⟩
    obtain ⟨v0, hcs, hR⟩ := k75_openM (hreps i x hx)
    rw [show k75.sz = 2 from rfl] at hcs htk
    have hi : i < hs.length := (List.getElem?_eq_some_iff.1 hx).1
    obtain ⟨p1, p2⟩ := twoCells hcs
    rw [← htk] at p1 p2
    have q1 : cur[i * 2]? = some v0 := by
      rw [List.getElem?_take, if_pos (by omega)] at p1
      simpa using p1
    have q2 : cur[i * 2 + 1]? = some (.int .i64 x.f1) := by
      rw [List.getElem?_take, if_pos (by omega)] at p2
      simpa using p2
    obtain ⟨b, cap', rfl, hb1, hb2, cells, hcells⟩ := Kd.R_form hR (List.length_pos_iff.2 (hne x (List.mem_of_getElem? hx)))
    obtain ⟨_, hc1, hc2⟩ := Kd.R_reads' hR
    exact ⟨_, q1, q2, b, 0, cap', cells, rfl, hc1, ⟨hcells, hb2⟩, hc2⟩
set_option maxRecDepth 100000 in
set_option maxHeartbeats 16000000 in
theorem impl_MergeAll.calls (k : Nat) (A0 : Option Addr) (c0 : Nat) (l0 : List (List S48)) (r : List S48) (w : World) (hr0 : Kd.C (Kd.slice 48 k48) w A0 l0.length l0) (hc0 : l0.length ≤ c0) (h : impl_MergeAll.f k l0 = some r) :
    Calls Try.prog 25 #[.slice A0 l0.length c0] w fun e w' => ∃ v0_ : Value, e = .returned (v0_) ∧ Kd.R k48 48 w' w.heap.size (fun _ => True) v0_ r ∧ Below w.heap.size w w' := by
  unfold impl_MergeAll.f at h
  by_cases hl0 : l0.length ≤ 1048576
  rotate_left
  · rw [if_neg hl0] at h
    cases h
  rw [if_pos hl0] at h
  obtain ⟨HS, hB, h⟩ := Option.bind_eq_some_iff.1 h
  have HR := Aside0.mk hr0
  have HL := Aside0.mk hl0
  have HBF := Aside0.mk hB
  have H := Aside0.mk h
  clear hr0 hl0 hB h hc0
  go_enter Try.func25, Try.ntmps25
  go_wp2
  go_loopw [10] (fun v10 wr => ∃ (pre rest : List (List S48)) (hs : List S75) (v : Value), v10 = .int .i64 (pre.length : Nat) ∧ Aside0 (l0 = pre ++ rest) ∧ Aside0 (buildF k rest (pre.length : Nat) hs = some HS) ∧ Aside0 (hs.length ≤ 3) ∧ Aside0 (∀ x ∈ hs, x.f0 ≠ []) ∧ Aside0 (wr.heap[w.heap.size]? = some (.cells #[v] 71 (0, 0))) ∧ Aside0 (Kd.R k75 75 wr w.heap.size (fun j => j ≠ w.heap.size) v hs) ∧ Aside0 (Below w.heap.size w wr)) (fun v10 _ => l0.length - (intOf v10).toNat)
  case atStart =>
    exact ⟨[], l0, [], _, rfl, ⟨rfl⟩, HBF, ⟨by simp⟩, ⟨fun x hx => by simp at hx⟩, ⟨heap_alloc_new w _⟩, ⟨Kd.R_nil _ _ _ _ _⟩, ⟨(Below.refl _ w).alloc (Nat.le_refl _) _⟩⟩
  case round =>
    obtain ⟨pre, rest, hs, v, rfl, HX, HBR, H3, HNE, HBX, HRH, HB⟩ := hrel
    cases rest with
    | cons x rest =>
      have hlen : pre.length < l0.length := by rw [HX.out]; simp
      have hL1 : l0.length ≤ 1048576 := HL.out
      have e1 : decide ((pre.length : Int) < (l0.length : Int)) = true := decide_eq_true (by omega)
      have e2 : decide (pre.length < l0.length) = true := decide_eq_true hlen
      have e3 : ((0 : Int) ≤ (pre.length : Int)) = True := eq_true (by omega)
      have e4 : ((pre.length : Int) < (l0.length : Int)) = True := eq_true (by omega)
      have e5 : (pre.length < l0.length) = True := eq_true hlen
      have e6 : (pre ++ [x]).length = pre.length + 1 := by simp
      obtain ⟨ad, A', c', rfl, y0', hxc, hCx'⟩ := elem_rowM HR.out HX.out
      have y0 := (HB.out.cell (World.block_lt_of_cell? w _ y0')).trans y0'
      have hCx := Kd.C_below hCx' HB.out
      have HLT := Aside0.mk hlen
      have HLN := Aside0.mk (show pre.length ≤ 1048576 by omega)
      have HXC := Aside0.mk hxc
      have HCX := Aside0.mk hCx
      have hbr := HBR.out
      simp only [buildF] at hbr
      clear hlen hL1 y0' hxc hCx' hCx HBR
      by_cases hx0 : x.length = 0
      · rw [if_pos hx0] at hbr
        have s1 : decide (0 < x.length) = false := decide_eq_false (by omega)
        have s2 : decide ((0 : Int) < (x.length : Int)) = false := decide_eq_false (by omega)
        have s3 : decide ((x.length : Int) > 0) = false := decide_eq_false (by omega)
        have HBR := Aside0.mk hbr
        clear hbr
        go_wp2
        go_roundw
        case rel => exact ⟨pre ++ [x], rest, hs, v, by rw [e6, wrap_nextM HLN.out], ⟨by rw [HX.out]; simp⟩, ⟨by rw [e6]; exact HBR.out⟩, H3, HNE, HBX, HRH, HB⟩
        case measure => exact meas_b HLT.out HLN.out
      · rw [if_neg hx0] at hbr
        by_cases hcc : hs.length < 3 ∧ x.length ≤ 1048576
        rotate_left
        · rw [if_neg hcc] at hbr
          cases hbr
        rw [if_pos hcc] at hbr
        obtain ⟨s, hs1, hbr⟩ := Option.bind_eq_some_iff.1 hbr
        have s1 : decide (0 < x.length) = true := decide_eq_true (by omega)
        have s2 : decide ((0 : Int) < (x.length : Int)) = true := decide_eq_true (by omega)
        have s3 : decide ((x.length : Int) > 0) = true := decide_eq_true (by omega)
        have HBR := Aside0.mk hbr
        have HSO := Aside0.mk hs1
        have HCC := Aside0.mk hcc
        have HXN := Aside0.mk hx0
        clear hbr hs1 hcc hx0
        go_wp2_with (first | ((with_reducible refine gate_builtin (b := .append) (xs := #[.const (.slice none 0 0), .tmp 18]) rfl ?_); at_builtin; refine Kd.R_append_rows k48 (w0 := w) w.heap.size rfl (.const (.slice none 0 0)) (.tmp 18) 25 48 (.agg #[(.string ⟨#[]⟩), (.int .i64 0), (.int .i64 0), (.string ⟨#[]⟩), (.int .i64 0)]) 56 rfl Try.underlying25 info48 rfl (by decide) (by omega) (.slice none 0 0) [] x A' x.length c' (fun j => wr.heap.size ≤ j) (fun _ => False) rfl rfl (Kd.R_nil _ _ _ _ _) HCX.out (fun y cs hk => by obtain rfl := k48_open hk; exact k48_mkM _ _ _ y) (fun _ h => h.elim) (fun _ h => h) HB.out HB.out.size (by have h1 := HCC.out.2; simp only [List.length_nil]; omega) ?_; intro v7 w7 ho7 hb7 hg7 ha7; refine Hid.out ?_))
        rw [List.nil_append] at ho7
        obtain ⟨A7, c7, rfl⟩ := Kd.R_slice ho7
        obtain ⟨Av, cv, rfl⟩ := Kd.R_slice HRH.out
        have HW7 := Aside0.mk (show Below wr.heap.size wr w7 from ⟨hg7.os, hg7.tape, hg7.output, hg7.size, fun j hj => hg7.block j hj (by simp [Value.ownBlock])⟩)
        have HSC := Aside0.mk (impl_Entry_47.calls k (fun j => wr.heap.size ≤ j) (.slice A7 x.length c7) x 0 s w w7 hb7 ho7 HSO.out)
        clear ho7 hb7 hg7 ha7 HSO HCX y0
        refine hid_ ?_
        go_wp2_with (go_at_call 47; refine HSC.out.mono ?_; rintro e8 w8 ⟨rfl, hr8, hb8, hk8⟩; refine Hid.out ?_)
        have hst : ∀ j, j < wr.heap.size → w8.heap[j]? = wr.heap[j]? := fun j hj => (hk8.2 j (Nat.lt_of_lt_of_le hj HW7.out.size) (by omega)).trans (HW7.out.block j hj)
        have hsz8 : wr.heap.size ≤ w8.heap.size := Nat.le_trans HW7.out.size hk8.1
        have hgh : w.heap.size < wr.heap.size := blk_lt HBX.out
        have hbx8 := (hst _ hgh).trans HBX.out
        have hrh8 := Kd.R_step HRH.out (w1 := w8) (fun j _ hlt => hst j hlt)
        have hown : ∀ j, (Value.slice Av hs.length cv).ownBlock = some j → j < wr.heap.size := by
          obtain ⟨inner, ho⟩ := Kd.R_own HRH.out
          exact fun j e => own_lt ho j e
        have hls := (Kd.R_reads' hr8).1
        have hr8' : Kd.R k48 48 w8 w.heap.size (fun j => wr.heap.size ≤ j) (.slice A7 x.length c7) s := Kd.R_mono hr8 (fun j hj => hj.elim id (fun hj => Nat.le_trans HW7.out.size hj))
        have x8 : w8.cell? ⟨w.heap.size, 0, none⟩ = some (.slice Av hs.length cv) := (blk_cell hbx8 0).trans rfl
        have HBX8 := Aside0.mk hbx8
        have HRH8 := Aside0.mk hrh8
        have HOWN := Aside0.mk hown
        have HLS := Aside0.mk hls
        have HR8 := Aside0.mk hr8'
        have HB8 := Aside0.mk hb8
        have HZ8 := Aside0.mk (⟨hsz8, hgh⟩ : wr.heap.size ≤ w8.heap.size ∧ w.heap.size < wr.heap.size)
        clear hst hsz8 hgh hbx8 hrh8 hown hls hr8 hr8' hb8 hk8 HW7 HSC HBX HRH HB
        refine hid_ ?_
        go_wp2_with (first | ((with_reducible refine gate_builtin (b := .append) (xs := #[.tmp 22, .tmp 26]) rfl ?_); at_builtin; refine Kd.R_append k75 (w0 := w) w.heap.size rfl (.tmp 22) (.tmp 26) 71 75 (.agg #[.slice none 0 0, .int .i64 0]) 32 rfl Try.underlying71 info_head rfl (by decide) (by omega) (.slice Av hs.length cv) hs ⟨s, (pre.length : Int)⟩ [.slice A7 x.length c7, .int .i64 (pre.length : Int)] (fun j => j ≠ w.heap.size) (fun j => wr.heap.size ≤ j) rfl (by first | (go_simp; done) | (go_simp; rfl)) ?aP ?aK ?aF ?aO ?aB ?aS ?aL ?_; (case aP => exact k75_mkM _ _ _ ⟨s, (pre.length : Int)⟩ HR8.out); (case aK => exact fun j hj => ⟨by have := HZ8.out.2; omega, fun e => by have := HOWN.out j e.symm; omega⟩); (case aF => exact fun j hj => by have h1 := HZ8.out; omega); (case aO => exact HRH8.out); (case aB => exact HB8.out); (case aS => exact HB8.out.size); (case aL => have h1 := HCC.out.1; omega); intro v9 w9 ho9 hb9 hg9 ha9; refine Hid.out ?_))
        obtain ⟨A9, c9, rfl⟩ := Kd.R_slice ho9
        have hbx9 := blk_grown HBX8.out hg9 (fun e => HRH8.out.1 _ e.symm rfl)
        have x9 : w9.cell? ⟨w.heap.size, 0, none⟩ = some (.slice Av hs.length cv) := (blk_cell hbx9 0).trans rfl
        have f9 := blk_frozen hbx9 0
        have HBX9 := Aside0.mk hbx9
        have HR9 := Aside0.mk ho9
        have HB9 := Aside0.mk hb9
        clear hbx9 ho9 hb9 hg9 ha9 x8 HBX8 HRH8
        refine hid_ ?_
        go_wp2
        go_roundw
        case rel =>
          refine ⟨pre ++ [x], rest, hs ++ [⟨s, (pre.length : Int)⟩], .slice A9 (hs ++ [(⟨s, (pre.length : Int)⟩ : S75)]).length c9, by rw [e6, wrap_nextM HLN.out], ⟨by rw [HX.out]; simp⟩, ⟨by rw [e6]; exact HBR.out⟩, ⟨by have := HCC.out.1; simp; omega⟩, ⟨fun y hy => ?_⟩, ⟨blk_put HBX9.out 0 _ (by simp)⟩, ⟨Kd.R_far HR9.out (p := ⟨w.heap.size, 0, none⟩) (fun j hj => hj) _⟩, ⟨HB9.out.setCell (p := ⟨w.heap.size, 0, none⟩) (Nat.le_refl _) _⟩⟩
          rcases List.mem_append.1 hy with hy | hy
          · exact HNE.out y hy
          · rw [List.mem_singleton.1 hy]
            intro e
            have h1 := HLS.out
            have e' : s = [] := e
            rw [e'] at h1
            exact HXN.out h1
        case measure => exact meas_b HLT.out HLN.out
    | nil =>
      have hpl : pre.length = l0.length := by rw [HX.out]; simp
      have e1 : decide ((pre.length : Int) < (l0.length : Int)) = false := decide_eq_false (by omega)
      have e2 : decide (pre.length < l0.length) = false := decide_eq_false (by omega)
      obtain rfl : hs = HS := Option.some.inj HBR.out
      clear hpl
      by_cases h0 : hs = []
      · subst h0
        obtain ⟨A, c, rfl⟩ := Kd.R_slice HRH.out
        have hbox : wr.heap[w.heap.size]? = some (.cells #[.slice A 0 c] 71 (0, 0)) := HBX.out
        have hr := H.out
        simp only [List.length_nil, if_true] at hr
        obtain rfl := Option.some.inj hr
        have x0 : wr.cell? ⟨w.heap.size, 0, none⟩ = some (.slice A 0 c) := (blk_cell hbox 0).trans rfl
        have HI := Aside0.mk (init_none A c hbox)
        clear hbox hr
        go_wp2_with (go_at_call 49; refine HI.out.mono ?_; rintro e w1 ⟨rfl, rfl⟩)
        apply wp_loop_rounds 1
        rw [rounds_succ]
        go_wp2
        go_ret
        exact ⟨_, rfl, Kd.R_nil _ _ _ _ _, HB.out⟩
      · have hr := H.out
        rw [if_neg (by intro e; exact h0 (List.eq_nil_of_length_eq_zero e))] at hr
        obtain ⟨HS', hD, hr⟩ := Option.bind_eq_some_iff.1 hr
        obtain ⟨g, cap, rfl, hg1, hg2, hHA⟩ := HeapAt.made HBX.out HRH.out h0 H3.out HNE.out
        obtain ⟨N, hN⟩ : ∃ N, wr.heap.size = N := ⟨_, rfl⟩
        have hgh : w.heap.size < N := by rw [← hN]; exact blk_lt HBX.out
        rw [hN] at hHA hg2
        have HI := Aside0.mk (init_at k hHA h0 hD)
        have HM := Aside0.mk hr
        have HN := Aside0.mk hN
        have HG := Aside0.mk (⟨hg1, hg2, hgh⟩ : w.heap.size ≤ g ∧ g < N ∧ w.heap.size < N)
        clear hr hD hHA hg1 hg2 hgh hN HBX HRH H HBF HBR HX HR
        go_wp2_with (go_at_call 49; refine HI.out.mono ?_; rintro e w1 ⟨rfl, hH, hM⟩; refine Hid.out ?_)
        have H1 := Aside0.mk hH
        have HB1 := Aside0.mk (HB.out.trans (hM.low w.heap.size HG.out.1 (Nat.le_refl _) HB.out.size))
        have HN1 := Aside0.mk (show N ≤ w1.heap.size by rw [← HN.out]; exact hM.size)
        clear hH hM HI
        refine hid_ ?_
        go_wp2
        go_loopw [7] (fun v7 wq => ∃ (d : Nat) (zs : List S75) (all : List S48), Aside0 (mergeF d zs all = some r) ∧ Aside0 (HeapAt wq N w.heap.size g cap zs) ∧ Aside0 (Kd.R k48 48 wq w.heap.size (fun j => N ≤ j) v7 all) ∧ Aside0 (Below w.heap.size w wq) ∧ Aside0 (N ≤ wq.heap.size)) (fun v7 _ => 1048576 - sliceLen v7)
        case atStart => exact ⟨k, HS', [], HM, H1, ⟨Kd.R_nil _ _ _ _ _⟩, HB1, HN1⟩
        case round =>
          clear HM H1 HB1 HN1 HB
          obtain ⟨d, zs, all, HM, HH, HA, HB, HNQ⟩ := hrel
          obtain ⟨A7, c7, rfl⟩ := Kd.R_slice HA.out
          cases d with
          | zero => exact absurd HM.out (by simp [mergeF])
          | succ d =>
            cases zs with
            | nil =>
              have hr := HM.out
              simp only [mergeF] at hr
              obtain rfl := Option.some.inj hr
              have x0 : wr.cell? ⟨w.heap.size, 0, none⟩ = some (.slice (some ⟨g, 0, none⟩) 0 cap) := HH.out.cell
              clear hr
              go_wp2
              go_ret
              exact ⟨_, rfl, Kd.R_mono HA.out (fun _ _ => trivial), HB.out⟩
            | cons x rr =>
              have hm := HM.out
              rw [mergeF] at hm
              cases hx : x.f0 with
              | nil =>
                rw [hx] at hm
                cases hm
              | cons e rest =>
                rw [hx] at hm
                simp only at hm
                by_cases hT : all.length < 1048576
                rotate_left
                · rw [if_neg hT] at hm
                  cases hm
                rw [if_pos hT] at hm
                have x0 : wr.cell? ⟨w.heap.size, 0, none⟩ = some (.slice (some ⟨g, 0, none⟩) (rr.length + 1) cap) := HH.out.cell
                obtain ⟨b, o, c, o', y0, hc1, ho', y1, y2, y3, y4, y5, f0, hbN, hT2⟩ := HH.out.tailed hx
                have q1 : decide ((0 : Int) < ((rr.length + 1 : Nat) : Int)) = true := decide_eq_true (by omega)
                have q2 : decide (0 < rr.length + 1) = true := decide_eq_true (by omega)
                have q3 : decide (((rr.length + 1 : Nat) : Int) > 0) = true := decide_eq_true (by omega)
                have q4 : decide ((0 : Int) < ((rest.length + 1 : Nat) : Int)) = true := decide_eq_true (by omega)
                have q5 : decide (0 < rest.length + 1) = true := decide_eq_true (by omega)
                have HT2 := Aside0.mk hT2
                have HHM := Aside0.mk hm
                have HTL := Aside0.mk hT
                have HO' := Aside0.mk ho'
                have HC1 := Aside0.mk hc1
                clear hT2 hm HM hT ho' hc1 hx hbN
                go_wp2_with (first | ((with_reducible refine gate_builtin (b := .append) (xs := #[.tmp 34, .tmp 41]) rfl ?_); at_builtin; refine Kd.R_append k48 (w0 := w) w.heap.size rfl (.tmp 34) (.tmp 41) 25 48 (.agg #[(.string ⟨#[]⟩), (.int .i64 0), (.int .i64 0), (.string ⟨#[]⟩), (.int .i64 0)]) 56 rfl Try.underlying25 info48 rfl (by decide) (by omega) (.slice A7 all.length c7) all e [.string e.f0, .int .i64 e.f1, .int .i64 e.f2, .string e.f3, .int .i64 e.f4] (fun j => N ≤ j) (fun _ => False) rfl (by first | (go_simp; done) | (go_simp; rfl)) ?aP (fun _ hk => hk.elim) ?aF ?aO ?aB ?aS ?aL ?_; (case aP => exact k48_mkM _ _ _ e); (case aB => exact HB.out); (case aF => exact fun _ hk => Nat.le_trans HNQ.out hk); (case aO => exact HA.out); (case aS => exact HB.out.size); (case aL => have h1 := HTL.out; omega); intro v1 w5 ho hb hg hat; refine Hid.out ?_))
                have hH5 := HH.out.grown hg HA.out.1 HG.out.2.2 HG.out.2.1
                obtain ⟨A8, c8, rfl⟩ := Kd.R_slice ho
                have hgb : w5.heap[g]? = wr.heap[g]? := by
                  obtain ⟨_, cells, hrow, _⟩ := HH.out
                  exact hg.block g (blk_lt hrow) (fun e => by have h1 := HA.out.1 g e.symm; have h2 := HG.out.2.1; omega)
                have y50 : w5.cell? ⟨g, 0, none⟩ = some (.slice (some ⟨b, o, none⟩) (rest.length + 1) c) := (World.cell?_of_block (a := ⟨g, 0, none⟩) hgb).trans y0
                have f50 : w5.frozen? ⟨g, 0, none⟩ = false := (World.frozen?_of_block (a := ⟨g, 0, none⟩) hgb).trans f0
                have x50 : w5.cell? ⟨w.heap.size, 0, none⟩ = some (.slice (some ⟨g, 0, none⟩) (rr.length + 1) cap) := hH5.cell
                have hT5 := HT2.out w5 hH5 y50
                have HNE5 := hH5.ne
                have HT5 := Aside0.mk hT5
                have HA5 := Aside0.mk ho
                have HB5 := Aside0.mk hb
                have HN5 := Aside0.mk (show N ≤ w5.heap.size from Nat.le_trans HNQ.out hg.size)
                have mixed : Try.prog.follows .mixedOrders = true := by kernel_rfl
                have r1 : decide ((1 : Int) ≤ ((rest.length + 1 : Nat) : Int)) = true := decide_eq_true (by omega)
                have r2 : decide (1 ≤ rest.length + 1) = true := decide_eq_true (by omega)
                have r3 : decide (rest.length + 1 ≤ c) = true := decide_eq_true HC1.out
                have r4 : decide (((rest.length + 1 : Nat) : Int) ≤ (c : Int)) = true := decide_eq_true (by have := HC1.out; omega)
                have r5 : decide (1 ≤ c) = true := decide_eq_true (by have := HC1.out; omega)
                clear hT5 ho hb hg hat hgb hH5 x0 y0 y1 y2 y3 y4 y5 f0 HT2 HA HB HH HNQ
                refine hid_ ?_
                go_wp2
                go_region_o
                have hif : (if c = 1 then (some (⟨b, o, none⟩ : Addr)) else some ⟨b, o + 5, none⟩) = some ⟨b, o', none⟩ := by
                  rw [← HO'.out]
                  split <;> rfl
                rw [hif]
                obtain ⟨W6, hW6⟩ : ∃ W6, (w5.setCell ⟨g, 0, none⟩ (.slice (some ⟨b, o', none⟩) rest.length (c - 1))).drew = W6 := ⟨_, rfl⟩
                rw [hW6]
                have hM6 : Moves g w.heap.size w5 W6 := by rw [← hW6]; exact HT5.out.2.drew
                have hH6 : HeapAt W6 N w.heap.size g cap (⟨rest, x.f1⟩ :: rr) := by rw [← hW6]; exact HT5.out.1.below (Below.refl _ _).drew
                have x6 : W6.cell? ⟨w.heap.size, 0, none⟩ = some (.slice (some ⟨g, 0, none⟩) (rr.length + 1) cap) := hH6.cell
                obtain ⟨b6, o6, c6, y6⟩ : ∃ b6 o6 c6, W6.cell? ⟨g, 0, none⟩ = some (.slice (some ⟨b6, o6, none⟩) rest.length c6) := by
                  obtain ⟨_, cells6, hrow6, _, _, _, h56⟩ := hH6
                  obtain ⟨_, e61, _, b6, o6, c6, cs6, rfl, _⟩ := h56 0 _ rfl
                  exact ⟨b6, o6, c6, (blk_cell hrow6 0).trans e61⟩
                have HH6 := Aside0.mk hH6
                have HB6 := Aside0.mk (HB5.out.trans (hM6.low w.heap.size HG.out.1 (Nat.le_refl _) HB5.out.size))
                have HN6 := Aside0.mk (Nat.le_trans HN5.out hM6.size)
                have HA6 := Aside0.mk (Kd.R_step HA5.out (fun j hj hlt => hM6.keep j hlt (fun e => by have h2 := HG.out.2.1; omega) (fun e => by have h2 := HG.out.2.2; omega)))
                clear hif hW6 hM6 hH6 HT5 HA5 HB5 HN5 x50 y50 f50 HO' HC1 r1 r2 r3 r4 r5 mixed HNE5
                by_cases hre : rest.length = 0
                · have s1 : decide (rest.length = 0) = true := decide_eq_true hre
                  have s2 : ((rest.length : Int) == 0) = true := by rw [hre]; rfl
                  have s3 : decide ((rest.length : Int) = 0) = true := decide_eq_true (by omega)
                  have s4 : (rest.length == 0) = true := by rw [hre]; rfl
                  have hm := HHM.out
                  rw [if_pos hre] at hm
                  obtain ⟨zs', hP, hm⟩ := Option.bind_eq_some_iff.1 hm
                  have HP := Aside0.mk (pop_at d HH6.out (by simp) hP)
                  have HM := Aside0.mk hm
                  clear hP hm HHM
                  go_wp2_with (go_at_call 50; refine HP.out.mono ?_; rintro e7 w7 ⟨⟨v9, rfl⟩, hH, hM⟩; refine Hid.out ?_)
                  have H7 := Aside0.mk hH
                  have HB7 := Aside0.mk (HB6.out.trans (hM.low w.heap.size HG.out.1 (Nat.le_refl _) HB6.out.size))
                  have HN7 := Aside0.mk (Nat.le_trans HN6.out hM.size)
                  have HA7 := Aside0.mk (Kd.R_step HA6.out (fun j hj hlt => hM.keep j hlt (fun e => by have h2 := HG.out.2.1; omega) (fun e => by have h2 := HG.out.2.2; omega)))
                  clear hH hM HP x6 y6
                  refine hid_ ?_
                  go_wp2
                  go_roundw
                  case rel => exact ⟨d, zs', all ++ [e], HM, H7, ⟨by have h9 := HA7.out; rw [List.length_append, List.length_singleton] at h9; exact h9⟩, HB7, HN7⟩
                  case measure => exact meas_all HTL.out
                · have s1 : decide (rest.length = 0) = false := decide_eq_false hre
                  have s2 : ((rest.length : Int) == 0) = false := beq_eq_false_iff_ne.2 (by omega)
                  have s3 : decide ((rest.length : Int) = 0) = false := decide_eq_false (by omega)
                  have s4 : (rest.length == 0) = false := beq_eq_false_iff_ne.2 hre
                  have hm := HHM.out
                  rw [if_neg hre] at hm
                  obtain ⟨zs', hP, hm⟩ := Option.bind_eq_some_iff.1 hm
                  have HP := Aside0.mk (fix_at d HH6.out hP)
                  have HM := Aside0.mk hm
                  clear hP hm HHM
                  go_wp2_with (go_at_call 51; refine HP.out.mono ?_; rintro e7 w7 ⟨rfl, hH, hM⟩; refine Hid.out ?_)
                  have H7 := Aside0.mk hH
                  have HB7 := Aside0.mk (HB6.out.trans (hM.low w.heap.size HG.out.1 (Nat.le_refl _) HB6.out.size))
                  have HN7 := Aside0.mk (Nat.le_trans HN6.out hM.size)
                  have HA7 := Aside0.mk (Kd.R_step HA6.out (fun j hj hlt => hM.keep j hlt (fun e => by have h2 := HG.out.2.1; omega) (fun e => by have h2 := HG.out.2.2; omega)))
                  clear hH hM HP x6 y6
                  refine hid_ ?_
                  go_wp2
                  go_roundw
                  case rel => exact ⟨d, zs', all ++ [e], HM, H7, ⟨by have h9 := HA7.out; rw [List.length_append, List.length_singleton] at h9; exact h9⟩, HB7, HN7⟩
                  case measure => exact meas_all HTL.out
end

end Go.Proofs.Ytcfebbhiehaocaa.QFnMerge
