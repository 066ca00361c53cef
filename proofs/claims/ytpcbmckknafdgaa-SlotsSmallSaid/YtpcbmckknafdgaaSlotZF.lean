/- Tables that are none: a nil pointer, and a table of which nothing is set. -/
import Derived.Test.YtpcbmckknafdgaaSlotI
namespace Go.Proofs.Ytpcbmckknafdgaa
open Go.RowKit Go.Shelf
set_option linter.unusedVariables false
set_option linter.unusedSimpArgs false
set_option maxRecDepth 100000
namespace Slot

/-- No table: nil, or one of which nothing is set. -/
def NoTab (W : World) (v : Value) : Prop := v = .pointer none ∨ ∃ p, v = .pointer (some ⟨p, 0, none⟩) ∧ W.heap[p]? = some (.cells #[.slice none 0 0, .int .i64 0, .int .i64 0] 74 (0, 0))
theorem NoTab.below {W W' : World} {v : Value} (h : NoTab W v) (hb : Below W.heap.size W W') : NoTab W' v := by
  rcases h with h | ⟨p, h, hp⟩
  · exact .inl h
  · exact .inr ⟨p, h, (hb.block p (Array.getElem?_eq_some_iff.1 hp).1).trans hp⟩
theorem NoTab.val {W : World} {v : Value} (h : NoTab W v) : ∃ a, v = .pointer a := by
  rcases h with h | ⟨p, h, _⟩ <;> exact ⟨_, h⟩

theorem none_yes (v : Value) (w : World) (h : NoTab w v) :
    Calls Try.prog 33 #[v] w fun e w' => e = .returned (.bool true) ∧ w = w' := by
  rcases h with rfl | ⟨p, rfl, hp⟩
  · go_enter Try.func33, Try.ntmps33
    go_wp2
    go_ret
    exact ⟨rfl, rfl⟩
  · have c1 : w.cell? ⟨p, 1, none⟩ = some (.int .i64 0) := by simp [World.cell?, hp]
    clear hp
    go_enter Try.func33, Try.ntmps33
    go_wp2
    go_ret
    exact ⟨rfl, rfl⟩

theorem Look_none (v : Value) (x : Int) (w : World) (h : NoTab w v) :
    Calls Try.prog 27 #[v, .int .i64 x] w fun e w' => e = .returned (.tuple #[.int .i64 0, .bool false]) ∧ w = w' := by
  have C := Lib.hid (none_yes v w h)
  clear h
  go_enter Try.func27, Try.ntmps27
  go_wp2_with fail
  refine C.out.mono ?_; rintro e w' ⟨rfl, rfl⟩
  go_wp2_with fail
  go_ret2
  exact ⟨rfl, rfl⟩

theorem Counts_none (v : Value) (w : World) (h : NoTab w v) :
    Calls Try.prog 20 #[v] w fun e w' => e = .returned (.tuple #[.int .i64 0, .int .i64 0, .int .i64 0]) ∧ w = w' := by
  have C := Lib.hid (none_yes v w h)
  clear h
  go_enter Try.func20, Try.ntmps20
  go_wp2_with fail
  refine C.out.mono ?_; rintro e w' ⟨rfl, rfl⟩
  go_wp2_with fail
  go_ret3
  exact ⟨rfl, rfl⟩

theorem Refs_none (v : Value) (w : World) (h : NoTab w v) :
    Calls Try.prog 21 #[v] w fun e w' => e = .returned (.slice none 0 0) ∧ w = w' := by
  have C := Lib.hid (none_yes v w h)
  clear h
  go_enter Try.func21, Try.ntmps21
  go_wp2_with fail
  refine C.out.mono ?_; rintro e w' ⟨rfl, rfl⟩
  go_wp2_with fail
  go_ret
  exact ⟨rfl, rfl⟩

theorem Free_none (v : Value) (w : World) (h : NoTab w v) :
    Calls Try.prog 18 #[v] w fun e w' => e = .returned (.slice none 0 0) ∧ w = w' := by
  have C := Lib.hid (none_yes v w h)
  clear h
  go_enter Try.func18, Try.ntmps18
  go_wp2_with fail
  refine C.out.mono ?_; rintro e w' ⟨rfl, rfl⟩
  go_wp2_with fail
  go_ret
  exact ⟨rfl, rfl⟩

theorem Clear_none (v : Value) (w : World) (h : NoTab w v) :
    Calls Try.prog 28 #[v] w fun e w' => e = .returned (.tuple #[.int .i64 0, .int .i64 1]) ∧ w = w' := by
  have C := Lib.hid (none_yes v w h)
  clear h
  go_enter Try.func28, Try.ntmps28
  go_wp2_with fail
  refine C.out.mono ?_; rintro e w' ⟨rfl, rfl⟩
  go_wp2_with fail
  go_ret2
  exact ⟨rfl, rfl⟩

theorem Live_none (v : Value) (a b : Int) (w : World) (h : NoTab w v) :
    Calls Try.prog 19 #[v, .agg #[.int .i64 a, .int .i64 b]] w fun e w' => e = .returned (.bool false) ∧ Below w.heap.size w w' := by
  have hB : Below w.heap.size w (w.alloc (.cells #[.int .i64 a, .int .i64 b] 26)) := (Below.refl _ _).alloc (Nat.le_refl _) _
  have C := Lib.hid (Look_none v a _ (h.below hB))
  clear h
  go_enter Try.func19, Try.ntmps19
  go_wp2_with fail
  refine C.out.mono ?_; rintro e w' ⟨rfl, rfl⟩
  go_wp2_with fail
  go_ret
  exact ⟨rfl, hB⟩

theorem Give_none (v : Value) (a b : Int) (w : World) (h : NoTab w v) :
    Calls Try.prog 24 #[v, .agg #[.int .i64 a, .int .i64 b]] w fun e w' => e = .returned (.int .i64 1) ∧ Below w.heap.size w w' := by
  have hB : Below w.heap.size w (w.alloc (.cells #[.int .i64 a, .int .i64 b] 26)) := (Below.refl _ _).alloc (Nat.le_refl _) _
  have C := Lib.hid (none_yes v _ (h.below hB))
  clear h
  go_enter Try.func24, Try.ntmps24
  go_wp2_with fail
  refine C.out.mono ?_; rintro e w' ⟨rfl, rfl⟩
  go_wp2_with fail
  go_ret
  exact ⟨rfl, hB⟩

theorem Take_none (v : Value) (w : World) (h : NoTab w v) :
    Calls Try.prog 23 #[v] w fun e w' => e = .returned (.tuple #[.agg #[.int .i64 0, .int .i64 0], .int .i64 1]) ∧ Below w.heap.size w w' := by
  have hB0 : Below w.heap.size w (w.alloc (.cells #[.int .i64 0, .int .i64 0] 26)) := (Below.refl _ w).alloc (Nat.le_refl _) _
  have C := Lib.hid (none_yes v _ (h.below hB0))
  have x3 : RefAt (w.alloc (.cells #[.int .i64 0, .int .i64 0] 26)) w.heap.size (0, 0) := World.alloc_heap_new w _
  clear h
  go_enter Try.func23, Try.ntmps23
  go_wp2_with fail
  refine C.out.mono ?_; rintro e w' ⟨rfl, rfl⟩
  generalize w.alloc (.cells #[.int .i64 0, .int .i64 0] 26) = w0 at *
  have g := RefAt.set x3 0 0
  have r0 := x3.c0
  have r1 := x3.c1
  have rf : ∀ i, w0.frozen? ⟨w.heap.size, i, none⟩ = false := fun i => by simp [World.frozen?, show w0.heap[w.heap.size]? = _ from x3]
  have rf0 := rf 0
  have rf1 := rf 1
  have G := Lib.hid g
  have G0 := Lib.hid (RefAt.c0 g)
  have G1 := Lib.hid (RefAt.c1 g)
  clear g
  go_wp2_with fail
  refine bodyPost_ret (v := .tuple #[.agg #[.int .i64 0, .int .i64 0], .int .i64 1]) (take_results G.out rfl rfl) rfl ⟨rfl, ?_⟩
  exact (hB0.setCell (p := ⟨w.heap.size, 0, none⟩) (Nat.le_refl _) _).setCell (p := ⟨w.heap.size, 1, none⟩) (Nat.le_refl _) _

theorem next_results' {W : World} {S : Nat} {x : R} {b : Bool} {tmps : Array Value} (h1 : RefAt W (S + 1) x) (h2 : Boxed W (S + 1 + 1) 4 (.bool b)) (e2 : tmps[2]? = some (.pointer (some ⟨S + 1, 0, none⟩))) (e3 : tmps[3]? = some (.pointer (some ⟨S + 1 + 1, 0, none⟩))) :
    (results Try.f22 tmps).run Try.prog W = .ok (.tuple #[.agg #[.int .i64 x.1, .int .i64 x.2], .bool b]) W := by
  have c0 := h1.c0
  have c1 := h1.c1
  have c2 := h2.cell
  simp [results, Try.results22, go_sem, e2, e3, c0, c1, c2]

set_option maxHeartbeats 1000000 in
theorem Next_none (v : Value) (w : World) (h : NoTab w v) :
    Calls Try.prog 22 #[v] w fun e w' => e = .returned (.tuple #[.agg #[.int .i64 0, .int .i64 0], .bool false]) ∧ Below w.heap.size w w' := by
  obtain ⟨pa, rfl⟩ := h.val
  refine (callsIn_wide (n := 6)).1 ?_
  refine callsIn_of_wp_marks Try.func22 rfl trivial ?_ rfl
  simp only [Try.ntmps22, List.size_toArray, List.length_cons, List.length_nil, Nat.reduceAdd, Nat.reduceSub, Array.replicate_succ, Array.replicate_zero, List.push_toArray, List.append_toArray, List.nil_append, List.cons_append]
  have hB0 : Below w.heap.size w (((w.alloc (.cells #[.pointer pa] 33)).alloc (.cells #[.int .i64 0, .int .i64 0] 26)).alloc (.cells #[.bool false] 4)) := (((Below.refl _ w).alloc (Nat.le_refl _) _).alloc (by simp) _).alloc (by simp; omega) _
  have h1 := h.below hB0
  gi_wp2_with fail
  refine ⟨trivial, ?_⟩
  refine (callsIn_wide.2 (none_yes _ _ h1)).mono ?_; rintro e w' ⟨rfl, rfl⟩
  have y1 : RefAt (((w.alloc (.cells #[.pointer pa] 33)).alloc (.cells #[.int .i64 0, .int .i64 0] 26)).alloc (.cells #[.bool false] 4)) (w.heap.size + 1) (0, 0) := by
    have a := World.alloc_heap_new (w.alloc (.cells #[.pointer pa] 33)) (.cells #[.int .i64 0, .int .i64 0] 26)
    rw [World.size_alloc] at a
    rw [RefAt, Below.heap_alloc _ _ _ (by simp)]; exact a
  have y2 := (Boxed.new ((w.alloc (.cells #[.pointer pa] 33)).alloc (.cells #[.int .i64 0, .int .i64 0] 26)) 4 (.bool false))
  simp only [World.size_alloc] at y2
  generalize ((w.alloc (.cells #[.pointer pa] 33)).alloc (.cells #[.int .i64 0, .int .i64 0] 26)).alloc (.cells #[.bool false] 4) = W at *
  have r0 := y1.c0
  have r1 := y1.c1
  have rf : ∀ i, W.frozen? ⟨w.heap.size + 1, i, none⟩ = false := fun i => by simp [World.frozen?, show W.heap[w.heap.size + 1]? = _ from y1]
  have rf0 := rf 0
  have rf1 := rf 1
  have q0 := y2.cell
  have qf := y2.frozen
  have g1 := RefAt.set y1 0 0
  have g2 : RefAt (((W.setCell ⟨w.heap.size + 1, 0, none⟩ (.int .i64 0)).setCell ⟨w.heap.size + 1, 1, none⟩ (.int .i64 0)).setCell ⟨w.heap.size + 1 + 1, 0, none⟩ (.bool false)) (w.heap.size + 1) (0, 0) := heap_set_other g1 (by simp) _
  have g3 : Boxed (((W.setCell ⟨w.heap.size + 1, 0, none⟩ (.int .i64 0)).setCell ⟨w.heap.size + 1, 1, none⟩ (.int .i64 0)).setCell ⟨w.heap.size + 1 + 1, 0, none⟩ (.bool false)) (w.heap.size + 1 + 1) 4 (.bool false) :=
    Boxed.set (.bool false) (heap_set_other (heap_set_other y2 (a := ⟨w.heap.size + 1, 0, none⟩) (by simp) _) (a := ⟨w.heap.size + 1, 1, none⟩) (by simp) _)
  have hB2 := ((hB0.setCell (p := ⟨w.heap.size + 1, 0, none⟩) (by simp) (.int .i64 0)).setCell (p := ⟨w.heap.size + 1, 1, none⟩) (by simp) (.int .i64 0)).setCell (p := ⟨w.heap.size + 1 + 1, 0, none⟩) (by simp; omega) (.bool false)
  have G2 := Lib.hid g2
  have G3 := Lib.hid g3
  have HB := Lib.hid hB2
  clear g1 g2 g3 hB2 h h1
  gi_wp2
  generalize ((W.setCell ⟨w.heap.size + 1, 0, none⟩ (.int .i64 0)).setCell ⟨w.heap.size + 1, 1, none⟩ (.int .i64 0)).setCell ⟨w.heap.size + 1 + 1, 0, none⟩ (.bool false) = W9 at *
  exact ⟨.tuple #[.agg #[.int .i64 0, .int .i64 0], .bool false], next_results' G2.out G3.out rfl rfl, rfl, HB.out⟩
end Slot
end Go.Proofs.Ytpcbmckknafdgaa
