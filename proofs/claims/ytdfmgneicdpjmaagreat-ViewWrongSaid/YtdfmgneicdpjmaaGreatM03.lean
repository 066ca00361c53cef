import Derived.Test.YtdfmgneicdpjmaaGreatM02
/- response.list at an empty row. -/
namespace Go.Proofs.YtdfmgneicdpjmaaGreat
open Go.RowKit Go.Shelf
set_option linter.unusedVariables false
set_option linter.unusedSimpArgs false
set_option maxRecDepth 100000
namespace Resp

theorem two_new_ (w : World) (o1 o2 : Obj) : ((w.alloc o1).alloc o2).heap[w.heap.size + 1]? = some o2 := by
  have h := World.alloc_heap_new (w.alloc o1) o2
  rw [show (w.alloc o1).heap.size = w.heap.size + 1 by simp] at h
  exact h

theorem list_int (tag : Int) (a : Option Addr) (c : Nat) (fv : Value) (w : World) :
    Calls Tryz.prog 220 #[.int .i64 tag, .slice a 0 c, fv] w fun e w' => e = .returned (.agg #[.int .i64 tag, .slice none 0 0]) ∧ Below w.heap.size w w' := by
  go_enter Tryz.func220, Tryz.ntmps220
  go_wp2_with fail
  go_loopw [14] (fun i wr => i = .int .i64 0 ∧ wr.heap[w.heap.size]? = some (.cells #[.int .i64 0, .slice none 0 0] 141) ∧ wr.heap[w.heap.size + 1]? = some (.cells #[.int .i64 tag, .slice none 0 0] 141) ∧ Below w.heap.size w wr) (fun _ _ => 0)
  case atStart =>
    exact ⟨rfl, (Below.heap_alloc _ _ _ (by simp)).trans (World.alloc_heap_new w _), two_new_ w _ _, below_alloc_ (below_alloc_ (Below.refl _ _) _) _⟩
  case round =>
    obtain ⟨rfl, h1, h2, hb⟩ := hrel
    obtain ⟨c0, c1, z0, z1⟩ := pair_cells_ h1
    obtain ⟨d0, d1, -, -⟩ := pair_cells_ h2
    go_wp2_with fail
    refine bodyPost_ret (results_cell_row rfl _ _ w.heap.size _ _ _ _ rfl (pair_set_ h1) Tryz.underlying141 rfl infoField) rfl ?_
    exact ⟨rfl, (hb.setCell (p := ⟨w.heap.size, 0, none⟩) (Nat.le_refl _) _).setCell (p := ⟨w.heap.size, 1, none⟩) (Nat.le_refl _) _⟩

theorem list_i64 (tag : Int) (a : Option Addr) (c : Nat) (fv : Value) (w : World) :
    Calls Tryz.prog 223 #[.int .i64 tag, .slice a 0 c, fv] w fun e w' => e = .returned (.agg #[.int .i64 tag, .slice none 0 0]) ∧ Below w.heap.size w w' := by
  go_enter Tryz.func223, Tryz.ntmps223
  go_wp2_with fail
  go_loopw [14] (fun i wr => i = .int .i64 0 ∧ wr.heap[w.heap.size]? = some (.cells #[.int .i64 0, .slice none 0 0] 141) ∧ wr.heap[w.heap.size + 1]? = some (.cells #[.int .i64 tag, .slice none 0 0] 141) ∧ Below w.heap.size w wr) (fun _ _ => 0)
  case atStart =>
    exact ⟨rfl, (Below.heap_alloc _ _ _ (by simp)).trans (World.alloc_heap_new w _), two_new_ w _ _, below_alloc_ (below_alloc_ (Below.refl _ _) _) _⟩
  case round =>
    obtain ⟨rfl, h1, h2, hb⟩ := hrel
    obtain ⟨c0, c1, z0, z1⟩ := pair_cells_ h1
    obtain ⟨d0, d1, -, -⟩ := pair_cells_ h2
    go_wp2_with fail
    refine bodyPost_ret (results_cell_row rfl _ _ w.heap.size _ _ _ _ rfl (pair_set_ h1) Tryz.underlying141 rfl infoField) rfl ?_
    exact ⟨rfl, (hb.setCell (p := ⟨w.heap.size, 0, none⟩) (Nat.le_refl _) _).setCell (p := ⟨w.heap.size, 1, none⟩) (Nat.le_refl _) _⟩

theorem list_event (tag : Int) (a : Option Addr) (c : Nat) (fv : Value) (w : World) :
    Calls Tryz.prog 225 #[.int .i64 tag, .slice a 0 c, fv] w fun e w' => e = .returned (.agg #[.int .i64 tag, .slice none 0 0]) ∧ Below w.heap.size w w' := by
  go_enter Tryz.func225, Tryz.ntmps225
  go_wp2_with fail
  go_loopw [14] (fun i wr => i = .int .i64 0 ∧ wr.heap[w.heap.size]? = some (.cells #[.int .i64 0, .slice none 0 0] 141) ∧ wr.heap[w.heap.size + 1]? = some (.cells #[.int .i64 tag, .slice none 0 0] 141) ∧ Below w.heap.size w wr) (fun _ _ => 0)
  case atStart =>
    exact ⟨rfl, (Below.heap_alloc _ _ _ (by simp)).trans (World.alloc_heap_new w _), two_new_ w _ _, below_alloc_ (below_alloc_ (Below.refl _ _) _) _⟩
  case round =>
    obtain ⟨rfl, h1, h2, hb⟩ := hrel
    obtain ⟨c0, c1, z0, z1⟩ := pair_cells_ h1
    obtain ⟨d0, d1, -, -⟩ := pair_cells_ h2
    go_wp2_with fail
    refine bodyPost_ret (results_cell_row rfl _ _ w.heap.size _ _ _ _ rfl (pair_set_ h1) Tryz.underlying141 rfl infoField) rfl ?_
    exact ⟨rfl, (hb.setCell (p := ⟨w.heap.size, 0, none⟩) (Nat.le_refl _) _).setCell (p := ⟨w.heap.size, 1, none⟩) (Nat.le_refl _) _⟩

theorem list_port (tag : Int) (a : Option Addr) (c : Nat) (fv : Value) (w : World) :
    Calls Tryz.prog 227 #[.int .i64 tag, .slice a 0 c, fv] w fun e w' => e = .returned (.agg #[.int .i64 tag, .slice none 0 0]) ∧ Below w.heap.size w w' := by
  go_enter Tryz.func227, Tryz.ntmps227
  go_wp2_with fail
  go_loopw [14] (fun i wr => i = .int .i64 0 ∧ wr.heap[w.heap.size]? = some (.cells #[.int .i64 0, .slice none 0 0] 141) ∧ wr.heap[w.heap.size + 1]? = some (.cells #[.int .i64 tag, .slice none 0 0] 141) ∧ Below w.heap.size w wr) (fun _ _ => 0)
  case atStart =>
    exact ⟨rfl, (Below.heap_alloc _ _ _ (by simp)).trans (World.alloc_heap_new w _), two_new_ w _ _, below_alloc_ (below_alloc_ (Below.refl _ _) _) _⟩
  case round =>
    obtain ⟨rfl, h1, h2, hb⟩ := hrel
    obtain ⟨c0, c1, z0, z1⟩ := pair_cells_ h1
    obtain ⟨d0, d1, -, -⟩ := pair_cells_ h2
    go_wp2_with fail
    refine bodyPost_ret (results_cell_row rfl _ _ w.heap.size _ _ _ _ rfl (pair_set_ h1) Tryz.underlying141 rfl infoField) rfl ?_
    exact ⟨rfl, (hb.setCell (p := ⟨w.heap.size, 0, none⟩) (Nat.le_refl _) _).setCell (p := ⟨w.heap.size, 1, none⟩) (Nat.le_refl _) _⟩

theorem list_handle (tag : Int) (a : Option Addr) (c : Nat) (fv : Value) (w : World) :
    Calls Tryz.prog 229 #[.int .i64 tag, .slice a 0 c, fv] w fun e w' => e = .returned (.agg #[.int .i64 tag, .slice none 0 0]) ∧ Below w.heap.size w w' := by
  go_enter Tryz.func229, Tryz.ntmps229
  go_wp2_with fail
  go_loopw [14] (fun i wr => i = .int .i64 0 ∧ wr.heap[w.heap.size]? = some (.cells #[.int .i64 0, .slice none 0 0] 141) ∧ wr.heap[w.heap.size + 1]? = some (.cells #[.int .i64 tag, .slice none 0 0] 141) ∧ Below w.heap.size w wr) (fun _ _ => 0)
  case atStart =>
    exact ⟨rfl, (Below.heap_alloc _ _ _ (by simp)).trans (World.alloc_heap_new w _), two_new_ w _ _, below_alloc_ (below_alloc_ (Below.refl _ _) _) _⟩
  case round =>
    obtain ⟨rfl, h1, h2, hb⟩ := hrel
    obtain ⟨c0, c1, z0, z1⟩ := pair_cells_ h1
    obtain ⟨d0, d1, -, -⟩ := pair_cells_ h2
    go_wp2_with fail
    refine bodyPost_ret (results_cell_row rfl _ _ w.heap.size _ _ _ _ rfl (pair_set_ h1) Tryz.underlying141 rfl infoField) rfl ?_
    exact ⟨rfl, (hb.setCell (p := ⟨w.heap.size, 0, none⟩) (Nat.le_refl _) _).setCell (p := ⟨w.heap.size, 1, none⟩) (Nat.le_refl _) _⟩

end Resp
end Go.Proofs.YtdfmgneicdpjmaaGreat
