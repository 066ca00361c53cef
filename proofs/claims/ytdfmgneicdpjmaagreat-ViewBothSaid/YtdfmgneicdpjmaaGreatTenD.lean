/- An inbox: New, none, answered, Turn where nothing is pending, Counts. -/
import Derived.Test.YtdfmgneicdpjmaaGreatTenC
namespace Go.Proofs.YtdfmgneicdpjmaaGreat
open Go.RowKit Go.Shelf
set_option linter.unusedVariables false
set_option linter.unusedSimpArgs false
set_option maxRecDepth 100000
namespace Resp

def BoxAt (W : World) (I B : Nat) (p : Bool) (fv : Value) (put ans idle : Int) : Prop := W.heap[I]? = some (.cells #[(.iface 147 (.agg #[.pointer (some ⟨B, 0, none⟩)])), .bool p, fv, .int .i64 put, .int .i64 ans, .int .i64 0, .int .i64 idle] 240)
theorem BoxAt.cells {W : World} {I B : Nat} {p : Bool} {fv : Value} {put ans idle : Int} (h : BoxAt W I B p fv put ans idle) : W.cell? ⟨I, 0, none⟩ = some (.iface 147 (.agg #[.pointer (some ⟨B, 0, none⟩)])) ∧ W.cell? ⟨I, 1, none⟩ = some (.bool p) ∧ W.cell? ⟨I, 2, none⟩ = some fv ∧ W.cell? ⟨I, 3, none⟩ = some (.int .i64 put) ∧ W.cell? ⟨I, 4, none⟩ = some (.int .i64 ans) ∧ W.cell? ⟨I, 5, none⟩ = some (.int .i64 0) ∧ W.cell? ⟨I, 6, none⟩ = some (.int .i64 idle) := by
  have h' : W.heap[I]? = _ := h
  refine ⟨?_, ?_, ?_, ?_, ?_, ?_, ?_⟩ <;> simp [World.cell?, h']
theorem BoxAt.cool {W : World} {I B : Nat} {p : Bool} {fv : Value} {put ans idle : Int} (h : BoxAt W I B p fv put ans idle) : W.frozen? ⟨I, 1, none⟩ = false ∧ W.frozen? ⟨I, 2, none⟩ = false ∧ W.frozen? ⟨I, 3, none⟩ = false ∧ W.frozen? ⟨I, 4, none⟩ = false ∧ W.frozen? ⟨I, 6, none⟩ = false := by
  have h' : W.heap[I]? = _ := h
  refine ⟨?_, ?_, ?_, ?_, ?_⟩ <;> simp [World.frozen?, h']
theorem BoxAt.lt {W : World} {I B : Nat} {p : Bool} {fv : Value} {put ans idle : Int} (h : BoxAt W I B p fv put ans idle) : I < W.heap.size := (Array.getElem?_eq_some_iff.1 h).1
theorem BoxAt.mod {S : Nat → Prop} {W W' : World} {I B : Nat} {p : Bool} {fv : Value} {put ans idle : Int} (h : BoxAt W I B p fv put ans idle) (hm : Mod S W W') (hI : ¬ S I) : BoxAt W' I B p fv put ans idle := hm.heap h hI
theorem BoxAt.setP {W : World} {I B : Nat} {p : Bool} {fv : Value} {put ans idle : Int} (h : BoxAt W I B p fv put ans idle) (q : Bool) : BoxAt (W.setCell ⟨I, 1, none⟩ (.bool q)) I B q fv put ans idle := by
  have := heap_set_ h 1 (.bool q); simpa [BoxAt] using this
theorem BoxAt.setF {W : World} {I B : Nat} {p : Bool} {fv : Value} {put ans idle : Int} (h : BoxAt W I B p fv put ans idle) (q : Value) : BoxAt (W.setCell ⟨I, 2, none⟩ q) I B p q put ans idle := by
  have := heap_set_ h 2 q; simpa [BoxAt] using this
theorem BoxAt.setPut {W : World} {I B : Nat} {p : Bool} {fv : Value} {put ans idle : Int} (h : BoxAt W I B p fv put ans idle) (q : Int) : BoxAt (W.setCell ⟨I, 3, none⟩ (.int .i64 q)) I B p fv q ans idle := by
  have := heap_set_ h 3 (.int .i64 q); simpa [BoxAt] using this
theorem BoxAt.setAns {W : World} {I B : Nat} {p : Bool} {fv : Value} {put ans idle : Int} (h : BoxAt W I B p fv put ans idle) (q : Int) : BoxAt (W.setCell ⟨I, 4, none⟩ (.int .i64 q)) I B p fv put q idle := by
  have := heap_set_ h 4 (.int .i64 q); simpa [BoxAt] using this
theorem BoxAt.setIdle {W : World} {I B : Nat} {p : Bool} {fv : Value} {put ans idle : Int} (h : BoxAt W I B p fv put ans idle) (q : Int) : BoxAt (W.setCell ⟨I, 6, none⟩ (.int .i64 q)) I B p fv put ans q := by
  have := heap_set_ h 6 (.int .i64 q); simpa [BoxAt] using this
theorem mod_set_ (W : World) (I i : Nat) (v : Value) : Mod (fun g => g = I) W (W.setCell ⟨I, i, none⟩ v) := (Mod.refl (fun g => g = I) W).setCell (p := ⟨I, i, none⟩) (.inr rfl) _
theorem InboxNew_any (B : Nat) (W : World) : Calls Tryz.prog 90 #[(.iface 147 (.agg #[.pointer (some ⟨B, 0, none⟩)]))] W fun e w' => e = .returned (.tuple #[.pointer (some ⟨W.heap.size, 0, none⟩), .int .i64 0]) ∧ BoxAt w' W.heap.size B false (.slice none 0 0) 0 0 0 ∧ Below W.heap.size W w' := by
  go_enter Tryz.func90, Tryz.ntmps90
  go_wp2_with fail
  go_returns
  exact ⟨rfl, World.alloc_heap_new W _, (Below.refl _ _).alloc (Nat.le_refl _) _⟩
theorem BoxNone_no (I B : Nat) (p : Bool) (fv : Value) (put ans idle : Int) (W : World) (h : BoxAt W I B p fv put ans idle) : Calls Tryz.prog 144 #[.pointer (some ⟨I, 0, none⟩)] W fun e w' => e = .returned (.bool false) ∧ W = w' := by
  obtain ⟨c0, c1, c2, c3, c4, c5, c6⟩ := h.cells
  go_enter Tryz.func144, Tryz.ntmps144
  go_wp2_with fail
  go_ret
  exact ⟨rfl, rfl⟩
theorem TurnIdle (I B : Nat) (fv : Value) (put ans : Int) (idle : Nat) (hi : idle ≤ 1000) (W : World) (h : BoxAt W I B false fv put ans idle) : Calls Tryz.prog 142 #[.pointer (some ⟨I, 0, none⟩)] W fun e w' => e = .returned (.tuple #[.slice none 0 0, .int .i64 0]) ∧ w' = W.setCell ⟨I, 6, none⟩ (.int .i64 ((idle : Int) + 1)) := by
  obtain ⟨c0, c1, c2, c3, c4, c5, c6⟩ := h.cells
  obtain ⟨-, -, -, -, f6⟩ := h.cool
  have hw : IntKind.i64.wrap ((idle : Int) + 1) = (idle : Int) + 1 := by rw [IntKind.wrap_i64]; omega
  have HN := Lib.hid (BoxNone_no I B false fv put ans idle W h)
  clear h
  go_enter Tryz.func142, Tryz.ntmps142
  go_wp2_with fail
  refine HN.out.mono ?_; rintro e w1 ⟨rfl, hy⟩
  subst hy
  go_wp2_with fail
  go_ret2
  exact ⟨rfl, rfl⟩
set_option maxHeartbeats 1000000 in
theorem Answered_any (I B : Nat) (p : Bool) (fv : Value) (put idle : Int) (ans : Nat) (ha : ans ≤ 1000) (a : Option Addr) (n c : Nat) (zs : List Int) (W : World) (h : BoxAt W I B p fv put ans idle) (base : Nat) (hr : W.ownsRow base 5 1 (.slice a n c) n (u8s zs)) (hz : zs.length = n) (h0 : 0 < n) (hn : n ≤ 1000) :
    Calls Tryz.prog 182 #[.pointer (some ⟨I, 0, none⟩), .slice a n c] W fun e w' => ∃ v, e = .returned v ∧ w'.ownsRow W.heap.size 5 1 v n (u8s zs) ∧ BoxAt w' I B false fv put ((ans : Int) + 1) idle ∧ Mod (fun g => g = I) W w' := by
  obtain ⟨c0, c1, c2, c3, c4, c5, c6⟩ := h.cells
  obtain ⟨f1, -, -, f4, -⟩ := h.cool
  have hw : IntKind.i64.wrap ((ans : Int) + 1) = (ans : Int) + 1 := by rw [IntKind.wrap_i64]; omega
  have HB := Lib.hid h
  have HR := Lib.hid hr
  clear h hr
  go_enter Tryz.func182, Tryz.ntmps182
  go_upto_region 3 with fail
  have hm1 := mod_set_ W I 1 (.bool false)
  have hB1 := HB.out.setP false
  have hm2 := mod_set_ (W.setCell ⟨I, 1, none⟩ (.bool false)) I 4 (.int .i64 ((ans : Int) + 1))
  have hB2 := hB1.setAns ((ans : Int) + 1)
  have hm := hm1.trans hm2
  have HO2 := Lib.hid (owns_keep_at_ HR.out HB.out hm (by decide))
  have HM := Lib.hid hm
  have HB2 := Lib.hid hB2
  have hs2 := hm.size
  clear hm1 hm2 hB1 hm hB2 c0 c1 c2 c3 c4 c5 c6 f1 f4
  generalize (W.setCell ⟨I, 1, none⟩ (.bool false)).setCell ⟨I, 4, none⟩ (.int .i64 ((ans : Int) + 1)) = W2 at *
  go_wp2_with fail
  refine (Clone_bytes _ zs _ (Reads.of_owns (zs := zs) HO2.out) (by omega) (by omega)).mono ?_; rintro e W3 ⟨v, rfl, ho, hb⟩
  rw [hz] at ho
  have HO3 := Lib.hid (ownsRow_base ho hs2)
  have HB3 : Hid (BoxAt W3 I B false fv put ((ans : Int) + 1) idle) := HB2.out.mod (S := fun _ => False) (Mod.of_same hb) (by simp)
  have HM3 := Lib.hid (HM.out.trans (Mod.of_same hb))
  clear ho hb
  go_wp2_with fail
  go_ret
  exact ⟨v, rfl, HO3.out, HB3.out, HM3.out⟩
def CountsAgg (put ans idle : Int) : Value := .agg #[.int .i64 put, .int .i64 ans, .int .i64 0, .int .i64 idle]
theorem infoCounts : (Tryz.prog.info? 155).map (·.size) = some 4 := by kernel_rfl
theorem Counts_any (I B : Nat) (p : Bool) (fv : Value) (put ans idle : Int) (W : World) (h : BoxAt W I B p fv put ans idle) :
    Calls Tryz.prog 92 #[.pointer (some ⟨I, 0, none⟩)] W fun e w' => e = .returned (CountsAgg put ans idle) ∧ Below W.heap.size W w' := by
  go_enter Tryz.func92, Tryz.ntmps92
  go_upto_region 1 with fail
  have hbz : Below W.heap.size W (W.alloc (.cells #[.int .i64 0, .int .i64 0, .int .i64 0, .int .i64 0] 155)) := (Below.refl _ _).alloc (Nat.le_refl _) _
  have hZ : (W.alloc (.cells #[.int .i64 0, .int .i64 0, .int .i64 0, .int .i64 0] 155)).heap[W.heap.size]? = some (.cells #[.int .i64 0, .int .i64 0, .int .i64 0, .int .i64 0] 155) := World.alloc_heap_new _ _
  have HB1 := Lib.hid (h.mod (S := fun _ => False) (Mod.of_same hbz) (by simp))
  generalize W.alloc (.cells #[.int .i64 0, .int .i64 0, .int .i64 0, .int .i64 0] 155) = W1 at *
  generalize hX : W.heap.size = X at *
  obtain ⟨c0, c1, c2, c3, c4, c5, c6⟩ := HB1.out.cells
  have HZ := Lib.hid hZ
  have HBZ := Lib.hid hbz
  have z0 : W1.frozen? ⟨X, 0, none⟩ = false := by simp [World.frozen?, hZ]
  have z1 : W1.frozen? ⟨X, 1, none⟩ = false := by simp [World.frozen?, hZ]
  have z2 : W1.frozen? ⟨X, 2, none⟩ = false := by simp [World.frozen?, hZ]
  have z3 : W1.frozen? ⟨X, 3, none⟩ = false := by simp [World.frozen?, hZ]
  have k0 : W1.cell? ⟨X, 0, none⟩ = some (.int .i64 0) := by simp [World.cell?, hZ]
  have k1 : W1.cell? ⟨X, 1, none⟩ = some (.int .i64 0) := by simp [World.cell?, hZ]
  have k2 : W1.cell? ⟨X, 2, none⟩ = some (.int .i64 0) := by simp [World.cell?, hZ]
  have k3 : W1.cell? ⟨X, 3, none⟩ = some (.int .i64 0) := by simp [World.cell?, hZ]
  clear hZ hbz
  go_wp2_with fail
  refine (BoxNone_no I B p fv put ans idle W1 HB1.out).mono ?_; rintro e w1 ⟨rfl, hy⟩
  subst hy
  go_wp2_with fail
  have hXX : X ≤ X := Nat.le_refl _
  refine bodyPost_ret (results_cell_row rfl _ _ X _ _ _ _ rfl (heap_set_ (heap_set_ (heap_set_ (heap_set_ HZ.out 0 _) 1 _) 2 _) 3 _) Tryz.underlying155 rfl infoCounts) rfl ⟨rfl, ?_⟩
  rw [hX]
  exact (((HBZ.out.setCell (p := ⟨X, 0, none⟩) hXX _).setCell (p := ⟨X, 1, none⟩) hXX _).setCell (p := ⟨X, 2, none⟩) hXX _).setCell (p := ⟨X, 3, none⟩) hXX _
end Resp
end Go.Proofs.YtdfmgneicdpjmaaGreat
