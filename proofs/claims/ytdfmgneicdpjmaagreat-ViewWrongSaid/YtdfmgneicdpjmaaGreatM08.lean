import Derived.Test.YtdfmgneicdpjmaaGreatM07
import Derived.Deep.WholeRow
/- State of a slot without a life. -/
namespace Go.Proofs.YtdfmgneicdpjmaaGreat
open Go.RowKit Go.Shelf
set_option linter.unusedVariables false
set_option linter.unusedSimpArgs false
set_option maxRecDepth 100000
namespace Resp
def StZ (W : World) (g : Nat) : Prop := W.heap[g]? = some (.cells #[.bool false, .bool false, .int .i64 0, .int .i64 0, .int .i64 0, .int .i64 0, .int .i64 0, .int .i64 0, .int .i64 0, .int .i64 0, .int .i64 0, .int .u64 0, .int .i64 0, .int .i64 0, .int .i64 0, .int .i64 0, .int .i64 0, .int .i64 0, .slice none 0 0, .int .i64 0, .slice none 0 0, .slice none 0 0, .slice none 0 0, .slice none 0 0] 89)
def StK (W : World) (g k : Nat) : Prop := W.heap[g]? = some (.cells #[.bool false, .bool false, .int .i64 (k : Int), .int .i64 1, .int .i64 0, .int .i64 0, .int .i64 0, .int .i64 0, .int .i64 0, .int .i64 0, .int .i64 0, .int .u64 0, .int .i64 0, .int .i64 0, .int .i64 0, .int .i64 0, .int .i64 0, .int .i64 0, .slice none 0 0, .int .i64 0, .slice none 0 0, .slice none 0 0, .slice none 0 0, .slice none 0 0] 89)
theorem StZ.new (W : World) : StZ (W.alloc (.cells #[.bool false, .bool false, .int .i64 0, .int .i64 0, .int .i64 0, .int .i64 0, .int .i64 0, .int .i64 0, .int .i64 0, .int .i64 0, .int .i64 0, .int .u64 0, .int .i64 0, .int .i64 0, .int .i64 0, .int .i64 0, .int .i64 0, .int .i64 0, .slice none 0 0, .int .i64 0, .slice none 0 0, .slice none 0 0, .slice none 0 0, .slice none 0 0] 89)) W.heap.size := World.alloc_heap_new W _
theorem StK.new (W : World) (k : Nat) : StK (W.alloc (.cells #[.bool false, .bool false, .int .i64 (k : Int), .int .i64 1, .int .i64 0, .int .i64 0, .int .i64 0, .int .i64 0, .int .i64 0, .int .i64 0, .int .i64 0, .int .u64 0, .int .i64 0, .int .i64 0, .int .i64 0, .int .i64 0, .int .i64 0, .int .i64 0, .slice none 0 0, .int .i64 0, .slice none 0 0, .slice none 0 0, .slice none 0 0, .slice none 0 0] 89)) W.heap.size k := World.alloc_heap_new W _
theorem infoSt : (Tryz.prog.info? 89).map (·.size) = some 24 := by kernel_rfl
theorem st_new_ (k : Nat) (W : World) : (Instr.storeAt 89 (.pointer (some ⟨W.heap.size, 0, none⟩)) (.agg #[.bool false, .bool false, .int .i64 (k : Int), .int .i64 1, .int .i64 0, .int .i64 0, .int .i64 0, .int .i64 0, .int .i64 0, .int .i64 0, .int .i64 0, .int .u64 0, .int .i64 0, .int .i64 0, .int .i64 0, .int .i64 0, .int .i64 0, .int .i64 0, .slice none 0 0, .int .i64 0, .slice none 0 0, .slice none 0 0, .slice none 0 0, .slice none 0 0])).run Tryz.prog (W.alloc (.cells #[.bool false, .bool false, .int .i64 0, .int .i64 0, .int .i64 0, .int .i64 0, .int .i64 0, .int .i64 0, .int .i64 0, .int .i64 0, .int .i64 0, .int .u64 0, .int .i64 0, .int .i64 0, .int .i64 0, .int .i64 0, .int .i64 0, .int .i64 0, .slice none 0 0, .int .i64 0, .slice none 0 0, .slice none 0 0, .slice none 0 0, .slice none 0 0] 89)) = .ok () (W.alloc (.cells #[.bool false, .bool false, .int .i64 (k : Int), .int .i64 1, .int .i64 0, .int .i64 0, .int .i64 0, .int .i64 0, .int .i64 0, .int .i64 0, .int .i64 0, .int .u64 0, .int .i64 0, .int .i64 0, .int .i64 0, .int .i64 0, .int .i64 0, .int .i64 0, .slice none 0 0, .int .i64 0, .slice none 0 0, .slice none 0 0, .slice none 0 0, .slice none 0 0] 89)) := run_storeAt_new W _ #[.bool false, .bool false, .int .i64 0, .int .i64 0, .int .i64 0, .int .i64 0, .int .i64 0, .int .i64 0, .int .i64 0, .int .i64 0, .int .i64 0, .int .u64 0, .int .i64 0, .int .i64 0, .int .i64 0, .int .i64 0, .int .i64 0, .int .i64 0, .slice none 0 0, .int .i64 0, .slice none 0 0, .slice none 0 0, .slice none 0 0, .slice none 0 0] #[.bool false, .bool false, .int .i64 (k : Int), .int .i64 1, .int .i64 0, .int .i64 0, .int .i64 0, .int .i64 0, .int .i64 0, .int .i64 0, .int .i64 0, .int .u64 0, .int .i64 0, .int .i64 0, .int .i64 0, .int .i64 0, .int .i64 0, .int .i64 0, .slice none 0 0, .int .i64 0, .slice none 0 0, .slice none 0 0, .slice none 0 0, .slice none 0 0] infoSt rfl (by simp [Value.oneCell'])
theorem st_new2_ (k : Nat) (W : World) : (Instr.storeAt 89 (.pointer (some ⟨W.heap.size, 0, none⟩)) (.agg #[.bool false, .bool false, .int .i64 (k : Int), .int .i64 1, .int .i64 0, .int .i64 0, .int .i64 0, .int .i64 0, .int .i64 0, .int .i64 0, .int .i64 0, .int .u64 0, .int .i64 0, .int .i64 0, .int .i64 0, .int .i64 0, .int .i64 0, .int .i64 0, .slice none 0 0, .int .i64 0, .slice none 0 0, .slice none 0 0, .slice none 0 0, .slice none 0 0])).run Tryz.prog (W.alloc (.cells #[.bool false, .bool false, .int .i64 0, .int .i64 0, .int .i64 0, .int .i64 0, .int .i64 0, .int .i64 0, .int .i64 0, .int .i64 0, .int .i64 0, .int .u64 0, .int .i64 0, .int .i64 0, .int .i64 0, .int .i64 0, .int .i64 0, .int .i64 0, .slice none 0 0, .int .i64 0, .slice none 0 0, .slice none 0 0, .slice none 0 0, .slice none 0 0] 89)).drew = .ok () (W.alloc (.cells #[.bool false, .bool false, .int .i64 (k : Int), .int .i64 1, .int .i64 0, .int .i64 0, .int .i64 0, .int .i64 0, .int .i64 0, .int .i64 0, .int .i64 0, .int .u64 0, .int .i64 0, .int .i64 0, .int .i64 0, .int .i64 0, .int .i64 0, .int .i64 0, .slice none 0 0, .int .i64 0, .slice none 0 0, .slice none 0 0, .slice none 0 0, .slice none 0 0] 89)).drew := run_storeAt_new W.drew _ #[.bool false, .bool false, .int .i64 0, .int .i64 0, .int .i64 0, .int .i64 0, .int .i64 0, .int .i64 0, .int .i64 0, .int .i64 0, .int .i64 0, .int .u64 0, .int .i64 0, .int .i64 0, .int .i64 0, .int .i64 0, .int .i64 0, .int .i64 0, .slice none 0 0, .int .i64 0, .slice none 0 0, .slice none 0 0, .slice none 0 0, .slice none 0 0] #[.bool false, .bool false, .int .i64 (k : Int), .int .i64 1, .int .i64 0, .int .i64 0, .int .i64 0, .int .i64 0, .int .i64 0, .int .i64 0, .int .i64 0, .int .u64 0, .int .i64 0, .int .i64 0, .int .i64 0, .int .i64 0, .int .i64 0, .int .i64 0, .slice none 0 0, .int .i64 0, .slice none 0 0, .slice none 0 0, .slice none 0 0, .slice none 0 0] infoSt rfl (by simp [Value.oneCell'])
theorem st_row_ {W : World} {g : Nat} (k : Nat) (h : StZ W g) : (Instr.storeAt 89 (.pointer (some ⟨g, 0, none⟩)) (.agg #[.bool false, .bool false, .int .i64 (k : Int), .int .i64 1, .int .i64 0, .int .i64 0, .int .i64 0, .int .i64 0, .int .i64 0, .int .i64 0, .int .i64 0, .int .u64 0, .int .i64 0, .int .i64 0, .int .i64 0, .int .i64 0, .int .i64 0, .int .i64 0, .slice none 0 0, .int .i64 0, .slice none 0 0, .slice none 0 0, .slice none 0 0, .slice none 0 0])).run Tryz.prog W = .ok () (W.setRow g #[.bool false, .bool false, .int .i64 (k : Int), .int .i64 1, .int .i64 0, .int .i64 0, .int .i64 0, .int .i64 0, .int .i64 0, .int .i64 0, .int .i64 0, .int .u64 0, .int .i64 0, .int .i64 0, .int .i64 0, .int .i64 0, .int .i64 0, .int .i64 0, .slice none 0 0, .int .i64 0, .slice none 0 0, .slice none 0 0, .slice none 0 0, .slice none 0 0]) := by
  simp only [Instr.storeAt, Instr.sureAddr, Sem.run_bind, Sem.run_pure, Result.andThen]
  exact run_storeVar_row W g 89 89 #[.bool false, .bool false, .int .i64 0, .int .i64 0, .int .i64 0, .int .i64 0, .int .i64 0, .int .i64 0, .int .i64 0, .int .i64 0, .int .i64 0, .int .u64 0, .int .i64 0, .int .i64 0, .int .i64 0, .int .i64 0, .int .i64 0, .int .i64 0, .slice none 0 0, .int .i64 0, .slice none 0 0, .slice none 0 0, .slice none 0 0, .slice none 0 0] #[.bool false, .bool false, .int .i64 (k : Int), .int .i64 1, .int .i64 0, .int .i64 0, .int .i64 0, .int .i64 0, .int .i64 0, .int .i64 0, .int .i64 0, .int .u64 0, .int .i64 0, .int .i64 0, .int .i64 0, .int .i64 0, .int .i64 0, .int .i64 0, .slice none 0 0, .int .i64 0, .slice none 0 0, .slice none 0 0, .slice none 0 0, .slice none 0 0] h infoSt rfl (by simp [Value.oneCell'])
theorem ld_row_ {W : World} {g k : Nat} (h : StK W g k) : (Instr.loadAt 89 (.pointer (some ⟨g, 0, none⟩))).run Tryz.prog W = .ok (.agg #[.bool false, .bool false, .int .i64 (k : Int), .int .i64 1, .int .i64 0, .int .i64 0, .int .i64 0, .int .i64 0, .int .i64 0, .int .i64 0, .int .i64 0, .int .u64 0, .int .i64 0, .int .i64 0, .int .i64 0, .int .i64 0, .int .i64 0, .int .i64 0, .slice none 0 0, .int .i64 0, .slice none 0 0, .slice none 0 0, .slice none 0 0, .slice none 0 0]) W := by
  simp only [Instr.loadAt, Instr.sureAddr, Sem.run_bind, Sem.run_pure, Result.andThen]
  exact run_loadVar_row W g 89 89 #[.bool false, .bool false, .int .i64 (k : Int), .int .i64 1, .int .i64 0, .int .i64 0, .int .i64 0, .int .i64 0, .int .i64 0, .int .i64 0, .int .i64 0, .int .u64 0, .int .i64 0, .int .i64 0, .int .i64 0, .int .i64 0, .int .i64 0, .int .i64 0, .slice none 0 0, .int .i64 0, .slice none 0 0, .slice none 0 0, .slice none 0 0, .slice none 0 0] (0, 0) _ h Tryz.underlying89 rfl infoSt
theorem StZ.setRow {W : World} {g : Nat} (h : StZ W g) (k : Nat) : StK (W.setRow g #[.bool false, .bool false, .int .i64 (k : Int), .int .i64 1, .int .i64 0, .int .i64 0, .int .i64 0, .int .i64 0, .int .i64 0, .int .i64 0, .int .i64 0, .int .u64 0, .int .i64 0, .int .i64 0, .int .i64 0, .int .i64 0, .int .i64 0, .int .i64 0, .slice none 0 0, .int .i64 0, .slice none 0 0, .slice none 0 0, .slice none 0 0, .slice none 0 0]) g k := by
  have hlt : g < W.heap.size := (Array.getElem?_eq_some_iff.1 h).1
  have he := (Array.getElem?_eq_some_iff.1 h).2
  show (W.heap.modify g _)[g]? = _
  rw [Array.getElem?_eq_getElem (by rw [Array.size_modify]; exact hlt), Array.getElem_modify_self, he]
theorem StK.cells {W : World} {g k : Nat} (h : StK W g k) : W.cell? ⟨g, 0, none⟩ = some (.bool false) ∧ W.cell? ⟨g, 1, none⟩ = some (.bool false) ∧ W.cell? ⟨g, 2, none⟩ = some (.int .i64 (k : Int)) ∧ W.cell? ⟨g, 3, none⟩ = some (.int .i64 1) ∧ W.cell? ⟨g, 4, none⟩ = some (.int .i64 0) ∧ W.cell? ⟨g, 5, none⟩ = some (.int .i64 0) ∧ W.cell? ⟨g, 6, none⟩ = some (.int .i64 0) ∧ W.cell? ⟨g, 7, none⟩ = some (.int .i64 0) ∧ W.cell? ⟨g, 8, none⟩ = some (.int .i64 0) ∧ W.cell? ⟨g, 9, none⟩ = some (.int .i64 0) ∧ W.cell? ⟨g, 10, none⟩ = some (.int .i64 0) ∧ W.cell? ⟨g, 11, none⟩ = some (.int .u64 0) ∧ W.cell? ⟨g, 12, none⟩ = some (.int .i64 0) ∧ W.cell? ⟨g, 13, none⟩ = some (.int .i64 0) ∧ W.cell? ⟨g, 14, none⟩ = some (.int .i64 0) ∧ W.cell? ⟨g, 15, none⟩ = some (.int .i64 0) ∧ W.cell? ⟨g, 16, none⟩ = some (.int .i64 0) ∧ W.cell? ⟨g, 17, none⟩ = some (.int .i64 0) ∧ W.cell? ⟨g, 18, none⟩ = some (.slice none 0 0) ∧ W.cell? ⟨g, 19, none⟩ = some (.int .i64 0) ∧ W.cell? ⟨g, 20, none⟩ = some (.slice none 0 0) ∧ W.cell? ⟨g, 21, none⟩ = some (.slice none 0 0) ∧ W.cell? ⟨g, 22, none⟩ = some (.slice none 0 0) ∧ W.cell? ⟨g, 23, none⟩ = some (.slice none 0 0) := by
  have h' : W.heap[g]? = _ := h
  refine ⟨?_, ?_, ?_, ?_, ?_, ?_, ?_, ?_, ?_, ?_, ?_, ?_, ?_, ?_, ?_, ?_, ?_, ?_, ?_, ?_, ?_, ?_, ?_, ?_⟩ <;> simp [World.cell?, h']
theorem ld_open_ (t : TypeId) (p : Value) (h : ¬ t = 89) : Instr.loadAt t p = (do loadVar t (← Instr.sureAddr p)) := rfl
attribute [-go_sem] Instr.storeAt Instr.loadAt
attribute [local go_sem] st_new_ st_new2_ ld_open_
set_option maxHeartbeats 4000000 in
theorem State_none (B k : Nat) (W : World) (h : SlotAt W B k) :
    Calls Tryz.prog 93 #[.pointer (some ⟨B, 0, none⟩)] W fun e w' => e = .returned (.agg #[.bool false, .bool false, .int .i64 (k : Int), .int .i64 1, .int .i64 0, .int .i64 0, .int .i64 0, .int .i64 0, .int .i64 0, .int .i64 0, .int .i64 0, .int .u64 0, .int .i64 0, .int .i64 0, .int .i64 0, .int .i64 0, .int .i64 0, .int .i64 0, .slice none 0 0, .int .i64 0, .slice none 0 0, .slice none 0 0, .slice none 0 0, .slice none 0 0]) ∧ Below W.heap.size W w' := by
  go_enter Tryz.func93, Tryz.ntmps93
  go_upto_region 1 with fail
  have hbz : Below W.heap.size W (W.alloc (.cells #[.bool false, .bool false, .int .i64 0, .int .i64 0, .int .i64 0, .int .i64 0, .int .i64 0, .int .i64 0, .int .i64 0, .int .i64 0, .int .i64 0, .int .u64 0, .int .i64 0, .int .i64 0, .int .i64 0, .int .i64 0, .int .i64 0, .int .i64 0, .slice none 0 0, .int .i64 0, .slice none 0 0, .slice none 0 0, .slice none 0 0, .slice none 0 0] 89)) := (Below.refl _ _).alloc (Nat.le_refl _) _
  have HZ := Lib.hid (StZ.new W)
  have HS := Lib.hid (h.below hbz)
  have HB := Lib.hid hbz
  clear h hbz
  generalize W.alloc (.cells #[.bool false, .bool false, .int .i64 0, .int .i64 0, .int .i64 0, .int .i64 0, .int .i64 0, .int .i64 0, .int .i64 0, .int .i64 0, .int .i64 0, .int .u64 0, .int .i64 0, .int .i64 0, .int .i64 0, .int .i64 0, .int .i64 0, .int .i64 0, .slice none 0 0, .int .i64 0, .slice none 0 0, .slice none 0 0, .slice none 0 0, .slice none 0 0] 89) = W1 at *
  generalize hX : W.heap.size = X at *
  have HX := Lib.hid hX
  clear hX
  obtain ⟨c0, c1, c2, c3, c4, c5, -⟩ := HS.out.cells
  have HXlt : X < W1.heap.size := (Array.getElem?_eq_some_iff.1 HZ.out).1
  go_wp2_with fail
  refine (none_no B k W1 HS.out).mono ?_; rintro e w1 ⟨rfl, hy⟩
  subst hy
  go_upto_region 3 with fail
  go_cut [3] from 9 (fun s3 wx => ∃ g, s3 = .pointer (some ⟨g, 0, none⟩) ∧ Hid (StK wx g k) ∧ Hid (Below W1.heap.size W1 wx))
  case first =>
    rename_i J K' hJ hK
    have e2 : (W1.alloc (.cells #[.bool false, .bool false, .int .i64 0, .int .i64 0, .int .i64 0, .int .i64 0, .int .i64 0, .int .i64 0, .int .i64 0, .int .i64 0, .int .i64 0, .int .u64 0, .int .i64 0, .int .i64 0, .int .i64 0, .int .i64 0, .int .i64 0, .int .i64 0, .slice none 0 0, .int .i64 0, .slice none 0 0, .slice none 0 0, .slice none 0 0, .slice none 0 0] 89)).cell? ⟨B, 2, none⟩ = some (.int .i64 (k : Int)) := ((Mod.refl (fun _ => False) W1).alloc _).cell (by simp) c2
    have e3 : (W1.alloc (.cells #[.bool false, .bool false, .int .i64 0, .int .i64 0, .int .i64 0, .int .i64 0, .int .i64 0, .int .i64 0, .int .i64 0, .int .i64 0, .int .i64 0, .int .u64 0, .int .i64 0, .int .i64 0, .int .i64 0, .int .i64 0, .int .i64 0, .int .i64 0, .slice none 0 0, .int .i64 0, .slice none 0 0, .slice none 0 0, .slice none 0 0, .slice none 0 0] 89)).cell? ⟨B, 3, none⟩ = some (.int .i64 1) := ((Mod.refl (fun _ => False) W1).alloc _).cell (by simp) c3
    have e4 : (W1.alloc (.cells #[.bool false, .bool false, .int .i64 0, .int .i64 0, .int .i64 0, .int .i64 0, .int .i64 0, .int .i64 0, .int .i64 0, .int .i64 0, .int .i64 0, .int .u64 0, .int .i64 0, .int .i64 0, .int .i64 0, .int .i64 0, .int .i64 0, .int .i64 0, .slice none 0 0, .int .i64 0, .slice none 0 0, .slice none 0 0, .slice none 0 0, .slice none 0 0] 89)).cell? ⟨B, 4, none⟩ = some (.int .i64 0) := ((Mod.refl (fun _ => False) W1).alloc _).cell (by simp) c4
    go_region
    all_goals (change K' _ _; refine hK _ _ (Met.intro (hJ _ _ ?_)); (repeat apply Exists.intro); refine ⟨?_, rfl⟩)
    all_goals exact ⟨_, rfl, StK.new W1 k, below_drew_ ((Below.refl _ _).alloc (Nat.le_refl _) _)⟩
  case rest =>
    clear c0 c1 c2 c3 c4 c5
    obtain ⟨g, rfl, HG, HW⟩ := hcut
    have HSc := Lib.hid (HS.out.below HW.out)
    obtain ⟨c0, c1, c2, c3, c4, c5, -⟩ := HSc.out.cells
    have HZc : StZ wc X := (HW.out.block _ HXlt).trans HZ.out
    have hG := HG.out
    go_upto_region 12 with fail
    have HZC := Lib.hid HZc
    have hKK := Lib.hid (HZc.setRow k)
    have hBz : Below X W (wc.setRow X #[.bool false, .bool false, .int .i64 (k : Int), .int .i64 1, .int .i64 0, .int .i64 0, .int .i64 0, .int .i64 0, .int .i64 0, .int .i64 0, .int .i64 0, .int .u64 0, .int .i64 0, .int .i64 0, .int .i64 0, .int .i64 0, .int .i64 0, .int .i64 0, .slice none 0 0, .int .i64 0, .slice none 0 0, .slice none 0 0, .slice none 0 0, .slice none 0 0]) := by
      have h1 : Below X W wc := HB.out.trans (HW.out.mono (Nat.le_of_lt HXlt))
      have := below_row_ (a := W) (w := wc) (g := X) (by rw [HX.out]; exact h1) (Nat.le_of_eq HX.out) #[.bool false, .bool false, .int .i64 (k : Int), .int .i64 1, .int .i64 0, .int .i64 0, .int .i64 0, .int .i64 0, .int .i64 0, .int .i64 0, .int .i64 0, .int .u64 0, .int .i64 0, .int .i64 0, .int .i64 0, .int .i64 0, .int .i64 0, .int .i64 0, .slice none 0 0, .int .i64 0, .slice none 0 0, .slice none 0 0, .slice none 0 0, .slice none 0 0]
      rwa [HX.out] at this
    have HBZ := Lib.hid hBz
    clear hBz c0 c1 c2 c3 c4 c5 hG
    have hld := ld_row_ HG.out
    have hst := st_row_ k HZC.out
    clear HZc
    go_wp2_with fail
    refine bodyPost_ret (results_cell_row rfl _ _ X _ _ _ _ rfl hKK.out Tryz.underlying89 rfl infoSt) rfl ⟨rfl, ?_⟩
    first | exact HBZ.out | (rw [HX.out]; exact HBZ.out)
end Resp
end Go.Proofs.YtdfmgneicdpjmaaGreat

/- What moves bring: the iterator. -/
namespace Go.Proofs.YtdfmgneicdpjmaaGreat
open Go.RowKit Go.Shelf
attribute [local go_sem] Oper.semAt_some
set_option linter.unusedVariables false
set_option linter.unusedSimpArgs false
set_option maxRecDepth 100000
namespace Resp

theorem row_one8_ {W : World} {base g c : Nat} {fr : Value} (h : W.ownsRow base 5 1 (.slice (some ⟨g, 0, none⟩) 1 c) 1 [fr]) : W.cell? ⟨g, 0, none⟩ = some fr := by
  rcases h.2 with ⟨hn, hk⟩ | ⟨g', cap', cur', hv, hb', hg', k1, k2, k3, k4⟩
  · cases hn
  · cases hv
    have h0 : (cur'.toList.take (1 * 1))[0]? = some fr := by rw [k4]; simp
    rw [List.getElem?_take, if_pos (by omega)] at h0
    simp [World.cell?, hg']; simpa using h0
theorem brought_any (I : Nat) (mv : Value) (hmv : ∃ a n c, mv = .slice a n c) (w : World) :
    Calls Tryz.prog 91 #[.pointer (some ⟨I, 0, none⟩), mv] w fun e w' => e = .returned (.func (.func 141) #[] #[.pointer (some ⟨w.heap.size + 1, 0, none⟩), .pointer (some ⟨w.heap.size, 0, none⟩)]) ∧ w' = (w.alloc (.cells #[.pointer (some ⟨I, 0, none⟩)] 148)).alloc (.cells #[mv] 50) := by
  obtain ⟨a, n, c, rfl⟩ := hmv
  go_enter Tryz.func91, Tryz.ntmps91
  go_wp2_with fail
  go_ret
  exact ⟨rfl, rfl⟩
/-- Behind k moves, of which at most one is a frame. -/
def BoxRun (W : World) (I B : Nat) (ms : List Bool) (k : Nat) : Prop :=
  (framesN (ms.take k) = 0 ∧ BoxAt W I B false (.slice none 0 0) 0 0 (k : Int) ∧ SlotAt W B 0) ∨ (framesN (ms.take k) = 1 ∧ (∃ a' c', BoxAt W I B false (.slice a' 0 c') 1 1 ((k - 1 : Nat) : Int)) ∧ SlotAt W B 1)
def RunSt (W0 : World) (n1 I B ba bb : Nat) (mv : Value) (ms : List Bool) (k : Nat) (W : World) : Prop :=
  W.heap[ba]? = some (.cells #[.pointer (some ⟨I, 0, none⟩)] 148) ∧ W.heap[bb]? = some (.cells #[mv] 50) ∧ (Below W0.heap.size W0 W ∧ n1 ≤ W.heap.size) ∧ BoxRun W I B ms k
def RunYa (W0 : World) (n1 I B ba bb : Nat) (mv : Value) (ms : List Bool) (k : Nat) (x : Value) (W : World) : Prop :=
  ((ms[k]?.getD true = true ∧ x = .slice none 0 0) ∨ (ms[k]?.getD true = false ∧ OutRow W n1 x 1)) ∧ RunSt W0 n1 I B ba bb mv ms (k + 1) W
theorem framesN_take_le (ms : List Bool) (k : Nat) : framesN (ms.take k) ≤ framesN ms ∧ framesN (ms.take k) ≤ k := by
  refine ⟨?_, Nat.le_trans (framesN_le _) (by simp; omega)⟩
  exact ((List.take_sublist k ms).filter _).length_le
theorem BoxRun.turn {W : World} {I B : Nat} {ms : List Bool} {k : Nat} (h : BoxRun W I B ms k) (hk : k ≤ 100) (hF : framesN (ms.take (k + 1)) = framesN (ms.take k)) : ∃ (fv : Value) (put ans : Int) (id s : Nat), BoxAt W I B false fv put ans (id : Int) ∧ SlotAt W B s ∧ id ≤ 100 ∧ ∀ W', BoxAt W' I B false fv put ans ((id : Int) + 1) → SlotAt W' B s → BoxRun W' I B ms (k + 1) := by
  rcases h with ⟨h0, h1, h2⟩ | ⟨h0, ⟨a', c', h1⟩, h2⟩
  · exact ⟨_, 0, 0, k, 0, h1, h2, hk, fun W' b1 b2 => .inl ⟨by rw [hF, h0], by simpa using b1, b2⟩⟩
  · have hk1 : 1 ≤ k := by have := (framesN_take_le ms k).2; omega
    refine ⟨_, 1, 1, k - 1, 1, h1, h2, by omega, fun W' b1 b2 => .inr ⟨by rw [hF, h0], ⟨a', c', ?_⟩, b2⟩⟩
    have e : (((k - 1 : Nat) : Int) + 1) = ((k + 1 - 1 : Nat) : Int) := by omega
    rw [← e]; exact b1
theorem BoxRun.mod {S : Nat → Prop} {W W' : World} {I B : Nat} {ms : List Bool} {k : Nat} (h : BoxRun W I B ms k) (hm : Mod S W W') (hI : ¬ S I) (hB : ¬ S B) : BoxRun W' I B ms k := by
  rcases h with ⟨h0, h1, h2⟩ | ⟨h0, ⟨a', c', h1⟩, h2⟩
  · exact .inl ⟨h0, h1.mod hm hI, h2.mod hm hB⟩
  · exact .inr ⟨h0, ⟨a', c', h1.mod hm hI⟩, h2.mod hm hB⟩
theorem OutRow.nil (W : World) (base : Nat) : OutRow W base (.slice none 0 0) 0 := ⟨[], rfl, owns_nil _ _ _ _, fun i hi => absurd hi (by simp)⟩
set_option maxHeartbeats 4000000 in
theorem brought1_st (m : Nat) (hm : 1 ≤ m) (W0 : World) (n1 I B ba bb : Nat) (mv : Value) (ms : List Bool) (hmv : MovesAt W0 mv ms) (hms : ms.length ≤ 100) (hf : framesN ms ≤ 1) (hI : W0.heap.size ≤ I) (hB : W0.heap.size ≤ B) (hIB : ¬ I = B) (haI : ¬ ba = I) (haB : ¬ ba = B) (hbI : ¬ bb = I) (hbB : ¬ bb = B) :
    SeqSt Fence.wide m Tryz.prog 141 #[.pointer (some ⟨bb, 0, none⟩), .pointer (some ⟨ba, 0, none⟩)] (fun x : Value => #[x]) (fun k => k = I ∨ k = B) (RunSt W0 n1 I B ba bb mv ms) (RunYa W0 n1 I B ba bb mv ms) ms.length := by
  intro l J W hS hJ hY h0
  obtain ⟨a, c, e⟩ := MovesAt.form hmv
  subst e
  have HMV := Lib.hid hmv
  have HS := Lib.hid hS
  have HJ := Lib.hid hJ
  have HY := Lib.hid hY
  have H0 := Lib.hid h0
  obtain ⟨hh1, hh2, -, -⟩ := hS
  have k2 := cell_of_heap_ hh2
  clear hmv hJ hY h0 hh1 hh2
  generalize hL : ms.length = L at *
  have HL := Lib.hid hL
  have hLI : (L : Int) ≤ 100 := by omega
  have HF := Lib.hid hf
  clear hL hf
  refine callsIn_of_wp Tryz.func141 rfl trivial ?_ rfl
  simp only [Tryz.ntmps141, List.size_toArray, List.length_cons, List.length_nil, Nat.reduceAdd, Nat.reduceSub, Array.replicate_succ, Array.replicate_zero, List.push_toArray, List.append_toArray, List.nil_append, List.cons_append]
  refine wpIn_wide.2 ?_
  go_wp2_with fail
  clear k2
  go_loopw [9] (fun i wr => ∃ k : Nat, k ≤ L ∧ i = .int .i64 k ∧ Hid (J k wr) ∧ Hid (RunSt W0 n1 I B ba bb (.slice a L c) ms k wr)) (fun i _ => L - (intOf i).toNat)
  case atStart => exact ⟨0, Nat.zero_le _, rfl, H0, HS⟩
  case round =>
    clear HS H0
    obtain ⟨k, hk, rfl, HJK, HST⟩ := hrel
    by_cases hlt : k < L
    · have hltI : (k : Int) < L := by omega
      have hlt2 : k < ms.length := by have := HL.out; omega
      obtain ⟨hh1, hh2, ⟨hb0, hn1⟩, hbr⟩ := HST.out
      obtain ⟨b, rfl, hbl, h1, h2⟩ := MovesAt.at_ (HMV.out.below hb0) hlt2
      have HH1 := Lib.hid hh1
      have HH2 := Lib.hid hh2
      have HB0 := Lib.hid hb0
      have HBR := Lib.hid hbr
      have HK := Lib.hid (framesN_take hlt2)
      have k1 := cell_of_heap_ hh1
      have HGET : Hid (ms[k]?.getD true = ms[k]) := by rw [Hid, List.getElem?_eq_getElem hlt2]; rfl
      clear hh1 hh2 hb0 hbr hbl
      rcases h2 with ⟨ht, h3⟩ | ⟨ht, g, cc, z, h3, h4⟩
      · rw [ht] at h1
        have HT := Lib.hid ht
        clear ht
        go_upto_region 5 with fail
        have hm1 : Mod (fun _ => False) wr (wr.alloc (.cells #[.bool true, .slice none 0 0] 80)) := (Mod.refl _ _).alloc _
        have HM1 := Lib.hid hm1
        have hnW := Nat.le_trans hn1 hm1.size
        clear hm1 h1 h3 k1 hn1
        generalize wr.alloc (.cells #[.bool true, .slice none 0 0] 80) = W1 at *
        generalize wr.heap.size = P at *
        have hFk : framesN (ms.take (k + 1)) = framesN (ms.take k) := by have := HK.out; rw [HT.out] at this; simpa using this
        obtain ⟨fv, put, ans, id, s, hbx, hsl, hid, hnx⟩ := BoxRun.turn (HBR.out.mod HM1.out (by simp) (by simp)) (by omega) hFk
        have HP1 := HM1.out.heap HH1.out (by simp)
        have k1 := cell_of_heap_ HP1
        have HTI := Lib.hid (TurnIdle I B fv put ans id (by omega) W1 hbx)
        have hms2 := mod_set_ W1 I 6 (.int .i64 ((id : Int) + 1))
        have HBR2 := Lib.hid (hnx (W1.setCell ⟨I, 6, none⟩ (.int .i64 ((id : Int) + 1))) (hbx.setIdle _) (hsl.mod hms2 (fun e => hIB e.symm)))
        have HM2 : Hid (Mod (fun q => q = I ∨ q = B) wr (W1.setCell ⟨I, 6, none⟩ (.int .i64 ((id : Int) + 1)))) := (HM1.out.mono (by simp)).trans (hms2.mono (fun _ _ h => .inl h))
        have hs12 := Nat.le_trans hnW hms2.size
        clear hbx hsl hnx hms2 HP1 hFk
        go_wp2_with fail
        refine HTI.out.mono ?_; rintro e W2 ⟨rfl, hW2⟩
        rw [← hW2] at HBR2 HM2 hs12
        clear k1 hW2
        go_upto_region 7 with fail
        have hX2 : Below W0.heap.size W0 W2 := HB0.out.trans (HM2.out.below HB0.out.size (fun q hq e => by omega))
        obtain ⟨fn, tmps, assign, body, hy, hR⟩ := HY.out k (.slice none 0 0) W2 hlt (HJ.out k wr W2 HJK.out HM2.out) (by
          rw [RunYa, HGET.out, HT.out]
          exact ⟨.inl ⟨rfl, rfl⟩, HM2.out.heap HH1.out (by omega), HM2.out.heap HH2.out (by omega), ⟨hX2, hs12⟩, HBR2.out⟩)
        clear hX2
        refine (wpIn_wide (n := m)).1 ?_
        gi_wp2
        refine hR.mono ?_
        rintro e W5 ⟨rfl, hJ5, hS5⟩
        gi_wp2
        have HS5 := Lib.hid hS5
        have HJ5 := Lib.hid hJ5
        clear hS5 hJ5 hR hy
        go_wp2_with fail
        exact ⟨⟨k + 1, by omega, by simp, HJ5, HS5⟩, by simp [intOf]; omega⟩
      · rw [ht] at h1
        have HT := Lib.hid ht
        clear ht
        go_upto_region 6 with fail
        have hm1 : Mod (fun _ => False) wr (wr.alloc (.cells #[.bool false, .slice (some ⟨g, 0, none⟩) 1 cc] 80)) := (Mod.refl _ _).alloc _
        have hP : (wr.alloc (.cells #[.bool false, .slice (some ⟨g, 0, none⟩) 1 cc] 80)).heap[wr.heap.size]? = some (.cells #[.bool false, .slice (some ⟨g, 0, none⟩) 1 cc] 80) := World.alloc_heap_new _ _
        have HM1 := Lib.hid hm1
        have HP := Lib.hid hP
        have HR1 := Lib.hid (reads_one_ (c := cc) (hm1.cell (by simp) h4))
        have hnW := Nat.le_trans hn1 hm1.size
        clear hm1 hP h1 h3 h4 k1 hn1
        have hPI : ¬ wr.heap.size = I ∧ ¬ wr.heap.size = B := by
          rcases HBR.out with ⟨-, h1, h2⟩ | ⟨-, ⟨a', c', h1⟩, h2⟩
          · have := h1.lt; have := h2.lt; omega
          · have := h1.lt; have := h2.lt; omega
        generalize wr.alloc (.cells #[.bool false, .slice (some ⟨g, 0, none⟩) 1 cc] 80) = W1 at *
        generalize wr.heap.size = P at *
        obtain ⟨hPI1, hPI2⟩ := hPI
        have hF0 : framesN (ms.take k) = 0 ∧ framesN (ms.take (k + 1)) = 1 := by
          have h1 := HK.out; rw [HT.out] at h1; simp at h1
          have h2 := (framesN_take_le ms (k + 1)).1
          have h3 := HF.out
          omega
        obtain ⟨hf0, hf1⟩ := hF0
        have hbs : BoxAt wr I B false (.slice none 0 0) 0 0 (k : Int) ∧ SlotAt wr B 0 := by
          rcases HBR.out with ⟨-, h1, h2⟩ | ⟨h0, -, -⟩
          · exact ⟨h1, h2⟩
          · omega
        have HBX := Lib.hid (hbs.1.mod HM1.out (by simp))
        have HSL := Lib.hid (hbs.2.mod HM1.out (by simp))
        have HP1 := Lib.hid (HM1.out.heap HH1.out (by simp))
        have HF1 := Lib.hid hf1
        clear hbs hf0 hf1
        have k1 := cell_of_heap_ HP1.out
        obtain ⟨-, p1, -, -⟩ := pair_cells_ HP.out
        go_region_held3 (fun W => W.cell? ⟨ba, 0, none⟩ = some (.pointer (some ⟨I, 0, none⟩)) ∧ W.cell? ⟨P, 1, none⟩ = some (.slice (some ⟨g, 0, none⟩) 1 cc))
          (first | (with_reducible exact HK2.out) | (with_reducible exact HK1.out) | exact ⟨k1, p1⟩ | go_keep)
          ((first
            | (go_at_call 59; refine (Clone_bytes _ [z] _ (by exact HR1.out) (by simp) (by simp)).mono ?_; rintro e y1 ⟨v1, rfl, ho1, hb1⟩; obtain ⟨a1, c1, e1⟩ := owns_form_pos_ ho1 (by simp); subst e1; have HY1 : Hid (Mod (fun _ => False) W1 y1) := Mod.of_same (below_step_ (by repeat (first | exact Below.refl _ _ | refine below_drew_ ?_ | refine below_alloc_ ?_ _)) hb1); have HO1 := Lib.hid ho1; have HBX1 := Lib.hid (HBX.out.mod HY1.out (by simp)); have HSL1 := Lib.hid (HSL.out.mod HY1.out (by simp)); have HK1 : Hid (y1.cell? ⟨ba, 0, none⟩ = some (.pointer (some ⟨I, 0, none⟩)) ∧ y1.cell? ⟨P, 1, none⟩ = some (.slice (some ⟨g, 0, none⟩) 1 cc)) := ⟨HY1.out.cell (by simp) k1, HY1.out.cell (by simp) p1⟩; clear hb1 ho1)
            | (go_at_call 143; refine (Put_one _ I B a1 c1 z (k : Int) (by exact HBX1.out) (by exact HSL1.out) (by exact row_one8_ HO1.out)).mono ?_; rintro e y2 ⟨v2, rfl, ho2, hb2, hs2, hm2⟩; have HY2 : Hid (Mod (fun q => q = I ∨ q = B) W1 y2) := (HY1.out.mono (by simp)).trans (Mod.trans (Mod.of_same (by repeat (first | exact Below.refl _ _ | refine below_drew_ ?_ | refine below_alloc_ ?_ _))) hm2); have HO2 := Lib.hid ho2; have HB2 := Lib.hid hb2; have HS2 := Lib.hid hs2; have HK2 : Hid (y2.cell? ⟨ba, 0, none⟩ = some (.pointer (some ⟨I, 0, none⟩)) ∧ y2.cell? ⟨P, 1, none⟩ = some (.slice (some ⟨g, 0, none⟩) 1 cc)) := ⟨cell_of_heap_ (HY2.out.heap HP1.out (by omega)), (pair_cells_ (HY2.out.heap HP.out (by omega))).2.1⟩; clear hm2 hb2 hs2 ho2)))
        have HM2 : Hid (Mod (fun q => q = I ∨ q = B) wr y2) := (HM1.out.mono (by simp)).trans HY2.out
        have hX2 : Below W0.heap.size W0 y2 := HB0.out.trans (HM2.out.below HB0.out.size (fun q hq e => by omega))
        have hsz : n1 ≤ y1.heap.size := Nat.le_trans hnW HY1.out.size
        have HOW : Hid (OutRow y2 n1 v2 1) := by
          obtain ⟨vs, hvl, hvo, hve⟩ := HO2.out
          exact ⟨vs, hvl, ownsRow_base hvo hsz, fun i hi => ownsRow_base (hve i hi) hsz⟩
        obtain ⟨xa, xc, e⟩ : ∃ xa xc, v2 = .slice xa 1 xc := by
          obtain ⟨vs, hvl, hvo, hve⟩ := HO2.out
          exact ownsRow_form hvo
        subst e
        have HBR2 : Hid (BoxRun y2 I B ms (k + 1)) := by
          obtain ⟨a', c', hb2⟩ := HB2.out
          exact .inr ⟨HF1.out, ⟨a', c', by simpa using hb2⟩, HS2.out⟩
        clear HK1 HK2 HBX1 HSL1 HO1 HBX HSL k1 p1
        go_upto_region 7 with fail
        obtain ⟨fn, tmps, assign, body, hy, hR⟩ := HY.out k (.slice xa 1 xc) y2 hlt (HJ.out k wr y2 HJK.out HM2.out) (by
          rw [RunYa, HGET.out, HT.out]
          exact ⟨.inr ⟨rfl, HOW.out⟩, HM2.out.heap HH1.out (by omega), HM2.out.heap HH2.out (by omega), ⟨hX2, Nat.le_trans hnW HY2.out.size⟩, HBR2.out⟩)
        clear hX2
        refine (wpIn_wide (n := m)).1 ?_
        gi_wp2
        refine hR.mono ?_
        rintro e W5 ⟨rfl, hJ5, hS5⟩
        gi_wp2
        have HS5 := Lib.hid hS5
        have HJ5 := Lib.hid hJ5
        clear hS5 hJ5 hR hy
        go_wp2_with fail
        exact ⟨⟨k + 1, by omega, by simp, HJ5, HS5⟩, by simp [intOf]; omega⟩
    · have hk2 : k = L := by omega
      subst hk2
      go_wp2_with fail
      go_end0
      exact ⟨⟨_, rfl⟩, HJK.out, HST.out⟩
end Resp
end Go.Proofs.YtdfmgneicdpjmaaGreat

/- model.Run over moves of which at most one is a frame. -/
namespace Go.Proofs.YtdfmgneicdpjmaaGreat
open Go.RowKit Go.Shelf
attribute [local go_sem] Oper.semAt_some
set_option linter.unusedVariables false
set_option linter.unusedSimpArgs false
set_option maxRecDepth 100000
namespace Resp

theorem results_run5_ {P : Program} {fn : Func} {p q r s u : Tmp} {ty : TypeId} (h : fn.results = #[.tmp p, .cell q ty, .tmp r, .tmp s, .tmp u]) (tmps : Array Value) (w : World) (g : Nat) (t : TypeId) (cs : Array Value) (fr : Nat × Nat) (d : TypeDesc)
    (hp : tmps.getD q undef = .pointer (some ⟨g, 0, none⟩)) (hg : w.heap[g]? = some (.cells cs t fr))
    (hu : P.underlying ty = some d) (hd : (match d with | .struct _ | .array _ _ => true | _ => false) = true) (hi : (P.info? ty).map (·.size) = some cs.size) :
    (results fn tmps).run P w = .ok (.tuple #[tmps.getD p undef, .agg cs, tmps.getD r undef, tmps.getD s undef, tmps.getD u undef]) w := by
  have hp' : tmps[q]?.getD undef = .pointer (some ⟨g, 0, none⟩) := by simpa using hp
  simp [results, h, hp', asAddr, run_loadVar_row w g t ty cs fr d hg hu hd hi]
theorem st_open_ (t : TypeId) (p v : Value) (h : ¬ t = 89) : Instr.storeAt t p v = (do storeVar t (← Instr.sureAddr p) v) := rfl
theorem mod_row_ (w : World) (g : Nat) (cs : Array Value) : Mod (fun q => q = g) w (w.setRow g cs) := by
  refine ⟨rfl, rfl, rfl, by simp [World.setRow], fun k hk hS => ?_⟩
  show (w.heap.modify g _)[k]? = _
  rw [Array.getElem?_modify, if_neg (fun e => hS e.symm)]
theorem four_cells_ {W : World} {g : Nat} {a b c d : Value} {T : TypeId} (h : W.heap[g]? = some (.cells #[a, b, c, d] T)) : W.cell? ⟨g, 0, none⟩ = some a ∧ W.cell? ⟨g, 1, none⟩ = some b ∧ W.cell? ⟨g, 3, none⟩ = some d := by
  refine ⟨?_, ?_, ?_⟩ <;> simp [World.cell?, h]
attribute [-go_sem] Instr.storeAt
attribute [local go_sem] st_open_
theorem BoxRun.done {W : World} {I B : Nat} {ms : List Bool} (h : BoxRun W I B ms ms.length) : ∃ fv, BoxAt W I B false fv (framesN ms : Int) (framesN ms : Int) ((ms.length : Int) - (framesN ms : Int)) ∧ SlotAt W B (framesN ms) := by
  rw [BoxRun, List.take_length] at h
  rcases h with ⟨h0, h1, h2⟩ | ⟨h0, ⟨a', c', h1⟩, h2⟩
  · exact ⟨_, by rw [h0]; simpa using h1, by rw [h0]; exact h2⟩
  · have hl : 1 ≤ ms.length := by have := framesN_le ms; omega
    have e : ((ms.length - 1 : Nat) : Int) = (ms.length : Int) - ((1 : Nat) : Int) := by omega
    rw [e] at h1
    exact ⟨_, by rw [h0]; exact h1, by rw [h0]; exact h2⟩
theorem RunSt.keep {T : Nat → Prop} {W0 : World} {n1 I B ba bb : Nat} {mv : Value} {ms : List Bool} {k : Nat} {A A' : World} (h : RunSt W0 n1 I B ba bb mv ms k A) (hm : Mod T A A') (hT : ∀ q, T q → ¬ q = I ∧ ¬ q = B ∧ ¬ q = ba ∧ ¬ q = bb ∧ W0.heap.size ≤ q) : RunSt W0 n1 I B ba bb mv ms k A' := by
  obtain ⟨h1, h2, ⟨h3, h4⟩, h5⟩ := h
  exact ⟨hm.heap h1 (fun e => (hT _ e).2.2.1 rfl), hm.heap h2 (fun e => (hT _ e).2.2.2.1 rfl), ⟨h3.trans (hm.below h3.size (fun q hq e => by have := (hT q e).2.2.2.2; omega)), Nat.le_trans h4 hm.size⟩, h5.mod hm (fun e => (hT _ e).1 rfl) (fun e => (hT _ e).2.1 rfl)⟩
def RunI (n1 O A B R : Nat) (ms : List Bool) (k : Nat) (W : World) : Prop :=
  (∃ vo, W.heap[O]? = some (.cells #[vo] 22) ∧ OutRow W n1 vo (framesN (ms.take k))) ∧ AloneAt W A B ∧ StZ W R
theorem RunI.keep {T : Nat → Prop} {n1 O A B R : Nat} {ms : List Bool} {k : Nat} {W W' : World} (h : RunI n1 O A B R ms k W) (hm : Mod T W W') (hT : ∀ q, T q → ¬ q = O ∧ ¬ q = A ∧ ¬ q = R ∧ q < n1) : RunI n1 O A B R ms k W' := by
  obtain ⟨⟨vo, h1, h2⟩, h3, h4⟩ := h
  exact ⟨⟨vo, hm.heap h1 (fun e => (hT _ e).1 rfl), h2.modLt (hm.mono (fun q _ e => (hT q e).2.2.2))⟩, h3.mod hm (fun e => (hT _ e).2.1 rfl), hm.heap h4 (fun e => (hT _ e).2.2.1 rfl)⟩
theorem RunI.put {n1 O A B R : Nat} {ms : List Bool} {k : Nat} {W : World} (h : RunI n1 O A B R ms k W) {l : Nat} {o : Obj} (o' : Obj) (hl : W.heap[l]? = some o) (ho : o.isCells = false) : RunI n1 O A B R ms k (W.putObj l o') := by
  obtain ⟨⟨vo, h1, h2⟩, h3, h4⟩ := h
  have hm := mod_put_ W l o'
  have hne : ∀ {q : Nat} {cs : Array Value} {t : TypeId}, W.heap[q]? = some (.cells cs t) → ¬ q = l := fun hq e => by
    rw [e, hl] at hq; cases hq; cases ho
  exact ⟨⟨vo, hm.heap h1 (hne h1), h2.put _ hl ho⟩, h3.mod hm (hne h3), hm.heap h4 (hne h4)⟩
set_option maxHeartbeats 4000000 in
theorem Run_any (v : Value) (ms : List Bool) (W : World) (h : MovesAt W v ms) (hms : ms.length ≤ 100) (hf : framesN ms ≤ 1) :
    Calls Tryz.prog 43 #[v] W fun e w' => ∃ vo, e = .returned (.tuple #[vo, .agg #[.bool false, .bool false, .int .i64 (framesN ms : Int), .int .i64 1, .int .i64 0, .int .i64 0, .int .i64 0, .int .i64 0, .int .i64 0, .int .i64 0, .int .i64 0, .int .u64 0, .int .i64 0, .int .i64 0, .int .i64 0, .int .i64 0, .int .i64 0, .int .i64 0, .slice none 0 0, .int .i64 0, .slice none 0 0, .slice none 0 0, .slice none 0 0, .slice none 0 0], .int .i64 0, .int .i64 ((ms.length : Int) - (framesN ms : Int)), .int .i64 0]) ∧ OutRow w' W.heap.size vo (framesN ms) ∧ Below W.heap.size W w' := by
  obtain ⟨i1, hi, hz0, hz1, hz2⟩ := info_parts infoBytes
  obtain ⟨a, c, e⟩ := MovesAt.form h
  subst e
  have HMV := Lib.hid h
  have hLI : (ms.length : Int) ≤ 100 := by omega
  clear h
  refine (callsIn_wide (n := 8)).1 ?_
  refine callsIn_of_wp_marks Tryz.func43 rfl trivial ?_ rfl
  simp only [Tryz.ntmps43, List.size_toArray, List.length_cons, List.length_nil, Nat.reduceAdd, Nat.reduceSub, Array.replicate_succ, Array.replicate_zero, List.push_toArray, List.append_toArray, List.nil_append, List.cons_append]
  refine wpIn_wide.2 ?_
  go_upto_region 1 with fail
  have hb1 : Below W.heap.size W (W.alloc (.cells #[.bool false, .bool false, .int .i64 0, .int .i64 0, .int .i64 0, .int .i64 0, .int .i64 0, .int .i64 0, .int .i64 0, .int .i64 0, .int .i64 0, .int .u64 0, .int .i64 0, .int .i64 0, .int .i64 0, .int .i64 0, .int .i64 0, .int .i64 0, .slice none 0 0, .int .i64 0, .slice none 0 0, .slice none 0 0, .slice none 0 0, .slice none 0 0] 89)) := (Below.refl _ _).alloc (Nat.le_refl _) _
  have HZ1 := Lib.hid (StZ.new W)
  have HMV1 := Lib.hid (HMV.out.below hb1)
  have HB1 := Lib.hid hb1
  clear hb1
  generalize W.alloc (.cells #[.bool false, .bool false, .int .i64 0, .int .i64 0, .int .i64 0, .int .i64 0, .int .i64 0, .int .i64 0, .int .i64 0, .int .i64 0, .int .i64 0, .int .u64 0, .int .i64 0, .int .i64 0, .int .i64 0, .int .i64 0, .int .i64 0, .int .i64 0, .slice none 0 0, .int .i64 0, .slice none 0 0, .slice none 0 0, .slice none 0 0, .slice none 0 0] 89) = W1 at *
  generalize hR : W.heap.size = R at *
  have HR := Lib.hid hR
  clear hR
  have hRlt : R < W1.heap.size := (Array.getElem?_eq_some_iff.1 HZ1.out).1
  generalize hLL : ms.length = L at *
  have HL := Lib.hid hLL
  clear hLL
  go_wp2_with fail
  refine (New_any W1).mono ?_; rintro e W2 ⟨rfl, hs2, hb2⟩
  have HS2 := Lib.hid hs2
  have HB2 := Lib.hid (HB1.out.trans (hb2.mono (Nat.le_of_lt hRlt)))
  have HZ2 : Hid (StZ W2 R) := (hb2.block _ hRlt).trans HZ1.out
  have hB2 := hs2.lt
  have HRB : Hid (R < W1.heap.size) := hRlt
  have HMV2 := Lib.hid (HMV1.out.below hb2)
  clear hs2 hb2
  generalize W1.heap.size = B at *
  go_upto_region 4 with fail
  have hm3 : Mod (fun _ => False) W2 (W2.alloc (.cells #[.pointer (some ⟨B, 0, none⟩)] 147)) := (Mod.refl _ _).alloc _
  have ha3 : AloneAt (W2.alloc (.cells #[.pointer (some ⟨B, 0, none⟩)] 147)) W2.heap.size B := World.alloc_heap_new _ _
  have hs3 : (W2.alloc (.cells #[.pointer (some ⟨B, 0, none⟩)] 147)).heap.size = W2.heap.size + 1 := by simp
  have HA3 := Lib.hid ha3
  have HM3 := Lib.hid hm3
  have HS3 := Lib.hid hs3
  have k3 := ha3.cell
  clear hm3 ha3 hs3
  generalize W2.alloc (.cells #[.pointer (some ⟨B, 0, none⟩)] 147) = W3 at *
  generalize W2.heap.size = A at *
  go_wp2_with fail
  refine (InboxNew_any B W3).mono ?_; rintro e W4 ⟨rfl, hbx4, hb4⟩
  have hI4 := hbx4.lt
  have HBX4 := Lib.hid hbx4
  have HM4 : Hid (Mod (fun _ => False) W3 W4) := Mod.of_same hb4
  clear hbx4 hb4 k3
  generalize W3.heap.size = I at *
  go_upto_region 8 with fail
  have HM5 : Hid (Mod (fun _ => False) W4 (W4.alloc (.cells #[.slice none 0 0] 22))) := (Mod.refl _ _).alloc _
  have HO5 := Lib.hid (World.alloc_heap_new W4 (.cells #[.slice none 0 0] 22))
  have HS5 : Hid ((W4.alloc (.cells #[.slice none 0 0] 22)).heap.size = W4.heap.size + 1) := by simp [Hid]
  generalize W4.alloc (.cells #[.slice none 0 0] 22) = W5 at *
  generalize W4.heap.size = O at *
  go_wp2_with fail
  refine (brought_any I (.slice a L c) ⟨_, _, _, rfl⟩ W5).mono ?_; rintro e W6 ⟨rfl, hW6⟩
  have HM6 : Hid (Mod (fun _ => False) W5 ((W5.alloc (.cells #[.pointer (some ⟨I, 0, none⟩)] 148)).alloc (.cells #[.slice a L c] 50))) := ((Mod.refl _ _).alloc _).alloc _
  have hp1 := (Below.heap_alloc (W5.alloc (.cells #[.pointer (some ⟨I, 0, none⟩)] 148)) (.cells #[.slice a L c] 50) W5.heap.size (by simp)).trans (World.alloc_heap_new W5 (.cells #[.pointer (some ⟨I, 0, none⟩)] 148))
  have hp2 := World.alloc_heap_new (W5.alloc (.cells #[.pointer (some ⟨I, 0, none⟩)] 148)) (.cells #[.slice a L c] 50)
  rw [World.size_alloc] at hp2
  have HP1 := Lib.hid hp1
  have HP2 := Lib.hid hp2
  have HS6 : Hid (((W5.alloc (.cells #[.pointer (some ⟨I, 0, none⟩)] 148)).alloc (.cells #[.slice a L c] 50)).heap.size = W5.heap.size + 2) := by simp [Hid]
  rw [← hW6] at HM6 HP1 HP2 HS6
  clear hW6 hp1 hp2
  generalize W5.heap.size = ba at *
  go_wp2_with fail
  have hm26 : Mod (fun _ => False) W2 W6 := ((((HM3.out.trans HM4.out).trans HM5.out).trans HM6.out))
  have hm36 : Mod (fun _ => False) W3 W6 := ((HM4.out.trans HM5.out).trans HM6.out)
  have hm46 : Mod (fun _ => False) W4 W6 := HM5.out.trans HM6.out
  have hbW6 : Below R W W6 := HB2.out.trans (hm26.below (by have := HRB.out; have := (Array.getElem?_eq_some_iff.1 HZ2.out).1; omega) (by simp))
  have HBW6 := Lib.hid hbW6
  have HST : Hid (RunSt W (ba + 2) I B ba (ba + 1) (.slice a L c) ms 0 W6) := ⟨HP1.out, HP2.out, ⟨by rw [HR.out]; exact hbW6, Nat.le_of_eq HS6.out.symm⟩, .inl ⟨rfl, HBX4.out.mod hm46 (by simp), HS2.out.mod hm26 (by simp)⟩⟩
  have HI0 : Hid (RunI (ba + 2) O A B R ms 0 W6) := ⟨⟨_, HM6.out.heap HO5.out (by simp), [], rfl, owns_nil _ _ _ _, fun i hi => absurd hi (by simp)⟩, HA3.out.mod hm36 (by simp), hm26.heap HZ2.out (by simp)⟩
  have hn : R < B ∧ B < A ∧ I = A + 1 ∧ I < O ∧ ba = O + 1 ∧ W6.heap.size = ba + 2 := ⟨HRB.out, hB2, HS3.out, hI4, HS5.out, HS6.out⟩
  have HN := Lib.hid hn
  clear hm26 hm36 hm46 hbW6 hn HB2 HB1 HZ1 HZ2 HS2 HMV1 HMV2 HA3 HM3 HM4 HM5 HM6 HBX4 HO5 HP1 HP2 HRB hB2 hI4 hRlt
  refine (wpIn_wide (n := 8)).1 ?_
  refine wpIn_rangeFunc_st rfl (by omega) (gf := 141) (lb := #[.pointer (some ⟨ba + 1, 0, none⟩), .pointer (some ⟨ba, 0, none⟩)]) rfl trivial (enters_of Tryz.func141 (by kernel_rfl) rfl) (fun _ => rfl)
    (brought1_st 7 (by omega) W (ba + 2) I B ba (ba + 1) (.slice a L c) ms HMV.out (by have := HL.out; omega) hf (by have := HN.out; have := HR.out; omega) (by have := HN.out; have := HR.out; omega) (by have := HN.out; omega) (by have := HN.out; omega) (by have := HN.out; omega) (by have := HN.out; omega) (by have := HN.out; omega))
    (fun k hk => by have := HN.out; omega)
    (fun A' hA => HST.out.keep (Mod.of_below hA) (fun q hq => by have := HN.out; have := HR.out; omega))
    (fun k A' l o o' hl hlo ho hS => hS.keep (mod_put_ A' l o') (fun q hq => by have := HN.out; have := HR.out; omega))
    (fun k x A' l o o' hl hlo ho hY => ⟨hY.1.imp id (fun h => ⟨h.1, h.2.put _ hlo ho⟩), hY.2.keep (mod_put_ A' l o') (fun q hq => by have := HN.out; have := HR.out; omega)⟩)
    (RunI (ba + 2) O A B R ms)
    (fun k A' A'' hI' hm => hI'.keep hm (fun q hq => by have := HN.out; omega))
    (fun k A' l o o' hl hlo ho hI' => hI'.put _ hlo ho)
    HI0.out
    (fun x => { tmps := #[.slice a L c, undef, .slice none 0 0, .pointer (some ⟨R, 0, none⟩), .int .i64 0, .int .i64 0, .int .i64 0, .pointer (some ⟨A, 0, none⟩), .pointer (some ⟨I, 0, none⟩), .int .i64 0, .pointer (some ⟨O, 0, none⟩), x, undef, .slice a L c, .int .i64 (L : Int), .bool (decide (16384 < (L : Int))), undef, .pointer (some ⟨B, 0, none⟩), .agg #[.pointer (some ⟨B, 0, none⟩)], .tuple #[.pointer (some ⟨I, 0, none⟩), .int .i64 0], .agg #[.pointer (some ⟨B, 0, none⟩)], .iface 147 (.agg #[.pointer (some ⟨B, 0, none⟩)]), .tuple #[.pointer (some ⟨I, 0, none⟩), .int .i64 0], .pointer (some ⟨I, 0, none⟩), .int .i64 0, .int .i64 0, .bool false, undef, undef, .pointer (some ⟨I, 0, none⟩), .slice a L c, .func (.func 141) #[] #[.pointer (some ⟨ba + 1, 0, none⟩), .pointer (some ⟨ba, 0, none⟩)], x, undef, undef, undef, undef, undef, undef, undef, undef, undef, undef, undef, undef, undef, undef, undef, undef], defers := [] }) ?assign ?body ?done
  case assign =>
    intro l x Wc K hK
    gi_wp2
    exact hK
  case body =>
    intro l k x Wc hk hI' hY
    obtain ⟨⟨vo, ho1, hrow⟩, hal, hz⟩ := hI'
    obtain ⟨hx, hst⟩ := hY
    have hc := cell_of_heap_ ho1
    have hOf : Wc.frozen? ⟨O, 0, none⟩ = false := by simp [World.frozen?, ho1]
    have HO1 := Lib.hid ho1
    have HROW := Lib.hid hrow
    have HAL := Lib.hid hal
    have HZ := Lib.hid hz
    have HSTc := Lib.hid hst
    clear ho1 hrow hal hz hst
    have hk2 : k < ms.length := by have := HL.out; omega
    have HKt := Lib.hid (framesN_take hk2)
    rw [List.getElem?_eq_getElem hk2, Option.getD_some] at hx
    rcases hx with ⟨ht, rfl⟩ | ⟨ht, hxr⟩
    · obtain ⟨vs, hvl, hvo, hve⟩ := HROW.out
      rcases hvo.2 with ⟨rfl, hn0⟩ | ⟨g, cap, cur, rfl, hbg, hgg, hcap, -, -, -⟩
      · clear hvo hve hvl
        gi_wp2
        have hms := mod_set_ Wc O 0 (.slice none 0 0)
        have hF : framesN (ms.take (k + 1)) = framesN (ms.take k) := by have h := HKt.out; rw [ht] at h; simpa using h
        refine ⟨keepsFrom_mod_ hms (fun q o hq e ho => by have := HN.out; omega), ⟨⟨.slice none 0 0, by have := heap_set_ HO1.out 0 (.slice none 0 0); simpa using this, by rw [hF]; exact HROW.out.keep_at HO1.out hms (by decide) (by decide)⟩, HAL.out.mod hms (fun e => by have := HN.out; omega), hms.heap HZ.out (fun e => by have := HN.out; omega)⟩, HSTc.out.keep hms (fun q hq => by have := HN.out; have := HR.out; omega)⟩
      · clear hvo hve hvl hgg
        gi_wp2
        have hms := mod_set_ Wc O 0 (.slice (some ⟨g, 0, none⟩) (framesN (ms.take k)) cap)
        have hF : framesN (ms.take (k + 1)) = framesN (ms.take k) := by have h := HKt.out; rw [ht] at h; simpa using h
        refine ⟨keepsFrom_mod_ hms (fun q o hq e ho => by have := HN.out; omega), ⟨⟨.slice (some ⟨g, 0, none⟩) (framesN (ms.take k)) cap, by have := heap_set_ HO1.out 0 (.slice (some ⟨g, 0, none⟩) (framesN (ms.take k)) cap); simpa using this, by rw [hF]; exact HROW.out.keep_at HO1.out hms (by decide) (by decide)⟩, HAL.out.mod hms (fun e => by have := HN.out; omega), hms.heap HZ.out (fun e => by have := HN.out; omega)⟩, HSTc.out.keep hms (fun q hq => by have := HN.out; have := HR.out; omega)⟩
    · have hF : framesN (ms.take k) = 0 ∧ framesN (ms.take (k + 1)) = 1 := by
        have h1 := HKt.out; rw [ht] at h1; simp at h1
        have h2 := (framesN_take_le ms (k + 1)).1
        omega
      obtain ⟨hF0, hF1⟩ := hF
      have HF1 := Lib.hid hF1
      obtain ⟨vs, hvl, hvo, hve⟩ := HROW.out
      rw [hF0] at hvl hvo
      obtain rfl : vs = [] := List.length_eq_zero_iff.1 hvl
      obtain ⟨ad, cd, e⟩ := ownsRow_form hvo
      subst e
      obtain ⟨ws, hwl, hwo, hwe⟩ := hxr
      obtain ⟨x0, rfl⟩ := List.length_eq_one_iff.1 hwl
      obtain ⟨xg, xc, e⟩ := owns_form_pos_ hwo (by omega)
      subst e
      have hx0 := hwe 0 (by simp)
      simp only [List.getElem_cons_zero] at hx0
      obtain ⟨xa, xac, e⟩ := ownsRow_form hx0
      subst e
      obtain ⟨hx1, -, -, -, -, -⟩ := row_one_ hwo
      have HVO := Lib.hid hvo
      have HX0 := Lib.hid hx0
      have hsz : ba + 2 ≤ Wc.heap.size := HSTc.out.2.2.1.2
      clear hvo hve hvl hwo hwe hwl hx0 hF0 hF1
      gi_wp2_with (gi_at_builtin; refine wpListIn_append_own _ rfl _ _ 22 rfl (ba + 2) 25 i1 (.slice none 0 0) 1 24 Tryz.underlying22 hi hz0 hz1 hz2 rfl (by decide) _ _ _ rfl HVO.out ⟨xg, 0, none⟩ 1 xc [.slice xa 9 xac] rfl rfl (news_one_ hx1) (by simp [Value.oneCell']) (by simp [maxLen]) (by decide) hsz ?_; intro v' w1 hown' hgrow _; obtain ⟨oa, oc, e⟩ := owns_form_pos_ hown' (by decide); subst e; have HOWN := Lib.hid hown'; have hgr' : Wc.grownBy w1 (Value.slice ad 0 cd).ownBlock := hgrow; have HM1 := Lib.hid (Mod.of_grownBy hgr'); have HQ1 := Lib.hid (HM1.out.heap HO1.out (own_other_ HVO.out HO1.out (by decide))); have q0 := cell_of_heap_ HQ1.out; have qf : w1.frozen? ⟨O, 0, none⟩ = false := (by simp [World.frozen?, HQ1.out]); clear hown' hgrow hgr')
      have hms := mod_set_ w1 O 0 (.slice (some ⟨oa, 0, none⟩) 1 oc)
      have hmt : Mod (fun q => some q = (Value.slice ad 0 cd).ownBlock ∨ q = O) Wc (w1.setCell ⟨O, 0, none⟩ (.slice (some ⟨oa, 0, none⟩) 1 oc)) := (HM1.out.mono (fun _ _ h => .inl h)).trans (hms.mono (fun _ _ h => .inr h))
      have hge : ∀ q, some q = (Value.slice ad 0 cd).ownBlock → ba + 2 ≤ q := fun q h => ownBlock_ge_ HVO.out h.symm
      refine ⟨keepsFrom_mod_ hmt ?_, ⟨⟨.slice (some ⟨oa, 0, none⟩) 1 oc, ?_, ?_⟩, HAL.out.mod hmt ?_, hmt.heap HZ.out ?_⟩, HSTc.out.keep hmt ?_⟩
      · rintro q o hq (h | h) ho
        · exact own_isCells_ HVO.out h ho
        · have := HN.out; omega
      · have := heap_set_ HQ1.out 0 (.slice (some ⟨oa, 0, none⟩) 1 oc)
        simpa using this
      · rw [HF1.out]
        refine ⟨[.slice xa 9 xac], rfl, owns_keep_at_ HOWN.out HQ1.out hms (by decide), fun i hi => ?_⟩
        obtain rfl : i = 0 := by simpa using hi
        exact owns_keep_at_ (owns_keep_ HX0.out HVO.out HM1.out (by decide)) HQ1.out hms (by decide)
      · rintro (h | h)
        · have := hge _ h; have := HN.out; omega
        · have := HN.out; omega
      · rintro (h | h)
        · have := hge _ h; have := HN.out; omega
        · have := HN.out; omega
      · rintro q (h | h)
        · have := hge _ h; have := HN.out; have := HR.out; omega
        · have := HN.out; have := HR.out; omega
  case done =>
    intro D Wc hD hI' hS hK
    obtain ⟨⟨vo, ho1, hrow⟩, hal, hz⟩ := hI'
    obtain ⟨-, -, ⟨hbel, -⟩, hbr⟩ := hS
    obtain ⟨fv, hbx, hsl⟩ := hbr.done
    rw [List.take_length] at hrow
    rw [HL.out] at hbx
    have HO1 := Lib.hid ho1
    have HROW := Lib.hid hrow
    have HAL := Lib.hid hal
    have HZ := Lib.hid hz
    have HBEL := Lib.hid hbel
    have HBX := Lib.hid hbx
    have HSL := Lib.hid hsl
    have HK := Lib.hid hK
    clear ho1 hrow hal hz hbel hbx hsl hK hbr
    generalize hff : framesN ms = f at *
    have hfI : (f : Int) ≤ 1 := by omega
    simp only [Exit.inBlock, Exit.then]
    go_wp2_with fail
    refine (Counts_any I B false fv f f ((L : Int) - (f : Int)) Wc HBX.out).mono ?_; rintro e W7 ⟨rfl, hb7⟩
    have HM7 : Hid (Mod (fun _ => False) Wc W7) := Mod.of_same hb7
    clear hb7
    rw [CountsAgg]
    go_upto_region 12 with fail
    have HM8 : Hid (Mod (fun _ => False) W7 (W7.alloc (.cells #[.int .i64 (f : Int), .int .i64 (f : Int), .int .i64 0, .int .i64 ((L : Int) - (f : Int))] 155))) := (Mod.refl _ _).alloc _
    have HC8 := Lib.hid (World.alloc_heap_new W7 (.cells #[.int .i64 (f : Int), .int .i64 (f : Int), .int .i64 0, .int .i64 ((L : Int) - (f : Int))] 155))
    have hC7 : Wc.heap.size ≤ W7.heap.size := HM7.out.size
    have hRc : R < Wc.heap.size := (Array.getElem?_eq_some_iff.1 HZ.out).1
    have hDlt : D < Wc.heap.size := (Array.getElem?_eq_some_iff.1 HK.out).1
    generalize W7.alloc (.cells #[.int .i64 (f : Int), .int .i64 (f : Int), .int .i64 0, .int .i64 ((L : Int) - (f : Int))] 155) = W8 at *
    generalize W7.heap.size = C at *
    have hm8 : Mod (fun _ => False) Wc W8 := HM7.out.trans HM8.out
    have HO8 := Lib.hid (hm8.heap HO1.out (by simp))
    have HA8 := Lib.hid (HAL.out.mod hm8 (by simp))
    have HZ8 : Hid (StZ W8 R) := hm8.heap HZ.out (by simp)
    have HSL8 := Lib.hid (HSL.out.mod hm8 (by simp))
    have HM := Lib.hid hm8
    clear hm8 HM7 HM8
    have o8 := cell_of_heap_ HO8.out
    have a8 := HA8.out.cell
    obtain ⟨q0, q1, q3⟩ := four_cells_ HC8.out
    have hw0 : IntKind.i64.wrap ((f : Int) - (f : Int)) = 0 := by rw [IntKind.wrap_i64]; omega
    have hOR : ¬ O = R := by have := HN.out; omega
    have hAR : ¬ A = R := by have := HN.out; omega
    have hCR : ¬ C = R := by omega
    have hSS : Hid (∀ y : World, Mod (fun _ => False) W8 y → y.cell? ⟨O, 0, none⟩ = some vo ∧ y.cell? ⟨A, 0, none⟩ = some (.pointer (some ⟨B, 0, none⟩)) ∧ y.cell? ⟨C, 0, none⟩ = some (.int .i64 (f : Int)) ∧ y.cell? ⟨C, 1, none⟩ = some (.int .i64 (f : Int)) ∧ y.cell? ⟨C, 3, none⟩ = some (.int .i64 ((L : Int) - (f : Int)))) := fun y hy => ⟨hy.cell (by simp) o8, hy.cell (by simp) a8, hy.cell (by simp) q0, hy.cell (by simp) q1, hy.cell (by simp) q3⟩
    have hSR : Hid (∀ (y : World) (cs : Array Value), y.cell? ⟨O, 0, none⟩ = some vo ∧ y.cell? ⟨A, 0, none⟩ = some (.pointer (some ⟨B, 0, none⟩)) ∧ y.cell? ⟨C, 0, none⟩ = some (.int .i64 (f : Int)) ∧ y.cell? ⟨C, 1, none⟩ = some (.int .i64 (f : Int)) ∧ y.cell? ⟨C, 3, none⟩ = some (.int .i64 ((L : Int) - (f : Int))) → (y.setRow R cs).cell? ⟨O, 0, none⟩ = some vo ∧ (y.setRow R cs).cell? ⟨A, 0, none⟩ = some (.pointer (some ⟨B, 0, none⟩)) ∧ (y.setRow R cs).cell? ⟨C, 0, none⟩ = some (.int .i64 (f : Int)) ∧ (y.setRow R cs).cell? ⟨C, 1, none⟩ = some (.int .i64 (f : Int)) ∧ (y.setRow R cs).cell? ⟨C, 3, none⟩ = some (.int .i64 ((L : Int) - (f : Int)))) := fun y cs h => ⟨(mod_row_ y R cs).cell hOR h.1, (mod_row_ y R cs).cell hAR h.2.1, (mod_row_ y R cs).cell hCR h.2.2.1, (mod_row_ y R cs).cell hCR h.2.2.2.1, (mod_row_ y R cs).cell hCR h.2.2.2.2⟩
    go_region_held3 (fun W => W.cell? ⟨O, 0, none⟩ = some vo ∧ W.cell? ⟨A, 0, none⟩ = some (.pointer (some ⟨B, 0, none⟩)) ∧ W.cell? ⟨C, 0, none⟩ = some (.int .i64 (f : Int)) ∧ W.cell? ⟨C, 1, none⟩ = some (.int .i64 (f : Int)) ∧ W.cell? ⟨C, 3, none⟩ = some (.int .i64 ((L : Int) - (f : Int))))
      (first | (with_reducible exact HK2.out) | (with_reducible exact HK1.out) | exact ⟨o8, a8, q0, q1, q3⟩ | go_keep)
      ((go_at_call 93; refine (State_none B f _ (by exact HSL8.out)).mono ?_; rintro e y1 ⟨rfl, hb1⟩; have HY1 : Hid (Mod (fun _ => False) W8 y1) := Mod.of_same (below_step_ (by repeat (first | exact Below.refl _ _ | refine below_drew_ ?_ | refine below_alloc_ ?_ _)) hb1); have HZy : Hid (StZ y1 R) := HY1.out.heap HZ8.out (by simp); have hst := st_row_ f HZy.out; have HK1 : Hid (y1.cell? ⟨O, 0, none⟩ = some vo ∧ y1.cell? ⟨A, 0, none⟩ = some (.pointer (some ⟨B, 0, none⟩)) ∧ y1.cell? ⟨C, 0, none⟩ = some (.int .i64 (f : Int)) ∧ y1.cell? ⟨C, 1, none⟩ = some (.int .i64 (f : Int)) ∧ y1.cell? ⟨C, 3, none⟩ = some (.int .i64 ((L : Int) - (f : Int)))) := hSS.out y1 HY1.out; have HK2 : Hid ((y1.setRow R #[.bool false, .bool false, .int .i64 (f : Int), .int .i64 1, .int .i64 0, .int .i64 0, .int .i64 0, .int .i64 0, .int .i64 0, .int .i64 0, .int .i64 0, .int .u64 0, .int .i64 0, .int .i64 0, .int .i64 0, .int .i64 0, .int .i64 0, .int .i64 0, .slice none 0 0, .int .i64 0, .slice none 0 0, .slice none 0 0, .slice none 0 0, .slice none 0 0]).cell? ⟨O, 0, none⟩ = some vo ∧ (y1.setRow R #[.bool false, .bool false, .int .i64 (f : Int), .int .i64 1, .int .i64 0, .int .i64 0, .int .i64 0, .int .i64 0, .int .i64 0, .int .i64 0, .int .i64 0, .int .u64 0, .int .i64 0, .int .i64 0, .int .i64 0, .int .i64 0, .int .i64 0, .int .i64 0, .slice none 0 0, .int .i64 0, .slice none 0 0, .slice none 0 0, .slice none 0 0, .slice none 0 0]).cell? ⟨A, 0, none⟩ = some (.pointer (some ⟨B, 0, none⟩)) ∧ (y1.setRow R #[.bool false, .bool false, .int .i64 (f : Int), .int .i64 1, .int .i64 0, .int .i64 0, .int .i64 0, .int .i64 0, .int .i64 0, .int .i64 0, .int .i64 0, .int .u64 0, .int .i64 0, .int .i64 0, .int .i64 0, .int .i64 0, .int .i64 0, .int .i64 0, .slice none 0 0, .int .i64 0, .slice none 0 0, .slice none 0 0, .slice none 0 0, .slice none 0 0]).cell? ⟨C, 0, none⟩ = some (.int .i64 (f : Int)) ∧ (y1.setRow R #[.bool false, .bool false, .int .i64 (f : Int), .int .i64 1, .int .i64 0, .int .i64 0, .int .i64 0, .int .i64 0, .int .i64 0, .int .i64 0, .int .i64 0, .int .u64 0, .int .i64 0, .int .i64 0, .int .i64 0, .int .i64 0, .int .i64 0, .int .i64 0, .slice none 0 0, .int .i64 0, .slice none 0 0, .slice none 0 0, .slice none 0 0, .slice none 0 0]).cell? ⟨C, 1, none⟩ = some (.int .i64 (f : Int)) ∧ (y1.setRow R #[.bool false, .bool false, .int .i64 (f : Int), .int .i64 1, .int .i64 0, .int .i64 0, .int .i64 0, .int .i64 0, .int .i64 0, .int .i64 0, .int .i64 0, .int .u64 0, .int .i64 0, .int .i64 0, .int .i64 0, .int .i64 0, .int .i64 0, .int .i64 0, .slice none 0 0, .int .i64 0, .slice none 0 0, .slice none 0 0, .slice none 0 0, .slice none 0 0]).cell? ⟨C, 3, none⟩ = some (.int .i64 ((L : Int) - (f : Int)))) := hSR.out y1 _ HK1.out; clear hb1))
    have hrow := mod_row_ y1 R #[.bool false, .bool false, .int .i64 (f : Int), .int .i64 1, .int .i64 0, .int .i64 0, .int .i64 0, .int .i64 0, .int .i64 0, .int .i64 0, .int .i64 0, .int .u64 0, .int .i64 0, .int .i64 0, .int .i64 0, .int .i64 0, .int .i64 0, .int .i64 0, .slice none 0 0, .int .i64 0, .slice none 0 0, .slice none 0 0, .slice none 0 0, .slice none 0 0]
    have hm1 : Mod (fun _ => False) Wc y1 := HM.out.trans HY1.out
    have hm9 : Mod (fun q => q = R) Wc (y1.setRow R #[.bool false, .bool false, .int .i64 (f : Int), .int .i64 1, .int .i64 0, .int .i64 0, .int .i64 0, .int .i64 0, .int .i64 0, .int .i64 0, .int .i64 0, .int .u64 0, .int .i64 0, .int .i64 0, .int .i64 0, .int .i64 0, .int .i64 0, .int .i64 0, .slice none 0 0, .int .i64 0, .slice none 0 0, .slice none 0 0, .slice none 0 0, .slice none 0 0]) := (hm1.mono (by simp)).trans hrow
    have HK9 := Lib.hid (hm9.heap HK.out (fun e => by have := HN.out; omega))
    have HZ9 := Lib.hid (HZy.out.setRow f)
    have HB9 : Hid (Below R W (y1.setRow R #[.bool false, .bool false, .int .i64 (f : Int), .int .i64 1, .int .i64 0, .int .i64 0, .int .i64 0, .int .i64 0, .int .i64 0, .int .i64 0, .int .i64 0, .int .u64 0, .int .i64 0, .int .i64 0, .int .i64 0, .int .i64 0, .int .i64 0, .int .i64 0, .slice none 0 0, .int .i64 0, .slice none 0 0, .slice none 0 0, .slice none 0 0, .slice none 0 0])) := by
      have h1 := HBEL.out
      rw [HR.out] at h1
      exact h1.trans (hm9.below (Nat.le_of_lt hRc) (fun q hq e => by omega))
    have HO9 : Hid (OutRow (y1.setRow R #[.bool false, .bool false, .int .i64 (f : Int), .int .i64 1, .int .i64 0, .int .i64 0, .int .i64 0, .int .i64 0, .int .i64 0, .int .i64 0, .int .i64 0, .int .u64 0, .int .i64 0, .int .i64 0, .int .i64 0, .int .i64 0, .int .i64 0, .int .i64 0, .slice none 0 0, .int .i64 0, .slice none 0 0, .slice none 0 0, .slice none 0 0, .slice none 0 0]) (ba + 2) vo f) := by
      obtain ⟨vs, hvl, hvo, hve⟩ := HROW.out
      exact OutRow.keep_at (W := y1) ⟨vs, hvl, ownsRow_mod hvo hm1 (by simp), fun i hi => ownsRow_mod (hve i hi) hm1 (by simp)⟩ HZy.out hrow (by decide) (by decide)
    rename_i hHeld0
    clear hrow hm1 hm9 HK1 HK2 hst hHeld0 HY1 HZy
    generalize y1.setRow R #[.bool false, .bool false, .int .i64 (f : Int), .int .i64 1, .int .i64 0, .int .i64 0, .int .i64 0, .int .i64 0, .int .i64 0, .int .i64 0, .int .i64 0, .int .u64 0, .int .i64 0, .int .i64 0, .int .i64 0, .int .i64 0, .int .i64 0, .int .i64 0, .slice none 0 0, .int .i64 0, .slice none 0 0, .slice none 0 0, .slice none 0 0, .slice none 0 0] = W9 at *
    go_wp2_with fail
    refine ⟨by simp, .inl ⟨_, _, rfl, run_takeDeferred HK9.out, ?_⟩⟩
    have hmp := mod_put_ W9 D (.deferred none)
    have hDR : ¬ R = D := by have := HN.out; omega
    refine ⟨_, results_run5_ rfl _ _ R _ _ _ _ rfl (hmp.heap HZ9.out hDR) Tryz.underlying89 rfl infoSt, vo, ?_, ?_, ?_⟩
    · rw [hff, HL.out]
      rfl
    · rw [hff, HR.out]
      obtain ⟨vs, hvl, hvo, hve⟩ := HO9.out.put (.deferred none) HK9.out rfl
      exact ⟨vs, hvl, ownsRow_base hvo (by have := HN.out; omega), fun i hi => ownsRow_base (hve i hi) (by have := HN.out; omega)⟩
    · rw [HR.out]
      exact HB9.out.trans (hmp.below (Nat.le_of_lt (Array.getElem?_eq_some_iff.1 HZ9.out).1) (fun q hq e => by have := HN.out; omega))
end Resp
end Go.Proofs.YtdfmgneicdpjmaaGreat