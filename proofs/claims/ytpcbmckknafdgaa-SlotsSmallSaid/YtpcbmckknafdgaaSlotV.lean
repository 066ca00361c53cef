/- The reference of layer 9: Refs, Counts. -/
import Derived.Test.YtpcbmckknafdgaaSlotU
namespace Go.Proofs.Ytpcbmckknafdgaa
open Go.RowKit Go.Shelf
set_option linter.unusedVariables false
set_option linter.unusedSimpArgs false
set_option maxRecDepth 100000
namespace Slot

theorem infoRefR : (Try.prog.info? 88).map (fun i => (i.zero, i.size, i.bytes)) = some (some (.agg #[.int .i64 0, .int .i64 0]), 2, 16) := by kernel_rfl
theorem refsT_succ (T : Tab) (i : Nat) : refsT (i + 1) T = refsT i T ++ (if T.taken.getD i false = true then [((i : Int), T.lives.getD i 0)] else []) := by
  rw [refsT, List.range_succ, List.filterMap_append]
  congr 1
  simp only [List.filterMap_cons, List.filterMap_nil]
  split <;> simp_all
theorem refsT_none (T : Tab) : refsT 0 T = [] := rfl

set_option maxHeartbeats 4000000 in
theorem RefsR_any (base : Nat → Prop) (n : Nat) (T : Tab) (vl vf vt : Value) (w : World) (h : StateAt base w vl vf vt n T) (hv : Valid n T) :
    Calls Try.prog 40 #[.agg #[vl, .int .i64 T.most, vf, vt]] w fun e w' => ∃ v, e = .returned v ∧ w'.ownsRow w.heap.size 88 2 v (refsT n T).length (refCells (refsT n T)) ∧ Below w.heap.size w w' := by
  have hn := hv.n
  obtain ⟨i0, hi, hz0, hz1, hz2⟩ := info_parts infoRefR
  have hB : Below w.heap.size w (w.alloc (.cells #[vl, .int .i64 T.most, vf, vt] 67)) := (Below.refl _ w).alloc (Nat.le_refl _) _
  have hb : BoxS (w.alloc (.cells #[vl, .int .i64 T.most, vf, vt] 67)) w.heap.size vl T.most vf vt := World.alloc_heap_new w _
  have h1 := h.below hB
  obtain ⟨af, cf, e'⟩ := h.free.form
  by_cases h0 : n = 0
  · obtain ⟨al, cl, e⟩ := h.lives.form
    obtain ⟨at_, ct, e''⟩ := h.taken.form
    subst h0 e e' e''
    clear h1 hv hb h
    go_enter Try.func40, Try.ntmps40
    go_wp2_with fail
    go_loopw [4, 3] (fun i v wr => i = .int .i64 0 ∧ v = .slice none 0 0 ∧ BoxS wr w.heap.size (.slice al 0 cl) T.most (.slice af T.free.length cf) (.slice at_ 0 ct) ∧ Below w.heap.size w wr) (fun _ _ _ => 0)
    case atStart => exact ⟨rfl, rfl, World.alloc_heap_new w _, hB⟩
    case round =>
      clear hB
      obtain ⟨rfl, rfl, hb, hB⟩ := hrel
      have q0 := hb.c0
      go_wp2_with fail
      go_ret
      exact ⟨_, rfl, World.ownsRow_nil _ _ _ _, hB⟩
  · obtain ⟨bl, ol, cl, f1, -, -, -, hcl⟩ := h1.lives.some (by omega)
    obtain ⟨bt, ot, ct, f2, -, -, -, hct⟩ := h1.taken.some (by omega)
    subst f1 f2 e'
    have HCL := Lib.hid (fun w' => CellsAt.below (w' := w') hcl)
    have HCT := Lib.hid (fun w' => CellsAt.below (w' := w') hct)
    have HBX := Lib.hid hb
    have HB := Lib.hid hB
    clear h h1 hv hb hcl hct hB
    have HLV := Lib.hid (show w.heap.size < (w.alloc (.cells #[.slice (some ⟨bl, ol, none⟩) n cl, .int .i64 T.most, .slice af T.free.length cf, .slice (some ⟨bt, ot, none⟩) n ct] 67)).heap.size from by simp)
    go_enter Try.func40, Try.ntmps40
    go_wp2_with fail
    generalize (w.alloc (.cells #[.slice (some ⟨bl, ol, none⟩) n cl, .int .i64 T.most, .slice af T.free.length cf, .slice (some ⟨bt, ot, none⟩) n ct] 67)) = W at *
    go_loopw [4, 3] (fun i v wr => ∃ j : Nat, j ≤ n ∧ i = .int .i64 j ∧ wr.ownsRow W.heap.size 88 2 v (refsT j T).length (refCells (refsT j T)) ∧ Below W.heap.size W wr) (fun i _ _ => n - (intOf i).toNat)
    case atStart => exact ⟨0, Nat.zero_le _, rfl, World.ownsRow_nil _ _ _ _, Below.refl _ _⟩
    case round =>
      obtain ⟨j, hj, rfl, hrow, hbw⟩ := hrel
      have hb := (hbw.block _ HBX.out.lt).trans HBX.out
      have q0 := BoxS.c0 hb
      have q3 := BoxS.c3 hb
      clear hb
      by_cases hlt : j < n
      · have hltI : (j : Int) < n := by omega
        have k0 := (HCL.out _ hbw).2 j hlt
        have k1 := (HCT.out _ hbw).2 j hlt
        simp only [lifeV, takenV] at k0 k1
        have hsu := refsT_succ T j
        have hle := refs_le j T
        generalize T.lives.getD j 0 = lf at *
        cases htk : T.taken.getD j false with
        | false =>
          rw [htk] at k1 hsu
          rw [if_neg (by simp), List.append_nil] at hsu
          have HSU := Lib.hid hsu
          clear hsu htk
          go_wp2_with fail
          go_roundw
          case rel => exact ⟨j + 1, by omega, by go_num, by rw [HSU.out]; exact hrow, hbw⟩
          case measure => simp [intOf]; omega
        | true =>
          rw [htk] at k1 hsu
          rw [if_pos rfl] at hsu
          have HSU := Lib.hid hsu
          have hz := hbw.size
          obtain ⟨wo, rfl⟩ : ∃ wo : World, wo = wr := ⟨_, rfl⟩
          clear hsu htk
          have HC := Lib.hid (cell_two wo (.int .i64 (j : Int)) (.int .i64 lf) 88)
          go_wp2_with (at_builtin; refine wpList_append_own _ rfl _ _ 91 rfl W.heap.size 88 i0 (.agg #[.int .i64 0, .int .i64 0]) 2 16 Try.underlying91 hi hz0 hz1 hz2 rfl (by decide) _ _ _ rfl (hrow.alloc _) ⟨wo.heap.size, 0, none⟩ 1 1 [.int .i64 (j : Int), .int .i64 lf] rfl rfl HC.out (by simp [Value.oneCell']) (by unfold maxLen; omega) (by omega) (by simp; omega) ?_; intro v' w4 hown' hgrow _)
          have m1 : Mod (fun k => W.heap.size ≤ k) wo w4 := ((Mod.refl _ wo).alloc _).trans ((Mod.of_grownBy hgrow).mono fun k _ hk => (hrow.lt k hk.symm).1)
          refine ⟨⟨j + 1, by omega, by simp, ?_, hbw.trans (m1.below hbw.size (fun k hk e => by omega))⟩, ?_⟩
          · rw [HSU.out, refCells_snoc, List.length_append]; exact hown'
          · simp [intOf]; omega
      · obtain rfl : j = n := by omega
        clear hlt hj
        obtain ⟨a1, c1, rfl⟩ := ownsRow_val hrow
        go_wp2_with fail
        go_ret
        exact ⟨_, rfl, ownsRow_base hrow (Nat.le_of_lt HLV.out), HB.out.trans (hbw.mono (Nat.le_of_lt HLV.out))⟩
end Slot
end Go.Proofs.Ytpcbmckknafdgaa
