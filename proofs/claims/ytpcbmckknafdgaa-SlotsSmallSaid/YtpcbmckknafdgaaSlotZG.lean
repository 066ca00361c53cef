/- The law SlotsSmall: tables that are none. -/
import Derived.Test.YtpcbmckknafdgaaSlotZF
namespace Go.Proofs.Ytpcbmckknafdgaa
open Go.RowKit Go.Shelf
set_option linter.unusedVariables false
set_option linter.unusedSimpArgs false
set_option maxRecDepth 100000
namespace Slot

set_option maxHeartbeats 4000000 in
theorem none_law (w : World) : Calls Try.prog 14 #[] w fun e w' => e = .returned (.bool true) ∧ Below w.heap.size w w' := by
  have hB1 : Below w.heap.size w ((w.alloc (.cells #[.slice none 0 0, .int .i64 0, .int .i64 0] 74)).alloc (.cells #[.pointer none, .pointer (some ⟨w.heap.size, 0, none⟩)] 33)) := ((Below.refl _ w).alloc (Nat.le_refl _) _).alloc (by simp) _
  have hz : ((w.alloc (.cells #[.slice none 0 0, .int .i64 0, .int .i64 0] 74)).alloc (.cells #[.pointer none, .pointer (some ⟨w.heap.size, 0, none⟩)] 33)).heap.size = w.heap.size + 1 + 1 := by simp
  have h0 : ((w.alloc (.cells #[.slice none 0 0, .int .i64 0, .int .i64 0] 74)).alloc (.cells #[.pointer none, .pointer (some ⟨w.heap.size, 0, none⟩)] 33)).heap[w.heap.size]? = some (.cells #[.slice none 0 0, .int .i64 0, .int .i64 0] 74 (0, 0)) := (Below.heap_alloc _ _ _ (by simp)).trans (World.alloc_heap_new w _)
  have h1 : ((w.alloc (.cells #[.slice none 0 0, .int .i64 0, .int .i64 0] 74)).alloc (.cells #[.pointer none, .pointer (some ⟨w.heap.size, 0, none⟩)] 33)).heap[w.heap.size + 1]? = some (.cells #[.pointer none, .pointer (some ⟨w.heap.size, 0, none⟩)] 33 (0, 0)) := by
    have := World.alloc_heap_new (w.alloc (.cells #[.slice none 0 0, .int .i64 0, .int .i64 0] 74)) (.cells #[.pointer none, .pointer (some ⟨w.heap.size, 0, none⟩)] 33)
    simpa using this
  go_enter Try.func14, Try.ntmps14
  go_wp2_with fail
  generalize ((w.alloc (.cells #[.slice none 0 0, .int .i64 0, .int .i64 0] 74)).alloc (.cells #[.pointer none, .pointer (some ⟨w.heap.size, 0, none⟩)] 33)) = W at *
  have HW := Lib.hid (show W.heap.size = w.heap.size + 1 + 1 ∧ Below w.heap.size w W ∧ W.heap[w.heap.size]? = some (.cells #[.slice none 0 0, .int .i64 0, .int .i64 0] 74 (0, 0)) ∧ W.heap[w.heap.size + 1]? = some (.cells #[.pointer none, .pointer (some ⟨w.heap.size, 0, none⟩)] 33 (0, 0)) from ⟨hz, hB1, h0, h1⟩)
  clear hz hB1 h0 h1
  go_loopw [18] (fun i wr => ∃ (j : Nat), j ≤ 2 ∧ i = .int .i64 j ∧ Below W.heap.size W wr) (fun i _ => 2 - (intOf i).toNat)
  case atStart => exact ⟨0, by omega, rfl, Below.refl _ _⟩
  case round =>
    obtain ⟨j, hj, rfl, hB⟩ := hrel
    obtain ⟨wo, rfl⟩ : ∃ wo : World, wo = wr := ⟨_, rfl⟩
    by_cases hlt : j < 2
    · have hltI : (j : Int) < 2 := by omega
      obtain ⟨pa, hc, hv⟩ : ∃ pa, wo.cell? ⟨w.heap.size + 1, j, none⟩ = some (.pointer pa) ∧ NoTab wo (.pointer pa) := by
        obtain ⟨z, _, g0, g1⟩ := HW.out
        have k0 := (hB.block w.heap.size (by omega)).trans g0
        have k1 := (hB.block (w.heap.size + 1) (by omega)).trans g1
        rcases (show j = 0 ∨ j = 1 by omega) with rfl | rfl
        · exact ⟨none, by simp [World.cell?, k1], .inl rfl⟩
        · exact ⟨_, by simp [World.cell?, k1], .inr ⟨_, rfl, k0⟩⟩
      have HV := Lib.hid hv
      have HB := Lib.hid hB
      clear hv hB
      go_wp2_with fail
      refine (Take_none _ _ HV.out).mono ?_; rintro e w1 ⟨rfl, hb1⟩
      have HV1 := Lib.hid (HV.out.below hb1)
      have HB1 := Lib.hid (HB.out.trans (hb1.mono HB.out.size))
      clear hb1
      have hz1 : w1.heap.size ≤ w1.heap.size := Nat.le_refl _
      have ba : Below w1.heap.size w1 (w1.alloc (.cells #[.int .i64 0, .int .i64 0] 26)) := (Below.refl _ _).alloc (Nat.le_refl _) _
      have HV2 := Lib.hid (HV1.out.below ba)
      have HB2 := Lib.hid (HB1.out.trans (ba.mono HB1.out.size))
      clear ba hz1 HV HB
      go_wp2_with fail
      generalize w1.alloc (.cells #[.int .i64 0, .int .i64 0] 26) = w2 at *
      refine (Clear_none _ _ HV2.out).mono ?_; rintro e w' ⟨rfl, rfl⟩
      go_wp2_with fail
      refine (Next_none _ _ HV2.out).mono ?_; rintro e w3 ⟨rfl, hb3⟩
      have bb : Below w2.heap.size w2 (w3.alloc (.cells #[.int .i64 0, .int .i64 0] 26)) := hb3.alloc hb3.size _
      have HV3 := Lib.hid (HV2.out.below bb)
      have HB3 := Lib.hid (HB2.out.trans (bb.mono HB2.out.size))
      clear hb3 bb HV1 HB1
      go_wp2_with fail
      generalize w3.alloc (.cells #[.int .i64 0, .int .i64 0] 26) = w4 at *
      refine (Look_none _ _ _ HV3.out).mono ?_; rintro e w' ⟨rfl, rfl⟩
      go_wp2_with fail
      refine (Counts_none _ _ HV3.out).mono ?_; rintro e w' ⟨rfl, rfl⟩
      go_wp2_with fail
      refine (Give_none _ _ _ _ HV3.out).mono ?_; rintro e w5 ⟨rfl, hb5⟩
      have HV5 := Lib.hid (HV3.out.below hb5)
      have HB5 := Lib.hid (HB3.out.trans (hb5.mono HB3.out.size))
      clear hb5 HV2 HB2
      go_wp2_with fail
      refine (Live_none _ _ _ _ HV5.out).mono ?_; rintro e w6 ⟨rfl, hb6⟩
      have HV6 := Lib.hid (HV5.out.below hb6)
      have HB6 := Lib.hid (HB5.out.trans (hb6.mono HB5.out.size))
      clear hb6 HV3 HB3
      go_wp2_with fail
      refine (Refs_none _ _ HV6.out).mono ?_; rintro e w' ⟨rfl, rfl⟩
      go_wp2_with fail
      refine (Free_none _ _ HV6.out).mono ?_; rintro e w' ⟨rfl, rfl⟩
      go_wp2_with fail
      go_roundw
      case rel => exact ⟨j + 1, by omega, by go_num, HB6.out⟩
      case measure => simp [intOf]; omega
    · obtain rfl : j = 2 := by omega
      have hB2 := HW.out.2.1.trans (hB.mono HW.out.2.1.size)
      clear hB hlt
      go_wp2_with fail
      go_ret
      exact ⟨rfl, hB2⟩
end Slot
end Go.Proofs.Ytpcbmckknafdgaa
