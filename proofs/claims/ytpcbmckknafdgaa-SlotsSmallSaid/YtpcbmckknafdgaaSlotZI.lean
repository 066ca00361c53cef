/- The law SlotsSmall: as many places as there may be. -/
import Derived.Test.YtpcbmckknafdgaaSlotZH
import Derived.Test.YtpcbmckknafdgaaSlotI
namespace Go.Proofs.Ytpcbmckknafdgaa
open Go.RowKit Go.Shelf
set_option linter.unusedVariables false
set_option linter.unusedSimpArgs false
set_option maxRecDepth 100000
namespace Slot

set_option maxHeartbeats 4000000 in
theorem large_law (w : World) : Calls Try.prog 13 #[] w fun e w' => e = .returned (.bool true) ∧ Below w.heap.size w w' := by
  go_enter Try.func13, Try.ntmps13
  go_wp2_with fail
  refine (New_yes 1024 1 _ (by omega) (by omega)).mono ?_; rintro e w1 ⟨rfl, h1, hB1⟩
  have hlt := h1.lt
  obtain ⟨p, hp⟩ : ∃ p, p = w.heap.size + 1 := ⟨_, rfl⟩
  rw [← hp] at h1 hlt ⊢
  have hpw : w.heap.size < p := by omega
  clear hp
  have HT0 := Lib.hid (took_new 1024)
  have H1 := Lib.hid h1
  clear h1
  go_wp2_with fail
  have HW := Lib.hid (show w.heap.size < p ∧ Below w.heap.size w w1 ∧ p < w1.heap.size from ⟨hpw, hB1, hlt.1⟩)
  clear hlt hpw hB1
  go_loopw [25] (fun i wr => ∃ (j : Nat) (T : Tab), j ≤ 1024 ∧ i = .int .i64 j ∧ Hid (Took 1024 j T) ∧ TableAt wr p w.heap.size 1024 T ∧ Mod (fun k => k = p ∨ k = w.heap.size) w1 wr) (fun i _ => 1024 - (intOf i).toNat)
  case atStart => exact ⟨0, _, by omega, rfl, HT0.out, H1.out, Mod.refl _ _⟩
  case round =>
    obtain ⟨j, T, hj, rfl, HK, hT, hM⟩ := hrel
    obtain ⟨wo, rfl⟩ : ∃ wo : World, wo = wr := ⟨_, rfl⟩
    by_cases hlt : j < 1024
    · have hltI : (j : Int) < 1024 := by omega
      have HS := Lib.hid (took_step HK.out hlt)
      have C := Take_any p w.heap.size 1024 T wo hT
      rw [HS.out.1, HS.out.2.1, HS.out.2.2.1] at C
      have HC := Lib.hid C
      have HM := Lib.hid hM
      clear C hT hM
      go_wp2_with fail
      refine HC.out.mono ?_; rintro e w2 ⟨rfl, h2, m2⟩
      have ba : Below w2.heap.size w2 (w2.alloc (.cells #[.int .i64 (j : Int), .int .i64 1] 26)) := (Below.refl _ _).alloc (Nat.le_refl _) _
      have H2 := Lib.hid (h2.below ba)
      have HM2 := Lib.hid ((HM.out.trans m2).trans (Mod.of_same ba))
      clear ba h2 m2
      go_wp2_with fail
      go_roundw
      case rel => exact ⟨j + 1, _, by omega, by go_num, HS.out.2.2.2, H2.out, HM2.out⟩
      case measure => simp [intOf]; omega
    · obtain rfl : j = 1024 := by omega
      have HE := Lib.hid (took_end HK.out)
      have HV := Lib.hid (took_clear hT.2.1 HK.out)
      have HM := Lib.hid hM
      have C1 := Take_full p w.heap.size 1024 T wo hT HE.out.1
      have HC1 := Lib.hid C1
      have HT := Lib.hid hT
      clear C1 hT hM hlt hj
      go_wp2_with fail
      refine HC1.out.mono ?_; rintro e w2 ⟨rfl, hb2⟩
      have hb3 : Below wo.heap.size wo (w2.alloc (.cells #[.int .i64 0, .int .i64 0] 26)) := hb2.alloc hb2.size _
      have h3 := HT.out.below hb3
      have HM3 := Lib.hid (HM.out.trans (Mod.of_same hb3))
      go_wp2_with fail
      generalize w2.alloc (.cells #[.int .i64 0, .int .i64 0] 26) = w3 at *
      have C := Clear_any p w.heap.size 1024 T w3 h3
      rw [HE.out.2.1] at C
      have HC := Lib.hid C
      clear C h3 hb3 hb2
      refine HC.out.mono ?_; rintro e w4 ⟨rfl, h4, m4⟩
      have HC4 := Lib.hid (Take_full p w.heap.size 1024 _ w4 h4 HV.out.1)
      have HM4 := Lib.hid (HM3.out.trans m4)
      have H4 := Lib.hid h4
      clear h4 m4
      go_wp2_with fail
      refine HC4.out.mono ?_; rintro e w5 ⟨rfl, hb5⟩
      have hb6 : Below w4.heap.size w4 (w5.alloc (.cells #[.int .i64 0, .int .i64 0] 26)) := hb5.alloc hb5.size _
      have h6 := H4.out.below hb6
      have HM6 := Lib.hid (HM4.out.trans (Mod.of_same hb6))
      go_wp2_with fail
      generalize w5.alloc (.cells #[.int .i64 0, .int .i64 0] 26) = w6 at *
      have C := Counts_any p w.heap.size 1024 _ w6 h6
      rw [show countsT 1024 (clearT 1024 T) = (0, 0, 1024) from by rw [countsT, HV.out.1, HV.out.2]; rfl] at C
      have HC6 := Lib.hid C
      clear C h6 hb6 hb5
      refine HC6.out.mono ?_; rintro e w7 ⟨rfl, hb7⟩
      have HM7 := Lib.hid (HM6.out.trans (Mod.of_same hb7))
      clear hb7
      go_wp2_with fail
      go_ret
      refine ⟨rfl, ?_⟩
      obtain ⟨z1, z2, z3⟩ := HW.out
      exact z2.trans (HM7.out.below z2.size (fun k hk h => by omega))
end Slot
end Go.Proofs.Ytpcbmckknafdgaa
