/- The law TurnSmall returns true. -/
import Derived.Test.YtpgdlpocgfgnfaaTurnWheels
namespace Go.Proofs.Ytpgdlpocgfgnfaa
open Go.RowKit Go.Shelf
set_option linter.unusedVariables false
set_option maxRecDepth 100000
namespace Turn

theorem acts9 (w : World) (z : Int) (hz : -1 ≤ z ∧ z ≤ 20) : ∃ l, Acts (w.alloc (.cells #[.int .u8 2, .int .i64 z, .int .u8 0, .int .i64 0, .int .u8 1, .int .i64 0, .int .u8 3, .int .i64 z, .int .u8 0, .int .i64 0, .int .u8 0, .int .i64 0, .int .u8 0, .int .i64 0, .int .u8 2, .int .i64 0, .int .u8 2, .int .i64 1] 27)) (.slice (some ⟨w.heap.size, 0, none⟩) 9 9) l ∧ ActsWf l := by
  refine ⟨[(2, z), (0, 0), (1, 0), (3, z), (0, 0), (0, 0), (0, 0), (2, 0), (2, 1)], .inr (.inr ⟨_, 0, 9, rfl, by simp, by simp [maxLen], fun i x hx => ?_⟩), fun i x hx => ?_⟩
  · rcases i with _ | _ | _ | _ | _ | _ | _ | _ | _ | i <;> first | (simp at hx; subst hx; simp; done) | simp at hx
  · rcases i with _ | _ | _ | _ | _ | _ | _ | _ | _ | i <;> first | (simp at hx; subst hx; simp; done) | (simp at hx; subst hx; simp; omega) | simp at hx
theorem acts3 (w : World) (z y : Int) (hz : -9223372036854775808 ≤ z ∧ z ≤ 9223372036854775807) (hy : -9223372036854775808 ≤ y ∧ y ≤ 9223372036854775807) : ∃ l, Acts (w.alloc (.cells #[.int .u8 2, .int .i64 z, .int .u8 2, .int .i64 y, .int .u8 0, .int .i64 0] 27)) (.slice (some ⟨w.heap.size, 0, none⟩) 3 3) l ∧ ActsWf l := by
  refine ⟨[(2, z), (2, y), (0, 0)], .inr (.inr ⟨_, 0, 3, rfl, by simp, by simp [maxLen], fun i x hx => ?_⟩), fun i x hx => ?_⟩
  · rcases i with _ | _ | _ | i <;> first | (simp at hx; subst hx; simp; done) | simp at hx
  · rcases i with _ | _ | _ | i <;> first | (simp at hx; subst hx; simp; done) | (simp at hx; subst hx; exact ⟨by simp, hz⟩) | (simp at hx; subst hx; exact ⟨by simp, hy⟩) | simp at hx

def num16 : Nat → Int
  | 0 => -9223372036854775808
  | 1 => -1
  | 2 => 0
  | 3 => 1
  | 4 => 7
  | 5 => 8
  | 6 => 9
  | 7 => 137438953471
  | 8 => 137438953472
  | 9 => 137438953473
  | 10 => 1099511627768
  | 11 => 1099511627775
  | 12 => 1099511627776
  | 13 => 1099511627777
  | 14 => 2305843009213693953
  | 15 => 9223372036854775807
  | _ => 0
theorem num16_bd (k : Nat) : -9223372036854775808 ≤ num16 k ∧ num16 k ≤ 9223372036854775807 := by
  unfold num16
  split <;> omega
theorem num16_cell (w : World) (k : Nat) (hk : k < 16) : (w.alloc (.cells #[.int .i64 (-9223372036854775808), .int .i64 (-1), .int .i64 0, .int .i64 1, .int .i64 7, .int .i64 8, .int .i64 9, .int .i64 137438953471, .int .i64 137438953472, .int .i64 137438953473, .int .i64 1099511627768, .int .i64 1099511627775, .int .i64 1099511627776, .int .i64 1099511627777, .int .i64 2305843009213693953, .int .i64 9223372036854775807] 3)).cell? ⟨w.heap.size, k, none⟩ = some (.int .i64 (num16 k)) := by
  rw [World.cell?_alloc_new]
  rcases k with _ | _ | _ | _ | _ | _ | _ | _ | _ | _ | _ | _ | _ | _ | _ | _ | k
  all_goals first | rfl | omega

set_option maxHeartbeats 8000000 in
theorem lawSmall (w : World) : Calls Try.prog 5 #[] w fun e w' => e = .returned (.bool true) ∧ Below w.heap.size w w' := by
  go_enter Try.func5, Try.ntmps5
  go_wp2_with fail
  go_loopw [1, 2, 3, 4] (fun i _ _ _ wr => ∃ z : Int, -1 ≤ z ∧ z ≤ 10 ∧ i = .int .i64 z ∧ Below w.heap.size w wr) (fun i _ _ _ _ => (10 - intOf i).toNat)
  case atStart => exact ⟨-1, by omega, by omega, rfl, Below.refl _ _⟩
  case round =>
    obtain ⟨n, hn0, hn1, rfl, hB⟩ := hrel
    obtain ⟨wo, rfl⟩ : ∃ wo : World, wo = wr := ⟨_, rfl⟩
    by_cases hlt : n < 10
    · go_wp2_with fail
      go_loopw [2, 3, 4] (fun i _ _ wr => ∃ z : Int, -1 ≤ z ∧ z ≤ 20 ∧ i = .int .i64 z ∧ Below w.heap.size w wr) (fun i _ _ _ => (20 - intOf i).toNat)
      case atStart => exact ⟨-1, by omega, by omega, rfl, hB⟩
      case round =>
        obtain ⟨a, ha0, ha1, rfl, hB2⟩ := hrel
        obtain ⟨wo2, rfl⟩ : ∃ wo : World, wo = wr := ⟨_, rfl⟩
        by_cases hlt2 : a < 20
        · go_wp2_with fail
          go_loopw [3, 4] (fun i _ wr => ∃ z : Int, a - 1 ≤ z ∧ z ≤ a + 12 ∧ i = .int .i64 z ∧ Below w.heap.size w wr) (fun i _ _ => (a + 12 - intOf i).toNat)
          case atStart => exact ⟨a - 1, by omega, by omega, rfl, hB2⟩
          case round =>
            obtain ⟨b, hb0, hb1, rfl, hB3⟩ := hrel
            obtain ⟨wo3, rfl⟩ : ∃ wo : World, wo = wr := ⟨_, rfl⟩
            by_cases hlt3 : b < a + 12
            · go_wp2_with fail
              go_loopw [4] (fun i wr => ∃ z : Int, -1 ≤ z ∧ z ≤ 9 ∧ i = .int .i64 z ∧ Below w.heap.size w wr) (fun i _ => (9 - intOf i).toNat)
              case atStart => exact ⟨-1, by omega, by omega, rfl, hB3⟩
              case round =>
                obtain ⟨s, hs0, hs1, rfl, hB4⟩ := hrel
                by_cases hlt4 : s < 9
                · have hmod : (a + b).tmod 5 < 5 := Int.tmod_lt_of_pos _ (by omega)
                  have hmod' : (a + b).tmod 5 ≤ 9223372036854775807 := by omega
                  go_wp2_with (go_at_call 11; refine (tells_any _ _ _ _ _ hmod' _).mono ?_; rintro e w1 ⟨rfl, hb9⟩)
                  exact ⟨⟨s + 1, by omega, by omega, rfl, hB4.trans (hb9.mono hB4.size)⟩, by simp [intOf]; omega⟩
                · go_wp2_with fail
                  exact ⟨⟨b + 1, by omega, by omega, rfl, hB4⟩, by simp [intOf]; omega⟩
            · go_wp2_with fail
              obtain ⟨l, hl, hwf⟩ := acts9 wo3 a (by omega)
              have hB5 := hB3.alloc hB3.size (.cells #[.int .u8 2, .int .i64 a, .int .u8 0, .int .i64 0, .int .u8 1, .int .i64 0, .int .u8 3, .int .i64 a, .int .u8 0, .int .i64 0, .int .u8 0, .int .i64 0, .int .u8 0, .int .i64 0, .int .u8 2, .int .i64 0, .int .u8 2, .int .i64 1] 27)
              refine (wheels_any _ _ _ l _ hl hwf).mono ?_; rintro e w1 ⟨rfl, hb9⟩
              have hB6 := hB5.trans (hb9.mono hB5.size)
              clear hB5 hb9 hl hwf
              go_wp2_with fail
              exact ⟨⟨a + 1, by omega, by omega, rfl, hB6⟩, by simp [intOf]; omega⟩
        · go_wp2_with fail
          exact ⟨⟨n + 1, by omega, by omega, rfl, hB2⟩, by simp [intOf]; omega⟩
    · go_wp2_with fail
      have hnum := num16_cell wo
      have hB1 := hB.alloc hB.size (.cells #[.int .i64 (-9223372036854775808), .int .i64 (-1), .int .i64 0, .int .i64 1, .int .i64 7, .int .i64 8, .int .i64 9, .int .i64 137438953471, .int .i64 137438953472, .int .i64 137438953473, .int .i64 1099511627768, .int .i64 1099511627775, .int .i64 1099511627776, .int .i64 1099511627777, .int .i64 2305843009213693953, .int .i64 9223372036854775807] 3)
      have hBN : wo.heap.size < (wo.alloc (.cells #[.int .i64 (-9223372036854775808), .int .i64 (-1), .int .i64 0, .int .i64 1, .int .i64 7, .int .i64 8, .int .i64 9, .int .i64 137438953471, .int .i64 137438953472, .int .i64 137438953473, .int .i64 1099511627768, .int .i64 1099511627775, .int .i64 1099511627776, .int .i64 1099511627777, .int .i64 2305843009213693953, .int .i64 9223372036854775807] 3)).heap.size := by simp
      generalize wo.alloc (.cells #[.int .i64 (-9223372036854775808), .int .i64 (-1), .int .i64 0, .int .i64 1, .int .i64 7, .int .i64 8, .int .i64 9, .int .i64 137438953471, .int .i64 137438953472, .int .i64 137438953473, .int .i64 1099511627768, .int .i64 1099511627775, .int .i64 1099511627776, .int .i64 1099511627777, .int .i64 2305843009213693953, .int .i64 9223372036854775807] 3) = W1 at *
      have Hnum := Lib.hid hnum
      clear hnum hB hlt
      have hW1 : w.heap.size ≤ W1.heap.size := hB1.size
      go_loopw [65, 7, 71, 9, 75, 10] (fun i _ _ _ _ _ wr => ∃ k : Nat, k ≤ 16 ∧ i = .int .i64 k ∧ Below W1.heap.size W1 wr) (fun i _ _ _ _ _ _ => 16 - (intOf i).toNat)
      case atStart => exact ⟨0, by omega, rfl, Below.refl _ _⟩
      case round =>
        obtain ⟨k, hk, rfl, hC⟩ := hrel
        obtain ⟨wp, rfl⟩ : ∃ wp : World, wp = wr := ⟨_, rfl⟩
        by_cases hlt : k < 16
        · have hltI : (k : Int) < 16 := by omega
          have hck := (hC.cell (p := ⟨wo.heap.size, k, none⟩) hBN).trans (Hnum.out k hlt)
          obtain ⟨a1, a2⟩ := num16_bd k
          generalize num16 k = a at *
          go_wp2_with fail
          go_loopw [71, 9, 75, 10] (fun i _ _ _ wr => ∃ j : Nat, j ≤ 16 ∧ i = .int .i64 j ∧ Below W1.heap.size W1 wr) (fun i _ _ _ _ => 16 - (intOf i).toNat)
          case atStart => exact ⟨0, by omega, rfl, hC⟩
          case round =>
            obtain ⟨j, hj, rfl, hC2⟩ := hrel
            obtain ⟨wq, rfl⟩ : ∃ wq : World, wq = wr := ⟨_, rfl⟩
            by_cases hlt2 : j < 16
            · have hltJ : (j : Int) < 16 := by omega
              have hcj := (hC2.cell (p := ⟨wo.heap.size, j, none⟩) hBN).trans (Hnum.out j hlt2)
              obtain ⟨b1, b2⟩ := num16_bd j
              generalize num16 j = b at *
              go_wp2_with fail
              go_loopw [75, 10] (fun i _ wr => ∃ n : Nat, n ≤ 10 ∧ i = .int .i64 n ∧ Below W1.heap.size W1 wr) (fun i _ _ => 10 - (intOf i).toNat)
              case atStart => exact ⟨0, by omega, rfl, hC2⟩
              case round =>
                obtain ⟨n, hn, rfl, hC3⟩ := hrel
                by_cases hlt3 : n < 10
                · have hltN : (n : Int) < 10 := by omega
                  go_wp2_with fail
                  refine (tells_any _ _ _ _ _ b2 _).mono ?_; rintro e w1 ⟨rfl, hb1⟩
                  have hC4 := hC3.trans (hb1.mono hC3.size)
                  go_wp2_with fail
                  refine (tells_any _ _ _ _ _ a2 _).mono ?_; rintro e w2 ⟨rfl, hb2⟩
                  have hC5 := hC4.trans (hb2.mono hC4.size)
                  go_wp2_with fail
                  refine (tells_any _ _ _ _ _ b2 _).mono ?_; rintro e w3 ⟨rfl, hb3⟩
                  have hC6 := hC5.trans (hb3.mono hC5.size)
                  go_wp2_with fail
                  obtain ⟨l, hl, hwf⟩ := acts3 w3 a b ⟨a1, a2⟩ ⟨b1, b2⟩
                  have hC7 := hC6.alloc hC6.size (.cells #[.int .u8 2, .int .i64 a, .int .u8 2, .int .i64 b, .int .u8 0, .int .i64 0] 27)
                  refine (wheels_any _ _ _ l _ hl hwf).mono ?_; rintro e w4 ⟨rfl, hb4⟩
                  have hC8 := hC7.trans (hb4.mono hC7.size)
                  clear hb1 hb2 hb3 hb4 hC3 hC4 hC5 hC6 hC7 hl hwf
                  go_wp2_with fail
                  go_roundw
                  case rel => exact ⟨n + 1, by omega, by go_num, hC8⟩
                  case measure => simp [intOf]; omega
                · go_wp2_with fail
                  refine (tells_any _ _ _ _ _ (by omega) _).mono ?_; rintro e w1 ⟨rfl, hb1⟩
                  have hC4 := hC3.trans (hb1.mono hC3.size)
                  go_wp2_with fail
                  refine (tells_any _ _ _ _ _ b2 _).mono ?_; rintro e w2 ⟨rfl, hb2⟩
                  have hC5 := hC4.trans (hb2.mono hC4.size)
                  go_wp2_with fail
                  refine (wheels_any _ _ _ [] _ (.inl ⟨rfl, rfl⟩) (fun i x h => by simp at h)).mono ?_; rintro e w3 ⟨rfl, hb3⟩
                  have hC6 := hC5.trans (hb3.mono hC5.size)
                  clear hb1 hb2 hb3 hC3 hC4 hC5
                  go_wp2_with fail
                  go_roundw
                  case rel => exact ⟨j + 1, by omega, by go_num, hC6⟩
                  case measure => simp [intOf]; omega
            · go_wp2_with fail
              exact ⟨⟨k + 1, by omega, by go_num, hC2⟩, by simp [intOf]; omega⟩
        · go_wp2_with fail
          have z1 : WheelAt ((wp.alloc (.cells #[.int .i64 0, .int .i64 0] 31)).alloc (.cells #[.pointer none, .pointer (some ⟨wp.heap.size, 0, none⟩)] 29)) wp.heap.size 0 0 := (Boxed2.new wp 0 0).below ((Below.refl _ _).alloc (Nat.le_refl _) _)
          have z2 : ((wp.alloc (.cells #[.int .i64 0, .int .i64 0] 31)).alloc (.cells #[.pointer none, .pointer (some ⟨wp.heap.size, 0, none⟩)] 29)).cell? ⟨wp.heap.size + 1, 0, none⟩ = some (.pointer none) := by
            have h := World.cell?_alloc_new (wp.alloc (.cells #[.int .i64 0, .int .i64 0] 31)) #[.pointer none, .pointer (some ⟨wp.heap.size, 0, none⟩)] 29 0
            rw [World.size_alloc] at h
            exact h.trans rfl
          have z3 : ((wp.alloc (.cells #[.int .i64 0, .int .i64 0] 31)).alloc (.cells #[.pointer none, .pointer (some ⟨wp.heap.size, 0, none⟩)] 29)).cell? ⟨wp.heap.size + 1, 1, none⟩ = some (.pointer (some ⟨wp.heap.size, 0, none⟩)) := by
            have h := World.cell?_alloc_new (wp.alloc (.cells #[.int .i64 0, .int .i64 0] 31)) #[.pointer none, .pointer (some ⟨wp.heap.size, 0, none⟩)] 29 1
            rw [World.size_alloc] at h
            exact h.trans rfl
          have hD : Below w.heap.size w ((wp.alloc (.cells #[.int .i64 0, .int .i64 0] 31)).alloc (.cells #[.pointer none, .pointer (some ⟨wp.heap.size, 0, none⟩)] 29)) :=
            ((hB1.trans (hC.mono hW1)).alloc (by have := hC.size; omega) _).alloc (by have := hC.size; simp; omega) _
          have hs2 : wp.heap.size + 1 < ((wp.alloc (.cells #[.int .i64 0, .int .i64 0] 31)).alloc (.cells #[.pointer none, .pointer (some ⟨wp.heap.size, 0, none⟩)] 29)).heap.size := by simp
          generalize (wp.alloc (.cells #[.int .i64 0, .int .i64 0] 31)).alloc (.cells #[.pointer none, .pointer (some ⟨wp.heap.size, 0, none⟩)] 29) = W2 at *
          generalize wp.heap.size = B at *
          clear hC Hnum hBN hB1 hk hlt
          go_loopw [138, 12, 13, 14] (fun i _ _ _ wr => ∃ j : Nat, j ≤ 2 ∧ i = .int .i64 j ∧ Below W2.heap.size W2 wr) (fun i _ _ _ _ => 2 - (intOf i).toNat)
          case atStart => exact ⟨0, by omega, rfl, Below.refl _ _⟩
          case round =>
            obtain ⟨j, hj, rfl, hE⟩ := hrel
            have y1 : WheelAt wr B 0 0 := (hE.block B (by omega)).trans z1
            have y2 := (hE.cell (p := ⟨B + 1, 0, none⟩) hs2).trans z2
            have y3 := (hE.cell (p := ⟨B + 1, 1, none⟩) hs2).trans z3
            have hcase : j = 0 ∨ j = 1 ∨ j = 2 := by omega
            rcases hcase with rfl | rfl | rfl
            · go_wp2_with fail
              refine (Tick_nil _).mono ?_; rintro e v1 ⟨rfl, hb1⟩
              go_wp2_with fail
              refine (Skip_nil _ _).mono ?_; rintro e v2 ⟨rfl, hb2⟩
              go_wp2_with fail
              refine (Now_nil _).mono ?_; rintro e v3 ⟨rfl, hb3⟩
              go_wp2_with fail
              refine (Had_nil _ _).mono ?_; rintro e v4 ⟨rfl, hb4⟩
              go_wp2_with fail
              refine (Slots_nil _).mono ?_; rintro e v5 ⟨rfl, hb5⟩
              have c1 := hE.trans (hb1.mono hE.size)
              have c2 := c1.trans (hb2.mono c1.size)
              have c3 := c2.trans (hb3.mono c2.size)
              have c4 := c3.trans (hb4.mono c3.size)
              have c5 := c4.trans (hb5.mono c4.size)
              clear hb1 hb2 hb3 hb4 hb5 c1 c2 c3 c4 y1 y2 y3
              go_wp2_with fail
              go_roundw
              case rel => exact ⟨1, by omega, rfl, c5⟩
              case measure => simp [intOf]
            · go_wp2_with fail
              refine (Tick_zero B _ y1).mono ?_; rintro e v1 ⟨rfl, hb1⟩
              have y11 := y1.below hb1
              go_wp2_with fail
              refine (Skip_zero B _ _ y11).mono ?_; rintro e v2 ⟨rfl, hb2⟩
              have y12 := y11.below hb2
              go_wp2_with fail
              refine (Now_zero B _ y12).mono ?_; rintro e v3 ⟨rfl, hb3⟩
              have y13 := y12.below hb3
              go_wp2_with fail
              refine (Had_zero B _ _ y13).mono ?_; rintro e v4 ⟨rfl, hb4⟩
              have y14 := y13.below hb4
              go_wp2_with fail
              refine (Slots_zero B _ y14).mono ?_; rintro e v5 ⟨rfl, hb5⟩
              have c1 := hE.trans (hb1.mono hE.size)
              have c2 := c1.trans (hb2.mono c1.size)
              have c3 := c2.trans (hb3.mono c2.size)
              have c4 := c3.trans (hb4.mono c3.size)
              have c5 := c4.trans (hb5.mono c4.size)
              clear hb1 hb2 hb3 hb4 hb5 c1 c2 c3 c4 y1 y2 y3 y11 y12 y13 y14
              go_wp2_with fail
              go_roundw
              case rel => exact ⟨2, by omega, rfl, c5⟩
              case measure => simp [intOf]
            · go_wp2_with fail
              refine (awake_any _).mono ?_; rintro e v1 ⟨rfl, hb1⟩
              go_wp2_with fail
              go_ret
              have hd := hD.size
              exact ⟨rfl, (hD.trans (hE.mono hd)).trans (hb1.mono (Nat.le_trans hd hE.size))⟩
end Turn
end Go.Proofs.Ytpgdlpocgfgnfaa
