/- The functions of package turn with loops, and Need, Enough: each returns what its plain law says, for every int. -/
import Derived.Test.YtpgdlpocgfgnfaaTurnA
import Derived.Deep.LoopGhost
namespace Go.Proofs.Ytpgdlpocgfgnfaa
open Go.RowKit
namespace Turn

theorem Next_any (n a s : Int) (w : World) :
    Calls Try.prog 24 #[.int .i64 n, .int .i64 a, .int .i64 s] w fun e w' => e = .returned (.tuple #[.int .i64 (nextS n a s).1, .int .i64 (nextS n a s).2]) ∧ w = w' := by
  by_cases h : 1 ≤ n ∧ n ≤ 8 ∧ 0 ≤ s ∧ s < n
  · have hb := slotB_yes h
    obtain ⟨h1, h8, h0, hs⟩ := h
    by_cases h' : 0 ≤ a ∧ a ≤ a ∧ a ≤ 1099511627776
    · have hb' := boundsB_yes h'
      obtain ⟨ha, _, ham⟩ := h'
      obtain ⟨f1, f2⟩ := firstT_bd (a := a) (s := s) h1 h8
      have Hhit : Hid (firstT n a s % n = s) := firstT_hit h1 h8 h0 hs
      have Hmiss : Hid (∀ t, a ≤ t → t < firstT n a s → t % n ≠ s) := fun t => firstT_miss h1 h8
      go_enter Try.func24, Try.ntmps24
      go_wp2_with fail
      go_step3
      go_wp2_with (first | (go_at_call 40; refine (slot_any _ _ _).mono ?_; rintro e w' ⟨rfl, rfl⟩) | (go_at_call 38; refine (bounds_any _ _ _).mono ?_; rintro e w' ⟨rfl, rfl⟩))
      go_step3
      go_wp2
      go_loop [8] (fun t => ∃ k : Int, a ≤ k ∧ k ≤ firstT n a s ∧ t = .int .i64 k) (fun t => (firstT n a s - intOf t).toNat)
      case atStart => exact ⟨a, by omega, by omega, rfl⟩
      case round =>
        obtain ⟨k, hk1, hk2, rfl⟩ := hrel
        by_cases hk : k < firstT n a s
        · have hne : (k % n == s) = false := by simpa using Hmiss.out k hk1 hk
          go_wp2
          go_round
          case rel => exact ⟨k + 1, by omega, by omega, rfl⟩
          case measure => simp [intOf]; omega
        · obtain rfl : k = firstT n a s := by omega
          have hne : (firstT n a s % n == s) = true := by simpa using Hhit.out
          by_cases hm : firstT n a s < 1099511627776
          · go_wp2
            try rw [Exit.noGoto_ret]
            go_ret2
            exact ⟨ret_int2 (by rw [nextS, if_pos ⟨hb, hb'⟩, if_pos hm]), rfl⟩
          · go_wp2
            try rw [Exit.noGoto_ret]
            go_ret2
            exact ⟨ret_int2 (by rw [nextS, if_pos ⟨hb, hb'⟩, if_neg (by omega)]), rfl⟩
    · have hb' := boundsB_no h'
      go_enter Try.func24, Try.ntmps24
      go_wp2_with fail
      go_step3
      go_wp2_with (first | (go_at_call 40; refine (slot_any _ _ _).mono ?_; rintro e w' ⟨rfl, rfl⟩) | (go_at_call 38; refine (bounds_any _ _ _).mono ?_; rintro e w' ⟨rfl, rfl⟩))
      try rw [Exit.noGoto_ret]
      go_ret2
      exact ⟨ret_int2 (by rw [nextS, if_neg (by rw [hb']; simp)]), rfl⟩
  · have hb := slotB_no h
    go_enter Try.func24, Try.ntmps24
    go_wp2_with fail
    go_step3
    go_wp2_with (first | (go_at_call 40; refine (slot_any _ _ _).mono ?_; rintro e w' ⟨rfl, rfl⟩) | (go_at_call 38; refine (bounds_any _ _ _).mono ?_; rintro e w' ⟨rfl, rfl⟩))
    try rw [Exit.noGoto_ret]
    go_ret2
    exact ⟨ret_int2 (by rw [nextS, if_neg (by rw [hb]; simp)]), rfl⟩

theorem needS_of {n a s k : Int} (h1 : 1 ≤ n) (h8 : n ≤ 8) (_ : firstT n a s < 1099511627776) (_ : 1 ≤ k) :
    (k - 1 > (1099511627775 - firstT n a s) / n) ↔ ¬ (firstT n a s + (k - 1) * n + 1 ≤ 1099511627776) := by
  generalize firstT n a s = f at *
  rcases eight h1 h8 with rfl | rfl | rfl | rfl | rfl | rfl | rfl | rfl <;> omega
theorem needS_late {n a s k : Int} (h1 : 1 ≤ n) (hf : 1099511627776 ≤ firstT n a s) (hk : 1 ≤ k) : ¬ (firstT n a s + (k - 1) * n + 1 ≤ 1099511627776) := by
  have : 0 ≤ (k - 1) * n := Int.mul_nonneg (by omega) (by omega)
  omega
theorem quo_bd {x n : Int} (h1 : 1 ≤ n) (h0 : 0 ≤ x) : 0 ≤ x / n ∧ x / n ≤ x := by
  constructor
  · exact Int.ediv_nonneg h0 (by omega)
  · exact Int.ediv_le_self _ h0

theorem Need_any (n a s k : Int) (w : World) (hk : k ≤ 9223372036854775807) :
    Calls Try.prog 21 #[.int .i64 n, .int .i64 a, .int .i64 s, .int .i64 k] w fun e w' => e = .returned (.tuple #[.int .i64 (needS n a s k).1, .int .i64 (needS n a s k).2]) ∧ w = w' := by
  by_cases h : 1 ≤ n ∧ n ≤ 8 ∧ 0 ≤ s ∧ s < n
  · have hb := slotB_yes h
    obtain ⟨h1, h8, h0, hs⟩ := h
    by_cases h' : 0 ≤ a ∧ a ≤ a ∧ a ≤ 1099511627776
    · have hb' := boundsB_yes h'
      obtain ⟨ha, _, ham⟩ := h'
      by_cases hk0 : k < 0
      · go_enter Try.func21, Try.ntmps21
        go_wp2_with (first | (go_at_call 40; refine (slot_any _ _ _).mono ?_; rintro e w' ⟨rfl, rfl⟩) | (go_at_call 38; refine (bounds_any _ _ _).mono ?_; rintro e w' ⟨rfl, rfl⟩))
        go_ret2
        exact ⟨ret_int2 (by rw [needS, if_neg (by omega)]), rfl⟩
      · by_cases hk1 : k = 0
        · subst hk1
          go_enter Try.func21, Try.ntmps21
          go_wp2_with (first | (go_at_call 40; refine (slot_any _ _ _).mono ?_; rintro e w' ⟨rfl, rfl⟩) | (go_at_call 38; refine (bounds_any _ _ _).mono ?_; rintro e w' ⟨rfl, rfl⟩))
          go_ret2
          exact ⟨ret_int2 (by rw [needS, if_pos ⟨hb, hb', by omega⟩, if_pos rfl]), rfl⟩
        · obtain ⟨f1, f2⟩ := firstT_bd (a := a) (s := s) h1 h8
          by_cases hf : firstT n a s < 1099511627776
          · obtain ⟨q1, q2⟩ := quo_bd (x := 1099511627775 - firstT n a s) h1 (by omega)
            have Hn := Lib.hid (needS_of (a := a) (s := s) (k := k) h1 h8 hf (by omega))
            have Hx : Hid (nextS n a s = (firstT n a s, 0)) := by rw [Hid, nextS, if_pos ⟨hb, hb'⟩, if_pos hf]
            by_cases hq : k - 1 > (1099511627775 - firstT n a s) / n
            · go_enter Try.func21, Try.ntmps21
              go_wp2_with (first | (go_at_call 40; refine (slot_any _ _ _).mono ?_; rintro e w' ⟨rfl, rfl⟩) | (go_at_call 38; refine (bounds_any _ _ _).mono ?_; rintro e w' ⟨rfl, rfl⟩) | (go_at_call 24; refine (Next_any _ _ _ _).mono ?_; rintro e w' ⟨rfl, rfl⟩; rw [Hx.out]))
              go_ret2
              exact ⟨ret_int2 (by rw [needS, if_pos ⟨hb, hb', by omega⟩, if_neg hk1, if_neg (by have := Hn.out; omega)]), rfl⟩
            · have hm : firstT n a s + (k - 1) * n + 1 ≤ 1099511627776 := by
                have := Hn.out; omega
              have hp : 0 ≤ (k - 1) * n := Int.mul_nonneg (by omega) (by omega)
              go_enter Try.func21, Try.ntmps21
              go_wp2_with (first | (go_at_call 40; refine (slot_any _ _ _).mono ?_; rintro e w' ⟨rfl, rfl⟩) | (go_at_call 38; refine (bounds_any _ _ _).mono ?_; rintro e w' ⟨rfl, rfl⟩) | (go_at_call 24; refine (Next_any _ _ _ _).mono ?_; rintro e w' ⟨rfl, rfl⟩; rw [Hx.out]))
              go_ret2
              exact ⟨ret_int2 (by rw [needS, if_pos ⟨hb, hb', by omega⟩, if_neg hk1, if_pos (by omega)]), rfl⟩
          · have Hn := Lib.hid (needS_late (s := s) (k := k) h1 (Int.not_lt.1 hf) (by omega))
            have Hx : Hid (nextS n a s = (0, 5)) := by rw [Hid, nextS, if_pos ⟨hb, hb'⟩, if_neg hf]
            go_enter Try.func21, Try.ntmps21
            go_wp2_with (first | (go_at_call 40; refine (slot_any _ _ _).mono ?_; rintro e w' ⟨rfl, rfl⟩) | (go_at_call 38; refine (bounds_any _ _ _).mono ?_; rintro e w' ⟨rfl, rfl⟩) | (go_at_call 24; refine (Next_any _ _ _ _).mono ?_; rintro e w' ⟨rfl, rfl⟩; rw [Hx.out]))
            go_ret2
            exact ⟨ret_int2 (by rw [needS, if_pos ⟨hb, hb', by omega⟩, if_neg hk1, if_neg (by have := Hn.out; omega)]), rfl⟩
    · have hb' := boundsB_no h'
      go_enter Try.func21, Try.ntmps21
      go_wp2_with (first | (go_at_call 40; refine (slot_any _ _ _).mono ?_; rintro e w' ⟨rfl, rfl⟩) | (go_at_call 38; refine (bounds_any _ _ _).mono ?_; rintro e w' ⟨rfl, rfl⟩))
      go_ret2
      exact ⟨ret_int2 (by rw [needS, if_neg (by rw [hb']; simp)]), rfl⟩
  · have hb := slotB_no h
    go_enter Try.func21, Try.ntmps21
    go_wp2_with (first | (go_at_call 40; refine (slot_any _ _ _).mono ?_; rintro e w' ⟨rfl, rfl⟩) | (go_at_call 38; refine (bounds_any _ _ _).mono ?_; rintro e w' ⟨rfl, rfl⟩))
    go_ret2
    exact ⟨ret_int2 (by rw [needS, if_neg (by rw [hb]; simp)]), rfl⟩

theorem enough_iff {n k : Int} (h1 : 1 ≤ n) (h8 : n ≤ 8) : (k ≤ 1099511627776 / n) ↔ n * k ≤ 1099511627776 := by
  rcases eight h1 h8 with rfl | rfl | rfl | rfl | rfl | rfl | rfl | rfl <;> omega

theorem Enough_any (n k : Int) (w : World) :
    Calls Try.prog 19 #[.int .i64 n, .int .i64 k] w fun e w' => e = .returned (.tuple #[.int .i64 (enoughS n k).1, .int .i64 (enoughS n k).2]) ∧ w = w' := by
  by_cases h : 1 ≤ n ∧ n ≤ 8
  · have hb := slotsB_yes h
    obtain ⟨h1, h8⟩ := h
    by_cases h0 : 0 ≤ k
    · have He := Lib.hid (enough_iff (k := k) h1 h8)
      obtain ⟨q1, q2⟩ := quo_bd (x := 1099511627776) h1 (by omega)
      by_cases ht : k ≤ 1099511627776 / n
      · have hm := He.out.1 ht
        have hp : 0 ≤ n * k := Int.mul_nonneg (by omega) h0
        go_enter Try.func19, Try.ntmps19
        go_wp2_with (go_at_call 37; refine (slots_any _ _).mono ?_; rintro e w' ⟨rfl, rfl⟩)
        go_ret2
        exact ⟨ret_int2 (by rw [enoughS, if_pos ⟨h1, h8, h0⟩, if_pos (by omega)]), rfl⟩
      · go_enter Try.func19, Try.ntmps19
        go_wp2_with (go_at_call 37; refine (slots_any _ _).mono ?_; rintro e w' ⟨rfl, rfl⟩)
        go_ret2
        exact ⟨ret_int2 (by rw [enoughS, if_pos ⟨h1, h8, h0⟩, if_neg (by have := He.out; omega)]), rfl⟩
    · go_enter Try.func19, Try.ntmps19
      go_wp2_with (go_at_call 37; refine (slots_any _ _).mono ?_; rintro e w' ⟨rfl, rfl⟩)
      go_ret2
      exact ⟨ret_int2 (by rw [enoughS, if_neg (by omega)]), rfl⟩
  · have hb := slotsB_no h
    go_enter Try.func19, Try.ntmps19
    go_wp2_with (go_at_call 37; refine (slots_any _ _).mono ?_; rintro e w' ⟨rfl, rfl⟩)
    go_ret2
    exact ⟨ret_int2 (by rw [enoughS, if_neg (by omega)]), rfl⟩

end Turn
end Go.Proofs.Ytpgdlpocgfgnfaa
