/- The functions of the reference of layer 39: each returns what the plain law of package turn says, for every int. -/
import Derived.Test.YtpgdlpocgfgnfaaTurnB
namespace Go.Proofs.Ytpgdlpocgfgnfaa
open Go.RowKit
namespace Turn
set_option linter.unusedVariables false
theorem rslots_any (n : Int) (w : World) :
    Calls Try.prog 42 #[.int .i64 n] w fun e w' => e = .returned (.bool (slotsB n)) ∧ w = w' := by
  by_cases h : 0 < n
  · go_enter Try.func42, Try.ntmps42
    go_wp2
    go_ret
    exact ⟨ret_bool (by simp [slotsB]; omega), rfl⟩
  · go_enter Try.func42, Try.ntmps42
    go_wp2
    go_ret
    exact ⟨ret_bool (by rw [slotsB_no (by omega)]), rfl⟩

theorem rslot_any (n s : Int) (w : World) :
    Calls Try.prog 43 #[.int .i64 n, .int .i64 s] w fun e w' => e = .returned (.bool (slotB n s)) ∧ w = w' := by
  by_cases h : 1 ≤ n ∧ n ≤ 8
  · have hb := slotsB_yes h
    by_cases h0 : 0 ≤ s
    · go_enter Try.func43, Try.ntmps43
      go_wp2_with (go_at_call 42; refine (rslots_any _ _).mono ?_; rintro e w' ⟨rfl, rfl⟩)
      go_ret
      exact ⟨ret_bool (by simp [slotB, h, h0]), rfl⟩
    · go_enter Try.func43, Try.ntmps43
      go_wp2_with (go_at_call 42; refine (rslots_any _ _).mono ?_; rintro e w' ⟨rfl, rfl⟩)
      go_ret
      exact ⟨ret_bool (by rw [slotB_no (by omega)]), rfl⟩
  · have hb := slotsB_no h
    go_enter Try.func43, Try.ntmps43
    go_wp2_with (go_at_call 42; refine (rslots_any _ _).mono ?_; rintro e w' ⟨rfl, rfl⟩)
    go_ret
    exact ⟨ret_bool (by rw [slotB_no (by omega)]), rfl⟩

theorem rticks_any (a b : Int) (w : World) :
    Calls Try.prog 44 #[.int .i64 a, .int .i64 b] w fun e w' => e = .returned (.bool (boundsB a b)) ∧ w = w' := by
  by_cases h0 : 0 ≤ a
  · by_cases h1 : a ≤ b
    · go_enter Try.func44, Try.ntmps44
      go_wp2
      go_ret
      exact ⟨ret_bool (by simp [boundsB, h0, h1]), rfl⟩
    · go_enter Try.func44, Try.ntmps44
      go_wp2
      go_ret
      exact ⟨ret_bool (by rw [boundsB_no (by omega)]), rfl⟩
  · go_enter Try.func44, Try.ntmps44
    go_wp2
    go_ret
    exact ⟨ret_bool (by rw [boundsB_no (by omega)]), rfl⟩

theorem mod_as {n t : Int} (h1 : 1 ≤ n) (h8 : n ≤ 8) (h0 : 0 ≤ t) : t - t / n * n = t % n ∧ 0 ≤ t / n * n ∧ t / n * n ≤ t := by
  rcases eight h1 h8 with rfl | rfl | rfl | rfl | rfl | rfl | rfl | rfl <;> omega

theorem rSlot_any (n t : Int) (w : World) :
    Calls Try.prog 26 #[.int .i64 n, .int .i64 t] w fun e w' => e = .returned (.tuple #[.int .i64 (slotS n t).1, .int .i64 (slotS n t).2]) ∧ w = w' := by
  by_cases h : 1 ≤ n ∧ n ≤ 8
  · have hb := slotsB_yes h
    obtain ⟨h1, h8⟩ := h
    by_cases h0 : 0 ≤ t
    · by_cases ht : t < 1099511627776
      · obtain ⟨m1, m2, m3⟩ := mod_as h1 h8 h0
        obtain ⟨q1, q2⟩ := quo_bd h1 h0
        have M1 := Lib.hid m1
        clear m1
        go_enter Try.func26, Try.ntmps26
        go_wp2_with (first | (go_at_call 42; refine (rslots_any _ _).mono ?_; rintro e w' ⟨rfl, rfl⟩) | (go_at_call 43; refine (rslot_any _ _ _).mono ?_; rintro e w' ⟨rfl, rfl⟩) | (go_at_call 44; refine (rticks_any _ _ _).mono ?_; rintro e w' ⟨rfl, rfl⟩))
        go_ret2
        exact ⟨ret_int2 (by rw [slotS, if_pos ⟨h1, h8, h0, ht⟩, M1.out]), rfl⟩
      · go_enter Try.func26, Try.ntmps26
        go_wp2_with (first | (go_at_call 42; refine (rslots_any _ _).mono ?_; rintro e w' ⟨rfl, rfl⟩) | (go_at_call 43; refine (rslot_any _ _ _).mono ?_; rintro e w' ⟨rfl, rfl⟩) | (go_at_call 44; refine (rticks_any _ _ _).mono ?_; rintro e w' ⟨rfl, rfl⟩))
        go_ret2
        exact ⟨ret_int2 (by rw [slotS, if_neg (by omega)]), rfl⟩
    · go_enter Try.func26, Try.ntmps26
      go_wp2_with (first | (go_at_call 42; refine (rslots_any _ _).mono ?_; rintro e w' ⟨rfl, rfl⟩) | (go_at_call 43; refine (rslot_any _ _ _).mono ?_; rintro e w' ⟨rfl, rfl⟩) | (go_at_call 44; refine (rticks_any _ _ _).mono ?_; rintro e w' ⟨rfl, rfl⟩))
      go_ret2
      exact ⟨ret_int2 (by rw [slotS, if_neg (by omega)]), rfl⟩
  · have hb := slotsB_no h
    go_enter Try.func26, Try.ntmps26
    go_wp2_with (first | (go_at_call 42; refine (rslots_any _ _).mono ?_; rintro e w' ⟨rfl, rfl⟩) | (go_at_call 43; refine (rslot_any _ _ _).mono ?_; rintro e w' ⟨rfl, rfl⟩) | (go_at_call 44; refine (rticks_any _ _ _).mono ?_; rintro e w' ⟨rfl, rfl⟩))
    go_ret2
    exact ⟨ret_int2 (by rw [slotS, if_neg (by omega)]), rfl⟩

theorem rt_start {n a b s : Int} (h1 : 1 ≤ n) (h8 : n ≤ 8) (h0 : 0 ≤ s) (hs : s < n) (ha : 0 ≤ a) (hab : a ≤ b) :
    (b - a) / n = cnt n (a + (b - a) / n * n) s - cnt n a s ∧ a ≤ a + (b - a) / n * n ∧ a + (b - a) / n * n ≤ b ∧ 0 ≤ (b - a) / n * n ∧ 0 ≤ (b - a) / n ∧ (b - a) / n ≤ b - a := by
  unfold cnt
  rcases eight h1 h8 with rfl | rfl | rfl | rfl | rfl | rfl | rfl | rfl <;> omega

theorem rTurns_any (n a b s : Int) (w : World) :
    Calls Try.prog 27 #[.int .i64 n, .int .i64 a, .int .i64 b, .int .i64 s] w fun e w' => e = .returned (.tuple #[.int .i64 (turnsS n a b s).1, .int .i64 (turnsS n a b s).2]) ∧ w = w' := by
  by_cases h : 1 ≤ n ∧ n ≤ 8 ∧ 0 ≤ s ∧ s < n
  · have hb := slotB_yes h
    obtain ⟨h1, h8, h0, hs⟩ := h
    by_cases h' : 0 ≤ a ∧ a ≤ b ∧ b ≤ 1099511627776
    · have hb' := boundsB_yes h'
      obtain ⟨ha, hab, hbm⟩ := h'
      obtain ⟨c1, c2, c3, c4, c5, c6⟩ := rt_start (s := s) h1 h8 h0 hs ha hab
      have C1 := Lib.hid c1
      clear c1
      have Hsucc : Hid (∀ t, cnt n (t + 1) s = cnt n t s + if t % n = s then 1 else 0) := fun t => cnt_succ h1 h8 h0 hs
      have Hbd : Hid (∀ t, a ≤ t → 0 ≤ cnt n t s - cnt n a s ∧ cnt n t s ≤ t + 8 ∧ 0 ≤ cnt n a s) := fun t ht => ⟨by have := cnt_mono (s := s) h1 h8 ht; omega, (cnt_bd h1 h8 h0 hs (by omega)).2, (cnt_bd h1 h8 h0 hs ha).1⟩
      go_enter Try.func27, Try.ntmps27
      go_wp2_with (first | (go_at_call 42; refine (rslots_any _ _).mono ?_; rintro e w' ⟨rfl, rfl⟩) | (go_at_call 43; refine (rslot_any _ _ _).mono ?_; rintro e w' ⟨rfl, rfl⟩) | (go_at_call 44; refine (rticks_any _ _ _).mono ?_; rintro e w' ⟨rfl, rfl⟩))
      go_loop [10, 11] (fun k t => ∃ i : Int, a ≤ i ∧ i ≤ b ∧ t = .int .i64 i ∧ k = .int .i64 (cnt n i s - cnt n a s)) (fun _ t => (b - intOf t).toNat)
      case atStart => exact ⟨_, c2, c3, rfl, by rw [← C1.out]⟩
      case round =>
        obtain ⟨i, hi1, hi2, rfl, rfl⟩ := hrel
        obtain ⟨d1, d2, d3⟩ := Hbd.out i hi1
        by_cases hi : i < b
        · by_cases hit : i % n = s
          · have hq : (i % n == s) = true := by simpa using hit
            have HS : Hid (cnt n (i + 1) s - cnt n a s = cnt n i s - cnt n a s + 1) := by have := Hsucc.out i; rw [if_pos hit] at this; rw [Hid, this]; omega
            clear hit
            go_wp2
            go_round
            case rel => exact ⟨i + 1, by omega, by omega, rfl, by rw [HS.out]⟩
            case measure => simp [intOf]; omega
          · have hq : (i % n == s) = false := by simpa using hit
            have HS : Hid (cnt n (i + 1) s - cnt n a s = cnt n i s - cnt n a s) := by have := Hsucc.out i; rw [if_neg hit] at this; rw [Hid, this]; omega
            clear hit
            go_wp2
            go_round
            case rel => exact ⟨i + 1, by omega, by omega, rfl, by rw [HS.out]⟩
            case measure => simp [intOf]; omega
        · obtain rfl : i = b := by omega
          go_wp2
          go_ret2
          exact ⟨ret_int2 (by rw [turnsS, if_pos ⟨hb, hb'⟩]), rfl⟩
    · have hb' := boundsB_no h'
      go_enter Try.func27, Try.ntmps27
      go_wp2_with (first | (go_at_call 42; refine (rslots_any _ _).mono ?_; rintro e w' ⟨rfl, rfl⟩) | (go_at_call 43; refine (rslot_any _ _ _).mono ?_; rintro e w' ⟨rfl, rfl⟩) | (go_at_call 44; refine (rticks_any _ _ _).mono ?_; rintro e w' ⟨rfl, rfl⟩))
      go_ret2
      exact ⟨ret_int2 (by rw [turnsS, if_neg (by rw [hb']; simp)]), rfl⟩
  · have hb := slotB_no h
    go_enter Try.func27, Try.ntmps27
    go_wp2_with (first | (go_at_call 42; refine (rslots_any _ _).mono ?_; rintro e w' ⟨rfl, rfl⟩) | (go_at_call 43; refine (rslot_any _ _ _).mono ?_; rintro e w' ⟨rfl, rfl⟩) | (go_at_call 44; refine (rticks_any _ _ _).mono ?_; rintro e w' ⟨rfl, rfl⟩))
    go_ret2
    exact ⟨ret_int2 (by rw [turnsS, if_neg (by rw [hb]; simp)]), rfl⟩

theorem big_k {n a s k : Int} (h1 : 1 ≤ n) (h8 : n ≤ 8) (ha : 0 ≤ a) (hk : 1099511627776 < k) : ¬ (firstT n a s + (k - 1) * n + 1 ≤ 1099511627776) := by
  have := (firstT_bd (a := a) (s := s) h1 h8).1
  rcases eight h1 h8 with rfl | rfl | rfl | rfl | rfl | rfl | rfl | rfl <;> omega
theorem mul_bd {n k : Int} (h1 : 1 ≤ n) (h8 : n ≤ 8) (hk : 1 ≤ k) (hk2 : k ≤ 1099511627776) : 0 ≤ (k - 1) * n ∧ (k - 1) * n ≤ 8796093022208 := by
  rcases eight h1 h8 with rfl | rfl | rfl | rfl | rfl | rfl | rfl | rfl <;> omega

theorem rNeed_any (n a s k : Int) (w : World) (hk : k ≤ 9223372036854775807) :
    Calls Try.prog 30 #[.int .i64 n, .int .i64 a, .int .i64 s, .int .i64 k] w fun e w' => e = .returned (.tuple #[.int .i64 (needS n a s k).1, .int .i64 (needS n a s k).2]) ∧ w = w' := by
  by_cases h : 1 ≤ n ∧ n ≤ 8 ∧ 0 ≤ s ∧ s < n
  · have hb := slotB_yes h
    obtain ⟨h1, h8, h0, hs⟩ := h
    by_cases h' : 0 ≤ a ∧ a ≤ a ∧ a ≤ 1099511627776
    · have hb' := boundsB_yes h'
      obtain ⟨ha, _, ham⟩ := h'
      by_cases hk0 : k < 0
      · go_enter Try.func30, Try.ntmps30
        go_wp2_with (first | (go_at_call 42; refine (rslots_any _ _).mono ?_; rintro e w' ⟨rfl, rfl⟩) | (go_at_call 43; refine (rslot_any _ _ _).mono ?_; rintro e w' ⟨rfl, rfl⟩) | (go_at_call 44; refine (rticks_any _ _ _).mono ?_; rintro e w' ⟨rfl, rfl⟩))
        go_ret2
        exact ⟨ret_int2 (by rw [needS, if_neg (by omega)]), rfl⟩
      · by_cases hk1 : k = 0
        · subst hk1
          go_enter Try.func30, Try.ntmps30
          go_wp2_with (first | (go_at_call 42; refine (rslots_any _ _).mono ?_; rintro e w' ⟨rfl, rfl⟩) | (go_at_call 43; refine (rslot_any _ _ _).mono ?_; rintro e w' ⟨rfl, rfl⟩) | (go_at_call 44; refine (rticks_any _ _ _).mono ?_; rintro e w' ⟨rfl, rfl⟩))
          go_ret2
          exact ⟨ret_int2 (by rw [needS, if_pos ⟨hb, hb', by omega⟩, if_pos rfl]), rfl⟩
        · by_cases hk2 : 1099511627776 < k
          · have Hb := Lib.hid (big_k (s := s) h1 h8 ha hk2)
            go_enter Try.func30, Try.ntmps30
            go_wp2_with (first | (go_at_call 42; refine (rslots_any _ _).mono ?_; rintro e w' ⟨rfl, rfl⟩) | (go_at_call 43; refine (rslot_any _ _ _).mono ?_; rintro e w' ⟨rfl, rfl⟩) | (go_at_call 44; refine (rticks_any _ _ _).mono ?_; rintro e w' ⟨rfl, rfl⟩))
            go_ret2
            exact ⟨ret_int2 (by rw [needS, if_pos ⟨hb, hb', by omega⟩, if_neg hk1, if_neg (by have := Hb.out; omega)]), rfl⟩
          · obtain ⟨f1, f2⟩ := firstT_bd (a := a) (s := s) h1 h8
            obtain ⟨p1, p2⟩ := mul_bd (k := k) h1 h8 (by omega) (by omega)
            have Hhit : Hid (firstT n a s % n = s) := firstT_hit h1 h8 h0 hs
            have Hmiss : Hid (∀ t, a ≤ t → t < firstT n a s → t % n ≠ s) := fun t => firstT_miss h1 h8
            have hN : needS n a s k = if firstT n a s + (k - 1) * n + 1 ≤ 1099511627776 then (firstT n a s + (k - 1) * n + 1 - a, 0) else (0, 5) := by
              rw [needS, if_pos ⟨hb, hb', by omega⟩, if_neg hk1]
            have HN := Lib.hid hN
            clear hN
            go_enter Try.func30, Try.ntmps30
            go_wp2_with (first | (go_at_call 42; refine (rslots_any _ _).mono ?_; rintro e w' ⟨rfl, rfl⟩) | (go_at_call 43; refine (rslot_any _ _ _).mono ?_; rintro e w' ⟨rfl, rfl⟩) | (go_at_call 44; refine (rticks_any _ _ _).mono ?_; rintro e w' ⟨rfl, rfl⟩))
            go_loop [10, 11] (fun m t => ∃ i : Int, a ≤ i ∧ i ≤ firstT n a s ∧ t = .int .i64 i ∧ m = .int .i64 ((k - 1) * n + (i - a))) (fun _ t => (firstT n a s - intOf t).toNat)
            case atStart => exact ⟨a, by omega, by omega, rfl, by rw [Int.sub_self, Int.add_zero]⟩
            case round =>
              obtain ⟨i, hi1, hi2, rfl, rfl⟩ := hrel
              by_cases hi : i < firstT n a s
              · have hq : (i % n != s) = true := by simpa using Hmiss.out i hi1 hi
                have hq' : (i % n == s) = false := by simpa using Hmiss.out i hi1 hi
                go_wp2
                go_round
                case rel => exact ⟨i + 1, by omega, by omega, rfl, by congr 1; omega⟩
                case measure => simp [intOf]; omega
              · obtain rfl : i = firstT n a s := by omega
                have hq : (firstT n a s % n != s) = false := by simpa using Hhit.out
                have hq' : (firstT n a s % n == s) = true := by simpa using Hhit.out
                by_cases hm : firstT n a s + (k - 1) * n + 1 ≤ 1099511627776
                · go_wp2
                  go_ret2
                  exact ⟨ret_int2 (by rw [HN.out, if_pos (by omega)]; congr 1; omega), rfl⟩
                · go_wp2
                  go_ret2
                  exact ⟨ret_int2 (by rw [HN.out, if_neg (by omega)]), rfl⟩
    · have hb' := boundsB_no h'
      go_enter Try.func30, Try.ntmps30
      go_wp2_with (first | (go_at_call 42; refine (rslots_any _ _).mono ?_; rintro e w' ⟨rfl, rfl⟩) | (go_at_call 43; refine (rslot_any _ _ _).mono ?_; rintro e w' ⟨rfl, rfl⟩) | (go_at_call 44; refine (rticks_any _ _ _).mono ?_; rintro e w' ⟨rfl, rfl⟩))
      go_ret2
      exact ⟨ret_int2 (by rw [needS, if_neg (by rw [hb']; simp)]), rfl⟩
  · have hb := slotB_no h
    go_enter Try.func30, Try.ntmps30
    go_wp2_with (first | (go_at_call 42; refine (rslots_any _ _).mono ?_; rintro e w' ⟨rfl, rfl⟩) | (go_at_call 43; refine (rslot_any _ _ _).mono ?_; rintro e w' ⟨rfl, rfl⟩) | (go_at_call 44; refine (rticks_any _ _ _).mono ?_; rintro e w' ⟨rfl, rfl⟩))
    go_ret2
    exact ⟨ret_int2 (by rw [needS, if_neg (by rw [hb]; simp)]), rfl⟩

theorem rNext_any (n a s : Int) (w : World) :
    Calls Try.prog 29 #[.int .i64 n, .int .i64 a, .int .i64 s] w fun e w' => e = .returned (.tuple #[.int .i64 (nextS n a s).1, .int .i64 (nextS n a s).2]) ∧ w = w' := by
  by_cases h : slotB n s = true ∧ boundsB a a = true
  · have hN : needS n a s 1 = if firstT n a s < 1099511627776 then (firstT n a s + 1 - a, 0) else (0, 5) := by
      rw [needS, if_pos ⟨h.1, h.2, by omega⟩, if_neg (by omega)]
      by_cases hf : firstT n a s < 1099511627776
      · rw [if_pos (by omega), if_pos hf]; congr 1; omega
      · rw [if_neg (by omega), if_neg hf]
    by_cases hf : firstT n a s < 1099511627776
    · rw [if_pos hf] at hN
      have HN := Lib.hid hN
      clear hN
      have HF : Hid (nextS n a s = (firstT n a s, 0)) := by rw [Hid, nextS, if_pos h, if_pos hf]
      have h1 : 0 ≤ a ∧ a ≤ firstT n a s := by
        have a1 := h.1; have a2 := h.2
        simp only [slotB, boundsB, decide_eq_true_eq] at a1 a2
        exact ⟨a2.1, (firstT_bd a1.1 a1.2.1).1⟩
      obtain ⟨ha, hfa⟩ := h1
      have h9 : firstT n a s + 1 - a ≤ 1099511627776 := by omega
      clear h
      go_enter Try.func29, Try.ntmps29
      go_wp2_with (go_at_call 30; refine (rNeed_any _ _ _ _ _ (by omega)).mono ?_; rintro e w' ⟨rfl, rfl⟩; rw [HN.out])
      go_ret2
      exact ⟨ret_int2 (by rw [HF.out]; congr 1; omega), rfl⟩
    · rw [if_neg hf] at hN
      have HN := Lib.hid hN
      clear hN
      have HF : Hid (nextS n a s = (0, 5)) := by rw [Hid, nextS, if_pos h, if_neg hf]
      clear h
      go_enter Try.func29, Try.ntmps29
      go_wp2_with (go_at_call 30; refine (rNeed_any _ _ _ _ _ (by omega)).mono ?_; rintro e w' ⟨rfl, rfl⟩; rw [HN.out])
      go_ret2
      exact ⟨ret_int2 HF.out.symm, rfl⟩
  · have HN : Hid (needS n a s 1 = (0, 2)) := by rw [Hid, needS, if_neg (fun x => h ⟨x.1, x.2.1⟩)]
    have HF : Hid (nextS n a s = (0, 2)) := by rw [Hid, nextS, if_neg h]
    clear h
    go_enter Try.func29, Try.ntmps29
    go_wp2_with (go_at_call 30; refine (rNeed_any _ _ _ _ _ (by omega)).mono ?_; rintro e w' ⟨rfl, rfl⟩; rw [HN.out])
    go_ret2
    exact ⟨ret_int2 HF.out.symm, rfl⟩

theorem enough_big {n k : Int} (h1 : 1 ≤ n) (h8 : n ≤ 8) (hk : 1099511627776 < k) : ¬ n * k ≤ 1099511627776 := by
  rcases eight h1 h8 with rfl | rfl | rfl | rfl | rfl | rfl | rfl | rfl <;> omega
theorem enough_bd {n k : Int} (h1 : 1 ≤ n) (h8 : n ≤ 8) (hk : 0 ≤ k) (hk2 : k ≤ 1099511627776) : 0 ≤ n * k ∧ n * k ≤ 8796093022208 := by
  rcases eight h1 h8 with rfl | rfl | rfl | rfl | rfl | rfl | rfl | rfl <;> omega

theorem rEnough_any (n k : Int) (w : World) :
    Calls Try.prog 31 #[.int .i64 n, .int .i64 k] w fun e w' => e = .returned (.tuple #[.int .i64 (enoughS n k).1, .int .i64 (enoughS n k).2]) ∧ w = w' := by
  by_cases h : 1 ≤ n ∧ n ≤ 8
  · have hb := slotsB_yes h
    obtain ⟨h1, h8⟩ := h
    by_cases h0 : 0 ≤ k
    · by_cases ht : 1099511627776 < k
      · have Hb := Lib.hid (enough_big h1 h8 ht)
        go_enter Try.func31, Try.ntmps31
        go_wp2_with (first | (go_at_call 42; refine (rslots_any _ _).mono ?_; rintro e w' ⟨rfl, rfl⟩) | (go_at_call 43; refine (rslot_any _ _ _).mono ?_; rintro e w' ⟨rfl, rfl⟩) | (go_at_call 44; refine (rticks_any _ _ _).mono ?_; rintro e w' ⟨rfl, rfl⟩))
        go_ret2
        exact ⟨ret_int2 (by rw [enoughS, if_pos ⟨h1, h8, h0⟩, if_neg (by have := Hb.out; omega)]), rfl⟩
      · obtain ⟨p1, p2⟩ := enough_bd h1 h8 h0 (by omega)
        by_cases hm : n * k ≤ 1099511627776
        · go_enter Try.func31, Try.ntmps31
          go_wp2_with (first | (go_at_call 42; refine (rslots_any _ _).mono ?_; rintro e w' ⟨rfl, rfl⟩) | (go_at_call 43; refine (rslot_any _ _ _).mono ?_; rintro e w' ⟨rfl, rfl⟩) | (go_at_call 44; refine (rticks_any _ _ _).mono ?_; rintro e w' ⟨rfl, rfl⟩))
          go_ret2
          exact ⟨ret_int2 (by rw [enoughS, if_pos ⟨h1, h8, h0⟩, if_pos (by omega)]), rfl⟩
        · go_enter Try.func31, Try.ntmps31
          go_wp2_with (first | (go_at_call 42; refine (rslots_any _ _).mono ?_; rintro e w' ⟨rfl, rfl⟩) | (go_at_call 43; refine (rslot_any _ _ _).mono ?_; rintro e w' ⟨rfl, rfl⟩) | (go_at_call 44; refine (rticks_any _ _ _).mono ?_; rintro e w' ⟨rfl, rfl⟩))
          go_ret2
          exact ⟨ret_int2 (by rw [enoughS, if_pos ⟨h1, h8, h0⟩, if_neg (by omega)]), rfl⟩
    · go_enter Try.func31, Try.ntmps31
      go_wp2_with (first | (go_at_call 42; refine (rslots_any _ _).mono ?_; rintro e w' ⟨rfl, rfl⟩) | (go_at_call 43; refine (rslot_any _ _ _).mono ?_; rintro e w' ⟨rfl, rfl⟩) | (go_at_call 44; refine (rticks_any _ _ _).mono ?_; rintro e w' ⟨rfl, rfl⟩))
      go_ret2
      exact ⟨ret_int2 (by rw [enoughS, if_neg (by omega)]), rfl⟩
  · have hb := slotsB_no h
    go_enter Try.func31, Try.ntmps31
    go_wp2_with (first | (go_at_call 42; refine (rslots_any _ _).mono ?_; rintro e w' ⟨rfl, rfl⟩) | (go_at_call 43; refine (rslot_any _ _ _).mono ?_; rintro e w' ⟨rfl, rfl⟩) | (go_at_call 44; refine (rticks_any _ _ _).mono ?_; rintro e w' ⟨rfl, rfl⟩))
    go_ret2
    exact ⟨ret_int2 (by rw [enoughS, if_neg (by omega)]), rfl⟩

end Turn
end Go.Proofs.Ytpgdlpocgfgnfaa
