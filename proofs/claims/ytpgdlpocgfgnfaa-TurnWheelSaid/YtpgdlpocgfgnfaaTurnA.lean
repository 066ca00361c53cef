/- The pure functions of package turn: each returns what its plain law says, for every int. -/
import Derived.Test.YtpgdlpocgfgnfaaFermLib
namespace Go.Proofs.Ytpgdlpocgfgnfaa
open Go.RowKit
namespace Turn

def slotsB (n : Int) : Bool := decide (1 ≤ n ∧ n ≤ 8)
def slotB (n s : Int) : Bool := decide (1 ≤ n ∧ n ≤ 8 ∧ 0 ≤ s ∧ s < n)
def boundsB (a b : Int) : Bool := decide (0 ≤ a ∧ a ≤ b ∧ b ≤ 1099511627776)
def cnt (n t s : Int) : Int := (t + n - 1 - s) / n
def firstT (n a s : Int) : Int := a + (s - a) % n

def slotS (n t : Int) : Int × Int := if 1 ≤ n ∧ n ≤ 8 ∧ 0 ≤ t ∧ t < 1099511627776 then (t % n, 0) else (0, 2)
def turnsS (n a b s : Int) : Int × Int := if slotB n s = true ∧ boundsB a b = true then (cnt n b s - cnt n a s, 0) else (0, 2)
def nextS (n a s : Int) : Int × Int := if slotB n s = true ∧ boundsB a a = true then (if firstT n a s < 1099511627776 then (firstT n a s, 0) else (0, 5)) else (0, 2)
def needS (n a s k : Int) : Int × Int :=
  if slotB n s = true ∧ boundsB a a = true ∧ 0 ≤ k then
    (if k = 0 then (0, 0) else if firstT n a s + (k - 1) * n + 1 ≤ 1099511627776 then (firstT n a s + (k - 1) * n + 1 - a, 0) else (0, 5))
  else (0, 2)
def enoughS (n k : Int) : Int × Int := if 1 ≤ n ∧ n ≤ 8 ∧ 0 ≤ k then (if n * k ≤ 1099511627776 then (n * k, 0) else (0, 5)) else (0, 2)

theorem slotsB_yes {n : Int} (h : 1 ≤ n ∧ n ≤ 8) : slotsB n = true := decide_eq_true h
theorem slotsB_no {n : Int} (h : ¬ (1 ≤ n ∧ n ≤ 8)) : slotsB n = false := decide_eq_false h
theorem slotB_yes {n s : Int} (h : 1 ≤ n ∧ n ≤ 8 ∧ 0 ≤ s ∧ s < n) : slotB n s = true := decide_eq_true h
theorem slotB_no {n s : Int} (h : ¬ (1 ≤ n ∧ n ≤ 8 ∧ 0 ≤ s ∧ s < n)) : slotB n s = false := decide_eq_false h
theorem boundsB_yes {a b : Int} (h : 0 ≤ a ∧ a ≤ b ∧ b ≤ 1099511627776) : boundsB a b = true := decide_eq_true h
theorem boundsB_no {a b : Int} (h : ¬ (0 ≤ a ∧ a ≤ b ∧ b ≤ 1099511627776)) : boundsB a b = false := decide_eq_false h

theorem eight {n : Int} (h1 : 1 ≤ n) (h8 : n ≤ 8) : n = 1 ∨ n = 2 ∨ n = 3 ∨ n = 4 ∨ n = 5 ∨ n = 6 ∨ n = 7 ∨ n = 8 := by omega

theorem cnt_bd {n t s : Int} (h1 : 1 ≤ n) (h8 : n ≤ 8) (h0 : 0 ≤ s) (hs : s < n) (ht : 0 ≤ t) : 0 ≤ cnt n t s ∧ cnt n t s ≤ t + 8 := by
  unfold cnt
  rcases eight h1 h8 with rfl | rfl | rfl | rfl | rfl | rfl | rfl | rfl <;> omega
theorem cnt_succ {n t s : Int} (h1 : 1 ≤ n) (h8 : n ≤ 8) (h0 : 0 ≤ s) (hs : s < n) : cnt n (t + 1) s = cnt n t s + if t % n = s then 1 else 0 := by
  unfold cnt
  rcases eight h1 h8 with rfl | rfl | rfl | rfl | rfl | rfl | rfl | rfl <;> (split <;> omega)
theorem cnt_mono {n a b s : Int} (h1 : 1 ≤ n) (h8 : n ≤ 8) (hab : a ≤ b) : cnt n a s ≤ cnt n b s := by
  unfold cnt
  rcases eight h1 h8 with rfl | rfl | rfl | rfl | rfl | rfl | rfl | rfl <;> omega
theorem firstT_bd {n a s : Int} (h1 : 1 ≤ n) (h8 : n ≤ 8) : a ≤ firstT n a s ∧ firstT n a s < a + n := by
  unfold firstT
  rcases eight h1 h8 with rfl | rfl | rfl | rfl | rfl | rfl | rfl | rfl <;> omega
theorem firstT_hit {n a s : Int} (h1 : 1 ≤ n) (h8 : n ≤ 8) (h0 : 0 ≤ s) (hs : s < n) : firstT n a s % n = s := by
  unfold firstT
  rcases eight h1 h8 with rfl | rfl | rfl | rfl | rfl | rfl | rfl | rfl <;> omega
theorem firstT_miss {n a s t : Int} (h1 : 1 ≤ n) (h8 : n ≤ 8) (ha : a ≤ t) (ht : t < firstT n a s) : t % n ≠ s := by
  unfold firstT at ht
  rcases eight h1 h8 with rfl | rfl | rfl | rfl | rfl | rfl | rfl | rfl <;> omega

theorem slots_any (n : Int) (w : World) :
    Calls Try.prog 37 #[.int .i64 n] w fun e w' => e = .returned (.bool (slotsB n)) ∧ w = w' := by
  go_enter Try.func37, Try.ntmps37
  go_wp2
  · have h1 : 1 ≤ n := by assumption
    go_ret
    exact ⟨ret_bool (by simp [slotsB, h1]), rfl⟩
  · have h1 : n < 1 := by assumption
    go_ret
    exact ⟨ret_bool (by simp [slotsB]; omega), rfl⟩

theorem slot_any (n s : Int) (w : World) :
    Calls Try.prog 40 #[.int .i64 n, .int .i64 s] w fun e w' => e = .returned (.bool (slotB n s)) ∧ w = w' := by
  by_cases h : 1 ≤ n ∧ n ≤ 8
  · have hb := slotsB_yes h
    by_cases h0 : 0 ≤ s
    · go_enter Try.func40, Try.ntmps40
      go_wp2_with (go_at_call 37; refine (slots_any _ _).mono ?_; rintro e w' ⟨rfl, rfl⟩)
      go_ret
      exact ⟨ret_bool (by simp [slotB, h, h0]), rfl⟩
    · go_enter Try.func40, Try.ntmps40
      go_wp2_with (go_at_call 37; refine (slots_any _ _).mono ?_; rintro e w' ⟨rfl, rfl⟩)
      go_ret
      exact ⟨ret_bool (by rw [slotB_no (by omega)]), rfl⟩
  · have hb := slotsB_no h
    go_enter Try.func40, Try.ntmps40
    go_wp2_with (go_at_call 37; refine (slots_any _ _).mono ?_; rintro e w' ⟨rfl, rfl⟩)
    go_ret
    exact ⟨ret_bool (by rw [slotB_no (by omega)]), rfl⟩

theorem bounds_any (a b : Int) (w : World) :
    Calls Try.prog 38 #[.int .i64 a, .int .i64 b] w fun e w' => e = .returned (.bool (boundsB a b)) ∧ w = w' := by
  by_cases h0 : 0 ≤ a
  · by_cases h1 : a ≤ b
    · go_enter Try.func38, Try.ntmps38
      go_wp2
      go_ret
      exact ⟨ret_bool (by simp [boundsB, h0, h1]), rfl⟩
    · go_enter Try.func38, Try.ntmps38
      go_wp2
      go_ret
      exact ⟨ret_bool (by rw [boundsB_no (by omega)]), rfl⟩
  · go_enter Try.func38, Try.ntmps38
    go_wp2
    go_ret
    exact ⟨ret_bool (by rw [boundsB_no (by omega)]), rfl⟩

theorem before_any (n t s : Int) (w : World) (h1 : 1 ≤ n) (h8 : n ≤ 8) (ht : 0 ≤ t) (ht1 : t ≤ 1099511627776) (h0 : 0 ≤ s) (hs : s < n) :
    Calls Try.prog 41 #[.int .i64 n, .int .i64 t, .int .i64 s] w fun e w' => e = .returned (.int .i64 (cnt n t s)) ∧ w = w' := by
  have hx : 0 ≤ t + n - 1 - s := by omega
  go_enter Try.func41, Try.ntmps41
  go_wp2
  go_ret
  exact ⟨ret_int (by rfl), rfl⟩

theorem Slot_any (n t : Int) (w : World) :
    Calls Try.prog 22 #[.int .i64 n, .int .i64 t] w fun e w' => e = .returned (.tuple #[.int .i64 (slotS n t).1, .int .i64 (slotS n t).2]) ∧ w = w' := by
  by_cases h : 1 ≤ n ∧ n ≤ 8
  · have hb := slotsB_yes h
    obtain ⟨h1, h8⟩ := h
    by_cases h0 : 0 ≤ t
    · by_cases ht : t < 1099511627776
      all_goals
        go_enter Try.func22, Try.ntmps22
        go_wp2_with (go_at_call 37; refine (slots_any _ _).mono ?_; rintro e w' ⟨rfl, rfl⟩)
        go_ret2
        exact ⟨ret_int2 (by simp [slotS, h1, h8, h0, ht]), rfl⟩
    · go_enter Try.func22, Try.ntmps22
      go_wp2_with (go_at_call 37; refine (slots_any _ _).mono ?_; rintro e w' ⟨rfl, rfl⟩)
      go_ret2
      exact ⟨ret_int2 (by rw [slotS, if_neg (by omega)]), rfl⟩
  · have hb := slotsB_no h
    go_enter Try.func22, Try.ntmps22
    go_wp2_with (go_at_call 37; refine (slots_any _ _).mono ?_; rintro e w' ⟨rfl, rfl⟩)
    go_ret2
    exact ⟨ret_int2 (by rw [slotS, if_neg (by omega)]), rfl⟩

theorem Turns_any (n a b s : Int) (w : World) :
    Calls Try.prog 23 #[.int .i64 n, .int .i64 a, .int .i64 b, .int .i64 s] w fun e w' => e = .returned (.tuple #[.int .i64 (turnsS n a b s).1, .int .i64 (turnsS n a b s).2]) ∧ w = w' := by
  by_cases h : 1 ≤ n ∧ n ≤ 8 ∧ 0 ≤ s ∧ s < n
  · have hb := slotB_yes h
    obtain ⟨h1, h8, h0, hs⟩ := h
    by_cases h' : 0 ≤ a ∧ a ≤ b ∧ b ≤ 1099511627776
    · have hb' := boundsB_yes h'
      obtain ⟨ha, hab, hbm⟩ := h'
      have c1 := cnt_bd (t := a) h1 h8 h0 hs ha
      have c2 := cnt_bd (t := b) h1 h8 h0 hs (by omega)
      have c3 := cnt_mono (s := s) h1 h8 hab
      obtain ⟨c11, c12⟩ := c1
      obtain ⟨c21, c22⟩ := c2
      go_enter Try.func23, Try.ntmps23
      go_wp2_with (first | (go_at_call 40; refine (slot_any _ _ _).mono ?_; rintro e w' ⟨rfl, rfl⟩) | (go_at_call 38; refine (bounds_any _ _ _).mono ?_; rintro e w' ⟨rfl, rfl⟩) | (go_at_call 41; refine (before_any _ _ _ _ (by omega) (by omega) (by omega) (by omega) (by omega) (by omega)).mono ?_; rintro e w' ⟨rfl, rfl⟩))
      go_ret2
      exact ⟨ret_int2 (by rw [turnsS, if_pos ⟨hb, hb'⟩]), rfl⟩
    · have hb' := boundsB_no h'
      go_enter Try.func23, Try.ntmps23
      go_wp2_with (first | (go_at_call 40; refine (slot_any _ _ _).mono ?_; rintro e w' ⟨rfl, rfl⟩) | (go_at_call 38; refine (bounds_any _ _ _).mono ?_; rintro e w' ⟨rfl, rfl⟩))
      go_ret2
      exact ⟨ret_int2 (by rw [turnsS, if_neg (by rw [hb']; simp)]), rfl⟩
  · have hb := slotB_no h
    go_enter Try.func23, Try.ntmps23
    go_wp2_with (first | (go_at_call 40; refine (slot_any _ _ _).mono ?_; rintro e w' ⟨rfl, rfl⟩) | (go_at_call 38; refine (bounds_any _ _ _).mono ?_; rintro e w' ⟨rfl, rfl⟩))
    go_ret2
    exact ⟨ret_int2 (by rw [turnsS, if_neg (by rw [hb]; simp)]), rfl⟩

end Turn
end Go.Proofs.Ytpgdlpocgfgnfaa
