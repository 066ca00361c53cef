/- The law TurnEach returns true. -/
import Derived.Test.YtpgdlpocgfgnfaaTurnP
namespace Go.Proofs.Ytpgdlpocgfgnfaa
open Go.RowKit Go.Shelf
set_option linter.unusedVariables false
set_option maxRecDepth 100000
namespace Turn

theorem toNat_succ {n : Int} (h : 1 ≤ n) : ∃ m : Nat, n.toNat = m + 1 ∧ n = (m : Int) + 1 := ⟨n.toNat - 1, by omega, by omega⟩

set_option maxHeartbeats 4000000 in
theorem lawEach (a0 : Int) (w0 : (Lit.int .u8 a0).wf = true) (a : Int) (w1 : (Lit.int .u32 a).wf = true) (k : Int) (w2 : (Lit.int .u16 k).wf = true) (w : World) :
    Calls Try.prog 6 #[.int .u8 a0, .int .u32 a, .int .u16 k] w fun e w' => e = .returned (.bool true) ∧ Below w.heap.size w w' := by
  obtain ⟨h00, h01⟩ := bounds_u8 w0
  obtain ⟨h10, h11⟩ := bounds_u32 w1
  obtain ⟨h20, h21⟩ := bounds_u16 w2
  clear w0 w1 w2
  go_enter Try.func6, Try.ntmps6
  go_wp2_with fail
  refine (awake_any _).mono ?_; rintro e wa ⟨rfl, hba⟩
  go_wp2_with fail
  have hn1 : 1 ≤ 1 + a0 % 8 := by omega
  have hn8 : 1 + a0 % 8 ≤ 8 := by omega
  generalize 1 + a0 % 8 = n at *
  obtain ⟨mb1, mb2⟩ := mul_bds hn1 hn8 h20
  have E1 := Lib.hid (enoughS_yes (n := n) (k := k) hn1 hn8 h20 (by omega))
  have hs : slotsB n = true ∧ boundsB a (a + n * k) = true := ⟨slotsB_yes ⟨hn1, hn8⟩, boundsB_yes ⟨by omega, by omega, by omega⟩⟩
  have A1 := Lib.hid (allE_yes hs)
  have A2 := Lib.hid (allS_length hs)
  have G := Lib.hid (fun (j : Nat) (hj : (j : Int) < n) => allS_get (a := a) (b := a + n * k) hn1 hn8 h10 (by omega) (by omega) j hj)
  have C := Lib.hid (fun (j : Nat) (hj : (j : Int) < n) => each_cnt (a := a) (k := k) hn1 hn8 (by omega : 0 ≤ (j : Int)) hj h10 h20)
  clear hs
  refine (Enough_any _ _ _).mono ?_; rintro e w' ⟨rfl, rfl⟩; rw [E1.out]
  go_wp2_with fail
  refine (All_any _ _ _ _).mono ?_; rintro e wb ⟨v, rfl, hv, hbb⟩; rw [A1.out]
  rw [A2.out] at hv
  obtain ⟨m, hm, hnm⟩ := toNat_succ hn1
  rw [hm] at hv
  obtain ⟨g, cap, rfl⟩ := ownsRow_succ hv
  have Hcell := Lib.hid (fun (j : Nat) (hj : (j : Int) < n) => owns_cell hv j _ (by rw [G.out j hj, C.out j hj]))
  have Hm := Lib.hid hnm
  have hne : ((m : Int) + 1 != n) = false := by simp; omega
  clear hm hnm
  go_wp2_with fail
  -- the first loop
  have HN0 : Hid (k = 0 → ∀ j : Nat, (j : Int) < n → needS n a j k = (0, 0)) := by
    rintro rfl j hj; exact needS_none hn1 hn8 (by omega) hj h10 (by omega)
  have HN1 : Hid (1 ≤ k → ∀ j : Nat, (j : Int) < n → needS n a j k = (firstT n a j + (k - 1) * n + 1 - a, 0) ∧ firstT n a j + (k - 1) * n + 1 - a ≤ n * k ∧ 1 ≤ firstT n a j + (k - 1) * n + 1 - a) := by
    intro hk j hj
    obtain ⟨e1, e2⟩ := each_need (a := a) (k := k) hn1 hn8 (by omega : 0 ≤ (j : Int)) hj h10 hk
    exact ⟨needS_yes hn1 hn8 (by omega) hj h10 (by omega) hk (by omega), e1, e2⟩
  by_cases hk0 : k = 0
  · have HN := Lib.hid (HN0.out hk0)
    have hkz : (k == 0) = true := by simpa using hk0
    have hkn : 0 ≤ n * k := by omega
    clear HN0 HN1 hk0
    go_loop [68, 12, 13, 14, 15, 16] (fun i t _ _ _ _ => ∃ j : Nat, (j : Int) ≤ n ∧ i = .int .i64 j ∧ t = .int .i64 0) (fun i _ _ _ _ _ => n.toNat - (intOf i).toNat)
    case atStart => exact ⟨0, by omega, rfl, rfl⟩
    case round =>
      obtain ⟨j, hj, rfl, rfl⟩ := hrel
      by_cases hlt : (j : Int) < n
      · have hlt' : j < m + 1 := by have := Hm.out; omega
        have hck := Hcell.out j hlt
        have HNj := Lib.hid (HN.out j hlt)
        go_wp2_with (go_at_call 21; refine (Need_any _ _ _ _ _ (by omega)).mono ?_; rintro e w' ⟨rfl, rfl⟩; rw [HNj.out])
        go_round
        case rel => exact ⟨j + 1, by omega, by go_num, rfl⟩
        case measure => simp [intOf]; omega
      · have hlt' : ¬ j < m + 1 := by have := Hm.out; omega
        obtain rfl : j = m + 1 := by have := Hm.out; omega
        go_wp2
        go_ret
        exact ⟨rfl, hba.trans (hbb.mono hba.size)⟩
  · have hk1 : 1 ≤ k := by omega
    have HN := Lib.hid (HN1.out hk1)
    have hkn : 0 ≤ n * k := by omega
    clear HN0 HN1
    go_loop [68, 12, 13, 14, 15, 16] (fun i t _ _ _ _ => ∃ (j : Nat) (mo : Int), (j : Int) ≤ n ∧ i = .int .i64 j ∧ t = .int .i64 mo ∧ 0 ≤ mo ∧ mo ≤ n * k ∧ Hid (∀ i : Nat, i < j → firstT n a i + (k - 1) * n + 1 - a ≤ mo)) (fun i _ _ _ _ _ => n.toNat - (intOf i).toNat)
    case atStart => exact ⟨0, 0, by omega, rfl, rfl, by omega, by omega, fun i hi => by omega⟩
    case round =>
      obtain ⟨j, mo, hj, rfl, rfl, hmo0, hmo1, Hmo⟩ := hrel
      by_cases hlt : (j : Int) < n
      · have hlt' : j < m + 1 := by have := Hm.out; omega
        have hck := Hcell.out j hlt
        obtain ⟨e1, e2, e3⟩ := HN.out j hlt
        have HNj := Lib.hid e1
        clear e1
        generalize hx : firstT n a j + (k - 1) * n + 1 - a = x at *
        have Hx := Lib.hid hx
        clear hx
        go_wp2_with (go_at_call 21; refine (Need_any _ _ _ _ _ (by omega)).mono ?_; rintro e w' ⟨rfl, rfl⟩; rw [HNj.out])
        go_round
        case rel => exact ⟨j + 1, max mo x, by omega, by go_num, rfl, by omega, by omega, fun i hi => by
          rcases Nat.lt_or_eq_of_le (Nat.le_of_lt_succ hi) with h | rfl
          · have := Hmo.out i h; omega
          · rw [Hx.out]; omega⟩
        case measure => simp [intOf]; omega
      · have hlt' : ¬ j < m + 1 := by have := Hm.out; omega
        obtain rfl : j = m + 1 := by have := Hm.out; omega
        obtain ⟨l1, l2, l3⟩ := each_most (n := n) (a := a) (k := k) hn1 hn8 h10 hk1
        have hmm : mo = n * k := by
          have := Hmo.out ((a + n * k - 1) % n).toNat (by have := Hm.out; omega)
          rw [Int.toNat_of_nonneg l1, l3] at this
          omega
        subst hmm
        have hs2 : slotsB n = true ∧ boundsB a (a + n * k - 1) = true := ⟨slotsB_yes ⟨hn1, hn8⟩, boundsB_yes ⟨by omega, by omega, by omega⟩⟩
        have B1 := Lib.hid (allE_yes hs2)
        have B2 := Lib.hid (allS_length hs2)
        have S1 := Lib.hid (slotS_yes (n := n) (t := a + n * k - 1) hn1 hn8 (by omega) (by omega))
        have G2 := Lib.hid (fun (j : Nat) (hj : (j : Int) < n) => allS_get (a := a) (b := a + n * k - 1) hn1 hn8 h10 (by omega) (by omega) j hj)
        have C2 := Lib.hid (fun (j : Nat) (hj : (j : Int) < n) => each_less (a := a) (k := k) hn1 hn8 (by omega : 0 ≤ (j : Int)) hj h10 hk1)
        clear hs2 l3
        have hkz : (k == 0) = false := by simp; omega
        go_wp2_with (go_at_call 20; refine (All_any _ _ _ _).mono ?_; rintro e wc ⟨v2, rfl, hv2, hbc⟩; rw [B1.out]; rw [B2.out] at hv2; rw [show n.toNat = m + 1 by have := Hm.out; omega] at hv2; obtain ⟨g2, cap2, rfl⟩ := ownsRow_succ hv2)
        have Hc2 := Lib.hid (fun (j : Nat) (hj : (j : Int) < n) => owns_cell hv2 j _ (by rw [G2.out j hj, C2.out j hj]))
        clear G2 C2 hv2 G C hv Hmo HN Hcell
        generalize hL : (a + n * k - 1) % n = L at *
        have S2 : Hid (slotS n (a + n * k - 1) = (L, 0)) := by rw [Hid, S1.out]
        clear hL S1
        go_loop [131, 19, 20, 21, 22, 23] (fun i t _ _ _ _ => ∃ j : Nat, (j : Int) ≤ n ∧ i = .int .i64 j ∧ t = .int .i64 (if L < (j : Int) then 1 else 0)) (fun i _ _ _ _ _ => n.toNat - (intOf i).toNat)
        case atStart => exact ⟨0, by omega, rfl, by rw [if_neg (by omega)]⟩
        case round =>
          obtain ⟨j, hj, rfl, rfl⟩ := hrel
          by_cases hlt : (j : Int) < n
          · have hlt' : j < m + 1 := by have := Hm.out; omega
            have hck := Hc2.out j hlt
            rcases Int.lt_trichotomy (j : Int) L with hjl | hjl | hjl
            · rw [if_neg (by omega)] at hck
              rw [if_neg (by omega : ¬ L < (j : Int))]
              have b1 : (k == k - 1) = false := by simp; omega
              have b2 : ((j : Int) == L) = false := by simp; omega
              clear hj
              go_wp2_with (go_at_call 22; refine (Slot_any _ _ _).mono ?_; rintro e w' ⟨rfl, rfl⟩; rw [S2.out])
              go_round
              case rel => exact ⟨j + 1, by omega, by go_num, by rw [if_neg (by omega)]⟩
              case measure => simp [intOf]; omega
            · rw [if_pos (by omega)] at hck
              rw [if_neg (by omega : ¬ L < (j : Int))]
              have b2 : ((j : Int) == L) = true := by simpa using hjl
              have b3 : (k - 1 != k) = true := by simp; omega
              have b4 : k - 1 < k := by omega
              have HJ := Lib.hid hjl
              clear hj hjl
              go_wp2_with (go_at_call 22; refine (Slot_any _ _ _).mono ?_; rintro e w' ⟨rfl, rfl⟩; rw [S2.out])
              go_round
              case rel => exact ⟨j + 1, by omega, by go_num, by rw [if_pos (by have := HJ.out; omega)]⟩
              case measure => simp [intOf]; omega
            · rw [if_neg (by omega)] at hck
              rw [if_pos (by omega : L < (j : Int))]
              have b1 : (k == k - 1) = false := by simp; omega
              have b2 : ((j : Int) == L) = false := by simp; omega
              clear hj
              go_wp2_with (go_at_call 22; refine (Slot_any _ _ _).mono ?_; rintro e w' ⟨rfl, rfl⟩; rw [S2.out])
              go_round
              case rel => exact ⟨j + 1, by omega, by go_num, by rw [if_pos (by omega)]⟩
              case measure => simp [intOf]; omega
          · have hlt' : ¬ j < m + 1 := by have := Hm.out; omega
            obtain rfl : j = m + 1 := by have := Hm.out; omega
            rw [if_pos (by have := Hm.out; omega)]
            go_wp2
            go_ret
            exact ⟨rfl, hba.trans ((hbb.trans (hbc.mono hbb.size)).mono hba.size)⟩
end Turn
end Go.Proofs.Ytpgdlpocgfgnfaa
