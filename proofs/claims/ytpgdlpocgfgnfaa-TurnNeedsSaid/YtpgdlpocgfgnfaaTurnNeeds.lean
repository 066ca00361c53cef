/- The law TurnNeeds returns true. -/
import Derived.Test.YtpgdlpocgfgnfaaTurnP
namespace Go.Proofs.Ytpgdlpocgfgnfaa
open Go.RowKit Go.Shelf
set_option linter.unusedVariables false
set_option maxRecDepth 100000
namespace Turn

set_option maxHeartbeats 2000000 in
theorem lawNeeds (a0 : Int) (w0 : (Lit.int .u8 a0).wf = true) (a1 : Int) (w1 : (Lit.int .u8 a1).wf = true) (a : Int) (w2 : (Lit.int .u32 a).wf = true) (y : Int) (w3 : (Lit.int .u16 y).wf = true) (w : World) :
    Calls Try.prog 8 #[.int .u8 a0, .int .u8 a1, .int .u32 a, .int .u16 y] w fun e w' => e = .returned (.bool true) ∧ Below w.heap.size w w' := by
  obtain ⟨h00, h01⟩ := bounds_u8 w0
  obtain ⟨h10, h11⟩ := bounds_u8 w1
  obtain ⟨h20, h21⟩ := bounds_u32 w2
  obtain ⟨h30, h31⟩ := bounds_u16 w3
  clear w0 w1 w2 w3
  go_enter Try.func8, Try.ntmps8
  go_wp2_with fail
  refine (awake_any _).mono ?_; rintro e wa ⟨rfl, hba⟩
  go_wp2_with fail
  have hn1 : 1 ≤ 1 + a0 % 8 := by omega
  have hn8 : 1 + a0 % 8 ≤ 8 := by omega
  generalize 1 + a0 % 8 = n at *
  have hs0 : 0 ≤ a1 % n := Int.emod_nonneg _ (by omega)
  have hsn : a1 % n < n := Int.emod_lt_of_pos _ (by omega)
  generalize a1 % n = s at *
  have hk1 : 1 ≤ 1 + y := by omega
  have hk2 : 1 + y ≤ 65536 := by omega
  generalize 1 + y = k at *
  obtain ⟨c1, c2, c3, c4, c5, c6⟩ := need_cnt (a := a) hn1 hn8 hs0 hsn h20 hk1
  obtain ⟨f1, f2⟩ := firstT_bd (a := a) (s := s) hn1 hn8
  have hN := Lib.hid (needS_yes (a := a) (s := s) (k := k) hn1 hn8 hs0 hsn h20 (by omega) hk1 (by omega))
  have hO := needS_yes (a := a) (s := s) (k := 1) hn1 hn8 hs0 hsn h20 (by omega) (by omega) (by omega)
  have hX := Lib.hid (nextS_yes (a := a) (s := s) hn1 hn8 hs0 hsn h20 (by omega) (by omega))
  have hM : ∃ M, M = firstT n a s + (k - 1) * n + 1 - a := ⟨_, rfl⟩
  obtain ⟨M, hM⟩ := hM
  have e1 : firstT n a s + (k - 1) * n + 1 = a + M := by omega
  have e2 : firstT n a s + (k - 1) * n = a + M - 1 := by omega
  have hO' : Hid (needS n a s 1 = (firstT n a s - a + 1, 0)) := by rw [Hid, hO]; congr 1; omega
  rw [e1] at c1
  rw [e2] at c2 c4
  have hMk : k ≤ M := by omega
  have hM8 : M ≤ 8 * 65536 + 8 := by omega
  have hfM : firstT n a s ≤ a + M - 1 := by omega
  have T1 := Lib.hid (turnsS_yes (n := n) (a := a) (b := a + M) (s := s) hn1 hn8 hs0 hsn h20 (by omega) (by omega))
  have T2 := Lib.hid (turnsS_yes (n := n) (a := a) (b := a + M - 1) (s := s) hn1 hn8 hs0 hsn h20 (by omega) (by omega))
  have T3 := Lib.hid (turnsS_yes (n := n) (a := a) (b := firstT n a s) (s := s) hn1 hn8 hs0 hsn h20 (by omega) (by omega))
  have S1 := Lib.hid (slotS_yes (n := n) (t := a + M - 1) hn1 hn8 (by omega) (by omega))
  have S2 := Lib.hid (slotS_yes (n := n) (t := firstT n a s) hn1 hn8 (by omega) (by omega))
  have F1 := Lib.hid (firstT_hit (a := a) (s := s) hn1 hn8 hs0 hsn)
  have HM := Lib.hid hM
  have C1 := Lib.hid c1
  have C2 := Lib.hid c2
  have C3 := Lib.hid c3
  have C4 := Lib.hid c4
  clear hM e1 e2 c1 c2 c3 c4 c5 c6 hO
  refine (Need_any _ _ _ _ _ (by omega)).mono ?_; rintro e w' ⟨rfl, rfl⟩; rw [hN.out, ← HM.out]
  go_wp2_with fail
  refine (Next_any _ _ _ _).mono ?_; rintro e w' ⟨rfl, rfl⟩; rw [hX.out]
  go_wp2_with fail
  refine (Turns_any _ _ _ _ _).mono ?_; rintro e w' ⟨rfl, rfl⟩; rw [T1.out, C1.out]
  go_wp2_with fail
  refine (Turns_any _ _ _ _ _).mono ?_; rintro e w' ⟨rfl, rfl⟩; rw [T2.out, C2.out]
  go_wp2_with fail
  refine (Slot_any _ _ _).mono ?_; rintro e w' ⟨rfl, rfl⟩; rw [S1.out, C4.out]
  go_wp2_with fail
  refine (Turns_any _ _ _ _ _).mono ?_; rintro e w' ⟨rfl, rfl⟩; rw [T3.out, C3.out]
  go_wp2_with fail
  refine (Slot_any _ _ _).mono ?_; rintro e w' ⟨rfl, rfl⟩; rw [S2.out, F1.out]
  go_wp2_with fail
  refine (Need_any _ _ _ _ _ (by omega)).mono ?_; rintro e w' ⟨rfl, rfl⟩; rw [hO'.out]
  go_wp2_with fail
  go_ret
  exact ⟨rfl, hba⟩
end Turn
end Go.Proofs.Ytpgdlpocgfgnfaa
