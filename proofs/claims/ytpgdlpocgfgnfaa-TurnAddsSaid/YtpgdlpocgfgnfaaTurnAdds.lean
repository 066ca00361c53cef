/- The law TurnAdds returns true. -/
import Derived.Test.YtpgdlpocgfgnfaaTurnP
namespace Go.Proofs.Ytpgdlpocgfgnfaa
open Go.RowKit Go.Shelf
set_option linter.unusedVariables false
set_option linter.unusedSimpArgs false
set_option maxRecDepth 100000
namespace Turn

set_option maxHeartbeats 2000000 in
theorem lawAdds (a0 : Int) (w0 : (Lit.int .u8 a0).wf = true) (a1 : Int) (w1 : (Lit.int .u8 a1).wf = true) (x : Int) (w2 : (Lit.int .u32 x).wf = true) (y : Int) (w3 : (Lit.int .u32 y).wf = true) (z : Int) (w4 : (Lit.int .u32 z).wf = true) (w : World) :
    Calls Try.prog 7 #[.int .u8 a0, .int .u8 a1, .int .u32 x, .int .u32 y, .int .u32 z] w fun e w' => e = .returned (.bool true) ∧ Below w.heap.size w w' := by
  obtain ⟨h00, h01⟩ := bounds_u8 w0
  obtain ⟨h10, h11⟩ := bounds_u8 w1
  obtain ⟨h20, h21⟩ := bounds_u32 w2
  obtain ⟨h30, h31⟩ := bounds_u32 w3
  obtain ⟨h40, h41⟩ := bounds_u32 w4
  clear w0 w1 w2 w3 w4
  obtain ⟨a, ⟨ha1, ha2, ha3⟩, ha4, hmin⟩ := min3_ex Try.prog .u32 x y z
  obtain ⟨c, ⟨hc1, hc2, hc3⟩, hc4, hmax⟩ := max3_ex Try.prog .u32 x y z
  have hbb : 0 ≤ a ∧ a ≤ x + y + z - a - c ∧ x + y + z - a - c ≤ c ∧ c ≤ 4294967295 := by omega
  obtain ⟨hz1, hz2, hz3, hz4⟩ := hbb
  clear ha4 hc4
  go_enter Try.func7, Try.ntmps7
  go_wp2_with fail
  refine (awake_any _).mono ?_; rintro e wa ⟨rfl, hba⟩
  go_wp2_with fail
  have hn1 : 1 ≤ 1 + a0 % 8 := by omega
  have hn8 : 1 + a0 % 8 ≤ 8 := by omega
  generalize 1 + a0 % 8 = n at *
  have hs0 : 0 ≤ a1 % n := Int.emod_nonneg _ (by omega)
  have hsn : a1 % n < n := Int.emod_lt_of_pos _ (by omega)
  generalize a1 % n = s at *
  generalize x + y + z - a - c = b at *
  have t1 := Lib.hid (turnsS_yes (a := a) (b := b) hn1 hn8 hs0 hsn (by omega) (by omega) (by omega))
  have t2 := Lib.hid (turnsS_yes (a := b) (b := c) hn1 hn8 hs0 hsn (by omega) (by omega) (by omega))
  have t3 := Lib.hid (turnsS_yes (a := a) (b := c) hn1 hn8 hs0 hsn (by omega) (by omega) (by omega))
  have t4 := Lib.hid (allE_yes (n := n) (a := a) (b := c) ⟨slotsB_yes ⟨hn1, hn8⟩, boundsB_yes ⟨by omega, by omega, by omega⟩⟩)
  have t5 := Lib.hid (allS_length (n := n) (a := a) (b := c) ⟨slotsB_yes ⟨hn1, hn8⟩, boundsB_yes ⟨by omega, by omega, by omega⟩⟩)
  have ca := cnt_bd (t := a) hn1 hn8 hs0 hsn (by omega)
  have cb := cnt_bd (t := b) hn1 hn8 hs0 hsn (by omega)
  have cc := cnt_bd (t := c) hn1 hn8 hs0 hsn (by omega)
  refine (Turns_any _ _ _ _ _).mono ?_; rintro e w' ⟨rfl, rfl⟩; rw [t1.out]
  go_wp2_with fail
  refine (Turns_any _ _ _ _ _).mono ?_; rintro e w' ⟨rfl, rfl⟩; rw [t2.out]
  go_wp2_with fail
  refine (Turns_any _ _ _ _ _).mono ?_; rintro e w' ⟨rfl, rfl⟩; rw [t3.out]
  go_wp2_with fail
  refine (All_any _ _ _ _).mono ?_; rintro e wb ⟨v, rfl, hv, hbb⟩; rw [t4.out]
  rw [t5.out] at hv
  obtain ⟨m, hm⟩ : ∃ m : Nat, n.toNat = m + 1 := ⟨n.toNat - 1, by omega⟩
  have hnn : n = (m : Int) + 1 := by omega
  rw [hm] at hv
  obtain ⟨g, cap, rfl⟩ := ownsRow_succ hv
  have hcs : wb.cell? ⟨g, s.toNat, none⟩ = some (.int .i64 (cnt n c s - cnt n a s)) := by
    have := owns_cell hv s.toNat _ (allS_get hn1 hn8 (by omega) (by omega) (by omega) s.toNat (by omega))
    rwa [Int.toNat_of_nonneg hs0] at this
  have hcell : ∀ j : Nat, (j : Int) < n → wb.cell? ⟨g, j, none⟩ = some (.int .i64 (cnt n c j - cnt n a j)) := fun j hj => owns_cell hv j _ (allS_get hn1 hn8 (by omega) (by omega) (by omega) j hj)
  have Hcell := Lib.hid hcell
  have Hm := Lib.hid hnn
  have hne : ((m : Int) + 1 != n) = false := by simp; omega
  clear hcell hm hnn hmin hmax
  have hs' : s < (m : Int) + 1 := by have := Hm.out; omega
  obtain ⟨ca1, ca2⟩ := ca
  obtain ⟨cb1, cb2⟩ := cb
  obtain ⟨cc1, cc2⟩ := cc
  go_wp2_with fail
  have Hnear := Lib.hid (fun (j : Nat) (hj : (j : Int) < n) => cnt_near (a := a) (b := c) hn1 hn8 hs0 hsn (by omega : 0 ≤ (j : Int)) hj (by omega) (by omega))
  have Hbd := Lib.hid (fun (j : Nat) (hj : (j : Int) ≤ n) => sum_bd (a := a) (b := c) hn1 hn8 (by omega) (by omega) (by omega) j hj)
  have Hstep := Lib.hid (fun (j : Nat) (hj : (j : Int) < n) => take_sum (allS_get (a := a) (b := c) hn1 hn8 (by omega) (by omega) (by omega) j hj))
  have Hsum := Lib.hid (allS_sum (a := a) (b := c) hn1 hn8 (by omega) (by omega) (by omega))
  go_loop [121, 24, 26] (fun i t _ => ∃ k : Nat, (k : Int) ≤ n ∧ i = .int .i64 k ∧ t = .int .i64 ((allS n a c).take k).sum) (fun i _ _ => n.toNat - (intOf i).toNat)
  case atStart => exact ⟨0, by omega, rfl, rfl⟩
  case round =>
    obtain ⟨k, hk, rfl, rfl⟩ := hrel
    by_cases hlt : (k : Int) < n
    · have hlt' : k < m + 1 := by have := Hm.out; omega
      have hck := Hcell.out k hlt
      obtain ⟨nr1, nr2⟩ := Hnear.out k hlt
      obtain ⟨bd1, bd2⟩ := Hbd.out k hk
      obtain ⟨bd3, bd4⟩ := Hbd.out (k + 1) (by omega)
      have HS := Lib.hid (Hstep.out k hlt)
      rw [Hstep.out k hlt] at bd3 bd4
      go_wp2
      go_round
      case rel => exact ⟨k + 1, by omega, by go_num, by rw [HS.out]⟩
      case measure => simp [intOf]; omega
    · have hlt' : ¬ k < m + 1 := by have := Hm.out; omega
      obtain rfl : k = m + 1 := by have := Hm.out; omega
      have hk1 : n.toNat = m + 1 := by have := Hm.out; omega
      have HS := Hsum.out
      rw [hk1] at HS
      have hq : ((List.take (m + 1) (allS n a c)).sum == c - a) = true := by rw [HS]; simp
      clear HS hk1
      go_wp2
      go_ret
      exact ⟨rfl, hba.trans (hbb.mono hba.size)⟩
end Turn
end Go.Proofs.Ytpgdlpocgfgnfaa
