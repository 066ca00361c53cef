/- The law TurnWrong returns true. -/
import Derived.Test.YtpgdlpocgfgnfaaTurnP
namespace Go.Proofs.Ytpgdlpocgfgnfaa
open Go.RowKit Go.Shelf
set_option linter.unusedVariables false
set_option maxRecDepth 100000
namespace Turn

theorem bad3 {n a b s : Int} (h : slotB n s = false ∨ (boundsB a a = false ∧ boundsB a b = false)) : turnsS n a b s = (0, 2) ∧ nextS n a s = (0, 2) ∧ needS n a s 1 = (0, 2) := by
  rcases h with h | ⟨h, h'⟩
  · exact ⟨by rw [turnsS, if_neg (by rw [h]; simp)], by rw [nextS, if_neg (by rw [h]; simp)], by rw [needS, if_neg (by rw [h]; simp)]⟩
  · exact ⟨by rw [turnsS, if_neg (by rw [h']; simp)], by rw [nextS, if_neg (by rw [h]; simp)], by rw [needS, if_neg (by rw [h]; simp)]⟩

set_option maxHeartbeats 4000000 in
theorem lawWrong (a0 : Int) (w0 : (Lit.int .u8 a0).wf = true) (x : Int) (w1 : (Lit.int .i64 x).wf = true) (w : World) :
    Calls Try.prog 10 #[.int .u8 a0, .int .i64 x] w fun e w' => e = .returned (.bool true) ∧ Below w.heap.size w w' := by
  obtain ⟨h00, h01⟩ := bounds_u8 w0
  obtain ⟨h10, h11⟩ := bounds_i64 w1
  clear w0 w1
  go_enter Try.func10, Try.ntmps10
  go_wp2_with fail
  refine (awake_any _).mono ?_; rintro e wa ⟨rfl, hba⟩
  go_wp2_with fail
  have hn1 : 1 ≤ 1 + a0 % 8 := by omega
  have hn8 : 1 + a0 % 8 ≤ 8 := by omega
  generalize 1 + a0 % 8 = n at *
  have lo1 : min x (-1) ≤ -1 := by omega
  have lo2 : -9223372036854775808 ≤ min x (-1) := by omega
  generalize min x (-1) = lo at *
  have hi1 : 1099511627777 ≤ max x 1099511627777 := by omega
  have hi2 : max x 1099511627777 ≤ 9223372036854775807 := by omega
  generalize max x 1099511627777 = hi at *
  have z1 : min x 0 ≤ 0 := by omega
  generalize min x 0 = z at *
  have u1 : 9 ≤ max x 9 := by omega
  generalize max x 9 = u at *
  have hW : (wa.alloc (.cells #[.int .i64 z, .int .i64 1, .int .i64 2, .int .i64 0, .int .i64 u, .int .i64 1, .int .i64 2, .int .i64 0, .int .i64 n, .int .i64 lo, .int .i64 2, .int .i64 0, .int .i64 n, .int .i64 hi, .int .i64 hi, .int .i64 0, .int .i64 n, .int .i64 1, .int .i64 2, .int .i64 n, .int .i64 n, .int .i64 1, .int .i64 2, .int .i64 lo] 53)).heap[wa.heap.size]? = some (.cells #[.int .i64 z, .int .i64 1, .int .i64 2, .int .i64 0, .int .i64 u, .int .i64 1, .int .i64 2, .int .i64 0, .int .i64 n, .int .i64 lo, .int .i64 2, .int .i64 0, .int .i64 n, .int .i64 hi, .int .i64 hi, .int .i64 0, .int .i64 n, .int .i64 1, .int .i64 2, .int .i64 n, .int .i64 n, .int .i64 1, .int .i64 2, .int .i64 lo] 53 (0, 0)) := World.alloc_heap_new wa _
  have hL : Below wa.heap.size wa (wa.alloc (.cells #[.int .i64 z, .int .i64 1, .int .i64 2, .int .i64 0, .int .i64 u, .int .i64 1, .int .i64 2, .int .i64 0, .int .i64 n, .int .i64 lo, .int .i64 2, .int .i64 0, .int .i64 n, .int .i64 hi, .int .i64 hi, .int .i64 0, .int .i64 n, .int .i64 1, .int .i64 2, .int .i64 n, .int .i64 n, .int .i64 1, .int .i64 2, .int .i64 lo] 53)) := (Below.refl _ _).alloc (Nat.le_refl _) _
  generalize hW1 : wa.alloc (.cells #[.int .i64 z, .int .i64 1, .int .i64 2, .int .i64 0, .int .i64 u, .int .i64 1, .int .i64 2, .int .i64 0, .int .i64 n, .int .i64 lo, .int .i64 2, .int .i64 0, .int .i64 n, .int .i64 hi, .int .i64 hi, .int .i64 0, .int .i64 n, .int .i64 1, .int .i64 2, .int .i64 n, .int .i64 n, .int .i64 1, .int .i64 2, .int .i64 lo] 53) = W1 at *
  clear hW1
  have hlt : wa.heap.size < W1.heap.size := (Array.getElem?_eq_some_iff.1 hW).1
  go_loopw [67, 9, 10, 11, 12, 13, 14, 15] (fun i _ _ _ _ _ _ _ wr => ∃ j : Nat, j ≤ 6 ∧ i = .int .i64 j ∧ Below W1.heap.size W1 wr) (fun i _ _ _ _ _ _ _ _ => 6 - (intOf i).toNat)
  case atStart => exact ⟨0, by omega, rfl, Below.refl _ _⟩
  case round =>
    obtain ⟨j, hj, rfl, hB⟩ := hrel
    have hW' : wr.heap[wa.heap.size]? = some (.cells #[.int .i64 z, .int .i64 1, .int .i64 2, .int .i64 0, .int .i64 u, .int .i64 1, .int .i64 2, .int .i64 0, .int .i64 n, .int .i64 lo, .int .i64 2, .int .i64 0, .int .i64 n, .int .i64 hi, .int .i64 hi, .int .i64 0, .int .i64 n, .int .i64 1, .int .i64 2, .int .i64 n, .int .i64 n, .int .i64 1, .int .i64 2, .int .i64 lo] 53 (0, 0)) := (hB.block _ hlt).trans hW
    have q0 : wr.cell? ⟨wa.heap.size, 0, none⟩ = some (.int .i64 z) := by simp [World.cell?, hW']
    have q1 : wr.cell? ⟨wa.heap.size, 1, none⟩ = some (.int .i64 1) := by simp [World.cell?, hW']
    have q2 : wr.cell? ⟨wa.heap.size, 2, none⟩ = some (.int .i64 2) := by simp [World.cell?, hW']
    have q3 : wr.cell? ⟨wa.heap.size, 3, none⟩ = some (.int .i64 0) := by simp [World.cell?, hW']
    have q4 : wr.cell? ⟨wa.heap.size, 4, none⟩ = some (.int .i64 u) := by simp [World.cell?, hW']
    have q5 : wr.cell? ⟨wa.heap.size, 5, none⟩ = some (.int .i64 1) := by simp [World.cell?, hW']
    have q6 : wr.cell? ⟨wa.heap.size, 6, none⟩ = some (.int .i64 2) := by simp [World.cell?, hW']
    have q7 : wr.cell? ⟨wa.heap.size, 7, none⟩ = some (.int .i64 0) := by simp [World.cell?, hW']
    have q8 : wr.cell? ⟨wa.heap.size, 8, none⟩ = some (.int .i64 n) := by simp [World.cell?, hW']
    have q9 : wr.cell? ⟨wa.heap.size, 9, none⟩ = some (.int .i64 lo) := by simp [World.cell?, hW']
    have q10 : wr.cell? ⟨wa.heap.size, 10, none⟩ = some (.int .i64 2) := by simp [World.cell?, hW']
    have q11 : wr.cell? ⟨wa.heap.size, 11, none⟩ = some (.int .i64 0) := by simp [World.cell?, hW']
    have q12 : wr.cell? ⟨wa.heap.size, 12, none⟩ = some (.int .i64 n) := by simp [World.cell?, hW']
    have q13 : wr.cell? ⟨wa.heap.size, 13, none⟩ = some (.int .i64 hi) := by simp [World.cell?, hW']
    have q14 : wr.cell? ⟨wa.heap.size, 14, none⟩ = some (.int .i64 hi) := by simp [World.cell?, hW']
    have q15 : wr.cell? ⟨wa.heap.size, 15, none⟩ = some (.int .i64 0) := by simp [World.cell?, hW']
    have q16 : wr.cell? ⟨wa.heap.size, 16, none⟩ = some (.int .i64 n) := by simp [World.cell?, hW']
    have q17 : wr.cell? ⟨wa.heap.size, 17, none⟩ = some (.int .i64 1) := by simp [World.cell?, hW']
    have q18 : wr.cell? ⟨wa.heap.size, 18, none⟩ = some (.int .i64 2) := by simp [World.cell?, hW']
    have q19 : wr.cell? ⟨wa.heap.size, 19, none⟩ = some (.int .i64 n) := by simp [World.cell?, hW']
    have q20 : wr.cell? ⟨wa.heap.size, 20, none⟩ = some (.int .i64 n) := by simp [World.cell?, hW']
    have q21 : wr.cell? ⟨wa.heap.size, 21, none⟩ = some (.int .i64 1) := by simp [World.cell?, hW']
    have q22 : wr.cell? ⟨wa.heap.size, 22, none⟩ = some (.int .i64 2) := by simp [World.cell?, hW']
    have q23 : wr.cell? ⟨wa.heap.size, 23, none⟩ = some (.int .i64 lo) := by simp [World.cell?, hW']
    have hB' : ∀ o, Below W1.heap.size W1 (wr.alloc o) := fun o => hB.alloc hB.size o
    clear hW'
    have hcase : j = 0 ∨ j = 1 ∨ j = 2 ∨ j = 3 ∨ j = 4 ∨ j = 5 ∨ j = 6 := by omega
    rcases hcase with rfl | rfl | rfl | rfl | rfl | rfl | rfl
    · obtain ⟨b1, b2, b3⟩ := bad3 (n := z) (a := 1) (b := 2) (s := 0) (.inl (slotB_no (by omega)))
      have B1 := Lib.hid b1
      have B2 := Lib.hid b2
      have B3 := Lib.hid b3
      clear b1 b2 b3 hj
      go_wp2_with (first | (go_at_call 23; refine (Turns_any _ _ _ _ _).mono ?_; rintro e w' ⟨rfl, rfl⟩; rw [B1.out]) | (go_at_call 24; refine (Next_any _ _ _ _).mono ?_; rintro e w' ⟨rfl, rfl⟩; rw [B2.out]) | (go_at_call 21; refine (Need_any _ _ _ _ _ (by omega)).mono ?_; rintro e w' ⟨rfl, rfl⟩; rw [B3.out]))
      exact ⟨⟨1, by omega, rfl, hB' _⟩, by simp [intOf]⟩
    · obtain ⟨b1, b2, b3⟩ := bad3 (n := u) (a := 1) (b := 2) (s := 0) (.inl (slotB_no (by omega)))
      have B1 := Lib.hid b1
      have B2 := Lib.hid b2
      have B3 := Lib.hid b3
      clear b1 b2 b3 hj
      go_wp2_with (first | (go_at_call 23; refine (Turns_any _ _ _ _ _).mono ?_; rintro e w' ⟨rfl, rfl⟩; rw [B1.out]) | (go_at_call 24; refine (Next_any _ _ _ _).mono ?_; rintro e w' ⟨rfl, rfl⟩; rw [B2.out]) | (go_at_call 21; refine (Need_any _ _ _ _ _ (by omega)).mono ?_; rintro e w' ⟨rfl, rfl⟩; rw [B3.out]))
      exact ⟨⟨2, by omega, rfl, hB' _⟩, by simp [intOf]⟩
    · obtain ⟨b1, b2, b3⟩ := bad3 (n := n) (a := lo) (b := 2) (s := 0) (.inr ⟨boundsB_no (by omega), boundsB_no (by omega)⟩)
      have B1 := Lib.hid b1
      have B2 := Lib.hid b2
      have B3 := Lib.hid b3
      clear b1 b2 b3 hj
      go_wp2_with (first | (go_at_call 23; refine (Turns_any _ _ _ _ _).mono ?_; rintro e w' ⟨rfl, rfl⟩; rw [B1.out]) | (go_at_call 24; refine (Next_any _ _ _ _).mono ?_; rintro e w' ⟨rfl, rfl⟩; rw [B2.out]) | (go_at_call 21; refine (Need_any _ _ _ _ _ (by omega)).mono ?_; rintro e w' ⟨rfl, rfl⟩; rw [B3.out]))
      exact ⟨⟨3, by omega, rfl, hB' _⟩, by simp [intOf]⟩
    · obtain ⟨b1, b2, b3⟩ := bad3 (n := n) (a := hi) (b := hi) (s := 0) (.inr ⟨boundsB_no (by omega), boundsB_no (by omega)⟩)
      have B1 := Lib.hid b1
      have B2 := Lib.hid b2
      have B3 := Lib.hid b3
      clear b1 b2 b3 hj
      go_wp2_with (first | (go_at_call 23; refine (Turns_any _ _ _ _ _).mono ?_; rintro e w' ⟨rfl, rfl⟩; rw [B1.out]) | (go_at_call 24; refine (Next_any _ _ _ _).mono ?_; rintro e w' ⟨rfl, rfl⟩; rw [B2.out]) | (go_at_call 21; refine (Need_any _ _ _ _ _ (by omega)).mono ?_; rintro e w' ⟨rfl, rfl⟩; rw [B3.out]))
      exact ⟨⟨4, by omega, rfl, hB' _⟩, by simp [intOf]⟩
    · obtain ⟨b1, b2, b3⟩ := bad3 (n := n) (a := 1) (b := 2) (s := n) (.inl (slotB_no (by omega)))
      have B1 := Lib.hid b1
      have B2 := Lib.hid b2
      have B3 := Lib.hid b3
      clear b1 b2 b3 hj
      go_wp2_with (first | (go_at_call 23; refine (Turns_any _ _ _ _ _).mono ?_; rintro e w' ⟨rfl, rfl⟩; rw [B1.out]) | (go_at_call 24; refine (Next_any _ _ _ _).mono ?_; rintro e w' ⟨rfl, rfl⟩; rw [B2.out]) | (go_at_call 21; refine (Need_any _ _ _ _ _ (by omega)).mono ?_; rintro e w' ⟨rfl, rfl⟩; rw [B3.out]))
      exact ⟨⟨5, by omega, rfl, hB' _⟩, by simp [intOf]⟩
    · obtain ⟨b1, b2, b3⟩ := bad3 (n := n) (a := 1) (b := 2) (s := lo) (.inl (slotB_no (by omega)))
      have B1 := Lib.hid b1
      have B2 := Lib.hid b2
      have B3 := Lib.hid b3
      clear b1 b2 b3 hj
      go_wp2_with (first | (go_at_call 23; refine (Turns_any _ _ _ _ _).mono ?_; rintro e w' ⟨rfl, rfl⟩; rw [B1.out]) | (go_at_call 24; refine (Next_any _ _ _ _).mono ?_; rintro e w' ⟨rfl, rfl⟩; rw [B2.out]) | (go_at_call 21; refine (Need_any _ _ _ _ _ (by omega)).mono ?_; rintro e w' ⟨rfl, rfl⟩; rw [B3.out]))
      exact ⟨⟨6, by omega, rfl, hB' _⟩, by simp [intOf]⟩
    · clear hj hB'
      have F0 := (firstT_bd (a := 5) (s := 0) hn1 hn8).1
      have F1 := (firstT_bd (a := 1099511627776) (s := 0) hn1 hn8).1
      have M1 := mul_bds (k := hi - 1) hn1 hn8 (by omega)
      have M2 := mul_bds (k := hi) hn1 hn8 (by omega)
      have M3 : n * (hi - 1) = (hi - 1) * n := Int.mul_comm _ _
      have X1 : Hid (turnsS n 5 4 0 = (0, 2)) := by rw [Hid, turnsS, if_neg (by rw [boundsB_no (by omega)]; simp)]
      have X2 : Hid (needS n 5 0 lo = (0, 2)) := by rw [Hid, needS, if_neg (by omega)]
      have X3 : Hid (needS n 5 0 hi = (0, 5)) := by rw [Hid, needS, if_pos ⟨slotB_yes ⟨hn1, hn8, by omega, by omega⟩, by decide, by omega⟩, if_neg (by omega), if_neg (by omega)]
      have X4 : Hid (nextS n 1099511627776 0 = (0, 5)) := by rw [Hid, nextS, if_pos ⟨slotB_yes ⟨hn1, hn8, by omega, by omega⟩, by decide⟩, if_neg (by omega)]
      have X5 : Hid (enoughS n hi = (0, 5)) := by rw [Hid, enoughS, if_pos ⟨hn1, hn8, by omega⟩, if_neg (by omega)]
      have X6 : Hid (enoughS n lo = (0, 2)) := by rw [Hid, enoughS, if_neg (by omega)]
      have Y1 : Hid (skipE 0 lo = 2 ∧ skipT 0 lo = 0) := by rw [Hid, skipE, skipT, if_pos (by omega), if_pos (by omega)]; exact ⟨rfl, rfl⟩
      have Y2 : Hid (skipE 0 hi = 5 ∧ skipT 0 hi = 0) := by rw [Hid, skipE, skipT, if_neg (by omega), if_pos (by omega), if_neg (by omega), if_pos (by omega)]; exact ⟨rfl, rfl⟩
      clear F0 F1 M1 M2 M3
      go_wp2_with fail
      refine (Turns_any _ _ _ _ _).mono ?_; rintro e w' ⟨rfl, rfl⟩; rw [X1.out]
      go_wp2_with fail
      refine (Need_any _ _ _ _ _ (by omega)).mono ?_; rintro e w' ⟨rfl, rfl⟩; rw [X2.out]
      go_wp2_with fail
      refine (Need_any _ _ _ _ _ (by omega)).mono ?_; rintro e w' ⟨rfl, rfl⟩; rw [X3.out]
      go_wp2_with fail
      refine (Next_any _ _ _ _).mono ?_; rintro e w' ⟨rfl, rfl⟩; rw [X4.out]
      go_wp2_with fail
      refine (Enough_any _ _ _).mono ?_; rintro e w' ⟨rfl, rfl⟩; rw [X5.out]
      go_wp2_with fail
      refine (Enough_any _ _ _).mono ?_; rintro e w' ⟨rfl, rfl⟩; rw [X6.out]
      go_wp2_with fail
      refine (New_no _ (slotsB_no (by omega)) _).mono ?_; rintro e w' ⟨rfl, rfl⟩
      go_wp2_with fail
      refine (New_yes _ (slotsB_yes ⟨hn1, hn8⟩) _).mono ?_; rintro e w' ⟨rfl, rfl⟩
      have hw := Boxed2.new wr n 0
      have hBn : Below wr.heap.size wr (wr.alloc (.cells #[.int .i64 n, .int .i64 0] 31)) := (Below.refl _ _).alloc (Nat.le_refl _) _
      have hB9 : Below w.heap.size w (wr.alloc (.cells #[.int .i64 n, .int .i64 0] 31)) := (hba.trans ((hL.trans (hB.mono hL.size)).mono hba.size)).trans (hBn.mono (by have := hba.size; have := hL.size; have := hB.size; omega))
      have hle : w.heap.size ≤ wr.heap.size := by have := hba.size; have := hL.size; have := hB.size; omega
      generalize wr.heap.size = B at *
      generalize wr.alloc (.cells #[.int .i64 n, .int .i64 0] 31) = w9 at *
      clear hBn hB hW hL hlt
      go_wp2_with fail
      refine (Skip_at B n 0 lo _ hw hn1 (by omega) (by omega)).mono ?_; rintro e v1 ⟨rfl, hw1, hm1⟩; rw [Y1.out.1]; rw [Y1.out.2] at hw1
      go_wp2_with fail
      refine (Skip_at B n 0 hi _ hw1 hn1 (by omega) (by omega)).mono ?_; rintro e v2 ⟨rfl, hw2, hm2⟩; rw [Y2.out.1]; rw [Y2.out.2] at hw2
      go_wp2_with fail
      refine (Now_at B n 0 _ hw2 hn1).mono ?_; rintro e v3 ⟨rfl, hm3⟩
      have hw3 := hw2.below hm3
      go_wp2_with fail
      refine (Skip_at B n 0 _ _ hw3 hn1 (by omega) (by omega)).mono ?_; rintro e v4 ⟨rfl, hw4, hm4⟩
      rw [show skipE 0 1099511627775 = 0 by decide]
      rw [show skipT 0 1099511627775 = 1099511627775 by decide] at hw4
      go_wp2_with fail
      refine (Tick_yes B n _ _ hw4 hn1 (by omega) (by omega)).mono ?_; rintro e v5 ⟨rfl, hw5, hm5⟩
      go_wp2_with fail
      refine (Tick_no B n _ hw5 hn1).mono ?_; rintro e v6 ⟨rfl, hw6, hm6⟩
      go_wp2_with fail
      refine (Skip_at B n _ 1 _ hw6 hn1 (by omega) (by omega)).mono ?_; rintro e v7 ⟨rfl, hw7, hm7⟩
      rw [show skipE 1099511627776 1 = 5 by decide]
      rw [show skipT 1099511627776 1 = 1099511627776 by decide] at hw7
      go_wp2_with fail
      refine (Skip_at B n _ 0 _ hw7 hn1 (by omega) (by omega)).mono ?_; rintro e v8 ⟨rfl, hw8, hm8⟩
      rw [show skipE 1099511627776 0 = 0 by decide]
      rw [show skipT 1099511627776 0 = 1099511627776 by decide] at hw8
      go_wp2_with fail
      refine (Now_at B n _ _ hw8 hn1).mono ?_; rintro e v9 ⟨rfl, hm9⟩
      go_wp2_with fail
      go_ret
      have hm := (((((((hm1.trans hm2).trans (Mod.of_same hm3)).trans hm4).trans hm5).trans hm6).trans hm7).trans hm8).trans (Mod.of_same (S := (· = B)) hm9)
      exact ⟨rfl, hB9.trans (hm.below hB9.size (fun k hk e => by omega))⟩
end Turn
end Go.Proofs.Ytpgdlpocgfgnfaa
