/- The examples of the chapter hold ('awake' returns true), and the program tells what the reference tells ('tells' returns true) for every int. -/
import Derived.Test.YtpgdlpocgfgnfaaTurnF
namespace Go.Proofs.Ytpgdlpocgfgnfaa
open Go.RowKit Go.Shelf
set_option linter.unusedVariables false
set_option linter.unusedSimpArgs false
set_option maxRecDepth 100000
namespace Turn

theorem reads_lit3 (w : World) (a b c : Int) : Reads .i64 (w.alloc (.cells #[.int .i64 a, .int .i64 b, .int .i64 c] 3)) (.slice (some ⟨w.heap.size, 0, none⟩) 3 3) [a, b, c] := by
  refine .inr ⟨_, 0, 3, rfl, by simp [maxLen], fun i hi => ?_⟩
  have h3 : i < 3 := by simpa using hi
  rcases i with _ | _ | _ | i
  · simp
  · simp
  · simp
  · omega

theorem Boxed2.new (w : World) (n t : Int) : WheelAt (w.alloc (.cells #[.int .i64 n, .int .i64 t] 31)) w.heap.size n t := World.alloc_heap_new w _

set_option maxHeartbeats 1000000 in
theorem awake_any (w : World) : Calls Try.prog 12 #[] w fun e w' => e = .returned (.bool true) ∧ Below w.heap.size w w' := by
  have k1 : slotS 3 7 = (1, 0) := by decide
  have k2 : turnsS 3 2 9 2 = (3, 0) := by decide
  have k3 := Lib.hid (show allS 3 2 9 = [2, 2, 3] by decide)
  have k3e : allE 3 2 9 = 0 := by decide
  have k4 : nextS 3 4 0 = (6, 0) := by decide
  have k5 : needS 3 4 0 2 = (6, 0) := by decide
  have k6 : needS 3 4 0 0 = (0, 0) := by decide
  have k7 : enoughS 3 2 = (6, 0) := by decide
  have k8 : turnsS 2 0 3 0 = (2, 0) := by decide
  have k9 : skipE 3 4 = 0 := by decide
  have k10 : skipT 3 4 = 7 := by decide
  go_enter Try.func12, Try.ntmps12
  go_wp2_with fail
  refine (Slot_any _ _ _).mono ?_; rintro e w' ⟨rfl, rfl⟩
  go_wp2_with fail
  refine (Turns_any _ _ _ _ _).mono ?_; rintro e w' ⟨rfl, rfl⟩
  go_wp2_with fail
  refine (All_any _ _ _ _).mono ?_; rintro e w1 ⟨v, rfl, hv, hb1⟩
  rw [k3.out] at hv
  have hr := Reads.of_owns hv
  obtain ⟨g, cap, rfl⟩ := ownsRow_succ hv
  go_wp2_with fail
  refine (Next_any _ _ _ _).mono ?_; rintro e w' ⟨rfl, rfl⟩
  go_wp2_with fail
  refine (Need_any _ _ _ _ _ (by omega)).mono ?_; rintro e w' ⟨rfl, rfl⟩
  go_wp2_with fail
  refine (Need_any _ _ _ _ _ (by omega)).mono ?_; rintro e w' ⟨rfl, rfl⟩
  go_wp2_with fail
  refine (Enough_any _ _ _).mono ?_; rintro e w' ⟨rfl, rfl⟩
  go_wp2_with fail
  refine (New_yes _ (by decide) _).mono ?_; rintro e w' ⟨rfl, rfl⟩
  go_wp2_with fail
  refine (Equal_any _ _ [2, 2, 3] [2, 2, 3] _ (hr.mod (S := fun _ => False) (((Mod.refl _ _).alloc _).alloc _) (by simp)) (by have := reads_lit3 (w1.alloc (.cells #[.int .i64 2, .int .i64 0] 31)) 2 2 3; rw [World.size_alloc] at this; exact this)).mono ?_
  rintro e w2 ⟨rfl, nd, rfl⟩
  rw [show decide (([2, 2, 3] : List Int) = [2, 2, 3]) = true from rfl]
  have hw : WheelAt (((w1.alloc (.cells #[.int .i64 2, .int .i64 0] 31)).alloc (.cells #[.int .i64 2, .int .i64 2, .int .i64 3] 3)).drewN nd) w1.heap.size 2 0 :=
    (Boxed2.new w1 2 0).below (below_drewN ((Below.refl _ _).alloc (Nat.le_refl _) _) nd)
  have hB2 : Below w.heap.size w (((w1.alloc (.cells #[.int .i64 2, .int .i64 0] 31)).alloc (.cells #[.int .i64 2, .int .i64 2, .int .i64 3] 3)).drewN nd) := below_drewN ((hb1.alloc hb1.size _).alloc (by have := hb1.size; simp; omega) _) nd
  have hle : w.heap.size ≤ w1.heap.size := hb1.size
  generalize (((w1.alloc (.cells #[.int .i64 2, .int .i64 0] 31)).alloc (.cells #[.int .i64 2, .int .i64 2, .int .i64 3] 3)).drewN nd) = w2 at *
  generalize w1.heap.size = B at *
  go_wp2_with fail
  refine (Tick_yes B 2 0 _ hw (by omega) (by omega) (by omega)).mono ?_; rintro e w3 ⟨rfl, hw3, hm3⟩
  go_wp2_with fail
  refine (Tick_yes B 2 1 _ hw3 (by omega) (by omega) (by omega)).mono ?_; rintro e w4 ⟨rfl, hw4, hm4⟩
  go_wp2_with fail
  refine (Tick_yes B 2 2 _ hw4 (by omega) (by omega) (by omega)).mono ?_; rintro e w5 ⟨rfl, hw5, hm5⟩
  go_wp2_with fail
  refine (Had_at B 2 3 0 _ hw5 (by omega)).mono ?_; rintro e w6 ⟨rfl, hm6⟩
  have hw6 := hw5.below hm6
  go_wp2_with fail
  refine (Skip_at B 2 3 4 _ hw6 (by omega) (by omega) (by omega)).mono ?_; rintro e w7 ⟨rfl, hw7, hm7⟩
  rw [k10] at hw7
  go_wp2_with fail
  refine (Now_at B 2 7 _ hw7 (by omega)).mono ?_; rintro e w8 ⟨rfl, hm8⟩
  go_wp2_with fail
  go_ret
  have hm := ((((hm3.trans hm4).trans hm5).trans (Mod.of_same hm6)).trans hm7).trans (Mod.of_same (S := (· = B)) hm8)
  exact ⟨rfl, hB2.trans (hm.below hB2.size (fun k hk e => by omega))⟩

theorem reads_below {k : IntKind} {w w' : World} {v : Value} {zs : List Int} (h : Reads k w v zs) (hb : Below w.heap.size w w') : Reads k w' v zs := h.mod (Mod.of_same (S := fun _ => False) hb) (by simp)

set_option maxHeartbeats 2000000 in
theorem tells_any (n a b s k : Int) (hk : k ≤ 9223372036854775807) (w : World) : Calls Try.prog 11 #[.int .i64 n, .int .i64 a, .int .i64 b, .int .i64 s, .int .i64 k] w fun e w' => e = .returned (.bool true) ∧ Below w.heap.size w w' := by
  go_enter Try.func11, Try.ntmps11
  go_wp2_with fail
  refine (Slot_any _ _ _).mono ?_; rintro e w' ⟨rfl, rfl⟩
  go_wp2_with fail
  refine (Turns_any _ _ _ _ _).mono ?_; rintro e w' ⟨rfl, rfl⟩
  go_wp2_with fail
  refine (All_any _ _ _ _).mono ?_; rintro e w1 ⟨v, rfl, hv, hb1⟩
  have hr1 := Reads.of_owns hv
  go_wp2_with fail
  refine (Next_any _ _ _ _).mono ?_; rintro e w' ⟨rfl, rfl⟩
  go_wp2_with fail
  refine (Need_any _ _ _ _ _ hk).mono ?_; rintro e w' ⟨rfl, rfl⟩
  go_wp2_with fail
  refine (Enough_any _ _ _).mono ?_; rintro e w' ⟨rfl, rfl⟩
  go_wp2_with fail
  refine (rSlot_any _ _ _).mono ?_; rintro e w' ⟨rfl, rfl⟩
  go_wp2_with fail
  refine (rTurns_any _ _ _ _ _).mono ?_; rintro e w' ⟨rfl, rfl⟩
  go_wp2_with fail
  refine (rAll_any _ _ _ _).mono ?_; rintro e w2 ⟨v2, rfl, hv2, hb2⟩
  have hr2 := Reads.of_owns hv2
  have hr1' : Reads .i64 w2 v (allS n a b) := hr1.mod (Mod.of_same (S := fun _ => False) hb2) (by simp)
  go_wp2_with fail
  refine (rNext_any _ _ _ _).mono ?_; rintro e w' ⟨rfl, rfl⟩
  go_wp2_with fail
  refine (rNeed_any _ _ _ _ _ hk).mono ?_; rintro e w' ⟨rfl, rfl⟩
  go_wp2_with fail
  refine (rEnough_any _ _ _).mono ?_; rintro e w' ⟨rfl, rfl⟩
  have hB2 : Below w.heap.size w w2 := hb1.trans (hb2.mono hb1.size)
  clear hb1 hb2 hv hv2 hr1
  generalize slotS n a = p1 at *
  generalize turnsS n a b s = p2 at *
  generalize allE n a b = p3 at *
  generalize nextS n a s = p4 at *
  generalize needS n a s k = p5 at *
  generalize enoughS n k = p6 at *
  generalize allS n a b = L at *
  obtain ⟨p11, p12⟩ := p1
  obtain ⟨p21, p22⟩ := p2
  obtain ⟨p41, p42⟩ := p4
  obtain ⟨p51, p52⟩ := p5
  obtain ⟨p61, p62⟩ := p6
  go_wp2_with fail
  have hL : Below w2.heap.size w2 (w2.alloc (.cells #[.int .i64 p12, .int .i64 p22, .int .i64 p3, .int .i64 p42, .int .i64 p52, .int .i64 p62] 33)) := (Below.refl _ _).alloc (Nat.le_refl _) _
  have hW : (w2.alloc (.cells #[.int .i64 p12, .int .i64 p22, .int .i64 p3, .int .i64 p42, .int .i64 p52, .int .i64 p62] 33)).heap[w2.heap.size]? = some (.cells #[.int .i64 p12, .int .i64 p22, .int .i64 p3, .int .i64 p42, .int .i64 p52, .int .i64 p62] 33) := World.alloc_heap_new w2 _
  generalize hW2 : (w2.alloc (.cells #[.int .i64 p12, .int .i64 p22, .int .i64 p3, .int .i64 p42, .int .i64 p52, .int .i64 p62] 33)) = W2 at *
  clear hW2
  have hlt : w2.heap.size < W2.heap.size := (Array.getElem?_eq_some_iff.1 hW).1
  go_loopw [35, 36, 129] (fun _ _ i wr => ∃ j : Nat, j ≤ 6 ∧ i = .int .i64 j ∧ Below W2.heap.size W2 wr) (fun _ _ i _ => 6 - (intOf i).toNat)
  case atStart => exact ⟨0, by omega, rfl, Below.refl _ _⟩
  case round =>
    obtain ⟨j, hj, rfl, hB⟩ := hrel
    have hW' : wr.heap[w2.heap.size]? = some (.cells #[.int .i64 p12, .int .i64 p22, .int .i64 p3, .int .i64 p42, .int .i64 p52, .int .i64 p62] 33) := (hB.block _ hlt).trans hW
    have q0 : wr.cell? ⟨w2.heap.size, 0, none⟩ = some (.int .i64 p12) := by simp [World.cell?, hW']
    have q1 : wr.cell? ⟨w2.heap.size, 1, none⟩ = some (.int .i64 p22) := by simp [World.cell?, hW']
    have q2 : wr.cell? ⟨w2.heap.size, 2, none⟩ = some (.int .i64 p3) := by simp [World.cell?, hW']
    have q3 : wr.cell? ⟨w2.heap.size, 3, none⟩ = some (.int .i64 p42) := by simp [World.cell?, hW']
    have q4 : wr.cell? ⟨w2.heap.size, 4, none⟩ = some (.int .i64 p52) := by simp [World.cell?, hW']
    have q5 : wr.cell? ⟨w2.heap.size, 5, none⟩ = some (.int .i64 p62) := by simp [World.cell?, hW']
    have hB' : ∀ o, Below W2.heap.size W2 (wr.alloc o) := fun o => hB.alloc hB.size o
    have hcase : j = 0 ∨ j = 1 ∨ j = 2 ∨ j = 3 ∨ j = 4 ∨ j = 5 ∨ j = 6 := by omega
    clear hW'
    rcases hcase with rfl | rfl | rfl | rfl | rfl | rfl | rfl
    all_goals clear hj
    case inr.inr.inr.inr.inr.inr =>
      clear hB'
      go_wp2_with fail
      refine (Equal_any _ _ L L _ (reads_below hr1' (hL.trans (hB.mono hL.size))) (reads_below hr2 (hL.trans (hB.mono hL.size)))).mono ?_
      rintro e w3 ⟨rfl, nd, rfl⟩
      rw [show decide (L = L) = true from by simp]
      go_wp2_with fail
      go_ret
      exact ⟨rfl, below_drewN (hB2.trans ((hL.mono hB2.size).trans (hB.mono (by have := hB2.size; omega)))) nd⟩
    all_goals
      go_wp2
      first
        | exact ⟨⟨1, by omega, rfl, hB' _⟩, by simp [intOf]⟩
        | exact ⟨⟨2, by omega, rfl, hB' _⟩, by simp [intOf]⟩
        | exact ⟨⟨3, by omega, rfl, hB' _⟩, by simp [intOf]⟩
        | exact ⟨⟨4, by omega, rfl, hB' _⟩, by simp [intOf]⟩
        | exact ⟨⟨5, by omega, rfl, hB' _⟩, by simp [intOf]⟩
        | exact ⟨⟨6, by omega, rfl, hB' _⟩, by simp [intOf]⟩
end Turn
end Go.Proofs.Ytpgdlpocgfgnfaa
