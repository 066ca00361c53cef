/- What 'wheels' of the law of layer 39 does: it returns true for every int and every list of acts. -/
import Derived.Test.YtpgdlpocgfgnfaaTurnP
namespace Go.Proofs.Ytpgdlpocgfgnfaa
open Go.RowKit Go.Shelf
set_option linter.unusedVariables false
set_option maxRecDepth 100000
namespace Turn

/-- The slice value v reads as the acts l. -/
def Acts (w : World) (v : Value) (l : List (Int × Int)) : Prop :=
  (v = .slice none 0 0 ∧ l = []) ∨ (∃ x cap, v = .slice (some x) 0 cap ∧ l = [] ∧ cap ≤ maxLen) ∨ ∃ b off cap, v = .slice (some ⟨b, off, none⟩) l.length cap ∧ l.length ≤ cap ∧ cap ≤ maxLen ∧
    ∀ (i : Nat) (x : Int × Int), l[i]? = some x → w.cell? ⟨b, off + i * 2, none⟩ = some (.int .u8 x.1) ∧ w.cell? ⟨b, off + i * 2 + 1, none⟩ = some (.int .i64 x.2)
def ActsWf (l : List (Int × Int)) : Prop := ∀ (i : Nat) (x : Int × Int), l[i]? = some x → (0 ≤ x.1 ∧ x.1 ≤ 255) ∧ -9223372036854775808 ≤ x.2 ∧ x.2 ≤ 9223372036854775807

theorem wrap_u64_nonneg (x : Int) : 0 ≤ IntKind.u64.wrap x := by
  simp [IntKind.wrap, IntKind.signed, IntKind.bits]
  omega

theorem wheels_no (n slot : Int) (v : Value) (h : slotsB n = false) (w : World) :
    Calls Try.prog 13 #[.int .i64 n, v, .int .i64 slot] w fun e w' => e = .returned (.bool true) ∧ Below w.heap.size w w' := by
  have X1 : Hid (slotS n 0 = (0, 2)) := by
    have : ¬ (1 ≤ n ∧ n ≤ 8) := by simpa [slotsB] using h
    rw [Hid, slotS, if_neg (by omega)]
  go_enter Try.func13, Try.ntmps13
  go_wp2_with fail
  refine (New_no _ h _).mono ?_; rintro e w' ⟨rfl, rfl⟩
  go_wp2_with fail
  refine (rSlot_any _ _ _).mono ?_; rintro e w' ⟨rfl, rfl⟩; rw [X1.out]
  go_wp2_with fail
  go_ret
  exact ⟨rfl, Below.refl _ _⟩

set_option maxHeartbeats 4000000 in
theorem wheels_yes (n slot : Int) (b off len cap : Nat) (l : List (Int × Int)) (h : slotsB n = true) (w : World) (hlc : len ≤ cap) (hcm : cap ≤ maxLen) (hl : l.length = len)
    (hc : ∀ (i : Nat) (x : Int × Int), l[i]? = some x → w.cell? ⟨b, off + i * 2, none⟩ = some (.int .u8 x.1) ∧ w.cell? ⟨b, off + i * 2 + 1, none⟩ = some (.int .i64 x.2)) (hwf : ActsWf l) :
    Calls Try.prog 13 #[.int .i64 n, .slice (some ⟨b, off, none⟩) len cap, .int .i64 slot] w fun e w' => e = .returned (.bool true) ∧ Below w.heap.size w w' := by
  have hn : 1 ≤ n ∧ n ≤ 8 := by simpa [slotsB] using h
  obtain ⟨hn1, hn8⟩ := hn
  unfold maxLen at hcm
  have X1 := Lib.hid (slotS_yes (n := n) (t := 0) hn1 hn8 (by omega) (by omega))
  obtain ⟨m, hm, hm1, hm2⟩ : ∃ m : Nat, min (len : Int) 60 = m ∧ m ≤ len ∧ m ≤ 60 := ⟨(min (len : Int) 60).toNat, by omega, by omega, by omega⟩
  have Hc := Lib.hid hc
  have Hl := Lib.hid hl
  clear hc hl
  go_enter Try.func13, Try.ntmps13
  go_wp2_with fail
  refine (New_yes _ h _).mono ?_; rintro e w' ⟨rfl, rfl⟩
  go_wp2_with fail
  refine (rSlot_any _ _ _).mono ?_; rintro e w' ⟨rfl, rfl⟩; rw [X1.out]
  have hw := Boxed2.new w n 0
  have hB0 : Below w.heap.size w (w.alloc (.cells #[.int .i64 n, .int .i64 0] 31)) := (Below.refl _ _).alloc (Nat.le_refl _) _
  generalize hW : w.alloc (.cells #[.int .i64 n, .int .i64 0] 31) = W at *
  clear hW
  go_wp2_with fail
  go_loopw [59, 11, 13, 14, 15, 16, 17, 18, 19, 20, 21] (fun i t _ _ _ _ _ _ _ _ _ wr => ∃ (k : Nat) (t0 : Int), k ≤ m ∧ i = .int .i64 k ∧ t = .int .i64 t0 ∧ 0 ≤ t0 ∧ t0 ≤ 1099511627776 ∧ WheelAt wr w.heap.size n t0 ∧ Below w.heap.size W wr) (fun i _ _ _ _ _ _ _ _ _ _ _ => m - (intOf i).toNat)
  case atStart => exact ⟨0, 0, by omega, rfl, rfl, by omega, by omega, hw, Below.refl _ _⟩
  case round =>
    obtain ⟨k, t, hk, rfl, rfl, ht0, ht1, hwk, hB⟩ := hrel
    by_cases hlt : k < m
    · obtain ⟨x, hx⟩ : ∃ x, l[k]? = some x := ⟨l[k]'(by have := Hl.out; omega), List.getElem?_eq_getElem _⟩
      obtain ⟨c0, c1⟩ := Hc.out k x hx
      obtain ⟨⟨k0, k1⟩, n0, n1⟩ := hwf k x hx
      obtain ⟨xk, xn⟩ := x
      simp only at c0 c1 k0 k1 n0 n1
      have hbl : b < w.heap.size := World.block_lt_of_cell? w _ c0
      have d0 := (hB.cell (p := ⟨b, off + k * 2, none⟩) hbl).trans ((hB0.cell (p := ⟨b, off + k * 2, none⟩) hbl).trans c0)
      have d1 := (hB.cell (p := ⟨b, off + k * 2 + 1, none⟩) hbl).trans ((hB0.cell (p := ⟨b, off + k * 2 + 1, none⟩) hbl).trans c1)
      clear c0 c1 hx
      have hwa : WheelAt (wr.alloc (.cells #[.int .u8 xk, .int .i64 xn] 27)) w.heap.size n t := hwk.below ((Below.refl _ _).alloc (Nat.le_refl _) _)
      have hwW : w.heap.size ≤ W.heap.size := hB0.size
      clear hB0
      have hkind : xk % 4 = 0 ∨ xk % 4 = 1 ∨ xk % 4 = 2 ∨ xk % 4 = 3 := by omega
      rcases hkind with hk2 | hk2 | hk2 | hk2
      · have hb0 : (xk % 4 == 0) = true := by simp [hk2]
        have hb1 : (xk % 4 == 1) = false := by simp [hk2]
        clear hk2
        by_cases ht : t < 1099511627776
        · have S1 := Lib.hid (slotS_yes (n := n) (t := t) hn1 hn8 ht0 ht)
          go_wp2_with fail
          refine (Tick_yes _ n t _ hwa hn1 ht0 ht).mono ?_; rintro e v1 ⟨rfl, hw1, hm1⟩
          go_wp2_with fail
          refine (rSlot_any _ _ _).mono ?_; rintro e w' ⟨rfl, rfl⟩; rw [S1.out]
          go_wp2_with fail
          refine (rTurns_any _ _ _ _ _).mono ?_; rintro e w' ⟨rfl, rfl⟩
          go_wp2_with fail
          refine (Now_at _ n (t + 1) _ hw1 hn1).mono ?_; rintro e v2 ⟨rfl, hm2⟩
          have hw2 := hw1.below hm2
          go_wp2_with fail
          refine (Had_at _ n (t + 1) slot _ hw2 hn1).mono ?_; rintro e v3 ⟨rfl, hm3⟩
          have hw3 := hw2.below hm3
          go_wp2_with fail
          refine (Slots_at _ n (t + 1) _ hw3 hn1).mono ?_; rintro e v4 ⟨rfl, hm4⟩
          have hw4 := hw3.below hm4
          go_wp2_with fail
          have hmm := (((((Mod.refl (· = w.heap.size) wr).alloc (.cells #[.int .u8 xk, .int .i64 xn] 27)).trans hm1).trans (Mod.of_same hm2)).trans (Mod.of_same hm3)).trans (Mod.of_same hm4)
          have hB4 : Below w.heap.size W v4 := hB.trans (hmm.below (by have := hB.size; have := hwW; omega) (fun k hk e => by omega))
          clear hmm hm1 hm2 hm3 hm4 hw1 hw2 hw3 d0 d1 hwk
          go_roundw
          case rel => exact ⟨k + 1, (t + 1), by omega, by go_num, rfl, by omega, by omega, hw4, hB4⟩
          case measure => simp [intOf]; omega
        · obtain rfl : t = 1099511627776 := by omega
          have S1 : Hid (slotS n 1099511627776 = (0, 2)) := by rw [Hid, slotS, if_neg (by omega)]
          clear ht
          go_wp2_with fail
          refine (Tick_no _ n _ hwa hn1).mono ?_; rintro e v1 ⟨rfl, hw1, hm1⟩
          go_wp2_with fail
          refine (rSlot_any _ _ _).mono ?_; rintro e w' ⟨rfl, rfl⟩; rw [S1.out]
          go_wp2_with fail
          refine (rTurns_any _ _ _ _ _).mono ?_; rintro e w' ⟨rfl, rfl⟩
          go_wp2_with fail
          refine (Now_at _ n 1099511627776 _ hw1 hn1).mono ?_; rintro e v2 ⟨rfl, hm2⟩
          have hw2 := hw1.below hm2
          go_wp2_with fail
          refine (Had_at _ n 1099511627776 slot _ hw2 hn1).mono ?_; rintro e v3 ⟨rfl, hm3⟩
          have hw3 := hw2.below hm3
          go_wp2_with fail
          refine (Slots_at _ n 1099511627776 _ hw3 hn1).mono ?_; rintro e v4 ⟨rfl, hm4⟩
          have hw4 := hw3.below hm4
          go_wp2_with fail
          have hmm := (((((Mod.refl (· = w.heap.size) wr).alloc (.cells #[.int .u8 xk, .int .i64 xn] 27)).trans hm1).trans (Mod.of_same hm2)).trans (Mod.of_same hm3)).trans (Mod.of_same hm4)
          have hB4 : Below w.heap.size W v4 := hB.trans (hmm.below (by have := hB.size; have := hwW; omega) (fun k hk e => by omega))
          clear hmm hm1 hm2 hm3 hm4 hw1 hw2 hw3 d0 d1 hwk
          go_roundw
          case rel => exact ⟨k + 1, 1099511627776, by omega, by go_num, rfl, by omega, by omega, hw4, hB4⟩
          case measure => simp [intOf]; omega
      · have hb0 : (xk % 4 == 0) = false := by simp [hk2]
        have hb1 : (xk % 4 == 1) = true := by simp [hk2]
        clear hk2
        by_cases ht : t < 1099511627776
        · have S1 := Lib.hid (slotS_yes (n := n) (t := t) hn1 hn8 ht0 ht)
          go_wp2_with fail
          refine (Tick_yes _ n t _ hwa hn1 ht0 ht).mono ?_; rintro e v1 ⟨rfl, hw1, hm1⟩
          go_wp2_with fail
          refine (rSlot_any _ _ _).mono ?_; rintro e w' ⟨rfl, rfl⟩; rw [S1.out]
          go_wp2_with fail
          refine (rTurns_any _ _ _ _ _).mono ?_; rintro e w' ⟨rfl, rfl⟩
          go_wp2_with fail
          refine (Now_at _ n (t + 1) _ hw1 hn1).mono ?_; rintro e v2 ⟨rfl, hm2⟩
          have hw2 := hw1.below hm2
          go_wp2_with fail
          refine (Had_at _ n (t + 1) slot _ hw2 hn1).mono ?_; rintro e v3 ⟨rfl, hm3⟩
          have hw3 := hw2.below hm3
          go_wp2_with fail
          refine (Slots_at _ n (t + 1) _ hw3 hn1).mono ?_; rintro e v4 ⟨rfl, hm4⟩
          have hw4 := hw3.below hm4
          go_wp2_with fail
          have hmm := (((((Mod.refl (· = w.heap.size) wr).alloc (.cells #[.int .u8 xk, .int .i64 xn] 27)).trans hm1).trans (Mod.of_same hm2)).trans (Mod.of_same hm3)).trans (Mod.of_same hm4)
          have hB4 : Below w.heap.size W v4 := hB.trans (hmm.below (by have := hB.size; have := hwW; omega) (fun k hk e => by omega))
          clear hmm hm1 hm2 hm3 hm4 hw1 hw2 hw3 d0 d1 hwk
          go_roundw
          case rel => exact ⟨k + 1, (t + 1), by omega, by go_num, rfl, by omega, by omega, hw4, hB4⟩
          case measure => simp [intOf]; omega
        · obtain rfl : t = 1099511627776 := by omega
          have S1 : Hid (slotS n 1099511627776 = (0, 2)) := by rw [Hid, slotS, if_neg (by omega)]
          clear ht
          go_wp2_with fail
          refine (Tick_no _ n _ hwa hn1).mono ?_; rintro e v1 ⟨rfl, hw1, hm1⟩
          go_wp2_with fail
          refine (rSlot_any _ _ _).mono ?_; rintro e w' ⟨rfl, rfl⟩; rw [S1.out]
          go_wp2_with fail
          refine (rTurns_any _ _ _ _ _).mono ?_; rintro e w' ⟨rfl, rfl⟩
          go_wp2_with fail
          refine (Now_at _ n 1099511627776 _ hw1 hn1).mono ?_; rintro e v2 ⟨rfl, hm2⟩
          have hw2 := hw1.below hm2
          go_wp2_with fail
          refine (Had_at _ n 1099511627776 slot _ hw2 hn1).mono ?_; rintro e v3 ⟨rfl, hm3⟩
          have hw3 := hw2.below hm3
          go_wp2_with fail
          refine (Slots_at _ n 1099511627776 _ hw3 hn1).mono ?_; rintro e v4 ⟨rfl, hm4⟩
          have hw4 := hw3.below hm4
          go_wp2_with fail
          have hmm := (((((Mod.refl (· = w.heap.size) wr).alloc (.cells #[.int .u8 xk, .int .i64 xn] 27)).trans hm1).trans (Mod.of_same hm2)).trans (Mod.of_same hm3)).trans (Mod.of_same hm4)
          have hB4 : Below w.heap.size W v4 := hB.trans (hmm.below (by have := hB.size; have := hwW; omega) (fun k hk e => by omega))
          clear hmm hm1 hm2 hm3 hm4 hw1 hw2 hw3 d0 d1 hwk
          go_roundw
          case rel => exact ⟨k + 1, 1099511627776, by omega, by go_num, rfl, by omega, by omega, hw4, hB4⟩
          case measure => simp [intOf]; omega
      · have hb0 : (xk % 4 == 0) = false := by simp [hk2]
        have hb1 : (xk % 4 == 1) = false := by simp [hk2]
        have hb3 : (xk % 4 == 3) = false := by simp [hk2]
        clear hk2
        by_cases hx0 : xn < 0
        · go_wp2_with fail
          refine (Skip_at _ n t _ _ hwa hn1 ht0 ht1).mono ?_; rintro e v1 ⟨rfl, hw1, hm1⟩
          rw [skipE, if_pos (by omega)]; rw [skipT, if_pos (by omega)] at hw1
          go_wp2_with fail
          refine (rTurns_any _ _ _ _ _).mono ?_; rintro e w' ⟨rfl, rfl⟩
          go_wp2_with fail
          refine (Now_at _ n t _ hw1 hn1).mono ?_; rintro e v2 ⟨rfl, hm2⟩
          have hw2 := hw1.below hm2
          go_wp2_with fail
          refine (Had_at _ n t slot _ hw2 hn1).mono ?_; rintro e v3 ⟨rfl, hm3⟩
          have hw3 := hw2.below hm3
          go_wp2_with fail
          refine (Slots_at _ n t _ hw3 hn1).mono ?_; rintro e v4 ⟨rfl, hm4⟩
          have hw4 := hw3.below hm4
          go_wp2_with fail
          have hmm := (((((Mod.refl (· = w.heap.size) wr).alloc (.cells #[.int .u8 xk, .int .i64 xn] 27)).trans hm1).trans (Mod.of_same hm2)).trans (Mod.of_same hm3)).trans (Mod.of_same hm4)
          have hB4 : Below w.heap.size W v4 := hB.trans (hmm.below (by have := hB.size; have := hwW; omega) (fun k hk e => by omega))
          clear hmm hm1 hm2 hm3 hm4 hw1 hw2 hw3 d0 d1 hwk
          go_roundw
          case rel => exact ⟨k + 1, t, by omega, by go_num, rfl, by omega, by omega, hw4, hB4⟩
          case measure => simp [intOf]; omega
        · by_cases hx1 : 1099511627776 - t < xn
          · go_wp2_with fail
            refine (Skip_at _ n t _ _ hwa hn1 ht0 ht1).mono ?_; rintro e v1 ⟨rfl, hw1, hm1⟩
            rw [skipE, if_neg (by omega), if_pos (by omega)]; rw [skipT, if_neg (by omega), if_pos (by omega)] at hw1
            go_wp2_with fail
            refine (rTurns_any _ _ _ _ _).mono ?_; rintro e w' ⟨rfl, rfl⟩
            go_wp2_with fail
            refine (Now_at _ n t _ hw1 hn1).mono ?_; rintro e v2 ⟨rfl, hm2⟩
            have hw2 := hw1.below hm2
            go_wp2_with fail
            refine (Had_at _ n t slot _ hw2 hn1).mono ?_; rintro e v3 ⟨rfl, hm3⟩
            have hw3 := hw2.below hm3
            go_wp2_with fail
            refine (Slots_at _ n t _ hw3 hn1).mono ?_; rintro e v4 ⟨rfl, hm4⟩
            have hw4 := hw3.below hm4
            go_wp2_with fail
            have hmm := (((((Mod.refl (· = w.heap.size) wr).alloc (.cells #[.int .u8 xk, .int .i64 xn] 27)).trans hm1).trans (Mod.of_same hm2)).trans (Mod.of_same hm3)).trans (Mod.of_same hm4)
            have hB4 : Below w.heap.size W v4 := hB.trans (hmm.below (by have := hB.size; have := hwW; omega) (fun k hk e => by omega))
            clear hmm hm1 hm2 hm3 hm4 hw1 hw2 hw3 d0 d1 hwk
            go_roundw
            case rel => exact ⟨k + 1, t, by omega, by go_num, rfl, by omega, by omega, hw4, hB4⟩
            case measure => simp [intOf]; omega
          · go_wp2_with fail
            refine (Skip_at _ n t _ _ hwa hn1 ht0 ht1).mono ?_; rintro e v1 ⟨rfl, hw1, hm1⟩
            rw [skipE, if_neg (by omega), if_neg (by omega)]; rw [skipT, if_neg (by omega), if_neg (by omega)] at hw1
            go_wp2_with fail
            refine (rTurns_any _ _ _ _ _).mono ?_; rintro e w' ⟨rfl, rfl⟩
            go_wp2_with fail
            refine (Now_at _ n (t + xn) _ hw1 hn1).mono ?_; rintro e v2 ⟨rfl, hm2⟩
            have hw2 := hw1.below hm2
            go_wp2_with fail
            refine (Had_at _ n (t + xn) slot _ hw2 hn1).mono ?_; rintro e v3 ⟨rfl, hm3⟩
            have hw3 := hw2.below hm3
            go_wp2_with fail
            refine (Slots_at _ n (t + xn) _ hw3 hn1).mono ?_; rintro e v4 ⟨rfl, hm4⟩
            have hw4 := hw3.below hm4
            go_wp2_with fail
            have hmm := (((((Mod.refl (· = w.heap.size) wr).alloc (.cells #[.int .u8 xk, .int .i64 xn] 27)).trans hm1).trans (Mod.of_same hm2)).trans (Mod.of_same hm3)).trans (Mod.of_same hm4)
            have hB4 : Below w.heap.size W v4 := hB.trans (hmm.below (by have := hB.size; have := hwW; omega) (fun k hk e => by omega))
            clear hmm hm1 hm2 hm3 hm4 hw1 hw2 hw3 d0 d1 hwk
            go_roundw
            case rel => exact ⟨k + 1, (t + xn), by omega, by go_num, rfl, by omega, by omega, hw4, hB4⟩
            case measure => simp [intOf]; omega
      · have hb0 : (xk % 4 == 0) = false := by simp [hk2]
        have hb1 : (xk % 4 == 1) = false := by simp [hk2]
        have hb3 : (xk % 4 == 3) = true := by simp [hk2]
        clear hk2
        have hu : 0 ≤ IntKind.u64.wrap xn := wrap_u64_nonneg xn
        by_cases hx0 : (1099511627776 - t - IntKind.u64.wrap xn % 5) < 0
        · go_wp2_with fail
          refine (Skip_at _ n t _ _ hwa hn1 ht0 ht1).mono ?_; rintro e v1 ⟨rfl, hw1, hm1⟩
          rw [skipE, if_pos (by omega)]; rw [skipT, if_pos (by omega)] at hw1
          go_wp2_with fail
          refine (rTurns_any _ _ _ _ _).mono ?_; rintro e w' ⟨rfl, rfl⟩
          go_wp2_with fail
          refine (Now_at _ n t _ hw1 hn1).mono ?_; rintro e v2 ⟨rfl, hm2⟩
          have hw2 := hw1.below hm2
          go_wp2_with fail
          refine (Had_at _ n t slot _ hw2 hn1).mono ?_; rintro e v3 ⟨rfl, hm3⟩
          have hw3 := hw2.below hm3
          go_wp2_with fail
          refine (Slots_at _ n t _ hw3 hn1).mono ?_; rintro e v4 ⟨rfl, hm4⟩
          have hw4 := hw3.below hm4
          go_wp2_with fail
          have hmm := (((((Mod.refl (· = w.heap.size) wr).alloc (.cells #[.int .u8 xk, .int .i64 xn] 27)).trans hm1).trans (Mod.of_same hm2)).trans (Mod.of_same hm3)).trans (Mod.of_same hm4)
          have hB4 : Below w.heap.size W v4 := hB.trans (hmm.below (by have := hB.size; have := hwW; omega) (fun k hk e => by omega))
          clear hmm hm1 hm2 hm3 hm4 hw1 hw2 hw3 d0 d1 hwk
          go_roundw
          case rel => exact ⟨k + 1, t, by omega, by go_num, rfl, by omega, by omega, hw4, hB4⟩
          case measure => simp [intOf]; omega
        · by_cases hx1 : 1099511627776 - t < (1099511627776 - t - IntKind.u64.wrap xn % 5)
          · omega
          · go_wp2_with fail
            refine (Skip_at _ n t _ _ hwa hn1 ht0 ht1).mono ?_; rintro e v1 ⟨rfl, hw1, hm1⟩
            rw [skipE, if_neg (by omega), if_neg (by omega)]; rw [skipT, if_neg (by omega), if_neg (by omega)] at hw1
            go_wp2_with fail
            refine (rTurns_any _ _ _ _ _).mono ?_; rintro e w' ⟨rfl, rfl⟩
            go_wp2_with fail
            refine (Now_at _ n (t + (1099511627776 - t - IntKind.u64.wrap xn % 5)) _ hw1 hn1).mono ?_; rintro e v2 ⟨rfl, hm2⟩
            have hw2 := hw1.below hm2
            go_wp2_with fail
            refine (Had_at _ n (t + (1099511627776 - t - IntKind.u64.wrap xn % 5)) slot _ hw2 hn1).mono ?_; rintro e v3 ⟨rfl, hm3⟩
            have hw3 := hw2.below hm3
            go_wp2_with fail
            refine (Slots_at _ n (t + (1099511627776 - t - IntKind.u64.wrap xn % 5)) _ hw3 hn1).mono ?_; rintro e v4 ⟨rfl, hm4⟩
            have hw4 := hw3.below hm4
            go_wp2_with fail
            have hmm := (((((Mod.refl (· = w.heap.size) wr).alloc (.cells #[.int .u8 xk, .int .i64 xn] 27)).trans hm1).trans (Mod.of_same hm2)).trans (Mod.of_same hm3)).trans (Mod.of_same hm4)
            have hB4 : Below w.heap.size W v4 := hB.trans (hmm.below (by have := hB.size; have := hwW; omega) (fun k hk e => by omega))
            clear hmm hm1 hm2 hm3 hm4 hw1 hw2 hw3 d0 d1 hwk
            go_roundw
            case rel => exact ⟨k + 1, (t + (1099511627776 - t - IntKind.u64.wrap xn % 5)), by omega, by go_num, rfl, by omega, by omega, hw4, hB4⟩
            case measure => simp [intOf]; omega
    · obtain rfl : k = m := by omega
      go_wp2_with fail
      go_ret
      exact ⟨rfl, hB0.trans hB⟩

set_option maxHeartbeats 1000000 in
theorem wheels_nil (n slot : Int)  (h : slotsB n = true) (w : World) :
    Calls Try.prog 13 #[.int .i64 n, .slice none 0 0, .int .i64 slot] w fun e w' => e = .returned (.bool true) ∧ Below w.heap.size w w' := by
  have hn : 1 ≤ n ∧ n ≤ 8 := by simpa [slotsB] using h
  obtain ⟨hn1, hn8⟩ := hn
  have X1 := Lib.hid (slotS_yes (n := n) (t := 0) hn1 hn8 (by omega) (by omega))
  have hm : min (0 : Int) 60 = 0 := by decide
  go_enter Try.func13, Try.ntmps13
  go_wp2_with fail
  refine (New_yes _ h _).mono ?_; rintro e w' ⟨rfl, rfl⟩
  go_wp2_with fail
  refine (rSlot_any _ _ _).mono ?_; rintro e w' ⟨rfl, rfl⟩; rw [X1.out]
  have hB0 : Below w.heap.size w (w.alloc (.cells #[.int .i64 n, .int .i64 0] 31)) := (Below.refl _ _).alloc (Nat.le_refl _) _
  generalize hW : w.alloc (.cells #[.int .i64 n, .int .i64 0] 31) = W at *
  clear hW
  go_wp2_with fail
  go_loop [59, 11, 13, 14, 15, 16, 17, 18, 19, 20, 21] (fun i _ _ _ _ _ _ _ _ _ _ => i = .int .i64 0) (fun _ _ _ _ _ _ _ _ _ _ _ => 0)
  case atStart => rfl
  case round =>
    subst hrel
    go_wp2_with fail
    go_ret
    exact ⟨rfl, hB0⟩

set_option maxHeartbeats 1000000 in
theorem wheels_zero (n slot : Int) (x : Addr) (cap : Nat) (hc : cap ≤ maxLen) (h : slotsB n = true) (w : World) :
    Calls Try.prog 13 #[.int .i64 n, .slice (some x) 0 cap, .int .i64 slot] w fun e w' => e = .returned (.bool true) ∧ Below w.heap.size w w' := by
  have hn : 1 ≤ n ∧ n ≤ 8 := by simpa [slotsB] using h
  obtain ⟨hn1, hn8⟩ := hn
  have X1 := Lib.hid (slotS_yes (n := n) (t := 0) hn1 hn8 (by omega) (by omega))
  have hm : min (0 : Int) 60 = 0 := by decide
  unfold maxLen at hc
  go_enter Try.func13, Try.ntmps13
  go_wp2_with fail
  refine (New_yes _ h _).mono ?_; rintro e w' ⟨rfl, rfl⟩
  go_wp2_with fail
  refine (rSlot_any _ _ _).mono ?_; rintro e w' ⟨rfl, rfl⟩; rw [X1.out]
  have hB0 : Below w.heap.size w (w.alloc (.cells #[.int .i64 n, .int .i64 0] 31)) := (Below.refl _ _).alloc (Nat.le_refl _) _
  generalize hW : w.alloc (.cells #[.int .i64 n, .int .i64 0] 31) = W at *
  clear hW
  go_wp2_with fail
  go_loop [59, 11, 13, 14, 15, 16, 17, 18, 19, 20, 21] (fun i _ _ _ _ _ _ _ _ _ _ => i = .int .i64 0) (fun _ _ _ _ _ _ _ _ _ _ _ => 0)
  case atStart => rfl
  case round =>
    subst hrel
    go_wp2_with fail
    go_ret
    exact ⟨rfl, hB0⟩

theorem wheels_any (n slot : Int) (v : Value) (l : List (Int × Int)) (w : World) (hl : Acts w v l) (hwf : ActsWf l) :
    Calls Try.prog 13 #[.int .i64 n, v, .int .i64 slot] w fun e w' => e = .returned (.bool true) ∧ Below w.heap.size w w' := by
  by_cases h : slotsB n = true
  · rcases hl with ⟨rfl, rfl⟩ | ⟨x, cap, rfl, rfl, hc⟩ | ⟨b, off, cap, rfl, h1, h2, h3⟩
    · exact wheels_nil n slot h w
    · exact wheels_zero n slot x cap hc h w
    · exact wheels_yes n slot b off l.length cap l h w h1 h2 rfl h3 hwf
  · exact wheels_no n slot v (by simpa using h) w

theorem acts_of (w : World) (x : Addr) (len cap : Nat) (V0 V1 : Nat → Value) (hl : len ≤ cap) (hm : cap ≤ maxLen)
    (h : ∀ i, i < len → w.cell? (x.add (i * 2)) = some (V0 i) ∧ w.cell? (x.add (i * 2 + 1)) = some (V1 i) ∧ (∃ k, V0 i = .int .u8 k ∧ (Lit.int .u8 k).wf = true) ∧ ∃ k, V1 i = .int .i64 k ∧ (Lit.int .i64 k).wf = true) :
    ∃ l, Acts w (.slice (some x) len cap) l ∧ ActsWf l := by
  by_cases h0 : len = 0
  · subst h0
    exact ⟨[], .inr (.inl ⟨x, cap, rfl, rfl, hm⟩), fun i y hy => by simp at hy⟩
  · obtain ⟨b, off, spot⟩ := x
    have hspot : spot = none := by simpa [Addr.add] using World.cell?_spot (h 0 (by omega)).1
    subst hspot
    refine ⟨(List.range len).map fun i => (intOf (V0 i), intOf (V1 i)), .inr (.inr ⟨b, off, cap, by simp, by simpa using hl, hm, fun i y hy => ?_⟩), fun i y hy => ?_⟩
    · rw [List.getElem?_map] at hy
      have hi : i < len := by
        rcases Nat.lt_or_ge i len with hi | hi
        · exact hi
        · rw [List.getElem?_eq_none (by simpa using hi)] at hy; cases hy
      rw [List.getElem?_range hi] at hy
      simp only [Option.map_some, Option.some.injEq] at hy
      subst hy
      obtain ⟨c0, c1, ⟨k0, e0, -⟩, ⟨k1, e1, -⟩⟩ := h i hi
      rw [e0] at c0 ⊢; rw [e1] at c1 ⊢
      refine ⟨?_, ?_⟩
      · rcases i with _ | i
        · simpa [Addr.add, intOf] using c0
        · simpa [Addr.add, intOf] using c0
      · simpa [Addr.add, intOf, Nat.add_assoc] using c1
    · rw [List.getElem?_map] at hy
      have hi : i < len := by
        rcases Nat.lt_or_ge i len with hi | hi
        · exact hi
        · rw [List.getElem?_eq_none (by simpa using hi)] at hy; cases hy
      rw [List.getElem?_range hi] at hy
      simp only [Option.map_some, Option.some.injEq] at hy
      subst hy
      obtain ⟨c0, c1, ⟨k0, e0, f0⟩, ⟨k1, e1, f1⟩⟩ := h i hi
      rw [e0, e1]
      exact ⟨bounds_u8 f0, bounds_i64 f1⟩

theorem lawWheels (n : Int) (w0 : (Lit.int .i64 n).wf = true) (v : Value) (l : List (Int × Int)) (slot : Int) (w2 : (Lit.int .i64 slot).wf = true) (w : World) (h1 : Acts w v l) (h2 : ActsWf l) :
    Calls Try.prog 4 #[.int .i64 n, v, .int .i64 slot] w fun e w' => e = .returned (.bool true) ∧ Below w.heap.size w w' := by
  clear w0 w2
  go_enter Try.func4, Try.ntmps4
  go_wp2_with (first | (go_at_call 13; refine (wheels_any _ _ _ l _ h1 h2).mono ?_; rintro e w1 ⟨rfl, hb1⟩) | (go_at_call 12; refine (awake_any _).mono ?_; rintro e w2 ⟨rfl, hb2⟩))
  go_ret
  exact ⟨rfl, hb1.trans (hb2.mono hb1.size)⟩
end Turn
end Go.Proofs.Ytpgdlpocgfgnfaa
