/- The wheel of package turn. -/
import Derived.Test.YtpgdlpocgfgnfaaTurnE
namespace Go.Proofs.Ytpgdlpocgfgnfaa
open Go.RowKit Go.Shelf
set_option linter.unusedVariables false
set_option maxRecDepth 100000
namespace Turn

/-- Block b is a wheel of n slots whose next tick is t. -/
def WheelAt (W : World) (b : Nat) (n t : Int) : Prop := W.heap[b]? = some (.cells #[.int .i64 n, .int .i64 t] 31 (0, 0))
theorem WheelAt.lt {W : World} {b : Nat} {n t : Int} (h : WheelAt W b n t) : b < W.heap.size := (Array.getElem?_eq_some_iff.1 h).1
theorem WheelAt.c0 {W : World} {b : Nat} {n t : Int} (h : WheelAt W b n t) : W.cell? ⟨b, 0, none⟩ = some (.int .i64 n) := by simp [World.cell?, show W.heap[b]? = _ from h]
theorem WheelAt.c1 {W : World} {b : Nat} {n t : Int} (h : WheelAt W b n t) : W.cell? ⟨b, 1, none⟩ = some (.int .i64 t) := by simp [World.cell?, show W.heap[b]? = _ from h]
theorem WheelAt.fr {W : World} {b : Nat} {n t : Int} (h : WheelAt W b n t) (i : Nat) : W.frozen? ⟨b, i, none⟩ = false := by simp [World.frozen?, show W.heap[b]? = _ from h]
theorem WheelAt.mod {S : Nat → Prop} {W W' : World} {b : Nat} {n t : Int} (h : WheelAt W b n t) (hm : Mod S W W') (hS : ¬ S b) : WheelAt W' b n t := hm.heap h hS
theorem WheelAt.below {W W' : World} {b : Nat} {n t : Int} (h : WheelAt W b n t) (hm : Below W.heap.size W W') : WheelAt W' b n t := (hm.block b h.lt).trans h
theorem WheelAt.set {W : World} {b : Nat} {n t : Int} (h : WheelAt W b n t) (t' : Int) : WheelAt (W.setCell ⟨b, 1, none⟩ (.int .i64 t')) b n t' := by
  obtain ⟨hlt, hk⟩ := Array.getElem?_eq_some_iff.1 h
  show (W.heap.modify b _)[b]? = _
  rw [Array.getElem?_eq_getElem (by rw [Array.size_modify]; exact hlt), Array.getElem_modify_self, hk]
  rfl

theorem New_yes (n : Int) (h : slotsB n = true) (w : World) :
    Calls Try.prog 25 #[.int .i64 n] w fun e w' => e = .returned (.tuple #[.pointer (some ⟨w.heap.size, 0, none⟩), .int .i64 0]) ∧ w' = w.alloc (.cells #[.int .i64 n, .int .i64 0] 31) := by
  go_enter Try.func25, Try.ntmps25
  go_wp2_with (go_at_call 37; refine (slots_any _ _).mono ?_; rintro e w' ⟨rfl, rfl⟩)
  go_ret2
  exact ⟨rfl, rfl⟩
theorem New_no (n : Int) (h : slotsB n = false) (w : World) :
    Calls Try.prog 25 #[.int .i64 n] w fun e w' => e = .returned (.tuple #[.pointer none, .int .i64 2]) ∧ w = w' := by
  go_enter Try.func25, Try.ntmps25
  go_wp2_with (go_at_call 37; refine (slots_any _ _).mono ?_; rintro e w' ⟨rfl, rfl⟩)
  go_ret2
  exact ⟨rfl, rfl⟩

theorem Now_at (b : Nat) (n t : Int) (w : World) (h : WheelAt w b n t) (h1 : 1 ≤ n) :
    Calls Try.prog 16 #[.pointer (some ⟨b, 0, none⟩)] w fun e w' => e = .returned (.int .i64 t) ∧ Below w.heap.size w w' := by
  have c0 := h.c0
  have c1 := h.c1
  have hl := h.lt
  have hn : (n == 0) = false := by simp; omega
  clear h
  go_enter Try.func16, Try.ntmps16
  go_wp2
  go_ret
  exact ⟨rfl, (Below.refl _ _).alloc (Nat.le_refl _) _⟩
theorem Now_zero (b : Nat) (w : World) (h : WheelAt w b 0 0) :
    Calls Try.prog 16 #[.pointer (some ⟨b, 0, none⟩)] w fun e w' => e = .returned (.int .i64 0) ∧ Below w.heap.size w w' := by
  have c0 := h.c0
  have hl := h.lt
  clear h
  go_enter Try.func16, Try.ntmps16
  go_wp2
  go_ret
  exact ⟨rfl, (Below.refl _ _).alloc (Nat.le_refl _) _⟩
theorem Now_nil (w : World) :
    Calls Try.prog 16 #[.pointer none] w fun e w' => e = .returned (.int .i64 0) ∧ Below w.heap.size w w' := by
  go_enter Try.func16, Try.ntmps16
  go_wp2
  go_ret
  exact ⟨rfl, (Below.refl _ _).alloc (Nat.le_refl _) _⟩
theorem Slots_at (b : Nat) (n t : Int) (w : World) (h : WheelAt w b n t) (h1 : 1 ≤ n) :
    Calls Try.prog 18 #[.pointer (some ⟨b, 0, none⟩)] w fun e w' => e = .returned (.int .i64 n) ∧ Below w.heap.size w w' := by
  have c0 := h.c0
  have c1 := h.c1
  have hl := h.lt
  have hn : (n == 0) = false := by simp; omega
  clear h
  go_enter Try.func18, Try.ntmps18
  go_wp2
  go_ret
  exact ⟨rfl, (Below.refl _ _).alloc (Nat.le_refl _) _⟩
theorem Slots_zero (b : Nat) (w : World) (h : WheelAt w b 0 0) :
    Calls Try.prog 18 #[.pointer (some ⟨b, 0, none⟩)] w fun e w' => e = .returned (.int .i64 0) ∧ Below w.heap.size w w' := by
  have c0 := h.c0
  have hl := h.lt
  clear h
  go_enter Try.func18, Try.ntmps18
  go_wp2
  go_ret
  exact ⟨rfl, (Below.refl _ _).alloc (Nat.le_refl _) _⟩
theorem Slots_nil (w : World) :
    Calls Try.prog 18 #[.pointer none] w fun e w' => e = .returned (.int .i64 0) ∧ Below w.heap.size w w' := by
  go_enter Try.func18, Try.ntmps18
  go_wp2
  go_ret
  exact ⟨rfl, (Below.refl _ _).alloc (Nat.le_refl _) _⟩

theorem Had1_at (b B : Nat) (n t s : Int) (w : World) (h : WheelAt w b n t) (hp : w.cell? ⟨B, 0, none⟩ = some (.pointer (some ⟨b, 0, none⟩))) (hs : w.cell? ⟨B + 1, 0, none⟩ = some (.int .i64 s)) :
    Calls Try.prog 35 #[.pointer (some ⟨B, 0, none⟩), .pointer (some ⟨B + 1, 0, none⟩)] w fun e w' => e = .returned (.int .i64 (turnsS n 0 t s).1) ∧ ∃ n, w' = w.drewN n := by
  have c0 := h.c0
  have c1 := h.c1
  have hl := h.lt
  clear h
  go_enter Try.func35, Try.ntmps35
  go_wp2
  go_quiet ((go_at_call 23; exact Calls.quiet_of_same ((Turns_any _ _ _ _ _).mono fun _ _ h => ⟨h.1, h.2.symm⟩)))
  go_wp2
  go_ret
  exact ⟨rfl, _, rfl⟩

theorem below_drewN {B : Nat} {a w : World} (h : Below B a w) (n : Nat) : Below B a (w.drewN n) := ⟨h.os, h.tape, h.output, h.size, h.block⟩

theorem Had_at (b : Nat) (n t s : Int) (w : World) (h : WheelAt w b n t) (h1 : 1 ≤ n) :
    Calls Try.prog 17 #[.pointer (some ⟨b, 0, none⟩), .int .i64 s] w fun e w' => e = .returned (.int .i64 (turnsS n 0 t s).1) ∧ Below w.heap.size w w' := by
  have c0 := h.c0
  have c1 := h.c1
  have hl := h.lt
  have hn : (n == 0) = false := by simp; omega
  have h2 : WheelAt ((w.alloc (.cells #[.pointer (some ⟨b, 0, none⟩)] 29)).alloc (.cells #[.int .i64 s] 3)) b n t := h.below (((Below.refl _ w).alloc (Nat.le_refl _) _).alloc (by simp) _)
  have p0 := ((Boxed.new w 29 (.pointer (some ⟨b, 0, none⟩))).alloc (.cells #[.int .i64 s] 3)).cell
  have p1 := (Boxed.new (w.alloc (.cells #[.pointer (some ⟨b, 0, none⟩)] 29)) 3 (.int .i64 s)).cell
  rw [World.size_alloc] at p1
  go_enter Try.func17, Try.ntmps17
  go_wp2_with (first | (go_at_call 35; refine (Had1_at b _ n t s _ h2 p0 p1).mono ?_; rintro e w' ⟨rfl, nd, rfl⟩) | go_in)
  go_ret
  exact ⟨rfl, below_drewN (((Below.refl _ w).alloc (Nat.le_refl _) _).alloc (by simp) _) nd⟩
theorem Had_zero (b : Nat) (s : Int) (w : World) (h : WheelAt w b 0 0) :
    Calls Try.prog 17 #[.pointer (some ⟨b, 0, none⟩), .int .i64 s] w fun e w' => e = .returned (.int .i64 0) ∧ Below w.heap.size w w' := by
  have c0 := h.c0
  have hl := h.lt
  clear h
  go_enter Try.func17, Try.ntmps17
  go_wp2
  go_ret
  exact ⟨rfl, ((Below.refl _ w).alloc (Nat.le_refl _) _).alloc (by simp) _⟩
theorem Had_nil (s : Int) (w : World) :
    Calls Try.prog 17 #[.pointer none, .int .i64 s] w fun e w' => e = .returned (.int .i64 0) ∧ Below w.heap.size w w' := by
  go_enter Try.func17, Try.ntmps17
  go_wp2
  go_ret
  exact ⟨rfl, ((Below.refl _ w).alloc (Nat.le_refl _) _).alloc (by simp) _⟩

/-- What Skip answers, and the next tick behind it. -/
def skipE (t k : Int) : Int := if k < 0 then 2 else if 1099511627776 - t < k then 5 else 0
def skipT (t k : Int) : Int := if k < 0 then t else if 1099511627776 - t < k then t else t + k

theorem Skip_at (b : Nat) (n t k : Int) (w : World) (h : WheelAt w b n t) (h1 : 1 ≤ n) (ht : 0 ≤ t) (ht2 : t ≤ 1099511627776) :
    Calls Try.prog 15 #[.pointer (some ⟨b, 0, none⟩), .int .i64 k] w fun e w' => e = .returned (.int .i64 (skipE t k)) ∧ WheelAt w' b n (skipT t k) ∧ Mod (· = b) w w' := by
  have hn : (n == 0) = false := by simp; omega
  have hl := h.lt
  by_cases hk : k < 0
  · have HE : Hid (skipE t k = 2) := by rw [Hid, skipE, if_pos hk]
    have HT : Hid (skipT t k = t) := by rw [Hid, skipT, if_pos hk]
    go_enter Try.func15, Try.ntmps15
    go_wp2_with (go_at_call 18; refine (Slots_at b n t _ h h1).mono ?_; rintro e w1 ⟨rfl, hb⟩)
    go_ret
    exact ⟨by rw [HE.out]; rfl, by rw [HT.out]; exact h.below hb, Mod.of_same hb⟩
  · by_cases hm : 1099511627776 - t < k
    · have HE : Hid (skipE t k = 5) := by rw [Hid, skipE, if_neg hk, if_pos hm]
      have HT : Hid (skipT t k = t) := by rw [Hid, skipT, if_neg hk, if_pos hm]
      go_enter Try.func15, Try.ntmps15
      go_wp2_with (go_at_call 18; refine (Slots_at b n t _ h h1).mono ?_; rintro e w1 ⟨rfl, hb⟩; have h' := h.below hb; have c1 := h'.c1)
      go_ret
      exact ⟨by rw [HE.out]; rfl, by rw [HT.out]; exact h', Mod.of_same hb⟩
    · have HE : Hid (skipE t k = 0) := by rw [Hid, skipE, if_neg hk, if_neg hm]
      have HT : Hid (skipT t k = t + k) := by rw [Hid, skipT, if_neg hk, if_neg hm]
      go_enter Try.func15, Try.ntmps15
      go_wp2_with (go_at_call 18; refine (Slots_at b n t _ h h1).mono ?_; rintro e w1 ⟨rfl, hb⟩; have h' := h.below hb; have c1 := h'.c1; have f1 := h'.fr 1)
      go_ret
      exact ⟨by rw [HE.out]; rfl, by rw [HT.out]; exact h'.set _, Mod.setCell (S := (· = b)) (p := ⟨b, 1, none⟩) (Mod.of_same hb) (.inr rfl) _⟩
theorem Skip_zero (b : Nat) (k : Int) (w : World) (h : WheelAt w b 0 0) :
    Calls Try.prog 15 #[.pointer (some ⟨b, 0, none⟩), .int .i64 k] w fun e w' => e = .returned (.int .i64 1) ∧ Below w.heap.size w w' := by
  go_enter Try.func15, Try.ntmps15
  go_wp2_with (go_at_call 18; refine (Slots_zero b _ h).mono ?_; rintro e w1 ⟨rfl, hb⟩)
  go_ret
  exact ⟨rfl, hb⟩
theorem Skip_nil (k : Int) (w : World) :
    Calls Try.prog 15 #[.pointer none, .int .i64 k] w fun e w' => e = .returned (.int .i64 1) ∧ Below w.heap.size w w' := by
  go_enter Try.func15, Try.ntmps15
  go_wp2_with (go_at_call 18; refine (Slots_nil _).mono ?_; rintro e w1 ⟨rfl, hb⟩)
  go_ret
  exact ⟨rfl, hb⟩

theorem Tick_yes (b : Nat) (n t : Int) (w : World) (h : WheelAt w b n t) (h1 : 1 ≤ n) (ht : 0 ≤ t) (ht2 : t < 1099511627776) :
    Calls Try.prog 14 #[.pointer (some ⟨b, 0, none⟩)] w fun e w' => e = .returned (.tuple #[.int .i64 (t % n), .int .i64 0]) ∧ WheelAt w' b n (t + 1) ∧ Mod (· = b) w w' := by
  have HE : Hid (skipE t 1 = 0) := by rw [Hid, skipE, if_neg (by omega), if_neg (by omega)]
  have HT : Hid (skipT t 1 = t + 1) := by rw [Hid, skipT, if_neg (by omega), if_neg (by omega)]
  go_enter Try.func14, Try.ntmps14
  go_wp2_with (first | (go_at_call 16; refine (Now_at b n t _ h h1).mono ?_; rintro e w1 ⟨rfl, hb⟩; have h' := h.below hb) | (go_at_call 15; refine (Skip_at b n t 1 _ h' h1 ht (by omega)).mono ?_; rintro e w2 ⟨rfl, h2, hm⟩; rw [HE.out]; rw [HT.out] at h2; have c0 := h2.c0))
  go_ret2
  exact ⟨rfl, h2, (Mod.of_same hb).trans hm⟩
theorem Tick_no (b : Nat) (n : Int) (w : World) (h : WheelAt w b n 1099511627776) (h1 : 1 ≤ n) :
    Calls Try.prog 14 #[.pointer (some ⟨b, 0, none⟩)] w fun e w' => e = .returned (.tuple #[.int .i64 0, .int .i64 5]) ∧ WheelAt w' b n 1099511627776 ∧ Mod (· = b) w w' := by
  have HE : Hid (skipE 1099511627776 1 = 5) := by rw [Hid, skipE, if_neg (by omega), if_pos (by omega)]
  have HT : Hid (skipT 1099511627776 1 = 1099511627776) := by rw [Hid, skipT, if_neg (by omega), if_pos (by omega)]
  go_enter Try.func14, Try.ntmps14
  go_wp2_with (first | (go_at_call 16; refine (Now_at b n _ _ h h1).mono ?_; rintro e w1 ⟨rfl, hb⟩; have h' := h.below hb) | (go_at_call 15; refine (Skip_at b n _ 1 _ h' h1 (by omega) (by omega)).mono ?_; rintro e w2 ⟨rfl, h2, hm⟩; rw [HE.out]; rw [HT.out] at h2; have c0 := h2.c0))
  go_ret2
  exact ⟨rfl, h2, (Mod.of_same hb).trans hm⟩
theorem Tick_zero (b : Nat) (w : World) (h : WheelAt w b 0 0) :
    Calls Try.prog 14 #[.pointer (some ⟨b, 0, none⟩)] w fun e w' => e = .returned (.tuple #[.int .i64 0, .int .i64 1]) ∧ Below w.heap.size w w' := by
  go_enter Try.func14, Try.ntmps14
  go_wp2_with (first | (go_at_call 16; refine (Now_zero b _ h).mono ?_; rintro e w1 ⟨rfl, hb⟩; have h' := h.below hb) | (go_at_call 15; refine (Skip_zero b 1 _ h').mono ?_; rintro e w2 ⟨rfl, hm⟩))
  go_ret2
  exact ⟨rfl, hb.trans (hm.mono hb.size)⟩
theorem Tick_nil (w : World) :
    Calls Try.prog 14 #[.pointer none] w fun e w' => e = .returned (.tuple #[.int .i64 0, .int .i64 1]) ∧ Below w.heap.size w w' := by
  go_enter Try.func14, Try.ntmps14
  go_wp2_with (first | (go_at_call 16; refine (Now_nil _).mono ?_; rintro e w1 ⟨rfl, hb⟩) | (go_at_call 15; refine (Skip_nil 1 _).mono ?_; rintro e w2 ⟨rfl, hm⟩))
  go_ret2
  exact ⟨rfl, hb.trans (hm.mono hb.size)⟩
end Turn
end Go.Proofs.Ytpgdlpocgfgnfaa
