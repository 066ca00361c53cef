/- The law TurnWheel returns true. -/
import Derived.Test.YtpgdlpocgfgnfaaTurnP
import Derived.Test.YtpgdlpocgfgnfaaFermLib2
import Derived.Deep.RegionHeld3
import Derived.Laws.MakeOwn
import Derived.Laws.OwnMore
namespace Go.Proofs.Ytpgdlpocgfgnfaa
open Go.RowKit Go.Shelf
set_option linter.unusedVariables false
set_option maxRecDepth 100000
namespace Turn

theorem allS_getD {n a b : Int} (h1 : 1 ≤ n) (h8 : n ≤ 8) (ha : 0 ≤ a) (hab : a ≤ b) (hb : b ≤ 1099511627776) : allS n a b = upto (fun j => cnt n b j - cnt n a j) n.toNat := by
  rw [allS, if_pos ⟨slotsB_yes ⟨h1, h8⟩, boundsB_yes ⟨ha, hab, hb⟩⟩]
  exact upto_congr fun i hi => by rw [turnsS_yes h1 h8 (by omega) (by omega) ha hab hb]
theorem below_of_drew {B : Nat} {a w : World} (h : Below B a.drew w) : Below B a w := ⟨h.os, h.tape, h.output, h.size, h.block⟩
theorem ownsRow_pos {W : World} {base : Nat} {e : TypeId} {size : Nat} {v : Value} {k : Nat} {xs : List Value} (h : W.ownsRow base e size v k xs) (hk : 1 ≤ k) : ∃ g cap, v = .slice (some ⟨g, 0, none⟩) k cap := by
  obtain ⟨k, rfl⟩ : ∃ j, k = j + 1 := ⟨k - 1, by omega⟩
  exact ownsRow_succ h
theorem cnt_self {n s : Int} (h1 : 1 ≤ n) (h8 : n ≤ 8) (h0 : 0 ≤ s) (hs : s < n) : cnt n 0 s = 0 := by
  unfold cnt
  rcases eight h1 h8 with rfl | rfl | rfl | rfl | rfl | rfl | rfl | rfl <;> omega
/-- n zeros in memory. -/
def zeros (n : Nat) : Array Value := ((List.replicate n (0 : Int)).map (Value.int .i64)).toArray
/-- What each slot has had before a tick. -/
def hadF (n : Nat) (t : Int) : Nat → Int := fun j => cnt n t j
theorem hadF_zero {n : Nat} (h1 : 1 ≤ (n : Int)) (h8 : (n : Int) ≤ 8) : (List.replicate n (0 : Int)) = upto (hadF n 0) n := by
  apply List.ext_getElem?
  intro i
  by_cases hi : i < n
  · rw [upto_getElem? _ _ _ hi, List.getElem?_replicate, if_pos hi, hadF, cnt_self h1 h8 (by omega) (by omega)]
  · rw [List.getElem?_eq_none (by simp; omega), List.getElem?_eq_none (by rw [upto_length]; omega)]
/-- The same, while the first j slots have had what they have before a later tick. -/
def mixF (n : Nat) (t t' : Int) (j : Nat) : Nat → Int := fun i => if i < j then cnt n t' i else cnt n t i
theorem mixF_zero (n : Nat) (t t' : Int) : mixF n t t' 0 = hadF n t := by funext i; simp [mixF, hadF]
theorem mixF_all (n : Nat) (t t' : Int) : upto (mixF n t t' n) n = upto (hadF n t') n := upto_congr fun i hi => by rw [mixF, if_pos hi, hadF]
theorem mixF_step (n : Nat) (t t' : Int) (j : Nat) : (upto (mixF n t t' j) n).set j (cnt n t' j) = upto (mixF n t t' (j + 1)) n := by
  rw [upto_set]
  refine upto_congr fun i hi => ?_
  simp only [mixF]
  by_cases h : i = j
  · rw [if_pos h, if_pos (by omega), h]
  · rw [if_neg h]
    by_cases h' : i < j
    · rw [if_pos h', if_pos (by omega)]
    · rw [if_neg h', if_neg (by omega)]
theorem hadF_tick {n : Nat} {t : Int} (h1 : 1 ≤ (n : Int)) (h8 : (n : Int) ≤ 8) (ht : 0 ≤ t) : (upto (hadF n t) n).set (t % n).toNat (cnt n t (t % n) + 1) = upto (hadF n (t + 1)) n := by
  have hm0 := Int.emod_nonneg t (show (n : Int) ≠ 0 by omega)
  rw [upto_set]
  refine upto_congr fun i hi => ?_
  simp only [hadF]
  rw [cnt_succ h1 h8 (by omega) (by omega)]
  by_cases h : i = (t % n).toNat
  · rw [if_pos h, if_pos (by omega)]
    have : (i : Int) = t % n := by omega
    rw [this]
  · rw [if_neg h, if_neg (by omega)]; omega

theorem allS_get0 {n : Nat} {t : Int} (h1 : 1 ≤ (n : Int)) (h8 : (n : Int) ≤ 8) (j : Int) (h0 : 0 ≤ j) (hj : j < n) (ht : 0 ≤ t) (ht2 : t ≤ 1099511627776) : (turnsS n 0 t j).1 = cnt n t j := by
  rw [turnsS_yes h1 h8 h0 hj (by omega) ht ht2, cnt_self h1 h8 h0 hj]; simp

set_option maxHeartbeats 8000000 in
theorem wheel_nil (a0 : Int) (h00 : 0 ≤ a0) (h01 : a0 ≤ 255)  (w : World) :
    Calls Try.prog 9 #[.int .u8 a0, (.slice none 0 0)] w fun e w' => e = .returned (.bool true) ∧ Below w.heap.size w w' := by
  obtain ⟨n, hn⟩ : ∃ n : Nat, 1 + a0 % 8 = n := ⟨(1 + a0 % 8).toNat, by omega⟩
  have hn1 : 1 ≤ (n : Int) := by omega
  have hn8 : (n : Int) ≤ 8 := by omega
  have hN1 : 1 ≤ n := by omega
  have hN8 : n ≤ 8 := by omega
  obtain ⟨i0, hi, hz0, hz1, hz2⟩ := info_parts infoInt
  have hmk : ∀ w : World, (Instr.makeSlice 28 (.int .i64 (n : Int)) (.int .i64 (n : Int))).run Try.prog w = .ok (.slice (some ⟨w.heap.size, 0, none⟩) n n) (w.alloc (.cells (zeros n) 3)) := by
    intro w
    have := run_make (P := Try.prog) w 28 3 i0 (.int .i64 0) Try.underlying28 hi hz0 .i64 .i64 n n (by omega) (Int.le_refl _) (by rw [hz2]; omega) (by omega)
    rw [this, hz1]
    congr 3
    unfold zeros
    apply Array.toList_inj.1
    rw [show (Value.int .i64 0).cells = #[Value.int .i64 0] from rfl, Nat.mul_one, toList_madeCells_one]
    simp
  obtain ⟨m, hm⟩ : ∃ m : Nat, m ≤ 0 := ⟨0, by omega⟩
  have hmin : min (0 : Int) 100 = 0 := by decide
  have hs1 : slotsB n = true := slotsB_yes ⟨hn1, hn8⟩
  have Hn := Lib.hid hn
  go_enter Try.func9, Try.ntmps9
  go_wp2_with fail
  refine (awake_any _).mono ?_; rintro e wa ⟨rfl, hba⟩
  go_wp2_with fail
  refine (New_yes _ hs1 _).mono ?_; rintro e w' ⟨rfl, rfl⟩
  have hw0 := Boxed2.new wa n 0
  have hB0 : Below wa.heap.size wa (wa.alloc (.cells #[.int .i64 n, .int .i64 0] 31)) := (Below.refl _ _).alloc (Nat.le_refl _) _
  have hgt : wa.heap.size < (wa.alloc (.cells #[.int .i64 n, .int .i64 0] 31)).heap.size := by simp
  generalize hwb : wa.alloc (.cells #[.int .i64 n, .int .i64 0] 31) = wb at *
  clear hwb
  generalize hBe : wa.heap.size = B at *
  go_wp2_with fail
  have hw1 : WheelAt (wb.alloc (.cells (zeros n) 3)) B n 0 := hw0.below ((Below.refl _ _).alloc (Nat.le_refl _) _)
  have hh1 : IntsAt (wb.alloc (.cells (zeros n) 3)) wb.heap.size 3 (upto (hadF n 0) n) := by
    rw [← hadF_zero hn1 hn8]; exact World.alloc_heap_new wb _
  have hB1 : Below B wa (wb.alloc (.cells (zeros n) 3)) := hB0.alloc (by omega) _
  have hgt2 : wb.heap.size < (wb.alloc (.cells (zeros n) 3)).heap.size := by simp
  generalize hwc : wb.alloc (.cells (zeros n) 3) = wc at *
  clear hwc hmk hw0 hB0
  generalize wb.heap.size = G at *
  have HBe := Lib.hid hBe
  clear hBe
  go_loopw [44, 9, 11, 12, 13, 14, 15, 16, 17, 75] (fun i t _ _ _ _ _ _ _ _ wr => ∃ (k : Nat) (t0 : Int), k ≤ m ∧ i = .int .i64 k ∧ t = .int .i64 t0 ∧ 0 ≤ t0 ∧ t0 ≤ k * 65536 ∧ WheelAt wr B n t0 ∧ IntsAt wr G 3 (upto (hadF n t0) n) ∧ Below B wa wr ∧ wc.heap.size ≤ wr.heap.size) (fun i _ _ _ _ _ _ _ _ _ _ => m - (intOf i).toNat)
  case atStart => exact ⟨0, 0, by omega, rfl, rfl, by omega, by omega, hw1, hh1, hB1, Nat.le_refl _⟩
  case round =>
    obtain ⟨k, t, hk, rfl, rfl, ht0, ht1, hw, hh, hB, hsz⟩ := hrel
    clear hw1 hh1 hB1
    by_cases hlt : k < m
    · exact absurd hlt (by omega)
    · obtain rfl : k = m := by omega
      clear hlt hk
      have ht2 : t ≤ 1099511627776 := by omega
      obtain ⟨wo, rfl⟩ : ∃ wo : World, wo = wr := ⟨_, rfl⟩
      go_wp2_with fail
      go_loopw [116, 18] (fun i _ wr2 => ∃ j : Nat, j ≤ n ∧ i = .int .i64 j ∧ Below wo.heap.size wo wr2) (fun i _ _ => n - (intOf i).toNat)
      case atStart => exact ⟨0, by omega, rfl, Below.refl _ _⟩
      case round =>
        obtain ⟨j, hj, rfl, hC⟩ := hrel
        obtain ⟨wq, rfl⟩ : ∃ wq : World, wq = wr := ⟨_, rfl⟩
        have hwq := hw.below hC
        have hhq := hh.below hC
        by_cases hlt2 : j < n
        · have hltI : (j : Int) < n := by omega
          have hcj : wq.cell? ⟨G, j, none⟩ = some (.int .i64 (cnt n t j)) := hhq.cell (by rw [upto_getElem? _ _ _ hlt2]; rfl)
          have HT := Lib.hid (allS_get0 hn1 hn8 j (by omega) hltI ht0 ht2)
          have hGlt : G < wq.heap.size := hhq.lt
          go_wp2_with fail
          go_region_held3 (fun w' => w'.cell? ⟨G, j, none⟩ = some (.int .i64 (cnt n t j)))
            (first | go_keep | assumption)
            (first | (go_at_call 17; refine (Had_at B n t j _ (by exact hwq) hn1).mono ?_; rintro e w' ⟨rfl, hb⟩; rw [HT.out]; have hk2 := (hb.cell (p := ⟨G, j, none⟩) hGlt).trans hcj))
          have hC2 : Below wo.heap.size wo w' := hC.trans ((below_of_drew hb).mono hC.size)
          go_wp2_with fail
          go_roundw
          case rel => exact ⟨j + 1, by omega, by go_num, hC2⟩
          case measure => simp [intOf]; omega
        · obtain rfl : j = n := by omega
          have Z1 : Hid ((turnsS j 0 t j).1 = 0) := by rw [Hid, turnsS, if_neg (by rw [slotB_no (by omega)]; simp)]
          have Z2 : Hid ((turnsS j 0 t (-1)).1 = 0) := by rw [Hid, turnsS, if_neg (by rw [slotB_no (by omega)]; simp)]
          go_wp2_with fail
          refine (Now_at B j t _ hwq hn1).mono ?_; rintro e v1 ⟨rfl, hb1⟩
          have hv1 := hwq.below hb1
          go_wp2_with fail
          refine (Slots_at B j t _ hv1 hn1).mono ?_; rintro e v2 ⟨rfl, hb2⟩
          have hv2 := hv1.below hb2
          go_wp2_with fail
          refine (Had_at B j t j _ hv2 hn1).mono ?_; rintro e v3 ⟨rfl, hb3⟩; rw [Z1.out]
          have hv3 := hv2.below hb3
          go_wp2_with fail
          refine (Had_at B j t (-1) _ hv3 hn1).mono ?_; rintro e v4 ⟨rfl, hb4⟩; rw [Z2.out]
          go_wp2_with fail
          go_ret
          have c1 := hC.trans (hb1.mono hC.size)
          have c2 := c1.trans (hb2.mono c1.size)
          have c3 := c2.trans (hb3.mono c2.size)
          have c4 := c3.trans (hb4.mono c3.size)
          have hle : B ≤ wo.heap.size := by omega
          have hBw : Below w.heap.size w wa := hba
          exact ⟨rfl, hba.trans ((hB.trans (c4.mono hle)).mono (by have := hba.size; have := HBe.out; omega))⟩

set_option maxHeartbeats 8000000 in
theorem wheel_zero (a0 : Int) (h00 : 0 ≤ a0) (h01 : a0 ≤ 255) (x : Addr) (cap : Nat) (w : World) (hcm : cap ≤ maxLen) :
    Calls Try.prog 9 #[.int .u8 a0, (.slice (some x) 0 cap)] w fun e w' => e = .returned (.bool true) ∧ Below w.heap.size w w' := by
  obtain ⟨n, hn⟩ : ∃ n : Nat, 1 + a0 % 8 = n := ⟨(1 + a0 % 8).toNat, by omega⟩
  have hn1 : 1 ≤ (n : Int) := by omega
  have hn8 : (n : Int) ≤ 8 := by omega
  have hN1 : 1 ≤ n := by omega
  have hN8 : n ≤ 8 := by omega
  obtain ⟨i0, hi, hz0, hz1, hz2⟩ := info_parts infoInt
  have hmk : ∀ w : World, (Instr.makeSlice 28 (.int .i64 (n : Int)) (.int .i64 (n : Int))).run Try.prog w = .ok (.slice (some ⟨w.heap.size, 0, none⟩) n n) (w.alloc (.cells (zeros n) 3)) := by
    intro w
    have := run_make (P := Try.prog) w 28 3 i0 (.int .i64 0) Try.underlying28 hi hz0 .i64 .i64 n n (by omega) (Int.le_refl _) (by rw [hz2]; omega) (by omega)
    rw [this, hz1]
    congr 3
    unfold zeros
    apply Array.toList_inj.1
    rw [show (Value.int .i64 0).cells = #[Value.int .i64 0] from rfl, Nat.mul_one, toList_madeCells_one]
    simp
  unfold maxLen at hcm
  obtain ⟨m, hm⟩ : ∃ m : Nat, m ≤ 0 := ⟨0, by omega⟩
  have hmin : min (0 : Int) 100 = 0 := by decide
  have hs1 : slotsB n = true := slotsB_yes ⟨hn1, hn8⟩
  have Hn := Lib.hid hn
  go_enter Try.func9, Try.ntmps9
  go_wp2_with fail
  refine (awake_any _).mono ?_; rintro e wa ⟨rfl, hba⟩
  go_wp2_with fail
  refine (New_yes _ hs1 _).mono ?_; rintro e w' ⟨rfl, rfl⟩
  have hw0 := Boxed2.new wa n 0
  have hB0 : Below wa.heap.size wa (wa.alloc (.cells #[.int .i64 n, .int .i64 0] 31)) := (Below.refl _ _).alloc (Nat.le_refl _) _
  have hgt : wa.heap.size < (wa.alloc (.cells #[.int .i64 n, .int .i64 0] 31)).heap.size := by simp
  generalize hwb : wa.alloc (.cells #[.int .i64 n, .int .i64 0] 31) = wb at *
  clear hwb
  generalize hBe : wa.heap.size = B at *
  go_wp2_with fail
  have hw1 : WheelAt (wb.alloc (.cells (zeros n) 3)) B n 0 := hw0.below ((Below.refl _ _).alloc (Nat.le_refl _) _)
  have hh1 : IntsAt (wb.alloc (.cells (zeros n) 3)) wb.heap.size 3 (upto (hadF n 0) n) := by
    rw [← hadF_zero hn1 hn8]; exact World.alloc_heap_new wb _
  have hB1 : Below B wa (wb.alloc (.cells (zeros n) 3)) := hB0.alloc (by omega) _
  have hgt2 : wb.heap.size < (wb.alloc (.cells (zeros n) 3)).heap.size := by simp
  generalize hwc : wb.alloc (.cells (zeros n) 3) = wc at *
  clear hwc hmk hw0 hB0
  generalize wb.heap.size = G at *
  have HBe := Lib.hid hBe
  clear hBe
  go_loopw [44, 9, 11, 12, 13, 14, 15, 16, 17, 75] (fun i t _ _ _ _ _ _ _ _ wr => ∃ (k : Nat) (t0 : Int), k ≤ m ∧ i = .int .i64 k ∧ t = .int .i64 t0 ∧ 0 ≤ t0 ∧ t0 ≤ k * 65536 ∧ WheelAt wr B n t0 ∧ IntsAt wr G 3 (upto (hadF n t0) n) ∧ Below B wa wr ∧ wc.heap.size ≤ wr.heap.size) (fun i _ _ _ _ _ _ _ _ _ _ => m - (intOf i).toNat)
  case atStart => exact ⟨0, 0, by omega, rfl, rfl, by omega, by omega, hw1, hh1, hB1, Nat.le_refl _⟩
  case round =>
    obtain ⟨k, t, hk, rfl, rfl, ht0, ht1, hw, hh, hB, hsz⟩ := hrel
    clear hw1 hh1 hB1
    by_cases hlt : k < m
    · exact absurd hlt (by omega)
    · obtain rfl : k = m := by omega
      clear hlt hk
      have ht2 : t ≤ 1099511627776 := by omega
      obtain ⟨wo, rfl⟩ : ∃ wo : World, wo = wr := ⟨_, rfl⟩
      go_wp2_with fail
      go_loopw [116, 18] (fun i _ wr2 => ∃ j : Nat, j ≤ n ∧ i = .int .i64 j ∧ Below wo.heap.size wo wr2) (fun i _ _ => n - (intOf i).toNat)
      case atStart => exact ⟨0, by omega, rfl, Below.refl _ _⟩
      case round =>
        obtain ⟨j, hj, rfl, hC⟩ := hrel
        obtain ⟨wq, rfl⟩ : ∃ wq : World, wq = wr := ⟨_, rfl⟩
        have hwq := hw.below hC
        have hhq := hh.below hC
        by_cases hlt2 : j < n
        · have hltI : (j : Int) < n := by omega
          have hcj : wq.cell? ⟨G, j, none⟩ = some (.int .i64 (cnt n t j)) := hhq.cell (by rw [upto_getElem? _ _ _ hlt2]; rfl)
          have HT := Lib.hid (allS_get0 hn1 hn8 j (by omega) hltI ht0 ht2)
          have hGlt : G < wq.heap.size := hhq.lt
          go_wp2_with fail
          go_region_held3 (fun w' => w'.cell? ⟨G, j, none⟩ = some (.int .i64 (cnt n t j)))
            (first | go_keep | assumption)
            (first | (go_at_call 17; refine (Had_at B n t j _ (by exact hwq) hn1).mono ?_; rintro e w' ⟨rfl, hb⟩; rw [HT.out]; have hk2 := (hb.cell (p := ⟨G, j, none⟩) hGlt).trans hcj))
          have hC2 : Below wo.heap.size wo w' := hC.trans ((below_of_drew hb).mono hC.size)
          go_wp2_with fail
          go_roundw
          case rel => exact ⟨j + 1, by omega, by go_num, hC2⟩
          case measure => simp [intOf]; omega
        · obtain rfl : j = n := by omega
          have Z1 : Hid ((turnsS j 0 t j).1 = 0) := by rw [Hid, turnsS, if_neg (by rw [slotB_no (by omega)]; simp)]
          have Z2 : Hid ((turnsS j 0 t (-1)).1 = 0) := by rw [Hid, turnsS, if_neg (by rw [slotB_no (by omega)]; simp)]
          go_wp2_with fail
          refine (Now_at B j t _ hwq hn1).mono ?_; rintro e v1 ⟨rfl, hb1⟩
          have hv1 := hwq.below hb1
          go_wp2_with fail
          refine (Slots_at B j t _ hv1 hn1).mono ?_; rintro e v2 ⟨rfl, hb2⟩
          have hv2 := hv1.below hb2
          go_wp2_with fail
          refine (Had_at B j t j _ hv2 hn1).mono ?_; rintro e v3 ⟨rfl, hb3⟩; rw [Z1.out]
          have hv3 := hv2.below hb3
          go_wp2_with fail
          refine (Had_at B j t (-1) _ hv3 hn1).mono ?_; rintro e v4 ⟨rfl, hb4⟩; rw [Z2.out]
          go_wp2_with fail
          go_ret
          have c1 := hC.trans (hb1.mono hC.size)
          have c2 := c1.trans (hb2.mono c1.size)
          have c3 := c2.trans (hb3.mono c2.size)
          have c4 := c3.trans (hb4.mono c3.size)
          have hle : B ≤ wo.heap.size := by omega
          have hBw : Below w.heap.size w wa := hba
          exact ⟨rfl, hba.trans ((hB.trans (c4.mono hle)).mono (by have := hba.size; have := HBe.out; omega))⟩

set_option maxHeartbeats 8000000 in
theorem wheel_some (a0 : Int) (h00 : 0 ≤ a0) (h01 : a0 ≤ 255) (b off len cap : Nat) (zs : List Int) (w : World) (hlc : len ≤ cap) (hcm : cap ≤ maxLen) (hc : ∀ k, k < len → ∃ z, 0 ≤ z ∧ z ≤ 65535 ∧ w.cell? ⟨b, off + k, none⟩ = some (.int .u16 z)) :
    Calls Try.prog 9 #[.int .u8 a0, (.slice (some ⟨b, off, none⟩) len cap)] w fun e w' => e = .returned (.bool true) ∧ Below w.heap.size w w' := by
  obtain ⟨n, hn⟩ : ∃ n : Nat, 1 + a0 % 8 = n := ⟨(1 + a0 % 8).toNat, by omega⟩
  have hn1 : 1 ≤ (n : Int) := by omega
  have hn8 : (n : Int) ≤ 8 := by omega
  have hN1 : 1 ≤ n := by omega
  have hN8 : n ≤ 8 := by omega
  obtain ⟨i0, hi, hz0, hz1, hz2⟩ := info_parts infoInt
  have hmk : ∀ w : World, (Instr.makeSlice 28 (.int .i64 (n : Int)) (.int .i64 (n : Int))).run Try.prog w = .ok (.slice (some ⟨w.heap.size, 0, none⟩) n n) (w.alloc (.cells (zeros n) 3)) := by
    intro w
    have := run_make (P := Try.prog) w 28 3 i0 (.int .i64 0) Try.underlying28 hi hz0 .i64 .i64 n n (by omega) (Int.le_refl _) (by rw [hz2]; omega) (by omega)
    rw [this, hz1]
    congr 3
    unfold zeros
    apply Array.toList_inj.1
    rw [show (Value.int .i64 0).cells = #[Value.int .i64 0] from rfl, Nat.mul_one, toList_madeCells_one]
    simp
  unfold maxLen at hcm
  obtain ⟨m, hmin, hml, hm⟩ : ∃ m : Nat, min (len : Int) 100 = m ∧ m ≤ len ∧ m ≤ 100 := ⟨(min (len : Int) 100).toNat, by omega, by omega, by omega⟩
  have HC := Lib.hid (fun k (hk : k < m) => hc k (by omega))
  clear hc
  have hs1 : slotsB n = true := slotsB_yes ⟨hn1, hn8⟩
  have Hn := Lib.hid hn
  go_enter Try.func9, Try.ntmps9
  go_wp2_with fail
  refine (awake_any _).mono ?_; rintro e wa ⟨rfl, hba⟩
  go_wp2_with fail
  refine (New_yes _ hs1 _).mono ?_; rintro e w' ⟨rfl, rfl⟩
  have hw0 := Boxed2.new wa n 0
  have hB0 : Below wa.heap.size wa (wa.alloc (.cells #[.int .i64 n, .int .i64 0] 31)) := (Below.refl _ _).alloc (Nat.le_refl _) _
  have hgt : wa.heap.size < (wa.alloc (.cells #[.int .i64 n, .int .i64 0] 31)).heap.size := by simp
  generalize hwb : wa.alloc (.cells #[.int .i64 n, .int .i64 0] 31) = wb at *
  clear hwb
  generalize hBe : wa.heap.size = B at *
  go_wp2_with fail
  have hw1 : WheelAt (wb.alloc (.cells (zeros n) 3)) B n 0 := hw0.below ((Below.refl _ _).alloc (Nat.le_refl _) _)
  have hh1 : IntsAt (wb.alloc (.cells (zeros n) 3)) wb.heap.size 3 (upto (hadF n 0) n) := by
    rw [← hadF_zero hn1 hn8]; exact World.alloc_heap_new wb _
  have hB1 : Below B wa (wb.alloc (.cells (zeros n) 3)) := hB0.alloc (by omega) _
  have hgt2 : wb.heap.size < (wb.alloc (.cells (zeros n) 3)).heap.size := by simp
  generalize hwc : wb.alloc (.cells (zeros n) 3) = wc at *
  clear hwc hmk hw0 hB0
  generalize wb.heap.size = G at *
  have HBe := Lib.hid hBe
  clear hBe
  go_loopw [44, 9, 11, 12, 13, 14, 15, 16, 17, 75] (fun i t _ _ _ _ _ _ _ _ wr => ∃ (k : Nat) (t0 : Int), k ≤ m ∧ i = .int .i64 k ∧ t = .int .i64 t0 ∧ 0 ≤ t0 ∧ t0 ≤ k * 65536 ∧ WheelAt wr B n t0 ∧ IntsAt wr G 3 (upto (hadF n t0) n) ∧ Below B wa wr ∧ wc.heap.size ≤ wr.heap.size) (fun i _ _ _ _ _ _ _ _ _ _ => m - (intOf i).toNat)
  case atStart => exact ⟨0, 0, by omega, rfl, rfl, by omega, by omega, hw1, hh1, hB1, Nat.le_refl _⟩
  case round =>
    obtain ⟨k, t, hk, rfl, rfl, ht0, ht1, hw, hh, hB, hsz⟩ := hrel
    clear hw1 hh1 hB1
    by_cases hlt : k < m
    · obtain ⟨z, z0, z1, hz⟩ := HC.out k hlt
      have hbl : b < w.heap.size := World.block_lt_of_cell? w _ hz
      have hz' := (hB.cell (p := ⟨b, off + k, none⟩) (by have := hba.size; have := HBe.out; simp; omega)).trans ((hba.cell (p := ⟨b, off + k, none⟩) hbl).trans hz)
      clear hz
      have hltI : (k : Int) < m := by omega
      obtain ⟨wo, rfl⟩ : ∃ wo : World, wo = wr := ⟨_, rfl⟩
      have ht3 : t + z ≤ 1099511627776 := by omega
      have hE := Lib.hid (allE_yes (n := n) (a := t) (b := t + z) ⟨hs1, boundsB_yes ⟨ht0, by omega, ht3⟩⟩)
      have hL := Lib.hid (allS_length (n := n) (a := t) (b := t + z) ⟨hs1, boundsB_yes ⟨ht0, by omega, ht3⟩⟩)
      have hG := Lib.hid (fun (j : Nat) (hj : (j : Int) < n) => allS_get (n := n) (a := t) (b := t + z) hn1 hn8 ht0 (by omega) ht3 j hj)
      go_wp2_with fail
      refine (All_any _ _ _ _).mono ?_; rintro e v1 ⟨sv, rfl, hv, hb1⟩; rw [hE.out]
      rw [hL.out, Int.toNat_natCast] at hv
      obtain ⟨g, cap', rfl⟩ := ownsRow_pos hv hN1
      have Hcell := Lib.hid (fun (j : Nat) (hj : (j : Int) < n) => owns_cell hv j _ (hG.out j hj))
      have hw1 := hw.below hb1
      have hh1 := hh.below hb1
      have hgge : wo.heap.size ≤ g := (hv.lt g rfl).1
      have hglt : g < v1.heap.size := (hv.lt g rfl).2
      clear hv hG
      go_wp2_with fail
      refine (Skip_at B _ t z _ hw1 hn1 ht0 (by omega)).mono ?_; rintro e v2 ⟨rfl, hw2, hm2⟩
      rw [skipE, if_neg (by omega), if_neg (by omega)]; rw [skipT, if_neg (by omega), if_neg (by omega)] at hw2
      have hGB : G ≠ B := by omega
      have hh2 := hh1.mod hm2 hGB
      have hgB : g ≠ B := by have := hw.lt; omega
      have hgG : g ≠ G := by have := hh.lt; omega
      have hcg : ∀ j : Nat, (j : Int) < n → v2.cell? ⟨g, j, none⟩ = some (.int .i64 (cnt n (t + z) j - cnt n t j)) := fun j hj => hm2.cell (p := ⟨g, j, none⟩) hgB (Hcell.out j hj)
      have Hcg := Lib.hid hcg
      have hM0 : Mod (fun k => k = B ∨ k = G) wo v2 := ((Mod.of_same hb1).trans (hm2.mono (fun k _ e => .inl e)))
      have hsz2 : wo.heap.size ≤ v2.heap.size := hM0.size
      have hgl2 : g < v2.heap.size := Nat.lt_of_lt_of_le hglt hm2.size
      clear Hcell hcg hw1 hh1 hm2 hb1
      go_wp2_with fail
      go_loopw [75, 14, 15] (fun i _ _ wr2 => ∃ j : Nat, j ≤ n ∧ i = .int .i64 j ∧ IntsAt wr2 G 3 (upto (mixF n t (t + z) j) n) ∧ Mod (fun k => k = G) v2 wr2) (fun i _ _ _ => n - (intOf i).toNat)
      case atStart => exact ⟨0, by omega, rfl, by rw [mixF_zero]; exact hh2, Mod.refl _ _⟩
      case round =>
        obtain ⟨j, hj, rfl, hh3, hM⟩ := hrel
        by_cases hlt2 : j < n
        · have hltI : (j : Int) < (n : Int) := by omega
          have y1 := hM.cell (p := ⟨g, j, none⟩) hgG (Hcg.out j (by omega))
          have y2 : wr.cell? ⟨G, j, none⟩ = some (.int .i64 (cnt n t j)) := hh3.cell (by rw [upto_getElem? _ _ _ hlt2]; simp [mixF])
          have y3 := hh3.frozen j
          obtain ⟨a1, a2⟩ := cnt_bd (n := n) (t := t) (s := j) hn1 hn8 (by omega) (by omega) ht0
          obtain ⟨b1, b2⟩ := cnt_bd (n := n) (t := t + z) (s := j) hn1 hn8 (by omega) (by omega) (by omega)
          have ha := hh3.set j (cnt n (t + z) j)
          rw [mixF_step] at ha
          have hM2 := hM.setCell (p := ⟨G, j, none⟩) (.inr rfl) (.int .i64 (cnt n (t + z) j))
          have hsum : cnt n t j + (cnt n (t + z) j - cnt n t j) = cnt n (t + z) j := by omega
          generalize cnt n (t + z) j = B2 at *
          generalize cnt n t j = A2 at *
          have HS := Lib.hid hsum
          have HA := Lib.hid ha
          have HM := Lib.hid hM2
          clear hsum ha hM2 hh3 hM
          go_wp2_with fail
          rw [HS.out]
          go_roundw
          case rel => exact ⟨j + 1, by omega, by go_num, HA.out, HM.out⟩
          case measure => simp [intOf]; omega
        · obtain rfl : n = j := by omega
          rw [mixF_all] at hh3
          have hw3 := hw2.mod hM (fun e => hGB e.symm)
          have hM1 := hM0.trans (hM.mono (fun k _ e => .inr e))
          clear Hcg hh2 hw2 hM hM0
          go_wp2_with fail
          refine (Tick_yes B _ _ _ hw3 hn1 (by omega) (by omega)).mono ?_; rintro e v3 ⟨rfl, hw4, hm4⟩
          have hh4 := hh3.mod hm4 hGB
          have hM4 := hM1.trans (hm4.mono (fun k _ e => .inl e))
          have hm0 := Int.emod_nonneg (t + z) (show (n : Int) ≠ 0 by omega)
          have hml2 := Int.emod_lt_of_pos (t + z) (show (0 : Int) < (n : Int) by omega)
          obtain ⟨sx, hsx⟩ : ∃ sx : Nat, (t + z) % (n : Int) = sx := ⟨_, (Int.toNat_of_nonneg hm0).symm⟩
          have hq : ((sx : Int) != (t + z) % ((n : Int))) = false := by rw [← hsx]; simp
          rw [hsx]
          rw [hsx] at hm0 hml2
          have hsl : sx < n := by omega
          have hsI : (sx : Int) < (n : Int) := by omega
          have y2 : v3.cell? ⟨G, sx, none⟩ = some (.int .i64 (cnt n (t + z) sx)) := hh4.cell (by rw [upto_getElem? _ _ _ hsl, hadF])
          have y3 := hh4.frozen sx
          obtain ⟨b1, b2⟩ := cnt_bd (n := n) (t := t + z) (s := (sx : Int)) hn1 hn8 (by omega) (by omega) (by omega)
          have ha := hh4.set sx (cnt n (t + z) sx + 1)
          have hT := hadF_tick (n := n) (t := t + z) hn1 hn8 (by omega)
          rw [hsx, Int.toNat_natCast] at hT
          rw [hT] at ha
          have Hsx := Lib.hid hsx
          clear hT hsx
          have hM5 := hM4.setCell (p := ⟨G, sx, none⟩) (.inr (.inr rfl)) (.int .i64 (cnt n (t + z) sx + 1))
          have hw5 := hw4.mod (Mod.setCell (S := (· = G)) (p := ⟨G, sx, none⟩) (Mod.refl _ _) (.inr rfl) (.int .i64 (cnt n (t + z) sx + 1))) (fun e => hGB e.symm)
          have hB5 := hB.trans (hM5.below (B := B) (by omega) (fun k hk e => by omega))
          have hs5 := hM5.size
          have HA := Lib.hid ha
          have HW := Lib.hid hw5
          have HB5 := Lib.hid hB5
          have HS5 := Lib.hid hs5
          clear ha hw5 hB5 hs5 hM5 hM4 hM1 hm4 hh3 hh4 hw3 hw4
          go_wp2_with fail
          go_roundw
          case rel => exact ⟨k + 1, t + z + 1, by omega, by go_num, rfl, by omega, by omega, HW.out, HA.out, HB5.out, Nat.le_trans hsz HS5.out⟩
          case measure => simp [intOf]; omega
    · obtain rfl : k = m := by omega
      clear hlt hk
      have ht2 : t ≤ 1099511627776 := by omega
      obtain ⟨wo, rfl⟩ : ∃ wo : World, wo = wr := ⟨_, rfl⟩
      go_wp2_with fail
      go_loopw [116, 18] (fun i _ wr2 => ∃ j : Nat, j ≤ n ∧ i = .int .i64 j ∧ Below wo.heap.size wo wr2) (fun i _ _ => n - (intOf i).toNat)
      case atStart => exact ⟨0, by omega, rfl, Below.refl _ _⟩
      case round =>
        obtain ⟨j, hj, rfl, hC⟩ := hrel
        obtain ⟨wq, rfl⟩ : ∃ wq : World, wq = wr := ⟨_, rfl⟩
        have hwq := hw.below hC
        have hhq := hh.below hC
        by_cases hlt2 : j < n
        · have hltI : (j : Int) < n := by omega
          have hcj : wq.cell? ⟨G, j, none⟩ = some (.int .i64 (cnt n t j)) := hhq.cell (by rw [upto_getElem? _ _ _ hlt2]; rfl)
          have HT := Lib.hid (allS_get0 hn1 hn8 j (by omega) hltI ht0 ht2)
          have hGlt : G < wq.heap.size := hhq.lt
          go_wp2_with fail
          go_region_held3 (fun w' => w'.cell? ⟨G, j, none⟩ = some (.int .i64 (cnt n t j)))
            (first | go_keep | assumption)
            (first | (go_at_call 17; refine (Had_at B n t j _ (by exact hwq) hn1).mono ?_; rintro e w' ⟨rfl, hb⟩; rw [HT.out]; have hk2 := (hb.cell (p := ⟨G, j, none⟩) hGlt).trans hcj))
          have hC2 : Below wo.heap.size wo w' := hC.trans ((below_of_drew hb).mono hC.size)
          go_wp2_with fail
          go_roundw
          case rel => exact ⟨j + 1, by omega, by go_num, hC2⟩
          case measure => simp [intOf]; omega
        · obtain rfl : j = n := by omega
          have Z1 : Hid ((turnsS j 0 t j).1 = 0) := by rw [Hid, turnsS, if_neg (by rw [slotB_no (by omega)]; simp)]
          have Z2 : Hid ((turnsS j 0 t (-1)).1 = 0) := by rw [Hid, turnsS, if_neg (by rw [slotB_no (by omega)]; simp)]
          go_wp2_with fail
          refine (Now_at B j t _ hwq hn1).mono ?_; rintro e v1 ⟨rfl, hb1⟩
          have hv1 := hwq.below hb1
          go_wp2_with fail
          refine (Slots_at B j t _ hv1 hn1).mono ?_; rintro e v2 ⟨rfl, hb2⟩
          have hv2 := hv1.below hb2
          go_wp2_with fail
          refine (Had_at B j t j _ hv2 hn1).mono ?_; rintro e v3 ⟨rfl, hb3⟩; rw [Z1.out]
          have hv3 := hv2.below hb3
          go_wp2_with fail
          refine (Had_at B j t (-1) _ hv3 hn1).mono ?_; rintro e v4 ⟨rfl, hb4⟩; rw [Z2.out]
          go_wp2_with fail
          go_ret
          have c1 := hC.trans (hb1.mono hC.size)
          have c2 := c1.trans (hb2.mono c1.size)
          have c3 := c2.trans (hb3.mono c2.size)
          have c4 := c3.trans (hb4.mono c3.size)
          have hle : B ≤ wo.heap.size := by omega
          have hBw : Below w.heap.size w wa := hba
          exact ⟨rfl, hba.trans ((hB.trans (c4.mono hle)).mono (by have := hba.size; have := HBe.out; omega))⟩

theorem lawWheel (w : World) (a0 : Int) (w0 : (Lit.int .u8 a0).wf = true) (a1 : Option Addr) (len1 cap1 : Nat) (z1 : List Int) (w1 : IsRow .u16 w a1 len1 cap1 z1) :
    Calls Try.prog 9 #[.int .u8 a0, .slice a1 len1 cap1] w fun e w' => e = .returned (.bool true) ∧ Below w.heap.size w w' := by
  obtain ⟨h00, h01⟩ := bounds_u8 w0
  rcases w1 with ⟨rfl, rfl, rfl, rfl⟩ | ⟨x, rfl, hl, hm, hz, hcell, hwz⟩
  · exact wheel_nil a0 h00 h01 w
  · by_cases h0 : len1 = 0
    · subst h0
      exact wheel_zero a0 h00 h01 x cap1 w hm
    · obtain ⟨b, off, spot⟩ := x
      have hspot : spot = none := by simpa [Addr.add] using World.cell?_spot (hcell 0 (by omega))
      subst hspot
      refine wheel_some a0 h00 h01 b off len1 cap1 z1 w hl hm fun k hk => ?_
      obtain ⟨b1, b2⟩ := bounds_u16 (hwz (z1.getD k 0) (by rw [List.getD_eq_getElem?_getD, List.getElem?_eq_getElem (by omega)]; exact List.getElem_mem _))
      refine ⟨z1.getD k 0, b1, b2, ?_⟩
      have := hcell k (by omega)
      rcases k with _ | k
      · simpa [Addr.add] using this
      · simpa [Addr.add] using this
end Turn
end Go.Proofs.Ytpgdlpocgfgnfaa
