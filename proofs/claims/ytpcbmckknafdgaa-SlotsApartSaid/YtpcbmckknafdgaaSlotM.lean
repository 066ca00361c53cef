/- The law SlotsApart: the walk. -/
import Derived.Test.YtpcbmckknafdgaaSlotP
namespace Go.Proofs.Ytpcbmckknafdgaa
open Go.RowKit Go.Shelf
set_option linter.unusedVariables false
set_option linter.unusedSimpArgs false
set_option maxRecDepth 100000
namespace Slot



set_option maxHeartbeats 8000000 in
theorem apart_nil (a0 : Int) (h00 : 0 ≤ a0) (h01 : a0 ≤ 255) (a1 : Int) (h10 : 0 ≤ a1) (h11 : a1 ≤ 255) (v3 : Value) (w : World)  :
    Calls Try.prog 8 #[.int .u8 a0, .int .u8 a1, .slice none 0 0, v3] w fun e w' => e = .returned (.bool true) ∧ Below w.heap.size w w' := by
  go_enter Try.func8, Try.ntmps8
  go_wp2_with fail
  refine (awake_any _).mono ?_; rintro e wa ⟨rfl, hba⟩
  go_wp2_with fail
  refine (sizes_any _ _ (by omega) (by omega) (by omega) (by omega) _).mono ?_; rintro e w' ⟨rfl, rfl⟩
  have hn0 : 0 ≤ a0 % 41 := by omega
  have hn1 : a0 % 41 ≤ 40 := by omega
  have hk1 : 1 ≤ 1 + a1 % 6 := by omega
  have hk2 : 1 + a1 % 6 ≤ 6 := by omega
  generalize a0 % 41 = ni at *
  generalize 1 + a1 % 6 = ki at *
  obtain ⟨n, rfl⟩ := Int.eq_ofNat_of_zero_le hn0
  obtain ⟨k, rfl⟩ := Int.eq_ofNat_of_zero_le (show 0 ≤ ki by omega)
  clear hn0 h00 h01 h10 h11
  go_wp2_with fail
  refine (New_yes n _ _ (by omega) (by omega)).mono ?_; rintro e wb ⟨rfl, hTa, hBa⟩
  have hla := hTa.lt
  go_wp2_with fail
  refine (New_yes n _ _ (by omega) (by omega)).mono ?_; rintro e wc ⟨rfl, hTb, hBb⟩
  have hlb := hTb.lt
  go_wp2_with fail
  refine (New_yes k _ _ (by omega) (by omega)).mono ?_; rintro e wd ⟨rfl, hTc, hBc⟩
  have hlc := hTc.lt
  have hA := hTa.below (hBb.trans (hBc.mono hBb.size))
  have hB := hTb.below hBc
  have hS := hba.trans ((hBa.trans (((hBb.trans (hBc.mono hBb.size))).mono hBa.size)).mono hba.size)
  have hS0 := hba.size
  clear hTa hTb hBa hBb hBc hba
  generalize wa.heap.size = qa at *
  generalize wb.heap.size = qb at *
  generalize wc.heap.size = qc at *
  obtain ⟨pa, hpa⟩ : ∃ pa, pa = qa + 1 := ⟨_, rfl⟩
  obtain ⟨pb, hpb⟩ : ∃ pb, pb = qb + 1 := ⟨_, rfl⟩
  obtain ⟨pc, hpc⟩ : ∃ pc, pc = qc + 1 := ⟨_, rfl⟩
  rw [← hpa, ← hpb, ← hpc]
  have hmin : min (0 : Int) 200 = 0 := by decide
  rw [← hpa] at hA hla
  rw [← hpb] at hB hlb
  rw [← hpc] at hTc hlc
  have hpos1 : w.heap.size ≤ qa ∧ qa < pa ∧ pa < qb ∧ qb < pb ∧ pb < qc ∧ qc < pc ∧ pc < wd.heap.size := by omega
  have HP := Lib.hid hpos1
  clear hpos1 hpa hpb hpc hla hlb hlc hS0
  go_wp2_with fail
  go_loopw [76, 17, 18, 19, 20, 21, 22, 23, 24] (fun i _ _ _ _ _ _ _ _ wr => ∃ (j : Nat) (T T' : Tab), j ≤ 0 ∧ i = .int .i64 j ∧ TableAt wr pa qa n T ∧ TableAt wr pb qb n T ∧ TableAt wr pc qc k T' ∧ Below w.heap.size w wr) (fun i _ _ _ _ _ _ _ _ _ => 0 - (intOf i).toNat)
  case atStart => exact ⟨0, _, _, Nat.zero_le _, rfl, hA, hB, hTc, hS⟩
  case round =>
    clear hA hB hTc hS
    obtain ⟨j, T, T', hj, rfl, hA, hB, hC, hS⟩ := hrel
    by_cases hlt : j < 0
    · exact absurd hlt (by omega)
    · obtain rfl : j = 0 := by omega
      go_wp2_with fail
      refine (Refs_any pa qa n T _ hA).mono ?_; rintro e w1 ⟨v1, rfl, hr1, hb1⟩
      have hA1 := hA.below hb1
      have hB1 := hB.below hb1
      have hS1 := hS.trans (hb1.mono hS.size)
      have hrr1 := (ReadsRefs.of_owns hr1).base
      obtain ⟨u1, c1, rfl⟩ := ownsRow_val hr1
      clear hA hB hC hS hr1 hb1
      go_wp2_with fail
      refine (Refs_any pb qb n T _ hB1).mono ?_; rintro e w2 ⟨v2, rfl, hr2, hb2⟩
      have hA2 := hA1.below hb2
      have hB2 := hB1.below hb2
      have hS2 := hS1.trans (hb2.mono hS1.size)
      have hrr2 := (ReadsRefs.of_owns hr2).base
      have hrr1' := hrr1.below hb2
      obtain ⟨u2, c2, rfl⟩ := ownsRow_val hr2
      clear hA1 hB1 hS1 hr2 hb2 hrr1
      go_wp2_with fail
      have hle := refs_le n T
      refine (EqualRefs_any 0 _ _ _ _ _ hrr1' hrr2 (by omega)).mono ?_; rintro e w' ⟨rfl, m3, rfl⟩
      rw [show decide (refsT n T = refsT n T) = true from by simp]
      have hA3 : TableAt (w2.drewN m3) pa qa n T := hA2
      have hB3 : TableAt (w2.drewN m3) pb qb n T := hB2
      have hS3 : Below w.heap.size w (w2.drewN m3) := below_drewN hS2 m3
      generalize w2.drewN m3 = w3 at *
      clear hA2 hB2 hS2 hrr1' hrr2
      go_wp2_with fail
      refine (Free_any pa qa n T _ hA3).mono ?_; rintro e w4 ⟨v4, rfl, hr4, hb4⟩
      have hB4 := hB3.below hb4
      have hS4 := hS3.trans (hb4.mono hS3.size)
      have hrd4 := Reads.of_owns (zs := T.free.map fun x : Nat => (x : Int)) (by rw [List.map_map]; exact hr4)
      obtain ⟨u4, c4, rfl⟩ := ownsRow_val hr4
      clear hA3 hB3 hS3 hr4
      go_wp2_with fail
      refine (Free_any pb qb n T _ hB4).mono ?_; rintro e w5 ⟨v5, rfl, hr5, hb5⟩
      have hS5 := hS4.trans (hb5.mono hS4.size)
      have hrd5 := Reads.of_owns (zs := T.free.map fun x : Nat => (x : Int)) (by rw [List.map_map]; exact hr5)
      have hrd4' := hrd4.mod (S := fun _ => False) (Mod.of_same hb5) (by simp)
      obtain ⟨u5, c5, rfl⟩ := ownsRow_val hr5
      clear hB4 hS4 hr5 hb5 hrd4
      go_wp2_with fail
      refine (Equal_any _ _ _ _ _ hrd4' hrd5).mono ?_; rintro e w' ⟨rfl, m6, rfl⟩
      rw [show decide ((T.free.map fun x : Nat => (x : Int)) = (T.free.map fun x : Nat => (x : Int))) = true from by simp]
      go_wp2_with fail
      go_ret
      exact ⟨rfl, below_drewN hS5 m6⟩


set_option maxHeartbeats 8000000 in
theorem apart_zero (a0 : Int) (h00 : 0 ≤ a0) (h01 : a0 ≤ 255) (a1 : Int) (h10 : 0 ≤ a1) (h11 : a1 ≤ 255) (x0 : Addr) (cap0 : Nat) (v3 : Value) (w : World) (hcm : cap0 ≤ maxLen) :
    Calls Try.prog 8 #[.int .u8 a0, .int .u8 a1, .slice (some x0) 0 cap0, v3] w fun e w' => e = .returned (.bool true) ∧ Below w.heap.size w w' := by
  go_enter Try.func8, Try.ntmps8
  go_wp2_with fail
  refine (awake_any _).mono ?_; rintro e wa ⟨rfl, hba⟩
  go_wp2_with fail
  refine (sizes_any _ _ (by omega) (by omega) (by omega) (by omega) _).mono ?_; rintro e w' ⟨rfl, rfl⟩
  have hn0 : 0 ≤ a0 % 41 := by omega
  have hn1 : a0 % 41 ≤ 40 := by omega
  have hk1 : 1 ≤ 1 + a1 % 6 := by omega
  have hk2 : 1 + a1 % 6 ≤ 6 := by omega
  generalize a0 % 41 = ni at *
  generalize 1 + a1 % 6 = ki at *
  obtain ⟨n, rfl⟩ := Int.eq_ofNat_of_zero_le hn0
  obtain ⟨k, rfl⟩ := Int.eq_ofNat_of_zero_le (show 0 ≤ ki by omega)
  clear hn0 h00 h01 h10 h11
  go_wp2_with fail
  refine (New_yes n _ _ (by omega) (by omega)).mono ?_; rintro e wb ⟨rfl, hTa, hBa⟩
  have hla := hTa.lt
  go_wp2_with fail
  refine (New_yes n _ _ (by omega) (by omega)).mono ?_; rintro e wc ⟨rfl, hTb, hBb⟩
  have hlb := hTb.lt
  go_wp2_with fail
  refine (New_yes k _ _ (by omega) (by omega)).mono ?_; rintro e wd ⟨rfl, hTc, hBc⟩
  have hlc := hTc.lt
  have hA := hTa.below (hBb.trans (hBc.mono hBb.size))
  have hB := hTb.below hBc
  have hS := hba.trans ((hBa.trans (((hBb.trans (hBc.mono hBb.size))).mono hBa.size)).mono hba.size)
  have hS0 := hba.size
  clear hTa hTb hBa hBb hBc hba
  generalize wa.heap.size = qa at *
  generalize wb.heap.size = qb at *
  generalize wc.heap.size = qc at *
  obtain ⟨pa, hpa⟩ : ∃ pa, pa = qa + 1 := ⟨_, rfl⟩
  obtain ⟨pb, hpb⟩ : ∃ pb, pb = qb + 1 := ⟨_, rfl⟩
  obtain ⟨pc, hpc⟩ : ∃ pc, pc = qc + 1 := ⟨_, rfl⟩
  rw [← hpa, ← hpb, ← hpc]
  have hmin : min (0 : Int) 200 = 0 := by decide
  rw [← hpa] at hA hla
  rw [← hpb] at hB hlb
  rw [← hpc] at hTc hlc
  have hpos1 : w.heap.size ≤ qa ∧ qa < pa ∧ pa < qb ∧ qb < pb ∧ pb < qc ∧ qc < pc ∧ pc < wd.heap.size := by omega
  have HP := Lib.hid hpos1
  clear hpos1 hpa hpb hpc hla hlb hlc hS0
  go_wp2_with fail
  go_loopw [76, 17, 18, 19, 20, 21, 22, 23, 24] (fun i _ _ _ _ _ _ _ _ wr => ∃ (j : Nat) (T T' : Tab), j ≤ 0 ∧ i = .int .i64 j ∧ TableAt wr pa qa n T ∧ TableAt wr pb qb n T ∧ TableAt wr pc qc k T' ∧ Below w.heap.size w wr) (fun i _ _ _ _ _ _ _ _ _ => 0 - (intOf i).toNat)
  case atStart => exact ⟨0, _, _, Nat.zero_le _, rfl, hA, hB, hTc, hS⟩
  case round =>
    clear hA hB hTc hS
    obtain ⟨j, T, T', hj, rfl, hA, hB, hC, hS⟩ := hrel
    by_cases hlt : j < 0
    · exact absurd hlt (by omega)
    · obtain rfl : j = 0 := by omega
      go_wp2_with fail
      refine (Refs_any pa qa n T _ hA).mono ?_; rintro e w1 ⟨v1, rfl, hr1, hb1⟩
      have hA1 := hA.below hb1
      have hB1 := hB.below hb1
      have hS1 := hS.trans (hb1.mono hS.size)
      have hrr1 := (ReadsRefs.of_owns hr1).base
      obtain ⟨u1, c1, rfl⟩ := ownsRow_val hr1
      clear hA hB hC hS hr1 hb1
      go_wp2_with fail
      refine (Refs_any pb qb n T _ hB1).mono ?_; rintro e w2 ⟨v2, rfl, hr2, hb2⟩
      have hA2 := hA1.below hb2
      have hB2 := hB1.below hb2
      have hS2 := hS1.trans (hb2.mono hS1.size)
      have hrr2 := (ReadsRefs.of_owns hr2).base
      have hrr1' := hrr1.below hb2
      obtain ⟨u2, c2, rfl⟩ := ownsRow_val hr2
      clear hA1 hB1 hS1 hr2 hb2 hrr1
      go_wp2_with fail
      have hle := refs_le n T
      refine (EqualRefs_any 0 _ _ _ _ _ hrr1' hrr2 (by omega)).mono ?_; rintro e w' ⟨rfl, m3, rfl⟩
      rw [show decide (refsT n T = refsT n T) = true from by simp]
      have hA3 : TableAt (w2.drewN m3) pa qa n T := hA2
      have hB3 : TableAt (w2.drewN m3) pb qb n T := hB2
      have hS3 : Below w.heap.size w (w2.drewN m3) := below_drewN hS2 m3
      generalize w2.drewN m3 = w3 at *
      clear hA2 hB2 hS2 hrr1' hrr2
      go_wp2_with fail
      refine (Free_any pa qa n T _ hA3).mono ?_; rintro e w4 ⟨v4, rfl, hr4, hb4⟩
      have hB4 := hB3.below hb4
      have hS4 := hS3.trans (hb4.mono hS3.size)
      have hrd4 := Reads.of_owns (zs := T.free.map fun x : Nat => (x : Int)) (by rw [List.map_map]; exact hr4)
      obtain ⟨u4, c4, rfl⟩ := ownsRow_val hr4
      clear hA3 hB3 hS3 hr4
      go_wp2_with fail
      refine (Free_any pb qb n T _ hB4).mono ?_; rintro e w5 ⟨v5, rfl, hr5, hb5⟩
      have hS5 := hS4.trans (hb5.mono hS4.size)
      have hrd5 := Reads.of_owns (zs := T.free.map fun x : Nat => (x : Int)) (by rw [List.map_map]; exact hr5)
      have hrd4' := hrd4.mod (S := fun _ => False) (Mod.of_same hb5) (by simp)
      obtain ⟨u5, c5, rfl⟩ := ownsRow_val hr5
      clear hB4 hS4 hr5 hb5 hrd4
      go_wp2_with fail
      refine (Equal_any _ _ _ _ _ hrd4' hrd5).mono ?_; rintro e w' ⟨rfl, m6, rfl⟩
      rw [show decide ((T.free.map fun x : Nat => (x : Int)) = (T.free.map fun x : Nat => (x : Int))) = true from by simp]
      go_wp2_with fail
      go_ret
      exact ⟨rfl, below_drewN hS5 m6⟩


set_option maxHeartbeats 8000000 in
theorem apart_some (a0 : Int) (h00 : 0 ≤ a0) (h01 : a0 ≤ 255) (a1 : Int) (h10 : 0 ≤ a1) (h11 : a1 ≤ 255) (b off len cap : Nat) (a3 : Option Addr) (cap3 : Nat) (z : List Int) (w : World) (hcw : ∀ i (w' : World), Below w.heap.size w w' → i < len → w'.cell? ⟨b, off + i, none⟩ = some (.int .u8 (z.getD i 0))) (hxb : ∀ i, i < len → 0 ≤ z.getD i 0 ∧ z.getD i 0 < 256) (hl : len ≤ cap) (hpos : 1 ≤ len) (hm : cap ≤ maxLen) :
    Calls Try.prog 8 #[.int .u8 a0, .int .u8 a1, .slice (some ⟨b, off, none⟩) len cap, .slice a3 0 cap3] w fun e w' => e = .returned (.bool true) ∧ Below w.heap.size w w' := by
  go_enter Try.func8, Try.ntmps8
  go_wp2_with fail
  refine (awake_any _).mono ?_; rintro e wa ⟨rfl, hba⟩
  go_wp2_with fail
  refine (sizes_any _ _ (by omega) (by omega) (by omega) (by omega) _).mono ?_; rintro e w' ⟨rfl, rfl⟩
  have hn0 : 0 ≤ a0 % 41 := by omega
  have hn1 : a0 % 41 ≤ 40 := by omega
  have hk1 : 1 ≤ 1 + a1 % 6 := by omega
  have hk2 : 1 + a1 % 6 ≤ 6 := by omega
  generalize a0 % 41 = ni at *
  generalize 1 + a1 % 6 = ki at *
  obtain ⟨n, rfl⟩ := Int.eq_ofNat_of_zero_le hn0
  obtain ⟨k, rfl⟩ := Int.eq_ofNat_of_zero_le (show 0 ≤ ki by omega)
  clear hn0 h00 h01 h10 h11
  go_wp2_with fail
  refine (New_yes n _ _ (by omega) (by omega)).mono ?_; rintro e wb ⟨rfl, hTa, hBa⟩
  have hla := hTa.lt
  go_wp2_with fail
  refine (New_yes n _ _ (by omega) (by omega)).mono ?_; rintro e wc ⟨rfl, hTb, hBb⟩
  have hlb := hTb.lt
  go_wp2_with fail
  refine (New_yes k _ _ (by omega) (by omega)).mono ?_; rintro e wd ⟨rfl, hTc, hBc⟩
  have hlc := hTc.lt
  have hA := hTa.below (hBb.trans (hBc.mono hBb.size))
  have hB := hTb.below hBc
  have hS := hba.trans ((hBa.trans (((hBb.trans (hBc.mono hBb.size))).mono hBa.size)).mono hba.size)
  have hS0 := hba.size
  clear hTa hTb hBa hBb hBc hba
  generalize wa.heap.size = qa at *
  generalize wb.heap.size = qb at *
  generalize wc.heap.size = qc at *
  obtain ⟨pa, hpa⟩ : ∃ pa, pa = qa + 1 := ⟨_, rfl⟩
  obtain ⟨pb, hpb⟩ : ∃ pb, pb = qb + 1 := ⟨_, rfl⟩
  obtain ⟨pc, hpc⟩ : ∃ pc, pc = qc + 1 := ⟨_, rfl⟩
  rw [← hpa, ← hpb, ← hpc]
  have HCW := Lib.hid hcw
  have HXB := Lib.hid hxb
  clear hcw hxb
  obtain ⟨m, hmin, hml, hm2⟩ : ∃ m : Nat, min (len : Int) 200 = m ∧ m ≤ len ∧ m ≤ 200 := ⟨(min (len : Int) 200).toNat, by omega, by omega, by omega⟩
  have hmc : m ≤ cap := by omega
  rw [← hpa] at hA hla
  rw [← hpb] at hB hlb
  rw [← hpc] at hTc hlc
  have hpos1 : w.heap.size ≤ qa ∧ qa < pa ∧ pa < qb ∧ qb < pb ∧ pb < qc ∧ qc < pc ∧ pc < wd.heap.size := by omega
  have HP := Lib.hid hpos1
  clear hpos1 hpa hpb hpc hla hlb hlc hS0
  go_wp2_with fail
  go_loopw [76, 17, 18, 19, 20, 21, 22, 23, 24] (fun i _ _ _ _ _ _ _ _ wr => ∃ (j : Nat) (T T' : Tab), j ≤ m ∧ i = .int .i64 j ∧ TableAt wr pa qa n T ∧ TableAt wr pb qb n T ∧ TableAt wr pc qc k T' ∧ Below w.heap.size w wr) (fun i _ _ _ _ _ _ _ _ _ => m - (intOf i).toNat)
  case atStart => exact ⟨0, _, _, Nat.zero_le _, rfl, hA, hB, hTc, hS⟩
  case round =>
    clear hA hB hTc hS
    obtain ⟨j, T, T', hj, rfl, hA, hB, hC, hS⟩ := hrel
    by_cases hlt : j < m
    · obtain ⟨wo, rfl⟩ : ∃ wo : World, wo = wr := ⟨_, rfl⟩
      have hcj := HCW.out j wo hS (by omega)
      have hxj := HXB.out j (by omega)
      generalize z.getD j 0 = x at *
      have hp := HP.out
      go_wp2_with fail
      refine (Step_any pa qa n T x hxj _ hA).mono ?_; rintro e w1 ⟨rfl, hA1, hM1⟩
      have hB1 := hB.mod hM1 (by omega) (by omega)
      have hC1 := hC.mod hM1 (by omega) (by omega)
      have hS1 := hS.trans (hM1.below hS.size (fun k hk e => by omega))
      clear hcj hA hB hC hS hM1
      generalize hs : stepT n T x = s at *
      obtain ⟨T1, ⟨ra, rb⟩, tb, er⟩ := s
      have Hs := Lib.hid hs
      clear hs
      dsimp only at hA1 ⊢
      have bl : Below w1.heap.size w1 (w1.alloc (.cells #[.int .i64 ra, .int .i64 rb] 26)) := (Below.refl _ w1).alloc (Nat.le_refl _) _
      have hx1 : RefAt (w1.alloc (.cells #[.int .i64 ra, .int .i64 rb] 26)) w1.heap.size (ra, rb) := World.alloc_heap_new w1 _
      have hA1' := hA1.below bl
      have hB1' := hB1.below bl
      have hC1' := hC1.below bl
      have hS1' := hS1.trans (bl.mono hS1.size)
      have hg1 := hA1.lt.1
      have hg2 := hB1.lt.1
      have hg3 := hC1.lt.1
      have hnp : ¬ (w1.heap.size = pb ∨ w1.heap.size = qb) := by omega
      have hnc : ¬ (w1.heap.size = pc ∨ w1.heap.size = qc) := by omega
      have HNP := Lib.hid hnp
      have HNC := Lib.hid hnc
      have HX1 := Lib.hid hx1
      clear hA1 hB1 hC1 hS1 bl hg1 hg2 hg3 hnp hnc hx1 hp
      have hq0 : (ra == ra) = true := by simp
      have hq1 : (rb == rb) = true := by simp
      have hq2 : (er == er) = true := by simp
      have hq3 : (tb == tb) = true := by simp
      go_wp2_with fail
      generalize (w1.alloc (.cells #[.int .i64 ra, .int .i64 rb] 26)) = W1 at *
      generalize w1.heap.size = B1 at *
      refine (Step_any pb qb n T x hxj _ hB1').mono ?_; rintro e w3 ⟨rfl, hB3, hM3⟩
      rw [Hs.out] at hB3 ⊢
      dsimp only at hB3 ⊢
      have hA3 := hA1'.mod hM3 (by have := HP.out; omega) (by have := HP.out; omega)
      have hC3 := hC1'.mod hM3 (by have := HP.out; omega) (by have := HP.out; omega)
      have hS3 := hS1'.trans (hM3.below hS1'.size (fun k hk e => by have := HP.out; omega))
      have hx3 : RefAt w3 B1 (ra, rb) := hM3.heap HX1.out HNP.out
      clear hA1' hB1' hC1' hS1' hM3 HX1
      have bl3 : Below w3.heap.size w3 (w3.alloc (.cells #[.int .i64 ra, .int .i64 rb] 26)) := (Below.refl _ w3).alloc (Nat.le_refl _) _
      have hy4 : RefAt (w3.alloc (.cells #[.int .i64 ra, .int .i64 rb] 26)) w3.heap.size (ra, rb) := World.alloc_heap_new w3 _
      have hx4 : RefAt (w3.alloc (.cells #[.int .i64 ra, .int .i64 rb] 26)) B1 (ra, rb) := (bl3.block _ (Array.getElem?_eq_some_iff.1 hx3).1).trans hx3
      have hA4 := hA3.below bl3
      have hB4 := hB3.below bl3
      have hC4 := hC3.below bl3
      have hS4 := hS3.trans (bl3.mono hS3.size)
      have d0 := hy4.c0
      have d1 := hy4.c1
      have d2 := hx4.c0
      have d3 := hx4.c1
      clear hA3 hB3 hC3 hS3 bl3 hx3 hx4 hy4
      go_wp2_with fail
      go_roundw
      case rel => exact ⟨j + 1, T1, _, by omega, by go_num, hA4, hB4, hC4, hS4⟩
      case measure => simp [intOf]; omega
    · obtain rfl : j = m := by omega
      go_wp2_with fail
      refine (Refs_any pa qa n T _ hA).mono ?_; rintro e w1 ⟨v1, rfl, hr1, hb1⟩
      have hA1 := hA.below hb1
      have hB1 := hB.below hb1
      have hS1 := hS.trans (hb1.mono hS.size)
      have hrr1 := (ReadsRefs.of_owns hr1).base
      obtain ⟨u1, c1, rfl⟩ := ownsRow_val hr1
      clear hA hB hC hS hr1 hb1
      go_wp2_with fail
      refine (Refs_any pb qb n T _ hB1).mono ?_; rintro e w2 ⟨v2, rfl, hr2, hb2⟩
      have hA2 := hA1.below hb2
      have hB2 := hB1.below hb2
      have hS2 := hS1.trans (hb2.mono hS1.size)
      have hrr2 := (ReadsRefs.of_owns hr2).base
      have hrr1' := hrr1.below hb2
      obtain ⟨u2, c2, rfl⟩ := ownsRow_val hr2
      clear hA1 hB1 hS1 hr2 hb2 hrr1
      go_wp2_with fail
      have hle := refs_le n T
      refine (EqualRefs_any 0 _ _ _ _ _ hrr1' hrr2 (by omega)).mono ?_; rintro e w' ⟨rfl, m3, rfl⟩
      rw [show decide (refsT n T = refsT n T) = true from by simp]
      have hA3 : TableAt (w2.drewN m3) pa qa n T := hA2
      have hB3 : TableAt (w2.drewN m3) pb qb n T := hB2
      have hS3 : Below w.heap.size w (w2.drewN m3) := below_drewN hS2 m3
      generalize w2.drewN m3 = w3 at *
      clear hA2 hB2 hS2 hrr1' hrr2
      go_wp2_with fail
      refine (Free_any pa qa n T _ hA3).mono ?_; rintro e w4 ⟨v4, rfl, hr4, hb4⟩
      have hB4 := hB3.below hb4
      have hS4 := hS3.trans (hb4.mono hS3.size)
      have hrd4 := Reads.of_owns (zs := T.free.map fun x : Nat => (x : Int)) (by rw [List.map_map]; exact hr4)
      obtain ⟨u4, c4, rfl⟩ := ownsRow_val hr4
      clear hA3 hB3 hS3 hr4
      go_wp2_with fail
      refine (Free_any pb qb n T _ hB4).mono ?_; rintro e w5 ⟨v5, rfl, hr5, hb5⟩
      have hS5 := hS4.trans (hb5.mono hS4.size)
      have hrd5 := Reads.of_owns (zs := T.free.map fun x : Nat => (x : Int)) (by rw [List.map_map]; exact hr5)
      have hrd4' := hrd4.mod (S := fun _ => False) (Mod.of_same hb5) (by simp)
      obtain ⟨u5, c5, rfl⟩ := ownsRow_val hr5
      clear hB4 hS4 hr5 hb5 hrd4
      go_wp2_with fail
      refine (Equal_any _ _ _ _ _ hrd4' hrd5).mono ?_; rintro e w' ⟨rfl, m6, rfl⟩
      rw [show decide ((T.free.map fun x : Nat => (x : Int)) = (T.free.map fun x : Nat => (x : Int))) = true from by simp]
      go_wp2_with fail
      go_ret
      exact ⟨rfl, below_drewN hS5 m6⟩


set_option maxHeartbeats 8000000 in
theorem apart_both (a0 : Int) (h00 : 0 ≤ a0) (h01 : a0 ≤ 255) (a1 : Int) (h10 : 0 ≤ a1) (h11 : a1 ≤ 255) (b off len cap : Nat) (bo offo leno capo : Nat) (z zo : List Int) (w : World) (hcw : ∀ i (w' : World), Below w.heap.size w w' → i < len → w'.cell? ⟨b, off + i, none⟩ = some (.int .u8 (z.getD i 0))) (hxb : ∀ i, i < len → 0 ≤ z.getD i 0 ∧ z.getD i 0 < 256) (hl : len ≤ cap) (hpos : 1 ≤ len) (hm : cap ≤ maxLen) (hcwo : ∀ i (w' : World), Below w.heap.size w w' → i < leno → w'.cell? ⟨bo, offo + i, none⟩ = some (.int .u8 (zo.getD i 0))) (hxbo : ∀ i, i < leno → 0 ≤ zo.getD i 0 ∧ zo.getD i 0 < 256) (hlo : leno ≤ capo) (hpo : 1 ≤ leno) (hmo : capo ≤ maxLen) :
    Calls Try.prog 8 #[.int .u8 a0, .int .u8 a1, .slice (some ⟨b, off, none⟩) len cap, .slice (some ⟨bo, offo, none⟩) leno capo] w fun e w' => e = .returned (.bool true) ∧ Below w.heap.size w w' := by
  go_enter Try.func8, Try.ntmps8
  go_wp2_with fail
  refine (awake_any _).mono ?_; rintro e wa ⟨rfl, hba⟩
  go_wp2_with fail
  refine (sizes_any _ _ (by omega) (by omega) (by omega) (by omega) _).mono ?_; rintro e w' ⟨rfl, rfl⟩
  have hn0 : 0 ≤ a0 % 41 := by omega
  have hn1 : a0 % 41 ≤ 40 := by omega
  have hk1 : 1 ≤ 1 + a1 % 6 := by omega
  have hk2 : 1 + a1 % 6 ≤ 6 := by omega
  generalize a0 % 41 = ni at *
  generalize 1 + a1 % 6 = ki at *
  obtain ⟨n, rfl⟩ := Int.eq_ofNat_of_zero_le hn0
  obtain ⟨k, rfl⟩ := Int.eq_ofNat_of_zero_le (show 0 ≤ ki by omega)
  clear hn0 h00 h01 h10 h11
  go_wp2_with fail
  refine (New_yes n _ _ (by omega) (by omega)).mono ?_; rintro e wb ⟨rfl, hTa, hBa⟩
  have hla := hTa.lt
  go_wp2_with fail
  refine (New_yes n _ _ (by omega) (by omega)).mono ?_; rintro e wc ⟨rfl, hTb, hBb⟩
  have hlb := hTb.lt
  go_wp2_with fail
  refine (New_yes k _ _ (by omega) (by omega)).mono ?_; rintro e wd ⟨rfl, hTc, hBc⟩
  have hlc := hTc.lt
  have hA := hTa.below (hBb.trans (hBc.mono hBb.size))
  have hB := hTb.below hBc
  have hS := hba.trans ((hBa.trans (((hBb.trans (hBc.mono hBb.size))).mono hBa.size)).mono hba.size)
  have hS0 := hba.size
  clear hTa hTb hBa hBb hBc hba
  generalize wa.heap.size = qa at *
  generalize wb.heap.size = qb at *
  generalize wc.heap.size = qc at *
  obtain ⟨pa, hpa⟩ : ∃ pa, pa = qa + 1 := ⟨_, rfl⟩
  obtain ⟨pb, hpb⟩ : ∃ pb, pb = qb + 1 := ⟨_, rfl⟩
  obtain ⟨pc, hpc⟩ : ∃ pc, pc = qc + 1 := ⟨_, rfl⟩
  rw [← hpa, ← hpb, ← hpc]
  have HCWO := Lib.hid hcwo
  have HXBO := Lib.hid hxbo
  clear hcwo hxbo
  have HCW := Lib.hid hcw
  have HXB := Lib.hid hxb
  clear hcw hxb
  obtain ⟨m, hmin, hml, hm2⟩ : ∃ m : Nat, min (len : Int) 200 = m ∧ m ≤ len ∧ m ≤ 200 := ⟨(min (len : Int) 200).toNat, by omega, by omega, by omega⟩
  have hmc : m ≤ cap := by omega
  rw [← hpa] at hA hla
  rw [← hpb] at hB hlb
  rw [← hpc] at hTc hlc
  have hpos1 : w.heap.size ≤ qa ∧ qa < pa ∧ pa < qb ∧ qb < pb ∧ pb < qc ∧ qc < pc ∧ pc < wd.heap.size := by omega
  have HP := Lib.hid hpos1
  clear hpos1 hpa hpb hpc hla hlb hlc hS0
  go_wp2_with fail
  go_loopw [76, 17, 18, 19, 20, 21, 22, 23, 24] (fun i _ _ _ _ _ _ _ _ wr => ∃ (j : Nat) (T T' : Tab), j ≤ m ∧ i = .int .i64 j ∧ TableAt wr pa qa n T ∧ TableAt wr pb qb n T ∧ TableAt wr pc qc k T' ∧ Below w.heap.size w wr) (fun i _ _ _ _ _ _ _ _ _ => m - (intOf i).toNat)
  case atStart => exact ⟨0, _, _, Nat.zero_le _, rfl, hA, hB, hTc, hS⟩
  case round =>
    clear hA hB hTc hS
    obtain ⟨j, T, T', hj, rfl, hA, hB, hC, hS⟩ := hrel
    by_cases hlt : j < m
    · obtain ⟨wo, rfl⟩ : ∃ wo : World, wo = wr := ⟨_, rfl⟩
      have hcj := HCW.out j wo hS (by omega)
      have hxj := HXB.out j (by omega)
      generalize z.getD j 0 = x at *
      have hp := HP.out
      go_wp2_with fail
      refine (Step_any pa qa n T x hxj _ hA).mono ?_; rintro e w1 ⟨rfl, hA1, hM1⟩
      have hB1 := hB.mod hM1 (by omega) (by omega)
      have hC1 := hC.mod hM1 (by omega) (by omega)
      have hS1 := hS.trans (hM1.below hS.size (fun k hk e => by omega))
      clear hcj hA hB hC hS hM1
      generalize hs : stepT n T x = s at *
      obtain ⟨T1, ⟨ra, rb⟩, tb, er⟩ := s
      have Hs := Lib.hid hs
      clear hs
      dsimp only at hA1 ⊢
      have bl : Below w1.heap.size w1 (w1.alloc (.cells #[.int .i64 ra, .int .i64 rb] 26)) := (Below.refl _ w1).alloc (Nat.le_refl _) _
      have hx1 : RefAt (w1.alloc (.cells #[.int .i64 ra, .int .i64 rb] 26)) w1.heap.size (ra, rb) := World.alloc_heap_new w1 _
      have hA1' := hA1.below bl
      have hB1' := hB1.below bl
      have hC1' := hC1.below bl
      have hS1' := hS1.trans (bl.mono hS1.size)
      have hg1 := hA1.lt.1
      have hg2 := hB1.lt.1
      have hg3 := hC1.lt.1
      have hnp : ¬ (w1.heap.size = pb ∨ w1.heap.size = qb) := by omega
      have hnc : ¬ (w1.heap.size = pc ∨ w1.heap.size = qc) := by omega
      have HNP := Lib.hid hnp
      have HNC := Lib.hid hnc
      have HX1 := Lib.hid hx1
      clear hA1 hB1 hC1 hS1 bl hg1 hg2 hg3 hnp hnc hx1 hp
      by_cases hjo : j < leno
      · have hjoI : (j : Int) < leno := by omega
        have hco := HCWO.out j _ hS1' hjo
        have hxo := HXBO.out j hjo
        generalize zo.getD j 0 = y at *
        go_wp2_with fail
        generalize (w1.alloc (.cells #[.int .i64 ra, .int .i64 rb] 26)) = W1 at *
        generalize w1.heap.size = B1 at *
        refine (Step_any pc qc k T' y hxo _ hC1').mono ?_; rintro e w2 ⟨rfl, hC2, hM2⟩
        generalize stepT k T' y = s2 at *
        obtain ⟨T2, ⟨rc, rd⟩, tc, ec⟩ := s2
        dsimp only at hC2 ⊢
        have hA2 := hA1'.mod hM2 (by have := HP.out; omega) (by have := HP.out; omega)
        have hB2 := hB1'.mod hM2 (by have := HP.out; omega) (by have := HP.out; omega)
        have hS2 := hS1'.trans (hM2.below hS1'.size (fun k hk e => by have := HP.out; omega))
        have hx2 : RefAt w2 B1 (ra, rb) := hM2.heap HX1.out HNC.out
        have HX2 := Lib.hid hx2
        clear hco hA1' hB1' hC1' hS1' hM2 HX1 hx2
        have hq0 : (ra == ra) = true := by simp
        have hq1 : (rb == rb) = true := by simp
        have hq2 : (er == er) = true := by simp
        have hq3 : (tb == tb) = true := by simp
        go_wp2_with fail

        refine (Step_any pb qb n T x hxj _ hB2).mono ?_; rintro e w3 ⟨rfl, hB3, hM3⟩
        rw [Hs.out] at hB3 ⊢
        dsimp only at hB3 ⊢
        have hA3 := hA2.mod hM3 (by have := HP.out; omega) (by have := HP.out; omega)
        have hC3 := hC2.mod hM3 (by have := HP.out; omega) (by have := HP.out; omega)
        have hS3 := hS2.trans (hM3.below hS2.size (fun k hk e => by have := HP.out; omega))
        have hx3 : RefAt w3 B1 (ra, rb) := hM3.heap HX2.out HNP.out
        clear hA2 hB2 hC2 hS2 hM3 HX2
        have bl3 : Below w3.heap.size w3 (w3.alloc (.cells #[.int .i64 ra, .int .i64 rb] 26)) := (Below.refl _ w3).alloc (Nat.le_refl _) _
        have hy4 : RefAt (w3.alloc (.cells #[.int .i64 ra, .int .i64 rb] 26)) w3.heap.size (ra, rb) := World.alloc_heap_new w3 _
        have hx4 : RefAt (w3.alloc (.cells #[.int .i64 ra, .int .i64 rb] 26)) B1 (ra, rb) := (bl3.block _ (Array.getElem?_eq_some_iff.1 hx3).1).trans hx3
        have hA4 := hA3.below bl3
        have hB4 := hB3.below bl3
        have hC4 := hC3.below bl3
        have hS4 := hS3.trans (bl3.mono hS3.size)
        have d0 := hy4.c0
        have d1 := hy4.c1
        have d2 := hx4.c0
        have d3 := hx4.c1
        clear hA3 hB3 hC3 hS3 bl3 hx3 hx4 hy4
        go_wp2_with fail
        go_roundw
        case rel => exact ⟨j + 1, T1, _, by omega, by go_num, hA4, hB4, hC4, hS4⟩
        case measure => simp [intOf]; omega
      · have hjoI : ¬ (j : Int) < leno := by omega
        have hq0 : (ra == ra) = true := by simp
        have hq1 : (rb == rb) = true := by simp
        have hq2 : (er == er) = true := by simp
        have hq3 : (tb == tb) = true := by simp
        go_wp2_with fail
        generalize (w1.alloc (.cells #[.int .i64 ra, .int .i64 rb] 26)) = W1 at *
        generalize w1.heap.size = B1 at *
        refine (Step_any pb qb n T x hxj _ hB1').mono ?_; rintro e w3 ⟨rfl, hB3, hM3⟩
        rw [Hs.out] at hB3 ⊢
        dsimp only at hB3 ⊢
        have hA3 := hA1'.mod hM3 (by have := HP.out; omega) (by have := HP.out; omega)
        have hC3 := hC1'.mod hM3 (by have := HP.out; omega) (by have := HP.out; omega)
        have hS3 := hS1'.trans (hM3.below hS1'.size (fun k hk e => by have := HP.out; omega))
        have hx3 : RefAt w3 B1 (ra, rb) := hM3.heap HX1.out HNP.out
        clear hA1' hB1' hC1' hS1' hM3 HX1
        have bl3 : Below w3.heap.size w3 (w3.alloc (.cells #[.int .i64 ra, .int .i64 rb] 26)) := (Below.refl _ w3).alloc (Nat.le_refl _) _
        have hy4 : RefAt (w3.alloc (.cells #[.int .i64 ra, .int .i64 rb] 26)) w3.heap.size (ra, rb) := World.alloc_heap_new w3 _
        have hx4 : RefAt (w3.alloc (.cells #[.int .i64 ra, .int .i64 rb] 26)) B1 (ra, rb) := (bl3.block _ (Array.getElem?_eq_some_iff.1 hx3).1).trans hx3
        have hA4 := hA3.below bl3
        have hB4 := hB3.below bl3
        have hC4 := hC3.below bl3
        have hS4 := hS3.trans (bl3.mono hS3.size)
        have d0 := hy4.c0
        have d1 := hy4.c1
        have d2 := hx4.c0
        have d3 := hx4.c1
        clear hA3 hB3 hC3 hS3 bl3 hx3 hx4 hy4
        go_wp2_with fail
        go_roundw
        case rel => exact ⟨j + 1, T1, _, by omega, by go_num, hA4, hB4, hC4, hS4⟩
        case measure => simp [intOf]; omega
    · obtain rfl : j = m := by omega
      go_wp2_with fail
      refine (Refs_any pa qa n T _ hA).mono ?_; rintro e w1 ⟨v1, rfl, hr1, hb1⟩
      have hA1 := hA.below hb1
      have hB1 := hB.below hb1
      have hS1 := hS.trans (hb1.mono hS.size)
      have hrr1 := (ReadsRefs.of_owns hr1).base
      obtain ⟨u1, c1, rfl⟩ := ownsRow_val hr1
      clear hA hB hC hS hr1 hb1
      go_wp2_with fail
      refine (Refs_any pb qb n T _ hB1).mono ?_; rintro e w2 ⟨v2, rfl, hr2, hb2⟩
      have hA2 := hA1.below hb2
      have hB2 := hB1.below hb2
      have hS2 := hS1.trans (hb2.mono hS1.size)
      have hrr2 := (ReadsRefs.of_owns hr2).base
      have hrr1' := hrr1.below hb2
      obtain ⟨u2, c2, rfl⟩ := ownsRow_val hr2
      clear hA1 hB1 hS1 hr2 hb2 hrr1
      go_wp2_with fail
      have hle := refs_le n T
      refine (EqualRefs_any 0 _ _ _ _ _ hrr1' hrr2 (by omega)).mono ?_; rintro e w' ⟨rfl, m3, rfl⟩
      rw [show decide (refsT n T = refsT n T) = true from by simp]
      have hA3 : TableAt (w2.drewN m3) pa qa n T := hA2
      have hB3 : TableAt (w2.drewN m3) pb qb n T := hB2
      have hS3 : Below w.heap.size w (w2.drewN m3) := below_drewN hS2 m3
      generalize w2.drewN m3 = w3 at *
      clear hA2 hB2 hS2 hrr1' hrr2
      go_wp2_with fail
      refine (Free_any pa qa n T _ hA3).mono ?_; rintro e w4 ⟨v4, rfl, hr4, hb4⟩
      have hB4 := hB3.below hb4
      have hS4 := hS3.trans (hb4.mono hS3.size)
      have hrd4 := Reads.of_owns (zs := T.free.map fun x : Nat => (x : Int)) (by rw [List.map_map]; exact hr4)
      obtain ⟨u4, c4, rfl⟩ := ownsRow_val hr4
      clear hA3 hB3 hS3 hr4
      go_wp2_with fail
      refine (Free_any pb qb n T _ hB4).mono ?_; rintro e w5 ⟨v5, rfl, hr5, hb5⟩
      have hS5 := hS4.trans (hb5.mono hS4.size)
      have hrd5 := Reads.of_owns (zs := T.free.map fun x : Nat => (x : Int)) (by rw [List.map_map]; exact hr5)
      have hrd4' := hrd4.mod (S := fun _ => False) (Mod.of_same hb5) (by simp)
      obtain ⟨u5, c5, rfl⟩ := ownsRow_val hr5
      clear hB4 hS4 hr5 hb5 hrd4
      go_wp2_with fail
      refine (Equal_any _ _ _ _ _ hrd4' hrd5).mono ?_; rintro e w' ⟨rfl, m6, rfl⟩
      rw [show decide ((T.free.map fun x : Nat => (x : Int)) = (T.free.map fun x : Nat => (x : Int))) = true from by simp]
      go_wp2_with fail
      go_ret
      exact ⟨rfl, below_drewN hS5 m6⟩


theorem lawApart (w : World) (a0 : Int) (w0 : (Lit.int .u8 a0).wf = true) (a1 : Int) (w1 : (Lit.int .u8 a1).wf = true) (a2 : Option Addr) (len2 cap2 : Nat) (z2 : List Int) (w2 : IsRow .u8 w a2 len2 cap2 z2) (a3 : Option Addr) (len3 cap3 : Nat) (z3 : List Int) (w3 : IsRow .u8 w a3 len3 cap3 z3) :
    Calls Try.prog 8 #[.int .u8 a0, .int .u8 a1, .slice a2 len2 cap2, .slice a3 len3 cap3] w fun e w' => e = .returned (.bool true) ∧ Below w.heap.size w w' := by
  obtain ⟨h00, h01⟩ := bounds_u8 w0
  obtain ⟨h10, h11⟩ := bounds_u8 w1
  rcases row_cases w2 with ⟨rfl, rfl, rfl⟩ | ⟨x, rfl, rfl, hm⟩ | ⟨b, off, rfl, h1, h2, h3, h4, h5⟩
  · exact apart_nil a0 h00 h01 a1 h10 h11 _ w
  · exact apart_zero a0 h00 h01 a1 h10 h11 _ _ _ w hm
  · rcases row_cases w3 with ⟨rfl, rfl, rfl⟩ | ⟨x, rfl, rfl, hmo⟩ | ⟨bo, offo, rfl, o1, o2, o3, o4, o5⟩
    · exact apart_some a0 h00 h01 a1 h10 h11 b off len2 cap2 _ _ z2 w h4 h5 h2 h1 h3
    · exact apart_some a0 h00 h01 a1 h10 h11 b off len2 cap2 _ _ z2 w h4 h5 h2 h1 h3
    · exact apart_both a0 h00 h01 a1 h10 h11 b off len2 cap2 bo offo len3 cap3 z2 z3 w h4 h5 h2 h1 h3 o4 o5 o2 o1 o3
end Slot
end Go.Proofs.Ytpcbmckknafdgaa
