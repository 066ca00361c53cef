/- The law SlotsLast: the walk. -/
import Derived.Test.YtpcbmckknafdgaaSlotP
import Derived.BigRegion
import Derived.IntWalk
namespace Go.Proofs.Ytpcbmckknafdgaa
open Go.RowKit Go.Shelf
set_option linter.unusedVariables false
set_option linter.unusedSimpArgs false
set_option maxRecDepth 100000
namespace Slot

theorem step_ways (n : Nat) (T : Tab) (x : Int) : stepT n T x = ((takeT T).1, (takeT T).2.1, true, (takeT T).2.2) ∨ ∃ r1 r2, liveT n T (r1, r2) = true ∧ stepT n T x = ((giveT n T (r1, r2)).1, (r1, r2), false, 0) := by
  rw [stepT]
  split
  · exact .inl rfl
  · rename_i h
    have hl : (refsT n T).length ≠ 0 := fun e => h (.inr e)
    have h0 := Int.emod_nonneg (x / 2) (show ((refsT n T).length : Int) ≠ 0 by omega)
    have h1 := Int.emod_lt_of_pos (x / 2) (show 0 < ((refsT n T).length : Int) by omega)
    have := pick_live (T := T) (n := n) (i := (x / 2 % ((refsT n T).length : Int)).toNat) (by omega)
    generalize (refsT n T)[(x / 2 % ((refsT n T).length : Int)).toNat]?.getD (0, 0) = r at *
    obtain ⟨r1, r2⟩ := r
    refine .inr ⟨r1, r2, this, ?_⟩
    have e := give_ok this
    simp only [e]
theorem next_full {T : Tab} (h : T.free = []) : nextT T = ((0, 0), false) ∧ takeT T = (T, (0, 0), 4) := ⟨by rw [nextT, h], takeT_nil h⟩
theorem next_yes {T : Tab} (h : T.free ≠ []) : nextT T = ((takeT T).2.1, true) := by
  cases hf : T.free with
  | nil => exact absurd hf h
  | cons i r => rw [nextT, takeT, hf]
theorem RefAt.frozen {W : World} {B : Nat} {x : R} (h : RefAt W B x) (i : Nat) : W.frozen? ⟨B, i, none⟩ = false := by simp [World.frozen?, show W.heap[B]? = _ from h]
/-- A slice that lets go of its last reference. -/
theorem owns_pop {W : World} {base : Nat} {e : TypeId} {g cap : Nat} {bs : List R} {b : R} (h : W.ownsRow base e 2 (.slice (some ⟨g, 0, none⟩) (bs ++ [b]).length cap) (bs ++ [b]).length (refCells (bs ++ [b]))) :
    W.ownsRow base e 2 (.slice (some ⟨g, 0, none⟩) bs.length cap) bs.length (refCells bs) := by
  refine ⟨refCells_length _, ?_⟩
  rcases h.2 with ⟨h, _⟩ | ⟨g', cap', cur, e, hb, hg, h1, h2, h3, h4⟩
  · cases h
  · injection e with e1 e2 e3
    injection e1 with e1
    injection e1 with e1
    subst e1 e3
    simp only [List.length_append, List.length_cons, List.length_nil] at h1 h2 h3 h4
    refine .inr ⟨_, _, cur, rfl, hb, hg, by omega, by omega, by omega, ?_⟩
    have h5 := congrArg (List.take (bs.length * 2)) h4
    have h6 : List.take (bs.length * 2) (refCells (bs ++ [b])) = refCells bs := by
      rw [refCells_snoc, List.take_append_of_le_length (by rw [refCells_length]; omega), List.take_of_length_le (by rw [refCells_length]; omega)]
    rw [h6, List.take_take, Nat.min_eq_left (by omega)] at h5
    exact h5


set_option maxHeartbeats 8000000 in
theorem last_nil (a0 : Int) (h00 : 0 ≤ a0) (h01 : a0 ≤ 255) (a1 : Int) (h10 : 0 ≤ a1) (h11 : a1 ≤ 255)  (w : World)  :
    Calls Try.prog 6 #[.int .u8 a0, .int .u8 a1, .slice none 0 0] w fun e w' => e = .returned (.bool true) ∧ Below w.heap.size w w' := by
  go_enter Try.func6, Try.ntmps6
  go_wp2_with fail
  refine (awake_any _).mono ?_; rintro e wa ⟨rfl, hba⟩
  go_wp2_with fail
  refine (sizes_any _ _ (by omega) (by omega) (by omega) (by omega) _).mono ?_; rintro e w' ⟨rfl, rfl⟩
  have hn0 : 0 ≤ a0 % 41 := by omega
  have hn1 : a0 % 41 ≤ 40 := by omega
  have hk1 : 1 ≤ 1 + a1 % 6 := by omega
  have hk2 : 1 + a1 % 6 ≤ 6 := by omega
  generalize a0 % 41 = ni at *
  generalize 1 + a1 % 6 = k at *
  obtain ⟨n, rfl⟩ := Int.eq_ofNat_of_zero_le hn0
  clear hn0 h00 h01 h10 h11
  go_wp2_with fail
  refine (New_yes n _ _ (by omega) (by omega)).mono ?_; rintro e wb ⟨rfl, hT, hBa⟩
  have hS := hba.trans (hBa.mono hba.size)
  have hsz := hba.size
  have hlt := hT.lt
  obtain ⟨p, hp⟩ : ∃ p, p = wa.heap.size + 1 := ⟨_, rfl⟩
  rw [← hp] at hT hlt ⊢
  have hsz' : w.heap.size ≤ p := by omega
  generalize wa.heap.size = q at *
  have HP := Lib.hid (show w.heap.size ≤ q ∧ w.heap.size ≤ p ∧ p < wb.heap.size ∧ q < wb.heap.size from ⟨hsz, hsz', hlt⟩)
  have HI := Lib.hid (show LastInv n (newT n k) [] 0 ∧ (newT n k).most = k from ⟨last_new n k, rfl⟩)
  clear hba hBa hsz hp hsz' hlt
  have hmin : min (0 : Int) 200 = 0 := by decide
  obtain ⟨i0, hi, hz0, hz1, hz2⟩ := info_parts infoRef
  go_wp2_with fail
  go_loopw [48, 11, 12, 14, 15, 16, 17, 18, 19, 20, 21] (fun i bv fv _ _ _ _ _ _ _ _ wr => ∃ (j fr : Nat) (T : Tab) (bk : List R), j ≤ 0 ∧ i = .int .i64 j ∧ fv = .int .i64 fr ∧ TableAt wr p q n T ∧ wr.ownsRow wb.heap.size 26 2 bv bk.length (refCells bk) ∧ Hid (LastInv n T bk fr ∧ T.most = k) ∧ Below w.heap.size w wr ∧ wb.heap.size ≤ wr.heap.size) (fun i _ _ _ _ _ _ _ _ _ _ _ => 0 - (intOf i).toNat)
  case atStart => exact ⟨0, 0, _, [], Nat.zero_le _, rfl, rfl, hT, World.ownsRow_nil _ _ _ _, HI, hS, Nat.le_refl _⟩
  case round =>
    clear hT HI hS
    obtain ⟨j, fr, T, bk, hj, rfl, rfl, hT, hrow, HI, hS, hbs⟩ := hrel
    by_cases hlt : j < 0
    · exact absurd hlt (by omega)
    · obtain rfl : j = 0 := by omega
      go_wp2_with fail
      go_ret
      exact ⟨rfl, hS⟩


set_option maxHeartbeats 8000000 in
theorem last_zero (a0 : Int) (h00 : 0 ≤ a0) (h01 : a0 ≤ 255) (a1 : Int) (h10 : 0 ≤ a1) (h11 : a1 ≤ 255) (x0 : Addr) (cap0 : Nat) (w : World) (hcm : cap0 ≤ maxLen) :
    Calls Try.prog 6 #[.int .u8 a0, .int .u8 a1, .slice (some x0) 0 cap0] w fun e w' => e = .returned (.bool true) ∧ Below w.heap.size w w' := by
  go_enter Try.func6, Try.ntmps6
  go_wp2_with fail
  refine (awake_any _).mono ?_; rintro e wa ⟨rfl, hba⟩
  go_wp2_with fail
  refine (sizes_any _ _ (by omega) (by omega) (by omega) (by omega) _).mono ?_; rintro e w' ⟨rfl, rfl⟩
  have hn0 : 0 ≤ a0 % 41 := by omega
  have hn1 : a0 % 41 ≤ 40 := by omega
  have hk1 : 1 ≤ 1 + a1 % 6 := by omega
  have hk2 : 1 + a1 % 6 ≤ 6 := by omega
  generalize a0 % 41 = ni at *
  generalize 1 + a1 % 6 = k at *
  obtain ⟨n, rfl⟩ := Int.eq_ofNat_of_zero_le hn0
  clear hn0 h00 h01 h10 h11
  go_wp2_with fail
  refine (New_yes n _ _ (by omega) (by omega)).mono ?_; rintro e wb ⟨rfl, hT, hBa⟩
  have hS := hba.trans (hBa.mono hba.size)
  have hsz := hba.size
  have hlt := hT.lt
  obtain ⟨p, hp⟩ : ∃ p, p = wa.heap.size + 1 := ⟨_, rfl⟩
  rw [← hp] at hT hlt ⊢
  have hsz' : w.heap.size ≤ p := by omega
  generalize wa.heap.size = q at *
  have HP := Lib.hid (show w.heap.size ≤ q ∧ w.heap.size ≤ p ∧ p < wb.heap.size ∧ q < wb.heap.size from ⟨hsz, hsz', hlt⟩)
  have HI := Lib.hid (show LastInv n (newT n k) [] 0 ∧ (newT n k).most = k from ⟨last_new n k, rfl⟩)
  clear hba hBa hsz hp hsz' hlt
  have hmin : min (0 : Int) 200 = 0 := by decide
  obtain ⟨i0, hi, hz0, hz1, hz2⟩ := info_parts infoRef
  go_wp2_with fail
  go_loopw [48, 11, 12, 14, 15, 16, 17, 18, 19, 20, 21] (fun i bv fv _ _ _ _ _ _ _ _ wr => ∃ (j fr : Nat) (T : Tab) (bk : List R), j ≤ 0 ∧ i = .int .i64 j ∧ fv = .int .i64 fr ∧ TableAt wr p q n T ∧ wr.ownsRow wb.heap.size 26 2 bv bk.length (refCells bk) ∧ Hid (LastInv n T bk fr ∧ T.most = k) ∧ Below w.heap.size w wr ∧ wb.heap.size ≤ wr.heap.size) (fun i _ _ _ _ _ _ _ _ _ _ _ => 0 - (intOf i).toNat)
  case atStart => exact ⟨0, 0, _, [], Nat.zero_le _, rfl, rfl, hT, World.ownsRow_nil _ _ _ _, HI, hS, Nat.le_refl _⟩
  case round =>
    clear hT HI hS
    obtain ⟨j, fr, T, bk, hj, rfl, rfl, hT, hrow, HI, hS, hbs⟩ := hrel
    by_cases hlt : j < 0
    · exact absurd hlt (by omega)
    · obtain rfl : j = 0 := by omega
      go_wp2_with fail
      go_ret
      exact ⟨rfl, hS⟩


set_option maxHeartbeats 8000000 in
theorem last_some (a0 : Int) (h00 : 0 ≤ a0) (h01 : a0 ≤ 255) (a1 : Int) (h10 : 0 ≤ a1) (h11 : a1 ≤ 255) (b off len cap : Nat) (z : List Int) (w : World) (hcw : ∀ i (w' : World), Below w.heap.size w w' → i < len → w'.cell? ⟨b, off + i, none⟩ = some (.int .u8 (z.getD i 0))) (hxb : ∀ i, i < len → 0 ≤ z.getD i 0 ∧ z.getD i 0 < 256) (hl : len ≤ cap) (hpos : 1 ≤ len) (hm : cap ≤ maxLen) :
    Calls Try.prog 6 #[.int .u8 a0, .int .u8 a1, .slice (some ⟨b, off, none⟩) len cap] w fun e w' => e = .returned (.bool true) ∧ Below w.heap.size w w' := by
  go_enter Try.func6, Try.ntmps6
  go_wp2_with fail
  refine (awake_any _).mono ?_; rintro e wa ⟨rfl, hba⟩
  go_wp2_with fail
  refine (sizes_any _ _ (by omega) (by omega) (by omega) (by omega) _).mono ?_; rintro e w' ⟨rfl, rfl⟩
  have hn0 : 0 ≤ a0 % 41 := by omega
  have hn1 : a0 % 41 ≤ 40 := by omega
  have hk1 : 1 ≤ 1 + a1 % 6 := by omega
  have hk2 : 1 + a1 % 6 ≤ 6 := by omega
  generalize a0 % 41 = ni at *
  generalize 1 + a1 % 6 = k at *
  obtain ⟨n, rfl⟩ := Int.eq_ofNat_of_zero_le hn0
  clear hn0 h00 h01 h10 h11
  go_wp2_with fail
  refine (New_yes n _ _ (by omega) (by omega)).mono ?_; rintro e wb ⟨rfl, hT, hBa⟩
  have hS := hba.trans (hBa.mono hba.size)
  have hsz := hba.size
  have hlt := hT.lt
  obtain ⟨p, hp⟩ : ∃ p, p = wa.heap.size + 1 := ⟨_, rfl⟩
  rw [← hp] at hT hlt ⊢
  have hsz' : w.heap.size ≤ p := by omega
  generalize wa.heap.size = q at *
  have HP := Lib.hid (show w.heap.size ≤ q ∧ w.heap.size ≤ p ∧ p < wb.heap.size ∧ q < wb.heap.size from ⟨hsz, hsz', hlt⟩)
  have HI := Lib.hid (show LastInv n (newT n k) [] 0 ∧ (newT n k).most = k from ⟨last_new n k, rfl⟩)
  clear hba hBa hsz hp hsz' hlt
  have HCW := Lib.hid hcw
  have HXB := Lib.hid hxb
  clear hcw hxb
  obtain ⟨m, hmin, hml, hm2⟩ : ∃ m : Nat, min (len : Int) 200 = m ∧ m ≤ len ∧ m ≤ 200 := ⟨(min (len : Int) 200).toNat, by omega, by omega, by omega⟩
  have hmc : m ≤ cap := by omega
  obtain ⟨i0, hi, hz0, hz1, hz2⟩ := info_parts infoRef
  go_wp2_with fail
  go_loopw [48, 11, 12, 14, 15, 16, 17, 18, 19, 20, 21] (fun i bv fv _ _ _ _ _ _ _ _ wr => ∃ (j fr : Nat) (T : Tab) (bk : List R), j ≤ m ∧ i = .int .i64 j ∧ fv = .int .i64 fr ∧ TableAt wr p q n T ∧ wr.ownsRow wb.heap.size 26 2 bv bk.length (refCells bk) ∧ Hid (LastInv n T bk fr ∧ T.most = k) ∧ Below w.heap.size w wr ∧ wb.heap.size ≤ wr.heap.size) (fun i _ _ _ _ _ _ _ _ _ _ _ => m - (intOf i).toNat)
  case atStart => exact ⟨0, 0, _, [], Nat.zero_le _, rfl, rfl, hT, World.ownsRow_nil _ _ _ _, HI, hS, Nat.le_refl _⟩
  case round =>
    clear hT HI hS
    obtain ⟨j, fr, T, bk, hj, rfl, rfl, hT, hrow, HI, hS, hbs⟩ := hrel
    by_cases hlt : j < m
    · obtain ⟨wo, rfl⟩ : ∃ wo : World, wo = wr := ⟨_, rfl⟩
      have hcj := HCW.out j wo hS (by omega)
      have hxj := HXB.out j (by omega)
      generalize z.getD j 0 = x at *
      have hv := hT.2.1
      rcases step_ways n T x with hE | ⟨r1, r2, hlv, hE⟩
      · by_cases hf : T.free = []
        · obtain ⟨hnx, htk⟩ := next_full hf
          rw [htk] at hE
          dsimp only at hE
          have EE := Lib.hid hE
          have NX := Lib.hid hnx
          have HI' := HI
          obtain ⟨hbk, hfr⟩ := last_full HI.out.1 hf
          subst hbk
          have hfrI : ¬ (fr : Int) < n := by omega
          clear hE hnx htk hf hfr
          go_wp2_with fail
          refine (Next_any p q n T _ hT).mono ?_; rintro e w1 ⟨rfl, hb1⟩
          rw [NX.out]
          dsimp only
          have bl1 : Below w1.heap.size w1 (w1.alloc (.cells #[.int .i64 0, .int .i64 0] 26)) := (Below.refl _ w1).alloc (Nat.le_refl _) _
          have hN1 : RefAt (w1.alloc (.cells #[.int .i64 0, .int .i64 0] 26)) w1.heap.size (0, 0) := World.alloc_heap_new w1 _
          have hT1 := (hT.below hb1).below bl1
          have hS0 := hS.trans (hb1.mono hS.size)
          have hS1 := hS0.trans (bl1.mono hS0.size)
          have hrow1 := ownsRow_mod (S := fun _ => False) (ownsRow_mod (S := fun _ => False) hrow (Mod.of_same hb1) (by simp)) (Mod.of_same bl1) (by simp)
          have hz1 : wb.heap.size ≤ w1.heap.size := by have := hb1.size; omega
          have hq1 : p < w1.heap.size ∧ q < w1.heap.size := (hT.below hb1).lt
          have HQ1 := Lib.hid hq1
          have HN1 := Lib.hid hN1
          have hz1' : w1.heap.size < (w1.alloc (.cells #[.int .i64 0, .int .i64 0] 26)).heap.size := by simp
          clear hT hS hS0 hrow hb1 bl1 hN1 hq1
          go_wp2_with fail
          generalize (w1.alloc (.cells #[.int .i64 0, .int .i64 0] 26)) = W1 at *
          generalize w1.heap.size = B1 at *
          refine (Step_any p q n T x hxj _ hT1).mono ?_; rintro e w2 ⟨rfl, hT2, hM2⟩
          rw [EE.out] at hT2 ⊢
          dsimp only at hT2 ⊢
          have hN2 : RefAt w2 B1 (0, 0) := hM2.heap HN1.out (by have := HQ1.out; omega)
          have hS2 := hS1.trans (hM2.below hS1.size (fun k hk e => by have := HP.out; omega))
          have hrow2 := ownsRow_mod hrow1 hM2 (fun g e => by have := (hrow1.lt g e).1; have := HP.out; omega)
          have bl2 : Below w2.heap.size w2 (w2.alloc (.cells #[.int .i64 0, .int .i64 0] 26)) := (Below.refl _ w2).alloc (Nat.le_refl _) _
          have hR3 : RefAt (w2.alloc (.cells #[.int .i64 0, .int .i64 0] 26)) w2.heap.size (0, 0) := World.alloc_heap_new w2 _
          have hN3 : RefAt (w2.alloc (.cells #[.int .i64 0, .int .i64 0] 26)) B1 (0, 0) := (bl2.block _ (Array.getElem?_eq_some_iff.1 hN2).1).trans hN2
          have hT3 := hT2.below bl2
          have hS3 := hS2.trans (bl2.mono hS2.size)
          have hrow3 := ownsRow_mod (S := fun _ => False) hrow2 (Mod.of_same bl2) (by simp)
          have hz3 : wb.heap.size ≤ w2.heap.size := by have := hM2.size; omega
          have hs3 : (w2.alloc (.cells #[.int .i64 0, .int .i64 0] 26)).heap.size = w2.heap.size + 1 := by simp
          have d0 := hN3.c0
          have d1 := hN3.c1
          have d2 := hR3.c0
          have d3 := hR3.c1
          have HR3 := Lib.hid hR3
          clear hT1 hS1 hrow1 hM2 HN1 hN2 hT2 hS2 hrow2 bl2 hN3 hR3 hz1 hz1'
          have hrow4 := hrow3
          obtain ⟨a4, c4, e4⟩ := ownsRow_val hrow3
          subst e4
          go_wp2_with fail
          go_roundw
          case rel => exact ⟨j + 1, _, _, [], by omega, by go_num, rfl, hT3, hrow4, HI', hS3, by omega⟩
          case measure => simp [intOf]; omega
        · rcases List.eq_nil_or_concat bk with hbk | ⟨bs, b, hbk⟩
          · subst hbk
            have hfrn : fr < n := by
              have h1 := HI.out.1.free
              have h2 := HI.out.1.le
              by_cases h3 : fr < n
              · exact h3
              · exfalso; apply hf; rw [h1, show n - fr = 0 by omega]; rfl
            obtain ⟨t1, t2, t3, -⟩ := last_take_new hv HI.out.1 hfrn
            have hnx := next_yes hf
            rw [t2] at hnx
            rw [t1, t2] at hE
            have hmo := (take_most T).trans HI.out.2
            have EE := Lib.hid hE
            have NX := Lib.hid hnx
            have HI' := Lib.hid (show _ ∧ _ from ⟨t3, hmo⟩)
            have hfrI : (fr : Int) < n := by omega
            clear hE hnx hf t1 t2 t3 hmo
            go_wp2_with fail
            refine (Next_any p q n T _ hT).mono ?_; rintro e w1 ⟨rfl, hb1⟩
            rw [NX.out]
            dsimp only
            have bl1 : Below w1.heap.size w1 (w1.alloc (.cells #[.int .i64 (fr : Int), .int .i64 1] 26)) := (Below.refl _ w1).alloc (Nat.le_refl _) _
            have hN1 : RefAt (w1.alloc (.cells #[.int .i64 (fr : Int), .int .i64 1] 26)) w1.heap.size ((fr : Int), 1) := World.alloc_heap_new w1 _
            have hT1 := (hT.below hb1).below bl1
            have hS0 := hS.trans (hb1.mono hS.size)
            have hS1 := hS0.trans (bl1.mono hS0.size)
            have hrow1 := ownsRow_mod (S := fun _ => False) (ownsRow_mod (S := fun _ => False) hrow (Mod.of_same hb1) (by simp)) (Mod.of_same bl1) (by simp)
            have hz1 : wb.heap.size ≤ w1.heap.size := by have := hb1.size; omega
            have hq1 : p < w1.heap.size ∧ q < w1.heap.size := (hT.below hb1).lt
            have HQ1 := Lib.hid hq1
            have HN1 := Lib.hid hN1
            have hz1' : w1.heap.size < (w1.alloc (.cells #[.int .i64 (fr : Int), .int .i64 1] 26)).heap.size := by simp
            clear hT hS hS0 hrow hb1 bl1 hN1 hq1
            go_wp2_with fail
            generalize (w1.alloc (.cells #[.int .i64 (fr : Int), .int .i64 1] 26)) = W1 at *
            generalize w1.heap.size = B1 at *
            refine (Step_any p q n T x hxj _ hT1).mono ?_; rintro e w2 ⟨rfl, hT2, hM2⟩
            rw [EE.out] at hT2 ⊢
            dsimp only at hT2 ⊢
            have hN2 : RefAt w2 B1 ((fr : Int), 1) := hM2.heap HN1.out (by have := HQ1.out; omega)
            have hS2 := hS1.trans (hM2.below hS1.size (fun k hk e => by have := HP.out; omega))
            have hrow2 := ownsRow_mod hrow1 hM2 (fun g e => by have := (hrow1.lt g e).1; have := HP.out; omega)
            have bl2 : Below w2.heap.size w2 (w2.alloc (.cells #[.int .i64 (fr : Int), .int .i64 1] 26)) := (Below.refl _ w2).alloc (Nat.le_refl _) _
            have hR3 : RefAt (w2.alloc (.cells #[.int .i64 (fr : Int), .int .i64 1] 26)) w2.heap.size ((fr : Int), 1) := World.alloc_heap_new w2 _
            have hN3 : RefAt (w2.alloc (.cells #[.int .i64 (fr : Int), .int .i64 1] 26)) B1 ((fr : Int), 1) := (bl2.block _ (Array.getElem?_eq_some_iff.1 hN2).1).trans hN2
            have hT3 := hT2.below bl2
            have hS3 := hS2.trans (bl2.mono hS2.size)
            have hrow3 := ownsRow_mod (S := fun _ => False) hrow2 (Mod.of_same bl2) (by simp)
            have hz3 : wb.heap.size ≤ w2.heap.size := by have := hM2.size; omega
            have hs3 : (w2.alloc (.cells #[.int .i64 (fr : Int), .int .i64 1] 26)).heap.size = w2.heap.size + 1 := by simp
            have d0 := hN3.c0
            have d1 := hN3.c1
            have d2 := hR3.c0
            have d3 := hR3.c1
            have HR3 := Lib.hid hR3
            clear hT1 hS1 hrow1 hM2 HN1 hN2 hT2 hS2 hrow2 bl2 hN3 hR3 hz1 hz1'
            have hrow4 := hrow3.alloc (.cells #[.int .i64 (fr : Int), .int .i64 1] 26)
            have bl4 : Below (w2.alloc (.cells #[.int .i64 (fr : Int), .int .i64 1] 26)).heap.size (w2.alloc (.cells #[.int .i64 (fr : Int), .int .i64 1] 26)) ((w2.alloc (.cells #[.int .i64 (fr : Int), .int .i64 1] 26)).alloc (.cells #[.int .i64 (fr : Int), .int .i64 1] 26)) := (Below.refl _ _).alloc (Nat.le_refl _) _
            have hT4 := hT3.below bl4
            have hS4 := hS3.trans (bl4.mono hS3.size)
            have hR4 : RefAt ((w2.alloc (.cells #[.int .i64 (fr : Int), .int .i64 1] 26)).alloc (.cells #[.int .i64 (fr : Int), .int .i64 1] 26)) w2.heap.size ((fr : Int), 1) := (bl4.block _ (by rw [hs3]; omega)).trans HR3.out
            have hW4 : RefAt ((w2.alloc (.cells #[.int .i64 (fr : Int), .int .i64 1] 26)).alloc (.cells #[.int .i64 (fr : Int), .int .i64 1] 26)) (w2.heap.size + 1) ((fr : Int), 1) := by rw [← hs3]; exact World.alloc_heap_new _ _
            have g0 := hR4.c0
            have g1 := hR4.c1
            have g2 := hW4.c0
            have g3 := hW4.c1
            have hz4 : wb.heap.size ≤ ((w2.alloc (.cells #[.int .i64 (fr : Int), .int .i64 1] 26)).alloc (.cells #[.int .i64 (fr : Int), .int .i64 1] 26)).heap.size := by simp; omega
            obtain ⟨a4, c4, e4⟩ := ownsRow_val hrow3
            subst e4
            clear hR4 hW4 bl4
            go_wp2_with fail
            go_roundw
            case rel => exact ⟨j + 1, fr + 1, _, [], by omega, by go_num, by go_num, hT4, hrow4, HI', hS4, hz4⟩
            case measure => simp [intOf]; omega
          · rw [List.concat_eq_append] at hbk
            subst hbk
            obtain ⟨b1, b2⟩ := b
            obtain ⟨t1, t2, t3, -⟩ := last_take_back hv HI.out.1
            have hnx := next_yes hf
            rw [t2] at hnx
            rw [t1, t2] at hE
            dsimp only at hnx hE
            have hb2 : 0 ≤ b2 ∧ b2 ≤ 6 := by
              obtain ⟨i, e⟩ := HI.out.1.back (b1, b2) (by simp)
              injection e with e1 e2
              by_cases hin : i < n
              · have := hv.lives i hin
                have := HI.out.2
                omega
              · rw [e2, List.getD_eq_getElem?_getD, List.getElem?_eq_none (by rw [hv.ll]; omega)]; simp
            obtain ⟨hb20, hb26⟩ := hb2
            have hmo := (take_most T).trans HI.out.2
            have hbl := last_len hv HI.out.1
            rw [List.length_append] at hbl
            simp only [List.length_cons, List.length_nil] at hbl
            have EE := Lib.hid hE
            have NX := Lib.hid hnx
            have HI' := Lib.hid (show _ ∧ _ from ⟨t3, hmo⟩)
            clear hE hnx hf t1 t2 t3 hmo
            go_wp2_with fail
            refine (Next_any p q n T _ hT).mono ?_; rintro e w1 ⟨rfl, hb1⟩
            rw [NX.out]
            dsimp only
            have bl1 : Below w1.heap.size w1 (w1.alloc (.cells #[.int .i64 b1, .int .i64 (b2 + 1)] 26)) := (Below.refl _ w1).alloc (Nat.le_refl _) _
            have hN1 : RefAt (w1.alloc (.cells #[.int .i64 b1, .int .i64 (b2 + 1)] 26)) w1.heap.size (b1, (b2 + 1)) := World.alloc_heap_new w1 _
            have hT1 := (hT.below hb1).below bl1
            have hS0 := hS.trans (hb1.mono hS.size)
            have hS1 := hS0.trans (bl1.mono hS0.size)
            have hrow1 := ownsRow_mod (S := fun _ => False) (ownsRow_mod (S := fun _ => False) hrow (Mod.of_same hb1) (by simp)) (Mod.of_same bl1) (by simp)
            have hz1 : wb.heap.size ≤ w1.heap.size := by have := hb1.size; omega
            have hq1 : p < w1.heap.size ∧ q < w1.heap.size := (hT.below hb1).lt
            have HQ1 := Lib.hid hq1
            have HN1 := Lib.hid hN1
            have hz1' : w1.heap.size < (w1.alloc (.cells #[.int .i64 b1, .int .i64 (b2 + 1)] 26)).heap.size := by simp
            clear hT hS hS0 hrow hb1 bl1 hN1 hq1
            go_wp2_with fail
            generalize (w1.alloc (.cells #[.int .i64 b1, .int .i64 (b2 + 1)] 26)) = W1 at *
            generalize w1.heap.size = B1 at *
            refine (Step_any p q n T x hxj _ hT1).mono ?_; rintro e w2 ⟨rfl, hT2, hM2⟩
            rw [EE.out] at hT2 ⊢
            dsimp only at hT2 ⊢
            have hN2 : RefAt w2 B1 (b1, (b2 + 1)) := hM2.heap HN1.out (by have := HQ1.out; omega)
            have hS2 := hS1.trans (hM2.below hS1.size (fun k hk e => by have := HP.out; omega))
            have hrow2 := ownsRow_mod hrow1 hM2 (fun g e => by have := (hrow1.lt g e).1; have := HP.out; omega)
            have bl2 : Below w2.heap.size w2 (w2.alloc (.cells #[.int .i64 b1, .int .i64 (b2 + 1)] 26)) := (Below.refl _ w2).alloc (Nat.le_refl _) _
            have hR3 : RefAt (w2.alloc (.cells #[.int .i64 b1, .int .i64 (b2 + 1)] 26)) w2.heap.size (b1, (b2 + 1)) := World.alloc_heap_new w2 _
            have hN3 : RefAt (w2.alloc (.cells #[.int .i64 b1, .int .i64 (b2 + 1)] 26)) B1 (b1, (b2 + 1)) := (bl2.block _ (Array.getElem?_eq_some_iff.1 hN2).1).trans hN2
            have hT3 := hT2.below bl2
            have hS3 := hS2.trans (bl2.mono hS2.size)
            have hrow3 := ownsRow_mod (S := fun _ => False) hrow2 (Mod.of_same bl2) (by simp)
            have hz3 : wb.heap.size ≤ w2.heap.size := by have := hM2.size; omega
            have hs3 : (w2.alloc (.cells #[.int .i64 b1, .int .i64 (b2 + 1)] 26)).heap.size = w2.heap.size + 1 := by simp
            have d0 := hN3.c0
            have d1 := hN3.c1
            have d2 := hR3.c0
            have d3 := hR3.c1
            have HR3 := Lib.hid hR3
            clear hT1 hS1 hrow1 hM2 HN1 hN2 hT2 hS2 hrow2 bl2 hN3 hR3 hz1 hz1'
            have hlen : (bs ++ [(b1, b2)]).length = bs.length + 1 := by simp
            have hrr := ReadsRefs.of_owns hrow3
            rcases hrr with ⟨a', cap', e, hnil⟩ | ⟨g, cap', e, hg, hglt, hc⟩
            · exact absurd hnil (by simp)
            · subst e
              have hpop := owns_pop hrow3
              obtain ⟨c0, c1⟩ := hc bs.length (by omega)
              rw [show (bs ++ [(b1, b2)])[bs.length]?.getD (0, 0) = (b1, b2) from by simp] at c0 c1
              dsimp only at c0 c1
              have hcapl : bs.length + 1 ≤ cap' := by
                rcases hrow3.2 with ⟨h, _⟩ | ⟨g', cap'', cur, e, _, _, h1, _⟩
                · cases h
                · injection e with e1 e2 e3
                  omega
              clear hc hrow3
              rw [hlen]
              obtain ⟨L, hL⟩ : ∃ L, L = bs.length := ⟨_, rfl⟩
              rw [← hL] at c0 c1 hpop hcapl hbl ⊢
              have HLL := Lib.hid hL
              clear hL hlen
              have bl4 : Below (w2.alloc (.cells #[.int .i64 b1, .int .i64 (b2 + 1)] 26)).heap.size (w2.alloc (.cells #[.int .i64 b1, .int .i64 (b2 + 1)] 26)) ((w2.alloc (.cells #[.int .i64 b1, .int .i64 (b2 + 1)] 26)).alloc (.cells #[.int .i64 (fr : Int), .int .i64 1] 26)) := (Below.refl _ _).alloc (Nat.le_refl _) _
              have hT4 := hT3.below bl4
              have hS4 := hS3.trans (bl4.mono hS3.size)
              have hrow4 := ownsRow_mod (S := fun _ => False) hpop (Mod.of_same bl4) (by simp)
              have hR4 : RefAt ((w2.alloc (.cells #[.int .i64 b1, .int .i64 (b2 + 1)] 26)).alloc (.cells #[.int .i64 (fr : Int), .int .i64 1] 26)) w2.heap.size (b1, b2 + 1) := (bl4.block _ (by rw [hs3]; omega)).trans HR3.out
              have hV4 : RefAt ((w2.alloc (.cells #[.int .i64 b1, .int .i64 (b2 + 1)] 26)).alloc (.cells #[.int .i64 (fr : Int), .int .i64 1] 26)) (w2.heap.size + 1) ((fr : Int), 1) := by rw [← hs3]; exact World.alloc_heap_new _ _
              have c0' := (bl4.cell (p := ⟨g, L * 2, none⟩) hglt).trans c0
              have c1' := (bl4.cell (p := ⟨g, L * 2 + 1, none⟩) hglt).trans c1
              have hz4 : wb.heap.size ≤ ((w2.alloc (.cells #[.int .i64 b1, .int .i64 (b2 + 1)] 26)).alloc (.cells #[.int .i64 (fr : Int), .int .i64 1] 26)).heap.size := by simp; omega
              have hgne : g < w2.heap.size + 1 := by rw [← hs3]; exact hglt
              have hpq : p < w2.heap.size + 1 ∧ q < w2.heap.size + 1 := by have := hT3.lt; rw [hs3] at this; exact this
              have rf0 := hV4.frozen 0
              have rf1 := hV4.frozen 1
              have e0 := hV4.c0
              have e1 := hV4.c1
              have g5 := RefAt.set hV4 b1 (b2 + 1)
              have hM5 := Mod.setCell (S := fun k => k = w2.heap.size + 1) (p := ⟨w2.heap.size + 1, 1, none⟩) (Mod.setCell (S := fun k => k = w2.heap.size + 1) (p := ⟨w2.heap.size + 1, 0, none⟩) (Mod.refl _ ((w2.alloc (.cells #[.int .i64 b1, .int .i64 (b2 + 1)] 26)).alloc (.cells #[.int .i64 (fr : Int), .int .i64 1] 26))) (.inr rfl) (.int .i64 b1)) (.inr rfl) (.int .i64 (b2 + 1))
              have hT5 := hT4.mod hM5 (by omega) (by omega)
              have hS5 := hS4.trans (hM5.below hS4.size (fun k hk e => by have := HP.out; omega))
              have hrow5 := ownsRow_mod hrow4 hM5 (fun g' e => by have e' : some g = some g' := e; injection e' with e'; omega)
              have hR5 : RefAt _ w2.heap.size (b1, b2 + 1) := hM5.heap hR4 (by omega)
              have f0 := hR5.c0
              have f1 := hR5.c1
              have f2 := g5.c0
              have f3 := g5.c1
              have hz5 : wb.heap.size ≤ ((((w2.alloc (.cells #[.int .i64 b1, .int .i64 (b2 + 1)] 26)).alloc (.cells #[.int .i64 (fr : Int), .int .i64 1] 26)).setCell ⟨w2.heap.size + 1, 0, none⟩ (.int .i64 b1)).setCell ⟨w2.heap.size + 1, 1, none⟩ (.int .i64 (b2 + 1))).heap.size := by simpa using hz4
              have HT5 := Lib.hid hT5
              have HS5 := Lib.hid hS5
              have HROW5 := Lib.hid hrow5
              have HZ5 := Lib.hid hz5
              clear hV4 g5 hM5 hT5 hS5 hrow5 hR5 hT4 hS4 hrow4 hR4 hT3 hS3 hpop bl4 c0 c1 hz5 hz4 hgne hpq
              dsimp only at d0 d1 d2 d3 e0 e1 f0 f1 f2 f3
              go_wp2_with fail
              have hw1 : IntKind.i64.wrap ((L : Int) + 1 - 1) = L := by rw [IntWalk.i64_in _ (by omega)]; omega
              have hw2 : IntKind.i64.wrap (b2 + 1) = b2 + 1 := IntWalk.i64_in _ (by omega)
              have hL0 : (0 : Int) ≤ (L : Int) := by omega
              have hL1 : (L : Int) < (L : Int) + 1 := by omega
              generalize hWW : ((w2.alloc (.cells #[.int .i64 b1, .int .i64 (b2 + 1)] 26)).alloc (.cells #[.int .i64 (fr : Int), .int .i64 1] 26)) = WW at *
              go_region
              have k0 : ((WW.setCell ⟨w2.heap.size + 1, 0, none⟩ (.int .i64 b1)).setCell ⟨w2.heap.size + 1, 1, none⟩ (.int .i64 (b2 + 1))).drew.cell? ⟨w2.heap.size, 0, none⟩ = some (.int .i64 b1) := f0
              have k1 : ((WW.setCell ⟨w2.heap.size + 1, 0, none⟩ (.int .i64 b1)).setCell ⟨w2.heap.size + 1, 1, none⟩ (.int .i64 (b2 + 1))).drew.cell? ⟨w2.heap.size, 1, none⟩ = some (.int .i64 (b2 + 1)) := f1
              have k2 : ((WW.setCell ⟨w2.heap.size + 1, 0, none⟩ (.int .i64 b1)).setCell ⟨w2.heap.size + 1, 1, none⟩ (.int .i64 (b2 + 1))).drew.cell? ⟨w2.heap.size + 1, 0, none⟩ = some (.int .i64 b1) := f2
              have k3 : ((WW.setCell ⟨w2.heap.size + 1, 0, none⟩ (.int .i64 b1)).setCell ⟨w2.heap.size + 1, 1, none⟩ (.int .i64 (b2 + 1))).drew.cell? ⟨w2.heap.size + 1, 1, none⟩ = some (.int .i64 (b2 + 1)) := f3
              have hT6 : TableAt ((WW.setCell ⟨w2.heap.size + 1, 0, none⟩ (.int .i64 b1)).setCell ⟨w2.heap.size + 1, 1, none⟩ (.int .i64 (b2 + 1))).drew p q n (takeT T).1 := HT5.out
              have hS6 : Below w.heap.size w ((WW.setCell ⟨w2.heap.size + 1, 0, none⟩ (.int .i64 b1)).setCell ⟨w2.heap.size + 1, 1, none⟩ (.int .i64 (b2 + 1))).drew := ⟨HS5.out.os, HS5.out.tape, HS5.out.output, HS5.out.size, HS5.out.block⟩
              have hrow6 : ((WW.setCell ⟨w2.heap.size + 1, 0, none⟩ (.int .i64 b1)).setCell ⟨w2.heap.size + 1, 1, none⟩ (.int .i64 (b2 + 1))).drew.ownsRow wb.heap.size 26 2 (.slice (some ⟨g, 0, none⟩) L cap') L (refCells bs) := HROW5.out
              have hz6 : wb.heap.size ≤ ((WW.setCell ⟨w2.heap.size + 1, 0, none⟩ (.int .i64 b1)).setCell ⟨w2.heap.size + 1, 1, none⟩ (.int .i64 (b2 + 1))).drew.heap.size := HZ5.out
              clear f0 f1 f2 f3 HT5 HS5 HROW5 HZ5 c0' c1' e0 e1 rf0 rf1 hw1 hw2
              generalize ((WW.setCell ⟨w2.heap.size + 1, 0, none⟩ (.int .i64 b1)).setCell ⟨w2.heap.size + 1, 1, none⟩ (.int .i64 (b2 + 1))).drew = W6 at *
              go_wp2_with fail
              go_roundw
              case rel => exact ⟨j + 1, fr, _, bs, by omega, by go_num, rfl, hT6, by rw [← HLL.out]; exact hrow6, HI', hS6, hz6⟩
              case measure => simp [intOf]; omega
      · have EE := Lib.hid hE
        have hlg := last_give hv HI.out.1 hlv
        rw [HI.out.2] at hlg
        have hmo := (give_most n T (r1, r2)).trans HI.out.2
        obtain ⟨⟨nx1, nx2⟩, is, hnx⟩ : ∃ nx is, nextT T = (nx, is) := ⟨_, _, rfl⟩
        have NX := Lib.hid hnx
        clear hE hnx hlv
        go_wp2_with fail
        refine (Next_any p q n T _ hT).mono ?_; rintro e w1 ⟨rfl, hb1⟩
        rw [NX.out]
        dsimp only
        have bl1 : Below w1.heap.size w1 (w1.alloc (.cells #[.int .i64 nx1, .int .i64 nx2] 26)) := (Below.refl _ w1).alloc (Nat.le_refl _) _
        have hN1 : RefAt (w1.alloc (.cells #[.int .i64 nx1, .int .i64 nx2] 26)) w1.heap.size (nx1, nx2) := World.alloc_heap_new w1 _
        have hT1 := (hT.below hb1).below bl1
        have hS0 := hS.trans (hb1.mono hS.size)
        have hS1 := hS0.trans (bl1.mono hS0.size)
        have hrow1 := ownsRow_mod (S := fun _ => False) (ownsRow_mod (S := fun _ => False) hrow (Mod.of_same hb1) (by simp)) (Mod.of_same bl1) (by simp)
        have hz1 : wb.heap.size ≤ w1.heap.size := by have := hb1.size; omega
        have hq1 : p < w1.heap.size ∧ q < w1.heap.size := (hT.below hb1).lt
        have HQ1 := Lib.hid hq1
        have HN1 := Lib.hid hN1
        have hz1' : w1.heap.size < (w1.alloc (.cells #[.int .i64 nx1, .int .i64 nx2] 26)).heap.size := by simp
        clear hT hS hS0 hrow hb1 bl1 hN1 hq1
        go_wp2_with fail
        generalize (w1.alloc (.cells #[.int .i64 nx1, .int .i64 nx2] 26)) = W1 at *
        generalize w1.heap.size = B1 at *
        refine (Step_any p q n T x hxj _ hT1).mono ?_; rintro e w2 ⟨rfl, hT2, hM2⟩
        rw [EE.out] at hT2 ⊢
        dsimp only at hT2 ⊢
        have hN2 : RefAt w2 B1 (nx1, nx2) := hM2.heap HN1.out (by have := HQ1.out; omega)
        have hS2 := hS1.trans (hM2.below hS1.size (fun k hk e => by have := HP.out; omega))
        have hrow2 := ownsRow_mod hrow1 hM2 (fun g e => by have := (hrow1.lt g e).1; have := HP.out; omega)
        have bl2 : Below w2.heap.size w2 (w2.alloc (.cells #[.int .i64 r1, .int .i64 r2] 26)) := (Below.refl _ w2).alloc (Nat.le_refl _) _
        have hR3 : RefAt (w2.alloc (.cells #[.int .i64 r1, .int .i64 r2] 26)) w2.heap.size (r1, r2) := World.alloc_heap_new w2 _
        have hN3 : RefAt (w2.alloc (.cells #[.int .i64 r1, .int .i64 r2] 26)) B1 (nx1, nx2) := (bl2.block _ (Array.getElem?_eq_some_iff.1 hN2).1).trans hN2
        have hT3 := hT2.below bl2
        have hS3 := hS2.trans (bl2.mono hS2.size)
        have hrow3 := ownsRow_mod (S := fun _ => False) hrow2 (Mod.of_same bl2) (by simp)
        have hz3 : wb.heap.size ≤ w2.heap.size := by have := hM2.size; omega
        have hs3 : (w2.alloc (.cells #[.int .i64 r1, .int .i64 r2] 26)).heap.size = w2.heap.size + 1 := by simp
        have d0 := hN3.c0
        have d1 := hN3.c1
        have d2 := hR3.c0
        have d3 := hR3.c1
        have HR3 := Lib.hid hR3
        clear hT1 hS1 hrow1 hM2 HN1 hN2 hT2 hS2 hrow2 bl2 hN3 hR3 hz1 hz1'
        by_cases hlk : r2 < k
        · rw [if_pos hlk] at hlg
          have HI' := Lib.hid (show _ ∧ _ from ⟨hlg, hmo⟩)
          have hbl := last_len (hT3.2.1) hlg
          rw [List.length_append] at hbl
          simp only [List.length_cons, List.length_nil] at hbl
          clear hlg hmo
          have hcell : ∀ (k : Nat) (u : Value), [Value.int .i64 r1, .int .i64 r2][k]? = some u → ((w2.alloc (.cells #[.int .i64 r1, .int .i64 r2] 26)).alloc (.cells #[.int .i64 r1, .int .i64 r2] 26)).cell? ((⟨w2.heap.size + 1, 0, none⟩ : Addr).add k) = some u := by
            have := cell_two (w2.alloc (.cells #[.int .i64 r1, .int .i64 r2] 26)) (.int .i64 r1) (.int .i64 r2) 26
            rw [hs3] at this
            exact this
          have HC := Lib.hid hcell
          clear hcell
          go_wp2_with (at_builtin; refine wpList_append_own _ rfl _ _ 44 rfl wb.heap.size 26 i0 (.agg #[.int .i64 0, .int .i64 0]) 2 16 Try.underlying44 hi hz0 hz1 hz2 rfl (by decide) _ _ _ rfl (hrow3.alloc _) ⟨w2.heap.size + 1, 0, none⟩ 1 1 [.int .i64 r1, .int .i64 r2] rfl rfl HC.out (by simp [Value.oneCell']) (by unfold maxLen; omega) (by omega) (by simp; omega) ?_; intro v' w4 hown' hgrow _)
          have m1 : Mod (fun k => wb.heap.size ≤ k) (w2.alloc (.cells #[.int .i64 r1, .int .i64 r2] 26)) w4 := ((Mod.refl _ (w2.alloc (.cells #[.int .i64 r1, .int .i64 r2] 26))).alloc _).trans ((Mod.of_grownBy hgrow).mono fun k _ hk => (hrow3.lt k hk.symm).1)
          have hS4 := hS3.trans (m1.below hS3.size (fun k hk e => by have := HP.out; omega))
          have hz4 := m1.size
          refine ⟨⟨j + 1, fr, _, bk ++ [(r1, r2)], by omega, by simp, rfl, hT3.mod m1 (by have := HP.out; omega) (by have := HP.out; omega), ?_, HI', hS4, by omega⟩, ?_⟩
          · rw [refCells_snoc, List.length_append]; exact hown'
          · simp [intOf]; omega
        · rw [if_neg hlk] at hlg
          have HI' := Lib.hid (show _ ∧ _ from ⟨hlg, hmo⟩)
          clear hlg hmo
          go_wp2_with fail
          go_roundw
          case rel => exact ⟨j + 1, fr, _, bk, by omega, by go_num, rfl, hT3, hrow3, HI', hS3, by omega⟩
          case measure => simp [intOf]; omega
    · obtain rfl : j = m := by omega
      go_wp2_with fail
      go_ret
      exact ⟨rfl, hS⟩


theorem lawLast (w : World) (a0 : Int) (w0 : (Lit.int .u8 a0).wf = true) (a1 : Int) (w1 : (Lit.int .u8 a1).wf = true) (a2 : Option Addr) (len2 cap2 : Nat) (z2 : List Int) (w2 : IsRow .u8 w a2 len2 cap2 z2) :
    Calls Try.prog 6 #[.int .u8 a0, .int .u8 a1, .slice a2 len2 cap2] w fun e w' => e = .returned (.bool true) ∧ Below w.heap.size w w' := by
  obtain ⟨h00, h01⟩ := bounds_u8 w0
  obtain ⟨h10, h11⟩ := bounds_u8 w1
  rcases row_cases w2 with ⟨rfl, rfl, rfl⟩ | ⟨x, rfl, rfl, hm⟩ | ⟨b, off, rfl, h1, h2, h3, h4, h5⟩
  · exact last_nil a0 h00 h01 a1 h10 h11 w
  · exact last_zero a0 h00 h01 a1 h10 h11 _ _ w hm
  · exact last_some a0 h00 h01 a1 h10 h11 b off len2 cap2 z2 w h4 h5 h2 h1 h3
end Slot
end Go.Proofs.Ytpcbmckknafdgaa
