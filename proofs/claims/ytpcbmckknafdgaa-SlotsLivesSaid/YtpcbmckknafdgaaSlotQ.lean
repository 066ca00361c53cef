/- The law SlotsLives: the walk. -/
import Derived.Test.YtpcbmckknafdgaaSlotP
namespace Go.Proofs.Ytpcbmckknafdgaa
open Go.RowKit Go.Shelf
set_option linter.unusedVariables false
set_option linter.unusedSimpArgs false
set_option maxRecDepth 100000
namespace Slot

theorem sum_nonneg : ∀ (l : List Int), (∀ i, i < l.length → 0 ≤ l.getD i 0) → 0 ≤ l.sum
  | [], _ => by simp
  | a :: l, h => by
    have h0 := h 0 (by simp)
    have := sum_nonneg l fun i hi => by simpa using h (i + 1) (by simpa using hi)
    simp only [List.getD_cons_zero] at h0
    rw [List.sum_cons]; omega
/-- What holds between the rounds. -/
structure LivesInv (n : Nat) (k : Int) (T : Tab) (at_ times : Int) : Prop where
  good : Good n T
  most : T.most = k
  times : times = T.lives.sum
  at_ : at_ + ((refsT n T).length : Int) ≤ 2 * T.lives.sum
theorem lives_new (n : Nat) (k : Int) : LivesInv n k (newT n k) 0 0 := ⟨new_good n k, rfl, (new_sum n k).symm, by rw [new_refs, new_sum]; simp⟩
theorem lives_at {n : Nat} {k : Int} {T : Tab} {x t : Int} (hv : Valid n T) (h : LivesInv n k T x t) (hn : n ≤ 40) (hk : k ≤ 6) (hk1 : 1 ≤ k) : x ≤ 480 ∧ 0 ≤ t ∧ t ≤ 240 := by
  have h1 := lives_le hv
  rw [h.most] at h1
  have h2 : (n : Int) * k ≤ 40 * 6 := Int.mul_le_mul (by omega) hk (by omega) (by omega)
  have h3 := h.at_
  have h4 := h.times
  have h5 := (hv.lives)
  have h6 : 0 ≤ T.lives.sum := sum_nonneg _ fun i hi => (hv.lives i (by rw [← hv.ll]; exact hi)).1
  omega
theorem lives_take {n : Nat} {k : Int} {T : Tab} {x t : Int} (hv : Valid n T) (h : LivesInv n k T x t) (hf : T.free ≠ []) : LivesInv n k (takeT T).1 (x + 1) (t + 1) ∧ 0 < (refsT n (takeT T).1).length ∧ (takeT T).2.2 = 0 := by
  obtain ⟨h1, h2⟩ := take_counts hv hf
  have h3 := h.times
  have h4 := h.at_
  exact ⟨⟨take_good hv h.good, by rw [take_most]; exact h.most, by omega, by omega⟩, by omega, take_err.1.2 hf⟩
theorem lives_give {n : Nat} {k : Int} {T : Tab} {x t : Int} (hv : Valid n T) (h : LivesInv n k T (x + 1) t) {r : R} (hl : liveT n T r = true) : LivesInv n k (giveT n T r).1 (x + 1) t := by
  obtain ⟨h1, h2⟩ := give_counts hv hl
  have h3 := h.times
  have h4 := h.at_
  exact ⟨give_good hv h.good _, by rw [give_most]; exact h.most, by omega, by omega⟩
theorem lives_give' {n : Nat} {k : Int} {T : Tab} {x t : Int} (hv : Valid n T) (h : LivesInv n k T x t) {r : R} (hl : liveT n T r = true) : LivesInv n k (giveT n T r).1 (x + 1) t := by
  obtain ⟨h1, h2⟩ := give_counts hv hl
  have h3 := h.times
  have h4 := h.at_
  exact ⟨give_good hv h.good _, by rw [give_most]; exact h.most, by omega, by omega⟩
theorem lives_end {n : Nat} {k : Int} {T : Tab} {x t : Int} (hv : Valid n T) (h : LivesInv n k T x t) (hf : T.free = []) (hr : (refsT n T).length = 0) : t = n * k ∧ countsT n T = (0, 0, (n : Int)) := by
  have := all_worn hv h.good hf hr
  rw [h.most] at this
  refine ⟨by rw [h.times, this], ?_⟩
  rw [countsT, hf, hr]; simp


set_option maxHeartbeats 8000000 in
theorem lives_none (a0 : Int) (h00 : 0 ≤ a0) (h01 : a0 ≤ 255) (a1 : Int) (h10 : 0 ≤ a1) (h11 : a1 ≤ 255) (a2 : Option Addr) (cap2 : Nat) (w : World)  :
    Calls Try.prog 7 #[.int .u8 a0, .int .u8 a1, .slice a2 0 cap2] w fun e w' => e = .returned (.bool true) ∧ Below w.heap.size w w' := by
  go_enter Try.func7, Try.ntmps7
  go_wp2_with fail
  refine (awake_any _).mono ?_; rintro e wa ⟨rfl, hba⟩
  go_wp2_with fail
  refine (sizes_any _ _ (by omega) (by omega) (by omega) (by omega) _).mono ?_; rintro e w' ⟨rfl, rfl⟩
  have hn0 : 0 ≤ a0 % 41 := by omega
  have hn1 : a0 % 41 ≤ 40 := by omega
  have hk1 : 1 ≤ 1 + a1 % 6 := by omega
  have hk2 : 1 + a1 % 6 ≤ 6 := by omega
  generalize a0 % 41 = ni at *
  generalize 1 + a1 % 6 = k at *
  obtain ⟨n, rfl⟩ := Int.eq_ofNat_of_zero_le hn0
  clear hn0 h00 h01 h10 h11
  go_wp2_with fail
  refine (New_yes n _ _ (by omega) (by omega)).mono ?_; rintro e wb ⟨rfl, hT, hBa⟩
  have hS := hba.trans (hBa.mono hba.size)
  have hsz := hba.size
  obtain ⟨p, hp⟩ : ∃ p, p = wa.heap.size + 1 := ⟨_, rfl⟩
  rw [← hp] at hT ⊢
  have hsz' : w.heap.size ≤ p := by omega
  generalize wa.heap.size = q at *
  have HP := Lib.hid (show w.heap.size ≤ q ∧ w.heap.size ≤ p from ⟨hsz, hsz'⟩)
  have HI := Lib.hid (lives_new n k)
  clear hba hBa hsz hp hsz'
  go_wp2_with fail
  go_loopw [12, 11, 13, 14, 15, 16] (fun i t _ _ _ _ wr => ∃ (x : Nat) (tm : Int) (T : Tab), i = .int .i64 x ∧ t = .int .i64 tm ∧ TableAt wr p q n T ∧ Hid (LivesInv n k T x tm) ∧ Below w.heap.size w wr) (fun i _ _ _ _ _ _ => 1001 - (intOf i).toNat)
  case atStart => exact ⟨0, 0, _, rfl, rfl, hT, HI, hS⟩
  case round =>
    clear hT HI hS
    obtain ⟨x, tm, T, rfl, rfl, hT, H, hS⟩ := hrel
    obtain ⟨wo, rfl⟩ : ∃ wo : World, wo = wr := ⟨_, rfl⟩
    have hv := hT.2.1
    obtain ⟨b1, b2, b3⟩ := lives_at hv H.out (by omega) hk2 hk1
    by_cases hf : T.free = []
    · have Hf := Lib.hid hf
      go_wp2_with fail
      refine (Take_any p q n T _ hT).mono ?_; rintro e w1 ⟨rfl, hT1, hM1⟩
      rw [takeT_nil hf] at hT1 ⊢
      dsimp only at hT1 ⊢
      have bl : Below w1.heap.size w1 (w1.alloc (.cells #[.int .i64 0, .int .i64 0] 26)) := (Below.refl _ w1).alloc (Nat.le_refl _) _
      have hT2 := hT1.below bl
      have hS1 := hS.trans (hM1.below hS.size (fun k hk e => by have := HP.out; omega))
      have hS2 := hS1.trans (bl.mono hS1.size)
      clear hT1 hM1 hS1 hT hS bl hv hf
      go_wp2_with fail
      generalize w1.alloc (.cells #[.int .i64 0, .int .i64 0] 26) = w2 at *
      have hv := hT2.2.1
      have hf := Hf.out
      refine (Refs_any p q n T _ hT2).mono ?_; rintro e w3 ⟨v, rfl, hr, hb⟩
      have hT3 := hT2.below hb
      have hS3 := hS2.trans (hb.mono hS2.size)
      have hrr := ReadsRefs.of_owns hr
      obtain ⟨u, c, rfl⟩ := ownsRow_val hr
      clear hr hb hT2 hS2
      by_cases h0 : (refsT n T).length = 0
      · rw [h0] at hrr ⊢
        obtain ⟨E1, E2⟩ := lives_end hv H.out hf h0
        have HE2 := Lib.hid E2
        clear E2 hrr h0
        have hnk : 0 ≤ (n : Int) * k ∧ (n : Int) * k ≤ 240 := by rw [← E1]; exact ⟨b2, b3⟩
        obtain ⟨hnk0, hnk1⟩ := hnk
        subst E1
        go_wp2_with fail
        refine (Counts_any p q n T _ hT3).mono ?_; rintro e w4 ⟨rfl, hb4⟩
        rw [HE2.out]
        go_wp2_with fail
        go_ret
        exact ⟨rfl, hS3.trans (hb4.mono hS3.size)⟩
      rcases hrr with ⟨a, cap, e, hnil⟩ | ⟨b', cap', e, hb', hltb, hc⟩
      · exact absurd (by rw [hnil]; rfl) h0
      · injection e with e1 e2 e3
        subst e1
        clear e2 e3
        have hpos : 0 < (refsT n T).length := by omega
        have hlive := pick_live hpos
        have c0 : w3.cell? ⟨b', 0, none⟩ = some (.int .i64 ((refsT n T)[0]?.getD (0, 0)).1) := (hc 0 hpos).1
        have c1 : w3.cell? ⟨b', 1, none⟩ = some (.int .i64 ((refsT n T)[0]?.getD (0, 0)).2) := (hc 0 hpos).2
        have hle2 := refs_le n T
        generalize (refsT n T).length = m at *
        generalize (refsT n T)[0]?.getD (0, 0) = r at *
        obtain ⟨r1, r2⟩ := r
        have hd2 : ((m : Int) == 0) = false := by simp; omega
        have HL := Lib.hid hlive
        clear hc hlive hb' hltb
        dsimp only at c0 c1
        go_wp2_with fail
        refine (Give_any p q n T r1 r2 _ hT3).mono ?_; rintro e w4 ⟨rfl, hT4, hM4⟩
        rw [give_ok HL.out]
        have hS4 := hS3.trans (hM4.below hS3.size (fun k hk e => by have := HP.out; omega))
        go_wp2_with fail
        go_roundw
        case rel => exact ⟨x + 1, _, _, by go_num, rfl, hT4, Lib.hid (lives_give' hv H.out HL.out), hS4⟩
        case measure => simp [intOf]; omega
    · obtain ⟨L1, L2, L3⟩ := lives_take hv H.out hf
      go_wp2_with fail
      refine (Take_any p q n T _ hT).mono ?_; rintro e w1 ⟨rfl, hT1, hM1⟩
      rw [L3]
      generalize (takeT T).2.1 = rr at *
      obtain ⟨ra, rb⟩ := rr
      dsimp only
      have bl : Below w1.heap.size w1 (w1.alloc (.cells #[.int .i64 ra, .int .i64 rb] 26)) := (Below.refl _ w1).alloc (Nat.le_refl _) _
      have hT2 := hT1.below bl
      have hS1 := hS.trans (hM1.below hS.size (fun k hk e => by have := HP.out; omega))
      have hS2 := hS1.trans (bl.mono hS1.size)
      have H' := Lib.hid L1
      have hv' := hT1.2.1
      clear hT1 hM1 hS1 hT hS bl hv hf L1 L3
      by_cases h3 : (x : Int) % 3 = 0
      · go_wp2_with fail
        generalize w1.alloc (.cells #[.int .i64 ra, .int .i64 rb] 26) = w2 at *
        refine (Refs_any p q n (takeT T).1 _ hT2).mono ?_; rintro e w3 ⟨v, rfl, hr, hb⟩
        have hT3 := hT2.below hb
        have hS3 := hS2.trans (hb.mono hS2.size)
        have hrr := ReadsRefs.of_owns hr
        obtain ⟨u, c, rfl⟩ := ownsRow_val hr
        clear hr hb hT2 hS2
        have h0 : ¬ (refsT n (takeT T).1).length = 0 := by omega
        rcases hrr with ⟨a, cap, e, hnil⟩ | ⟨b', cap', e, hb', hltb, hc⟩
        · exact absurd (by rw [hnil]; rfl) h0
        · injection e with e1 e2 e3
          subst e1
          clear e2 e3
          have hpos : 0 < (refsT n (takeT T).1).length := by omega
          have hlive := pick_live hpos
          have c0 : w3.cell? ⟨b', 0, none⟩ = some (.int .i64 ((refsT n (takeT T).1)[0]?.getD (0, 0)).1) := (hc 0 hpos).1
          have c1 : w3.cell? ⟨b', 1, none⟩ = some (.int .i64 ((refsT n (takeT T).1)[0]?.getD (0, 0)).2) := (hc 0 hpos).2
          have hle2 := refs_le n (takeT T).1
          generalize (refsT n (takeT T).1).length = m at *
          generalize (refsT n (takeT T).1)[0]?.getD (0, 0) = r at *
          obtain ⟨r1, r2⟩ := r
          have hd2 : ((m : Int) == 0) = false := by simp; omega
          have HL := Lib.hid hlive
          clear hc hlive hb' hltb
          dsimp only at c0 c1
          go_wp2_with fail
          refine (Give_any p q n (takeT T).1 r1 r2 _ hT3).mono ?_; rintro e w4 ⟨rfl, hT4, hM4⟩
          rw [give_ok HL.out]
          have hS4 := hS3.trans (hM4.below hS3.size (fun k hk e => by have := HP.out; omega))
          go_wp2_with fail
          go_roundw
          case rel => exact ⟨x + 1, _, _, by go_num, rfl, hT4, Lib.hid (lives_give hv' H'.out HL.out), hS4⟩
          case measure => simp [intOf]; omega
      · have h3' : (x : Int) % 3 > 0 := by omega
        go_wp2_with fail
        go_roundw
        case rel => exact ⟨x + 1, _, _, by go_num, rfl, hT2, H', hS2⟩
        case measure => simp [intOf]; omega


set_option maxHeartbeats 8000000 in
theorem lives_some (a0 : Int) (h00 : 0 ≤ a0) (h01 : a0 ≤ 255) (a1 : Int) (h10 : 0 ≤ a1) (h11 : a1 ≤ 255) (b off len cap : Nat) (z : List Int) (w : World) (hcw : ∀ i (w' : World), Below w.heap.size w w' → i < len → w'.cell? ⟨b, off + i, none⟩ = some (.int .u8 (z.getD i 0))) (hxb : ∀ i, i < len → 0 ≤ z.getD i 0 ∧ z.getD i 0 < 256) (hl : len ≤ cap) (hpos : 1 ≤ len) (hm : cap ≤ maxLen) :
    Calls Try.prog 7 #[.int .u8 a0, .int .u8 a1, .slice (some ⟨b, off, none⟩) len cap] w fun e w' => e = .returned (.bool true) ∧ Below w.heap.size w w' := by
  go_enter Try.func7, Try.ntmps7
  go_wp2_with fail
  refine (awake_any _).mono ?_; rintro e wa ⟨rfl, hba⟩
  go_wp2_with fail
  refine (sizes_any _ _ (by omega) (by omega) (by omega) (by omega) _).mono ?_; rintro e w' ⟨rfl, rfl⟩
  have hn0 : 0 ≤ a0 % 41 := by omega
  have hn1 : a0 % 41 ≤ 40 := by omega
  have hk1 : 1 ≤ 1 + a1 % 6 := by omega
  have hk2 : 1 + a1 % 6 ≤ 6 := by omega
  generalize a0 % 41 = ni at *
  generalize 1 + a1 % 6 = k at *
  obtain ⟨n, rfl⟩ := Int.eq_ofNat_of_zero_le hn0
  clear hn0 h00 h01 h10 h11
  go_wp2_with fail
  refine (New_yes n _ _ (by omega) (by omega)).mono ?_; rintro e wb ⟨rfl, hT, hBa⟩
  have hS := hba.trans (hBa.mono hba.size)
  have hsz := hba.size
  obtain ⟨p, hp⟩ : ∃ p, p = wa.heap.size + 1 := ⟨_, rfl⟩
  rw [← hp] at hT ⊢
  have hsz' : w.heap.size ≤ p := by omega
  generalize wa.heap.size = q at *
  have HP := Lib.hid (show w.heap.size ≤ q ∧ w.heap.size ≤ p from ⟨hsz, hsz'⟩)
  have HI := Lib.hid (lives_new n k)
  clear hba hBa hsz hp hsz'
  have HCW := Lib.hid hcw
  have HXB := Lib.hid hxb
  clear hcw hxb
  obtain ⟨ml, hmin, hml, hm2, hml0⟩ : ∃ m : Nat, min (len : Int) 300 = m ∧ m ≤ len ∧ m ≤ 300 ∧ 0 < m := ⟨(min (len : Int) 300).toNat, by omega, by omega, by omega, by omega⟩
  have hml00 : ((ml : Int) == 0) = false := by simp; omega
  go_wp2_with fail
  go_loopw [12, 11, 13, 14, 15, 16] (fun i t _ _ _ _ wr => ∃ (x : Nat) (tm : Int) (T : Tab), i = .int .i64 x ∧ t = .int .i64 tm ∧ TableAt wr p q n T ∧ Hid (LivesInv n k T x tm) ∧ Below w.heap.size w wr) (fun i _ _ _ _ _ _ => 1001 - (intOf i).toNat)
  case atStart => exact ⟨0, 0, _, rfl, rfl, hT, HI, hS⟩
  case round =>
    clear hT HI hS
    obtain ⟨x, tm, T, rfl, rfl, hT, H, hS⟩ := hrel
    obtain ⟨wo, rfl⟩ : ∃ wo : World, wo = wr := ⟨_, rfl⟩
    have hv := hT.2.1
    obtain ⟨b1, b2, b3⟩ := lives_at hv H.out (by omega) hk2 hk1
    by_cases hf : T.free = []
    · have Hf := Lib.hid hf
      go_wp2_with fail
      refine (Take_any p q n T _ hT).mono ?_; rintro e w1 ⟨rfl, hT1, hM1⟩
      rw [takeT_nil hf] at hT1 ⊢
      dsimp only at hT1 ⊢
      have bl : Below w1.heap.size w1 (w1.alloc (.cells #[.int .i64 0, .int .i64 0] 26)) := (Below.refl _ w1).alloc (Nat.le_refl _) _
      have hT2 := hT1.below bl
      have hS1 := hS.trans (hM1.below hS.size (fun k hk e => by have := HP.out; omega))
      have hS2 := hS1.trans (bl.mono hS1.size)
      clear hT1 hM1 hS1 hT hS bl hv hf
      go_wp2_with fail
      generalize w1.alloc (.cells #[.int .i64 0, .int .i64 0] 26) = w2 at *
      have hv := hT2.2.1
      have hf := Hf.out
      refine (Refs_any p q n T _ hT2).mono ?_; rintro e w3 ⟨v, rfl, hr, hb⟩
      have hT3 := hT2.below hb
      have hS3 := hS2.trans (hb.mono hS2.size)
      have hrr := ReadsRefs.of_owns hr
      obtain ⟨u, c, rfl⟩ := ownsRow_val hr
      clear hr hb hT2 hS2
      by_cases h0 : (refsT n T).length = 0
      · rw [h0] at hrr ⊢
        obtain ⟨E1, E2⟩ := lives_end hv H.out hf h0
        have HE2 := Lib.hid E2
        clear E2 hrr h0
        have hnk : 0 ≤ (n : Int) * k ∧ (n : Int) * k ≤ 240 := by rw [← E1]; exact ⟨b2, b3⟩
        obtain ⟨hnk0, hnk1⟩ := hnk
        subst E1
        go_wp2_with fail
        refine (Counts_any p q n T _ hT3).mono ?_; rintro e w4 ⟨rfl, hb4⟩
        rw [HE2.out]
        go_wp2_with fail
        go_ret
        exact ⟨rfl, hS3.trans (hb4.mono hS3.size)⟩
      rcases hrr with ⟨a, cap, e, hnil⟩ | ⟨b', cap', e, hb', hltb, hc⟩
      · exact absurd (by rw [hnil]; rfl) h0
      · injection e with e1 e2 e3
        subst e1
        clear e2 e3
        have hpos : 0 < (refsT n T).length := by omega
        obtain ⟨y0, y1⟩ := HXB.out (x % ml) (by have := Nat.mod_lt x hml0; omega)
        have hcy := HCW.out (x % ml) w3 hS3 (by have := Nat.mod_lt x hml0; omega)
        have hmi : (x : Int) % (ml : Int) = ((x % ml : Nat) : Int) := by omega
        have hml1 : x % ml < len := by have := Nat.mod_lt x hml0; omega
        generalize x % ml = xi at *
        generalize z.getD xi 0 = y at *
        have hidx0 : 0 ≤ y % ((refsT n T).length : Int) := Int.emod_nonneg _ (by omega)
        have hidx1 : y % ((refsT n T).length : Int) < ((refsT n T).length : Int) := Int.emod_lt_of_pos _ (by omega)
        have hidx : (y % ((refsT n T).length : Int)).toNat < (refsT n T).length := by omega
        obtain ⟨c0, c1⟩ := hc _ hidx
        have hlive := pick_live hidx
        clear hidx
        have hle2 := refs_le n T
        generalize (refsT n T).length = m at *
        generalize (refsT n T)[(y % (m : Int)).toNat]?.getD (0, 0) = r at *
        obtain ⟨r1, r2⟩ := r
        have hd2 : ((m : Int) == 0) = false := by simp; omega
        have HL := Lib.hid hlive
        clear hc hlive hb' hltb
        dsimp only at c0 c1
        go_wp2_with fail
        refine (Give_any p q n T r1 r2 _ hT3).mono ?_; rintro e w4 ⟨rfl, hT4, hM4⟩
        rw [give_ok HL.out]
        have hS4 := hS3.trans (hM4.below hS3.size (fun k hk e => by have := HP.out; omega))
        go_wp2_with fail
        go_roundw
        case rel => exact ⟨x + 1, _, _, by go_num, rfl, hT4, Lib.hid (lives_give' hv H.out HL.out), hS4⟩
        case measure => simp [intOf]; omega
    · obtain ⟨L1, L2, L3⟩ := lives_take hv H.out hf
      go_wp2_with fail
      refine (Take_any p q n T _ hT).mono ?_; rintro e w1 ⟨rfl, hT1, hM1⟩
      rw [L3]
      generalize (takeT T).2.1 = rr at *
      obtain ⟨ra, rb⟩ := rr
      dsimp only
      have bl : Below w1.heap.size w1 (w1.alloc (.cells #[.int .i64 ra, .int .i64 rb] 26)) := (Below.refl _ w1).alloc (Nat.le_refl _) _
      have hT2 := hT1.below bl
      have hS1 := hS.trans (hM1.below hS.size (fun k hk e => by have := HP.out; omega))
      have hS2 := hS1.trans (bl.mono hS1.size)
      have H' := Lib.hid L1
      have hv' := hT1.2.1
      clear hT1 hM1 hS1 hT hS bl hv hf L1 L3
      by_cases h3 : (x : Int) % 3 = 0
      · go_wp2_with fail
        generalize w1.alloc (.cells #[.int .i64 ra, .int .i64 rb] 26) = w2 at *
        refine (Refs_any p q n (takeT T).1 _ hT2).mono ?_; rintro e w3 ⟨v, rfl, hr, hb⟩
        have hT3 := hT2.below hb
        have hS3 := hS2.trans (hb.mono hS2.size)
        have hrr := ReadsRefs.of_owns hr
        obtain ⟨u, c, rfl⟩ := ownsRow_val hr
        clear hr hb hT2 hS2
        have h0 : ¬ (refsT n (takeT T).1).length = 0 := by omega
        rcases hrr with ⟨a, cap, e, hnil⟩ | ⟨b', cap', e, hb', hltb, hc⟩
        · exact absurd (by rw [hnil]; rfl) h0
        · injection e with e1 e2 e3
          subst e1
          clear e2 e3
          have hpos : 0 < (refsT n (takeT T).1).length := by omega
          obtain ⟨y0, y1⟩ := HXB.out (x % ml) (by have := Nat.mod_lt x hml0; omega)
          have hcy := HCW.out (x % ml) w3 hS3 (by have := Nat.mod_lt x hml0; omega)
          have hmi : (x : Int) % (ml : Int) = ((x % ml : Nat) : Int) := by omega
          have hml1 : x % ml < len := by have := Nat.mod_lt x hml0; omega
          generalize x % ml = xi at *
          generalize z.getD xi 0 = y at *
          have hidx0 : 0 ≤ y % ((refsT n (takeT T).1).length : Int) := Int.emod_nonneg _ (by omega)
          have hidx1 : y % ((refsT n (takeT T).1).length : Int) < ((refsT n (takeT T).1).length : Int) := Int.emod_lt_of_pos _ (by omega)
          have hidx : (y % ((refsT n (takeT T).1).length : Int)).toNat < (refsT n (takeT T).1).length := by omega
          obtain ⟨c0, c1⟩ := hc _ hidx
          have hlive := pick_live hidx
          clear hidx
          have hle2 := refs_le n (takeT T).1
          generalize (refsT n (takeT T).1).length = m at *
          generalize (refsT n (takeT T).1)[(y % (m : Int)).toNat]?.getD (0, 0) = r at *
          obtain ⟨r1, r2⟩ := r
          have hd2 : ((m : Int) == 0) = false := by simp; omega
          have HL := Lib.hid hlive
          clear hc hlive hb' hltb
          dsimp only at c0 c1
          go_wp2_with fail
          refine (Give_any p q n (takeT T).1 r1 r2 _ hT3).mono ?_; rintro e w4 ⟨rfl, hT4, hM4⟩
          rw [give_ok HL.out]
          have hS4 := hS3.trans (hM4.below hS3.size (fun k hk e => by have := HP.out; omega))
          go_wp2_with fail
          go_roundw
          case rel => exact ⟨x + 1, _, _, by go_num, rfl, hT4, Lib.hid (lives_give hv' H'.out HL.out), hS4⟩
          case measure => simp [intOf]; omega
      · have h3' : (x : Int) % 3 > 0 := by omega
        go_wp2_with fail
        go_roundw
        case rel => exact ⟨x + 1, _, _, by go_num, rfl, hT2, H', hS2⟩
        case measure => simp [intOf]; omega


theorem lawLives (w : World) (a0 : Int) (w0 : (Lit.int .u8 a0).wf = true) (a1 : Int) (w1 : (Lit.int .u8 a1).wf = true) (a2 : Option Addr) (len2 cap2 : Nat) (z2 : List Int) (w2 : IsRow .u8 w a2 len2 cap2 z2) :
    Calls Try.prog 7 #[.int .u8 a0, .int .u8 a1, .slice a2 len2 cap2] w fun e w' => e = .returned (.bool true) ∧ Below w.heap.size w w' := by
  obtain ⟨h00, h01⟩ := bounds_u8 w0
  obtain ⟨h10, h11⟩ := bounds_u8 w1
  rcases row_cases w2 with ⟨rfl, rfl, rfl⟩ | ⟨x, rfl, rfl, hm⟩ | ⟨b, off, rfl, h1, h2, h3, h4, h5⟩
  · exact lives_none a0 h00 h01 a1 h10 h11 _ _ w
  · exact lives_none a0 h00 h01 a1 h10 h11 _ _ w
  · exact lives_some a0 h00 h01 a1 h10 h11 b off len2 cap2 z2 w h4 h5 h2 h1 h3
end Slot
end Go.Proofs.Ytpcbmckknafdgaa
