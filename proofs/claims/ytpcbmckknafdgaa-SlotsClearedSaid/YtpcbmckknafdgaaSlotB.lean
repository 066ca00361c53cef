/- Slots: giving a place back, and a new table. -/
import Derived.Test.YtpcbmckknafdgaaSlotA
import Derived.BigRegion
import Derived.RegionTactic
import Derived.ChangeAlike
import Derived.Laws.MakeOwn
import Derived.Laws.OwnMore
namespace Go.Proofs.Ytpcbmckknafdgaa
open Go.RowKit Go.Shelf
set_option linter.unusedVariables false
set_option linter.unusedSimpArgs false
set_option maxRecDepth 100000
namespace Slot

theorem giveT_no {n : Nat} {T : Tab} {r : R} (h : liveT n T r = false) : giveT n T r = (T, 90) := by rw [giveT, if_neg (by rw [h]; simp)]
theorem giveT_yes {n : Nat} {T : Tab} {r : R} (h : liveT n T r = true) : giveT n T r = ({ T with taken := T.taken.set r.1.toNat false, free := if T.lives.getD r.1.toNat 0 < T.most then r.1.toNat :: T.free else T.free }, 0) := by rw [giveT, if_pos h]
theorem live_of {n : Nat} {T : Tab} {a b : Int} (h : liveT n T (a, b) = true) : ∃ k : Nat, a = k ∧ k < n ∧ T.taken.getD k false = true ∧ T.lives.getD k 0 = b := by
  simp only [liveT, lookT] at h
  split at h
  · rename_i hh
    obtain ⟨k, rfl⟩ := Int.eq_ofNat_of_zero_le hh.1
    simp at h
    refine ⟨k, rfl, by omega, ?_, ?_⟩
    · simpa using h.1
    · simpa using h.2
  · simp at h
theorem give_valid {n : Nat} {T : Tab} (hv : Valid n T) {a b : Int} (h : liveT n T (a, b) = true) : Valid n (giveT n T (a, b)).1 := by
  rw [giveT_yes h]
  obtain ⟨k, rfl, hk, ht, hl⟩ := live_of h
  simp only [Int.toNat_natCast]
  have hn : k ∉ T.free := fun hm => by have := (hv.free k hm).2.1; rw [ht] at this; cases this
  refine ⟨hv.ll, by simpa using hv.lt, ?_, ?_, hv.lives, hv.most, hv.n⟩
  · show (if T.lives.getD k 0 < T.most then k :: T.free else T.free).Nodup
    split
    · exact List.nodup_cons.2 ⟨hn, hv.nodup⟩
    · exact hv.nodup
  · intro i hi
    show i < n ∧ (T.taken.set k false).getD i false = false ∧ T.lives.getD i 0 < T.most
    rw [getD_set _ _ _ _ _ (by rw [hv.lt]; exact hk)]
    have hi' : i ∈ (if T.lives.getD k 0 < T.most then k :: T.free else T.free) := hi
    by_cases hm : T.lives.getD k 0 < T.most
    · rw [if_pos hm] at hi'
      rcases List.mem_cons.1 hi' with rfl | hi'
      · exact ⟨hk, by rw [if_pos rfl], hm⟩
      · obtain ⟨a, b, c⟩ := hv.free i hi'
        exact ⟨a, by split <;> first | rfl | exact b, c⟩
    · rw [if_neg hm] at hi'
      obtain ⟨a, b, c⟩ := hv.free i hi'
      exact ⟨a, by split <;> first | rfl | exact b, c⟩

theorem Give_no (p q n : Nat) (T : Tab) (a b : Int) (w : World) (h : TableAt w p q n T) (hl : liveT n T (a, b) = false) :
    Calls Try.prog 24 #[.pointer (some ⟨p, 0, none⟩), .agg #[.int .i64 a, .int .i64 b]] w fun e w' => e = .returned (.int .i64 90) ∧ Below w.heap.size w w' := by
  have h1 : TableAt (w.alloc (.cells #[.int .i64 a, .int .i64 b] 26)) p q n T := h.below ((Below.refl _ _).alloc (Nat.le_refl _) _)
  have hB := (Below.refl w.heap.size w).alloc (Nat.le_refl _) (.cells #[.int .i64 a, .int .i64 b] 26)
  have Hl := Lib.hid hl
  clear hl
  go_enter Try.func24, Try.ntmps24
  go_wp2_with fail
  refine (none_no p q n T _ h1).mono ?_; rintro e w' ⟨rfl, rfl⟩
  go_wp2_with fail
  refine (Live_any p q n T a b _ h1).mono ?_; rintro e w' ⟨rfl, hb⟩; rw [Hl.out]
  go_wp2_with fail
  go_ret
  exact ⟨rfl, hB.trans (hb.mono (by simp))⟩

theorem Give_yes (p q n : Nat) (T : Tab) (a b : Int) (w : World) (h : TableAt w p q n T) (hl : liveT n T (a, b) = true) :
    Calls Try.prog 24 #[.pointer (some ⟨p, 0, none⟩), .agg #[.int .i64 a, .int .i64 b]] w fun e w' => e = .returned (.int .i64 0) ∧ TableAt w' p q n (giveT n T (a, b)).1 ∧ Mod (fun k => k = p ∨ k = q) w w' := by
  have h1 : TableAt (w.alloc (.cells #[.int .i64 a, .int .i64 b] 26)) p q n T := h.below ((Below.refl _ _).alloc (Nat.le_refl _) _)
  obtain ⟨k, rfl, hk, ht, hlf⟩ := live_of hl
  have HG := Lib.hid (giveT_yes hl)
  have HV := Lib.hid (give_valid h.2.1 hl)
  have Hl := Lib.hid hl
  clear hl
  go_enter Try.func24, Try.ntmps24
  go_wp2_with fail
  refine (none_no p q n T _ h1).mono ?_; rintro e w' ⟨rfl, rfl⟩
  go_wp2_with fail
  refine (Live_any p q n T k b _ h1).mono ?_; rintro e w1 ⟨rfl, hb⟩; rw [Hl.out]
  have h2 := h1.below hb
  have r0 := (hb.cell (p := ⟨w.heap.size, 0, none⟩) (by simp)).trans (World.cell?_alloc_new w #[.int .i64 (k : Int), .int .i64 b] 26 0)
  have hB1 : Below w.heap.size w w1 := ((Below.refl w.heap.size w).alloc (Nat.le_refl _) _).trans (hb.mono (by simp))
  have hlt := h.lt
  obtain ⟨hpq, hv, fst, nx, hp, hq, hch⟩ := h2
  obtain ⟨fst', nx', c0, c1, c2, -, hc, fp, fq⟩ := TableAt.reads (h1.below hb)
  obtain rfl : fst' = fst := by have e := c2; simp [World.cell?, hp] at e; exact e.symm
  obtain ⟨d0, d1, d2⟩ := hc k hk
  have fq1 := fq (k * 3 + 1)
  have hpw : p < w.heap.size := hlt.1
  have hqw : q < w.heap.size := hlt.2
  clear hc
  have r0' : w1.cell? ⟨w.heap.size, 0, none⟩ = some (.int .i64 (k : Int)) := r0
  clear r0 h1 hlt
  clear h
  go_wp2_with fail
  go_quiet (fail)
  go_wp2_with fail
  have hq' : PlacesAt (w1.drewN nq) q n T nx := hq
  have hp' : (w1.drewN nq).heap[p]? = some (.cells #[.slice (some ⟨q, 0, none⟩) n n, .int .i64 T.most, .int .i64 fst'] 74 (0, 0)) := hp
  have hpl := places_taken hq' k hk hv.lt false
  have s0 := (World.cell?_setCell_other (w1.drewN nq) ⟨q, k * 3 + 1, none⟩ ⟨q, k * 3, none⟩ (.bool false) (by simp)).trans d0
  have s1 := (World.cell?_setCell_other (w1.drewN nq) ⟨q, k * 3 + 1, none⟩ ⟨p, 1, none⟩ (.bool false) (fun e => hpq (by injection e with e1; exact e1.symm))).trans c1
  have s2 := (World.cell?_setCell_other (w1.drewN nq) ⟨q, k * 3 + 1, none⟩ ⟨p, 2, none⟩ (.bool false) (fun e => hpq (by injection e with e1; exact e1.symm))).trans c2
  have s3 := (World.cell?_setCell_other (w1.drewN nq) ⟨q, k * 3 + 1, none⟩ ⟨w.heap.size, 0, none⟩ (.bool false) (by simp)).trans r0'
  have s4 := (World.cell?_setCell_other (w1.drewN nq) ⟨q, k * 3 + 1, none⟩ ⟨q, k * 3 + 2, none⟩ (.bool false) (by simp)).trans d2
  have hp2 := heap_set_other hp' (a := ⟨q, k * 3 + 1, none⟩) (fun e => hpq e.symm) (.bool false)
  have f0 : ∀ i, ((w1.drewN nq).setCell ⟨q, k * 3 + 1, none⟩ (.bool false)).frozen? ⟨q, i, none⟩ = false := fun i => by rw [World.frozen?_setCell]; exact fq i
  have f1 : ∀ i, ((w1.drewN nq).setCell ⟨q, k * 3 + 1, none⟩ (.bool false)).frozen? ⟨p, i, none⟩ = false := fun i => by rw [World.frozen?_setCell]; exact fp i
  have hM : Mod (fun k => k = p ∨ k = q) w ((w1.drewN nq).setCell ⟨q, k * 3 + 1, none⟩ (.bool false)) := Mod.setCell (S := fun k => k = p ∨ k = q) (p := ⟨q, k * 3 + 1, none⟩) (Mod.of_same (below_drewN hB1 nq)) (.inr (.inr rfl)) _
  generalize (w1.drewN nq).setCell ⟨q, k * 3 + 1, none⟩ (.bool false) = W2 at *
  have Hpl := Lib.hid hpl
  have Hp2 := Lib.hid hp2
  have HM := Lib.hid hM
  have Hch := Lib.hid hch
  have Hv := Lib.hid hv
  have Ht := Lib.hid ht
  have Hlf := Lib.hid hlf
  clear hpl hp2 hM hq hp hch hv ht hlf hb hB1 fp fq hq' hp' c0 c1 c2 d0 d1 d2 r0' fq1
  by_cases hm : T.lives.getD k 0 < T.most
  · have hm2 : T.lives[k]?.getD 0 < T.most := by simpa using hm
    go_quiet (fail)
    go_wp2_with fail
    have f02 := f0 (k * 3 + 2)
    have f12 := f1 2
    go_region
    go_wp2_with fail
    go_ret
    have hkf : k ∉ T.free := fun hmm => by have := (Hv.out.free k hmm).2.1; rw [Ht.out] at this; cases this
    have e1 : PlacesAt (W2.drewN (nq + 1)) q n { T with taken := T.taken.set k false } nx := Hpl.out
    have e2 := places_set e1 k hk fst'
    have e3 := places_other e2 (a := ⟨p, 2, none⟩) hpq (.int .i64 (k : Int))
    have e4 : (W2.drewN (nq + 1)).heap[p]? = some (.cells #[.slice (some ⟨q, 0, none⟩) n n, .int .i64 T.most, .int .i64 fst'] 74 (0, 0)) := Hp2.out
    have e5 := heap_set_other e4 (a := ⟨q, k * 3 + 2, none⟩) (fun e => hpq e.symm) (.int .i64 fst')
    have e6 := head_set (v := .int .i64 (k : Int)) e5
    have m1 : Mod (fun k => k = p ∨ k = q) w (W2.drewN (nq + 1)) := ⟨HM.out.os, HM.out.tape, HM.out.output, HM.out.size, HM.out.block⟩
    have m2 := Mod.setCell (S := fun k => k = p ∨ k = q) (p := ⟨p, 2, none⟩) (Mod.setCell (S := fun k => k = p ∨ k = q) (p := ⟨q, k * 3 + 2, none⟩) m1 (.inr (.inr rfl)) (.int .i64 fst')) (.inr (.inl rfl)) (.int .i64 (k : Int))
    refine ⟨rfl, ?_, m2⟩
    have hG := HV.out
    rw [HG.out] at hG ⊢
    refine ⟨hpq, hG, (k : Int), (fun j => if j = k then fst' else nx j), e6, ?_, ?_⟩
    · simpa [PlacesAt] using e3
    · show Chain _ _ (if T.lives.getD (k : Int).toNat 0 < T.most then (k : Int).toNat :: T.free else T.free)
      simp only [Int.toNat_natCast]
      rw [if_pos hm]
      refine ⟨rfl, ?_⟩
      have hcg : ∀ i ∈ T.free, nx i = (fun j => if j = k then fst' else nx j) i := by
        intro i hi
        have hik : i ≠ k := fun e => by rw [e] at hi; exact hkf hi
        simp only [if_neg hik]
      have hres := Chain.congr hcg Hch.out
      simpa using hres
  · have hd : decide (T.lives[k]?.getD 0 < T.most) = false := by simpa using hm
    go_quiet (fail)
    go_wp2_with fail
    go_ret
    have m1 : Mod (fun k => k = p ∨ k = q) w (W2.drewN nq) := ⟨HM.out.os, HM.out.tape, HM.out.output, HM.out.size, HM.out.block⟩
    refine ⟨rfl, ?_, m1⟩
    have hG := HV.out
    rw [HG.out] at hG ⊢
    refine ⟨hpq, hG, fst', nx, Hp2.out, ?_, ?_⟩
    · have e1 : PlacesAt (W2.drewN nq) q n { T with taken := T.taken.set k false } nx := Hpl.out
      simpa [PlacesAt] using e1
    · show Chain _ _ (if T.lives.getD (k : Int).toNat 0 < T.most then (k : Int).toNat :: T.free else T.free)
      simp only [Int.toNat_natCast]
      rw [if_neg (by omega)]
      exact Hch.out

/-- Give: what the plain function says. -/
theorem Give_any (p q n : Nat) (T : Tab) (a b : Int) (w : World) (h : TableAt w p q n T) :
    Calls Try.prog 24 #[.pointer (some ⟨p, 0, none⟩), .agg #[.int .i64 a, .int .i64 b]] w fun e w' => e = .returned (.int .i64 (giveT n T (a, b)).2) ∧ TableAt w' p q n (giveT n T (a, b)).1 ∧ Mod (fun k => k = p ∨ k = q) w w' := by
  cases hl : liveT n T (a, b)
  · refine (Give_no p q n T a b w h hl).mono ?_
    rintro e w' ⟨rfl, hb⟩
    rw [giveT_no hl]
    exact ⟨rfl, h.below hb, Mod.of_same hb⟩
  · refine (Give_yes p q n T a b w h hl).mono ?_
    rintro e w' ⟨rfl, h1, h2⟩
    exact ⟨by rw [giveT_yes hl], h1, h2⟩

/-! ### a new table -/
theorem New_no (x k : Int) (w : World) (h : ¬ (0 ≤ x ∧ x ≤ 1024 ∧ 1 ≤ k ∧ k ≤ 4294967296)) :
    Calls Try.prog 16 #[.int .i64 x, .int .i64 k] w fun e w' => e = .returned (.tuple #[.pointer none, .int .i64 2]) ∧ w = w' := by
  by_cases h0 : 0 ≤ x
  · by_cases h1 : x ≤ 1024
    · by_cases h2 : 1 ≤ k
      · have h3 : ¬ k ≤ 4294967296 := by omega
        go_enter Try.func16, Try.ntmps16
        go_wp2
        go_ret2
        exact ⟨rfl, rfl⟩
      · go_enter Try.func16, Try.ntmps16
        go_wp2
        go_ret2
        exact ⟨rfl, rfl⟩
    · go_enter Try.func16, Try.ntmps16
      go_wp2
      go_ret2
      exact ⟨rfl, rfl⟩
  · go_enter Try.func16, Try.ntmps16
    go_wp2
    go_ret2
    exact ⟨rfl, rfl⟩

theorem infoPlace : (Try.prog.info? 77).map (fun i => (i.zero, i.size, i.bytes)) = some (some (.agg #[.int .i64 0, .bool false, .int .i64 0]), 3, 24) := by kernel_rfl
/-- n places in memory, as they are made. -/
def zeroPlaces (n : Nat) : Array Value := madeCells (Value.agg #[.int .i64 0, .bool false, .int .i64 0]).cells (n * 3)
theorem zeroPlaces_at (n i : Nat) (hi : i < n) : (zeroPlaces n)[i * 3]? = some (.int .i64 0) ∧ (zeroPlaces n)[i * 3 + 1]? = some (.bool false) ∧ (zeroPlaces n)[i * 3 + 2]? = some (.int .i64 0) := by
  have hc : (Value.agg #[.int .i64 0, .bool false, .int .i64 0]).cells = #[.int .i64 0, .bool false, .int .i64 0] := by simp [Value.cells]
  have h1 : (i * 3 + 1) % 3 = 1 := by omega
  have h2 : (i * 3 + 2) % 3 = 2 := by omega
  refine ⟨?_, ?_, ?_⟩
  · simp [zeroPlaces, hc, madeCells, show i * 3 < n * 3 by omega]
  · simp [zeroPlaces, hc, madeCells, show i * 3 + 1 < n * 3 by omega, h1]
  · simp [zeroPlaces, hc, madeCells, show i * 3 + 2 < n * 3 by omega, h2]
end Slot
end Go.Proofs.Ytpcbmckknafdgaa
