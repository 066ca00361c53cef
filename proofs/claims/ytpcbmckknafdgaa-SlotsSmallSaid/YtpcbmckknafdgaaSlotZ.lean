/- The law's comparison of all that a table tells with the reference. -/
import Derived.Test.YtpcbmckknafdgaaSlotY
import Derived.Test.YtpcbmckknafdgaaSlotP
namespace Go.Proofs.Ytpcbmckknafdgaa
open Go.RowKit Go.Shelf
set_option linter.unusedVariables false
set_option linter.unusedSimpArgs false
set_option maxRecDepth 100000
namespace Slot

theorem owns_under {a w : World} {base : Nat} {e : TypeId} {size : Nat} {v : Value} {n : Nat} {xs : List Value} (h : a.ownsRow base e size v n xs) (hb : Below a.heap.size a w) : w.ownsRow base e size v n xs := ownsRow_mod (S := fun _ => False) h (Mod.of_same hb) (by simp)
theorem owns_setN {w : World} {base : Nat} {e : TypeId} {size g n c : Nat} {xs : List Value} (h : w.ownsRow base e size (.slice (some ⟨g, 0, none⟩) n c) n xs) (i : Nat) (u : Value) : (w.setCell ⟨g, i, none⟩ u).ownsRow base e size (.slice (some ⟨g, 0, none⟩) n c) n (xs.set i u) := by
  refine ⟨by simpa using h.1, ?_⟩
  rcases h.2 with ⟨h1, _⟩ | ⟨g', c', cur, h1, h2, h3, h4, h5, h6, h7⟩
  · cases h1
  · injection h1 with e1 e2 e3
    injection e1 with e1
    injection e1 with e1
    subst e1 e3
    obtain ⟨hlt, hk⟩ := Array.getElem?_eq_some_iff.1 h3
    refine .inr ⟨g, c, cur.setIfInBounds i u, rfl, h2, ?_, h4, h5, by simpa using h6, ?_⟩
    · show (w.heap.modify g _)[g]? = _
      rw [Array.getElem?_eq_getElem (by rw [Array.size_modify]; exact hlt), Array.getElem_modify_self, hk]; rfl
    · rw [Array.toList_setIfInBounds, List.take_set, h7]
theorem owns_parts {w : World} {base : Nat} {e : TypeId} {size n c : Nat} {a : Option Addr} {xs : List Value} (h : w.ownsRow base e size (.slice a n c) n xs) (hn : 0 < n) : ∃ g, a = some ⟨g, 0, none⟩ ∧ base ≤ g ∧ g < w.heap.size ∧ (∀ i, w.frozen? ⟨g, i, none⟩ = false) ∧ ∀ i u, xs[i]? = some u → w.cell? ⟨g, i, none⟩ = some u := by
  rcases h.2 with ⟨h1, h2⟩ | ⟨g', c', cur, h1, h2, h3, h4, h5, h6, h7⟩
  · omega
  · have hc := h.cells (g := g')
    injection h1 with e1 e2 e3
    subst e1 e3
    refine ⟨g', rfl, h2, (Array.getElem?_eq_some_iff.1 h3).1, fun i => by simp [World.frozen?, h3], fun i u hu => ?_⟩
    have := hc rfl i u hu
    rcases i with _ | i
    · simpa [Addr.add] using this
    · simpa [Addr.add] using this
theorem reads_free {base : Nat → Prop} {w : World} {v : Value} {T : Tab} (h : RowIs base w v T.free.length (freeV T)) : Reads .i64 w v (T.free.map fun x : Nat => (x : Int)) := by
  rcases h with ⟨h1, h2⟩ | ⟨b, o, c, h1, _, h3, h4, h5, h6⟩
  · subst h1
    rw [List.length_eq_zero_iff.1 h2]
    exact .inl ⟨none, 0, rfl, rfl⟩
  · refine .inr ⟨b, o, c, by rw [h1, List.length_map], by rw [List.length_map]; omega, fun i hi => ?_⟩
    rw [List.length_map] at hi
    rw [h6 i hi, freeV]
    simp [List.getD_eq_getElem?_getD, List.getElem?_eq_getElem hi]

set_option maxHeartbeats 16000000 in
theorem Same_any (base : Nat → Prop) (p q n : Nat) (T : Tab) (vl vf vt : Value) (w : World) (h : TableAt w p q n T) (hs : StateS base w vl vf vt n T) (hbase : ∀ g, w.heap.size ≤ g → base g) :
    Calls Try.prog 32 #[.pointer (some ⟨p, 0, none⟩), .agg #[vl, .int .i64 T.most, vf, vt]] w fun e w' => e = .returned (.bool true) ∧ Below w.heap.size w w' := by
  have hv := h.2.1
  have hn := hv.n
  have hrl := refs_le n T
  have hfl := free_le hv
  have hB0 : Below w.heap.size w (w.alloc (.cells #[vl, .int .i64 T.most, vf, vt] 67)) := (Below.refl _ w).alloc (Nat.le_refl _) _
  have hb0 : BoxS (w.alloc (.cells #[vl, .int .i64 T.most, vf, vt] 67)) w.heap.size vl T.most vf vt := World.alloc_heap_new w _
  have h0 := h.below hB0
  have hs0 := hs.below hB0
  clear h hs
  go_enter Try.func32, Try.ntmps32
  go_wp2_with fail
  generalize (w.alloc (.cells #[vl, .int .i64 T.most, vf, vt] 67)) = x0 at *
  have HV := Lib.hid hv
  clear hv
  have hbx0 := hb0
  clear hb0
  obtain ⟨ca, cb, cc, hct⟩ : ∃ a b c, countsT n T = (a, b, c) := ⟨_, _, _, rfl⟩
  have HCT := Lib.hid hct
  clear hct
  obtain ⟨na, nb, ni, hnt⟩ : ∃ a b c, nextT T = ((a, b), c) := ⟨_, _, _, rfl⟩
  have HNT := Lib.hid hnt
  clear hnt
  have hBZ := hB0.size
  refine (Counts_any p q n T _ h0).mono ?_; rintro e w1 ⟨rfl, hb1⟩
  rw [HCT.out]
  dsimp only
  have h1 := h0.below hb1
  have hs1 := hs0.below hb1
  have hbx1 : BoxS w1 w.heap.size vl T.most vf vt := (hb1.block _ hbx0.lt).trans hbx0
  have hB1 := hB0.trans (hb1.mono hB0.size)
  clear h0 hs0 hbx0 hB0
  have q0 := BoxS.c0 hbx1
  have q1 := BoxS.c1 hbx1
  have q2 := BoxS.c2 hbx1
  have q3 := BoxS.c3 hbx1
  clear hb1
  go_wp2_with fail
  refine (CountsR_any base n T _ _ _ _ hs1 HV.out (fun g hg => hbase g (Nat.le_trans hB1.size hg))).mono ?_; rintro e w2 ⟨rfl, hb2⟩
  rw [HCT.out]
  dsimp only
  clear q0 q1 q2 q3
  have h2 := h1.below hb2
  have hs2 := hs1.below hb2
  have hbx2 : BoxS w2 w.heap.size vl T.most vf vt := (hb2.block _ hbx1.lt).trans hbx1
  have hB2 := hB1.trans (hb2.mono hB1.size)
  clear h1 hs1 hbx1 hB1
  clear hb2
  go_wp2_with fail
  refine (Next_any p q n T _ h2).mono ?_; rintro e w3' ⟨rfl, hb3'⟩
  rw [HNT.out]
  dsimp only
  have hb3 : Below w2.heap.size w2 (w3'.alloc (.cells #[.int .i64 na, .int .i64 nb] 26)) := hb3'.alloc hb3'.size _
  have hN3 : RefAt (w3'.alloc (.cells #[.int .i64 na, .int .i64 nb] 26)) w3'.heap.size (na, nb) := World.alloc_heap_new w3' _
  obtain ⟨w3, hw3⟩ : ∃ w3, w3 = w3'.alloc (.cells #[.int .i64 na, .int .i64 nb] 26) := ⟨_, rfl⟩
  have hN3z : w3'.heap.size < w3.heap.size := by rw [hw3]; simp
  rw [← hw3] at hb3 hN3
  have HW3 := Lib.hid hw3
  clear hw3
  have h3 := h2.below hb3
  have hs3 := hs2.below hb3
  have hbx3 : BoxS w3 w.heap.size vl T.most vf vt := (hb3.block _ hbx2.lt).trans hbx2
  have hB3 := hB2.trans (hb3.mono hB2.size)
  clear h2 hs2 hbx2 hB2
  have q0 := BoxS.c0 hbx3
  have q1 := BoxS.c1 hbx3
  have q2 := BoxS.c2 hbx3
  have q3 := BoxS.c3 hbx3
  rw [HW3.out] at q0 q1 q2 q3
  clear hb3 hb3'
  go_wp2_with fail
  rw [← HW3.out]
  refine (NextR_any base n T _ _ _ _ hs3 HV.out (fun g hg => hbase g (Nat.le_trans hB3.size hg))).mono ?_; rintro e w4' ⟨rfl, hb4'⟩
  rw [HNT.out]
  dsimp only
  clear q0 q1 q2 q3 HW3
  have hb4 : Below w3.heap.size w3 (w4'.alloc (.cells #[.int .i64 na, .int .i64 nb] 88)) := hb4'.alloc hb4'.size _
  have hM4 : RefAtR (w4'.alloc (.cells #[.int .i64 na, .int .i64 nb] 88)) w4'.heap.size na nb := World.alloc_heap_new w4' _
  have hN4 : RefAt (w4'.alloc (.cells #[.int .i64 na, .int .i64 nb] 88)) w3'.heap.size (na, nb) := (hb4.block _ hN3z).trans hN3
  have hN4z : w3'.heap.size < w4'.heap.size ∧ w3.heap.size ≤ w4'.heap.size := by have := hb4'.size; omega
  obtain ⟨w4, hw4⟩ : ∃ w4, w4 = w4'.alloc (.cells #[.int .i64 na, .int .i64 nb] 88) := ⟨_, rfl⟩
  rw [← hw4] at hb4 hM4 hN4
  have HW4 := Lib.hid hw4
  clear hw4 hN3 hN3z
  have h4 := h3.below hb4
  have hs4 := hs3.below hb4
  have hbx4 : BoxS w4 w.heap.size vl T.most vf vt := (hb4.block _ hbx3.lt).trans hbx3
  have hB4 := hB3.trans (hb4.mono hB3.size)
  clear h3 hs3 hbx3 hB3
  have hz4 := hB4.size
  clear hb4 hb4'
  go_wp2_with fail
  rw [← HW4.out]
  clear HW4
  generalize w3'.heap.size = BN at *
  generalize w4'.heap.size = BM at *
  have hMlt := hM4.lt
  refine (Refs_any p q n T _ h4).mono ?_; rintro e w5 ⟨v5, rfl, hr5, hb5⟩
  have h5 := h4.below hb5
  have hs5 := hs4.below hb5
  have hbx5 : BoxS w5 w.heap.size vl T.most vf vt := (hb5.block _ hbx4.lt).trans hbx4
  have hB5 := hB4.trans (hb5.mono hB4.size)
  have hM5 : RefAtR w5 BM na nb := (hb5.block _ hM4.lt).trans hM4
  have hN5 : RefAt w5 BN (na, nb) := (hb5.block _ (by omega)).trans hN4
  clear h4 hs4 hbx4 hB4
  have hz5 := hb5.size
  have HG5 := Lib.hid (fun g e => (hr5.lt g e).2)
  clear hM4 hN4 hb5
  go_wp2_with fail
  refine (Free_any p q n T _ h5).mono ?_; rintro e w6 ⟨v6, rfl, hr6, hb6⟩
  have h6 := h5.below hb6
  have hs6 := hs5.below hb6
  have hbx6 : BoxS w6 w.heap.size vl T.most vf vt := (hb6.block _ hbx5.lt).trans hbx5
  have hB6 := hB5.trans (hb6.mono hB5.size)
  have hM6 : RefAtR w6 BM na nb := (hb6.block _ hM5.lt).trans hM5
  have hN6 : RefAt w6 BN (na, nb) := (hb6.block _ (by omega)).trans hN5
  have hr5' := owns_under hr5 hb6
  clear h5 hs5 hbx5 hB5
  have hz6 := hb6.size
  clear hM5 hN5 hb6 hr5
  have q0 := BoxS.c0 hbx6
  have q1 := BoxS.c1 hbx6
  have q2 := BoxS.c2 hbx6
  have q3 := BoxS.c3 hbx6
  go_wp2_with fail
  refine (RefsR_any base n T _ _ _ _ hs6.s HV.out).mono ?_; rintro e w7 ⟨v7, rfl, hr7, hb7⟩
  clear q0 q1 q2 q3
  have h7 := h6.below hb7
  have hs7 := hs6.below hb7
  have hbx7 : BoxS w7 w.heap.size vl T.most vf vt := (hb7.block _ hbx6.lt).trans hbx6
  have hB7 := hB6.trans (hb7.mono hB6.size)
  have hM7 : RefAtR w7 BM na nb := (hb7.block _ hM6.lt).trans hM6
  have hN7 : RefAt w7 BN (na, nb) := (hb7.block _ (by omega)).trans hN6
  have hr5 := owns_under hr5' hb7
  have hr6' := owns_under hr6 hb7
  clear h6 hs6 hbx6 hB6
  have hz7 := hb7.size
  clear hM6 hN6 hb7 hr5' hr6
  have hrd6 := Reads.of_owns (zs := T.free.map fun x : Nat => (x : Int)) (by rw [List.map_map]; exact hr6')
  have hrdf := reads_free hs7.s.free
  obtain ⟨a5, c5, e5⟩ := ownsRow_val hr5
  obtain ⟨a6, c6, e6⟩ := ownsRow_val hr6'
  obtain ⟨a7, c7, e7⟩ := ownsRow_val hr7
  obtain ⟨af, cf, ef⟩ := hs7.s.free.form
  subst e5 e6 e7 ef
  have HR5 := Lib.hid hr5
  have HR6 := Lib.hid hr6'
  have HR7 := Lib.hid hr7
  have HRD6 := Lib.hid hrd6
  have HRDF := Lib.hid hrdf
  have q2 := BoxS.c2 hbx7
  have d0 := hN7.c0
  have d1 := hN7.c1
  have e0 := hM7.c0
  have e1 := hM7.c1
  have HB7 := Lib.hid hB7
  have HZ := Lib.hid (show w.heap.size ≤ w4.heap.size ∧ w4.heap.size ≤ w5.heap.size ∧ w5.heap.size ≤ w6.heap.size ∧ w6.heap.size ≤ w7.heap.size from ⟨hz4, hz5, hz6, hz7⟩)
  obtain ⟨L, hL⟩ : ∃ L, L = (refsT n T).length := ⟨_, rfl⟩
  obtain ⟨F, hF⟩ : ∃ F, F = T.free.length := ⟨_, rfl⟩
  rw [← hL] at HR5 HR7 hrl ⊢
  rw [← hF] at HR6 hfl q2 HRDF HRD6 ⊢
  have HL := Lib.hid hL
  have HF := Lib.hid hF
  clear hr5 hr6' hr7 hrd6 hrdf h7 hs7 hbx7 hM7 hN7 hB7 hBZ hz4 hz5 hz6 hz7 hL hF hMlt hN4z
  have k1 : (ca == ca) = true := by simp
  have k2 : (cb == cb) = true := by simp
  have k3 : (cc == cc) = true := by simp
  have k4 : (na == na) = true := by simp
  have k5 : (nb == nb) = true := by simp
  have k6 : (ni == ni) = true := by simp
  go_wp2_with fail
  refine (Equal_any _ _ _ _ _ HRD6.out HRDF.out).mono ?_; rintro e w' ⟨rfl, m8, rfl⟩
  rw [show decide ((T.free.map fun x : Nat => (x : Int)) = (T.free.map fun x : Nat => (x : Int))) = true from by simp]
  clear q2 d0 d1 e0 e1 k1 k2 k3 k4 k5 k6
  go_wp2_with fail
  obtain ⟨w8, hw8⟩ : ∃ w8, w8 = w7.drewN m8 := ⟨_, rfl⟩
  have R5 : w8.ownsRow w4.heap.size 26 2 (.slice a5 L c5) L (refCells (refsT n T)) := by rw [hw8]; exact HR5.out
  have R6 : w8.ownsRow w5.heap.size 3 1 (.slice a6 F c6) F (T.free.map fun x : Nat => Value.int .i64 (x : Int)) := by rw [hw8]; exact HR6.out
  have R7 : ReadsRefs w6.heap.size w8 (.slice a7 L c7) (refsT n T) := by rw [hw8]; exact (ReadsRefs.of_owns HR7.out).mod (S := fun _ => False) (w' := w7.drewN m8) ⟨rfl, rfl, rfl, Nat.le_refl _, fun _ _ _ => rfl⟩ (by simp)
  have B8 : Below w.heap.size w w8 := by rw [hw8]; exact below_drewN HB7.out m8
  rw [← hw8]
  clear hw8 HR5 HR6 HR7 HB7 HRD6 HRDF
  have hrc := fun i (hi : i < L) => refCells_at (refsT n T) i (by rw [← HL.out]; exact hi)
  have HRC := Lib.hid hrc
  clear hrc
  go_loopw [87, 18] (fun i _ wr => ∃ (j : Nat) (xs ys : List Value), j ≤ L ∧ i = .int .i64 j ∧ wr.ownsRow w4.heap.size 26 2 (.slice a5 L c5) L xs ∧ Hid (∀ i, j * 2 ≤ i → xs[i]? = (refCells (refsT n T))[i]?) ∧ ReadsRefs w6.heap.size wr (.slice a7 L c7) (refsT n T) ∧ wr.ownsRow w5.heap.size 3 1 (.slice a6 F c6) F ys ∧ Below w.heap.size w wr) (fun i _ _ => L - (intOf i).toNat)
  case atStart => exact ⟨0, _, _, Nat.zero_le _, rfl, R5, fun _ _ => rfl, R7, R6, B8⟩
  case round =>
    clear R5 R6 R7 B8
    obtain ⟨j, xs, ys, hj, rfl, R5, HX, R7, R6, B8⟩ := hrel
    obtain ⟨wo, rfl⟩ : ∃ wo : World, wo = wr := ⟨_, rfl⟩
    by_cases hlt : j < L
    · have hltI : (j : Int) < L := by omega
      have hj0 : (0 : Int) ≤ (j : Int) := by omega
      have hpos : 0 < L := by omega
      obtain ⟨g, e5, hg, hglt, hfz, hcell⟩ := owns_parts R5 hpos
      subst e5
      have hg5 : g < w5.heap.size := HG5.out g rfl
      have hxl := R5.1
      rcases R7 with ⟨a', c', e, hnil⟩ | ⟨b7, c7', e, hb7, hb7lt, hc7⟩
      · injection e with _ e _; omega
      · injection e with e1 e2 e3
        subst e1
        have R7' : ReadsRefs w6.heap.size wo (.slice (some ⟨b7, 0, none⟩) L c7) (refsT n T) := .inr ⟨b7, c7, by rw [HL.out], hb7, hb7lt, hc7⟩
        obtain ⟨x0', x1'⟩ := HRC.out j hlt
        have k0 := hcell (j * 2) _ ((HX.out _ (by omega)).trans x0')
        have k1 := hcell (j * 2 + 1) _ ((HX.out _ (by omega)).trans x1')
        obtain ⟨d0, d1⟩ := hc7 j (by rw [← HL.out]; exact hlt)
        have f0 := hfz (j * 2)
        have f1 := hfz (j * 2 + 1)
        generalize (refsT n T)[j]?.getD (0, 0) = r at *
        obtain ⟨r1, r2⟩ := r
        dsimp only at k0 k1 d0 d1
        have hz := HZ.out
        have S5 := Lib.hid (owns_setN (owns_setN R5 (j * 2) (.int .i64 0)) (j * 2 + 1) (.int .i64 0))
        have m := Mod.setCell (S := fun k => k = g) (p := ⟨g, j * 2 + 1, none⟩) (Mod.setCell (S := fun k => k = g) (p := ⟨g, j * 2, none⟩) (Mod.refl _ wo) (.inr rfl) (.int .i64 0)) (.inr rfl) (.int .i64 0)
        have S7 := Lib.hid (R7'.mod m (fun h hh e => by omega))
        have S6 := Lib.hid (ownsRow_mod R6 m (fun h e => by have := (R6.lt h e).1; omega))
        have SB := Lib.hid (B8.trans (m.below B8.size (fun k hk e => by omega)))
        have HM := Lib.hid m
        have hX : ∀ i, (j + 1) * 2 ≤ i → ((xs.set (j * 2) (.int .i64 0)).set (j * 2 + 1) (.int .i64 0))[i]? = (refCells (refsT n T))[i]? := fun i hi => by
          rw [List.getElem?_set, List.getElem?_set, if_neg (by omega), if_neg (by omega)]
          exact HX.out i (by omega)
        have HX' := Lib.hid hX
        have hk1 : (r1 == r1) = true := by simp
        have hk2 : (r2 == r2) = true := by simp
        clear R5 R6 R7' B8 hc7 hcell hfz HX hX m hz hb7 hb7lt e2 e3 hg hglt hg5 hxl
        go_wp2_with fail
        go_quiet (fail)
        have k0' : (wo.drewN nq).cell? ⟨g, j * 2, none⟩ = some (.int .i64 r1) := k0
        have k1' : (wo.drewN nq).cell? ⟨g, j * 2 + 1, none⟩ = some (.int .i64 r2) := k1
        have f0' : (wo.drewN nq).frozen? ⟨g, j * 2, none⟩ = false := f0
        have f1' : (wo.drewN nq).frozen? ⟨g, j * 2 + 1, none⟩ = false := f1
        have U5 : Hid ((((wo.drewN nq).setCell ⟨g, j * 2, none⟩ (.int .i64 0)).setCell ⟨g, j * 2 + 1, none⟩ (.int .i64 0)).ownsRow w4.heap.size 26 2 (.slice (some ⟨g, 0, none⟩) L c5) L ((xs.set (j * 2) (.int .i64 0)).set (j * 2 + 1) (.int .i64 0))) := Lib.hid S5.out
        have md : Mod (fun _ => False) ((wo.setCell ⟨g, j * 2, none⟩ (.int .i64 0)).setCell ⟨g, j * 2 + 1, none⟩ (.int .i64 0)) (((wo.drewN nq).setCell ⟨g, j * 2, none⟩ (.int .i64 0)).setCell ⟨g, j * 2 + 1, none⟩ (.int .i64 0)) := ⟨rfl, rfl, rfl, Nat.le_refl _, fun _ _ _ => rfl⟩
        have U7 := Lib.hid (S7.out.mod md (by simp))
        have U6 := Lib.hid (ownsRow_mod S6.out md (by simp))
        have UB := Lib.hid (SB.out.trans (md.below SB.out.size (by simp)))
        clear md S5 S6 S7 SB k0 k1 f0 f1 d0 d1
        generalize wo.drewN nq = wq at *
        go_wp2_with fail
        go_roundw
        case rel => exact ⟨j + 1, _, _, by omega, by go_num, U5.out, HX'.out, U7.out, U6.out, UB.out⟩
        case measure => simp [intOf]; omega
    · obtain rfl : L = j := by omega
      clear hlt hj R5 HX R7
      go_wp2_with fail
      go_loopw [106, 19] (fun i _ wr => ∃ (j2 : Nat) (ys : List Value), j2 ≤ F ∧ i = .int .i64 j2 ∧ wr.ownsRow w5.heap.size 3 1 (.slice a6 F c6) F ys ∧ Below w.heap.size w wr) (fun i _ _ => F - (intOf i).toNat)
      case atStart => exact ⟨0, _, Nat.zero_le _, rfl, R6, B8⟩
      case round =>
        clear R6 B8 ys
        obtain ⟨j2, ys, hj2, rfl, R6, B8⟩ := hrel
        obtain ⟨wo, rfl⟩ : ∃ wo : World, wo = wr := ⟨_, rfl⟩
        by_cases hlt : j2 < F
        · have hltI : (j2 : Int) < F := by omega
          have hj0 : (0 : Int) ≤ (j2 : Int) := by omega
          obtain ⟨g, e6, hg, hglt, hfz, hcell⟩ := owns_parts R6 (by omega)
          subst e6
          have hyl := R6.1
          have k0 := hcell j2 (ys[j2]'(by omega)) (List.getElem?_eq_getElem _)
          have f0 := hfz j2
          generalize ys[j2]'(by omega) = y0 at *
          have hz := HZ.out
          have S6 := Lib.hid (owns_setN R6 j2 (.int .i64 (-9)))
          have m := Mod.setCell (S := fun k => k = g) (p := ⟨g, j2, none⟩) (Mod.refl _ wo) (.inr rfl) (.int .i64 (-9))
          have SB := Lib.hid (B8.trans (m.below B8.size (fun k hk e => by omega)))
          clear R6 B8 hcell hfz m hz hg hglt hyl
          go_wp2_with fail
          go_roundw
          case rel => exact ⟨j2 + 1, _, by omega, by go_num, S6.out, SB.out⟩
          case measure => simp [intOf]; omega
        · obtain rfl : F = j2 := by omega
          clear hlt hj2
          go_wp2_with fail
          go_ret
          exact ⟨rfl, B8⟩
end Slot
end Go.Proofs.Ytpcbmckknafdgaa
