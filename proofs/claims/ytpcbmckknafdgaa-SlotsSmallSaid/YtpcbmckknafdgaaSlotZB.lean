/- One act, done with both: a reference is given back. -/
import Derived.Test.YtpcbmckknafdgaaSlotZA
import Derived.Deep.RegionHeld3
namespace Go.Proofs.Ytpcbmckknafdgaa
open Go.RowKit Go.Shelf
set_option linter.unusedVariables false
set_option linter.unusedSimpArgs false
set_option maxRecDepth 100000
namespace Slot

set_option maxHeartbeats 16000000 in
theorem Do_give (base : Nat → Prop) (p q n : Nat) (T : Tab) (vl vf vt : Value) (kd at_ ra rb : Int) (hk0 : 0 ≤ kd) (hk1 : kd ≤ 255) (hat0 : -9223372036854775808 ≤ at_) (hat1 : at_ ≤ 9223372036854775807) (hkd : kd % 5 = 2 ∨ kd % 5 = 3) (w : World) (h : TableAt w p q n T) (hs : StateS base w vl vf vt n T) (hbase : ∀ g, w.heap.size ≤ g → base g) (hpq : ∀ g, base g → g ≠ p ∧ g ≠ q) :
    Calls Try.prog 31 #[.pointer (some ⟨p, 0, none⟩), .agg #[vl, .int .i64 T.most, vf, vt], .agg #[.int .u8 kd, .int .i64 at_, .int .i64 ra, .int .i64 rb]] w fun e w' =>
      ∃ vl' vf' vt' T', e = .returned (.tuple #[.agg #[vl', .int .i64 T.most, vf', vt'], .bool true]) ∧ T'.most = T.most ∧ TableAt w' p q n T' ∧ StateS base w' vl' vf' vt' n T' ∧ Mod (fun k => k = p ∨ k = q) w w' := by
  have hv := h.2.1
  have hB : Below w.heap.size w ((((w.alloc (.cells #[vl, .int .i64 T.most, vf, vt] 67)).alloc (.cells #[.int .u8 kd, .int .i64 at_, .int .i64 ra, .int .i64 rb] 28)).alloc (.cells #[.slice none 0 0, .int .i64 0, .slice none 0 0, .slice none 0 0] 67)).alloc (.cells #[.int .i64 ra, .int .i64 rb] 26)) := ((((Below.refl _ w).alloc (Nat.le_refl _) _).alloc (by simp) _).alloc (by simp; omega) _).alloc (by simp; omega) _
  have hS : BoxS ((((w.alloc (.cells #[vl, .int .i64 T.most, vf, vt] 67)).alloc (.cells #[.int .u8 kd, .int .i64 at_, .int .i64 ra, .int .i64 rb] 28)).alloc (.cells #[.slice none 0 0, .int .i64 0, .slice none 0 0, .slice none 0 0] 67)).alloc (.cells #[.int .i64 ra, .int .i64 rb] 26)) w.heap.size vl T.most vf vt := ((Below.trans (Below.trans ((Below.refl _ (w.alloc (.cells #[vl, .int .i64 T.most, vf, vt] 67))).alloc (Nat.le_refl _) _) (((Below.refl _ _).alloc (Nat.le_refl _) _).mono (by simp))) (((Below.refl _ _).alloc (Nat.le_refl _) _).mono (by simp))).block _ (by simp)).trans (World.alloc_heap_new w _)
  have hR : BoxS ((((w.alloc (.cells #[vl, .int .i64 T.most, vf, vt] 67)).alloc (.cells #[.int .u8 kd, .int .i64 at_, .int .i64 ra, .int .i64 rb] 28)).alloc (.cells #[.slice none 0 0, .int .i64 0, .slice none 0 0, .slice none 0 0] 67)).alloc (.cells #[.int .i64 ra, .int .i64 rb] 26)) (w.heap.size + 1 + 1) (.slice none 0 0) 0 (.slice none 0 0) (.slice none 0 0) := (Below.heap_alloc _ _ _ (by simp)).trans (by have := World.alloc_heap_new ((w.alloc (.cells #[vl, .int .i64 T.most, vf, vt] 67)).alloc (.cells #[.int .u8 kd, .int .i64 at_, .int .i64 ra, .int .i64 rb] 28)) (.cells #[.slice none 0 0, .int .i64 0, .slice none 0 0, .slice none 0 0] 67); simpa using this)
  have hA : ((((w.alloc (.cells #[vl, .int .i64 T.most, vf, vt] 67)).alloc (.cells #[.int .u8 kd, .int .i64 at_, .int .i64 ra, .int .i64 rb] 28)).alloc (.cells #[.slice none 0 0, .int .i64 0, .slice none 0 0, .slice none 0 0] 67)).alloc (.cells #[.int .i64 ra, .int .i64 rb] 26)).heap[w.heap.size + 1]? = some (.cells #[.int .u8 kd, .int .i64 at_, .int .i64 ra, .int .i64 rb] 28 (0, 0)) := ((Below.trans ((Below.refl _ ((w.alloc (.cells #[vl, .int .i64 T.most, vf, vt] 67)).alloc (.cells #[.int .u8 kd, .int .i64 at_, .int .i64 ra, .int .i64 rb] 28))).alloc (Nat.le_refl _) _) (((Below.refl _ _).alloc (Nat.le_refl _) _).mono (by simp))).block _ (by simp)).trans (by have := World.alloc_heap_new (w.alloc (.cells #[vl, .int .i64 T.most, vf, vt] 67)) (.cells #[.int .u8 kd, .int .i64 at_, .int .i64 ra, .int .i64 rb] 28); simpa using this)
  have hF : RefAt ((((w.alloc (.cells #[vl, .int .i64 T.most, vf, vt] 67)).alloc (.cells #[.int .u8 kd, .int .i64 at_, .int .i64 ra, .int .i64 rb] 28)).alloc (.cells #[.slice none 0 0, .int .i64 0, .slice none 0 0, .slice none 0 0] 67)).alloc (.cells #[.int .i64 ra, .int .i64 rb] 26)) (w.heap.size + 1 + 1 + 1) (ra, rb) := by have := World.alloc_heap_new (((w.alloc (.cells #[vl, .int .i64 T.most, vf, vt] 67)).alloc (.cells #[.int .u8 kd, .int .i64 at_, .int .i64 ra, .int .i64 rb] 28)).alloc (.cells #[.slice none 0 0, .int .i64 0, .slice none 0 0, .slice none 0 0] 67)) (.cells #[.int .i64 ra, .int .i64 rb] 26); simpa [RefAt] using this
  have hsz0 : ((((w.alloc (.cells #[vl, .int .i64 T.most, vf, vt] 67)).alloc (.cells #[.int .u8 kd, .int .i64 at_, .int .i64 ra, .int .i64 rb] 28)).alloc (.cells #[.slice none 0 0, .int .i64 0, .slice none 0 0, .slice none 0 0] 67)).alloc (.cells #[.int .i64 ra, .int .i64 rb] 26)).heap.size = w.heap.size + 1 + 1 + 1 + 1 := by simp
  have h0 := h.below hB
  have hs0 := (hs.imp (base' := (fun g => (base g ∧ g ≠ w.heap.size + 1 + 1 + 1) ∧ g ≠ w.heap.size + 1 + 1)) (fun g hg hl => ⟨⟨hg, by omega⟩, by omega⟩)).below hB
  have hlt := h.lt
  obtain ⟨al, cl, e⟩ := hs.s.lives.form
  obtain ⟨af, cf, e'⟩ := hs.s.free.form
  obtain ⟨at2, ct, e''⟩ := hs.s.taken.form
  subst e e' e''
  generalize T.free.length = F at *
  clear h hs
  obtain ⟨L, hL⟩ : ∃ L, L = (refsT n T).length := ⟨_, rfl⟩
  have HL := Lib.hid hL
  have hrl := refs_le n T
  rw [← hL] at hrl
  clear hL
  rcases hkd with hkd | hkd
  · go_enter Try.func31, Try.ntmps31
    go_wp2_with fail
    generalize ((((w.alloc (.cells #[.slice al n cl, .int .i64 T.most, .slice af F cf, .slice at2 n ct] 67)).alloc (.cells #[.int .u8 kd, .int .i64 at_, .int .i64 ra, .int .i64 rb] 28)).alloc (.cells #[.slice none 0 0, .int .i64 0, .slice none 0 0, .slice none 0 0] 67)).alloc (.cells #[.int .i64 ra, .int .i64 rb] 26)) = x0 at *
    refine (RefsR_any (fun g => (base g ∧ g ≠ w.heap.size + 1 + 1 + 1) ∧ g ≠ w.heap.size + 1 + 1) n T _ _ _ _ hs0.s hv).mono ?_; rintro e w1 ⟨v1, rfl, hr1, hb1⟩
    rw [← HL.out] at hr1
    obtain ⟨a1, c1, rfl⟩ := ownsRow_val hr1
    have h1 := h0.below hb1
    have hs1 := hs0.below hb1
    have hS1 : BoxS w1 w.heap.size (.slice al n cl) T.most (.slice af F cf) (.slice at2 n ct) := (hb1.block _ hS.lt).trans hS
    have hR1 : BoxS w1 (w.heap.size + 1 + 1) (.slice none 0 0) 0 (.slice none 0 0) (.slice none 0 0) := (hb1.block _ hR.lt).trans hR
    have hF1 : RefAt w1 (w.heap.size + 1 + 1 + 1) (ra, rb) := (hb1.block _ (by omega)).trans hF
    have hA1 : w1.heap[w.heap.size + 1]? = some (.cells #[.int .u8 kd, .int .i64 at_, .int .i64 ra, .int .i64 rb] 28 (0, 0)) := (hb1.block _ (by omega)).trans hA
    have hB1 := hB.trans (hb1.mono hB.size)
    have hz1 := hb1.size
    have z0 : w1.cell? ⟨w.heap.size + 1, 0, none⟩ = some (.int .u8 kd) := by simp only [World.cell?, hA1]; rfl
    have z1 : w1.cell? ⟨w.heap.size + 1, 1, none⟩ = some (.int .i64 at_) := by simp only [World.cell?, hA1]; rfl
    have q0 := hS1.c0
    have q1 := hS1.c1
    have q2 := hS1.c2
    have q3 := hS1.c3
    have d0 := hF1.c0
    have d1 := hF1.c1
    have hd3 : (kd % 5 == 2) = true := by simp; omega
    by_cases hL0 : L = 0
    · subst hL0
      have hdd : decide ((0 : Int) > 0) = false := by decide
      clear h0 hs0 hS hR hF hA hB hb1 hr1 hA1
      go_wp2_with fail
      obtain ⟨lv, hlvv⟩ : ∃ lv, liveT n T (ra, rb) = lv := ⟨_, rfl⟩
      have HLV := Lib.hid hlvv
      have HT1 := Lib.hid h1
      have HS1 := Lib.hid hs1
      have HBS1 := Lib.hid hS1
      have HR1 := Lib.hid hR1
      have HF1 := Lib.hid hF1
      have HB1 := Lib.hid hB1
      clear hlvv h1 hs1 hS1 hR1 hF1 hB1 z0 z1
      go_region_held3 (fun w' => w'.cell? ⟨w.heap.size, 0, none⟩ = some (.slice al n cl) ∧ w'.cell? ⟨w.heap.size, 1, none⟩ = some (.int .i64 T.most) ∧ w'.cell? ⟨w.heap.size, 2, none⟩ = some (.slice af F cf) ∧ w'.cell? ⟨w.heap.size, 3, none⟩ = some (.slice at2 n ct) ∧ w'.cell? ⟨w.heap.size + 1 + 1 + 1, 0, none⟩ = some (.int .i64 ra) ∧ w'.cell? ⟨w.heap.size + 1 + 1 + 1, 1, none⟩ = some (.int .i64 rb))
        (first | go_keep | exact ⟨HBS3.out.c0, HBS3.out.c1, HBS3.out.c2, HBS3.out.c3, HF3.out.c0, HF3.out.c1⟩ | exact ⟨HBS2.out.c0, HBS2.out.c1, HBS2.out.c2, HBS2.out.c3, HF2.out.c0, HF2.out.c1⟩)
        ((first
          | (go_at_call 19; refine (Live_any p q n T ra rb _ (by exact HT1.out)).mono ?_; rintro e w2 ⟨rfl, hb2⟩; rw [HLV.out]; have hb2' : Below w1.heap.size w1 w2 := below_of_drew hb2; have HT2 := Lib.hid (HT1.out.below hb2'); have HS2 := Lib.hid (HS1.out.below hb2'); have HBS2 : Hid (BoxS w2 w.heap.size (.slice al n cl) T.most (.slice af F cf) (.slice at2 n ct)) := Lib.hid ((hb2'.block _ HBS1.out.lt).trans HBS1.out); have HR2 : Hid (BoxS w2 (w.heap.size + 1 + 1) (.slice none 0 0) 0 (.slice none 0 0) (.slice none 0 0)) := Lib.hid ((hb2'.block _ HR1.out.lt).trans HR1.out); have HF2 : Hid (RefAt w2 (w.heap.size + 1 + 1 + 1) (ra, rb)) := Lib.hid ((hb2'.block _ (Array.getElem?_eq_some_iff.1 HF1.out).1).trans HF1.out); have HB2 := Lib.hid (HB1.out.trans (hb2'.mono HB1.out.size)); clear hb2 hb2')
          | (go_at_call 41; refine (LiveR_any (fun g => (base g ∧ g ≠ w.heap.size + 1 + 1 + 1) ∧ g ≠ w.heap.size + 1 + 1) n T _ _ _ ra rb _ HS2.out.s hv).mono ?_; rintro e w3 ⟨rfl, hb3⟩; rw [HLV.out]; have HT3 := Lib.hid (HT2.out.below hb3); have HS3 := Lib.hid (HS2.out.below hb3); have HBS3 : Hid (BoxS w3 w.heap.size (.slice al n cl) T.most (.slice af F cf) (.slice at2 n ct)) := Lib.hid ((hb3.block _ HBS2.out.lt).trans HBS2.out); have HR3 : Hid (BoxS w3 (w.heap.size + 1 + 1) (.slice none 0 0) 0 (.slice none 0 0) (.slice none 0 0)) := Lib.hid ((hb3.block _ HR2.out.lt).trans HR2.out); have HF3 : Hid (RefAt w3 (w.heap.size + 1 + 1 + 1) (ra, rb)) := Lib.hid ((hb3.block _ (Array.getElem?_eq_some_iff.1 HF2.out).1).trans HF2.out); have HB3 := Lib.hid (HB2.out.trans (hb3.mono HB2.out.size)); clear hb3)))
      have y0 := HBS3.out.c0
      have y1 := HBS3.out.c1
      have y2 := HBS3.out.c2
      have y3 := HBS3.out.c3
      have y4 := HF3.out.c0
      have y5 := HF3.out.c1
      clear q0 q1 q2 q3 d0 d1
      obtain ⟨T2, hT2⟩ : ∃ T2, T2 = (giveT n T (ra, rb)).1 := ⟨_, rfl⟩
      obtain ⟨er, her⟩ : ∃ er, er = (giveT n T (ra, rb)).2 := ⟨_, rfl⟩
      have hmo2 : T2.most = T.most := by rw [hT2]; exact give_most _ _ _
      have hdead : liveT n T2 (ra, rb) = false := by rw [hT2]; exact give_dead hv _
      have HT2' := Lib.hid hT2
      have HER := Lib.hid her
      have HDEAD := Lib.hid hdead
      have HMO := Lib.hid hmo2
      clear hT2 her hdead hmo2
      go_wp2_with fail
      refine (GiveR_any (fun g => (base g ∧ g ≠ w.heap.size + 1 + 1 + 1) ∧ g ≠ w.heap.size + 1 + 1) n T _ _ _ ra rb _ HS3.out hv (fun g hg => ⟨⟨hbase g (Nat.le_trans HB3.out.size hg), by have := (Array.getElem?_eq_some_iff.1 HF3.out).1; omega⟩, by have := HR3.out.lt; omega⟩)).mono ?_
      rintro e w4 ⟨ul, uf, ut, rfl, hs4, hb4⟩
      rw [← HT2'.out] at hs4
      rw [← HER.out]
      obtain ⟨al2, cl2, e⟩ := hs4.s.lives.form
      obtain ⟨af2, cf2, e'⟩ := hs4.s.free.form
      obtain ⟨at3, ct2, e''⟩ := hs4.s.taken.form
      subst e e' e''
      generalize T2.free.length = F2 at *
      have bl : Below w4.heap.size w4 (w4.alloc (.cells #[.slice al2 n cl2, .int .i64 T.most, .slice af2 F2 cf2, .slice at3 n ct2] 67)) := (Below.refl _ w4).alloc (Nat.le_refl _) _
      have hb34 : Below w3.heap.size w3 (w4.alloc (.cells #[.slice al2 n cl2, .int .i64 T.most, .slice af2 F2 cf2, .slice at3 n ct2] 67)) := hb4.trans (bl.mono hb4.size)
      have HN := Lib.hid (show BoxS (w4.alloc (.cells #[.slice al2 n cl2, .int .i64 T.most, .slice af2 F2 cf2, .slice at3 n ct2] 67)) w4.heap.size (.slice al2 n cl2) T.most (.slice af2 F2 cf2) (.slice at3 n ct2) from World.alloc_heap_new w4 _)
      have HT4 := Lib.hid (HT3.out.below hb34)
      have HS4 := Lib.hid (hs4.below bl)
      have HR4 : Hid (BoxS (w4.alloc (.cells #[.slice al2 n cl2, .int .i64 T.most, .slice af2 F2 cf2, .slice at3 n ct2] 67)) (w.heap.size + 1 + 1) (.slice none 0 0) 0 (.slice none 0 0) (.slice none 0 0)) := Lib.hid ((hb34.block _ HR3.out.lt).trans HR3.out)
      have HF4 : Hid (RefAt (w4.alloc (.cells #[.slice al2 n cl2, .int .i64 T.most, .slice af2 F2 cf2, .slice at3 n ct2] 67)) (w.heap.size + 1 + 1 + 1) (ra, rb)) := Lib.hid ((hb34.block _ (Array.getElem?_eq_some_iff.1 HF3.out).1).trans HF3.out)
      have HB4 := Lib.hid (HB3.out.trans (hb34.mono HB3.out.size))
      have hlt4 : w.heap.size + 1 + 1 < w4.heap.size := Nat.lt_of_lt_of_le HR3.out.lt hb4.size
      have hltt := HT3.out.lt
      have hsz4 := hb4.size
      clear bl hb34 hs4 hb4 y0 y1 y2 y3 y4 y5
      have y4 := HF4.out.c0
      have y5 := HF4.out.c1
      go_wp2_with fail
      generalize (w4.alloc (.cells #[.slice al2 n cl2, .int .i64 T.most, .slice af2 F2 cf2, .slice at3 n ct2] 67)) = w5 at *
      generalize w4.heap.size = BN at *
      refine (Give_any p q n T ra rb _ HT4.out).mono ?_; rintro e w6 ⟨rfl, h6, hM6⟩
      rw [← HT2'.out] at h6
      rw [← HER.out]
      have HT6 := Lib.hid h6
      have HN6 := Lib.hid (HN.out.mod hM6 (by omega))
      have HR6 := Lib.hid (HR4.out.mod hM6 (by omega))
      have HF6 : Hid (RefAt w6 (w.heap.size + 1 + 1 + 1) (ra, rb)) := Lib.hid (hM6.heap HF4.out (by omega))
      have HS6 := Lib.hid (HS4.out.mod hM6 (fun g hg e => by have := hpq g hg.1.1; omega))
      have HMW := Lib.hid ((Mod.of_same (S := fun k => k = p ∨ k = q) HB4.out).trans hM6)
      clear h6 hM6 y4 y5
      have q0 := HN6.out.c0
      have q1 := HN6.out.c1
      have q2 := HN6.out.c2
      have q3 := HN6.out.c3
      have y4 := HF6.out.c0
      have y5 := HF6.out.c1
      have k3 : (er == er) = true := by simp
      go_wp2_with fail
      have hpq6 := HT6.out.lt
      have hnr : ¬ BN = w.heap.size + 1 + 1 := by omega
      go_region_held3 (fun w' => w'.cell? ⟨BN, 0, none⟩ = some (.slice al2 n cl2) ∧ w'.cell? ⟨BN, 1, none⟩ = some (.int .i64 T.most) ∧ w'.cell? ⟨BN, 2, none⟩ = some (.slice af2 F2 cf2) ∧ w'.cell? ⟨BN, 3, none⟩ = some (.slice at3 n ct2) ∧ w'.cell? ⟨w.heap.size + 1 + 1 + 1, 0, none⟩ = some (.int .i64 ra) ∧ w'.cell? ⟨w.heap.size + 1 + 1 + 1, 1, none⟩ = some (.int .i64 rb))
        (first | (with_reducible exact HK8.out) | (with_reducible exact HK7.out) | go_keep)
        ((first
          | (go_at_call 19; refine (Live_any p q n T2 ra rb _ (by exact HT6.out)).mono ?_; rintro e w7 ⟨rfl, hb7⟩; rw [HDEAD.out]; have hb7' : Below w6.heap.size w6 w7 := below_of_drew hb7; have HT7 := Lib.hid (HT6.out.below hb7'); have HS7 := Lib.hid (HS6.out.below hb7'); have HN7 : Hid (BoxS w7 BN (.slice al2 n cl2) T.most (.slice af2 F2 cf2) (.slice at3 n ct2)) := Lib.hid ((hb7'.block _ HN6.out.lt).trans HN6.out); have hR7 : BoxS w7 (w.heap.size + 1 + 1) (.slice none 0 0) 0 (.slice none 0 0) (.slice none 0 0) := (hb7'.block _ HR6.out.lt).trans HR6.out; have HF7 : Hid (RefAt w7 (w.heap.size + 1 + 1 + 1) (ra, rb)) := Lib.hid ((hb7'.block _ (Array.getElem?_eq_some_iff.1 HF6.out).1).trans HF6.out); have HK7 := Lib.hid (show w7.cell? ⟨BN, 0, none⟩ = some (.slice al2 n cl2) ∧ w7.cell? ⟨BN, 1, none⟩ = some (.int .i64 T.most) ∧ w7.cell? ⟨BN, 2, none⟩ = some (.slice af2 F2 cf2) ∧ w7.cell? ⟨BN, 3, none⟩ = some (.slice at3 n ct2) ∧ w7.cell? ⟨w.heap.size + 1 + 1 + 1, 0, none⟩ = some (.int .i64 ra) ∧ w7.cell? ⟨w.heap.size + 1 + 1 + 1, 1, none⟩ = some (.int .i64 rb) from ⟨HN7.out.c0, HN7.out.c1, HN7.out.c2, HN7.out.c3, HF7.out.c0, HF7.out.c1⟩); have HM7 := Lib.hid (HMW.out.trans (Mod.of_same (S := fun k => k = p ∨ k = q) hb7')); have f0 := BoxS.frozen hR7 0; have f1 := BoxS.frozen hR7 1; have f2 := BoxS.frozen hR7 2; have f3 := BoxS.frozen hR7 3; have c0 := BoxS.c0 hR7; have c1 := BoxS.c1 hR7; have c2 := BoxS.c2 hR7; have c3 := BoxS.c3 hR7; have hm := mod4 w7 (w.heap.size + 1 + 1) (.slice al2 n cl2) (.int .i64 T.most) (.slice af2 F2 cf2) (.slice at3 n ct2); have HX := Lib.hid (BoxS.set4 hR7 (al := .slice al2 n cl2) (j := T.most) (af := .slice af2 F2 cf2) (at_ := .slice at3 n ct2)); have HN8 := HN7.out.mod hm hnr; have HF8 : RefAt ((((w7.setCell ⟨w.heap.size + 1 + 1, 0, none⟩ (.slice al2 n cl2)).setCell ⟨w.heap.size + 1 + 1, 1, none⟩ (.int .i64 T.most)).setCell ⟨w.heap.size + 1 + 1, 2, none⟩ (.slice af2 F2 cf2)).setCell ⟨w.heap.size + 1 + 1, 3, none⟩ (.slice at3 n ct2)) (w.heap.size + 1 + 1 + 1) (ra, rb) := hm.heap HF7.out (by omega); have HK8 := Lib.hid (show (((((w7.setCell ⟨w.heap.size + 1 + 1, 0, none⟩ (.slice al2 n cl2)).setCell ⟨w.heap.size + 1 + 1, 1, none⟩ (.int .i64 T.most)).setCell ⟨w.heap.size + 1 + 1, 2, none⟩ (.slice af2 F2 cf2)).setCell ⟨w.heap.size + 1 + 1, 3, none⟩ (.slice at3 n ct2))).cell? ⟨BN, 0, none⟩ = some (.slice al2 n cl2) ∧ (((((w7.setCell ⟨w.heap.size + 1 + 1, 0, none⟩ (.slice al2 n cl2)).setCell ⟨w.heap.size + 1 + 1, 1, none⟩ (.int .i64 T.most)).setCell ⟨w.heap.size + 1 + 1, 2, none⟩ (.slice af2 F2 cf2)).setCell ⟨w.heap.size + 1 + 1, 3, none⟩ (.slice at3 n ct2))).cell? ⟨BN, 1, none⟩ = some (.int .i64 T.most) ∧ (((((w7.setCell ⟨w.heap.size + 1 + 1, 0, none⟩ (.slice al2 n cl2)).setCell ⟨w.heap.size + 1 + 1, 1, none⟩ (.int .i64 T.most)).setCell ⟨w.heap.size + 1 + 1, 2, none⟩ (.slice af2 F2 cf2)).setCell ⟨w.heap.size + 1 + 1, 3, none⟩ (.slice at3 n ct2))).cell? ⟨BN, 2, none⟩ = some (.slice af2 F2 cf2) ∧ (((((w7.setCell ⟨w.heap.size + 1 + 1, 0, none⟩ (.slice al2 n cl2)).setCell ⟨w.heap.size + 1 + 1, 1, none⟩ (.int .i64 T.most)).setCell ⟨w.heap.size + 1 + 1, 2, none⟩ (.slice af2 F2 cf2)).setCell ⟨w.heap.size + 1 + 1, 3, none⟩ (.slice at3 n ct2))).cell? ⟨BN, 3, none⟩ = some (.slice at3 n ct2) ∧ (((((w7.setCell ⟨w.heap.size + 1 + 1, 0, none⟩ (.slice al2 n cl2)).setCell ⟨w.heap.size + 1 + 1, 1, none⟩ (.int .i64 T.most)).setCell ⟨w.heap.size + 1 + 1, 2, none⟩ (.slice af2 F2 cf2)).setCell ⟨w.heap.size + 1 + 1, 3, none⟩ (.slice at3 n ct2))).cell? ⟨w.heap.size + 1 + 1 + 1, 0, none⟩ = some (.int .i64 ra) ∧ (((((w7.setCell ⟨w.heap.size + 1 + 1, 0, none⟩ (.slice al2 n cl2)).setCell ⟨w.heap.size + 1 + 1, 1, none⟩ (.int .i64 T.most)).setCell ⟨w.heap.size + 1 + 1, 2, none⟩ (.slice af2 F2 cf2)).setCell ⟨w.heap.size + 1 + 1, 3, none⟩ (.slice at3 n ct2))).cell? ⟨w.heap.size + 1 + 1 + 1, 1, none⟩ = some (.int .i64 rb) from ⟨HN8.c0, HN8.c1, HN8.c2, HN8.c3, HF8.c0, HF8.c1⟩); have HT8 := Lib.hid (TableAt.mod HT7.out hm (by omega) (by omega)); have HS8 := Lib.hid ((HS7.out.mod hm (fun g hg => hg.2)).imp (base' := base) (fun g hg _ => hg.1.1)); have HM8 := Lib.hid hm; clear hb7 hb7' hR7 hm HN8 HF8)))
      generalize ((((w7.setCell ⟨w.heap.size + 1 + 1, 0, none⟩ (.slice al2 n cl2)).setCell ⟨w.heap.size + 1 + 1, 1, none⟩ (.int .i64 T.most)).setCell ⟨w.heap.size + 1 + 1, 2, none⟩ (.slice af2 F2 cf2)).setCell ⟨w.heap.size + 1 + 1, 3, none⟩ (.slice at3 n ct2)) = Y at *
      clear q0 q1 q2 q3 y4 y5 f0 f1 f2 f3 c0 c1 c2 c3 HK7 HK8
      go_wp2_with fail
      refine bodyPost_ret (v := .tuple #[.agg #[.slice al2 n cl2, .int .i64 T.most, .slice af2 F2 cf2, .slice at3 n ct2], .bool true]) (do_results HX.out rfl rfl) rfl ?_
      exact ⟨_, _, _, T2, rfl, HMO.out, HT8.out, HS8.out, mod_new HM7.out HM8.out (by omega)⟩
    · have hLp : 0 < L := by omega
      have hLpI : (0 : Int) < (L : Int) := by omega
      have hrr := ReadsRefs.of_owns hr1
      clear h0 hs0 hS hR hF hA hB hb1 hr1 hA1
      rcases hrr with ⟨a', c', e, hnil⟩ | ⟨bq, cq, e, hbq, hbql, hcq⟩
      · injection e with _ e _; omega
      · injection e with e1 e2 e3
        subst e1
        clear e2 e3
        obtain ⟨d, hdt⟩ : ∃ d, at_.tmod (L : Int) = d := ⟨_, rfl⟩
        have hdl : -(L : Int) < d := by rw [← hdt]; exact Int.lt_tmod_of_pos _ hLpI
        have hdh : d < (L : Int) := by rw [← hdt]; exact Int.tmod_lt_of_pos _ hLpI
        obtain ⟨i, hti, hiL⟩ : ∃ i : Nat, (d + (L : Int)).tmod (L : Int) = (i : Int) ∧ i < L := by
          have h1 : (d + (L : Int)).tmod (L : Int) = (d + (L : Int)) % (L : Int) := Int.tmod_eq_emod_of_nonneg (by omega)
          have h2 := Int.emod_nonneg (d + (L : Int)) (show (L : Int) ≠ 0 by omega)
          have h3 := Int.emod_lt_of_pos (d + (L : Int)) hLpI
          exact ⟨((d + (L : Int)) % (L : Int)).toNat, by rw [h1]; omega, by omega⟩
        have hnn := hv.n
        have hLb : (L : Int) ≤ 1024 := by omega
        have hdb0 : 0 < d + (L : Int) := by omega
        have hdb1 : d + (L : Int) < 2048 := by omega
        have hiI : (i : Int) < (L : Int) := by omega
        have hi0 : (0 : Int) ≤ (i : Int) := by omega
        obtain ⟨u0, u1⟩ := hcq i (by rw [← HL.out]; exact hiL)
        clear hcq
        generalize (refsT n T)[i]?.getD (0, 0) = r at *
        obtain ⟨r1, r2⟩ := r
        dsimp only at u0 u1
        have hne0 : ((L : Int) == 0) = false := by simp; omega
        have hne1 : ¬ (L : Int) = 0 := by omega
        have g0 : w1.frozen? ⟨w.heap.size + 1 + 1 + 1, 0, none⟩ = false := by simp [World.frozen?, show w1.heap[w.heap.size + 1 + 1 + 1]? = _ from hF1]
        have g1 : w1.frozen? ⟨w.heap.size + 1 + 1 + 1, 1, none⟩ = false := by simp [World.frozen?, show w1.heap[w.heap.size + 1 + 1 + 1]? = _ from hF1]
        have hF2 := RefAt.set hF1 r1 r2
        have m := Mod.setCell (S := fun k => k = w.heap.size + 1 + 1 + 1) (p := ⟨w.heap.size + 1 + 1 + 1, 1, none⟩) (Mod.setCell (S := fun k => k = w.heap.size + 1 + 1 + 1) (p := ⟨w.heap.size + 1 + 1 + 1, 0, none⟩) (Mod.refl _ w1) (.inr rfl) (.int .i64 r1)) (.inr rfl) (.int .i64 r2)
        have G1 := Lib.hid (h1.mod m (by omega) (by omega))
        have GS := Lib.hid (hs1.mod m (fun g hg => hg.1.2))
        have GB := Lib.hid (hS1.mod m (by omega))
        have GR := Lib.hid (hR1.mod m (by omega))
        have GF := Lib.hid hF2
        have GBB := Lib.hid (hB1.trans (m.below hB1.size (fun k hk e => by omega)))
        clear h1 hs1 hS1 hR1 hF1 hB1 hF2 m
        go_wp2_with fail
        generalize (w1.setCell ⟨w.heap.size + 1 + 1 + 1, 0, none⟩ (.int .i64 r1)).setCell ⟨w.heap.size + 1 + 1 + 1, 1, none⟩ (.int .i64 r2) = w1' at *
        clear q0 q1 q2 q3 d0 d1 z0 z1 u0 u1 g0 g1 hz1
        have h1 := G1.out
        have hs1 := GS.out
        have hS1 := GB.out
        have hR1 := GR.out
        have hF1 := GF.out
        have hB1 := GBB.out
        have q0 := hS1.c0
        have q1 := hS1.c1
        have q2 := hS1.c2
        have q3 := hS1.c3
        have d0 := hF1.c0
        have d1 := hF1.c1
        clear G1 GS GB GR GF GBB
        obtain ⟨lv, hlvv⟩ : ∃ lv, liveT n T (r1, r2) = lv := ⟨_, rfl⟩
        have HLV := Lib.hid hlvv
        have HT1 := Lib.hid h1
        have HS1 := Lib.hid hs1
        have HBS1 := Lib.hid hS1
        have HR1 := Lib.hid hR1
        have HF1 := Lib.hid hF1
        have HB1 := Lib.hid hB1
        clear hlvv h1 hs1 hS1 hR1 hF1 hB1
        go_region_held3 (fun w' => w'.cell? ⟨w.heap.size, 0, none⟩ = some (.slice al n cl) ∧ w'.cell? ⟨w.heap.size, 1, none⟩ = some (.int .i64 T.most) ∧ w'.cell? ⟨w.heap.size, 2, none⟩ = some (.slice af F cf) ∧ w'.cell? ⟨w.heap.size, 3, none⟩ = some (.slice at2 n ct) ∧ w'.cell? ⟨w.heap.size + 1 + 1 + 1, 0, none⟩ = some (.int .i64 r1) ∧ w'.cell? ⟨w.heap.size + 1 + 1 + 1, 1, none⟩ = some (.int .i64 r2))
          (first | go_keep | exact ⟨HBS3.out.c0, HBS3.out.c1, HBS3.out.c2, HBS3.out.c3, HF3.out.c0, HF3.out.c1⟩ | exact ⟨HBS2.out.c0, HBS2.out.c1, HBS2.out.c2, HBS2.out.c3, HF2.out.c0, HF2.out.c1⟩)
          ((first
            | (go_at_call 19; refine (Live_any p q n T r1 r2 _ (by exact HT1.out)).mono ?_; rintro e w2 ⟨rfl, hb2⟩; rw [HLV.out]; have hb2' : Below w1'.heap.size w1' w2 := below_of_drew hb2; have HT2 := Lib.hid (HT1.out.below hb2'); have HS2 := Lib.hid (HS1.out.below hb2'); have HBS2 : Hid (BoxS w2 w.heap.size (.slice al n cl) T.most (.slice af F cf) (.slice at2 n ct)) := Lib.hid ((hb2'.block _ HBS1.out.lt).trans HBS1.out); have HR2 : Hid (BoxS w2 (w.heap.size + 1 + 1) (.slice none 0 0) 0 (.slice none 0 0) (.slice none 0 0)) := Lib.hid ((hb2'.block _ HR1.out.lt).trans HR1.out); have HF2 : Hid (RefAt w2 (w.heap.size + 1 + 1 + 1) (r1, r2)) := Lib.hid ((hb2'.block _ (Array.getElem?_eq_some_iff.1 HF1.out).1).trans HF1.out); have HB2 := Lib.hid (HB1.out.trans (hb2'.mono HB1.out.size)); clear hb2 hb2')
            | (go_at_call 41; refine (LiveR_any (fun g => (base g ∧ g ≠ w.heap.size + 1 + 1 + 1) ∧ g ≠ w.heap.size + 1 + 1) n T _ _ _ r1 r2 _ HS2.out.s hv).mono ?_; rintro e w3 ⟨rfl, hb3⟩; rw [HLV.out]; have HT3 := Lib.hid (HT2.out.below hb3); have HS3 := Lib.hid (HS2.out.below hb3); have HBS3 : Hid (BoxS w3 w.heap.size (.slice al n cl) T.most (.slice af F cf) (.slice at2 n ct)) := Lib.hid ((hb3.block _ HBS2.out.lt).trans HBS2.out); have HR3 : Hid (BoxS w3 (w.heap.size + 1 + 1) (.slice none 0 0) 0 (.slice none 0 0) (.slice none 0 0)) := Lib.hid ((hb3.block _ HR2.out.lt).trans HR2.out); have HF3 : Hid (RefAt w3 (w.heap.size + 1 + 1 + 1) (r1, r2)) := Lib.hid ((hb3.block _ (Array.getElem?_eq_some_iff.1 HF2.out).1).trans HF2.out); have HB3 := Lib.hid (HB2.out.trans (hb3.mono HB2.out.size)); clear hb3)))
        have y0 := HBS3.out.c0
        have y1 := HBS3.out.c1
        have y2 := HBS3.out.c2
        have y3 := HBS3.out.c3
        have y4 := HF3.out.c0
        have y5 := HF3.out.c1
        clear q0 q1 q2 q3 d0 d1
        obtain ⟨T2, hT2⟩ : ∃ T2, T2 = (giveT n T (r1, r2)).1 := ⟨_, rfl⟩
        obtain ⟨er, her⟩ : ∃ er, er = (giveT n T (r1, r2)).2 := ⟨_, rfl⟩
        have hmo2 : T2.most = T.most := by rw [hT2]; exact give_most _ _ _
        have hdead : liveT n T2 (r1, r2) = false := by rw [hT2]; exact give_dead hv _
        have HT2' := Lib.hid hT2
        have HER := Lib.hid her
        have HDEAD := Lib.hid hdead
        have HMO := Lib.hid hmo2
        clear hT2 her hdead hmo2
        go_wp2_with fail
        refine (GiveR_any (fun g => (base g ∧ g ≠ w.heap.size + 1 + 1 + 1) ∧ g ≠ w.heap.size + 1 + 1) n T _ _ _ r1 r2 _ HS3.out hv (fun g hg => ⟨⟨hbase g (Nat.le_trans HB3.out.size hg), by have := (Array.getElem?_eq_some_iff.1 HF3.out).1; omega⟩, by have := HR3.out.lt; omega⟩)).mono ?_
        rintro e w4 ⟨ul, uf, ut, rfl, hs4, hb4⟩
        rw [← HT2'.out] at hs4
        rw [← HER.out]
        obtain ⟨al2, cl2, e⟩ := hs4.s.lives.form
        obtain ⟨af2, cf2, e'⟩ := hs4.s.free.form
        obtain ⟨at3, ct2, e''⟩ := hs4.s.taken.form
        subst e e' e''
        generalize T2.free.length = F2 at *
        have bl : Below w4.heap.size w4 (w4.alloc (.cells #[.slice al2 n cl2, .int .i64 T.most, .slice af2 F2 cf2, .slice at3 n ct2] 67)) := (Below.refl _ w4).alloc (Nat.le_refl _) _
        have hb34 : Below w3.heap.size w3 (w4.alloc (.cells #[.slice al2 n cl2, .int .i64 T.most, .slice af2 F2 cf2, .slice at3 n ct2] 67)) := hb4.trans (bl.mono hb4.size)
        have HN := Lib.hid (show BoxS (w4.alloc (.cells #[.slice al2 n cl2, .int .i64 T.most, .slice af2 F2 cf2, .slice at3 n ct2] 67)) w4.heap.size (.slice al2 n cl2) T.most (.slice af2 F2 cf2) (.slice at3 n ct2) from World.alloc_heap_new w4 _)
        have HT4 := Lib.hid (HT3.out.below hb34)
        have HS4 := Lib.hid (hs4.below bl)
        have HR4 : Hid (BoxS (w4.alloc (.cells #[.slice al2 n cl2, .int .i64 T.most, .slice af2 F2 cf2, .slice at3 n ct2] 67)) (w.heap.size + 1 + 1) (.slice none 0 0) 0 (.slice none 0 0) (.slice none 0 0)) := Lib.hid ((hb34.block _ HR3.out.lt).trans HR3.out)
        have HF4 : Hid (RefAt (w4.alloc (.cells #[.slice al2 n cl2, .int .i64 T.most, .slice af2 F2 cf2, .slice at3 n ct2] 67)) (w.heap.size + 1 + 1 + 1) (r1, r2)) := Lib.hid ((hb34.block _ (Array.getElem?_eq_some_iff.1 HF3.out).1).trans HF3.out)
        have HB4 := Lib.hid (HB3.out.trans (hb34.mono HB3.out.size))
        have hlt4 : w.heap.size + 1 + 1 < w4.heap.size := Nat.lt_of_lt_of_le HR3.out.lt hb4.size
        have hltt := HT3.out.lt
        have hsz4 := hb4.size
        clear bl hb34 hs4 hb4 y0 y1 y2 y3 y4 y5
        have y4 := HF4.out.c0
        have y5 := HF4.out.c1
        go_wp2_with fail
        generalize (w4.alloc (.cells #[.slice al2 n cl2, .int .i64 T.most, .slice af2 F2 cf2, .slice at3 n ct2] 67)) = w5 at *
        generalize w4.heap.size = BN at *
        refine (Give_any p q n T r1 r2 _ HT4.out).mono ?_; rintro e w6 ⟨rfl, h6, hM6⟩
        rw [← HT2'.out] at h6
        rw [← HER.out]
        have HT6 := Lib.hid h6
        have HN6 := Lib.hid (HN.out.mod hM6 (by omega))
        have HR6 := Lib.hid (HR4.out.mod hM6 (by omega))
        have HF6 : Hid (RefAt w6 (w.heap.size + 1 + 1 + 1) (r1, r2)) := Lib.hid (hM6.heap HF4.out (by omega))
        have HS6 := Lib.hid (HS4.out.mod hM6 (fun g hg e => by have := hpq g hg.1.1; omega))
        have HMW := Lib.hid ((Mod.of_same (S := fun k => k = p ∨ k = q) HB4.out).trans hM6)
        clear h6 hM6 y4 y5
        have q0 := HN6.out.c0
        have q1 := HN6.out.c1
        have q2 := HN6.out.c2
        have q3 := HN6.out.c3
        have y4 := HF6.out.c0
        have y5 := HF6.out.c1
        have k3 : (er == er) = true := by simp
        go_wp2_with fail
        have hpq6 := HT6.out.lt
        have hnr : ¬ BN = w.heap.size + 1 + 1 := by omega
        go_region_held3 (fun w' => w'.cell? ⟨BN, 0, none⟩ = some (.slice al2 n cl2) ∧ w'.cell? ⟨BN, 1, none⟩ = some (.int .i64 T.most) ∧ w'.cell? ⟨BN, 2, none⟩ = some (.slice af2 F2 cf2) ∧ w'.cell? ⟨BN, 3, none⟩ = some (.slice at3 n ct2) ∧ w'.cell? ⟨w.heap.size + 1 + 1 + 1, 0, none⟩ = some (.int .i64 r1) ∧ w'.cell? ⟨w.heap.size + 1 + 1 + 1, 1, none⟩ = some (.int .i64 r2))
          (first | (with_reducible exact HK8.out) | (with_reducible exact HK7.out) | go_keep)
          ((first
            | (go_at_call 19; refine (Live_any p q n T2 r1 r2 _ (by exact HT6.out)).mono ?_; rintro e w7 ⟨rfl, hb7⟩; rw [HDEAD.out]; have hb7' : Below w6.heap.size w6 w7 := below_of_drew hb7; have HT7 := Lib.hid (HT6.out.below hb7'); have HS7 := Lib.hid (HS6.out.below hb7'); have HN7 : Hid (BoxS w7 BN (.slice al2 n cl2) T.most (.slice af2 F2 cf2) (.slice at3 n ct2)) := Lib.hid ((hb7'.block _ HN6.out.lt).trans HN6.out); have hR7 : BoxS w7 (w.heap.size + 1 + 1) (.slice none 0 0) 0 (.slice none 0 0) (.slice none 0 0) := (hb7'.block _ HR6.out.lt).trans HR6.out; have HF7 : Hid (RefAt w7 (w.heap.size + 1 + 1 + 1) (r1, r2)) := Lib.hid ((hb7'.block _ (Array.getElem?_eq_some_iff.1 HF6.out).1).trans HF6.out); have HK7 := Lib.hid (show w7.cell? ⟨BN, 0, none⟩ = some (.slice al2 n cl2) ∧ w7.cell? ⟨BN, 1, none⟩ = some (.int .i64 T.most) ∧ w7.cell? ⟨BN, 2, none⟩ = some (.slice af2 F2 cf2) ∧ w7.cell? ⟨BN, 3, none⟩ = some (.slice at3 n ct2) ∧ w7.cell? ⟨w.heap.size + 1 + 1 + 1, 0, none⟩ = some (.int .i64 r1) ∧ w7.cell? ⟨w.heap.size + 1 + 1 + 1, 1, none⟩ = some (.int .i64 r2) from ⟨HN7.out.c0, HN7.out.c1, HN7.out.c2, HN7.out.c3, HF7.out.c0, HF7.out.c1⟩); have HM7 := Lib.hid (HMW.out.trans (Mod.of_same (S := fun k => k = p ∨ k = q) hb7')); have f0 := BoxS.frozen hR7 0; have f1 := BoxS.frozen hR7 1; have f2 := BoxS.frozen hR7 2; have f3 := BoxS.frozen hR7 3; have c0 := BoxS.c0 hR7; have c1 := BoxS.c1 hR7; have c2 := BoxS.c2 hR7; have c3 := BoxS.c3 hR7; have hm := mod4 w7 (w.heap.size + 1 + 1) (.slice al2 n cl2) (.int .i64 T.most) (.slice af2 F2 cf2) (.slice at3 n ct2); have HX := Lib.hid (BoxS.set4 hR7 (al := .slice al2 n cl2) (j := T.most) (af := .slice af2 F2 cf2) (at_ := .slice at3 n ct2)); have HN8 := HN7.out.mod hm hnr; have HF8 : RefAt ((((w7.setCell ⟨w.heap.size + 1 + 1, 0, none⟩ (.slice al2 n cl2)).setCell ⟨w.heap.size + 1 + 1, 1, none⟩ (.int .i64 T.most)).setCell ⟨w.heap.size + 1 + 1, 2, none⟩ (.slice af2 F2 cf2)).setCell ⟨w.heap.size + 1 + 1, 3, none⟩ (.slice at3 n ct2)) (w.heap.size + 1 + 1 + 1) (r1, r2) := hm.heap HF7.out (by omega); have HK8 := Lib.hid (show (((((w7.setCell ⟨w.heap.size + 1 + 1, 0, none⟩ (.slice al2 n cl2)).setCell ⟨w.heap.size + 1 + 1, 1, none⟩ (.int .i64 T.most)).setCell ⟨w.heap.size + 1 + 1, 2, none⟩ (.slice af2 F2 cf2)).setCell ⟨w.heap.size + 1 + 1, 3, none⟩ (.slice at3 n ct2))).cell? ⟨BN, 0, none⟩ = some (.slice al2 n cl2) ∧ (((((w7.setCell ⟨w.heap.size + 1 + 1, 0, none⟩ (.slice al2 n cl2)).setCell ⟨w.heap.size + 1 + 1, 1, none⟩ (.int .i64 T.most)).setCell ⟨w.heap.size + 1 + 1, 2, none⟩ (.slice af2 F2 cf2)).setCell ⟨w.heap.size + 1 + 1, 3, none⟩ (.slice at3 n ct2))).cell? ⟨BN, 1, none⟩ = some (.int .i64 T.most) ∧ (((((w7.setCell ⟨w.heap.size + 1 + 1, 0, none⟩ (.slice al2 n cl2)).setCell ⟨w.heap.size + 1 + 1, 1, none⟩ (.int .i64 T.most)).setCell ⟨w.heap.size + 1 + 1, 2, none⟩ (.slice af2 F2 cf2)).setCell ⟨w.heap.size + 1 + 1, 3, none⟩ (.slice at3 n ct2))).cell? ⟨BN, 2, none⟩ = some (.slice af2 F2 cf2) ∧ (((((w7.setCell ⟨w.heap.size + 1 + 1, 0, none⟩ (.slice al2 n cl2)).setCell ⟨w.heap.size + 1 + 1, 1, none⟩ (.int .i64 T.most)).setCell ⟨w.heap.size + 1 + 1, 2, none⟩ (.slice af2 F2 cf2)).setCell ⟨w.heap.size + 1 + 1, 3, none⟩ (.slice at3 n ct2))).cell? ⟨BN, 3, none⟩ = some (.slice at3 n ct2) ∧ (((((w7.setCell ⟨w.heap.size + 1 + 1, 0, none⟩ (.slice al2 n cl2)).setCell ⟨w.heap.size + 1 + 1, 1, none⟩ (.int .i64 T.most)).setCell ⟨w.heap.size + 1 + 1, 2, none⟩ (.slice af2 F2 cf2)).setCell ⟨w.heap.size + 1 + 1, 3, none⟩ (.slice at3 n ct2))).cell? ⟨w.heap.size + 1 + 1 + 1, 0, none⟩ = some (.int .i64 r1) ∧ (((((w7.setCell ⟨w.heap.size + 1 + 1, 0, none⟩ (.slice al2 n cl2)).setCell ⟨w.heap.size + 1 + 1, 1, none⟩ (.int .i64 T.most)).setCell ⟨w.heap.size + 1 + 1, 2, none⟩ (.slice af2 F2 cf2)).setCell ⟨w.heap.size + 1 + 1, 3, none⟩ (.slice at3 n ct2))).cell? ⟨w.heap.size + 1 + 1 + 1, 1, none⟩ = some (.int .i64 r2) from ⟨HN8.c0, HN8.c1, HN8.c2, HN8.c3, HF8.c0, HF8.c1⟩); have HT8 := Lib.hid (TableAt.mod HT7.out hm (by omega) (by omega)); have HS8 := Lib.hid ((HS7.out.mod hm (fun g hg => hg.2)).imp (base' := base) (fun g hg _ => hg.1.1)); have HM8 := Lib.hid hm; clear hb7 hb7' hR7 hm HN8 HF8)))
        generalize ((((w7.setCell ⟨w.heap.size + 1 + 1, 0, none⟩ (.slice al2 n cl2)).setCell ⟨w.heap.size + 1 + 1, 1, none⟩ (.int .i64 T.most)).setCell ⟨w.heap.size + 1 + 1, 2, none⟩ (.slice af2 F2 cf2)).setCell ⟨w.heap.size + 1 + 1, 3, none⟩ (.slice at3 n ct2)) = Y at *
        clear q0 q1 q2 q3 y4 y5 f0 f1 f2 f3 c0 c1 c2 c3 HK7 HK8
        go_wp2_with fail
        refine bodyPost_ret (v := .tuple #[.agg #[.slice al2 n cl2, .int .i64 T.most, .slice af2 F2 cf2, .slice at3 n ct2], .bool true]) (do_results HX.out rfl rfl) rfl ?_
        exact ⟨_, _, _, T2, rfl, HMO.out, HT8.out, HS8.out, mod_new HM7.out HM8.out (by omega)⟩
  · go_enter Try.func31, Try.ntmps31
    go_wp2_with fail
    generalize ((((w.alloc (.cells #[.slice al n cl, .int .i64 T.most, .slice af F cf, .slice at2 n ct] 67)).alloc (.cells #[.int .u8 kd, .int .i64 at_, .int .i64 ra, .int .i64 rb] 28)).alloc (.cells #[.slice none 0 0, .int .i64 0, .slice none 0 0, .slice none 0 0] 67)).alloc (.cells #[.int .i64 ra, .int .i64 rb] 26)) = x0 at *
    refine (RefsR_any (fun g => (base g ∧ g ≠ w.heap.size + 1 + 1 + 1) ∧ g ≠ w.heap.size + 1 + 1) n T _ _ _ _ hs0.s hv).mono ?_; rintro e w1 ⟨v1, rfl, hr1, hb1⟩
    rw [← HL.out] at hr1
    obtain ⟨a1, c1, rfl⟩ := ownsRow_val hr1
    have h1 := h0.below hb1
    have hs1 := hs0.below hb1
    have hS1 : BoxS w1 w.heap.size (.slice al n cl) T.most (.slice af F cf) (.slice at2 n ct) := (hb1.block _ hS.lt).trans hS
    have hR1 : BoxS w1 (w.heap.size + 1 + 1) (.slice none 0 0) 0 (.slice none 0 0) (.slice none 0 0) := (hb1.block _ hR.lt).trans hR
    have hF1 : RefAt w1 (w.heap.size + 1 + 1 + 1) (ra, rb) := (hb1.block _ (by omega)).trans hF
    have hA1 : w1.heap[w.heap.size + 1]? = some (.cells #[.int .u8 kd, .int .i64 at_, .int .i64 ra, .int .i64 rb] 28 (0, 0)) := (hb1.block _ (by omega)).trans hA
    have hB1 := hB.trans (hb1.mono hB.size)
    have hz1 := hb1.size
    have z0 : w1.cell? ⟨w.heap.size + 1, 0, none⟩ = some (.int .u8 kd) := by simp only [World.cell?, hA1]; rfl
    have z1 : w1.cell? ⟨w.heap.size + 1, 1, none⟩ = some (.int .i64 at_) := by simp only [World.cell?, hA1]; rfl
    have q0 := hS1.c0
    have q1 := hS1.c1
    have q2 := hS1.c2
    have q3 := hS1.c3
    have d0 := hF1.c0
    have d1 := hF1.c1
    have hd3 : (kd % 5 == 2) = false := by simp; omega
    clear h0 hs0 hS hR hF hA hB hb1 hr1 hA1
    go_wp2_with fail
    obtain ⟨lv, hlvv⟩ : ∃ lv, liveT n T (ra, rb) = lv := ⟨_, rfl⟩
    have HLV := Lib.hid hlvv
    have HT1 := Lib.hid h1
    have HS1 := Lib.hid hs1
    have HBS1 := Lib.hid hS1
    have HR1 := Lib.hid hR1
    have HF1 := Lib.hid hF1
    have HB1 := Lib.hid hB1
    clear hlvv h1 hs1 hS1 hR1 hF1 hB1 z0 z1
    go_region_held3 (fun w' => w'.cell? ⟨w.heap.size, 0, none⟩ = some (.slice al n cl) ∧ w'.cell? ⟨w.heap.size, 1, none⟩ = some (.int .i64 T.most) ∧ w'.cell? ⟨w.heap.size, 2, none⟩ = some (.slice af F cf) ∧ w'.cell? ⟨w.heap.size, 3, none⟩ = some (.slice at2 n ct) ∧ w'.cell? ⟨w.heap.size + 1 + 1 + 1, 0, none⟩ = some (.int .i64 ra) ∧ w'.cell? ⟨w.heap.size + 1 + 1 + 1, 1, none⟩ = some (.int .i64 rb))
      (first | go_keep | exact ⟨HBS3.out.c0, HBS3.out.c1, HBS3.out.c2, HBS3.out.c3, HF3.out.c0, HF3.out.c1⟩ | exact ⟨HBS2.out.c0, HBS2.out.c1, HBS2.out.c2, HBS2.out.c3, HF2.out.c0, HF2.out.c1⟩)
      ((first
        | (go_at_call 19; refine (Live_any p q n T ra rb _ (by exact HT1.out)).mono ?_; rintro e w2 ⟨rfl, hb2⟩; rw [HLV.out]; have hb2' : Below w1.heap.size w1 w2 := below_of_drew hb2; have HT2 := Lib.hid (HT1.out.below hb2'); have HS2 := Lib.hid (HS1.out.below hb2'); have HBS2 : Hid (BoxS w2 w.heap.size (.slice al n cl) T.most (.slice af F cf) (.slice at2 n ct)) := Lib.hid ((hb2'.block _ HBS1.out.lt).trans HBS1.out); have HR2 : Hid (BoxS w2 (w.heap.size + 1 + 1) (.slice none 0 0) 0 (.slice none 0 0) (.slice none 0 0)) := Lib.hid ((hb2'.block _ HR1.out.lt).trans HR1.out); have HF2 : Hid (RefAt w2 (w.heap.size + 1 + 1 + 1) (ra, rb)) := Lib.hid ((hb2'.block _ (Array.getElem?_eq_some_iff.1 HF1.out).1).trans HF1.out); have HB2 := Lib.hid (HB1.out.trans (hb2'.mono HB1.out.size)); clear hb2 hb2')
        | (go_at_call 41; refine (LiveR_any (fun g => (base g ∧ g ≠ w.heap.size + 1 + 1 + 1) ∧ g ≠ w.heap.size + 1 + 1) n T _ _ _ ra rb _ HS2.out.s hv).mono ?_; rintro e w3 ⟨rfl, hb3⟩; rw [HLV.out]; have HT3 := Lib.hid (HT2.out.below hb3); have HS3 := Lib.hid (HS2.out.below hb3); have HBS3 : Hid (BoxS w3 w.heap.size (.slice al n cl) T.most (.slice af F cf) (.slice at2 n ct)) := Lib.hid ((hb3.block _ HBS2.out.lt).trans HBS2.out); have HR3 : Hid (BoxS w3 (w.heap.size + 1 + 1) (.slice none 0 0) 0 (.slice none 0 0) (.slice none 0 0)) := Lib.hid ((hb3.block _ HR2.out.lt).trans HR2.out); have HF3 : Hid (RefAt w3 (w.heap.size + 1 + 1 + 1) (ra, rb)) := Lib.hid ((hb3.block _ (Array.getElem?_eq_some_iff.1 HF2.out).1).trans HF2.out); have HB3 := Lib.hid (HB2.out.trans (hb3.mono HB2.out.size)); clear hb3)))
    have y0 := HBS3.out.c0
    have y1 := HBS3.out.c1
    have y2 := HBS3.out.c2
    have y3 := HBS3.out.c3
    have y4 := HF3.out.c0
    have y5 := HF3.out.c1
    clear q0 q1 q2 q3 d0 d1
    obtain ⟨T2, hT2⟩ : ∃ T2, T2 = (giveT n T (ra, rb)).1 := ⟨_, rfl⟩
    obtain ⟨er, her⟩ : ∃ er, er = (giveT n T (ra, rb)).2 := ⟨_, rfl⟩
    have hmo2 : T2.most = T.most := by rw [hT2]; exact give_most _ _ _
    have hdead : liveT n T2 (ra, rb) = false := by rw [hT2]; exact give_dead hv _
    have HT2' := Lib.hid hT2
    have HER := Lib.hid her
    have HDEAD := Lib.hid hdead
    have HMO := Lib.hid hmo2
    clear hT2 her hdead hmo2
    go_wp2_with fail
    refine (GiveR_any (fun g => (base g ∧ g ≠ w.heap.size + 1 + 1 + 1) ∧ g ≠ w.heap.size + 1 + 1) n T _ _ _ ra rb _ HS3.out hv (fun g hg => ⟨⟨hbase g (Nat.le_trans HB3.out.size hg), by have := (Array.getElem?_eq_some_iff.1 HF3.out).1; omega⟩, by have := HR3.out.lt; omega⟩)).mono ?_
    rintro e w4 ⟨ul, uf, ut, rfl, hs4, hb4⟩
    rw [← HT2'.out] at hs4
    rw [← HER.out]
    obtain ⟨al2, cl2, e⟩ := hs4.s.lives.form
    obtain ⟨af2, cf2, e'⟩ := hs4.s.free.form
    obtain ⟨at3, ct2, e''⟩ := hs4.s.taken.form
    subst e e' e''
    generalize T2.free.length = F2 at *
    have bl : Below w4.heap.size w4 (w4.alloc (.cells #[.slice al2 n cl2, .int .i64 T.most, .slice af2 F2 cf2, .slice at3 n ct2] 67)) := (Below.refl _ w4).alloc (Nat.le_refl _) _
    have hb34 : Below w3.heap.size w3 (w4.alloc (.cells #[.slice al2 n cl2, .int .i64 T.most, .slice af2 F2 cf2, .slice at3 n ct2] 67)) := hb4.trans (bl.mono hb4.size)
    have HN := Lib.hid (show BoxS (w4.alloc (.cells #[.slice al2 n cl2, .int .i64 T.most, .slice af2 F2 cf2, .slice at3 n ct2] 67)) w4.heap.size (.slice al2 n cl2) T.most (.slice af2 F2 cf2) (.slice at3 n ct2) from World.alloc_heap_new w4 _)
    have HT4 := Lib.hid (HT3.out.below hb34)
    have HS4 := Lib.hid (hs4.below bl)
    have HR4 : Hid (BoxS (w4.alloc (.cells #[.slice al2 n cl2, .int .i64 T.most, .slice af2 F2 cf2, .slice at3 n ct2] 67)) (w.heap.size + 1 + 1) (.slice none 0 0) 0 (.slice none 0 0) (.slice none 0 0)) := Lib.hid ((hb34.block _ HR3.out.lt).trans HR3.out)
    have HF4 : Hid (RefAt (w4.alloc (.cells #[.slice al2 n cl2, .int .i64 T.most, .slice af2 F2 cf2, .slice at3 n ct2] 67)) (w.heap.size + 1 + 1 + 1) (ra, rb)) := Lib.hid ((hb34.block _ (Array.getElem?_eq_some_iff.1 HF3.out).1).trans HF3.out)
    have HB4 := Lib.hid (HB3.out.trans (hb34.mono HB3.out.size))
    have hlt4 : w.heap.size + 1 + 1 < w4.heap.size := Nat.lt_of_lt_of_le HR3.out.lt hb4.size
    have hltt := HT3.out.lt
    have hsz4 := hb4.size
    clear bl hb34 hs4 hb4 y0 y1 y2 y3 y4 y5
    have y4 := HF4.out.c0
    have y5 := HF4.out.c1
    go_wp2_with fail
    generalize (w4.alloc (.cells #[.slice al2 n cl2, .int .i64 T.most, .slice af2 F2 cf2, .slice at3 n ct2] 67)) = w5 at *
    generalize w4.heap.size = BN at *
    refine (Give_any p q n T ra rb _ HT4.out).mono ?_; rintro e w6 ⟨rfl, h6, hM6⟩
    rw [← HT2'.out] at h6
    rw [← HER.out]
    have HT6 := Lib.hid h6
    have HN6 := Lib.hid (HN.out.mod hM6 (by omega))
    have HR6 := Lib.hid (HR4.out.mod hM6 (by omega))
    have HF6 : Hid (RefAt w6 (w.heap.size + 1 + 1 + 1) (ra, rb)) := Lib.hid (hM6.heap HF4.out (by omega))
    have HS6 := Lib.hid (HS4.out.mod hM6 (fun g hg e => by have := hpq g hg.1.1; omega))
    have HMW := Lib.hid ((Mod.of_same (S := fun k => k = p ∨ k = q) HB4.out).trans hM6)
    clear h6 hM6 y4 y5
    have q0 := HN6.out.c0
    have q1 := HN6.out.c1
    have q2 := HN6.out.c2
    have q3 := HN6.out.c3
    have y4 := HF6.out.c0
    have y5 := HF6.out.c1
    have k3 : (er == er) = true := by simp
    go_wp2_with fail
    have hpq6 := HT6.out.lt
    have hnr : ¬ BN = w.heap.size + 1 + 1 := by omega
    go_region_held3 (fun w' => w'.cell? ⟨BN, 0, none⟩ = some (.slice al2 n cl2) ∧ w'.cell? ⟨BN, 1, none⟩ = some (.int .i64 T.most) ∧ w'.cell? ⟨BN, 2, none⟩ = some (.slice af2 F2 cf2) ∧ w'.cell? ⟨BN, 3, none⟩ = some (.slice at3 n ct2) ∧ w'.cell? ⟨w.heap.size + 1 + 1 + 1, 0, none⟩ = some (.int .i64 ra) ∧ w'.cell? ⟨w.heap.size + 1 + 1 + 1, 1, none⟩ = some (.int .i64 rb))
      (first | (with_reducible exact HK8.out) | (with_reducible exact HK7.out) | go_keep)
      ((first
        | (go_at_call 19; refine (Live_any p q n T2 ra rb _ (by exact HT6.out)).mono ?_; rintro e w7 ⟨rfl, hb7⟩; rw [HDEAD.out]; have hb7' : Below w6.heap.size w6 w7 := below_of_drew hb7; have HT7 := Lib.hid (HT6.out.below hb7'); have HS7 := Lib.hid (HS6.out.below hb7'); have HN7 : Hid (BoxS w7 BN (.slice al2 n cl2) T.most (.slice af2 F2 cf2) (.slice at3 n ct2)) := Lib.hid ((hb7'.block _ HN6.out.lt).trans HN6.out); have hR7 : BoxS w7 (w.heap.size + 1 + 1) (.slice none 0 0) 0 (.slice none 0 0) (.slice none 0 0) := (hb7'.block _ HR6.out.lt).trans HR6.out; have HF7 : Hid (RefAt w7 (w.heap.size + 1 + 1 + 1) (ra, rb)) := Lib.hid ((hb7'.block _ (Array.getElem?_eq_some_iff.1 HF6.out).1).trans HF6.out); have HK7 := Lib.hid (show w7.cell? ⟨BN, 0, none⟩ = some (.slice al2 n cl2) ∧ w7.cell? ⟨BN, 1, none⟩ = some (.int .i64 T.most) ∧ w7.cell? ⟨BN, 2, none⟩ = some (.slice af2 F2 cf2) ∧ w7.cell? ⟨BN, 3, none⟩ = some (.slice at3 n ct2) ∧ w7.cell? ⟨w.heap.size + 1 + 1 + 1, 0, none⟩ = some (.int .i64 ra) ∧ w7.cell? ⟨w.heap.size + 1 + 1 + 1, 1, none⟩ = some (.int .i64 rb) from ⟨HN7.out.c0, HN7.out.c1, HN7.out.c2, HN7.out.c3, HF7.out.c0, HF7.out.c1⟩); have HM7 := Lib.hid (HMW.out.trans (Mod.of_same (S := fun k => k = p ∨ k = q) hb7')); have f0 := BoxS.frozen hR7 0; have f1 := BoxS.frozen hR7 1; have f2 := BoxS.frozen hR7 2; have f3 := BoxS.frozen hR7 3; have c0 := BoxS.c0 hR7; have c1 := BoxS.c1 hR7; have c2 := BoxS.c2 hR7; have c3 := BoxS.c3 hR7; have hm := mod4 w7 (w.heap.size + 1 + 1) (.slice al2 n cl2) (.int .i64 T.most) (.slice af2 F2 cf2) (.slice at3 n ct2); have HX := Lib.hid (BoxS.set4 hR7 (al := .slice al2 n cl2) (j := T.most) (af := .slice af2 F2 cf2) (at_ := .slice at3 n ct2)); have HN8 := HN7.out.mod hm hnr; have HF8 : RefAt ((((w7.setCell ⟨w.heap.size + 1 + 1, 0, none⟩ (.slice al2 n cl2)).setCell ⟨w.heap.size + 1 + 1, 1, none⟩ (.int .i64 T.most)).setCell ⟨w.heap.size + 1 + 1, 2, none⟩ (.slice af2 F2 cf2)).setCell ⟨w.heap.size + 1 + 1, 3, none⟩ (.slice at3 n ct2)) (w.heap.size + 1 + 1 + 1) (ra, rb) := hm.heap HF7.out (by omega); have HK8 := Lib.hid (show (((((w7.setCell ⟨w.heap.size + 1 + 1, 0, none⟩ (.slice al2 n cl2)).setCell ⟨w.heap.size + 1 + 1, 1, none⟩ (.int .i64 T.most)).setCell ⟨w.heap.size + 1 + 1, 2, none⟩ (.slice af2 F2 cf2)).setCell ⟨w.heap.size + 1 + 1, 3, none⟩ (.slice at3 n ct2))).cell? ⟨BN, 0, none⟩ = some (.slice al2 n cl2) ∧ (((((w7.setCell ⟨w.heap.size + 1 + 1, 0, none⟩ (.slice al2 n cl2)).setCell ⟨w.heap.size + 1 + 1, 1, none⟩ (.int .i64 T.most)).setCell ⟨w.heap.size + 1 + 1, 2, none⟩ (.slice af2 F2 cf2)).setCell ⟨w.heap.size + 1 + 1, 3, none⟩ (.slice at3 n ct2))).cell? ⟨BN, 1, none⟩ = some (.int .i64 T.most) ∧ (((((w7.setCell ⟨w.heap.size + 1 + 1, 0, none⟩ (.slice al2 n cl2)).setCell ⟨w.heap.size + 1 + 1, 1, none⟩ (.int .i64 T.most)).setCell ⟨w.heap.size + 1 + 1, 2, none⟩ (.slice af2 F2 cf2)).setCell ⟨w.heap.size + 1 + 1, 3, none⟩ (.slice at3 n ct2))).cell? ⟨BN, 2, none⟩ = some (.slice af2 F2 cf2) ∧ (((((w7.setCell ⟨w.heap.size + 1 + 1, 0, none⟩ (.slice al2 n cl2)).setCell ⟨w.heap.size + 1 + 1, 1, none⟩ (.int .i64 T.most)).setCell ⟨w.heap.size + 1 + 1, 2, none⟩ (.slice af2 F2 cf2)).setCell ⟨w.heap.size + 1 + 1, 3, none⟩ (.slice at3 n ct2))).cell? ⟨BN, 3, none⟩ = some (.slice at3 n ct2) ∧ (((((w7.setCell ⟨w.heap.size + 1 + 1, 0, none⟩ (.slice al2 n cl2)).setCell ⟨w.heap.size + 1 + 1, 1, none⟩ (.int .i64 T.most)).setCell ⟨w.heap.size + 1 + 1, 2, none⟩ (.slice af2 F2 cf2)).setCell ⟨w.heap.size + 1 + 1, 3, none⟩ (.slice at3 n ct2))).cell? ⟨w.heap.size + 1 + 1 + 1, 0, none⟩ = some (.int .i64 ra) ∧ (((((w7.setCell ⟨w.heap.size + 1 + 1, 0, none⟩ (.slice al2 n cl2)).setCell ⟨w.heap.size + 1 + 1, 1, none⟩ (.int .i64 T.most)).setCell ⟨w.heap.size + 1 + 1, 2, none⟩ (.slice af2 F2 cf2)).setCell ⟨w.heap.size + 1 + 1, 3, none⟩ (.slice at3 n ct2))).cell? ⟨w.heap.size + 1 + 1 + 1, 1, none⟩ = some (.int .i64 rb) from ⟨HN8.c0, HN8.c1, HN8.c2, HN8.c3, HF8.c0, HF8.c1⟩); have HT8 := Lib.hid (TableAt.mod HT7.out hm (by omega) (by omega)); have HS8 := Lib.hid ((HS7.out.mod hm (fun g hg => hg.2)).imp (base' := base) (fun g hg _ => hg.1.1)); have HM8 := Lib.hid hm; clear hb7 hb7' hR7 hm HN8 HF8)))
    generalize ((((w7.setCell ⟨w.heap.size + 1 + 1, 0, none⟩ (.slice al2 n cl2)).setCell ⟨w.heap.size + 1 + 1, 1, none⟩ (.int .i64 T.most)).setCell ⟨w.heap.size + 1 + 1, 2, none⟩ (.slice af2 F2 cf2)).setCell ⟨w.heap.size + 1 + 1, 3, none⟩ (.slice at3 n ct2)) = Y at *
    clear q0 q1 q2 q3 y4 y5 f0 f1 f2 f3 c0 c1 c2 c3 HK7 HK8
    go_wp2_with fail
    refine bodyPost_ret (v := .tuple #[.agg #[.slice al2 n cl2, .int .i64 T.most, .slice af2 F2 cf2, .slice at3 n ct2], .bool true]) (do_results HX.out rfl rfl) rfl ?_
    exact ⟨_, _, _, T2, rfl, HMO.out, HT8.out, HS8.out, mod_new HM7.out HM8.out (by omega)⟩
end Slot
end Go.Proofs.Ytpcbmckknafdgaa
