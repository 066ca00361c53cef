/- ViewAgree: the walk. -/
import Derived.Test.YtdfmgneicdpjmaaGreatM50
namespace Go.Proofs.YtdfmgneicdpjmaaGreat
open Go.RowKit Go.Shelf
set_option linter.unusedVariables false
set_option linter.unusedSimpArgs false
set_option maxRecDepth 100000
namespace View
open Resp

set_option maxHeartbeats 1000000 in
theorem agree_law (a0 a1 : Option Addr) (n0 c0 n1 c1 : Nat) (l0 l1 : List Sml) (n slot : Int) (hn0 : 0 ≤ n) (hn1 : n ≤ 255) (hs0 : 0 ≤ slot) (hs1 : slot ≤ 255) (W : World) (h0 : SmallAt W a0 n0 l0) (h1 : SmallAt W a1 n1 l1) (hc0 : n0 ≤ c0) (hd0 : c0 ≤ maxLen) (hc1 : n1 ≤ c1) (hd1 : c1 ≤ maxLen) (hb0 : ∀ e ∈ l0, e.bytes.size ≤ 140737488351232) (hb1 : ∀ e ∈ l1, e.bytes.size ≤ 140737488351232) :
    Calls Tryz.prog 9 #[.slice a0 n0 c0, .slice a1 n1 c1, .int .u8 n, .int .u8 slot] W fun e w' => e = .returned (.bool true) ∧ Below W.heap.size W w' := by
  obtain ⟨i1, ji, jz0, jz1, jz2⟩ := info_parts infoEnt
  have HM0 := Lib.hid (Made_cl a0 n0 c0 l0 W h0 hc0 hd0 hb0)
  have HM1 := Lib.hid (fun w hw => Made_cl a1 n1 c1 l1 w (h1.below hw) hc1 hd1 hb1)
  clear h0 h1 hb0 hb1 hc0 hd0 hc1 hd1
  go_enter Tryz.func9, Tryz.ntmps9
  go_wp2_with fail
  refine HM0.out.mono ?_; rintro e w1 ⟨b, m, d, es, rfl, hm, ho, hl, hcl, hb1⟩
  have hm60 : m ≤ 60 := by omega
  have HB1 := Lib.hid hb1
  have HX1 := Lib.hid ho.at_
  have HCX := Lib.hid hcl
  clear hm ho hl hcl hb1
  go_wp2_with fail
  refine (HM1.out w1 HB1.out).mono ?_; rintro e w2 ⟨b', m', d', fs, rfl, hm', ho', hl', hcl', hb2⟩
  have hm60' : m' ≤ 60 := by omega
  have HB2 : Hid (Below W.heap.size W w2) := HB1.out.trans (hb2.mono HB1.out.size)
  have HX2 := Lib.hid (HX1.out.below hb2)
  have HY2 := Lib.hid ho'.at_
  have HCY := Lib.hid hcl'
  clear hm' ho' hl' hcl' hb2 HX1 HB1 HM0 HM1
  obtain ⟨q, hq⟩ : ∃ q : Int, 1 + n % 8 = q := ⟨_, rfl⟩
  have hq1 : 1 ≤ q := by omega
  have hq8 : q ≤ 8 := by omega
  obtain ⟨s, hs⟩ : ∃ s : Int, slot % q = s := ⟨_, rfl⟩
  have hsq0 : 0 ≤ s := by rw [← hs]; exact Int.emod_nonneg _ (by omega)
  have hsq1 : s < q := by rw [← hs]; exact Int.emod_lt_of_pos _ (by omega)
  have hq0 : ¬ q = 0 := by omega
  have htm : slot.tmod q = s := by rw [Int.tmod_eq_emod_of_nonneg hs0]; exact hs
  go_upto_region 3 with fail
  clear hq
  go_upto_region 4 with fail
  clear htm hs
  obtain ⟨A, hA⟩ : ∃ A, decide (framesL s es = framesL s fs) = A := ⟨_, rfl⟩
  have hA2 : decide (framesL s fs = framesL s es) = A := by rw [← hA]; exact decide_eq_decide.2 ⟨Eq.symm, Eq.symm⟩
  obtain ⟨D, hD⟩ : ∃ D, decide ((mv q s es).2 = (mv q s fs).2) = D := ⟨_, rfl⟩
  have hDA : D = true → A = true := by
    intro h
    rw [← hA, decide_eq_true_eq]
    rw [← hD, decide_eq_true_eq] at h
    exact alike_agree hsq0 hsq1 h
  have HA := Lib.hid hA
  have HA2 := Lib.hid hA2
  have HD := Lib.hid hD
  have HDA := Lib.hid hDA
  clear hA hA2 hD hDA
  go_wp2_with fail
  refine (Agree_cl s hsq0 (by omega) b b' m m' d d' es fs w2 HX2.out HY2.out HCX.out HCY.out).mono ?_; rintro e w3 ⟨rfl, hb3⟩
  rw [HA.out]
  have HB3 : Hid (Below W.heap.size W w3) := HB2.out.trans (hb3.mono HB2.out.size)
  have HX3 := Lib.hid (HX2.out.below hb3)
  have HY3 := Lib.hid (HY2.out.below hb3)
  clear hb3 HB2 HX2 HY2
  go_wp2_with fail
  refine (Agree_cl s hsq0 (by omega) b' b m' m d' d fs es w3 HY3.out HX3.out HCY.out HCX.out).mono ?_; rintro e w4 ⟨rfl, hb4⟩
  rw [HA2.out]
  have HB4 : Hid (Below W.heap.size W w4) := HB3.out.trans (hb4.mono HB3.out.size)
  have HX4 := Lib.hid (HX3.out.below hb4)
  have HY4 := Lib.hid (HY3.out.below hb4)
  clear hb4 HB3 HX3 HY3
  go_wp2_with fail
  refine (Agree_cl s hsq0 (by omega) b b m m d d es es w4 HX4.out HX4.out HCX.out HCX.out).mono ?_; rintro e w5 ⟨rfl, hb5⟩
  rw [decide_eq_true (rfl : framesL s es = framesL s es)]
  have HB5 : Hid (Below W.heap.size W w5) := HB4.out.trans (hb5.mono HB4.out.size)
  have HX5 := Lib.hid (HX4.out.below hb5)
  have HY5 := Lib.hid (HY4.out.below hb5)
  clear hb5 HB4 HX4 HY4
  go_wp2_with fail
  refine (Alike_cl q s hq1 hq8 hsq0 hsq1 b b' m m' d d' es fs w5 HX5.out HY5.out HCX.out HCY.out).mono ?_; rintro e w6 ⟨rfl, hb6⟩
  rw [HD.out]
  have HB6 : Hid (Below W.heap.size W w6) := HB5.out.trans (hb6.mono HB5.out.size)
  have HX6 := Lib.hid (HX5.out.below hb6)
  clear hb6 HB5 HX5 HY5
  go_wp2_with fail
  refine (Alike_cl q s hq1 hq8 hsq0 hsq1 b b m m d d es es w6 HX6.out HX6.out HCX.out HCX.out).mono ?_; rintro e w7 ⟨rfl, hb7⟩
  rw [decide_eq_true (rfl : (mv q s es).2 = (mv q s es).2)]
  have HB7 : Hid (Below W.heap.size W w7) := HB6.out.trans (hb7.mono HB6.out.size)
  have HX7 := Lib.hid (HX6.out.below hb7)
  clear hb7 HB6 HX6
  have hda := HDA.out
  have hfl : A = false ∧ D = false ∨ A = true := by
    cases A
    · cases D
      · exact .inl ⟨rfl, rfl⟩
      · exact absurd (hda rfl) (by decide)
    · exact .inr rfl
  clear hda HDA HA HA2 HD
  have hgo : ∀ (P : Prop), (A = false → D = false → P) → (A = true → D = true → P) → (A = true → D = false → P) → P := by
    intro P h1 h2 h3
    rcases hfl with ⟨h, h'⟩ | h
    · exact h1 h h'
    · cases D
      · exact h3 h rfl
      · exact h2 h rfl
  clear hfl
  apply hgo <;> (intro e1 e2; subst e1; subst e2; clear hgo)
  all_goals (go_wp2_with fail)
  all_goals (refine (Copy_any b m d es w7 HX7.out (by omega) (fun e he => clean_bytes (HCX.out.2 e he))).mono ?_; rintro e w8 ⟨cv, rfl, hcp, hb8⟩)
  all_goals (
    obtain ⟨l, hl, hg⟩ := hcp.grown
    obtain ⟨ca, cd, rfl⟩ := ownsRow_form hg.1
    have hlm : l.length = m := by rw [← List.length_map (f := Prod.fst), hl]; exact HX7.out.1
    rw [hlm] at hg ⊢
    have HG := Lib.hid hg
    have HLE := Lib.hid hl
    have HLM := Lib.hid hlm
    have HB8 := Lib.hid hb8
    have HRR : Hid (w8.ownsRow w7.heap.size 38 4 (.slice ca m cd) m (entCs l)) := by have := hg.1; rw [hlm] at this; exact this
    clear hcp hg hl hlm hb8
    have HF8 : Hid (FreshB (w8.alloc (.cells #[.int .u8 1] 5)) w8.heap.size (.slice (some ⟨w8.heap.size, 0, none⟩) 1 1) (strOfNums [1])) := ⟨[1], World.ownsRow_lit w8 #[.int .u8 1] 1 (Nat.le_refl _) (by unfold maxLen; omega) rfl, rfl⟩
    have HM8 : Hid (Mod (fun _ => False) w8 (w8.alloc (.cells #[.int .u8 1] 5))) := (Mod.refl _ _).alloc _
    go_wp2_with fail
    generalize w8.alloc (.cells #[.int .u8 1] 5) = w9 at *
    refine (frame_any s _ 1 1 w9).mono ?_; rintro e y1 ⟨rfl, hb9⟩
    have HY1 : Hid (Mod (fun _ => False) w8 y1) := HM8.out.trans (Mod.of_same hb9)
    have HF1 : Hid (FreshB y1 w8.heap.size (.slice (some ⟨w8.heap.size, 0, none⟩) 1 1) (strOfNums [1])) := HF8.out.mod (Mod.of_same (S := fun _ => False) hb9) (by simp)
    have hX8 : w7.heap.size ≤ w8.heap.size := HB8.out.size
    clear hb9 HF8 HM8
    go_wp2_with (at_builtin; refine wpList_append_own _ rfl _ _ 27 rfl w7.heap.size 38 i1 _ 4 48 Tryz.underlying27 ji jz0 jz1 jz2 rfl (by decide) (.slice ca m cd) m _ rfl ((ownsRow_mod HRR.out HY1.out (by simp)).alloc _) ⟨y1.heap.size, 0, none⟩ 1 1 [.int .u8 1, .int .i64 s, .int .i64 0, .slice (some ⟨w8.heap.size, 0, none⟩) 1 1] rfl rfl (news_four_ (by simp) (by simp) (by simp) (by simp)) (by simp [Value.oneCell']) (by unfold maxLen; omega) (by omega) (by have := HY1.out.size; simp; omega) ?_; intro v' w3 hown3 hgrow3 hat3; obtain ⟨g3, c3, e3⟩ := owns_form_pos_ hown3 (by omega); subst e3; have HO3 := Lib.hid hown3; have HM3 := Lib.hid ((Mod.of_same (S := fun q => some q = (Value.slice ca m cd).ownBlock) (w := y1) (by repeat (first | exact Below.refl _ _ | refine below_alloc_ ?_ _ | refine below_drew_ ?_))).trans (Mod.of_grownBy hgrow3)); clear hown3 hgrow3 hat3)
    obtain ⟨f1, f2, f3, f4⟩ := Grown.next (p := cleanB) (e := ⟨1, s, 0, strOfNums [1]⟩) HLM.out HG.out (by intro x hx; exact HCX.out.2 x.1 (by rw [← HLE.out]; exact List.mem_map_of_mem hx)) HB8.out (Nat.le_refl _) HY1.out HF1.out (clean_frame hsq0 (by omega) (by rw [strOfNums_size]; decide)) HO3.out HM3.out
    have HZ3 : Hid (ScrAt w3 (some ⟨g3, 0, none⟩) (m + 1) (es ++ [⟨1, s, 0, strOfNums [1]⟩])) := by
      have := OwnScr.at_ f2.own
      rw [List.map_append, HLE.out] at this
      exact this
    have HB9 : Hid (Below W.heap.size W w3) := HB7.out.trans (f4.mono HB7.out.size)
    have HX9 := Lib.hid (HX7.out.below f4)
    have HCZ : Hid (Cln (es ++ [⟨1, s, 0, strOfNums [1]⟩])) := HCX.out.more (by have := HX7.out.1; omega) hsq0 (by omega) (by rw [strOfNums_size]; decide)
    clear f1 f2 f3 f4 HB8 HY1 HF1 HG HO3 HM3 HRR HLM HLE
    go_wp2_with fail
    refine (Copy_any (some ⟨g3, 0, none⟩) (m + 1) c3 (es ++ [⟨1, s, 0, strOfNums [1]⟩]) w3 HZ3.out (by omega) (fun e he => clean_bytes (HCZ.out.2 e he))).mono ?_; rintro e w10 ⟨ov, rfl, hcp, hb10⟩
    have hm11 : Mod (fun _ => False) w10 (w10.alloc (.cells #[.int .u8 2] 5)) := (Mod.refl _ _).alloc _
    have hb11 : Below w3.heap.size w3 (w10.alloc (.cells #[.int .u8 2] 5)) := hb10.trans (hm11.below hb10.size (by simp))
    have hl11 := World.alloc_heap_new w10 (.cells #[.int .u8 2] 5)
    obtain ⟨g, c, v0, rfl, hbg, hlt, hc3, hfz, hset⟩ := set_last (hcp.mod hm11 (by simp))
    have hgne : ¬ w10.heap.size = g := by
      intro h
      have h2 := (Array.getElem?_eq_some_iff.1 hl11).2
      obtain ⟨g', c', v0', e5, -, h6, -⟩ := set_last hcp
      injection e5 with e6
      injection e6 with e6
      injection e6 with e6
      omega
    have hme := HX9.out.1
    rw [hme] at hc3 hfz hset ⊢
    have hms := mod_set_ (w10.alloc (.cells #[.int .u8 2] 5)) g (m * 4 + 3) (.slice (some ⟨w10.heap.size, 0, none⟩) 1 1)
    have hb12 : Below w3.heap.size w3 ((w10.alloc (.cells #[.int .u8 2] 5)).setCell ⟨g, m * 4 + 3, none⟩ (.slice (some ⟨w10.heap.size, 0, none⟩) 1 1)) := hb11.trans (hms.below hb11.size (fun q hq e => by omega))
    have HO12 := Lib.hid (hset (.slice (some ⟨w10.heap.size, 0, none⟩) 1 1) (strOfNums [2]) (str_lit_ (hms.heap hl11 hgne)))
    have HZ12 := Lib.hid (HZ3.out.below hb12)
    have HX12 := Lib.hid (HX9.out.below (hb12.mono (Nat.le_refl _)))
    have HB12 : Hid (Below W.heap.size W ((w10.alloc (.cells #[.int .u8 2] 5)).setCell ⟨g, m * 4 + 3, none⟩ (.slice (some ⟨w10.heap.size, 0, none⟩) 1 1))) := HB9.out.trans (hb12.mono HB9.out.size)
    have HCO : Hid (Cln (es ++ [⟨1, s, 0, strOfNums [2]⟩])) := HCX.out.more (by have := HX9.out.1; omega) hsq0 (by omega) (by rw [strOfNums_size]; decide)
    clear hcp hb10 hm11 hb11 hl11 hset hms hb12 hgne hbg hlt HZ3 HX9 HB9 hme
    go_upto_region 16 with fail
    clear hc3 hfz
    generalize (w10.alloc (.cells #[.int .u8 2] 5)).setCell ⟨g, m * 4 + 3, none⟩ (.slice (some ⟨w10.heap.size, 0, none⟩) 1 1) = w12 at *
    go_wp2_with fail
    refine (Agree_cl s hsq0 (by omega) b (some ⟨g3, 0, none⟩) m (m + 1) d c3 es (es ++ [⟨1, s, 0, strOfNums [1]⟩]) w12 HX12.out HZ12.out HCX.out HCZ.out).mono ?_; rintro e w13 ⟨rfl, hb13⟩
    rw [decide_eq_false (more_ne s es (strOfNums [1]))]
    have HB13 : Hid (Below W.heap.size W w13) := HB12.out.trans (hb13.mono HB12.out.size)
    have HZ13 := Lib.hid (HZ12.out.below hb13)
    have HO13 := Lib.hid (HO12.out.below hb13)
    clear hb13 HB12 HZ12 HO12 HX12
    go_wp2_with fail
    refine (Agree_cl s hsq0 (by omega) (some ⟨g3, 0, none⟩) (some ⟨g, 0, none⟩) (m + 1) (m + 1) c3 c (es ++ [⟨1, s, 0, strOfNums [1]⟩]) (es ++ [⟨1, s, 0, strOfNums [2]⟩]) w13 HZ13.out HO13.out HCZ.out HCO.out).mono ?_; rintro e w14 ⟨rfl, hb14⟩
    have hne : ¬ strOfNums [1] = strOfNums [2] := by decide
    rw [decide_eq_false (other_ne s es hne)]
    have HB14 : Hid (Below W.heap.size W w14) := HB13.out.trans (hb14.mono HB13.out.size)
    have HZ14 := Lib.hid (HZ13.out.below hb14)
    have HO14 := Lib.hid (HO13.out.below hb14)
    clear hb14 HB13 HZ13 HO13
    go_wp2_with fail
    refine (Alike_cl q s hq1 hq8 hsq0 hsq1 (some ⟨g3, 0, none⟩) (some ⟨g, 0, none⟩) (m + 1) (m + 1) c3 c (es ++ [⟨1, s, 0, strOfNums [1]⟩]) (es ++ [⟨1, s, 0, strOfNums [2]⟩]) w14 HZ14.out HO14.out HCZ.out HCO.out).mono ?_; rintro e w15 ⟨rfl, hb15⟩
    rw [decide_eq_false (fun h => other_ne s es hne (alike_agree hsq0 hsq1 h))]
    have HB15 : Hid (Below W.heap.size W w15) := HB14.out.trans (hb15.mono HB14.out.size)
    clear hb15 HB14 HZ14 HO14 hne
    go_wp2_with fail
    refine (awake42 w15).mono ?_; rintro e w16 ⟨rfl, hb16⟩
    have HB16 : Hid (Below W.heap.size W w16) := HB15.out.trans (hb16.mono HB15.out.size)
    clear hb16 HB15
    go_wp2_with fail
    go_ret
    exact ⟨by first | rfl | simp, HB16.out⟩)
end View
end Go.Proofs.YtdfmgneicdpjmaaGreat
