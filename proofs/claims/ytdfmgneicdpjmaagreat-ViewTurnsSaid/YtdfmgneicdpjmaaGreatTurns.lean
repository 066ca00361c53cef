/- ViewTurns: the walk. -/
import Derived.Test.YtdfmgneicdpjmaaGreatMFr
import Derived.Test.YtdfmgneicdpjmaaGreatMadeLT
namespace Go.Proofs.YtdfmgneicdpjmaaGreat
open Go.RowKit Go.Shelf
set_option linter.unusedVariables false
set_option linter.unusedSimpArgs false
set_option maxRecDepth 100000
namespace View
open Resp

theorem ticks_take {es : List Ent} {k : Nat} (hk : k < es.length) : ticksN (es.take (k + 1)) = ticksN (es.take k) + if es[k].kind = 2 then 1 else 0 := by
  unfold ticksN
  rw [List.take_succ_eq_append_getElem hk, List.filter_append, List.length_append]
  by_cases h9 : es[k].kind = 2 <;> simp [tickB, h9]
theorem all_take {es : List Ent} {k : Nat} (hk : k < es.length) : allN (es.take (k + 1)) = allN (es.take k) + if es[k].kind = 1 then 1 else 0 := by
  unfold allN
  rw [List.take_succ_eq_append_getElem hk, List.filter_append, List.length_append]
  by_cases h9 : es[k].kind = 1 <;> simp [h9]
theorem turnsOf_le {n s t : Nat} (hn : 0 < n) : turnsOf n s t ≤ t := by
  unfold turnsOf
  have h : t + n - 1 - s < n * (t + 1) := by
    have := Nat.mul_add n t 1
    have h2 : t ≤ n * t := Nat.le_mul_of_pos_left t hn
    omega
  have := (Nat.div_lt_iff_lt_mul hn).2 (by rw [Nat.mul_comm]; exact h)
  omega
theorem turnsOf_int {n s t : Nat} (hn : 0 < n) (hs : s < n) : ((t : Int) + (n : Int) - 1 - (s : Int)).tdiv (n : Int) = ((turnsOf n s t : Nat) : Int) := by
  unfold turnsOf
  have h1 : (t : Int) + (n : Int) - 1 - (s : Int) = ((t + n - 1 - s : Nat) : Int) := by omega
  rw [h1, ← Int.ofNat_tdiv]
set_option maxHeartbeats 2000000 in
theorem turns_law (a0 : Option Addr) (n0 c0 : Nat) (l0 : List Sml) (n : Int) (hn0 : 0 ≤ n) (hn1 : n ≤ 255) (W : World) (h0 : SmallAt W a0 n0 l0) (hc0 : n0 ≤ c0) (hd0 : c0 ≤ maxLen) (hb0 : ∀ e ∈ l0, e.bytes.size ≤ 140737488351232) :
    Calls Tryz.prog 8 #[.slice a0 n0 c0, .int .u8 n] W fun e w' => e = .returned (.bool true) ∧ Below W.heap.size W w' := by
  have HM0 := Lib.hid (Made_md a0 n0 c0 l0 W h0 hc0 hd0 hb0)
  clear h0 hb0 hc0 hd0
  go_enter Tryz.func8, Tryz.ntmps8
  go_wp2_with fail
  refine HM0.out.mono ?_; rintro e w1 ⟨b, m, d, es, rfl, hm, ho, hl, hcl, hsl, hb1⟩
  have hm60 : m ≤ 60 := by omega
  have HB1 := Lib.hid hb1
  have HX1 := Lib.hid ho.at_
  have HCX := Lib.hid hcl
  have HSL := Lib.hid hsl
  clear hm ho hl hcl hsl hb1 HM0
  obtain ⟨q, hq⟩ : ∃ q : Nat, 1 + n % 8 = (q : Int) := ⟨(1 + n % 8).toNat, by omega⟩
  have hq1 : 1 ≤ q := by omega
  have hq8 : q ≤ 8 := by omega
  have hq1I : 1 ≤ (q : Int) := by omega
  have hq8I : (q : Int) ≤ 8 := by omega
  have hq0 : ¬ (q : Int) = 0 := by omega
  have hmx : m ≤ maxLen := by unfold maxLen; omega
  go_upto_region 3 with fail
  clear hq
  go_wp2_with fail
  go_loopw [9, 10, 27, 12] (fun tk al ix _ wr => ∃ (t u v : Nat), t ≤ m ∧ u ≤ t ∧ v ≤ t ∧ ix = .int .i64 t ∧ tk = .int .i64 u ∧ al = .int .i64 v ∧ Hid (ticksN (es.take t) = u) ∧ Hid (allN (es.take t) = v) ∧ Hid (Below w1.heap.size w1 wr)) (fun _ _ ix _ _ => m - (intOf ix).toNat)
  case atStart => exact ⟨0, 0, 0, Nat.zero_le _, Nat.le_refl _, Nat.le_refl _, rfl, rfl, rfl, rfl, rfl, Below.refl _ _⟩
  case round =>
    obtain ⟨t, u, v, ht, hu, hv, rfl, rfl, rfl, HU, HV, HB⟩ := hrel
    by_cases hlt : t < m
    · have hltI : (t : Int) < m := by omega
      have hte : t < es.length := by have := HX1.out.1; omega
      have HXw : Hid (ScrAt wr b m es) := HX1.out.below HB.out
      obtain ⟨b1, o1, v1, sa, sc, rfl, hbl, c0, c1, c2, c3, hst, rfl⟩ := HXw.out.at_ hte
      have HT := Lib.hid (ticks_take hte)
      have HA := Lib.hid (all_take hte)
      have HB2 : Hid (Below w1.heap.size w1 (wr.alloc (.cells #[.int .u8 es[t].kind, .int .i64 es[t].slot, .int .i64 es[t].n, .slice sa es[t].bytes.size sc] 38))) := HB.out.alloc HB.out.size _
      clear hst HXw hbl
      generalize es[t] = z at *
      by_cases hk2 : z.kind = 2
      · have hk1 : ¬ z.kind = 1 := by omega
        have HT2 : Hid (ticksN (es.take (t + 1)) = u + 1) := by have := HT.out; rw [if_pos hk2, HU.out] at this; exact this
        have HA2 : Hid (allN (es.take (t + 1)) = v) := by have := HA.out; rw [if_neg hk1, HV.out] at this; exact this
        clear HT HA
        rw [hk2] at HB2
        go_wp2_with fail
        exact ⟨⟨t + 1, u + 1, v, by omega, by omega, by omega, by simp, by simp, rfl, HT2.out, HA2.out, HB2.out⟩, by simp [intOf]; omega⟩
      · by_cases hk1 : z.kind = 1
        · have HT2 : Hid (ticksN (es.take (t + 1)) = u) := by have := HT.out; rw [if_neg hk2, HU.out] at this; exact this
          have HA2 : Hid (allN (es.take (t + 1)) = v + 1) := by have := HA.out; rw [if_pos hk1, HV.out] at this; exact this
          clear HT HA
          rw [hk1] at HB2
          go_wp2_with fail
          exact ⟨⟨t + 1, u, v + 1, by omega, by omega, by omega, by simp, rfl, by simp, HT2.out, HA2.out, HB2.out⟩, by simp [intOf]; omega⟩
        · have HT2 : Hid (ticksN (es.take (t + 1)) = u) := by have := HT.out; rw [if_neg hk2, HU.out] at this; exact this
          have HA2 : Hid (allN (es.take (t + 1)) = v) := by have := HA.out; rw [if_neg hk1, HV.out] at this; exact this
          clear HT HA
          go_wp2_with fail
          exact ⟨⟨t + 1, u, v, by omega, by omega, by omega, by simp, rfl, rfl, HT2.out, HA2.out, HB2.out⟩, by simp [intOf]; omega⟩
    · obtain rfl : t = m := by omega
      have hte : es.take t = es := List.take_of_length_le (by have := HX1.out.1; omega)
      rw [hte] at HU HV
      have hu60 : u ≤ 60 := by omega
      have hv60 : v ≤ 60 := by omega
      clear hte hu hv
      go_wp2_with fail
      go_loopw [7, 8, 43] (fun tu fr ix wr => ∃ (k T F : Nat), k ≤ q ∧ T ≤ 60 * k ∧ F ≤ 60 * k ∧ ix = .int .i64 k ∧ tu = .int .i64 T ∧ fr = .int .i64 F ∧ Hid (turnsSum q u k = T) ∧ Hid (framesSum es k = F) ∧ Hid (Below w1.heap.size w1 wr)) (fun _ _ ix _ => q - (intOf ix).toNat)
      case atStart => exact ⟨0, 0, 0, Nat.zero_le _, Nat.le_refl _, Nat.le_refl _, rfl, rfl, rfl, rfl, rfl, HB.out⟩
      case round =>
        obtain ⟨k, T, F, hk, hT, hF, rfl, rfl, rfl, HTS, HFS, HB9⟩ := hrel
        by_cases hlt : k < q
        · have hltI : (k : Int) < (q : Int) := by omega
          have hk0I : (0 : Int) ≤ (k : Int) := by omega
          have HXw : Hid (ScrAt wr b t es) := HX1.out.below HB9.out
          have HW1 := Lib.hid (HCX.out.wrg1 (s := (k : Int)) hk0I (by omega))
          have HMT := Lib.hid (mv_turns hlt es)
          have HMS := Lib.hid (mv_size hlt HCX.out)
          have HDV := turnsOf_int (t := u) hq1 hlt
          have hto : turnsOf q k u ≤ u := turnsOf_le hq1
          have HTK : Hid (turnsSum q u (k + 1) = T + turnsOf q k u) := by rw [Hid, turnsSum, HTS.out]
          have HFK : Hid (framesSum es (k + 1) = F + (framesL (k : Int) es).length) := by rw [Hid, framesSum, HFS.out]
          have hfl : (framesL (k : Int) es).length ≤ 60 := Nat.le_trans (framesL_len _ _) (by have := HX1.out.1; omega)
          rw [HU.out] at HMT
          generalize turnsOf q k u = G at *
          go_wp2_with fail
          refine (Moves_yes (q : Int) (k : Int) hq1I hq8I hltI b t d es wr HXw.out hmx HW1.out).mono ?_; rintro e w3 ⟨v3, l3, rfl, hf3, ho3, hb3⟩
          obtain ⟨a3, c3, rfl, hc3, hcm3, hr3⟩ := ho3.row.mvs
          rw [hf3] at hr3
          have hlen3 := hr3.1
          generalize (mv (q : Int) (k : Int) es).2 = ms at *
          have HR3 := Lib.hid hr3
          have HX3 := Lib.hid (HXw.out.below hb3)
          have HB3 : Hid (Below w1.heap.size w1 w3) := below_step_ HB9.out hb3
          have htf := turns_frames ms
          rw [HMT.out.1, HMT.out.2, hlen3] at htf
          clear ho3 hf3 hr3 hb3 hlen3 HXw HB9
          generalize l3.length = k3 at *
          go_wp2_with fail
          refine (Frames_yes (k : Int) b t d es w3 HX3.out hmx HW1.out).mono ?_; rintro e w4 ⟨v4, l4, rfl, hf4, ho4, hb4⟩
          obtain ⟨a4, c4, rfl, hc4, hcm4, hr4⟩ := ho4.rows
          rw [hf4] at hr4
          have hlen4 := hr4.1
          generalize framesL (k : Int) es = fl at *
          have HR4 := Lib.hid hr4
          have HR3b : Hid (MvsAt w4 a3 k3 ms) := HR3.out.mod (S := fun _ => False) (Mod.of_same hb4) (by simp)
          have HB4 : Hid (Below w1.heap.size w1 w4) := below_step_ HB3.out hb4
          rw [hlen4] at htf HFK hfl
          clear ho4 hf4 hr4 hb4 hlen4 HX3 HB3 HR3
          generalize l4.length = k4 at *
          have hk3 : k3 ≤ 120 := by omega
          have htfI : (G : Int) + (k4 : Int) = (k3 : Int) := by omega
          go_wp2_with fail
          refine (MFrames_any a3 k3 c3 ms w4 HR3b.out (by omega) HMS.out).mono ?_; rintro e w5 ⟨v5, l5, rfl, hf5, ho5, hb5⟩
          obtain ⟨a5, c5, rfl, hc5, hcm5, hr5⟩ := ho5.rows
          rw [hf5, HMT.out.2] at hr5
          have hlen5 := hr5.1
          have HR5 := Lib.hid hr5
          have HR4b : Hid (RowsAt w5 a4 k4 fl) := HR4.out.mod (S := fun _ => False) (Mod.of_same hb5) (by simp)
          have HR3c : Hid (MvsAt w5 a3 k3 ms) := HR3b.out.mod (S := fun _ => False) (Mod.of_same hb5) (by simp)
          have HB5 : Hid (Below w1.heap.size w1 w5) := below_step_ HB4.out hb5
          have hk5 : l5.length = k4 := by rw [← hlen5]; exact HR4.out.1
          clear ho5 hf5 hr5 hb5 hlen5 HR4 HB4 HR3b
          rw [hk5] at HR5 ⊢
          clear hk5
          go_wp2_with fail
          refine (EqualFunc_any a5 a4 k4 k4 c5 c4 fl fl w5 HR5.out HR4b.out (by omega)).mono ?_; rintro e w6 ⟨rfl, hb6⟩
          rw [decide_eq_true (rfl : fl = fl)]
          have HR3d : Hid (MvsAt w6 a3 k3 ms) := HR3c.out.mod (S := fun _ => False) (Mod.of_same hb6) (by simp)
          have HB6 : Hid (Below w1.heap.size w1 w6) := below_step_ HB5.out hb6
          clear hb6 HB5 HR3c HR5 HR4b
          go_wp2_with fail
          refine (MTurns_any a3 k3 c3 ms w6 HR3d.out (by omega) HMS.out).mono ?_; rintro e w7 ⟨rfl, hb7⟩
          have HB7 : Hid (Below w1.heap.size w1 w7) := below_step_ HB6.out hb7
          rw [HMT.out.1]
          clear hb7 HB6 HR3d HMS HMT
          go_wp2_with fail
          exact ⟨⟨k + 1, T + G, F + k4, by omega, by omega, by omega, by simp, by simp, by simp, HTK.out, HFK.out, HB7.out⟩, by simp [intOf]; omega⟩
        · obtain rfl : k = q := by omega
          have hTt : T = u := by rw [← HTS.out]; exact turnsSum_all hq1 u
          have hFv : F ≤ v := by rw [← HFS.out, ← HV.out]; exact framesSum_le es k
          have hFe : 4 ≤ k → F = v := fun h4 => by rw [← HFS.out, ← HV.out]; exact framesSum_all h4 HSL.out
          subst hTt
          have hFI : (F : Int) ≤ (v : Int) := by omega
          have hcs : (k : Int) < 4 ∨ ¬ (k : Int) < 4 ∧ F = v := by
            by_cases h4 : 4 ≤ k
            · exact .inr ⟨by omega, hFe h4⟩
            · exact .inl (by omega)
          have HB10 : Hid (Below W.heap.size W wr) := HB1.out.trans (HB9.out.mono HB1.out.size)
          clear hFe HTS HFS HU HV HSL HX1 HCX HB9 HB HB1
          rcases hcs with h4 | ⟨h4, h5⟩
          · go_wp2_with fail
            refine (awake42 _).mono ?_; rintro e w7 ⟨rfl, hb7⟩
            have HB7 : Hid (Below W.heap.size W w7) := HB10.out.trans (hb7.mono HB10.out.size)
            clear hb7 HB10
            go_wp2_with fail
            go_ret
            exact ⟨by first | rfl | simp, HB7.out⟩
          · subst h5
            go_wp2_with fail
            refine (awake42 _).mono ?_; rintro e w7 ⟨rfl, hb7⟩
            have HB7 : Hid (Below W.heap.size W w7) := HB10.out.trans (hb7.mono HB10.out.size)
            clear hb7 HB10
            go_wp2_with fail
            go_ret
            exact ⟨by first | rfl | simp, HB7.out⟩
end View
end Go.Proofs.YtdfmgneicdpjmaaGreat
