/- ViewBack: the walk. -/
import Derived.Test.YtdfmgneicdpjmaaGreatM50
import Derived.Test.YtdfmgneicdpjmaaGreatMadeLB
import Derived.Deep.RegionHeld3
import Derived.Deep.RegionWith
namespace Go.Proofs.YtdfmgneicdpjmaaGreat
open Go.RowKit Go.Shelf
set_option linter.unusedVariables false
set_option linter.unusedSimpArgs false
set_option maxRecDepth 100000
namespace View
open Resp

theorem filt_at (p : Ent → Bool) {es : List Ent} {t : Nat} (ht : t < es.length) (h : p es[t] = true) : (es.filter p)[((es.take t).filter p).length]? = some es[t] ∧ ((es.take t).filter p).length < (es.filter p).length ∧ ((es.take (t + 1)).filter p).length = ((es.take t).filter p).length + 1 := by
  have hs : es = es.take t ++ es[t] :: es.drop (t + 1) := by rw [List.getElem_cons_drop, List.take_append_drop]
  have hf : es.filter p = (es.take t).filter p ++ es[t] :: (es.drop (t + 1)).filter p := by
    conv => lhs; rw [hs]
    rw [List.filter_append, List.filter_cons_of_pos h]
  refine ⟨?_, ?_, ?_⟩
  · rw [hf, List.getElem?_append_right (Nat.le_refl _)]; simp
  · rw [hf]; simp
  · rw [List.take_succ_eq_append_getElem ht, List.filter_append, List.filter_cons_of_pos h]; simp
theorem filt_at_no (p : Ent → Bool) {es : List Ent} {t : Nat} (ht : t < es.length) (h : p es[t] = false) : ((es.take (t + 1)).filter p).length = ((es.take t).filter p).length := by
  rw [List.take_succ_eq_append_getElem ht, List.filter_append]
  simp [h]
theorem filter_sum (s : Int) (es : List Ent) : (es.filter (aloneP s)).length + (es.filter (othersP s)).length = es.length := by
  induction es with
  | nil => rfl
  | cons e t ih =>
    cases h : aloneP s e with
    | false =>
      have h2 : othersP s e = true := by rw [othersP_not, h]; rfl
      simp only [List.filter_cons, h, h2, if_true, Bool.false_eq_true, if_false, List.length_cons]; omega
    | true =>
      have h2 : othersP s e = false := by rw [othersP_not, h]; rfl
      simp only [List.filter_cons, h, h2, if_true, Bool.false_eq_true, if_false, List.length_cons]; omega
theorem mix_all_back {es : List Ent} (hc : Cln es) (hl : es.length ≤ 60) (s : Int) : mixE (es.filter (aloneP s)) (es.filter (othersP s)) (backAt s es 0) = 0 ∧ mixV (es.filter (aloneP s)) (es.filter (othersP s)) (backAt s es 0) = es := by
  have hsum := filter_sum s es
  have h1 : Cln (es.filter (aloneP s)) := ⟨by omega, fun e he => hc.2 e ((List.mem_filter.1 he).1)⟩
  have h2 : Cln (es.filter (othersP s)) := ⟨by omega, fun e he => hc.2 e ((List.mem_filter.1 he).1)⟩
  have hE : mixE (es.filter (aloneP s)) (es.filter (othersP s)) (backAt s es 0) = 0 := by
    unfold mixE
    rw [if_pos (h1.wrg2 h2 (by omega) (by omega)), if_pos (back_ok s es), if_pos (by omega)]
  refine ⟨hE, ?_⟩
  unfold mixV
  rw [if_pos hE]
  exact mix_back s es 0
theorem wrap_succ_ (p : Nat) (h : p ≤ 1000000) : IntKind.i64.wrap ((p : Int) + 1) = (p : Int) + 1 := by rw [IntKind.wrap_i64]; omega
set_option maxHeartbeats 1000000 in
theorem back_law (a0 : Option Addr) (n0 c0 : Nat) (l0 : List Sml) (slot : Int) (hs0 : 0 ≤ slot) (hs1 : slot ≤ 255) (W : World) (h0 : SmallAt W a0 n0 l0) (hc0 : n0 ≤ c0) (hd0 : c0 ≤ maxLen) (hb0 : ∀ e ∈ l0, e.bytes.size ≤ 140737488351232) :
    Calls Tryz.prog 6 #[.slice a0 n0 c0, .int .u8 slot] W fun e w' => e = .returned (.bool true) ∧ Below W.heap.size W w' := by
  obtain ⟨i1, ji, jz0, jz1, jz2⟩ := info_parts infoInt
  have HM0 := Lib.hid (Made_cl a0 n0 c0 l0 W h0 hc0 hd0 hb0)
  clear h0 hb0 hc0 hd0
  obtain ⟨s, hs⟩ : ∃ s : Int, slot % 5 = s := ⟨_, rfl⟩
  have hsq0 : 0 ≤ s := by omega
  have hsq1 : s < 5 := by omega
  go_enter Tryz.func6, Tryz.ntmps6
  go_wp2_with fail
  refine HM0.out.mono ?_; rintro e w1 ⟨b, m, d, es, rfl, hm, ho, hl, hcl, hb1⟩
  have hm60 : m ≤ 60 := by omega
  have HB1 := Lib.hid hb1
  have HX1 := Lib.hid ho.at_
  have HCX := Lib.hid hcl
  clear hm ho hl hcl hb1 HM0
  go_upto_region 2 with fail
  clear hs
  have HW1 := Lib.hid (HCX.out.wrg1 (s := s) hsq0 (by omega))
  have hmx : m ≤ maxLen := by unfold maxLen; omega
  go_wp2_with fail
  refine (Alone_yes s b m d es w1 HX1.out hmx HW1.out).mono ?_; rintro e w2 ⟨v2, rfl, ho2, hb2⟩
  obtain ⟨ab, ac, rfl⟩ := ho2.form
  have HB2 : Hid (Below W.heap.size W w2) := HB1.out.trans (hb2.mono HB1.out.size)
  have HX2 := Lib.hid (HX1.out.below hb2)
  have HA2 := Lib.hid ho2.at_
  clear ho2 hb2 HB1 HX1
  go_wp2_with fail
  refine (Others_yes s b m d es w2 HX2.out hmx HW1.out).mono ?_; rintro e w3 ⟨v3, rfl, ho3, hb3⟩
  obtain ⟨ob, oc, e3, h3c, h3m, h3s⟩ := ho3.scr
  subst e3
  have HB3 : Hid (Below W.heap.size W w3) := HB2.out.trans (hb3.mono HB2.out.size)
  have HX3 := Lib.hid (HX2.out.below hb3)
  have HA3 := Lib.hid (HA2.out.below hb3)
  have HO3 := Lib.hid h3s
  clear ho3 hb3 HB2 HX2 HA2 h3s
  have hsum := filter_sum s es
  have hem := HX3.out.1
  obtain ⟨na, hna⟩ : ∃ na, (es.filter (aloneP s)).length = na := ⟨_, rfl⟩
  obtain ⟨no, hno⟩ : ∃ no, (es.filter (othersP s)).length = no := ⟨_, rfl⟩
  have HNA := Lib.hid hna
  have HNO := Lib.hid hno
  rw [hna, hno, hem] at hsum
  rw [hna] at HA3
  rw [hno] at HO3 h3c
  rw [hna, hno]
  have hsI : (na : Int) + (no : Int) = (m : Int) := by omega
  clear hna hno hem
  go_upto_region 8 with fail
  go_wp2_with fail
  go_loopw [11, 12, 13, 14, 52, 16] (fun za bf ai ok ix _ wr => ∃ (t p q : Nat) (zb : Option Addr) (zc : Nat), t ≤ m ∧ p ≤ t ∧ q ≤ t ∧ ix = .int .i64 t ∧ bf = .int .i64 p ∧ ai = .int .i64 p ∧ ok = .int .i64 q ∧ za = .slice zb q zc ∧ Hid (((es.take t).filter (aloneP s)).length = p) ∧ Hid (((es.take t).filter (othersP s)).length = q) ∧ Hid (wr.ownsRow w3.heap.size 3 1 (.slice zb q zc) q (Eng.i64s (backAt s (es.take t) 0))) ∧ Hid (Below w3.heap.size w3 wr)) (fun _ _ _ _ ix _ _ => m - (intOf ix).toNat)
  case atStart => exact ⟨0, 0, 0, none, 0, Nat.zero_le _, Nat.le_refl _, Nat.le_refl _, rfl, rfl, rfl, rfl, rfl, rfl, rfl, owns_nil _ _ _ _, Below.refl _ _⟩
  case round =>
    obtain ⟨t, p, q, zb, zc, ht, hpt, hqt, rfl, rfl, rfl, rfl, rfl, HP, HQ, HZ, HB⟩ := hrel
    by_cases hlt : t < m
    · have hltI : (t : Int) < m := by omega
      have hte : t < es.length := by have := HX3.out.1; omega
      have HXw := Lib.hid (HX3.out.below HB.out)
      have HAw := Lib.hid (HA3.out.below HB.out)
      have HOw := Lib.hid (HO3.out.below HB.out)
      obtain ⟨b1, o1, v1, sa, sc, rfl, hbl, c0, c1, c2, c3, hst, rfl⟩ := HXw.out.at_ hte
      have hm1 : Mod (fun _ => False) wr (wr.alloc (.cells #[.int .u8 es[t].kind, .int .i64 es[t].slot, .int .i64 es[t].n, .slice sa es[t].bytes.size sc] 38)) := (Mod.refl _ _).alloc _
      have HPP := Lib.hid (World.alloc_heap_new wr (.cells #[.int .u8 es[t].kind, .int .i64 es[t].slot, .int .i64 es[t].n, .slice sa es[t].bytes.size sc] 38))
      have HV1 := Lib.hid (hst.mod hm1 (by simp))
      have HB1 := Lib.hid (HB.out.trans (hm1.below HB.out.size (by simp)))
      have HZ1 := Lib.hid (ownsRow_mod HZ.out hm1 (by simp))
      have hsz1 := hm1.size
      have HA1 : Hid (ScrAt (wr.alloc (.cells #[.int .u8 es[t].kind, .int .i64 es[t].slot, .int .i64 es[t].n, .slice sa es[t].bytes.size sc] 38)) ab na (es.filter (aloneP s))) := HAw.out.mod hm1 (by simp)
      have HO1 : Hid (ScrAt (wr.alloc (.cells #[.int .u8 es[t].kind, .int .i64 es[t].slot, .int .i64 es[t].n, .slice sa es[t].bytes.size sc] 38)) ob no (es.filter (othersP s))) := HOw.out.mod hm1 (by simp)
      have HBT := Lib.hid (backAt_take (s := s) hte)
      have HFA := Lib.hid (filt_at (aloneP s) hte)
      have HFN := Lib.hid (filt_at_no (aloneP s) hte)
      have HGA := Lib.hid (filt_at (othersP s) hte)
      have HGN := Lib.hid (filt_at_no (othersP s) hte)
      have ht1 : t ≤ 1000000 := by omega
      have hp1 : p ≤ 1000000 := by omega
      have hq1 : q ≤ 1000000 := by omega
      have hv1 := wrap_succ_ t ht1
      have hv2 := wrap_succ_ p hp1
      have hv3 := wrap_succ_ q hq1
      have hp60 : (p : Int) ≤ 60 := by omega
      have hq60 : (q : Int) ≤ 60 := by omega
      have ht60 : (t : Int) ≤ 60 := by omega
      generalize es[t] = z at *
      clear hst hm1 HXw HAw HOw hbl
      go_upto_region 11 with fail
      clear c0 c1 c2 c3
      generalize wr.alloc (.cells #[.int .u8 z.kind, .int .i64 z.slot, .int .i64 z.n, .slice sa z.bytes.size sc] 38) = W1 at *
      generalize wr.heap.size = P at *
      obtain ⟨p0, p1, p2, p3, -⟩ := quad_cells_ HPP.out
      have hsame : sameB ⟨z.kind, z.slot, z.n, z.bytes⟩ ⟨z.kind, z.slot, z.n, z.bytes⟩ = true := by simp [sameB]
      cases hal : aloneP s z with
      | true =>
        obtain ⟨g1, g2, g3⟩ := HFA.out hal
        have g4 := HGN.out (by rw [othersP_not, hal]; rfl)
        rw [HP.out] at g1 g2 g3
        rw [HNA.out] at g2
        obtain ⟨b2, o2, v2, sa2, sc2, rfl, hbl2, d0, d1, d2, d3, hst2, rfl⟩ := HA1.out.at_ (show p < (es.filter (aloneP s)).length by rw [HNA.out]; exact g2)
        have hz2 : (es.filter (aloneP s))[p]'(by rw [HNA.out]; exact g2) = z := (List.getElem?_eq_some_iff.1 g1).2
        rw [hz2] at d0 d1 d2 d3 hst2
        have HV2 := Lib.hid hst2
        have HG3 := Lib.hid g3
        have HG4 := Lib.hid g4
        have hpI : (p : Int) < (na : Int) := by omega
        have hge : decide (na ≤ p) = false := decide_eq_false (by omega)
        clear g1 g3 g4 hz2 hst2 hbl2
        have hcc : z.kind = 2 ∨ (¬ z.kind = 2 ∧ z.kind = 1 ∧ z.slot = s) := by
          have h9 := hal
          simp only [aloneP, ownB, Bool.or_eq_true, Bool.and_eq_true, beq_iff_eq] at h9
          omega
        rcases hcc with hk | ⟨hk, hk1, hk2⟩
        all_goals (go_upto_region 12 with fail)
        all_goals (first | (clear hk hk1 hk2) | (clear hk))
        all_goals (
          go_region_held3 (fun w => w.cell? ⟨P, 0, none⟩ = some (.int .u8 z.kind) ∧ w.cell? ⟨P, 1, none⟩ = some (.int .i64 z.slot) ∧ w.cell? ⟨P, 2, none⟩ = some (.int .i64 z.n) ∧ w.cell? ⟨P, 3, none⟩ = some (.slice sa z.bytes.size sc) ∧ w.cell? ⟨b2, o2 + p * 4, none⟩ = some (.int .u8 z.kind) ∧ w.cell? ⟨b2, o2 + p * 4 + 1, none⟩ = some (.int .i64 z.slot) ∧ w.cell? ⟨b2, o2 + p * 4 + 2, none⟩ = some (.int .i64 z.n) ∧ w.cell? ⟨b2, o2 + p * 4 + 3, none⟩ = some (.slice sa2 z.bytes.size sc2))
            (first | (with_reducible exact HK1.out) | exact ⟨p0, p1, p2, p3, d0, d1, d2, d3⟩ | go_keep)
            ((go_at_call 22; refine (Same_any _ _ _ _ _ _ _ _ z.bytes z.bytes _ (by exact HV2.out) (by exact HV1.out)).mono ?_; rintro e y1 ⟨he, hb1⟩; rw [hsame] at he; subst he; have HY1 : Hid (Mod (fun _ => False) W1 y1) := Mod.of_same (below_step_ (by repeat (first | exact Below.refl _ _ | refine below_drew_ ?_ | refine below_alloc_ ?_ _)) hb1); have HK1 : Hid (y1.cell? ⟨P, 0, none⟩ = some (.int .u8 z.kind) ∧ y1.cell? ⟨P, 1, none⟩ = some (.int .i64 z.slot) ∧ y1.cell? ⟨P, 2, none⟩ = some (.int .i64 z.n) ∧ y1.cell? ⟨P, 3, none⟩ = some (.slice sa z.bytes.size sc) ∧ y1.cell? ⟨b2, o2 + p * 4, none⟩ = some (.int .u8 z.kind) ∧ y1.cell? ⟨b2, o2 + p * 4 + 1, none⟩ = some (.int .i64 z.slot) ∧ y1.cell? ⟨b2, o2 + p * 4 + 2, none⟩ = some (.int .i64 z.n) ∧ y1.cell? ⟨b2, o2 + p * 4 + 3, none⟩ = some (.slice sa2 z.bytes.size sc2)) := ⟨HY1.out.cell (by simp) p0, HY1.out.cell (by simp) p1, HY1.out.cell (by simp) p2, HY1.out.cell (by simp) p3, HY1.out.cell (by simp) d0, HY1.out.cell (by simp) d1, HY1.out.cell (by simp) d2, HY1.out.cell (by simp) d3⟩; clear hb1))
          have HZ3 : Hid (y1.ownsRow w3.heap.size 3 1 (.slice zb q zc) q (Eng.i64s (backAt s (es.take (t + 1)) 0))) := by
            have h1 := ownsRow_mod HZ1.out HY1.out (by simp)
            rw [Hid, HBT.out, if_pos hal, List.append_nil]
            exact h1
          have HB3' := Lib.hid (HB1.out.trans (HY1.out.below HB1.out.size (by simp)))
          rename_i hHeld0
          clear hHeld0 HK1
          clear hsum hsI d0 d1 d2 d3 p0 p1 p2 p3 hge hpI hal hsame hmx h3m h3c hsz1 hte
          go_wp2_with fail
          exact ⟨⟨t + 1, p + 1, q, zb, zc, by omega, by omega, by omega, by simp, by simp, by simp, rfl, rfl, HG3.out, HG4.out.trans HQ.out, HZ3.out, HB3'.out⟩, by simp [intOf]; omega⟩)
      | false =>
        have hot : othersP s z = true := by rw [othersP_not, hal]; rfl
        obtain ⟨g1, g2, g3⟩ := HGA.out hot
        have g4 := HFN.out hal
        rw [HQ.out] at g1 g2 g3
        rw [HNO.out] at g2
        obtain ⟨b2, o2, v2, sa2, sc2, rfl, hbl2, d0, d1, d2, d3, hst2, rfl⟩ := HO1.out.at_ (show q < (es.filter (othersP s)).length by rw [HNO.out]; exact g2)
        have hz2 : (es.filter (othersP s))[q]'(by rw [HNO.out]; exact g2) = z := (List.getElem?_eq_some_iff.1 g1).2
        rw [hz2] at d0 d1 d2 d3 hst2
        have HV2 := Lib.hid hst2
        have HG3 := Lib.hid g3
        have HG4 := Lib.hid g4
        have hpI : (q : Int) < (no : Int) := by omega
        have hge : decide (no ≤ q) = false := decide_eq_false (by omega)
        clear g1 g3 g4 hz2 hst2 hbl2 hot
        have hcc : (¬ z.kind = 2 ∧ ¬ z.kind = 1) ∨ (¬ z.kind = 2 ∧ z.kind = 1 ∧ ¬ z.slot = s) := by
          have h9 := hal
          simp only [aloneP, ownB, Bool.or_eq_false_iff, Bool.and_eq_false_iff, beq_eq_false_iff_ne, ne_eq] at h9
          omega
        rcases hcc with ⟨hk, hk1⟩ | ⟨hk, hk1, hk2⟩
        all_goals (go_upto_region 16 with fail)
        all_goals (first | (clear hk hk1 hk2) | (clear hk hk1))
        all_goals (
          go_region_held3 (fun w => w.cell? ⟨P, 0, none⟩ = some (.int .u8 z.kind) ∧ w.cell? ⟨P, 1, none⟩ = some (.int .i64 z.slot) ∧ w.cell? ⟨P, 2, none⟩ = some (.int .i64 z.n) ∧ w.cell? ⟨P, 3, none⟩ = some (.slice sa z.bytes.size sc) ∧ w.cell? ⟨b2, o2 + q * 4, none⟩ = some (.int .u8 z.kind) ∧ w.cell? ⟨b2, o2 + q * 4 + 1, none⟩ = some (.int .i64 z.slot) ∧ w.cell? ⟨b2, o2 + q * 4 + 2, none⟩ = some (.int .i64 z.n) ∧ w.cell? ⟨b2, o2 + q * 4 + 3, none⟩ = some (.slice sa2 z.bytes.size sc2))
            (first | (with_reducible exact HK1.out) | exact ⟨p0, p1, p2, p3, d0, d1, d2, d3⟩ | go_keep)
            ((go_at_call 22; refine (Same_any _ _ _ _ _ _ _ _ z.bytes z.bytes _ (by exact HV2.out) (by exact HV1.out)).mono ?_; rintro e y1 ⟨he, hb1⟩; rw [hsame] at he; subst he; have HY1 : Hid (Mod (fun _ => False) W1 y1) := Mod.of_same (below_step_ (by repeat (first | exact Below.refl _ _ | refine below_drew_ ?_ | refine below_alloc_ ?_ _)) hb1); have HK1 : Hid (y1.cell? ⟨P, 0, none⟩ = some (.int .u8 z.kind) ∧ y1.cell? ⟨P, 1, none⟩ = some (.int .i64 z.slot) ∧ y1.cell? ⟨P, 2, none⟩ = some (.int .i64 z.n) ∧ y1.cell? ⟨P, 3, none⟩ = some (.slice sa z.bytes.size sc) ∧ y1.cell? ⟨b2, o2 + q * 4, none⟩ = some (.int .u8 z.kind) ∧ y1.cell? ⟨b2, o2 + q * 4 + 1, none⟩ = some (.int .i64 z.slot) ∧ y1.cell? ⟨b2, o2 + q * 4 + 2, none⟩ = some (.int .i64 z.n) ∧ y1.cell? ⟨b2, o2 + q * 4 + 3, none⟩ = some (.slice sa2 z.bytes.size sc2)) := ⟨HY1.out.cell (by simp) p0, HY1.out.cell (by simp) p1, HY1.out.cell (by simp) p2, HY1.out.cell (by simp) p3, HY1.out.cell (by simp) d0, HY1.out.cell (by simp) d1, HY1.out.cell (by simp) d2, HY1.out.cell (by simp) d3⟩; clear hb1))
          have HZ3 : Hid (y1.ownsRow w3.heap.size 3 1 (.slice zb q zc) q (Eng.i64s (backAt s (es.take t) 0))) := ownsRow_mod HZ1.out HY1.out (by simp)
          have HB3' : Hid (Below w3.heap.size w3 y1) := HB1.out.trans (HY1.out.below HB1.out.size (by simp))
          have hsz3 := HB3'.out.size
          rename_i hHeld0
          clear hHeld0 HK1 HZ1
          clear hsum hsI d0 d1 d2 d3 p0 p1 p2 p3 hge hpI hsame hmx h3m h3c hsz1 hte
          go_wp2_with (at_builtin; refine wpList_append_own _ rfl _ _ 30 rfl w3.heap.size 3 i1 _ 1 8 Tryz.underlying30 ji jz0 jz1 jz2 rfl (by decide) (.slice zb q zc) q _ rfl (HZ3.out.alloc _) ⟨y1.heap.size, 0, none⟩ 1 1 [.int .i64 (p : Int)] rfl rfl (cell_one_new _ _ _) (by simp [Value.oneCell']) (by unfold maxLen; omega) (by omega) (by simp; omega) ?_; intro v' w4 hown' hgrow' hat'; obtain ⟨g4b, c4b, e4b⟩ := owns_form_pos_ hown' (by omega); subst e4b; have HO4 := Lib.hid hown'; have HM4 : Hid (Mod (fun k => some k = (Value.slice zb q zc).ownBlock) y1 w4) := ((Mod.refl _ y1).alloc _).trans (Mod.of_grownBy hgrow'); clear hown' hgrow' hat')
          have HZ5 : Hid (w4.ownsRow w3.heap.size 3 1 (.slice (some ⟨g4b, 0, none⟩) (q + 1) c4b) (q + 1) (Eng.i64s (backAt s (es.take (t + 1)) 0))) := by
            have h1 := HO4.out
            have h2 := HBT.out
            rw [if_neg (by rw [hal]; decide), HP.out] at h2
            rw [Hid, h2]
            simpa [Eng.i64s] using h1
          have HB5 : Hid (Below w3.heap.size w3 w4) := HB3'.out.trans (HM4.out.below HB3'.out.size (fun k hk e => by have := ownBlock_ge_ HZ3.out e.symm; omega))
          exact ⟨⟨t + 1, p, q + 1, some ⟨g4b, 0, none⟩, c4b, by omega, by omega, by omega, by simp, rfl, rfl, by simp, rfl, HG4.out.trans HP.out, HG3.out, HZ5.out, HB5.out⟩, by simp [intOf]; omega⟩)
    · obtain rfl : t = m := by omega
      have hte : es.take t = es := List.take_of_length_le (by have := HX3.out.1; omega)
      have HAw : Hid (ScrAt wr ab na (es.filter (aloneP s))) := HA3.out.below HB.out
      have HOw : Hid (ScrAt wr ob no (es.filter (othersP s))) := HO3.out.below HB.out
      have HXw : Hid (ScrAt wr b t es) := HX3.out.below HB.out
      have HBw : Hid (Below W.heap.size W wr) := HB3.out.trans (HB.out.mono HB3.out.size)
      have hz9 := HZ.out
      rw [hte] at hz9
      have hml := mix_all_back HCX.out (by have := HX3.out.1; omega) s
      have hmx := Mix_all ab ob zb q ac oc zc (es.filter (aloneP s)) (es.filter (othersP s)) (backAt s es 0) wr (by rw [HNA.out]; exact HAw.out) (by rw [HNO.out]; exact HOw.out) (by rw [HNA.out]; omega) (by rw [HNO.out]; exact h3c) h3m (Reads.of_owns hz9) (by rw [backAt_len, HNO.out]; omega)
      rw [hml.1, hml.2, HNA.out, HNO.out] at hmx
      have HMX := Lib.hid hmx
      clear hmx hml hz9 hte HZ HB HB3 HX3 HA3 HO3 HP HQ hsum hsI h3c h3m
      go_wp2_with fail
      refine HMX.out.mono ?_; rintro e w5 ⟨v5, rfl, ho5, hb5⟩
      obtain ⟨a5, c5, rfl⟩ := ho5.form
      have HX5 := Lib.hid (HXw.out.below hb5)
      have HY5 := Lib.hid ho5.at_
      have hl5 : es.length = t := HXw.out.1
      have HB5 : Hid (Below W.heap.size W w5) := HBw.out.trans (hb5.mono HBw.out.size)
      clear ho5 hb5 HMX HAw HOw HXw HBw
      rw [hl5] at HY5 ⊢
      clear hl5
      go_wp2_with fail
      refine (same_any a5 b t t c5 d es es w5 HY5.out HX5.out (by omega)).mono ?_; rintro e w6 ⟨rfl, hb6⟩
      rw [decide_eq_true (rfl : es = es)]
      have HB6 : Hid (Below W.heap.size W w6) := HB5.out.trans (hb6.mono HB5.out.size)
      clear hb6 HB5 HX5 HY5
      go_wp2_with fail
      refine (awake42 w6).mono ?_; rintro e w7 ⟨rfl, hb7⟩
      have HB7 : Hid (Below W.heap.size W w7) := HB6.out.trans (hb7.mono HB6.out.size)
      clear hb7 HB6
      go_wp2_with fail
      go_ret
      exact ⟨by first | rfl | simp, HB7.out⟩
end View
end Go.Proofs.YtdfmgneicdpjmaaGreat
