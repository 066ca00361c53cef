/- What moves bring: the iterator. -/
import Derived.Test.YtdfmgneicdpjmaaGreatTenH
namespace Go.Proofs.YtdfmgneicdpjmaaGreat
open Go.RowKit Go.Shelf
attribute [local go_sem] Oper.semAt_some
set_option linter.unusedVariables false
set_option linter.unusedSimpArgs false
set_option maxRecDepth 100000
namespace Resp

theorem row_one8_ {W : World} {base g c : Nat} {fr : Value} (h : W.ownsRow base 5 1 (.slice (some ⟨g, 0, none⟩) 1 c) 1 [fr]) : W.cell? ⟨g, 0, none⟩ = some fr := by
  rcases h.2 with ⟨hn, hk⟩ | ⟨g', cap', cur', hv, hb', hg', k1, k2, k3, k4⟩
  · cases hn
  · cases hv
    have h0 : (cur'.toList.take (1 * 1))[0]? = some fr := by rw [k4]; simp
    rw [List.getElem?_take, if_pos (by omega)] at h0
    simp [World.cell?, hg']; simpa using h0
theorem brought_any (I : Nat) (mv : Value) (hmv : ∃ a n c, mv = .slice a n c) (w : World) :
    Calls Tryz.prog 91 #[.pointer (some ⟨I, 0, none⟩), mv] w fun e w' => e = .returned (.func (.func 141) #[] #[.pointer (some ⟨w.heap.size + 1, 0, none⟩), .pointer (some ⟨w.heap.size, 0, none⟩)]) ∧ w' = (w.alloc (.cells #[.pointer (some ⟨I, 0, none⟩)] 148)).alloc (.cells #[mv] 50) := by
  obtain ⟨a, n, c, rfl⟩ := hmv
  go_enter Tryz.func91, Tryz.ntmps91
  go_wp2_with fail
  go_ret
  exact ⟨rfl, rfl⟩
/-- Behind k moves, of which at most one is a frame. -/
def BoxRun (W : World) (I B : Nat) (ms : List Bool) (k : Nat) : Prop :=
  (framesN (ms.take k) = 0 ∧ BoxAt W I B false (.slice none 0 0) 0 0 (k : Int) ∧ SlotAt W B 0) ∨ (framesN (ms.take k) = 1 ∧ (∃ a' c', BoxAt W I B false (.slice a' 0 c') 1 1 ((k - 1 : Nat) : Int)) ∧ SlotAt W B 1)
def RunSt (W0 : World) (n1 I B ba bb : Nat) (mv : Value) (ms : List Bool) (k : Nat) (W : World) : Prop :=
  W.heap[ba]? = some (.cells #[.pointer (some ⟨I, 0, none⟩)] 148) ∧ W.heap[bb]? = some (.cells #[mv] 50) ∧ (Below W0.heap.size W0 W ∧ n1 ≤ W.heap.size) ∧ BoxRun W I B ms k
def RunYa (W0 : World) (n1 I B ba bb : Nat) (mv : Value) (ms : List Bool) (k : Nat) (x : Value) (W : World) : Prop :=
  ((ms[k]?.getD true = true ∧ x = .slice none 0 0) ∨ (ms[k]?.getD true = false ∧ OutRow W n1 x 1)) ∧ RunSt W0 n1 I B ba bb mv ms (k + 1) W
theorem framesN_take_le (ms : List Bool) (k : Nat) : framesN (ms.take k) ≤ framesN ms ∧ framesN (ms.take k) ≤ k := by
  refine ⟨?_, Nat.le_trans (framesN_le _) (by simp; omega)⟩
  exact ((List.take_sublist k ms).filter _).length_le
theorem BoxRun.turn {W : World} {I B : Nat} {ms : List Bool} {k : Nat} (h : BoxRun W I B ms k) (hk : k ≤ 100) (hF : framesN (ms.take (k + 1)) = framesN (ms.take k)) : ∃ (fv : Value) (put ans : Int) (id s : Nat), BoxAt W I B false fv put ans (id : Int) ∧ SlotAt W B s ∧ id ≤ 100 ∧ ∀ W', BoxAt W' I B false fv put ans ((id : Int) + 1) → SlotAt W' B s → BoxRun W' I B ms (k + 1) := by
  rcases h with ⟨h0, h1, h2⟩ | ⟨h0, ⟨a', c', h1⟩, h2⟩
  · exact ⟨_, 0, 0, k, 0, h1, h2, hk, fun W' b1 b2 => .inl ⟨by rw [hF, h0], by simpa using b1, b2⟩⟩
  · have hk1 : 1 ≤ k := by have := (framesN_take_le ms k).2; omega
    refine ⟨_, 1, 1, k - 1, 1, h1, h2, by omega, fun W' b1 b2 => .inr ⟨by rw [hF, h0], ⟨a', c', ?_⟩, b2⟩⟩
    have e : (((k - 1 : Nat) : Int) + 1) = ((k + 1 - 1 : Nat) : Int) := by omega
    rw [← e]; exact b1
theorem BoxRun.mod {S : Nat → Prop} {W W' : World} {I B : Nat} {ms : List Bool} {k : Nat} (h : BoxRun W I B ms k) (hm : Mod S W W') (hI : ¬ S I) (hB : ¬ S B) : BoxRun W' I B ms k := by
  rcases h with ⟨h0, h1, h2⟩ | ⟨h0, ⟨a', c', h1⟩, h2⟩
  · exact .inl ⟨h0, h1.mod hm hI, h2.mod hm hB⟩
  · exact .inr ⟨h0, ⟨a', c', h1.mod hm hI⟩, h2.mod hm hB⟩
theorem OutRow.nil (W : World) (base : Nat) : OutRow W base (.slice none 0 0) 0 := ⟨[], rfl, owns_nil _ _ _ _, fun i hi => absurd hi (by simp)⟩
set_option maxHeartbeats 4000000 in
theorem brought1_st (m : Nat) (hm : 1 ≤ m) (W0 : World) (n1 I B ba bb : Nat) (mv : Value) (ms : List Bool) (hmv : MovesAt W0 mv ms) (hms : ms.length ≤ 100) (hf : framesN ms ≤ 1) (hI : W0.heap.size ≤ I) (hB : W0.heap.size ≤ B) (hIB : ¬ I = B) (haI : ¬ ba = I) (haB : ¬ ba = B) (hbI : ¬ bb = I) (hbB : ¬ bb = B) :
    SeqSt Fence.wide m Tryz.prog 141 #[.pointer (some ⟨bb, 0, none⟩), .pointer (some ⟨ba, 0, none⟩)] (fun x : Value => #[x]) (fun k => k = I ∨ k = B) (RunSt W0 n1 I B ba bb mv ms) (RunYa W0 n1 I B ba bb mv ms) ms.length := by
  intro l J W hS hJ hY h0
  obtain ⟨a, c, e⟩ := MovesAt.form hmv
  subst e
  have HMV := Lib.hid hmv
  have HS := Lib.hid hS
  have HJ := Lib.hid hJ
  have HY := Lib.hid hY
  have H0 := Lib.hid h0
  obtain ⟨hh1, hh2, -, -⟩ := hS
  have k2 := cell_of_heap_ hh2
  clear hmv hJ hY h0 hh1 hh2
  generalize hL : ms.length = L at *
  have HL := Lib.hid hL
  have hLI : (L : Int) ≤ 100 := by omega
  have HF := Lib.hid hf
  clear hL hf
  refine callsIn_of_wp Tryz.func141 rfl trivial ?_ rfl
  simp only [Tryz.ntmps141, List.size_toArray, List.length_cons, List.length_nil, Nat.reduceAdd, Nat.reduceSub, Array.replicate_succ, Array.replicate_zero, List.push_toArray, List.append_toArray, List.nil_append, List.cons_append]
  refine wpIn_wide.2 ?_
  go_wp2_with fail
  clear k2
  go_loopw [9] (fun i wr => ∃ k : Nat, k ≤ L ∧ i = .int .i64 k ∧ Hid (J k wr) ∧ Hid (RunSt W0 n1 I B ba bb (.slice a L c) ms k wr)) (fun i _ => L - (intOf i).toNat)
  case atStart => exact ⟨0, Nat.zero_le _, rfl, H0, HS⟩
  case round =>
    clear HS H0
    obtain ⟨k, hk, rfl, HJK, HST⟩ := hrel
    by_cases hlt : k < L
    · have hltI : (k : Int) < L := by omega
      have hlt2 : k < ms.length := by have := HL.out; omega
      obtain ⟨hh1, hh2, ⟨hb0, hn1⟩, hbr⟩ := HST.out
      obtain ⟨b, rfl, hbl, h1, h2⟩ := MovesAt.at_ (HMV.out.below hb0) hlt2
      have HH1 := Lib.hid hh1
      have HH2 := Lib.hid hh2
      have HB0 := Lib.hid hb0
      have HBR := Lib.hid hbr
      have HK := Lib.hid (framesN_take hlt2)
      have k1 := cell_of_heap_ hh1
      have HGET : Hid (ms[k]?.getD true = ms[k]) := by rw [Hid, List.getElem?_eq_getElem hlt2]; rfl
      clear hh1 hh2 hb0 hbr hbl
      rcases h2 with ⟨ht, h3⟩ | ⟨ht, g, cc, z, h3, h4⟩
      · rw [ht] at h1
        have HT := Lib.hid ht
        clear ht
        go_upto_region 5 with fail
        have hm1 : Mod (fun _ => False) wr (wr.alloc (.cells #[.bool true, .slice none 0 0] 80)) := (Mod.refl _ _).alloc _
        have HM1 := Lib.hid hm1
        have hnW := Nat.le_trans hn1 hm1.size
        clear hm1 h1 h3 k1 hn1
        generalize wr.alloc (.cells #[.bool true, .slice none 0 0] 80) = W1 at *
        generalize wr.heap.size = P at *
        have hFk : framesN (ms.take (k + 1)) = framesN (ms.take k) := by have := HK.out; rw [HT.out] at this; simpa using this
        obtain ⟨fv, put, ans, id, s, hbx, hsl, hid, hnx⟩ := BoxRun.turn (HBR.out.mod HM1.out (by simp) (by simp)) (by omega) hFk
        have HP1 := HM1.out.heap HH1.out (by simp)
        have k1 := cell_of_heap_ HP1
        have HTI := Lib.hid (TurnIdle I B fv put ans id (by omega) W1 hbx)
        have hms2 := mod_set_ W1 I 6 (.int .i64 ((id : Int) + 1))
        have HBR2 := Lib.hid (hnx (W1.setCell ⟨I, 6, none⟩ (.int .i64 ((id : Int) + 1))) (hbx.setIdle _) (hsl.mod hms2 (fun e => hIB e.symm)))
        have HM2 : Hid (Mod (fun q => q = I ∨ q = B) wr (W1.setCell ⟨I, 6, none⟩ (.int .i64 ((id : Int) + 1)))) := (HM1.out.mono (by simp)).trans (hms2.mono (fun _ _ h => .inl h))
        have hs12 := Nat.le_trans hnW hms2.size
        clear hbx hsl hnx hms2 HP1 hFk
        go_wp2_with fail
        refine HTI.out.mono ?_; rintro e W2 ⟨rfl, hW2⟩
        rw [← hW2] at HBR2 HM2 hs12
        clear k1 hW2
        go_upto_region 7 with fail
        have hX2 : Below W0.heap.size W0 W2 := HB0.out.trans (HM2.out.below HB0.out.size (fun q hq e => by omega))
        obtain ⟨fn, tmps, assign, body, hy, hR⟩ := HY.out k (.slice none 0 0) W2 hlt (HJ.out k wr W2 HJK.out HM2.out) (by
          rw [RunYa, HGET.out, HT.out]
          exact ⟨.inl ⟨rfl, rfl⟩, HM2.out.heap HH1.out (by omega), HM2.out.heap HH2.out (by omega), ⟨hX2, hs12⟩, HBR2.out⟩)
        clear hX2
        refine (wpIn_wide (n := m)).1 ?_
        gi_wp2
        refine hR.mono ?_
        rintro e W5 ⟨rfl, hJ5, hS5⟩
        gi_wp2
        have HS5 := Lib.hid hS5
        have HJ5 := Lib.hid hJ5
        clear hS5 hJ5 hR hy
        go_wp2_with fail
        exact ⟨⟨k + 1, by omega, by simp, HJ5, HS5⟩, by simp [intOf]; omega⟩
      · rw [ht] at h1
        have HT := Lib.hid ht
        clear ht
        go_upto_region 6 with fail
        have hm1 : Mod (fun _ => False) wr (wr.alloc (.cells #[.bool false, .slice (some ⟨g, 0, none⟩) 1 cc] 80)) := (Mod.refl _ _).alloc _
        have hP : (wr.alloc (.cells #[.bool false, .slice (some ⟨g, 0, none⟩) 1 cc] 80)).heap[wr.heap.size]? = some (.cells #[.bool false, .slice (some ⟨g, 0, none⟩) 1 cc] 80) := World.alloc_heap_new _ _
        have HM1 := Lib.hid hm1
        have HP := Lib.hid hP
        have HR1 := Lib.hid (reads_one_ (c := cc) (hm1.cell (by simp) h4))
        have hnW := Nat.le_trans hn1 hm1.size
        clear hm1 hP h1 h3 h4 k1 hn1
        have hPI : ¬ wr.heap.size = I ∧ ¬ wr.heap.size = B := by
          rcases HBR.out with ⟨-, h1, h2⟩ | ⟨-, ⟨a', c', h1⟩, h2⟩
          · have := h1.lt; have := h2.lt; omega
          · have := h1.lt; have := h2.lt; omega
        generalize wr.alloc (.cells #[.bool false, .slice (some ⟨g, 0, none⟩) 1 cc] 80) = W1 at *
        generalize wr.heap.size = P at *
        obtain ⟨hPI1, hPI2⟩ := hPI
        have hF0 : framesN (ms.take k) = 0 ∧ framesN (ms.take (k + 1)) = 1 := by
          have h1 := HK.out; rw [HT.out] at h1; simp at h1
          have h2 := (framesN_take_le ms (k + 1)).1
          have h3 := HF.out
          omega
        obtain ⟨hf0, hf1⟩ := hF0
        have hbs : BoxAt wr I B false (.slice none 0 0) 0 0 (k : Int) ∧ SlotAt wr B 0 := by
          rcases HBR.out with ⟨-, h1, h2⟩ | ⟨h0, -, -⟩
          · exact ⟨h1, h2⟩
          · omega
        have HBX := Lib.hid (hbs.1.mod HM1.out (by simp))
        have HSL := Lib.hid (hbs.2.mod HM1.out (by simp))
        have HP1 := Lib.hid (HM1.out.heap HH1.out (by simp))
        have HF1 := Lib.hid hf1
        clear hbs hf0 hf1
        have k1 := cell_of_heap_ HP1.out
        obtain ⟨-, p1, -, -⟩ := pair_cells_ HP.out
        go_region_held3 (fun W => W.cell? ⟨ba, 0, none⟩ = some (.pointer (some ⟨I, 0, none⟩)) ∧ W.cell? ⟨P, 1, none⟩ = some (.slice (some ⟨g, 0, none⟩) 1 cc))
          (first | (with_reducible exact HK2.out) | (with_reducible exact HK1.out) | exact ⟨k1, p1⟩ | go_keep)
          ((first
            | (go_at_call 59; refine (Clone_bytes _ [z] _ (by exact HR1.out) (by simp) (by simp)).mono ?_; rintro e y1 ⟨v1, rfl, ho1, hb1⟩; obtain ⟨a1, c1, e1⟩ := owns_form_pos_ ho1 (by simp); subst e1; have HY1 : Hid (Mod (fun _ => False) W1 y1) := Mod.of_same (below_step_ (by repeat (first | exact Below.refl _ _ | refine below_drew_ ?_ | refine below_alloc_ ?_ _)) hb1); have HO1 := Lib.hid ho1; have HBX1 := Lib.hid (HBX.out.mod HY1.out (by simp)); have HSL1 := Lib.hid (HSL.out.mod HY1.out (by simp)); have HK1 : Hid (y1.cell? ⟨ba, 0, none⟩ = some (.pointer (some ⟨I, 0, none⟩)) ∧ y1.cell? ⟨P, 1, none⟩ = some (.slice (some ⟨g, 0, none⟩) 1 cc)) := ⟨HY1.out.cell (by simp) k1, HY1.out.cell (by simp) p1⟩; clear hb1 ho1)
            | (go_at_call 143; refine (Put_one _ I B a1 c1 z (k : Int) (by exact HBX1.out) (by exact HSL1.out) (by exact row_one8_ HO1.out)).mono ?_; rintro e y2 ⟨v2, rfl, ho2, hb2, hs2, hm2⟩; have HY2 : Hid (Mod (fun q => q = I ∨ q = B) W1 y2) := (HY1.out.mono (by simp)).trans (Mod.trans (Mod.of_same (by repeat (first | exact Below.refl _ _ | refine below_drew_ ?_ | refine below_alloc_ ?_ _))) hm2); have HO2 := Lib.hid ho2; have HB2 := Lib.hid hb2; have HS2 := Lib.hid hs2; have HK2 : Hid (y2.cell? ⟨ba, 0, none⟩ = some (.pointer (some ⟨I, 0, none⟩)) ∧ y2.cell? ⟨P, 1, none⟩ = some (.slice (some ⟨g, 0, none⟩) 1 cc)) := ⟨cell_of_heap_ (HY2.out.heap HP1.out (by omega)), (pair_cells_ (HY2.out.heap HP.out (by omega))).2.1⟩; clear hm2 hb2 hs2 ho2)))
        have HM2 : Hid (Mod (fun q => q = I ∨ q = B) wr y2) := (HM1.out.mono (by simp)).trans HY2.out
        have hX2 : Below W0.heap.size W0 y2 := HB0.out.trans (HM2.out.below HB0.out.size (fun q hq e => by omega))
        have hsz : n1 ≤ y1.heap.size := Nat.le_trans hnW HY1.out.size
        have HOW : Hid (OutRow y2 n1 v2 1) := by
          obtain ⟨vs, hvl, hvo, hve⟩ := HO2.out
          exact ⟨vs, hvl, ownsRow_base hvo hsz, fun i hi => ownsRow_base (hve i hi) hsz⟩
        obtain ⟨xa, xc, e⟩ : ∃ xa xc, v2 = .slice xa 1 xc := by
          obtain ⟨vs, hvl, hvo, hve⟩ := HO2.out
          exact ownsRow_form hvo
        subst e
        have HBR2 : Hid (BoxRun y2 I B ms (k + 1)) := by
          obtain ⟨a', c', hb2⟩ := HB2.out
          exact .inr ⟨HF1.out, ⟨a', c', by simpa using hb2⟩, HS2.out⟩
        clear HK1 HK2 HBX1 HSL1 HO1 HBX HSL k1 p1
        go_upto_region 7 with fail
        obtain ⟨fn, tmps, assign, body, hy, hR⟩ := HY.out k (.slice xa 1 xc) y2 hlt (HJ.out k wr y2 HJK.out HM2.out) (by
          rw [RunYa, HGET.out, HT.out]
          exact ⟨.inr ⟨rfl, HOW.out⟩, HM2.out.heap HH1.out (by omega), HM2.out.heap HH2.out (by omega), ⟨hX2, Nat.le_trans hnW HY2.out.size⟩, HBR2.out⟩)
        clear hX2
        refine (wpIn_wide (n := m)).1 ?_
        gi_wp2
        refine hR.mono ?_
        rintro e W5 ⟨rfl, hJ5, hS5⟩
        gi_wp2
        have HS5 := Lib.hid hS5
        have HJ5 := Lib.hid hJ5
        clear hS5 hJ5 hR hy
        go_wp2_with fail
        exact ⟨⟨k + 1, by omega, by simp, HJ5, HS5⟩, by simp [intOf]; omega⟩
    · have hk2 : k = L := by omega
      subst hk2
      go_wp2_with fail
      go_end0
      exact ⟨⟨_, rfl⟩, HJK.out, HST.out⟩
end Resp
end Go.Proofs.YtdfmgneicdpjmaaGreat
