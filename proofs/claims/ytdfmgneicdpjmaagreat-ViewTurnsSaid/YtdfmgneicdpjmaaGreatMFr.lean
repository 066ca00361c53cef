/- model.Frames and model.Turns over any moves. -/
import Derived.Test.YtdfmgneicdpjmaaGreatM50
import Derived.Test.YtdfmgneicdpjmaaGreatM11
namespace Go.Proofs.YtdfmgneicdpjmaaGreat
open Go.RowKit Go.Shelf
set_option linter.unusedVariables false
set_option linter.unusedSimpArgs false
set_option maxRecDepth 100000
namespace View
open Resp App

theorem movFrames_take {ms : List (Bool × ByteArray)} {k : Nat} (h : k < ms.length) : movFrames (ms.take (k + 1)) = movFrames (ms.take k) ++ if ms[k].1 = true then [] else [ms[k].2] := by
  rw [List.take_succ_eq_append_getElem h, movFrames_append]
  cases h9 : ms[k].1 <;> simp [movFrames, h9]
set_option maxHeartbeats 1000000 in
theorem MFrames_any (a : Option Addr) (n c : Nat) (ms : List (Bool × ByteArray)) (W : World) (h : MvsAt W a n ms) (hn : n ≤ 100000) (hsz : ∀ m ∈ ms, m.1 = false → m.2.size ≤ 140737488351232) :
    Calls Tryz.prog 32 #[.slice a n c] W fun e w' => ∃ vo l, e = .returned vo ∧ l.map Prod.fst = movFrames ms ∧ ORow bytSh w' W.heap.size vo l ∧ Below W.heap.size W w' := by
  obtain ⟨i1, hi, hz0, hz1, hz2⟩ := info_parts infoBytes
  obtain ⟨i2, ki, kz0, kz1, kz2⟩ := info_parts infoByte
  have HM := Lib.hid h
  have HS := Lib.hid hsz
  have HL := Lib.hid h.1
  have hmI : (n : Int) ≤ 100000 := by omega
  clear h hsz
  generalize hX : W.heap.size = X at *
  have HX := Lib.hid hX
  clear hX
  go_enter Tryz.func32, Tryz.ntmps32
  go_wp2_with fail
  go_loopw [3, 8] (fun d i wr => ∃ (k q : Nat) (ad : Option Addr) (cd : Nat) (ll : List (ByteArray × Value)), k ≤ n ∧ q ≤ k ∧ i = .int .i64 k ∧ d = .slice ad q cd ∧ Hid (ll.length = q) ∧ Hid (ll.map Prod.fst = movFrames (ms.take k)) ∧ Hid (ORow bytSh wr X (.slice ad q cd) ll) ∧ Hid (Below X W wr)) (fun _ i _ => n - (intOf i).toNat)
  case atStart => exact ⟨0, 0, none, 0, [], Nat.zero_le _, Nat.le_refl _, rfl, rfl, rfl, rfl, ORow.nil _ _ _, Below.refl _ _⟩
  case round =>
    obtain ⟨k, q, ad, cd, ll, hk, hq, rfl, rfl, HQ, HF, HO, HB⟩ := hrel
    by_cases hlt : k < n
    · have hltI : (k : Int) < n := by omega
      have hlt2 : k < ms.length := by have := HL.out; omega
      have hmw : Mod (fun _ => False) W wr := Mod.of_same (by have := HB.out; rw [← HX.out] at this; exact this)
      obtain ⟨b, o, v, sa, sc, rfl, hbl, g1, g2, g3, rfl⟩ := (HM.out.mod hmw (by simp)).at_ hlt2
      have hXr : X ≤ wr.heap.size := by have := HX.out; have := hmw.size; omega
      have HK := Lib.hid (movFrames_take hlt2)
      have HZ := Lib.hid (HS.out _ (List.getElem_mem hlt2))
      clear hmw
      generalize ms[k] = z at *
      cases ht : z.1 with
      | true =>
        rw [ht] at g1 HK
        have HKK : Hid (movFrames (ms.take (k + 1)) = movFrames (ms.take k)) := Lib.hid (by have := HK.out; simpa using this)
        clear HK HZ g3 ht
        go_wp2_with fail
        exact ⟨⟨k + 1, q, ad, cd, ll, by omega, by omega, by simp, rfl, HQ.out, HF.out.trans HKK.out.symm, HO.out.mod ((Mod.refl (fun _ => False) _).alloc _) (by simp), HB.out.trans ((Below.refl _ _).alloc hXr _)⟩, by simp [intOf]; omega⟩
      | false =>
        have hzz := HZ.out ht
        rw [ht] at g1 HK
        have HKK : Hid (movFrames (ms.take (k + 1)) = movFrames (ms.take k) ++ [z.2]) := Lib.hid (by have := HK.out; simpa using this)
        obtain ⟨zs, hr, hzs⟩ := g3
        have hs2 : z.2.size = zs.length := by rw [← hzs]; exact strOfNums_size _
        rw [hs2] at hr g2 hzz
        have HSRC := Lib.hid (SrcAt.bytes hr)
        have HZS := Lib.hid hzs
        obtain ⟨zl, hzl⟩ : ∃ zl, zs.length = zl := ⟨_, rfl⟩
        rw [hzl] at HSRC g2 hzz
        have HZL := Lib.hid hzl
        have hzI : (zl : Int) ≤ 140737488351232 := by omega
        clear HK HZ ht hr hzs hs2 hzl
        go_upto_region 6 with fail
        have hW1 : (wr.alloc (.cells #[.bool false, .slice sa zl sc] 80)).heap[wr.heap.size]? = some (.cells #[.bool false, .slice sa zl sc] 80) := World.alloc_heap_new _ _
        obtain ⟨-, c1, -, -⟩ := pair_cells_ hW1
        have hm1 : Mod (fun _ => False) wr (wr.alloc (.cells #[.bool false, .slice sa zl sc] 80)) := (Mod.refl _ _).alloc _
        have HSRC1 := Lib.hid (HSRC.out.mod hm1 (by simp))
        have HO1 := Lib.hid (HO.out.mod hm1 (by simp))
        have HB1 := Lib.hid (HB.out.trans (hm1.below hXr (by simp)))
        have hX1 := Nat.le_trans hXr hm1.size
        clear HO HB hm1 g1 g2 hW1 HSRC
        generalize wr.alloc (.cells #[.bool false, .slice sa zl sc] 80) = W1 at *
        generalize wr.heap.size = P at *
        have c1' : (W1.alloc (.cells #[] 5)).cell? ⟨P, 1, none⟩ = some (.slice sa zl sc) := ((Mod.refl (fun _ => False) W1).alloc _).cell (by simp) c1
        have HSRC2 : Hid (SrcAt (W1.alloc (.cells #[] 5)) (.slice sa zl sc) zl 1 (u8s zs)) := HSRC1.out.below ((Below.refl _ _).alloc (Nat.le_refl _) _)
        have HLT : Hid (∀ x ∈ ll, ∀ g, x.2.ownBlock = some g → g < W1.heap.size) := fun x hx g hg => by obtain ⟨ys, y1, -⟩ := HO1.out.2.1 x hx; exact ownBlock_lt_ y1 hg
        go_wp2_with (at_builtin; first
          | (refine wpList_app _ rfl _ _ 25 rfl W1.heap.size 5 i2 (.int .u8 0) 1 1 Tryz.underlying25 ki kz0 kz1 kz2 rfl (by decide) (.slice (some ⟨W1.heap.size, 0, none⟩) 0 0) 0 [] rfl (World.ownsRow_lit W1 #[] 0 (Nat.le_refl _) (by unfold maxLen; omega) rfl) (.slice sa zl sc) zl (u8s zs) rfl HSRC2.out (u8s_one _) (by unfold maxLen; omega) (by omega) (by simp) _ rfl ?_; intro a' c' w3 hown' hgrow hat; simp only [Nat.zero_add, List.nil_append] at hown' hgrow hat ⊢; have hgr' : (W1.alloc (.cells #[] 5)).grownBy w3 (Value.slice (some ⟨W1.heap.size, 0, none⟩) 0 0).ownBlock := hgrow; have HM3 := Lib.hid (((Mod.refl _ W1).alloc _).trans (Mod.of_grownBy hgr')); have HB3 : Hid (Below W1.heap.size W1 w3) := HM3.out.below (Nat.le_refl _) (fun q hq e => by simp [Value.ownBlock] at e; omega); have HE3 : Hid (FreshB w3 W1.heap.size (.slice a' zl c') z.2) := ⟨zs, by rw [HZL.out]; exact hown', HZS.out⟩; have HO3 : Hid (ORow bytSh w3 X (.slice ad q cd) ll) := HO1.out.mod (Mod.of_same (S := fun _ => False) HB3.out) (by simp); have HR3 : Hid (w3.ownsRow X 25 1 (.slice ad q cd) q (bytSh.flat ll)) := (by have := HO3.out.1; rw [HQ.out] at this; exact this); have hs3 := HB3.out.size; clear hown' hgrow hat hgr' HO1 HSRC1 HSRC2)
          | (refine wpList_append_own _ rfl _ _ 22 rfl X 25 i1 (.slice none 0 0) 1 24 Tryz.underlying22 hi hz0 hz1 hz2 rfl (by decide) (.slice ad q cd) q _ rfl (HR3.out.alloc _) ⟨w3.heap.size, 0, none⟩ 1 1 [.slice a' zl c'] rfl rfl (news_one_ (by simp)) (by simp [Value.oneCell']) (by unfold maxLen; omega) (by omega) (by simp; omega) ?_; intro v' w4 hown' hgrow hat; obtain ⟨pa, pc, e⟩ := owns_form_pos_ hown' (by omega); subst e; have HOWN := Lib.hid hown'; have hgr2 : (w3.alloc (.cells #[.slice a' zl c'] 25)).grownBy w4 (Value.slice ad q cd).ownBlock := hgrow; have HM4 := Lib.hid (((Mod.refl _ w3).alloc _).trans (Mod.of_grownBy hgr2)); clear hown' hgrow hat hgr2))
        have HB4 := HB1.out.trans ((HB3.out.mono hX1).trans (HM4.out.below (Nat.le_trans hX1 hs3) (fun q hq e => by have := ownBlock_ge_ HR3.out e.symm; omega)))
        refine ⟨⟨k + 1, q + 1, _, _, ll ++ [(z.2, .slice a' zl c')], by omega, by omega, by simp, rfl, by simp [HQ.out, Hid], ?_, ?_, HB4⟩, by simp [intOf]; omega⟩
        · rw [Hid, HKK.out, List.map_append, HF.out]
          rfl
        · refine HO3.out.push (e := z.2) (by decide) (HE3.out.base hX1) (fun x hx g hg hv => ?_) (by rw [HQ.out]; exact HOWN.out) HM4.out
          obtain ⟨ys, y1, -⟩ := HE3.out
          have h1 := ownBlock_ge_ y1 hv
          have h2 := HLT.out x hx g hg
          omega
    · have hk2 : k = n := by omega
      subst hk2
      have hms : ms.take k = ms := List.take_of_length_le (by have := HL.out; omega)
      have HFF : Hid (ll.map Prod.fst = movFrames ms) := by have := HF.out; rw [hms] at this; exact this
      clear hms
      go_wp2_with fail
      go_returns
      exact ⟨_, ll, rfl, HFF.out, HO.out, HB.out⟩
set_option maxHeartbeats 1000000 in
theorem MTurns_any (a : Option Addr) (n c : Nat) (ms : List (Bool × ByteArray)) (W : World) (h : MvsAt W a n ms) (hn : n ≤ 100000) (hsz : ∀ m ∈ ms, m.1 = false → m.2.size ≤ 140737488351232) :
    Calls Tryz.prog 34 #[.slice a n c] W fun e w' => e = .returned (.int .i64 (turnsN ms : Nat)) ∧ Below W.heap.size W w' := by
  have HF := Lib.hid (MFrames_any a n c ms W h hn hsz)
  have hl := h.1
  have ht := turns_frames ms
  rw [hl] at ht
  obtain ⟨q, hq⟩ : ∃ q, (movFrames ms).length = q := ⟨_, rfl⟩
  have HQ := Lib.hid hq
  rw [hq] at ht
  clear h hsz hl hq
  generalize turnsN ms = T at *
  have hw : IntKind.i64.wrap ((n : Int) - (q : Int)) = (T : Int) := by rw [IntKind.wrap_i64]; omega
  go_enter Tryz.func34, Tryz.ntmps34
  go_wp2_with fail
  refine HF.out.mono ?_; rintro e W1 ⟨vo, l, rfl, hf, ho, hb⟩
  have hl1 : l.length = q := by rw [← List.length_map (f := Prod.fst), hf, HQ.out]
  obtain ⟨a2, c2, e2⟩ := ownsRow_form ho.1
  subst e2
  rw [hl1]
  have HB := Lib.hid hb
  clear hf ho hb hl1 HF HQ
  go_wp2_with fail
  go_returns
  exact ⟨rfl, HB.out⟩
theorem mv_size {n s : Nat} (hs : s < n) {es : List Ent} (hc : Cln es) : ∀ m ∈ (mv (n : Int) (s : Int) es).2, m.1 = false → m.2.size ≤ 140737488351232 := by
  intro m hm h1
  have h2 : m.2 ∈ movFrames (mv (n : Int) (s : Int) es).2 := List.mem_map.2 ⟨m, List.mem_filter.2 ⟨hm, by simp [h1]⟩, rfl⟩
  rw [(mv_turns hs es).2] at h2
  unfold framesL at h2
  obtain ⟨e, he, h3⟩ := List.mem_map.1 h2
  rw [← h3]
  exact clean_bytes (hc.2 e (List.mem_filter.1 he).1)
end View
end Go.Proofs.YtdfmgneicdpjmaaGreat
