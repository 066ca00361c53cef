/- model.Answers, Frames, Turns. -/
import Derived.Test.YtdfmgneicdpjmaaGreatTenB
namespace Go.Proofs.YtdfmgneicdpjmaaGreat
open Go.RowKit Go.Shelf
set_option linter.unusedVariables false
set_option linter.unusedSimpArgs false
set_option maxRecDepth 100000
namespace Resp

theorem Answers_short (v : Value) (m : Nat) (W : World) (h : Frames1 W v m) (hm : m ≤ 100) :
    Calls Tryz.prog 40 #[v] W fun e w' => ∃ vo vt, e = .returned (.tuple #[vo, vt, .int .i64 0]) ∧ OutRow w' W.heap.size vo m ∧ w'.ownsRow W.heap.size 3 1 vt m (List.replicate m (.int .i64 0)) ∧ Below W.heap.size W w' := by
  obtain ⟨a, c, e⟩ := Frames1.form h
  subst e
  go_enter Tryz.func40, Tryz.ntmps40
  go_wp2_with fail
  refine (answered_short _ m W h hm).mono ?_; rintro e W1 ⟨p, vo, vt, rfl, ho, ht, hb⟩
  go_wp2_with fail
  go_returns
  exact ⟨vo, vt, rfl, ho, ht, hb⟩

/-- Moves: true for a turn; a frame is one byte. -/
def MovesAt (W : World) (v : Value) (ms : List Bool) : Prop := (ms = [] ∧ ∃ a c, v = .slice a 0 c) ∨ ∃ b c, v = .slice (some ⟨b, 0, none⟩) ms.length c ∧ ∀ i (hi : i < ms.length), W.cell? ⟨b, i * 2, none⟩ = some (.bool ms[i]) ∧ ((ms[i] = true ∧ W.cell? ⟨b, i * 2 + 1, none⟩ = some (.slice none 0 0)) ∨ (ms[i] = false ∧ ∃ g cc z, W.cell? ⟨b, i * 2 + 1, none⟩ = some (.slice (some ⟨g, 0, none⟩) 1 cc) ∧ W.cell? ⟨g, 0, none⟩ = some (.int .u8 z)))
theorem MovesAt.form {W : World} {v : Value} {ms : List Bool} (h : MovesAt W v ms) : ∃ a c, v = .slice a ms.length c := by
  rcases h with ⟨rfl, a, c, rfl⟩ | ⟨b, c, rfl, -⟩
  · exact ⟨_, _, rfl⟩
  · exact ⟨_, _, rfl⟩
theorem MovesAt.at_ {W : World} {a : Option Addr} {n c : Nat} {ms : List Bool} (h : MovesAt W (.slice a n c) ms) {i : Nat} (hi : i < ms.length) : ∃ b, a = some ⟨b, 0, none⟩ ∧ b < W.heap.size ∧ W.cell? ⟨b, i * 2, none⟩ = some (.bool ms[i]) ∧ ((ms[i] = true ∧ W.cell? ⟨b, i * 2 + 1, none⟩ = some (.slice none 0 0)) ∨ (ms[i] = false ∧ ∃ g cc z, W.cell? ⟨b, i * 2 + 1, none⟩ = some (.slice (some ⟨g, 0, none⟩) 1 cc) ∧ W.cell? ⟨g, 0, none⟩ = some (.int .u8 z))) := by
  rcases h with ⟨rfl, a', c', e⟩ | ⟨b, c', e, hc⟩
  · exact absurd hi (Nat.not_lt_zero _)
  · cases e
    obtain ⟨h1, h2⟩ := hc i hi
    exact ⟨b, rfl, World.block_lt_of_cell? W _ h1, h1, h2⟩
theorem MovesAt.below {W W' : World} {v : Value} {ms : List Bool} (h : MovesAt W v ms) (hb : Below W.heap.size W W') : MovesAt W' v ms := by
  have hm : Mod (fun _ => False) W W' := Mod.of_same hb
  rcases h with ⟨rfl, a', c', e⟩ | ⟨b, c', e, hc⟩
  · exact .inl ⟨rfl, a', c', e⟩
  · refine .inr ⟨b, c', e, fun i hi => ?_⟩
    obtain ⟨h1, h2⟩ := hc i hi
    refine ⟨hm.cell (by simp) h1, ?_⟩
    rcases h2 with ⟨h2, h3⟩ | ⟨h2, g, cc, z, h3, h4⟩
    · exact .inl ⟨h2, hm.cell (by simp) h3⟩
    · exact .inr ⟨h2, g, cc, z, hm.cell (by simp) h3, hm.cell (by simp) h4⟩
/-- How many frames there are. -/
def framesN (ms : List Bool) : Nat := (ms.filter (!·)).length
theorem framesN_take {ms : List Bool} {k : Nat} (h : k < ms.length) : framesN (ms.take (k + 1)) = framesN (ms.take k) + if ms[k] then 0 else 1 := by
  rw [List.take_succ_eq_append_getElem h]
  cases hk : ms[k] <;> simp [framesN, hk]
theorem framesN_le (ms : List Bool) : framesN ms ≤ ms.length := List.length_filter_le _ _
/-- A row of slices of one byte. -/
def OneRow (W : World) (base : Nat) (v : Value) (m : Nat) : Prop := ∃ vs : List Value, vs.length = m ∧ W.ownsRow base 25 1 v m vs ∧ ∀ i (hi : i < vs.length), ∃ z : Int, W.ownsRow base 5 1 vs[i] 1 [.int .u8 z]
theorem OneRow.frames {W : World} {base : Nat} {v : Value} {m : Nat} (h : OneRow W base v m) : Frames1 W v m := by
  obtain ⟨vs, hl, ho, he⟩ := h
  rcases ho.2 with ⟨rfl, hn⟩ | ⟨g, cap, cur, rfl, hb, hg, h1, h2, h3, h4⟩
  · exact .inl ⟨hn, none, 0, rfl⟩
  · refine .inr ⟨g, cap, rfl, fun i hi => ?_⟩
    have hi2 : i < vs.length := by omega
    obtain ⟨z, hz⟩ := he i hi2
    rcases hz.2 with ⟨hn, hk⟩ | ⟨g', cap', cur', hv, hb', hg', k1, k2, k3, k4⟩
    · cases hk
    · refine ⟨g', cap', z, ?_, ?_⟩
      · rw [← hv]
        have : (cur.toList.take (m * 1))[i]? = some vs[i] := by rw [h4]; simp
        rw [List.getElem?_take, if_pos (by omega)] at this
        simp [World.cell?, hg]; simpa using this
      · have : (cur'.toList.take (1 * 1))[0]? = some (Value.int .u8 z) := by rw [k4]; simp
        rw [List.getElem?_take, if_pos (by omega)] at this
        simp [World.cell?, hg']; simpa using this
set_option maxHeartbeats 2000000 in
theorem Frames_any (v : Value) (ms : List Bool) (W : World) (h : MovesAt W v ms) (hm : ms.length ≤ 100) :
    Calls Tryz.prog 32 #[v] W fun e w' => ∃ vo, e = .returned vo ∧ OneRow w' W.heap.size vo (framesN ms) ∧ Below W.heap.size W w' := by
  obtain ⟨i1, hi, hz0, hz1, hz2⟩ := info_parts infoBytes
  obtain ⟨i2, ki, kz0, kz1, kz2⟩ := info_parts infoByte
  obtain ⟨a, c, e⟩ := MovesAt.form h
  subst e
  have HM := Lib.hid h
  clear h
  generalize hL : ms.length = m at *
  have HL := Lib.hid hL
  have hmI : (m : Int) ≤ 100 := by omega
  clear hL
  generalize hX : W.heap.size = X at *
  have HX := Lib.hid hX
  clear hX
  go_enter Tryz.func32, Tryz.ntmps32
  go_wp2_with fail
  go_loopw [3, 8] (fun d i wr => ∃ k : Nat, k ≤ m ∧ i = .int .i64 k ∧ ∃ (ad : Option Addr) (cd n : Nat), n = framesN (ms.take k) ∧ n ≤ k ∧ d = .slice ad n cd ∧ Hid (OneRow wr X (.slice ad n cd) n) ∧ Hid (Below X W wr)) (fun _ i _ => m - (intOf i).toNat)
  case atStart => exact ⟨0, Nat.zero_le _, rfl, none, 0, 0, rfl, Nat.zero_le _, rfl, ⟨[], rfl, owns_nil _ _ _ _, fun i hi => absurd hi (by simp)⟩, Below.refl _ _⟩
  case round =>
    obtain ⟨k, hk, rfl, ad, cd, n, HN0, hnk, rfl, HO, HB⟩ := hrel
    have HN := Lib.hid HN0
    clear HN0
    by_cases hlt : k < m
    · have hltI : (k : Int) < m := by omega
      have hlt2 : k < ms.length := by have := HL.out; omega
      obtain ⟨b, rfl, hbl, h1, h2⟩ := MovesAt.at_ HM.out hlt2
      have hmw : Mod (fun _ => False) W wr := Mod.of_same (by have := HB.out; rw [← HX.out] at this; exact this)
      have g1 := hmw.cell (by simp) h1
      have HK := Lib.hid (framesN_take hlt2)
      have hXr : X ≤ wr.heap.size := by have := HX.out; have := hmw.size; omega
      obtain ⟨vs, hvl, hvo, hve⟩ := HO.out
      have HVL := Lib.hid hvl
      have HVO := Lib.hid hvo
      have HVE := Lib.hid hve
      clear hvl hvo hve
      rcases h2 with ⟨ht, h3⟩ | ⟨ht, g, cc, z, h3, h4⟩
      · have g3 := hmw.cell (by simp) h3
        rw [ht] at g1 HK
        clear hmw h1 h3
        go_wp2_with fail
        have hKn : framesN (ms.take (k + 1)) = n := by have := HK.out; have := HN.out; simp at *; omega
        exact ⟨⟨k + 1, by omega, by simp, ad, cd, n, hKn.symm, by omega, rfl, ⟨vs, HVL.out, owns_up HVO.out ((Below.refl _ _).alloc (Nat.le_refl _) _), fun i hi => by obtain ⟨z, hz⟩ := HVE.out i hi; exact ⟨z, owns_up hz ((Below.refl _ _).alloc (Nat.le_refl _) _)⟩⟩, HB.out.trans ((Below.refl _ _).alloc hXr _)⟩, by simp [intOf]; omega⟩
      · have g3 := hmw.cell (by simp) h3
        have g4 := hmw.cell (by simp) h4
        rw [ht] at g1 HK
        clear hmw h1 h3 h4
        go_upto_region 6 with fail
        have hW1 : (wr.alloc (.cells #[.bool false, .slice (some ⟨g, 0, none⟩) 1 cc] 80)).heap[wr.heap.size]? = some (.cells #[.bool false, .slice (some ⟨g, 0, none⟩) 1 cc] 80) := World.alloc_heap_new _ _
        obtain ⟨-, c1, -, -⟩ := pair_cells_ hW1
        have hb1 : Below wr.heap.size wr (wr.alloc (.cells #[.bool false, .slice (some ⟨g, 0, none⟩) 1 cc] 80)) := (Below.refl _ _).alloc (Nat.le_refl _) _
        have G4 := Lib.hid ((Mod.of_same (S := fun _ => False) hb1).cell (by simp) g4)
        have HVO1 := Lib.hid (owns_up HVO.out hb1)
        have HVE1 : Hid (∀ i (hi : i < vs.length), ∃ z : Int, World.ownsRow (wr.alloc (.cells #[.bool false, .slice (some ⟨g, 0, none⟩) 1 cc] 80)) X 5 1 vs[i] 1 [.int .u8 z]) := fun i hi => by obtain ⟨z, hz⟩ := HVE.out i hi; exact ⟨z, owns_up hz hb1⟩
        have HB1 := Lib.hid (HB.out.trans (hb1.mono hXr))
        have hX1 := Nat.le_trans hXr hb1.size
        clear HVO HVE HB hb1 g1 g3 g4 hW1 HO
        have HVO := HVO1
        have HVE := HVE1
        clear HVO1 HVE1
        generalize wr.alloc (.cells #[.bool false, .slice (some ⟨g, 0, none⟩) 1 cc] 80) = W1 at *
        generalize wr.heap.size = P at *
        have c1' : (W1.alloc (.cells #[] 5)).cell? ⟨P, 1, none⟩ = some (.slice (some ⟨g, 0, none⟩) 1 cc) := ((Mod.refl (fun _ => False) W1).alloc _).cell (by simp) c1
        go_wp2_with (at_builtin; first | (refine wpList_append_own _ rfl _ _ 25 rfl W1.heap.size 5 i2 (.int .u8 0) 1 1 Tryz.underlying25 ki kz0 kz1 kz2 rfl (by decide) _ _ _ rfl (World.ownsRow_lit W1 #[] 0 (Nat.le_refl _) (by unfold maxLen; omega) rfl) ⟨g, 0, none⟩ 1 cc [.int .u8 z] rfl rfl (news_one_ (((Mod.refl (fun _ => False) W1).alloc _).cell (by simp) G4.out)) (by simp [Value.oneCell']) (by unfold maxLen; omega) (by omega) (by simp) ?_; intro v' w3 hown' hgrow hat; obtain ⟨oa, oc, e⟩ := owns_form_pos_ hown' (by omega); subst e; have hgr' : (W1.alloc (.cells #[] 5)).grownBy w3 (Value.slice (some ⟨W1.heap.size, 0, none⟩) 0 0).ownBlock := hgrow; have HM3 := Lib.hid (((Mod.refl _ W1).alloc _).trans (Mod.of_grownBy hgr')); have HB3 : Hid (Below W1.heap.size W1 w3) := HM3.out.below (Nat.le_refl _) (fun q hq e => by simp [Value.ownBlock] at e; omega); have HE3 := Lib.hid hown'; have HV3 := Lib.hid (owns_up HVO.out HB3.out); have hs3 := HB3.out.size; clear hown' hgrow hat hgr') | (refine wpList_append_own _ rfl _ _ 22 rfl X 25 i1 (.slice none 0 0) 1 24 Tryz.underlying22 hi hz0 hz1 hz2 rfl (by decide) _ _ _ rfl (HV3.out.alloc _) ⟨w3.heap.size, 0, none⟩ 1 1 [.slice (some ⟨oa, 0, none⟩) 1 oc] rfl rfl (news_one_ (by simp)) (by simp [Value.oneCell']) (by unfold maxLen; omega) (by omega) (by simp; omega) ?_; intro v' w4 hown' hgrow hat; obtain ⟨pa, pc, e⟩ := owns_form_pos_ hown' (by omega); subst e; have HOWN := Lib.hid hown'; have hgr2 : (w3.alloc (.cells #[.slice (some ⟨oa, 0, none⟩) 1 oc] 25)).grownBy w4 (Value.slice ad n cd).ownBlock := hgrow; have HM4 := Lib.hid (((Mod.refl _ w3).alloc _).trans (Mod.of_grownBy hgr2)); clear hown' hgrow hat hgr2))
        have hKn : framesN (ms.take (k + 1)) = n + 1 := by have := HK.out; have := HN.out; simp at *; omega
        have HB4 := HB1.out.trans ((HB3.out.mono hX1).trans (HM4.out.below (Nat.le_trans hX1 hs3) (fun q hq e => by have := ownBlock_ge_ HV3.out e.symm; omega)))
        refine ⟨⟨k + 1, by omega, by simp, _, _, n + 1, hKn.symm, by omega, rfl, ⟨vs ++ [.slice (some ⟨oa, 0, none⟩) 1 oc], by simp [HVL.out], HOWN.out, fun i hi => ?_⟩, HB4⟩, by simp [intOf]; omega⟩
        by_cases hlt3 : i < vs.length
        · rw [List.getElem_append_left hlt3]
          obtain ⟨z', hz'⟩ := HVE.out i hlt3
          exact ⟨z', owns_keep_ (owns_up hz' HB3.out) HV3.out HM4.out (by decide)⟩
        · have hik : i = vs.length := by simp at hi; omega
          subst hik
          rw [List.getElem_append_right (by omega)]
          simp only [Nat.sub_self, List.getElem_singleton]
          exact ⟨z, owns_keep_ (ownsRow_base HE3.out hX1) HV3.out HM4.out (by decide)⟩
    · have hk2 : k = m := by omega
      subst hk2
      go_wp2_with fail
      go_returns
      have hn : n = framesN ms := by
        rw [HN.out, ← HL.out, List.take_length]
      rw [← hn]
      exact ⟨_, rfl, HO.out, HB.out⟩
theorem Turns_any (v : Value) (ms : List Bool) (W : World) (h : MovesAt W v ms) (hm : ms.length ≤ 100) :
    Calls Tryz.prog 34 #[v] W fun e w' => e = .returned (.int .i64 ((ms.length : Int) - (framesN ms : Int))) ∧ Below W.heap.size W w' := by
  obtain ⟨a, c, e⟩ := MovesAt.form h
  subst e
  have hf := framesN_le ms
  have HF := Lib.hid (Frames_any _ ms W h hm)
  have hw : IntKind.i64.wrap ((ms.length : Int) - (framesN ms : Int)) = (ms.length : Int) - (framesN ms : Int) := by rw [IntKind.wrap_i64]; omega
  generalize ms.length = L at *
  generalize framesN ms = N at *
  go_enter Tryz.func34, Tryz.ntmps34
  go_wp2_with fail
  refine HF.out.mono ?_; rintro e W1 ⟨vo, rfl, ⟨vs, hvl, ho, -⟩, hb⟩
  obtain ⟨a2, c2, e2⟩ := ownsRow_form ho
  subst e2
  go_wp2_with fail
  go_returns
  exact ⟨rfl, hb⟩
end Resp
end Go.Proofs.YtdfmgneicdpjmaaGreat
