import Derived.Test.YtdfmgneicdpjmaaGreatM05
import Derived.Test.YtdfmgneicdpjmaaGreatM00
import Derived.RangeFuncWrites
/- model.Answers, Frames, Turns. -/
namespace Go.Proofs.YtdfmgneicdpjmaaGreat
open Go.RowKit Go.Shelf
set_option linter.unusedVariables false
set_option linter.unusedSimpArgs false
set_option maxRecDepth 100000
namespace Resp

theorem Answers_short (v : Value) (m : Nat) (W : World) (h : Frames1 W v m) (hm : m ≤ 100) :
    Calls Tryz.prog 40 #[v] W fun e w' => ∃ vo vt, e = .returned (.tuple #[vo, vt, .int .i64 0]) ∧ OutRow w' W.heap.size vo m ∧ w'.ownsRow W.heap.size 3 1 vt m (List.replicate m (.int .i64 0)) ∧ Below W.heap.size W w' := by
  obtain ⟨a, c, e⟩ := Frames1.form h
  subst e
  go_enter Tryz.func40, Tryz.ntmps40
  go_wp2_with fail
  refine (answered_short _ m W h hm).mono ?_; rintro e W1 ⟨p, vo, vt, rfl, ho, ht, hb⟩
  go_wp2_with fail
  go_returns
  exact ⟨vo, vt, rfl, ho, ht, hb⟩

/-- Moves: true for a turn; a frame is one byte. -/
def MovesAt (W : World) (v : Value) (ms : List Bool) : Prop := (ms = [] ∧ ∃ a c, v = .slice a 0 c) ∨ ∃ b c, v = .slice (some ⟨b, 0, none⟩) ms.length c ∧ ∀ i (hi : i < ms.length), W.cell? ⟨b, i * 2, none⟩ = some (.bool ms[i]) ∧ ((ms[i] = true ∧ W.cell? ⟨b, i * 2 + 1, none⟩ = some (.slice none 0 0)) ∨ (ms[i] = false ∧ ∃ g cc z, W.cell? ⟨b, i * 2 + 1, none⟩ = some (.slice (some ⟨g, 0, none⟩) 1 cc) ∧ W.cell? ⟨g, 0, none⟩ = some (.int .u8 z)))
theorem MovesAt.form {W : World} {v : Value} {ms : List Bool} (h : MovesAt W v ms) : ∃ a c, v = .slice a ms.length c := by
  rcases h with ⟨rfl, a, c, rfl⟩ | ⟨b, c, rfl, -⟩
  · exact ⟨_, _, rfl⟩
  · exact ⟨_, _, rfl⟩
theorem MovesAt.at_ {W : World} {a : Option Addr} {n c : Nat} {ms : List Bool} (h : MovesAt W (.slice a n c) ms) {i : Nat} (hi : i < ms.length) : ∃ b, a = some ⟨b, 0, none⟩ ∧ b < W.heap.size ∧ W.cell? ⟨b, i * 2, none⟩ = some (.bool ms[i]) ∧ ((ms[i] = true ∧ W.cell? ⟨b, i * 2 + 1, none⟩ = some (.slice none 0 0)) ∨ (ms[i] = false ∧ ∃ g cc z, W.cell? ⟨b, i * 2 + 1, none⟩ = some (.slice (some ⟨g, 0, none⟩) 1 cc) ∧ W.cell? ⟨g, 0, none⟩ = some (.int .u8 z))) := by
  rcases h with ⟨rfl, a', c', e⟩ | ⟨b, c', e, hc⟩
  · exact absurd hi (Nat.not_lt_zero _)
  · cases e
    obtain ⟨h1, h2⟩ := hc i hi
    exact ⟨b, rfl, World.block_lt_of_cell? W _ h1, h1, h2⟩
theorem MovesAt.below {W W' : World} {v : Value} {ms : List Bool} (h : MovesAt W v ms) (hb : Below W.heap.size W W') : MovesAt W' v ms := by
  have hm : Mod (fun _ => False) W W' := Mod.of_same hb
  rcases h with ⟨rfl, a', c', e⟩ | ⟨b, c', e, hc⟩
  · exact .inl ⟨rfl, a', c', e⟩
  · refine .inr ⟨b, c', e, fun i hi => ?_⟩
    obtain ⟨h1, h2⟩ := hc i hi
    refine ⟨hm.cell (by simp) h1, ?_⟩
    rcases h2 with ⟨h2, h3⟩ | ⟨h2, g, cc, z, h3, h4⟩
    · exact .inl ⟨h2, hm.cell (by simp) h3⟩
    · exact .inr ⟨h2, g, cc, z, hm.cell (by simp) h3, hm.cell (by simp) h4⟩
/-- How many frames there are. -/
def framesN (ms : List Bool) : Nat := (ms.filter (!·)).length
theorem framesN_take {ms : List Bool} {k : Nat} (h : k < ms.length) : framesN (ms.take (k + 1)) = framesN (ms.take k) + if ms[k] then 0 else 1 := by
  rw [List.take_succ_eq_append_getElem h]
  cases hk : ms[k] <;> simp [framesN, hk]
theorem framesN_le (ms : List Bool) : framesN ms ≤ ms.length := List.length_filter_le _ _
/-- A row of slices of one byte. -/
def OneRow (W : World) (base : Nat) (v : Value) (m : Nat) : Prop := ∃ vs : List Value, vs.length = m ∧ W.ownsRow base 25 1 v m vs ∧ ∀ i (hi : i < vs.length), ∃ z : Int, W.ownsRow base 5 1 vs[i] 1 [.int .u8 z]
theorem OneRow.frames {W : World} {base : Nat} {v : Value} {m : Nat} (h : OneRow W base v m) : Frames1 W v m := by
  obtain ⟨vs, hl, ho, he⟩ := h
  rcases ho.2 with ⟨rfl, hn⟩ | ⟨g, cap, cur, rfl, hb, hg, h1, h2, h3, h4⟩
  · exact .inl ⟨hn, none, 0, rfl⟩
  · refine .inr ⟨g, cap, rfl, fun i hi => ?_⟩
    have hi2 : i < vs.length := by omega
    obtain ⟨z, hz⟩ := he i hi2
    rcases hz.2 with ⟨hn, hk⟩ | ⟨g', cap', cur', hv, hb', hg', k1, k2, k3, k4⟩
    · cases hk
    · refine ⟨g', cap', z, ?_, ?_⟩
      · rw [← hv]
        have : (cur.toList.take (m * 1))[i]? = some vs[i] := by rw [h4]; simp
        rw [List.getElem?_take, if_pos (by omega)] at this
        simp [World.cell?, hg]; simpa using this
      · have : (cur'.toList.take (1 * 1))[0]? = some (Value.int .u8 z) := by rw [k4]; simp
        rw [List.getElem?_take, if_pos (by omega)] at this
        simp [World.cell?, hg']; simpa using this
set_option maxHeartbeats 2000000 in
theorem Frames_any (v : Value) (ms : List Bool) (W : World) (h : MovesAt W v ms) (hm : ms.length ≤ 100) :
    Calls Tryz.prog 32 #[v] W fun e w' => ∃ vo, e = .returned vo ∧ OneRow w' W.heap.size vo (framesN ms) ∧ Below W.heap.size W w' := by
  obtain ⟨i1, hi, hz0, hz1, hz2⟩ := info_parts infoBytes
  obtain ⟨i2, ki, kz0, kz1, kz2⟩ := info_parts infoByte
  obtain ⟨a, c, e⟩ := MovesAt.form h
  subst e
  have HM := Lib.hid h
  clear h
  generalize hL : ms.length = m at *
  have HL := Lib.hid hL
  have hmI : (m : Int) ≤ 100 := by omega
  clear hL
  generalize hX : W.heap.size = X at *
  have HX := Lib.hid hX
  clear hX
  go_enter Tryz.func32, Tryz.ntmps32
  go_wp2_with fail
  go_loopw [3, 8] (fun d i wr => ∃ k : Nat, k ≤ m ∧ i = .int .i64 k ∧ ∃ (ad : Option Addr) (cd n : Nat), n = framesN (ms.take k) ∧ n ≤ k ∧ d = .slice ad n cd ∧ Hid (OneRow wr X (.slice ad n cd) n) ∧ Hid (Below X W wr)) (fun _ i _ => m - (intOf i).toNat)
  case atStart => exact ⟨0, Nat.zero_le _, rfl, none, 0, 0, rfl, Nat.zero_le _, rfl, ⟨[], rfl, owns_nil _ _ _ _, fun i hi => absurd hi (by simp)⟩, Below.refl _ _⟩
  case round =>
    obtain ⟨k, hk, rfl, ad, cd, n, HN0, hnk, rfl, HO, HB⟩ := hrel
    have HN := Lib.hid HN0
    clear HN0
    by_cases hlt : k < m
    · have hltI : (k : Int) < m := by omega
      have hlt2 : k < ms.length := by have := HL.out; omega
      obtain ⟨b, rfl, hbl, h1, h2⟩ := MovesAt.at_ HM.out hlt2
      have hmw : Mod (fun _ => False) W wr := Mod.of_same (by have := HB.out; rw [← HX.out] at this; exact this)
      have g1 := hmw.cell (by simp) h1
      have HK := Lib.hid (framesN_take hlt2)
      have hXr : X ≤ wr.heap.size := by have := HX.out; have := hmw.size; omega
      obtain ⟨vs, hvl, hvo, hve⟩ := HO.out
      have HVL := Lib.hid hvl
      have HVO := Lib.hid hvo
      have HVE := Lib.hid hve
      clear hvl hvo hve
      rcases h2 with ⟨ht, h3⟩ | ⟨ht, g, cc, z, h3, h4⟩
      · have g3 := hmw.cell (by simp) h3
        rw [ht] at g1 HK
        clear hmw h1 h3
        go_wp2_with fail
        have hKn : framesN (ms.take (k + 1)) = n := by have := HK.out; have := HN.out; simp at *; omega
        exact ⟨⟨k + 1, by omega, by simp, ad, cd, n, hKn.symm, by omega, rfl, ⟨vs, HVL.out, owns_up HVO.out ((Below.refl _ _).alloc (Nat.le_refl _) _), fun i hi => by obtain ⟨z, hz⟩ := HVE.out i hi; exact ⟨z, owns_up hz ((Below.refl _ _).alloc (Nat.le_refl _) _)⟩⟩, HB.out.trans ((Below.refl _ _).alloc hXr _)⟩, by simp [intOf]; omega⟩
      · have g3 := hmw.cell (by simp) h3
        have g4 := hmw.cell (by simp) h4
        rw [ht] at g1 HK
        clear hmw h1 h3 h4
        go_upto_region 6 with fail
        have hW1 : (wr.alloc (.cells #[.bool false, .slice (some ⟨g, 0, none⟩) 1 cc] 80)).heap[wr.heap.size]? = some (.cells #[.bool false, .slice (some ⟨g, 0, none⟩) 1 cc] 80) := World.alloc_heap_new _ _
        obtain ⟨-, c1, -, -⟩ := pair_cells_ hW1
        have hb1 : Below wr.heap.size wr (wr.alloc (.cells #[.bool false, .slice (some ⟨g, 0, none⟩) 1 cc] 80)) := (Below.refl _ _).alloc (Nat.le_refl _) _
        have G4 := Lib.hid ((Mod.of_same (S := fun _ => False) hb1).cell (by simp) g4)
        have HVO1 := Lib.hid (owns_up HVO.out hb1)
        have HVE1 : Hid (∀ i (hi : i < vs.length), ∃ z : Int, World.ownsRow (wr.alloc (.cells #[.bool false, .slice (some ⟨g, 0, none⟩) 1 cc] 80)) X 5 1 vs[i] 1 [.int .u8 z]) := fun i hi => by obtain ⟨z, hz⟩ := HVE.out i hi; exact ⟨z, owns_up hz hb1⟩
        have HB1 := Lib.hid (HB.out.trans (hb1.mono hXr))
        have hX1 := Nat.le_trans hXr hb1.size
        clear HVO HVE HB hb1 g1 g3 g4 hW1 HO
        have HVO := HVO1
        have HVE := HVE1
        clear HVO1 HVE1
        generalize wr.alloc (.cells #[.bool false, .slice (some ⟨g, 0, none⟩) 1 cc] 80) = W1 at *
        generalize wr.heap.size = P at *
        have c1' : (W1.alloc (.cells #[] 5)).cell? ⟨P, 1, none⟩ = some (.slice (some ⟨g, 0, none⟩) 1 cc) := ((Mod.refl (fun _ => False) W1).alloc _).cell (by simp) c1
        go_wp2_with (at_builtin; first | (refine wpList_append_own _ rfl _ _ 25 rfl W1.heap.size 5 i2 (.int .u8 0) 1 1 Tryz.underlying25 ki kz0 kz1 kz2 rfl (by decide) _ _ _ rfl (World.ownsRow_lit W1 #[] 0 (Nat.le_refl _) (by unfold maxLen; omega) rfl) ⟨g, 0, none⟩ 1 cc [.int .u8 z] rfl rfl (news_one_ (((Mod.refl (fun _ => False) W1).alloc _).cell (by simp) G4.out)) (by simp [Value.oneCell']) (by unfold maxLen; omega) (by omega) (by simp) ?_; intro v' w3 hown' hgrow hat; obtain ⟨oa, oc, e⟩ := owns_form_pos_ hown' (by omega); subst e; have hgr' : (W1.alloc (.cells #[] 5)).grownBy w3 (Value.slice (some ⟨W1.heap.size, 0, none⟩) 0 0).ownBlock := hgrow; have HM3 := Lib.hid (((Mod.refl _ W1).alloc _).trans (Mod.of_grownBy hgr')); have HB3 : Hid (Below W1.heap.size W1 w3) := HM3.out.below (Nat.le_refl _) (fun q hq e => by simp [Value.ownBlock] at e; omega); have HE3 := Lib.hid hown'; have HV3 := Lib.hid (owns_up HVO.out HB3.out); have hs3 := HB3.out.size; clear hown' hgrow hat hgr') | (refine wpList_append_own _ rfl _ _ 22 rfl X 25 i1 (.slice none 0 0) 1 24 Tryz.underlying22 hi hz0 hz1 hz2 rfl (by decide) _ _ _ rfl (HV3.out.alloc _) ⟨w3.heap.size, 0, none⟩ 1 1 [.slice (some ⟨oa, 0, none⟩) 1 oc] rfl rfl (news_one_ (by simp)) (by simp [Value.oneCell']) (by unfold maxLen; omega) (by omega) (by simp; omega) ?_; intro v' w4 hown' hgrow hat; obtain ⟨pa, pc, e⟩ := owns_form_pos_ hown' (by omega); subst e; have HOWN := Lib.hid hown'; have hgr2 : (w3.alloc (.cells #[.slice (some ⟨oa, 0, none⟩) 1 oc] 25)).grownBy w4 (Value.slice ad n cd).ownBlock := hgrow; have HM4 := Lib.hid (((Mod.refl _ w3).alloc _).trans (Mod.of_grownBy hgr2)); clear hown' hgrow hat hgr2))
        have hKn : framesN (ms.take (k + 1)) = n + 1 := by have := HK.out; have := HN.out; simp at *; omega
        have HB4 := HB1.out.trans ((HB3.out.mono hX1).trans (HM4.out.below (Nat.le_trans hX1 hs3) (fun q hq e => by have := ownBlock_ge_ HV3.out e.symm; omega)))
        refine ⟨⟨k + 1, by omega, by simp, _, _, n + 1, hKn.symm, by omega, rfl, ⟨vs ++ [.slice (some ⟨oa, 0, none⟩) 1 oc], by simp [HVL.out], HOWN.out, fun i hi => ?_⟩, HB4⟩, by simp [intOf]; omega⟩
        by_cases hlt3 : i < vs.length
        · rw [List.getElem_append_left hlt3]
          obtain ⟨z', hz'⟩ := HVE.out i hlt3
          exact ⟨z', owns_keep_ (owns_up hz' HB3.out) HV3.out HM4.out (by decide)⟩
        · have hik : i = vs.length := by simp at hi; omega
          subst hik
          rw [List.getElem_append_right (by omega)]
          simp only [Nat.sub_self, List.getElem_singleton]
          exact ⟨z, owns_keep_ (ownsRow_base HE3.out hX1) HV3.out HM4.out (by decide)⟩
    · have hk2 : k = m := by omega
      subst hk2
      go_wp2_with fail
      go_returns
      have hn : n = framesN ms := by
        rw [HN.out, ← HL.out, List.take_length]
      rw [← hn]
      exact ⟨_, rfl, HO.out, HB.out⟩
theorem Turns_any (v : Value) (ms : List Bool) (W : World) (h : MovesAt W v ms) (hm : ms.length ≤ 100) :
    Calls Tryz.prog 34 #[v] W fun e w' => e = .returned (.int .i64 ((ms.length : Int) - (framesN ms : Int))) ∧ Below W.heap.size W w' := by
  obtain ⟨a, c, e⟩ := MovesAt.form h
  subst e
  have hf := framesN_le ms
  have HF := Lib.hid (Frames_any _ ms W h hm)
  have hw : IntKind.i64.wrap ((ms.length : Int) - (framesN ms : Int)) = (ms.length : Int) - (framesN ms : Int) := by rw [IntKind.wrap_i64]; omega
  generalize ms.length = L at *
  generalize framesN ms = N at *
  go_enter Tryz.func34, Tryz.ntmps34
  go_wp2_with fail
  refine HF.out.mono ?_; rintro e W1 ⟨vo, rfl, ⟨vs, hvl, ho, -⟩, hb⟩
  obtain ⟨a2, c2, e2⟩ := ownsRow_form ho
  subst e2
  go_wp2_with fail
  go_returns
  exact ⟨rfl, hb⟩
end Resp
end Go.Proofs.YtdfmgneicdpjmaaGreat

/- An inbox: New, none, answered, Turn where nothing is pending, Counts. -/
namespace Go.Proofs.YtdfmgneicdpjmaaGreat
open Go.RowKit Go.Shelf
set_option linter.unusedVariables false
set_option linter.unusedSimpArgs false
set_option maxRecDepth 100000
namespace Resp

def BoxAt (W : World) (I B : Nat) (p : Bool) (fv : Value) (put ans idle : Int) : Prop := W.heap[I]? = some (.cells #[(.iface 147 (.agg #[.pointer (some ⟨B, 0, none⟩)])), .bool p, fv, .int .i64 put, .int .i64 ans, .int .i64 0, .int .i64 idle] 240)
theorem BoxAt.cells {W : World} {I B : Nat} {p : Bool} {fv : Value} {put ans idle : Int} (h : BoxAt W I B p fv put ans idle) : W.cell? ⟨I, 0, none⟩ = some (.iface 147 (.agg #[.pointer (some ⟨B, 0, none⟩)])) ∧ W.cell? ⟨I, 1, none⟩ = some (.bool p) ∧ W.cell? ⟨I, 2, none⟩ = some fv ∧ W.cell? ⟨I, 3, none⟩ = some (.int .i64 put) ∧ W.cell? ⟨I, 4, none⟩ = some (.int .i64 ans) ∧ W.cell? ⟨I, 5, none⟩ = some (.int .i64 0) ∧ W.cell? ⟨I, 6, none⟩ = some (.int .i64 idle) := by
  have h' : W.heap[I]? = _ := h
  refine ⟨?_, ?_, ?_, ?_, ?_, ?_, ?_⟩ <;> simp [World.cell?, h']
theorem BoxAt.cool {W : World} {I B : Nat} {p : Bool} {fv : Value} {put ans idle : Int} (h : BoxAt W I B p fv put ans idle) : W.frozen? ⟨I, 1, none⟩ = false ∧ W.frozen? ⟨I, 2, none⟩ = false ∧ W.frozen? ⟨I, 3, none⟩ = false ∧ W.frozen? ⟨I, 4, none⟩ = false ∧ W.frozen? ⟨I, 6, none⟩ = false := by
  have h' : W.heap[I]? = _ := h
  refine ⟨?_, ?_, ?_, ?_, ?_⟩ <;> simp [World.frozen?, h']
theorem BoxAt.lt {W : World} {I B : Nat} {p : Bool} {fv : Value} {put ans idle : Int} (h : BoxAt W I B p fv put ans idle) : I < W.heap.size := (Array.getElem?_eq_some_iff.1 h).1
theorem BoxAt.mod {S : Nat → Prop} {W W' : World} {I B : Nat} {p : Bool} {fv : Value} {put ans idle : Int} (h : BoxAt W I B p fv put ans idle) (hm : Mod S W W') (hI : ¬ S I) : BoxAt W' I B p fv put ans idle := hm.heap h hI
theorem BoxAt.setP {W : World} {I B : Nat} {p : Bool} {fv : Value} {put ans idle : Int} (h : BoxAt W I B p fv put ans idle) (q : Bool) : BoxAt (W.setCell ⟨I, 1, none⟩ (.bool q)) I B q fv put ans idle := by
  have := heap_set_ h 1 (.bool q); simpa [BoxAt] using this
theorem BoxAt.setF {W : World} {I B : Nat} {p : Bool} {fv : Value} {put ans idle : Int} (h : BoxAt W I B p fv put ans idle) (q : Value) : BoxAt (W.setCell ⟨I, 2, none⟩ q) I B p q put ans idle := by
  have := heap_set_ h 2 q; simpa [BoxAt] using this
theorem BoxAt.setPut {W : World} {I B : Nat} {p : Bool} {fv : Value} {put ans idle : Int} (h : BoxAt W I B p fv put ans idle) (q : Int) : BoxAt (W.setCell ⟨I, 3, none⟩ (.int .i64 q)) I B p fv q ans idle := by
  have := heap_set_ h 3 (.int .i64 q); simpa [BoxAt] using this
theorem BoxAt.setAns {W : World} {I B : Nat} {p : Bool} {fv : Value} {put ans idle : Int} (h : BoxAt W I B p fv put ans idle) (q : Int) : BoxAt (W.setCell ⟨I, 4, none⟩ (.int .i64 q)) I B p fv put q idle := by
  have := heap_set_ h 4 (.int .i64 q); simpa [BoxAt] using this
theorem BoxAt.setIdle {W : World} {I B : Nat} {p : Bool} {fv : Value} {put ans idle : Int} (h : BoxAt W I B p fv put ans idle) (q : Int) : BoxAt (W.setCell ⟨I, 6, none⟩ (.int .i64 q)) I B p fv put ans q := by
  have := heap_set_ h 6 (.int .i64 q); simpa [BoxAt] using this
theorem mod_set_ (W : World) (I i : Nat) (v : Value) : Mod (fun g => g = I) W (W.setCell ⟨I, i, none⟩ v) := (Mod.refl (fun g => g = I) W).setCell (p := ⟨I, i, none⟩) (.inr rfl) _
theorem InboxNew_any (B : Nat) (W : World) : Calls Tryz.prog 90 #[(.iface 147 (.agg #[.pointer (some ⟨B, 0, none⟩)]))] W fun e w' => e = .returned (.tuple #[.pointer (some ⟨W.heap.size, 0, none⟩), .int .i64 0]) ∧ BoxAt w' W.heap.size B false (.slice none 0 0) 0 0 0 ∧ Below W.heap.size W w' := by
  go_enter Tryz.func90, Tryz.ntmps90
  go_wp2_with fail
  go_returns
  exact ⟨rfl, World.alloc_heap_new W _, (Below.refl _ _).alloc (Nat.le_refl _) _⟩
theorem BoxNone_no (I B : Nat) (p : Bool) (fv : Value) (put ans idle : Int) (W : World) (h : BoxAt W I B p fv put ans idle) : Calls Tryz.prog 144 #[.pointer (some ⟨I, 0, none⟩)] W fun e w' => e = .returned (.bool false) ∧ W = w' := by
  obtain ⟨c0, c1, c2, c3, c4, c5, c6⟩ := h.cells
  go_enter Tryz.func144, Tryz.ntmps144
  go_wp2_with fail
  go_ret
  exact ⟨rfl, rfl⟩
theorem TurnIdle (I B : Nat) (fv : Value) (put ans : Int) (idle : Nat) (hi : idle ≤ 1000) (W : World) (h : BoxAt W I B false fv put ans idle) : Calls Tryz.prog 142 #[.pointer (some ⟨I, 0, none⟩)] W fun e w' => e = .returned (.tuple #[.slice none 0 0, .int .i64 0]) ∧ w' = W.setCell ⟨I, 6, none⟩ (.int .i64 ((idle : Int) + 1)) := by
  obtain ⟨c0, c1, c2, c3, c4, c5, c6⟩ := h.cells
  obtain ⟨-, -, -, -, f6⟩ := h.cool
  have hw : IntKind.i64.wrap ((idle : Int) + 1) = (idle : Int) + 1 := by rw [IntKind.wrap_i64]; omega
  have HN := Lib.hid (BoxNone_no I B false fv put ans idle W h)
  clear h
  go_enter Tryz.func142, Tryz.ntmps142
  go_wp2_with fail
  refine HN.out.mono ?_; rintro e w1 ⟨rfl, hy⟩
  subst hy
  go_wp2_with fail
  go_ret2
  exact ⟨rfl, rfl⟩
set_option maxHeartbeats 1000000 in
theorem Answered_any (I B : Nat) (p : Bool) (fv : Value) (put idle : Int) (ans : Nat) (ha : ans ≤ 1000) (a : Option Addr) (n c : Nat) (zs : List Int) (W : World) (h : BoxAt W I B p fv put ans idle) (base : Nat) (hr : W.ownsRow base 5 1 (.slice a n c) n (u8s zs)) (hz : zs.length = n) (h0 : 0 < n) (hn : n ≤ 1000) :
    Calls Tryz.prog 182 #[.pointer (some ⟨I, 0, none⟩), .slice a n c] W fun e w' => ∃ v, e = .returned v ∧ w'.ownsRow W.heap.size 5 1 v n (u8s zs) ∧ BoxAt w' I B false fv put ((ans : Int) + 1) idle ∧ Mod (fun g => g = I) W w' := by
  obtain ⟨c0, c1, c2, c3, c4, c5, c6⟩ := h.cells
  obtain ⟨f1, -, -, f4, -⟩ := h.cool
  have hw : IntKind.i64.wrap ((ans : Int) + 1) = (ans : Int) + 1 := by rw [IntKind.wrap_i64]; omega
  have HB := Lib.hid h
  have HR := Lib.hid hr
  clear h hr
  go_enter Tryz.func182, Tryz.ntmps182
  go_upto_region 3 with fail
  have hm1 := mod_set_ W I 1 (.bool false)
  have hB1 := HB.out.setP false
  have hm2 := mod_set_ (W.setCell ⟨I, 1, none⟩ (.bool false)) I 4 (.int .i64 ((ans : Int) + 1))
  have hB2 := hB1.setAns ((ans : Int) + 1)
  have hm := hm1.trans hm2
  have HO2 := Lib.hid (owns_keep_at_ HR.out HB.out hm (by decide))
  have HM := Lib.hid hm
  have HB2 := Lib.hid hB2
  have hs2 := hm.size
  clear hm1 hm2 hB1 hm hB2 c0 c1 c2 c3 c4 c5 c6 f1 f4
  generalize (W.setCell ⟨I, 1, none⟩ (.bool false)).setCell ⟨I, 4, none⟩ (.int .i64 ((ans : Int) + 1)) = W2 at *
  go_wp2_with fail
  refine (Clone_bytes _ zs _ (Reads.of_owns (zs := zs) HO2.out) (by omega) (by omega)).mono ?_; rintro e W3 ⟨v, rfl, ho, hb⟩
  rw [hz] at ho
  have HO3 := Lib.hid (ownsRow_base ho hs2)
  have HB3 : Hid (BoxAt W3 I B false fv put ((ans : Int) + 1) idle) := HB2.out.mod (S := fun _ => False) (Mod.of_same hb) (by simp)
  have HM3 := Lib.hid (HM.out.trans (Mod.of_same hb))
  clear ho hb
  go_wp2_with fail
  go_ret
  exact ⟨v, rfl, HO3.out, HB3.out, HM3.out⟩
def CountsAgg (put ans idle : Int) : Value := .agg #[.int .i64 put, .int .i64 ans, .int .i64 0, .int .i64 idle]
theorem infoCounts : (Tryz.prog.info? 155).map (·.size) = some 4 := by kernel_rfl
theorem Counts_any (I B : Nat) (p : Bool) (fv : Value) (put ans idle : Int) (W : World) (h : BoxAt W I B p fv put ans idle) :
    Calls Tryz.prog 92 #[.pointer (some ⟨I, 0, none⟩)] W fun e w' => e = .returned (CountsAgg put ans idle) ∧ Below W.heap.size W w' := by
  go_enter Tryz.func92, Tryz.ntmps92
  go_upto_region 1 with fail
  have hbz : Below W.heap.size W (W.alloc (.cells #[.int .i64 0, .int .i64 0, .int .i64 0, .int .i64 0] 155)) := (Below.refl _ _).alloc (Nat.le_refl _) _
  have hZ : (W.alloc (.cells #[.int .i64 0, .int .i64 0, .int .i64 0, .int .i64 0] 155)).heap[W.heap.size]? = some (.cells #[.int .i64 0, .int .i64 0, .int .i64 0, .int .i64 0] 155) := World.alloc_heap_new _ _
  have HB1 := Lib.hid (h.mod (S := fun _ => False) (Mod.of_same hbz) (by simp))
  generalize W.alloc (.cells #[.int .i64 0, .int .i64 0, .int .i64 0, .int .i64 0] 155) = W1 at *
  generalize hX : W.heap.size = X at *
  obtain ⟨c0, c1, c2, c3, c4, c5, c6⟩ := HB1.out.cells
  have HZ := Lib.hid hZ
  have HBZ := Lib.hid hbz
  have z0 : W1.frozen? ⟨X, 0, none⟩ = false := by simp [World.frozen?, hZ]
  have z1 : W1.frozen? ⟨X, 1, none⟩ = false := by simp [World.frozen?, hZ]
  have z2 : W1.frozen? ⟨X, 2, none⟩ = false := by simp [World.frozen?, hZ]
  have z3 : W1.frozen? ⟨X, 3, none⟩ = false := by simp [World.frozen?, hZ]
  have k0 : W1.cell? ⟨X, 0, none⟩ = some (.int .i64 0) := by simp [World.cell?, hZ]
  have k1 : W1.cell? ⟨X, 1, none⟩ = some (.int .i64 0) := by simp [World.cell?, hZ]
  have k2 : W1.cell? ⟨X, 2, none⟩ = some (.int .i64 0) := by simp [World.cell?, hZ]
  have k3 : W1.cell? ⟨X, 3, none⟩ = some (.int .i64 0) := by simp [World.cell?, hZ]
  clear hZ hbz
  go_wp2_with fail
  refine (BoxNone_no I B p fv put ans idle W1 HB1.out).mono ?_; rintro e w1 ⟨rfl, hy⟩
  subst hy
  go_wp2_with fail
  have hXX : X ≤ X := Nat.le_refl _
  refine bodyPost_ret (results_cell_row rfl _ _ X _ _ _ _ rfl (heap_set_ (heap_set_ (heap_set_ (heap_set_ HZ.out 0 _) 1 _) 2 _) 3 _) Tryz.underlying155 rfl infoCounts) rfl ⟨rfl, ?_⟩
  rw [hX]
  exact (((HBZ.out.setCell (p := ⟨X, 0, none⟩) hXX _).setCell (p := ⟨X, 1, none⟩) hXX _).setCell (p := ⟨X, 2, none⟩) hXX _).setCell (p := ⟨X, 3, none⟩) hXX _
end Resp
end Go.Proofs.YtdfmgneicdpjmaaGreat

/- A range over a function whose own rounds write what lay ahead of the loop: the iterator has a state of its own (St), the body another (I), and each keeps the other's. -/
namespace Go.Proofs.YtdfmgneicdpjmaaGreat
open Go.RowKit Go.Shelf
set_option linter.unusedVariables false

/-- An iterator that yields just N times: St k: its state behind k rounds; Ya k x: what holds where it yields x as its round k; Sw: the blocks that it writes. -/
def SeqSt {α : Type} (F : Fence) (n : Nat) (P : Program) (gf : Nat) (lb : Array Value) (encs : α → Array Value) (Sw : Nat → Prop) (St : Nat → World → Prop) (Ya : Nat → α → World → Prop) (N : Nat) : Prop :=
  ∀ (l : Nat) (J : Nat → World → Prop) (W : World), St 0 W → (∀ k A B, J k A → Mod Sw A B → J k B) →
    (∀ k x W1, k < N → J k W1 → Ya k x W1 → YieldAt F (n - 1) P l (encs x) W1 fun e W' => e = .returned (.bool true) ∧ J (k + 1) W' ∧ St (k + 1) W') →
    J 0 W → CallsIn F n P gf (#[.func (.yield l) #[] #[]] ++ lb) W fun e W' => (∃ v, e = .returned v) ∧ J N W' ∧ St N W'

/-- How a round ends: it goes on. -/
def stPost (B : Nat) (R : World → Prop) (W : World) : Exit → Act → World → Prop
  | .normal, _, W' => KeepsFrom B W W' ∧ R W'
  | .ret, _, _ => False
  | .exit _, _, _ => False
  | .goto _, _, _ => False
  | .panic _, _, _ => False
  | .outgrown, _, _ => False

theorem wpIn_rangeFunc_st {F : Fence} {n : Nat} {P : Program} {α : Type} {g : Operand} {ps : Array Tmp} {assign body : Code} {Q : Exit → Act → World → Prop} {a : Act} {w : World}
    (hro : F.round = none) (h1 : 1 ≤ n) {gf : Nat} {lb : Array Value} (hg : a.eval g = .func (.func gf) #[] lb) (hFg : F.fn gf) (eg : ∀ args w, (callFunc gf args).run P w = .ok (.enter gf args) w)
    {encs : α → Array Value} (hps : ∀ x, (encs x).size = ps.size) {Sw : Nat → Prop} {St : Nat → World → Prop} {Ya : Nat → α → World → Prop} {N : Nat}
    (hseq : SeqSt F (n - 1) P gf lb encs Sw St Ya N) (hSw : ∀ k, Sw k → k < w.heap.size)
    (hStA : ∀ B, Below w.heap.size w B → St 0 B)
    (hStP : ∀ k A l o o', w.heap.size ≤ l → A.heap[l]? = some o → o.isCells = false → St k A → St k (A.putObj l o'))
    (hYaP : ∀ k x A l o o', w.heap.size ≤ l → A.heap[l]? = some o → o.isCells = false → Ya k x A → Ya k x (A.putObj l o'))
    (I : Nat → World → Prop) (hIS : ∀ k A B, I k A → Mod Sw A B → I k B)
    (hIP : ∀ k A l o o', w.heap.size ≤ l → A.heap[l]? = some o → o.isCells = false → I k A → I k (A.putObj l o'))
    (h0 : I 0 w) (a₁ : α → Act)
    (hassign : ∀ (l : Nat) (x : α) (W : World) (K : Act → World → Prop), K (a₁ x) W →
      assign.wpIn (F.inRound l) (n - 1 - 1) P (Exit.then K (fun _ _ _ => False)) { tmps := (ps.zip (encs x)).foldl (fun t (p, v) => t.setIfInBounds p v) a.tmps, defers := [] } W)
    (hbody : ∀ (l k : Nat) (x : α) (W : World), k < N → I k W → Ya k x W → body.wpIn (F.inRound l) (n - 1 - 1) P (stPost w.heap.size (fun W' => I (k + 1) W' ∧ St (k + 1) W') W) (a₁ x) W)
    (hdone : ∀ (D : Nat) (W : World), w.heap.size ≤ D → I N W → St N W → W.heap[D]? = some (.deferred (some [])) → Q .normal { a with defers := { target := .collected D, args := #[] } :: a.defers } W) :
    (Code.rangeFunc g ps assign body).wpIn F n P Q a w := by
  refine wpIn_rangeFunc ?_
  intro fn hfn
  rw [hro]
  obtain ⟨rec, hrec⟩ : ∃ rec : LoopState → Option Code → Loop, rec = fun st pe => { state := st, pending := pe, fn, tmps := a.tmps, params := ps, assign, body, defers := w.heap.size } := ⟨_, rfl⟩
  generalize hX : w.heap.size = X at *
  have hm1 : Mod Sw w ((w.alloc (.deferred (some []))).alloc (.loop (rec .ready none))) := ((Mod.refl _ _).alloc _).alloc _
  have hb1 : Below X w ((w.alloc (.deferred (some []))).alloc (.loop (rec .ready none))) := ((Below.refl _ w).alloc (Nat.le_of_eq hX.symm) _).alloc (by simp; omega) _
  have hL1 : ((w.alloc (.deferred (some []))).alloc (.loop (rec .ready none))).heap[X + 1]? = some (.loop (rec .ready none)) := by
    have := World.alloc_heap_new (w.alloc (.deferred (some []))) (.loop (rec .ready none)); rwa [World.size_alloc, hX] at this
  have hK1 : ((w.alloc (.deferred (some []))).alloc (.loop (rec .ready none))).heap[X]? = some (.deferred (some [])) := by
    have := World.alloc_heap_new w (.deferred (some [])); rw [hX] at this
    exact (Below.heap_alloc _ _ _ (by simp; omega)).trans this
  have hblk : ∀ {A B : World} {q : Nat} {o : Obj}, Mod Sw A B → X ≤ q → A.heap[q]? = some o → B.heap[q]? = some o := fun hm hq ho =>
    (hm.block _ (Array.getElem?_eq_some_iff.1 ho).1 (fun hs => by have := hSw _ hs; omega)).trans ho
  have hstart := run_enterLoop_outer (P := P) (w := w) fn a.tmps ps assign body
  rw [hX] at hstart
  generalize hW1 : (w.alloc (.deferred (some []))).alloc (.loop (rec .ready none)) = W1 at *
  refine ⟨X + 1, [{ target := .collected X, args := #[] }], W1, { target := .fn (.func gf) lb, args := #[.func (.yield (X + 1)) #[] #[]] }, W1, gf, #[.func (.yield (X + 1)) #[] #[]] ++ lb, W1, ?_, ?_, ?_, ?_, fun _ => h1, ?_⟩
  · rw [hstart, ← hW1, hrec]
  · simp only [resolve, hg]
    simp [go_sem]
  · intro f' hf'; simp [Target.leads] at hf'; subst hf'; exact hFg
  · simp [invoke, go_sem, eg]
  · refine (hseq (X + 1) (fun k W => I k W ∧ W.heap[X + 1]? = some (.loop (rec .ready none)) ∧ W.heap[X]? = some (.deferred (some []))) W1 (hStA _ hb1)
      (fun k A B hJ hm => ⟨hIS k A B hJ.1 hm, hblk hm (by omega) hJ.2.1, hblk hm (Nat.le_refl _) hJ.2.2⟩) ?_ ⟨hIS 0 w W1 h0 hm1, hL1, hK1⟩).mono ?_
    · rintro k x W hk ⟨hi, hl, hd⟩ hya
      have hy := run_yield (P := P) (args := encs x) hl (by rw [hrec]; exact hps x)
      rw [hrec] at hy
      refine ⟨fn, _, assign, body, hy, roundIn_of_wpIn hfn (hassign _ x W _ ⟨_, run_beginRound hl (by rw [hrec]), ?_⟩)⟩
      have hlt : X + 1 < W.heap.size := (Array.getElem?_eq_some_iff.1 hl).1
      have hl2 : (W.putObj (X + 1) (.loop { rec .ready none with state := .busy })).heap[X + 1]? = some (.loop { rec .ready none with state := .busy }) := World.putObj_heap_same hlt
      have hd2 : (W.putObj (X + 1) (.loop { rec .ready none with state := .busy })).heap[X]? = some (.deferred (some [])) := (World.putObj_heap_other (by omega)).trans hd
      refine wpIn_mono (hbody _ k x _ hk (hIP k W _ _ _ (by omega) hl rfl hi) (hYaP k x W _ _ _ (by omega) hl rfl hya)) ?_
      rintro e a3 W3 hp
      cases e with
      | normal =>
        obtain ⟨hk3, hi3, hs3⟩ := hp
        have hl3 := hk3.same _ _ (by omega) hl2 rfl
        have hd3 := hk3.same _ _ (Nat.le_refl _) hd2 rfl
        have hr := run_endRound (P := P) none hl3
        refine ⟨_, _, hr, rfl, ⟨hIP _ _ _ _ _ (by omega) hl3 rfl hi3, ?_, ?_⟩, hStP _ _ _ _ _ (by omega) hl3 rfl hs3⟩
        · rw [World.putObj_heap_same (Array.getElem?_eq_some_iff.1 hl3).1, hrec]
          rfl
        · exact (World.putObj_heap_other (by omega)).trans hd3
      | ret => exact hp.elim
      | exit id => exact hp.elim
      | goto t => exact hp.elim
      | panic ch => exact hp.elim
      | outgrown => exact hp.elim
    · rintro e W2 ⟨⟨v, rfl⟩, ⟨hi, hl, hd⟩, hs⟩
      refine ⟨none, _, by have := run_endLoop (P := P) hl (by rw [hrec]; simp); rw [hrec] at this; exact this, ?_⟩
      exact hdone _ _ (Nat.le_refl _) (hIP _ _ _ _ _ (by omega) hl rfl hi) (hStP _ _ _ _ _ (by omega) hl rfl hs) ((World.putObj_heap_other (by omega)).trans hd)
/-- The same, where the assignment of the loop's variables makes memory. -/
theorem wpIn_rangeFunc_st2 {F : Fence} {n : Nat} {P : Program} {α : Type} {g : Operand} {ps : Array Tmp} {assign body : Code} {Q : Exit → Act → World → Prop} {a : Act} {w : World}
    (hro : F.round = none) (h1 : 1 ≤ n) {gf : Nat} {lb : Array Value} (hg : a.eval g = .func (.func gf) #[] lb) (hFg : F.fn gf) (eg : ∀ args w, (callFunc gf args).run P w = .ok (.enter gf args) w)
    {encs : α → Array Value} (hps : ∀ x, (encs x).size = ps.size) {Sw : Nat → Prop} {St : Nat → World → Prop} {Ya : Nat → α → World → Prop} {N : Nat}
    (hseq : SeqSt F (n - 1) P gf lb encs Sw St Ya N) (hSw : ∀ k, Sw k → k < w.heap.size)
    (hStA : ∀ B, Below w.heap.size w B → St 0 B)
    (hStP : ∀ k A l o o', w.heap.size ≤ l → A.heap[l]? = some o → o.isCells = false → St k A → St k (A.putObj l o'))
    (I : Nat → World → Prop) (hIS : ∀ k A B, I k A → Mod Sw A B → I k B)
    (hIP : ∀ k A l o o', w.heap.size ≤ l → A.heap[l]? = some o → o.isCells = false → I k A → I k (A.putObj l o'))
    (h0 : I 0 w) (As : Nat → Act → World → Prop)
    (hAsP : ∀ k a' A l o o', w.heap.size ≤ l → A.heap[l]? = some o → o.isCells = false → As k a' A → As k a' (A.putObj l o'))
    (hassign : ∀ (l k : Nat) (x : α) (W : World) (K : Act → World → Prop), k < N → w.heap.size ≤ W.heap.size → I k W → Ya k x W → (∀ a' W', KeepsFrom w.heap.size W W' → As k a' W' → K a' W') →
      assign.wpIn (F.inRound l) (n - 1 - 1) P (Exit.then K (fun _ _ _ => False)) { tmps := (ps.zip (encs x)).foldl (fun t (p, v) => t.setIfInBounds p v) a.tmps, defers := [] } W)
    (hbody : ∀ (l k : Nat) (a' : Act) (W : World), k < N → As k a' W → body.wpIn (F.inRound l) (n - 1 - 1) P (stPost w.heap.size (fun W' => I (k + 1) W' ∧ St (k + 1) W') W) a' W)
    (hdone : ∀ (D : Nat) (W : World), w.heap.size ≤ D → I N W → St N W → W.heap[D]? = some (.deferred (some [])) → Q .normal { a with defers := { target := .collected D, args := #[] } :: a.defers } W) :
    (Code.rangeFunc g ps assign body).wpIn F n P Q a w := by
  refine wpIn_rangeFunc ?_
  intro fn hfn
  rw [hro]
  obtain ⟨rec, hrec⟩ : ∃ rec : LoopState → Option Code → Loop, rec = fun st pe => { state := st, pending := pe, fn, tmps := a.tmps, params := ps, assign, body, defers := w.heap.size } := ⟨_, rfl⟩
  generalize hX : w.heap.size = X at *
  have hm1 : Mod Sw w ((w.alloc (.deferred (some []))).alloc (.loop (rec .ready none))) := ((Mod.refl _ _).alloc _).alloc _
  have hb1 : Below X w ((w.alloc (.deferred (some []))).alloc (.loop (rec .ready none))) := ((Below.refl _ w).alloc (Nat.le_of_eq hX.symm) _).alloc (by simp; omega) _
  have hL1 : ((w.alloc (.deferred (some []))).alloc (.loop (rec .ready none))).heap[X + 1]? = some (.loop (rec .ready none)) := by
    have := World.alloc_heap_new (w.alloc (.deferred (some []))) (.loop (rec .ready none)); rwa [World.size_alloc, hX] at this
  have hK1 : ((w.alloc (.deferred (some []))).alloc (.loop (rec .ready none))).heap[X]? = some (.deferred (some [])) := by
    have := World.alloc_heap_new w (.deferred (some [])); rw [hX] at this
    exact (Below.heap_alloc _ _ _ (by simp; omega)).trans this
  have hblk : ∀ {A B : World} {q : Nat} {o : Obj}, Mod Sw A B → X ≤ q → A.heap[q]? = some o → B.heap[q]? = some o := fun hm hq ho =>
    (hm.block _ (Array.getElem?_eq_some_iff.1 ho).1 (fun hs => by have := hSw _ hs; omega)).trans ho
  have hstart := run_enterLoop_outer (P := P) (w := w) fn a.tmps ps assign body
  rw [hX] at hstart
  generalize hW1 : (w.alloc (.deferred (some []))).alloc (.loop (rec .ready none)) = W1 at *
  refine ⟨X + 1, [{ target := .collected X, args := #[] }], W1, { target := .fn (.func gf) lb, args := #[.func (.yield (X + 1)) #[] #[]] }, W1, gf, #[.func (.yield (X + 1)) #[] #[]] ++ lb, W1, ?_, ?_, ?_, ?_, fun _ => h1, ?_⟩
  · rw [hstart, ← hW1, hrec]
  · simp only [resolve, hg]
    simp [go_sem]
  · intro f' hf'; simp [Target.leads] at hf'; subst hf'; exact hFg
  · simp [invoke, go_sem, eg]
  · refine (hseq (X + 1) (fun k W => I k W ∧ W.heap[X + 1]? = some (.loop (rec .ready none)) ∧ W.heap[X]? = some (.deferred (some []))) W1 (hStA _ hb1)
      (fun k A B hJ hm => ⟨hIS k A B hJ.1 hm, hblk hm (by omega) hJ.2.1, hblk hm (Nat.le_refl _) hJ.2.2⟩) ?_ ⟨hIS 0 w W1 h0 hm1, hL1, hK1⟩).mono ?_
    · rintro k x W hk ⟨hi, hl, hd⟩ hya
      have hy := run_yield (P := P) (args := encs x) hl (by rw [hrec]; exact hps x)
      rw [hrec] at hy
      refine ⟨fn, _, assign, body, hy, roundIn_of_wpIn hfn (hassign _ k x W _ hk (by have := (Array.getElem?_eq_some_iff.1 hl).1; omega) hi hya (fun a' W' hkf has => ?_))⟩
      have hl' := hkf.same _ _ (by omega) hl rfl
      have hd' := hkf.same _ _ (Nat.le_refl _) hd rfl
      refine ⟨_, run_beginRound hl' (by rw [hrec]), ?_⟩
      have hlt : X + 1 < W'.heap.size := (Array.getElem?_eq_some_iff.1 hl').1
      have hl2 : (W'.putObj (X + 1) (.loop { rec .ready none with state := .busy })).heap[X + 1]? = some (.loop { rec .ready none with state := .busy }) := World.putObj_heap_same hlt
      have hd2 : (W'.putObj (X + 1) (.loop { rec .ready none with state := .busy })).heap[X]? = some (.deferred (some [])) := (World.putObj_heap_other (by omega)).trans hd'
      refine wpIn_mono (hbody _ k a' _ hk (hAsP k a' W' _ _ _ (by omega) hl' rfl has)) ?_
      rintro e a3 W3 hp
      cases e with
      | normal =>
        obtain ⟨hk3, hi3, hs3⟩ := hp
        have hl3 := hk3.same _ _ (by omega) hl2 rfl
        have hd3 := hk3.same _ _ (Nat.le_refl _) hd2 rfl
        have hr := run_endRound (P := P) none hl3
        refine ⟨_, _, hr, rfl, ⟨hIP _ _ _ _ _ (by omega) hl3 rfl hi3, ?_, ?_⟩, hStP _ _ _ _ _ (by omega) hl3 rfl hs3⟩
        · rw [World.putObj_heap_same (Array.getElem?_eq_some_iff.1 hl3).1, hrec]
          rfl
        · exact (World.putObj_heap_other (by omega)).trans hd3
      | ret => exact hp.elim
      | exit id => exact hp.elim
      | goto t => exact hp.elim
      | panic ch => exact hp.elim
      | outgrown => exact hp.elim
    · rintro e W2 ⟨⟨v, rfl⟩, ⟨hi, hl, hd⟩, hs⟩
      refine ⟨none, _, by have := run_endLoop (P := P) hl (by rw [hrec]; simp); rw [hrec] at this; exact this, ?_⟩
      exact hdone _ _ (Nat.le_refl _) (hIP _ _ _ _ _ (by omega) hl rfl hi) (hStP _ _ _ _ _ (by omega) hl rfl hs) ((World.putObj_heap_other (by omega)).trans hd)
end Go.Proofs.YtdfmgneicdpjmaaGreat
