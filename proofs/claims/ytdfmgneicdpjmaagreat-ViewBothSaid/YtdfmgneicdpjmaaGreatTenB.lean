/- bytes.Clone; model.answered where each frame is one byte. -/
import Derived.Test.YtdfmgneicdpjmaaGreatTenA
import Derived.Handy
namespace Go.Proofs.YtdfmgneicdpjmaaGreat
open Go.RowKit Go.Shelf
set_option linter.unusedVariables false
set_option linter.unusedSimpArgs false
set_option maxRecDepth 100000
namespace Resp

theorem Clone_bytes (v : Value) (zs : List Int) (W : World) (h : Reads .u8 W v zs) (h0 : 0 < zs.length) (hl : zs.length ≤ 1048576) :
    Calls Tryz.prog 59 #[v] W fun e w' => ∃ v', e = .returned v' ∧ w'.ownsRow W.heap.size 5 1 v' zs.length (u8s zs) ∧ Below W.heap.size W w' := by
  obtain ⟨i0, hi, hz0, hz1, hz2⟩ := info_parts infoByte
  obtain ⟨ad, c, e, -, hnw⟩ := Reads.lies_ h h0
  subst e
  have HNW := Lib.hid hnw
  clear hnw
  generalize hn : zs.length = n at *
  have HN := Lib.hid hn
  have hlI : (n : Int) ≤ 1048576 := by omega
  have hnz : ¬ n = 0 := by omega
  clear hn
  have hnil : (binOp .eql 25 (.slice (some ad) n c) (.slice none 0 0)).run Tryz.prog W = .ok (.bool false) W := by kernel_rfl
  go_enter Tryz.func59, Tryz.ntmps59
  go_wp2_with (at_builtin; refine wpList_append_own _ rfl _ _ 25 rfl W.heap.size 5 i0 (.int .u8 0) 1 1 Tryz.underlying25 hi hz0 hz1 hz2 rfl (by decide) _ _ _ rfl (World.ownsRow_lit W #[] 0 (Nat.le_refl _) (by unfold maxLen; omega) rfl) ad n c (u8s zs) rfl (by rw [u8s_length, HN.out, Nat.mul_one]) (HNW.out _ ((Below.refl _ _).alloc (Nat.le_refl _) _)) (u8s_one _) (by unfold maxLen; omega) (by omega) (by simp) ?_; intro v' w5 hown' hgrow hat; obtain ⟨a', c', e⟩ := ownsRow_form hown'; subst e; have HOWN := Lib.hid hown'; have HG := Lib.hid hgrow; clear hown' hgrow hat)
  go_ret
  have hm5 : Mod (fun k => some k = (Value.slice (some ⟨W.heap.size, 0, none⟩) 0 0).ownBlock) W w5 := ((Mod.refl _ W).alloc _).trans (Mod.of_grownBy HG.out)
  refine ⟨.slice a' n c', by simp, by simpa using HOWN.out, hm5.below (Nat.le_refl _) (fun k hk e => by simp [Value.ownBlock] at e; omega)⟩

/-- A slice of slices of one byte each. -/
def Frames1 (W : World) (v : Value) (m : Nat) : Prop := (m = 0 ∧ ∃ a c, v = .slice a 0 c) ∨ ∃ b c, v = .slice (some ⟨b, 0, none⟩) m c ∧ ∀ i < m, ∃ g cc z, W.cell? ⟨b, i, none⟩ = some (.slice (some ⟨g, 0, none⟩) 1 cc) ∧ W.cell? ⟨g, 0, none⟩ = some (.int .u8 z)
theorem Frames1.form {W : World} {v : Value} {m : Nat} (h : Frames1 W v m) : ∃ a c, v = .slice a m c := by
  rcases h with ⟨rfl, a, c, rfl⟩ | ⟨b, c, rfl, -⟩
  · exact ⟨_, _, rfl⟩
  · exact ⟨_, _, rfl⟩
theorem Frames1.at_ {W : World} {a : Option Addr} {m c : Nat} (h : Frames1 W (.slice a m c) m) {i : Nat} (hi : i < m) : ∃ b, a = some ⟨b, 0, none⟩ ∧ ∃ g cc z, W.cell? ⟨b, i, none⟩ = some (.slice (some ⟨g, 0, none⟩) 1 cc) ∧ W.cell? ⟨g, 0, none⟩ = some (.int .u8 z) := by
  rcases h with ⟨rfl, a', c', e⟩ | ⟨b, c', e, hc⟩
  · exact absurd hi (Nat.not_lt_zero _)
  · cases e
    exact ⟨b, rfl, hc i hi⟩
theorem reads_one_ {W : World} {g c : Nat} {z : Int} (h : W.cell? ⟨g, 0, none⟩ = some (.int .u8 z)) : Reads .u8 W (.slice (some ⟨g, 0, none⟩) 1 c) [z] :=
  .inr ⟨g, 0, c, rfl, by unfold maxLen; simp, fun i hi => by
    have : i = 0 := by simpa using hi
    subst this
    simpa using h⟩
/-- A row of responses, one for each number from one on. -/
def OutRow (W : World) (base : Nat) (v : Value) (m : Nat) : Prop := ∃ vs : List Value, vs.length = m ∧ W.ownsRow base 25 1 v m vs ∧ ∀ i (hi : i < vs.length), W.ownsRow base 5 1 vs[i] 9 (u8s (frameR (i + 1)))
theorem OutRow.keep {W W' : World} {base base2 : Nat} {v v2 : Value} {m n2 : Nat} {e2 : TypeId} {size2 : Nat} {xs2 : List Value} (h : OutRow W base v m) (h2 : W.ownsRow base2 e2 size2 v2 n2 xs2) (hm : Mod (fun k => some k = v2.ownBlock) W W') (ht : ¬ e2 = 25) (ht2 : ¬ e2 = 5) : OutRow W' base v m := by
  obtain ⟨vs, hl, ho, he⟩ := h
  exact ⟨vs, hl, owns_keep_ ho h2 hm ht, fun i hi => owns_keep_ (he i hi) h2 hm ht2⟩
theorem owns_keep_at_ {W W' : World} {base : Nat} {e : TypeId} {size : Nat} {v : Value} {n : Nat} {xs : List Value} (h : W.ownsRow base e size v n xs) {B : Nat} {cs : Array Value} {t : TypeId} {fr : Nat × Nat} (hB : W.heap[B]? = some (.cells cs t fr)) (hm : Mod (fun g => g = B) W W') (ht : ¬ e = t) : W'.ownsRow base e size v n xs :=
  ownsRow_mod h hm fun g hg e => own_other_ h hB ht (by rw [hg, e])
theorem OutRow.keep_at {W W' : World} {base : Nat} {v : Value} {m : Nat} (h : OutRow W base v m) {B : Nat} {cs : Array Value} {t : TypeId} {fr : Nat × Nat} (hB : W.heap[B]? = some (.cells cs t fr)) (hm : Mod (fun g => g = B) W W') (ht : ¬ 25 = t) (ht2 : ¬ 5 = t) : OutRow W' base v m := by
  obtain ⟨vs, hl, ho, he⟩ := h
  exact ⟨vs, hl, owns_keep_at_ ho hB hm ht, fun i hi => owns_keep_at_ (he i hi) hB hm ht2⟩
def AloneAt (W : World) (A B : Nat) : Prop := W.heap[A]? = some (.cells #[.pointer (some ⟨B, 0, none⟩)] 147)
theorem AloneAt.cell {W : World} {A B : Nat} (h : AloneAt W A B) : W.cell? ⟨A, 0, none⟩ = some (.pointer (some ⟨B, 0, none⟩)) := by
  have h' : W.heap[A]? = _ := h
  simp [World.cell?, h']
theorem AloneAt.lt {W : World} {A B : Nat} (h : AloneAt W A B) : A < W.heap.size := (Array.getElem?_eq_some_iff.1 h).1
theorem AloneAt.mod {S : Nat → Prop} {W W' : World} {A B : Nat} (h : AloneAt W A B) (hm : Mod S W W') (hA : ¬ S A) : AloneAt W' A B := hm.heap h hA
theorem infoBytes : (Tryz.prog.info? 25).map (fun i => (i.zero, i.size, i.bytes)) = some (some (.slice none 0 0), 1, 24) := by kernel_rfl
theorem infoInt : (Tryz.prog.info? 3).map (fun i => (i.zero, i.size, i.bytes)) = some (some (.int .i64 0), 1, 8) := by kernel_rfl
set_option maxHeartbeats 2000000 in
theorem answered_short (v : Value) (m : Nat) (W : World) (h : Frames1 W v m) (hm : m ≤ 100) :
    Calls Tryz.prog 84 #[v] W fun e w' => ∃ p vo vt, e = .returned (.tuple #[p, vo, vt, .int .i64 0]) ∧ OutRow w' W.heap.size vo m ∧ w'.ownsRow W.heap.size 3 1 vt m (List.replicate m (.int .i64 0)) ∧ Below W.heap.size W w' := by
  obtain ⟨i1, hi, hz0, hz1, hz2⟩ := info_parts infoBytes
  obtain ⟨i2, ki, kz0, kz1, kz2⟩ := info_parts infoInt
  obtain ⟨a, c, e⟩ := Frames1.form h
  subst e
  have hmI : (m : Int) ≤ 100 := by omega
  have HF := Lib.hid h
  clear h
  generalize hX : W.heap.size = X at *
  go_enter Tryz.func84, Tryz.ntmps84
  go_wp2_with fail
  refine (New_any W).mono ?_; rintro e W1 ⟨rfl, hs1, hb1⟩
  rw [hX] at hs1 hb1
  have HS1 := Lib.hid hs1
  have HB1 := Lib.hid hb1
  clear hs1 hb1
  go_wp2_with fail
  have hAB : ¬ W1.heap.size = X := fun e => by have := HS1.out.lt; omega
  have hAB2 : ¬ X = W1.heap.size := fun e => hAB e.symm
  have hbz : Below W1.heap.size W1 (W1.alloc (.cells #[.pointer (some ⟨X, 0, none⟩)] 147)) := (Below.refl _ _).alloc (Nat.le_refl _) _
  have HS2 := Lib.hid (HS1.out.below hbz)
  have HB2 := Lib.hid (HB1.out.trans (hbz.mono (Nat.le_of_lt HS1.out.lt)))
  have HA2 : Hid (AloneAt (W1.alloc (.cells #[.pointer (some ⟨X, 0, none⟩)] 147)) W1.heap.size X) := World.alloc_heap_new _ _
  clear hbz HS1 HB1
  generalize W1.alloc (.cells #[.pointer (some ⟨X, 0, none⟩)] 147) = W2 at *
  generalize W1.heap.size = A at *
  have HX := Lib.hid hX
  clear hX
  go_loopw [7, 8, 21] (fun d t i wr => ∃ k : Nat, k ≤ m ∧ i = .int .i64 k ∧ ∃ ad cd ta ct, d = .slice ad k cd ∧ t = .slice ta k ct ∧ Hid (OutRow wr X (.slice ad k cd) k) ∧ Hid (wr.ownsRow X 3 1 (.slice ta k ct) k (List.replicate k (.int .i64 0))) ∧ Hid (SlotAt wr X k) ∧ Hid (AloneAt wr A X) ∧ Hid (Below X W wr)) (fun _ _ i _ => m - (intOf i).toNat)
  case atStart => exact ⟨0, Nat.zero_le _, rfl, none, 0, none, 0, rfl, rfl, ⟨[], rfl, owns_nil _ _ _ _, fun i hi => absurd hi (by simp)⟩, owns_nil _ _ _ _, HS2, HA2, HB2⟩
  case round =>
    obtain ⟨k, hk, rfl, ad, cd, ta, ct, rfl, rfl, HO, HT, HS, HA, HB⟩ := hrel
    by_cases hlt : k < m
    · have hltI : (k : Int) < m := by omega
      obtain ⟨b, rfl, g, cc, z, hc1, hc2⟩ := Frames1.at_ HF.out hlt
      have hmw : Mod (fun _ => False) W wr := Mod.of_same (by have := HB.out; rw [← HX.out] at this; exact this)
      have g1 := hmw.cell (by simp) hc1
      have g2 := hmw.cell (by simp) hc2
      have HR := Lib.hid (reads_one_ (c := cc) g2)
      have hA := HA.out.cell
      have hXr : X ≤ wr.heap.size := Nat.le_of_lt HS.out.lt
      clear hmw hc1 hc2 g2
      go_upto_region 10 with fail
      go_region_held3 (fun W => W.cell? ⟨A, 0, none⟩ = some (.pointer (some ⟨X, 0, none⟩)))
        (first | (with_reducible exact HK2.out) | (with_reducible exact HK1.out) | exact hA | go_keep)
        ((first
          | (go_at_call 59; refine (Clone_bytes _ [z] _ (by exact HR.out) (by simp) (by simp)).mono ?_; rintro e y1 ⟨v1, rfl, ho1, hb1⟩; obtain ⟨a1, c1, e1⟩ := ownsRow_form ho1; subst e1; have HY1 : Hid (Mod (fun g => g = X) wr y1) := Mod.of_same (below_step_ (by repeat (first | exact Below.refl _ _ | refine below_drew_ ?_ | refine below_alloc_ ?_ _)) hb1); have HS1 := Lib.hid (HS.out.below (below_step_ (by repeat (first | exact Below.refl _ _ | refine below_drew_ ?_ | refine below_alloc_ ?_ _)) hb1)); have HK1 : Hid (y1.cell? ⟨A, 0, none⟩ = some (.pointer (some ⟨X, 0, none⟩))) := (HA.out.mod HY1.out hAB).cell; clear hb1 ho1)
          | (go_at_call 119; refine (Begin_short X k (by omega) _ (by exact HS1.out) _ _ _ (by simp)).mono ?_; rintro e y2 ⟨v2, rfl, ho2, hs2, hm2⟩; obtain ⟨a2, c2, e2⟩ := ownsRow_form ho2; subst e2; have HY2 := Lib.hid (HY1.out.trans (Mod.trans (Mod.of_same (by repeat (first | exact Below.refl _ _ | refine below_drew_ ?_ | refine below_alloc_ ?_ _))) hm2)); have HS2 := Lib.hid hs2; have HO2 := Lib.hid (ownsRow_base ho2 (base' := X) (by have := HY1.out.size; show X ≤ y1.heap.size; omega)); have HK2 : Hid (y2.cell? ⟨A, 0, none⟩ = some (.pointer (some ⟨X, 0, none⟩))) := (HA.out.mod HY2.out hAB).cell; clear hm2 hs2 ho2)))
      have HT2 := Lib.hid (owns_keep_at_ HT.out HS.out HY2.out (by decide))
      have HO2' := Lib.hid (HO.out.keep_at HS.out HY2.out (by decide) (by decide))
      have HA2' := Lib.hid (HA.out.mod HY2.out hAB)
      have HB2' : Hid (Below X W y2) := HB.out.trans (HY2.out.below hXr (fun k hk e => by omega))
      have hXy : X ≤ y2.heap.size := Nat.le_of_lt HS2.out.lt
      clear HK1 HK2 HS1 HY1 HO HT HS HA HB hA g1 hXr HR
      obtain ⟨vs, hvl, hvo, hve⟩ := HO2'.out
      have HVL := Lib.hid hvl
      have HVO := Lib.hid hvo
      have HVE := Lib.hid hve
      clear hvl hvo hve
      go_wp2_with fail
      go_loopw [11, 12, 13] (fun n r d wx => n = .int .i64 0 ∧ r = .slice a2 9 c2 ∧ d = .bool true ∧ wx = y2) (fun _ _ _ _ => 0)
      case atStart => exact ⟨rfl, rfl, rfl, rfl⟩
      case round =>
        obtain ⟨rfl, rfl, rfl, rfl⟩ := hrel
        go_wp2_with (at_builtin; first | (refine wpList_append_own _ rfl _ _ 22 rfl X 25 i1 (.slice none 0 0) 1 24 Tryz.underlying22 hi hz0 hz1 hz2 rfl (by decide) _ _ _ rfl (HVO.out.alloc _) ⟨wr.heap.size, 0, none⟩ 1 1 [.slice a2 9 c2] rfl rfl (news_one_ (by simp)) (by simp [Value.oneCell']) (by unfold maxLen; omega) (by omega) (by simp; omega) ?_; intro v' w3 hown' hgrow hat; obtain ⟨oa, oc, e⟩ := owns_form_pos_ hown' (by omega); subst e; have HOWNO := Lib.hid hown'; have hgr' : (wr.alloc (.cells #[.slice a2 9 c2] 25)).grownBy w3 (Value.slice ad k cd).ownBlock := hgrow; have HM3 := Lib.hid (((Mod.refl _ wr).alloc _).trans (Mod.of_grownBy hgr')); have HT3 := Lib.hid (owns_keep_ HT2.out HVO.out HM3.out (by decide)); clear hown' hgrow hat hgr') | (refine wpList_append_own _ rfl _ _ 30 rfl X 3 i2 (.int .i64 0) 1 8 Tryz.underlying30 ki kz0 kz1 kz2 rfl (by decide) _ _ _ rfl (HT3.out.alloc _) ⟨w3.heap.size, 0, none⟩ 1 1 [.int .i64 0] rfl rfl (news_one_ (by simp)) (by simp [Value.oneCell']) (by unfold maxLen; omega) (by omega) (by have := HM3.out.size; simp; omega) ?_; intro v' w4 hown' hgrow hat; obtain ⟨pa, pc, e⟩ := owns_form_pos_ hown' (by omega); subst e; have HOWNT := Lib.hid hown'; have hgr2 : (w3.alloc (.cells #[.int .i64 0] 3)).grownBy w4 (Value.slice ta k ct).ownBlock := hgrow; have HM4 := Lib.hid (((Mod.refl _ w3).alloc _).trans (Mod.of_grownBy hgr2)); clear hown' hgrow hat hgr2))
        have hs3 := HS2.out.mod HM3.out (own_other_ HVO.out HS2.out (by decide))
        have hs4 := hs3.mod HM4.out (own_other_ HT3.out hs3 (by decide))
        have ha3 := HA2'.out.mod HM3.out (own_other_ HVO.out HA2'.out (by decide))
        have ha4 := ha3.mod HM4.out (own_other_ HT3.out ha3 (by decide))
        have hb3 : Below X W w3 := HB2'.out.trans (HM3.out.below hXy (fun q hk e => by have := ownBlock_ge_ HVO.out e.symm; omega))
        have hb4 : Below X W w4 := hb3.trans (HM4.out.below (Nat.le_trans hXy HM3.out.size) (fun q hk e => by have := ownBlock_ge_ HT3.out e.symm; omega))
        refine ⟨⟨k + 1, by omega, by simp, _, _, _, _, rfl, rfl, ⟨vs ++ [.slice a2 9 c2], by simp [HVL.out], owns_keep_ HOWNO.out HT3.out HM4.out (by decide), fun i hi => ?_⟩, by rw [List.replicate_succ']; exact HOWNT.out, hs4, ha4, hb4⟩, by simp [intOf]; omega⟩
        by_cases hlt2 : i < vs.length
        · rw [List.getElem_append_left hlt2]
          exact owns_keep_ (owns_keep_ (HVE.out i hlt2) HVO.out HM3.out (by decide)) HT3.out HM4.out (by decide)
        · have hik : i = k := by have := HVL.out; simp at hi; omega
          subst hik
          rw [List.getElem_append_right (by omega)]
          simp only [List.getElem_singleton]
          exact owns_keep_ (owns_keep_ HO2.out HVO.out HM3.out (by decide)) HT3.out HM4.out (by decide)
    · have hk2 : k = m := by omega
      subst hk2
      have hA := HA.out.cell
      go_wp2_with fail
      go_returns
      exact ⟨_, _, _, rfl, HO.out, HT.out, HB.out⟩
end Resp
end Go.Proofs.YtdfmgneicdpjmaaGreat
