/- The law SlotsCleared: the walk. -/
import Derived.Test.YtpcbmckknafdgaaSlotZQ
import Derived.Test.YtpcbmckknafdgaaSlotJ
import Derived.Test.YtpcbmckknafdgaaSlotP
import Derived.Test.YtpcbmckknafdgaaSlotL
import Derived.BigRegion
import Derived.IntWalk
import Derived.Deep.Cut
import Derived.Deep.RegionHeld3
import Derived.Deep.AppendLies
namespace Go.Proofs.Ytpcbmckknafdgaa
open Go.RowKit Go.Shelf
attribute [local go_sem] Oper.semAt_some
set_option linter.unusedVariables false
set_option linter.unusedSimpArgs false
set_option maxRecDepth 100000
namespace Slot

/-- A slice that reads as references; its row lies behind base and ahead of top. -/
def RefRow (base top : Nat) (w : World) (av : Option Addr) (l : List R) : Prop :=
  l = [] ∨ ∃ g, av = some ⟨g, 0, none⟩ ∧ base ≤ g ∧ g < top ∧ top ≤ w.heap.size ∧ ∀ i, i < l.length → w.cell? ⟨g, i * 2, none⟩ = some (.int .i64 (l[i]?.getD (0, 0)).1) ∧ w.cell? ⟨g, i * 2 + 1, none⟩ = some (.int .i64 (l[i]?.getD (0, 0)).2)
theorem RefRow.of_owns {w : World} {base n cv : Nat} {av : Option Addr} {e : TypeId} {l : List R} (h : w.ownsRow base e 2 (.slice av n cv) n (refCells l)) : RefRow base w.heap.size w av l := by
  rcases ReadsRefs.of_owns h with ⟨a, cap, e, hl⟩ | ⟨b, cap, e, hb, hlt, hc⟩
  · exact .inl hl
  · injection e with e1 _ _
    exact .inr ⟨b, e1, hb, hlt, Nat.le_refl _, hc⟩
theorem RefRow.mod {S : Nat → Prop} {base top : Nat} {w w' : World} {av : Option Addr} {l : List R} (h : RefRow base top w av l) (hm : Mod S w w') (hS : ∀ g, base ≤ g → g < top → ¬ S g) : RefRow base top w' av l := by
  rcases h with h | ⟨g, h1, h2, h3, h4, h5⟩
  · exact .inl h
  · exact .inr ⟨g, h1, h2, h3, Nat.le_trans h4 hm.size, fun i hi => ⟨hm.cell (hS g h2 h3) (h5 i hi).1, hm.cell (hS g h2 h3) (h5 i hi).2⟩⟩
theorem RefRow.below {base top : Nat} {w w' : World} {av : Option Addr} {l : List R} (h : RefRow base top w av l) (hm : Below w.heap.size w w') : RefRow base top w' av l := h.mod (S := fun _ => False) (Mod.of_same hm) (by simp)


set_option maxHeartbeats 16000000 in
theorem cleared_nil (a0 : Int) (h00 : 0 ≤ a0) (h01 : a0 ≤ 255) (a1 : Int) (h10 : 0 ≤ a1) (h11 : a1 ≤ 255)  (w : World)  :
    Calls Try.prog 10 #[.int .u8 a0, .int .u8 a1, .slice none 0 0] w fun e w' => e = .returned (.bool true) ∧ Below w.heap.size w w' := by
  obtain ⟨i0, hi, hz0, hz1, hz2⟩ := info_parts infoInt
  refine (callsIn_wide (n := 8)).1 ?_
  refine callsIn_of_wp_marks Try.func10 rfl trivial ?_ rfl
  simp only [Try.ntmps10, List.size_toArray, List.length_cons, List.length_nil, Nat.reduceAdd, Nat.reduceSub, Array.replicate_succ, Array.replicate_zero, List.push_toArray, List.append_toArray, List.nil_append, List.cons_append]
  refine wpIn_wide.2 ?_
  go_wp2_with fail
  refine (awake_any _).mono ?_; rintro e wa ⟨rfl, hba⟩
  go_wp2_with fail
  refine (sizes_any _ _ (by omega) (by omega) (by omega) (by omega) _).mono ?_; rintro e w' ⟨rfl, rfl⟩
  have hn0 : 0 ≤ a0 % 41 := by omega
  have hn1 : a0 % 41 ≤ 40 := by omega
  have hk1 : 1 ≤ 1 + a1 % 6 := by omega
  have hk2 : 1 + a1 % 6 ≤ 6 := by omega
  generalize a0 % 41 = ni at *
  generalize 1 + a1 % 6 = k at *
  obtain ⟨n, rfl⟩ := Int.eq_ofNat_of_zero_le hn0
  clear hn0 h00 h01 h10 h11
  have bK := Boxed.new wa 3 (.int .i64 k)
  have hbK := hba.alloc hba.size (.cells #[.int .i64 k] 3)
  have hzK : (wa.alloc (.cells #[.int .i64 k] 3)).heap.size = wa.heap.size + 1 := by simp
  have c8 := bK.cell
  go_wp2_with fail
  generalize wa.alloc (.cells #[.int .i64 k] 3) = wk at *
  refine (New_yes n _ _ (by omega) (by omega)).mono ?_; rintro e wb ⟨rfl, hT, hBa⟩
  have hS := hbK.trans (hBa.mono hbK.size)
  have hsz := hba.size
  have hlt := hT.lt
  have bK2 : Boxed wb wa.heap.size 3 (.int .i64 k) := (hBa.block wa.heap.size (by omega)).trans bK
  obtain ⟨p, hp⟩ : ∃ p, p = wk.heap.size + 1 := ⟨_, rfl⟩
  rw [← hp] at hT hlt ⊢
  generalize wa.heap.size = B8 at *
  generalize wk.heap.size = q at *
  have HP := Lib.hid (show w.heap.size ≤ B8 ∧ B8 < q ∧ q < p ∧ p < wb.heap.size from ⟨hsz, by omega, by omega, hlt.1⟩)
  clear hba hBa hsz hp hlt hbK hzK bK c8
  have hmin : min (0 : Int) 200 = 0 := by decide

  go_wp2_with fail
  go_loopw [56] (fun i wr => ∃ (j : Nat) (T : Tab), j ≤ 0 ∧ i = .int .i64 j ∧ TableAt wr p q n T ∧ Hid (T.most = k) ∧ Boxed wr B8 3 (.int .i64 k) ∧ Below w.heap.size w wr) (fun i _ => 0 - (intOf i).toNat)
  case atStart => exact ⟨0, _, Nat.zero_le _, rfl, hT, rfl, bK2, hS⟩
  case round =>
    clear hT bK2 hS
    obtain ⟨j, T, hj, rfl, hT, HI, bK, hS⟩ := hrel
    obtain ⟨wo, rfl⟩ : ∃ wo : World, wo = wr := ⟨_, rfl⟩
    by_cases hlt : j < 0
    · exact absurd hlt (by omega)
    · obtain rfl : j = 0 := by omega
      have hv := hT.2.1
      have hrl := refs_le n T
      have hfl := free_le hv
      have hwa := want_all hv
      rw [HI.out] at hwa
      have HWANT := Lib.hid hwa
      have HCL := Lib.hid (show ∀ r ∈ refsT n T, lookT n (clearT n T) r.1 = (r.2, false) ∧ liveT n (clearT n T) r = false from fun r hr => clear_look hv hr)
      have HCR := Lib.hid (clear_refs hv)
      have hwl := wantL_le k (backsOf (refsT n T) (refsT n T).length)
      rw [backsOf_length] at hwl
      have hbase := hT.lt
      have hn40 : n ≤ 40 := by omega
      clear hwa hv hlt hj
      go_wp2_with fail
      refine (Refs_any p q n T _ hT).mono ?_; rintro e w1 ⟨v1, rfl, hr1, hb1⟩
      obtain ⟨a1', c1, e⟩ := ownsRow_val hr1
      subst e
      have hR1 := RefRow.of_owns hr1
      have hT1 := hT.below hb1
      have bK1 := (Mod.of_same (S := fun _ => False) hb1).boxed bK (by simp)
      have hS1 := hS.trans (hb1.mono hS.size)
      have hz1 := hb1.size
      clear hT bK hS hr1 hb1
      go_wp2_with fail
      refine (Free_any p q n T _ hT1).mono ?_; rintro e w2 ⟨v2, rfl, hr2, hb2⟩
      obtain ⟨a2', c2, e⟩ := ownsRow_val hr2
      subst e
      have hR2 := hR1.below hb2
      have hT2 := hT1.below hb2
      have bK2 := (Mod.of_same (S := fun _ => False) hb2).boxed bK1 (by simp)
      have hS2 := hS1.trans (hb2.mono hS1.size)
      have hz2 := hb2.size
      clear hT1 bK1 hS1 hR1 hb2
      obtain ⟨cb, cc, hct, hcc⟩ : ∃ cb cc : Int, countsT n T = (((refsT n T).length : Int), cb, cc) ∧ cc = (n : Int) - (refsT n T).length - T.free.length := ⟨_, _, rfl, rfl⟩
      have HCC := Lib.hid hcc
      have C := Counts_any p q n T _ hT2
      rw [hct] at C
      have HC := Lib.hid C
      clear C hcc hct
      go_wp2_with fail
      refine HC.out.mono ?_; rintro e w3 ⟨rfl, hb3⟩
      have hR3 := hR2.below hb3
      have hT3 := hT2.below hb3
      have bK3 := (Mod.of_same (S := fun _ => False) hb3).boxed bK2 (by simp)
      have hS3 := hS2.trans (hb3.mono hS2.size)
      have hr3 := ownsRow_mod (S := fun _ => False) hr2 (Mod.of_same hb3) (by simp)
      have hz3 := hb3.size
      clear hT2 bK2 hS2 hR2 hb3 hr2 HC
      go_wp2_with fail
      refine (Clear_any p q n T _ hT3).mono ?_; rintro e w4 ⟨rfl, hT4, hM4⟩
      have hzp := HP.out
      have hR4 := hR3.mod hM4 (fun g h1 h2 e => by omega)
      have bK4 := hM4.boxed bK3 (by omega)
      have hS4 := hS3.trans (hM4.below hS3.size (fun g hg e => by omega))
      have hr4 := ownsRow_mod hr3 hM4 (fun g e h => by have := (hr3.lt g e).1; omega)
      have hz4 := hM4.size
      have HZ := Lib.hid (show wo.heap.size ≤ w1.heap.size ∧ w1.heap.size ≤ w4.heap.size ∧ p < wo.heap.size ∧ q < wo.heap.size ∧ B8 < wo.heap.size from ⟨hz1, by omega, hbase.1, hbase.2, by omega⟩)
      clear hT3 bK3 hS3 hR3 hr3 hM4 hz1 hz2 hz3 hz4 hzp hbase
      go_wp2_with fail
      have bW0 := Boxed.new w4 29 (.slice none 0 0)
      have bW := bW0.alloc (.cells #[.slice a1' (refsT n T).length c1] 44)
      have bB := (Boxed.new (w4.alloc (.cells #[.slice none 0 0] 29)) 44 (.slice a1' (refsT n T).length c1)).cell
      rw [World.size_alloc] at bB
      have hb50 : Below w4.heap.size w4 ((w4.alloc (.cells #[.slice none 0 0] 29)).alloc (.cells #[.slice a1' (refsT n T).length c1] 44)) := ((Below.refl _ _).alloc (Nat.le_refl _) _).alloc (by simp) _
      have hT5 := hT4.below hb50
      have bK5 := (Mod.of_same (S := fun _ => False) hb50).boxed bK4 (by simp)
      have hR5 := hR4.below hb50
      have hr5 := ownsRow_mod (S := fun _ => False) hr4 (Mod.of_same hb50) (by simp)
      have hS5 := hS4.trans (hb50.mono hS4.size)
      have hz5 : (((w4.alloc (.cells #[.slice none 0 0] 29)).alloc (.cells #[.slice a1' (refsT n T).length c1] 44))).heap.size = w4.heap.size + 2 := by simp
      have hr4lt := fun g e => (hr4.lt g e).2
      refine (Backward_any _ _ _ _).mono ?_; rintro e w5 ⟨rfl, rfl⟩
      go_wp2_with fail
      clear hT4 bK4 hR4 hr4 hS4 hb50 bW0
      generalize ((w4.alloc (.cells #[.slice none 0 0] 29)).alloc (.cells #[.slice a1' (refsT n T).length c1] 44)) = W0 at *
      generalize w4.heap.size = Bw at *
      have HZ5 := Lib.hid hz5
      have HR5 := Lib.hid hR5
      have HT5 := Lib.hid hT5
      have HS5 := Lib.hid hS5
      have Hr5 := Lib.hid hr5
      have Hr4 := Lib.hid hr4lt
      have HK5 := Lib.hid bK5
      clear hr5 hS5 hr4lt bK5
      have hzz := HZ.out
      have hzp := HP.out
      refine (wpIn_wide (n := 8)).1 ?_
      refine wpIn_rangeFunc_ownH rfl (by omega) (gf := 38) (lb := #[.pointer (some ⟨Bw + 1, 0, none⟩)]) rfl trivial (enters_of Try.func38 (by kernel_rfl) rfl)
        (back_stops 7 (by omega) (Bw + 1) c1 a1' (fun k => k = Bw ∨ Bw + 2 ≤ k) (refsT n T) (by omega) W0 (by omega) (by omega) bB (by
          rcases hR5 with h | ⟨g, h1, h2, h3, h4, h5⟩
          · exact .inl h
          · exact .inr ⟨g, h1, by omega, by omega, h5⟩))
        (fun h k => h.trans k) (modK_b (by intro k hk; omega)) (Below.refl _ _) (fun _ => rfl)
        (fun pre W => (∃ v, Boxed W Bw 29 v ∧ W.ownsRow (Bw + 2) 3 1 v (wantL k pre).length ((wantL k pre).map (Value.int .i64)) ∧ True) ∧ Mod (fun k => k = Bw ∨ Bw + 2 ≤ k) W0 W)
        (fun _ _ _ => False)
        (OwnFrom.and (Own.from (holdsRow_own (Bw + 2) Bw 29 3 1 (fun pre : List (Nat × R) => (wantL k pre).length) (fun pre => (wantL k pre).map (Value.int .i64)) (fun _ _ => True)) _) (ownFrom_mod (by intro k hk; omega)))
        (fun _ _ _ _ _ hs _ _ => hs)
        ⟨⟨_, bW, World.ownsRow_nil _ _ _ _, trivial⟩, Mod.refl _ _⟩
        (fun x a' W => ∃ Bx, Bw + 2 ≤ Bx ∧ RefAt W Bx x.2 ∧ a' = { tmps := #[Value.int IntKind.u8 a0, Value.int IntKind.u8 a1, Value.slice none 0 0, undef, undef, undef, Value.bool false, Value.int IntKind.i64 ↑n, Value.pointer (some { block := B8, off := 0 }), Value.pointer (some { block := p, off := 0 }), Value.int IntKind.i64 0, undef, u12, Value.slice a1' (refsT n T).length c1, Value.slice a2' T.free.length c2, Value.int IntKind.i64 ↑(refsT n T).length, Value.int IntKind.i64 cb, Value.int IntKind.i64 cc, Value.int IntKind.i64 ↑(refsT n T).length, Value.pointer (some { block := Bw, off := 0 }), undef, .pointer (some ⟨Bx, 0, none⟩), undef, undef, undef, undef, undef, undef, undef, undef, Value.bool true, Value.bool false, Value.tuple #[Value.int IntKind.i64 ↑n, Value.int IntKind.i64 k], Value.int IntKind.u8 a0, Value.int IntKind.u8 a1, Value.tuple #[Value.int IntKind.i64 ↑n, Value.int IntKind.i64 k], Value.int IntKind.i64 ↑n, Value.int IntKind.i64 k, Value.tuple #[Value.pointer (some { block := p, off := 0 }), Value.int IntKind.i64 0], Value.int IntKind.i64 ↑n, Value.int IntKind.i64 k, Value.tuple #[Value.pointer (some { block := p, off := 0 }), Value.int IntKind.i64 0], Value.pointer (some { block := p, off := 0 }), Value.int IntKind.i64 0, Value.int IntKind.i64 0, Value.bool false, Value.bool false, Value.pointer (some { block := p, off := 0 }), Value.bool false, Value.bool false, Value.slice none 0 0, Value.slice none 0 0, Value.int IntKind.i64 0, Value.int IntKind.i64 0, Value.slice none 0 0, Value.int IntKind.i64 0, Value.int IntKind.i64 0, Value.bool false, u58, u59, u60, u61, u62, u63, Value.pointer (some { block := p, off := 0 }), Value.slice a1' (refsT n T).length c1, Value.pointer (some { block := p, off := 0 }), Value.slice a2' T.free.length c2, Value.tuple #[Value.int IntKind.i64 ↑(refsT n T).length, Value.int IntKind.i64 cb, Value.int IntKind.i64 cc], Value.pointer (some { block := p, off := 0 }), Value.tuple #[Value.int IntKind.i64 ↑(refsT n T).length, Value.int IntKind.i64 cb, Value.int IntKind.i64 cc], Value.int IntKind.i64 ↑(refsT n T).length, Value.int IntKind.i64 cb, Value.int IntKind.i64 cc, Value.tuple #[Value.int IntKind.i64 ↑(refsT n T).length, Value.int IntKind.i64 0], Value.pointer (some { block := p, off := 0 }), Value.tuple #[Value.int IntKind.i64 ↑(refsT n T).length, Value.int IntKind.i64 0], Value.int IntKind.i64 ↑(refsT n T).length, Value.int IntKind.i64 0, Value.slice a1' (refsT n T).length c1, Value.func (Fn.func 38) #[] #[Value.pointer (some { block := Bw + 1, off := 0 })], .int .i64 (x.1 : Int), .agg #[.int .i64 x.2.1, .int .i64 x.2.2], undef, undef, undef, undef, undef, undef, undef, undef, undef, undef, undef, undef, undef, undef, undef, undef, undef, undef, undef, undef, undef, undef, undef, undef, undef, undef, undef, undef, undef, undef, undef, undef, undef, undef, undef, undef, undef, undef, undef, undef, undef, undef, undef, undef, undef, undef, undef, undef, undef, undef, undef, undef, undef, undef, undef, undef, undef, undef, undef, undef, undef, undef, undef, undef, undef, undef, undef, undef, undef, undef, undef, undef, undef, undef, undef, undef, undef, undef, undef, undef, undef, undef, undef, undef, undef, undef, undef, undef, undef, undef], defers := [] })
        ?ax ?assign ?body ?done ?stop
      case ax =>
        intro x a'
        refine Own.from (fun s A B row hs hg hr => ?_) _
        obtain ⟨Bx, h1, h2, h3⟩ := hs
        refine ⟨Bx, h1, (hg.block Bx (Array.getElem?_eq_some_iff.1 h2).1 (fun e => ?_)).trans h2, h3⟩
        obtain ⟨o, ho, hc⟩ := hr Bx e.symm
        rw [show A.heap[Bx]? = _ from h2] at ho; cases ho; cases hc
      case assign =>
        rintro l pre x W K ⟨⟨v, hv, hrow, -⟩, hM⟩ hK
        have hsz := hM.size
        gi_wp2
        exact hK _ _ ((KeepsOthers.alloc _ _).from _) ((Mod.refl _ W).alloc _) ⟨⟨v, hv.alloc _, hrow.alloc _, trivial⟩, hM.alloc _⟩ ⟨W.heap.size, by omega, World.alloc_heap_new W _, rfl⟩
      case body =>
        rintro l pre x a' W hl - ⟨⟨v, hv, hrow, -⟩, hM⟩ ⟨Bx, hBx, hR, rfl⟩ hlt
        have hc := hv.cell
        have r0 := hR.c0
        have r1 := hR.c1
        have c8 := hM.cell (p := ⟨B8, 0, none⟩) (show ¬ (B8 = Bw ∨ Bw + 2 ≤ B8) by omega) HK5.out.cell
        have hlt8 : (wantL k pre).length < 1024 := by have := wantL_le k pre; omega
        have hszW := hM.size
        obtain ⟨xi, x1, x2⟩ := x
        dsimp only at r0 r1
        by_cases hx : x2 < k
        · have hwy : wantL k (pre ++ [(xi, x1, x2)]) = wantL k pre ++ [x1] := wantL_yes hx
          have HWY := Lib.hid hwy
          clear hwy hT5 hR5
          gi_wp2_with (gi_at_builtin; refine wpListIn_append_own _ rfl _ _ 29 rfl (Bw + 2) 3 i0 (.int .i64 0) 1 8 Try.underlying29 hi hz0 hz1 hz2 rfl (by decide) _ _ _ rfl (hrow.alloc _) ⟨W.heap.size, 0, none⟩ 1 1 [.int .i64 x1] rfl rfl (cell_one_new _ _ _) (by simp [Value.oneCell']) (by unfold maxLen; omega) (by omega) (by simp; omega) ?_; intro v' w1' hown' hgrow _; obtain ⟨g', cap', rfl⟩ := ownsRow_succ hown'; obtain ⟨hv1, hv2, hr2, hk2, hb2⟩ := boxed_appended hv (by decide) hrow hown' hgrow; have hc1 := hv1.cell; have hf1 := hv1.frozen)
          refine ⟨hk2.from _, hb2, ⟨_, hv2, by rw [HWY.out]; simpa using hr2⟩, hM.trans hb2⟩
        · have hwn : wantL k (pre ++ [(xi, x1, x2)]) = wantL k pre := wantL_no hx
          have HWN := Lib.hid hwn
          clear hwn hT5 hR5
          gi_wp2
          refine ⟨(KeepsOthers.refl _).from _, Mod.refl _ _, ⟨_, hv, by rw [HWN.out]; exact hrow⟩, hM⟩
      case done =>
        rintro D ys W hD rfl ⟨⟨v, hv, hrow, -⟩, hM⟩ hK
        dsimp only
        have hT6 := HT5.out.mod hM (by omega) (by omega)
        have hR6 := HR5.out.mod hM (fun g h1 h2 e => by omega)
        have hS6 := HS5.out.trans (hM.below HS5.out.size (fun g hg e => by omega))
        have hr6 := ownsRow_mod Hr5.out hM (fun g e e' => by have h1 := Hr4.out g e; omega)
        have hDs : D < W.heap.size := (Array.getElem?_eq_some_iff.1 hK).1
        have hBws : Bw < W.heap.size := (Array.getElem?_eq_some_iff.1 hv).1
        have HD := Lib.hid (show Bw + 2 ≤ D ∧ D < W.heap.size ∧ Bw < W.heap.size from ⟨by omega, hDs, hBws⟩)
        obtain ⟨a3, c3, e⟩ := ownsRow_val hrow
        subst e
        have hlen := congrArg List.length HWANT.out
        rw [List.length_map, List.length_append, List.length_map] at hlen
        have HROW := Lib.hid hrow
        have HV := Lib.hid hv
        have HDD := Lib.hid hK
        have HR6 := Lib.hid hR6
        have HS6 := Lib.hid hS6
        have Hr6 := Lib.hid hr6
        clear hM hT5 hR5 HT5 HR5 HS5 Hr5 HK5 hv hrow hK hR6 hS6 hr6 hDs hBws bW bB hz5
        obtain ⟨cb', cc', hct, hcc'⟩ : ∃ cb' cc' : Int, countsT n (clearT n T) = (0, cb', cc') ∧ cc' = (n : Int) - (clearT n T).free.length := ⟨(clearT n T).free.length, (n : Int) - 0 - (clearT n T).free.length, by rw [countsT, HCR.out]; rfl, by omega⟩
        have heq : cc + ((refsT n T).length : Int) - ((wantL k (backsOf (refsT n T) (refsT n T).length)).length : Int) = cc' := by have := HCC.out; omega
        have hccb : -1024 ≤ cc ∧ cc ≤ 1024 := by have := HCC.out; omega
        have HEQ := Lib.hid heq
        clear hcc' hlen heq
        have C := Counts_any p q n _ W hT6
        rw [hct] at C
        have HC := Lib.hid C
        have HT6 := Lib.hid hT6
        clear C hct hT6
        go_wp2_with fail
        refine HC.out.mono ?_; rintro e w7 ⟨rfl, hb7⟩
        go_upto_region 21 with (fail)
        have HT7 := Lib.hid (HT6.out.below hb7)
        have HV7 := Lib.hid ((Mod.of_same (S := fun _ => False) hb7).boxed HV.out (by simp))
        have HROW7 := Lib.hid (ownsRow_mod (S := fun _ => False) HROW.out (Mod.of_same hb7) (by simp))
        have Hr7 := Lib.hid (ownsRow_mod (S := fun _ => False) Hr6.out (Mod.of_same hb7) (by simp))
        have HR7 := Lib.hid (HR6.out.below hb7)
        have HS7 := Lib.hid (HS6.out.trans (hb7.mono HS6.out.size))
        have HD7 := Lib.hid (show Bw + 2 ≤ D ∧ D < w7.heap.size ∧ Bw < w7.heap.size ∧ p < Bw ∧ q < Bw ∧ w1.heap.size ≤ Bw from ⟨HD.out.1, by have := HD.out.2.1; have := hb7.size; omega, by have := HD.out.2.2; have := hb7.size; omega, by omega, by omega, by omega⟩)
        have HDD7 := Lib.hid (show w7.heap[D]? = some (.deferred (some [])) from (hb7.block D HD.out.2.1).trans HDD.out)
        clear hb7 HT6 HV HROW Hr6 HR6 HS6 HDD HC
        have heq := HEQ.out
        generalize wantL k (backsOf (refsT n T) (refsT n T).length) = wl at *
        have hq7 := HV7.out.cell
        have hwl40 : wl.length ≤ 40 := by omega
        have hwl40I : (wl.length : Int) ≤ 40 := by omega
        have hrlI : ((refsT n T).length : Int) ≤ 40 := by omega
        have hw1 : IntKind.i64.wrap (cc + ((refsT n T).length : Int)) = cc + ((refsT n T).length : Int) := IntWalk.i64_in _ (by omega)
        have hw2 : IntKind.i64.wrap cc' = cc' := IntWalk.i64_in _ (by omega)
        have hw3 : IntKind.i64.wrap (cc + ((refsT n T).length : Int) - (wl.length : Int)) = cc' := by rw [heq]; exact hw2
        have hone : ∀ z ∈ (T.free.map fun x : Nat => Value.int .i64 (x : Int)), z.oneCell' = true := by
          intro z hz
          obtain ⟨x, _, rfl⟩ := List.mem_map.1 hz
          rfl
        have HONE := Lib.hid hone
        clear hone
        go_region_held3 (fun w' => w'.cell? ⟨Bw, 0, none⟩ = some (.slice a3 wl.length c3))
          ((first | (with_reducible exact HQ11.out) | (with_reducible exact HQ10.out) | (with_reducible exact HQ9.out) | (with_reducible exact HQ8.out) | go_keep))
          ((first
            | (go_at_call 21; refine (Refs_any p q n (clearT n T) _ (by exact HT7.out)).mono ?_; rintro e w8 ⟨v8, rfl, hr8, hb8'⟩; have hb8 := below_of_drew hb8'; rw [HCR.out] at hr8; obtain ⟨a8, c8', e8⟩ := ownsRow_val hr8; subst e8; have HT8 := Lib.hid (HT7.out.below hb8); have hV8 := (Mod.of_same (S := fun _ => False) hb8).boxed HV7.out (by simp); have HV8 := Lib.hid hV8; have HQ8 := Lib.hid hV8.cell; have HROW8 := Lib.hid (ownsRow_mod (S := fun _ => False) HROW7.out (Mod.of_same hb8) (by simp)); have Hr8 := Lib.hid (ownsRow_mod (S := fun _ => False) Hr7.out (Mod.of_same hb8) (by simp)); have HR8 := Lib.hid (HR7.out.below hb8); have HS8 := Lib.hid (HS7.out.trans (hb8.mono HS7.out.size)); have HDD8 := Lib.hid ((hb8.block D HD7.out.2.1).trans HDD7.out); have hz8 := hb8.size; clear hr8 hb8 hb8' hV8)
            | (go_at_call 18; refine (Free_any p q n (clearT n T) _ (by exact HT8.out)).mono ?_; rintro e w9 ⟨v9, rfl, hr9, hb9⟩; obtain ⟨a9, c9, e9⟩ := ownsRow_val hr9; subst e9; have HFR9 := Lib.hid hr9; have HT9 := Lib.hid (HT8.out.below hb9); have hV9 := (Mod.of_same (S := fun _ => False) hb9).boxed HV8.out (by simp); have HV9 := Lib.hid hV9; have HQ9 := Lib.hid hV9.cell; have HLT9 := Lib.hid (fun g e => (HROW8.out.lt g e).2); have HROW9 := Lib.hid (ownsRow_mod (S := fun _ => False) HROW8.out (Mod.of_same hb9) (by simp)); have Hr9 := Lib.hid (ownsRow_mod (S := fun _ => False) Hr8.out (Mod.of_same hb9) (by simp)); have HR9 := Lib.hid (HR8.out.below hb9); have HS9 := Lib.hid (HS8.out.trans (hb9.mono HS8.out.size)); have HDD9 := Lib.hid ((hb9.block D (by have := HD7.out.2.1; omega)).trans HDD8.out); have hz9 := hb9.size; clear hr9 hb9 hV9)
            | (refine step_append_rows _ _ rfl (by rfl) (Bw + 2) w1.heap.size (.slice a3 wl.length c3) (.slice a2' T.free.length c2) _ _ (wl.map (Value.int .i64)) _ (by rfl) (by rfl) HROW9.out Hr9.out HONE.out (by omega) (by have := HD7.out; omega) ?_; intro a10 c10 w10 hown10 hgrow10; have m10 := Mod.of_grownBy hgrow10; have hT10 := HT9.out.mod m10 (fun e => by have h1 := (HROW9.out.lt p e.symm).1; have := HD7.out; omega) (fun e => by have h1 := (HROW9.out.lt q e.symm).1; have := HD7.out; omega); have HT10 := Lib.hid hT10; have hQ10 := (m10.boxed HV9.out (fun e => by have h1 := (HROW9.out.lt Bw e.symm).1; omega)).cell; have HQ10 := Lib.hid hQ10; have HFR10 := Lib.hid (Reads.of_owns (zs := (clearT n T).free.map fun x : Nat => (x : Int)) (by rw [List.map_map]; exact ownsRow_mod HFR9.out m10 (fun g e e' => by have h1 := (HFR9.out.lt g e).1; have h2 := HLT9.out g e'.symm; omega))); have HOW10 := Lib.hid (Reads.of_owns (zs := wl ++ T.free.map fun x : Nat => (x : Int)) (by rw [List.map_append, List.map_map]; exact hown10)); have HR10 := Lib.hid (HR9.out.mod m10 (fun g h1 h2 e => by have h3 := (HROW9.out.lt g e.symm).1; have := HD7.out; omega)); have HS10 := Lib.hid (HS9.out.trans (m10.below HS9.out.size (fun g hg e => by have h3 := (HROW9.out.lt g e.symm).1; have := HD7.out; have := HS7.out.size; omega))); have HDD10 := Lib.hid (m10.heap HDD9.out (fun e => def_not_row HROW9.out HDD9.out e)); clear m10 hT10 hQ10 hown10 hgrow10)
            | (go_at_call 26; have hEq := Equal_any _ _ _ _ _ HFR10.out HOW10.out; rw [decide_eq_true HWANT.out] at hEq; refine hEq.mono ?_; rintro e w11 ⟨rfl, m11, rfl⟩; have HQ11 := Lib.hid (show (w10.drewN m11).cell? ⟨Bw, 0, none⟩ = some (.slice a3 wl.length c3) from HQ10.out); clear hEq)))
        have hT12 : TableAt (w10.drewN m11) p q n (clearT n T) := HT10.out
        have hR12 : RefRow wo.heap.size w1.heap.size (w10.drewN m11) a1' (refsT n T) := HR10.out
        have hS12 : Below w.heap.size w (w10.drewN m11) := below_drewN HS10.out m11
        have HDD12 := Lib.hid (show (w10.drewN m11).heap[D]? = some (.deferred (some [])) from HDD10.out)
        clear heq hw1 hw2 hw3 hq7
        generalize w10.drewN m11 = W12 at *
        have HT12 := Lib.hid hT12
        have HS12 := Lib.hid hS12
        have HBASE := Lib.hid (show w.heap.size ≤ D ∧ p < W12.heap.size ∧ q < W12.heap.size ∧ w.heap.size ≤ p ∧ w.heap.size ≤ q ∧ D ≠ p ∧ D ≠ q ∧ D < W12.heap.size from ⟨by have := HD7.out; omega, hT12.lt.1, hT12.lt.2, by omega, by omega, by have := HD7.out; omega, by have := HD7.out; omega, (Array.getElem?_eq_some_iff.1 HDD12.out).1⟩)
        clear hT12 hS12
        generalize clearT n T = T' at *
        rcases hR12 with hlz | ⟨g, hga, hgb, hgt, hgs, hgc⟩
        · rw [hlz]
          have HT13 := HT12
          have HS13 := HS12
          have HDD13 := HDD12
          obtain ⟨W13, hW13⟩ : ∃ W13, W13 = W12 := ⟨_, rfl⟩
          rw [← hW13] at HT13 HS13 HDD13 ⊢
          clear hW13
          go_wp2_with fail
          go_loopw [138] (fun i wr => i = .int .i64 0 ∧ wr = W13) (fun i _ => 0)
          case atStart => exact ⟨rfl, rfl⟩
          case round =>
            obtain ⟨rfl, hw13⟩ := hrel
            obtain ⟨W14, rfl⟩ : ∃ W14 : World, W14 = wr := ⟨_, rfl⟩
            rw [← hw13] at HT13 HS13 HDD13
            clear hw13
            obtain ⟨W13, rfl⟩ : ∃ W13 : World, W13 = W14 := ⟨_, rfl⟩
            have C := Clear_any p q n _ W13 HT13.out
            rw [HCR.out] at C
            have HC13 := Lib.hid C
            clear C
            go_wp2_with fail
            refine HC13.out.mono ?_; rintro e w14 ⟨rfl, hT14, hM14⟩
            have hK14 := hM14.heap HDD13.out (by have := HBASE.out; omega)
            have hS14 := HS13.out.trans (hM14.below HS13.out.size (fun g hg e => by have := HBASE.out; omega))
            clear hT14 hM14
            go_wp2_with fail
            refine ⟨by simp, .inl ⟨_, _, rfl, run_takeDeferred hK14, ?_⟩⟩
            exact ⟨_, results_tmp rfl _ _ _, rfl, hS14.trans (belowK_b (w := w) (Nat.le_refl _) w14 D _ _ HBASE.out.1 hK14 rfl rfl)⟩
        · subst hga
          have HCELL := Lib.hid hgc
          have HG := Lib.hid (show g < W12.heap.size by omega)
          clear hgc hgb hgt hgs
          go_wp2_with fail
          have hr40 : (refsT n T).length ≤ 40 := by omega
          have HMEM := Lib.hid (show ∀ i, i < (refsT n T).length → (refsT n T)[i]?.getD (0, 0) ∈ refsT n T from fun i hi => by rw [List.getElem?_eq_getElem hi, Option.getD_some]; exact List.getElem_mem hi)
          go_loopw [138] (fun i wr => ∃ t : Nat, t ≤ (refsT n T).length ∧ i = .int .i64 t ∧ Below W12.heap.size W12 wr) (fun i _ => (refsT n T).length - (intOf i).toNat)
          case atStart => exact ⟨0, by omega, rfl, Below.refl _ _⟩
          case round =>
            obtain ⟨t, ht, rfl, hB⟩ := hrel
            obtain ⟨w13, rfl⟩ : ∃ w13 : World, w13 = wr := ⟨_, rfl⟩
            by_cases hlt3 : t < (refsT n T).length
            · have hltI3 : (t : Int) < (refsT n T).length := by omega
              obtain ⟨c0, c1⟩ := HCELL.out t hlt3
              have q0 := (hB.cell (p := ⟨g, t * 2, none⟩) HG.out).trans c0
              have q1 := (hB.cell (p := ⟨g, t * 2 + 1, none⟩) HG.out).trans c1
              obtain ⟨hlk, hlv⟩ := HCL.out _ (HMEM.out t hlt3)
              generalize (refsT n T)[t]?.getD (0, 0) = y at *
              obtain ⟨y1, y2⟩ := y
              dsimp only at q0 q1 hlk
              have bl9 : Below w13.heap.size w13 (w13.alloc (.cells #[.int .i64 y1, .int .i64 y2] 26)) := (Below.refl _ w13).alloc (Nat.le_refl _) _
              have HT13 := Lib.hid (HT12.out.below (hB.trans (bl9.mono hB.size)))
              have hR9 : RefAt (w13.alloc (.cells #[.int .i64 y1, .int .i64 y2] 26)) w13.heap.size (y1, y2) := World.alloc_heap_new w13 _
              have d0 := hR9.c0
              have d1 := hR9.c1
              have HB9 := Lib.hid (hB.trans (bl9.mono hB.size))
              have C1 := Look_any p q n T' y1 (w13.alloc (.cells #[.int .i64 y1, .int .i64 y2] 26)) HT13.out
              rw [hlk] at C1
              have HC1 := Lib.hid C1
              have HLV := Lib.hid hlv
              clear c0 c1 hlk hlv hR9 hB bl9 C1
              go_wp2_with fail
              refine HC1.out.mono ?_; rintro e w14 ⟨rfl, m14, rfl⟩
              have C2 := Live_any p q n T' y1 y2 (World.drewN (w13.alloc (.cells #[.int .i64 y1, .int .i64 y2] 26)) m14) HT13.out
              rw [HLV.out] at C2
              have HC2 := Lib.hid C2
              clear C2
              go_wp2_with fail
              refine HC2.out.mono ?_; rintro e w15 ⟨rfl, hb15⟩
              have hB15 := (below_drewN HB9.out m14).trans (hb15.mono HB9.out.size)
              clear hb15
              go_wp2_with fail
              go_roundw
              case rel => exact ⟨t + 1, by omega, by go_num, hB15⟩
              case measure => simp [intOf]; omega
            · obtain rfl : t = (refsT n T).length := by omega
              have HT13 := Lib.hid (HT12.out.below hB)
              have HS13 := Lib.hid (HS12.out.trans (hB.mono HS12.out.size))
              have HDD13 := Lib.hid ((hB.block D HBASE.out.2.2.2.2.2.2.2).trans HDD12.out)
              obtain ⟨W13, rfl⟩ : ∃ W13 : World, W13 = w13 := ⟨_, rfl⟩
              clear hB
              have C := Clear_any p q n _ W13 HT13.out
              rw [HCR.out] at C
              have HC13 := Lib.hid C
              clear C
              go_wp2_with fail
              refine HC13.out.mono ?_; rintro e w14 ⟨rfl, hT14, hM14⟩
              have hK14 := hM14.heap HDD13.out (by have := HBASE.out; omega)
              have hS14 := HS13.out.trans (hM14.below HS13.out.size (fun g hg e => by have := HBASE.out; omega))
              clear hT14 hM14
              go_wp2_with fail
              refine ⟨by simp, .inl ⟨_, _, rfl, run_takeDeferred hK14, ?_⟩⟩
              exact ⟨_, results_tmp rfl _ _ _, rfl, hS14.trans (belowK_b (w := w) (Nat.le_refl _) w14 D _ _ HBASE.out.1 hK14 rfl rfl)⟩
      case stop =>
        rintro D c pre W _ _ h _
        exact h.elim


set_option maxHeartbeats 16000000 in
theorem cleared_zero (a0 : Int) (h00 : 0 ≤ a0) (h01 : a0 ≤ 255) (a1 : Int) (h10 : 0 ≤ a1) (h11 : a1 ≤ 255) (x0 : Addr) (cap0 : Nat) (w : World) (hcm : cap0 ≤ maxLen) :
    Calls Try.prog 10 #[.int .u8 a0, .int .u8 a1, .slice (some x0) 0 cap0] w fun e w' => e = .returned (.bool true) ∧ Below w.heap.size w w' := by
  obtain ⟨i0, hi, hz0, hz1, hz2⟩ := info_parts infoInt
  refine (callsIn_wide (n := 8)).1 ?_
  refine callsIn_of_wp_marks Try.func10 rfl trivial ?_ rfl
  simp only [Try.ntmps10, List.size_toArray, List.length_cons, List.length_nil, Nat.reduceAdd, Nat.reduceSub, Array.replicate_succ, Array.replicate_zero, List.push_toArray, List.append_toArray, List.nil_append, List.cons_append]
  refine wpIn_wide.2 ?_
  go_wp2_with fail
  refine (awake_any _).mono ?_; rintro e wa ⟨rfl, hba⟩
  go_wp2_with fail
  refine (sizes_any _ _ (by omega) (by omega) (by omega) (by omega) _).mono ?_; rintro e w' ⟨rfl, rfl⟩
  have hn0 : 0 ≤ a0 % 41 := by omega
  have hn1 : a0 % 41 ≤ 40 := by omega
  have hk1 : 1 ≤ 1 + a1 % 6 := by omega
  have hk2 : 1 + a1 % 6 ≤ 6 := by omega
  generalize a0 % 41 = ni at *
  generalize 1 + a1 % 6 = k at *
  obtain ⟨n, rfl⟩ := Int.eq_ofNat_of_zero_le hn0
  clear hn0 h00 h01 h10 h11
  have bK := Boxed.new wa 3 (.int .i64 k)
  have hbK := hba.alloc hba.size (.cells #[.int .i64 k] 3)
  have hzK : (wa.alloc (.cells #[.int .i64 k] 3)).heap.size = wa.heap.size + 1 := by simp
  have c8 := bK.cell
  go_wp2_with fail
  generalize wa.alloc (.cells #[.int .i64 k] 3) = wk at *
  refine (New_yes n _ _ (by omega) (by omega)).mono ?_; rintro e wb ⟨rfl, hT, hBa⟩
  have hS := hbK.trans (hBa.mono hbK.size)
  have hsz := hba.size
  have hlt := hT.lt
  have bK2 : Boxed wb wa.heap.size 3 (.int .i64 k) := (hBa.block wa.heap.size (by omega)).trans bK
  obtain ⟨p, hp⟩ : ∃ p, p = wk.heap.size + 1 := ⟨_, rfl⟩
  rw [← hp] at hT hlt ⊢
  generalize wa.heap.size = B8 at *
  generalize wk.heap.size = q at *
  have HP := Lib.hid (show w.heap.size ≤ B8 ∧ B8 < q ∧ q < p ∧ p < wb.heap.size from ⟨hsz, by omega, by omega, hlt.1⟩)
  clear hba hBa hsz hp hlt hbK hzK bK c8
  have hmin : min (0 : Int) 200 = 0 := by decide

  go_wp2_with fail
  go_loopw [56] (fun i wr => ∃ (j : Nat) (T : Tab), j ≤ 0 ∧ i = .int .i64 j ∧ TableAt wr p q n T ∧ Hid (T.most = k) ∧ Boxed wr B8 3 (.int .i64 k) ∧ Below w.heap.size w wr) (fun i _ => 0 - (intOf i).toNat)
  case atStart => exact ⟨0, _, Nat.zero_le _, rfl, hT, rfl, bK2, hS⟩
  case round =>
    clear hT bK2 hS
    obtain ⟨j, T, hj, rfl, hT, HI, bK, hS⟩ := hrel
    obtain ⟨wo, rfl⟩ : ∃ wo : World, wo = wr := ⟨_, rfl⟩
    by_cases hlt : j < 0
    · exact absurd hlt (by omega)
    · obtain rfl : j = 0 := by omega
      have hv := hT.2.1
      have hrl := refs_le n T
      have hfl := free_le hv
      have hwa := want_all hv
      rw [HI.out] at hwa
      have HWANT := Lib.hid hwa
      have HCL := Lib.hid (show ∀ r ∈ refsT n T, lookT n (clearT n T) r.1 = (r.2, false) ∧ liveT n (clearT n T) r = false from fun r hr => clear_look hv hr)
      have HCR := Lib.hid (clear_refs hv)
      have hwl := wantL_le k (backsOf (refsT n T) (refsT n T).length)
      rw [backsOf_length] at hwl
      have hbase := hT.lt
      have hn40 : n ≤ 40 := by omega
      clear hwa hv hlt hj
      go_wp2_with fail
      refine (Refs_any p q n T _ hT).mono ?_; rintro e w1 ⟨v1, rfl, hr1, hb1⟩
      obtain ⟨a1', c1, e⟩ := ownsRow_val hr1
      subst e
      have hR1 := RefRow.of_owns hr1
      have hT1 := hT.below hb1
      have bK1 := (Mod.of_same (S := fun _ => False) hb1).boxed bK (by simp)
      have hS1 := hS.trans (hb1.mono hS.size)
      have hz1 := hb1.size
      clear hT bK hS hr1 hb1
      go_wp2_with fail
      refine (Free_any p q n T _ hT1).mono ?_; rintro e w2 ⟨v2, rfl, hr2, hb2⟩
      obtain ⟨a2', c2, e⟩ := ownsRow_val hr2
      subst e
      have hR2 := hR1.below hb2
      have hT2 := hT1.below hb2
      have bK2 := (Mod.of_same (S := fun _ => False) hb2).boxed bK1 (by simp)
      have hS2 := hS1.trans (hb2.mono hS1.size)
      have hz2 := hb2.size
      clear hT1 bK1 hS1 hR1 hb2
      obtain ⟨cb, cc, hct, hcc⟩ : ∃ cb cc : Int, countsT n T = (((refsT n T).length : Int), cb, cc) ∧ cc = (n : Int) - (refsT n T).length - T.free.length := ⟨_, _, rfl, rfl⟩
      have HCC := Lib.hid hcc
      have C := Counts_any p q n T _ hT2
      rw [hct] at C
      have HC := Lib.hid C
      clear C hcc hct
      go_wp2_with fail
      refine HC.out.mono ?_; rintro e w3 ⟨rfl, hb3⟩
      have hR3 := hR2.below hb3
      have hT3 := hT2.below hb3
      have bK3 := (Mod.of_same (S := fun _ => False) hb3).boxed bK2 (by simp)
      have hS3 := hS2.trans (hb3.mono hS2.size)
      have hr3 := ownsRow_mod (S := fun _ => False) hr2 (Mod.of_same hb3) (by simp)
      have hz3 := hb3.size
      clear hT2 bK2 hS2 hR2 hb3 hr2 HC
      go_wp2_with fail
      refine (Clear_any p q n T _ hT3).mono ?_; rintro e w4 ⟨rfl, hT4, hM4⟩
      have hzp := HP.out
      have hR4 := hR3.mod hM4 (fun g h1 h2 e => by omega)
      have bK4 := hM4.boxed bK3 (by omega)
      have hS4 := hS3.trans (hM4.below hS3.size (fun g hg e => by omega))
      have hr4 := ownsRow_mod hr3 hM4 (fun g e h => by have := (hr3.lt g e).1; omega)
      have hz4 := hM4.size
      have HZ := Lib.hid (show wo.heap.size ≤ w1.heap.size ∧ w1.heap.size ≤ w4.heap.size ∧ p < wo.heap.size ∧ q < wo.heap.size ∧ B8 < wo.heap.size from ⟨hz1, by omega, hbase.1, hbase.2, by omega⟩)
      clear hT3 bK3 hS3 hR3 hr3 hM4 hz1 hz2 hz3 hz4 hzp hbase
      go_wp2_with fail
      have bW0 := Boxed.new w4 29 (.slice none 0 0)
      have bW := bW0.alloc (.cells #[.slice a1' (refsT n T).length c1] 44)
      have bB := (Boxed.new (w4.alloc (.cells #[.slice none 0 0] 29)) 44 (.slice a1' (refsT n T).length c1)).cell
      rw [World.size_alloc] at bB
      have hb50 : Below w4.heap.size w4 ((w4.alloc (.cells #[.slice none 0 0] 29)).alloc (.cells #[.slice a1' (refsT n T).length c1] 44)) := ((Below.refl _ _).alloc (Nat.le_refl _) _).alloc (by simp) _
      have hT5 := hT4.below hb50
      have bK5 := (Mod.of_same (S := fun _ => False) hb50).boxed bK4 (by simp)
      have hR5 := hR4.below hb50
      have hr5 := ownsRow_mod (S := fun _ => False) hr4 (Mod.of_same hb50) (by simp)
      have hS5 := hS4.trans (hb50.mono hS4.size)
      have hz5 : (((w4.alloc (.cells #[.slice none 0 0] 29)).alloc (.cells #[.slice a1' (refsT n T).length c1] 44))).heap.size = w4.heap.size + 2 := by simp
      have hr4lt := fun g e => (hr4.lt g e).2
      refine (Backward_any _ _ _ _).mono ?_; rintro e w5 ⟨rfl, rfl⟩
      go_wp2_with fail
      clear hT4 bK4 hR4 hr4 hS4 hb50 bW0
      generalize ((w4.alloc (.cells #[.slice none 0 0] 29)).alloc (.cells #[.slice a1' (refsT n T).length c1] 44)) = W0 at *
      generalize w4.heap.size = Bw at *
      have HZ5 := Lib.hid hz5
      have HR5 := Lib.hid hR5
      have HT5 := Lib.hid hT5
      have HS5 := Lib.hid hS5
      have Hr5 := Lib.hid hr5
      have Hr4 := Lib.hid hr4lt
      have HK5 := Lib.hid bK5
      clear hr5 hS5 hr4lt bK5
      have hzz := HZ.out
      have hzp := HP.out
      refine (wpIn_wide (n := 8)).1 ?_
      refine wpIn_rangeFunc_ownH rfl (by omega) (gf := 38) (lb := #[.pointer (some ⟨Bw + 1, 0, none⟩)]) rfl trivial (enters_of Try.func38 (by kernel_rfl) rfl)
        (back_stops 7 (by omega) (Bw + 1) c1 a1' (fun k => k = Bw ∨ Bw + 2 ≤ k) (refsT n T) (by omega) W0 (by omega) (by omega) bB (by
          rcases hR5 with h | ⟨g, h1, h2, h3, h4, h5⟩
          · exact .inl h
          · exact .inr ⟨g, h1, by omega, by omega, h5⟩))
        (fun h k => h.trans k) (modK_b (by intro k hk; omega)) (Below.refl _ _) (fun _ => rfl)
        (fun pre W => (∃ v, Boxed W Bw 29 v ∧ W.ownsRow (Bw + 2) 3 1 v (wantL k pre).length ((wantL k pre).map (Value.int .i64)) ∧ True) ∧ Mod (fun k => k = Bw ∨ Bw + 2 ≤ k) W0 W)
        (fun _ _ _ => False)
        (OwnFrom.and (Own.from (holdsRow_own (Bw + 2) Bw 29 3 1 (fun pre : List (Nat × R) => (wantL k pre).length) (fun pre => (wantL k pre).map (Value.int .i64)) (fun _ _ => True)) _) (ownFrom_mod (by intro k hk; omega)))
        (fun _ _ _ _ _ hs _ _ => hs)
        ⟨⟨_, bW, World.ownsRow_nil _ _ _ _, trivial⟩, Mod.refl _ _⟩
        (fun x a' W => ∃ Bx, Bw + 2 ≤ Bx ∧ RefAt W Bx x.2 ∧ a' = { tmps := #[Value.int IntKind.u8 a0, Value.int IntKind.u8 a1, Value.slice (some x0) 0 cap0, undef, undef, undef, Value.bool false, Value.int IntKind.i64 ↑n, Value.pointer (some { block := B8, off := 0 }), Value.pointer (some { block := p, off := 0 }), Value.int IntKind.i64 0, undef, u12, Value.slice a1' (refsT n T).length c1, Value.slice a2' T.free.length c2, Value.int IntKind.i64 ↑(refsT n T).length, Value.int IntKind.i64 cb, Value.int IntKind.i64 cc, Value.int IntKind.i64 ↑(refsT n T).length, Value.pointer (some { block := Bw, off := 0 }), undef, .pointer (some ⟨Bx, 0, none⟩), undef, undef, undef, undef, undef, undef, undef, undef, Value.bool true, Value.bool false, Value.tuple #[Value.int IntKind.i64 ↑n, Value.int IntKind.i64 k], Value.int IntKind.u8 a0, Value.int IntKind.u8 a1, Value.tuple #[Value.int IntKind.i64 ↑n, Value.int IntKind.i64 k], Value.int IntKind.i64 ↑n, Value.int IntKind.i64 k, Value.tuple #[Value.pointer (some { block := p, off := 0 }), Value.int IntKind.i64 0], Value.int IntKind.i64 ↑n, Value.int IntKind.i64 k, Value.tuple #[Value.pointer (some { block := p, off := 0 }), Value.int IntKind.i64 0], Value.pointer (some { block := p, off := 0 }), Value.int IntKind.i64 0, Value.int IntKind.i64 0, Value.bool false, Value.bool false, Value.pointer (some { block := p, off := 0 }), Value.bool false, Value.bool false, Value.slice (some x0) 0 cap0, Value.slice (some x0) 0 cap0, Value.int IntKind.i64 0, Value.int IntKind.i64 0, Value.slice (some x0) 0 cap0, Value.int IntKind.i64 0, Value.int IntKind.i64 0, Value.bool false, u58, u59, u60, u61, u62, u63, Value.pointer (some { block := p, off := 0 }), Value.slice a1' (refsT n T).length c1, Value.pointer (some { block := p, off := 0 }), Value.slice a2' T.free.length c2, Value.tuple #[Value.int IntKind.i64 ↑(refsT n T).length, Value.int IntKind.i64 cb, Value.int IntKind.i64 cc], Value.pointer (some { block := p, off := 0 }), Value.tuple #[Value.int IntKind.i64 ↑(refsT n T).length, Value.int IntKind.i64 cb, Value.int IntKind.i64 cc], Value.int IntKind.i64 ↑(refsT n T).length, Value.int IntKind.i64 cb, Value.int IntKind.i64 cc, Value.tuple #[Value.int IntKind.i64 ↑(refsT n T).length, Value.int IntKind.i64 0], Value.pointer (some { block := p, off := 0 }), Value.tuple #[Value.int IntKind.i64 ↑(refsT n T).length, Value.int IntKind.i64 0], Value.int IntKind.i64 ↑(refsT n T).length, Value.int IntKind.i64 0, Value.slice a1' (refsT n T).length c1, Value.func (Fn.func 38) #[] #[Value.pointer (some { block := Bw + 1, off := 0 })], .int .i64 (x.1 : Int), .agg #[.int .i64 x.2.1, .int .i64 x.2.2], undef, undef, undef, undef, undef, undef, undef, undef, undef, undef, undef, undef, undef, undef, undef, undef, undef, undef, undef, undef, undef, undef, undef, undef, undef, undef, undef, undef, undef, undef, undef, undef, undef, undef, undef, undef, undef, undef, undef, undef, undef, undef, undef, undef, undef, undef, undef, undef, undef, undef, undef, undef, undef, undef, undef, undef, undef, undef, undef, undef, undef, undef, undef, undef, undef, undef, undef, undef, undef, undef, undef, undef, undef, undef, undef, undef, undef, undef, undef, undef, undef, undef, undef, undef, undef, undef, undef, undef, undef, undef], defers := [] })
        ?ax ?assign ?body ?done ?stop
      case ax =>
        intro x a'
        refine Own.from (fun s A B row hs hg hr => ?_) _
        obtain ⟨Bx, h1, h2, h3⟩ := hs
        refine ⟨Bx, h1, (hg.block Bx (Array.getElem?_eq_some_iff.1 h2).1 (fun e => ?_)).trans h2, h3⟩
        obtain ⟨o, ho, hc⟩ := hr Bx e.symm
        rw [show A.heap[Bx]? = _ from h2] at ho; cases ho; cases hc
      case assign =>
        rintro l pre x W K ⟨⟨v, hv, hrow, -⟩, hM⟩ hK
        have hsz := hM.size
        gi_wp2
        exact hK _ _ ((KeepsOthers.alloc _ _).from _) ((Mod.refl _ W).alloc _) ⟨⟨v, hv.alloc _, hrow.alloc _, trivial⟩, hM.alloc _⟩ ⟨W.heap.size, by omega, World.alloc_heap_new W _, rfl⟩
      case body =>
        rintro l pre x a' W hl - ⟨⟨v, hv, hrow, -⟩, hM⟩ ⟨Bx, hBx, hR, rfl⟩ hlt
        have hc := hv.cell
        have r0 := hR.c0
        have r1 := hR.c1
        have c8 := hM.cell (p := ⟨B8, 0, none⟩) (show ¬ (B8 = Bw ∨ Bw + 2 ≤ B8) by omega) HK5.out.cell
        have hlt8 : (wantL k pre).length < 1024 := by have := wantL_le k pre; omega
        have hszW := hM.size
        obtain ⟨xi, x1, x2⟩ := x
        dsimp only at r0 r1
        by_cases hx : x2 < k
        · have hwy : wantL k (pre ++ [(xi, x1, x2)]) = wantL k pre ++ [x1] := wantL_yes hx
          have HWY := Lib.hid hwy
          clear hwy hT5 hR5
          gi_wp2_with (gi_at_builtin; refine wpListIn_append_own _ rfl _ _ 29 rfl (Bw + 2) 3 i0 (.int .i64 0) 1 8 Try.underlying29 hi hz0 hz1 hz2 rfl (by decide) _ _ _ rfl (hrow.alloc _) ⟨W.heap.size, 0, none⟩ 1 1 [.int .i64 x1] rfl rfl (cell_one_new _ _ _) (by simp [Value.oneCell']) (by unfold maxLen; omega) (by omega) (by simp; omega) ?_; intro v' w1' hown' hgrow _; obtain ⟨g', cap', rfl⟩ := ownsRow_succ hown'; obtain ⟨hv1, hv2, hr2, hk2, hb2⟩ := boxed_appended hv (by decide) hrow hown' hgrow; have hc1 := hv1.cell; have hf1 := hv1.frozen)
          refine ⟨hk2.from _, hb2, ⟨_, hv2, by rw [HWY.out]; simpa using hr2⟩, hM.trans hb2⟩
        · have hwn : wantL k (pre ++ [(xi, x1, x2)]) = wantL k pre := wantL_no hx
          have HWN := Lib.hid hwn
          clear hwn hT5 hR5
          gi_wp2
          refine ⟨(KeepsOthers.refl _).from _, Mod.refl _ _, ⟨_, hv, by rw [HWN.out]; exact hrow⟩, hM⟩
      case done =>
        rintro D ys W hD rfl ⟨⟨v, hv, hrow, -⟩, hM⟩ hK
        dsimp only
        have hT6 := HT5.out.mod hM (by omega) (by omega)
        have hR6 := HR5.out.mod hM (fun g h1 h2 e => by omega)
        have hS6 := HS5.out.trans (hM.below HS5.out.size (fun g hg e => by omega))
        have hr6 := ownsRow_mod Hr5.out hM (fun g e e' => by have h1 := Hr4.out g e; omega)
        have hDs : D < W.heap.size := (Array.getElem?_eq_some_iff.1 hK).1
        have hBws : Bw < W.heap.size := (Array.getElem?_eq_some_iff.1 hv).1
        have HD := Lib.hid (show Bw + 2 ≤ D ∧ D < W.heap.size ∧ Bw < W.heap.size from ⟨by omega, hDs, hBws⟩)
        obtain ⟨a3, c3, e⟩ := ownsRow_val hrow
        subst e
        have hlen := congrArg List.length HWANT.out
        rw [List.length_map, List.length_append, List.length_map] at hlen
        have HROW := Lib.hid hrow
        have HV := Lib.hid hv
        have HDD := Lib.hid hK
        have HR6 := Lib.hid hR6
        have HS6 := Lib.hid hS6
        have Hr6 := Lib.hid hr6
        clear hM hT5 hR5 HT5 HR5 HS5 Hr5 HK5 hv hrow hK hR6 hS6 hr6 hDs hBws bW bB hz5
        obtain ⟨cb', cc', hct, hcc'⟩ : ∃ cb' cc' : Int, countsT n (clearT n T) = (0, cb', cc') ∧ cc' = (n : Int) - (clearT n T).free.length := ⟨(clearT n T).free.length, (n : Int) - 0 - (clearT n T).free.length, by rw [countsT, HCR.out]; rfl, by omega⟩
        have heq : cc + ((refsT n T).length : Int) - ((wantL k (backsOf (refsT n T) (refsT n T).length)).length : Int) = cc' := by have := HCC.out; omega
        have hccb : -1024 ≤ cc ∧ cc ≤ 1024 := by have := HCC.out; omega
        have HEQ := Lib.hid heq
        clear hcc' hlen heq
        have C := Counts_any p q n _ W hT6
        rw [hct] at C
        have HC := Lib.hid C
        have HT6 := Lib.hid hT6
        clear C hct hT6
        go_wp2_with fail
        refine HC.out.mono ?_; rintro e w7 ⟨rfl, hb7⟩
        go_upto_region 21 with (fail)
        have HT7 := Lib.hid (HT6.out.below hb7)
        have HV7 := Lib.hid ((Mod.of_same (S := fun _ => False) hb7).boxed HV.out (by simp))
        have HROW7 := Lib.hid (ownsRow_mod (S := fun _ => False) HROW.out (Mod.of_same hb7) (by simp))
        have Hr7 := Lib.hid (ownsRow_mod (S := fun _ => False) Hr6.out (Mod.of_same hb7) (by simp))
        have HR7 := Lib.hid (HR6.out.below hb7)
        have HS7 := Lib.hid (HS6.out.trans (hb7.mono HS6.out.size))
        have HD7 := Lib.hid (show Bw + 2 ≤ D ∧ D < w7.heap.size ∧ Bw < w7.heap.size ∧ p < Bw ∧ q < Bw ∧ w1.heap.size ≤ Bw from ⟨HD.out.1, by have := HD.out.2.1; have := hb7.size; omega, by have := HD.out.2.2; have := hb7.size; omega, by omega, by omega, by omega⟩)
        have HDD7 := Lib.hid (show w7.heap[D]? = some (.deferred (some [])) from (hb7.block D HD.out.2.1).trans HDD.out)
        clear hb7 HT6 HV HROW Hr6 HR6 HS6 HDD HC
        have heq := HEQ.out
        generalize wantL k (backsOf (refsT n T) (refsT n T).length) = wl at *
        have hq7 := HV7.out.cell
        have hwl40 : wl.length ≤ 40 := by omega
        have hwl40I : (wl.length : Int) ≤ 40 := by omega
        have hrlI : ((refsT n T).length : Int) ≤ 40 := by omega
        have hw1 : IntKind.i64.wrap (cc + ((refsT n T).length : Int)) = cc + ((refsT n T).length : Int) := IntWalk.i64_in _ (by omega)
        have hw2 : IntKind.i64.wrap cc' = cc' := IntWalk.i64_in _ (by omega)
        have hw3 : IntKind.i64.wrap (cc + ((refsT n T).length : Int) - (wl.length : Int)) = cc' := by rw [heq]; exact hw2
        have hone : ∀ z ∈ (T.free.map fun x : Nat => Value.int .i64 (x : Int)), z.oneCell' = true := by
          intro z hz
          obtain ⟨x, _, rfl⟩ := List.mem_map.1 hz
          rfl
        have HONE := Lib.hid hone
        clear hone
        go_region_held3 (fun w' => w'.cell? ⟨Bw, 0, none⟩ = some (.slice a3 wl.length c3))
          ((first | (with_reducible exact HQ11.out) | (with_reducible exact HQ10.out) | (with_reducible exact HQ9.out) | (with_reducible exact HQ8.out) | go_keep))
          ((first
            | (go_at_call 21; refine (Refs_any p q n (clearT n T) _ (by exact HT7.out)).mono ?_; rintro e w8 ⟨v8, rfl, hr8, hb8'⟩; have hb8 := below_of_drew hb8'; rw [HCR.out] at hr8; obtain ⟨a8, c8', e8⟩ := ownsRow_val hr8; subst e8; have HT8 := Lib.hid (HT7.out.below hb8); have hV8 := (Mod.of_same (S := fun _ => False) hb8).boxed HV7.out (by simp); have HV8 := Lib.hid hV8; have HQ8 := Lib.hid hV8.cell; have HROW8 := Lib.hid (ownsRow_mod (S := fun _ => False) HROW7.out (Mod.of_same hb8) (by simp)); have Hr8 := Lib.hid (ownsRow_mod (S := fun _ => False) Hr7.out (Mod.of_same hb8) (by simp)); have HR8 := Lib.hid (HR7.out.below hb8); have HS8 := Lib.hid (HS7.out.trans (hb8.mono HS7.out.size)); have HDD8 := Lib.hid ((hb8.block D HD7.out.2.1).trans HDD7.out); have hz8 := hb8.size; clear hr8 hb8 hb8' hV8)
            | (go_at_call 18; refine (Free_any p q n (clearT n T) _ (by exact HT8.out)).mono ?_; rintro e w9 ⟨v9, rfl, hr9, hb9⟩; obtain ⟨a9, c9, e9⟩ := ownsRow_val hr9; subst e9; have HFR9 := Lib.hid hr9; have HT9 := Lib.hid (HT8.out.below hb9); have hV9 := (Mod.of_same (S := fun _ => False) hb9).boxed HV8.out (by simp); have HV9 := Lib.hid hV9; have HQ9 := Lib.hid hV9.cell; have HLT9 := Lib.hid (fun g e => (HROW8.out.lt g e).2); have HROW9 := Lib.hid (ownsRow_mod (S := fun _ => False) HROW8.out (Mod.of_same hb9) (by simp)); have Hr9 := Lib.hid (ownsRow_mod (S := fun _ => False) Hr8.out (Mod.of_same hb9) (by simp)); have HR9 := Lib.hid (HR8.out.below hb9); have HS9 := Lib.hid (HS8.out.trans (hb9.mono HS8.out.size)); have HDD9 := Lib.hid ((hb9.block D (by have := HD7.out.2.1; omega)).trans HDD8.out); have hz9 := hb9.size; clear hr9 hb9 hV9)
            | (refine step_append_rows _ _ rfl (by rfl) (Bw + 2) w1.heap.size (.slice a3 wl.length c3) (.slice a2' T.free.length c2) _ _ (wl.map (Value.int .i64)) _ (by rfl) (by rfl) HROW9.out Hr9.out HONE.out (by omega) (by have := HD7.out; omega) ?_; intro a10 c10 w10 hown10 hgrow10; have m10 := Mod.of_grownBy hgrow10; have hT10 := HT9.out.mod m10 (fun e => by have h1 := (HROW9.out.lt p e.symm).1; have := HD7.out; omega) (fun e => by have h1 := (HROW9.out.lt q e.symm).1; have := HD7.out; omega); have HT10 := Lib.hid hT10; have hQ10 := (m10.boxed HV9.out (fun e => by have h1 := (HROW9.out.lt Bw e.symm).1; omega)).cell; have HQ10 := Lib.hid hQ10; have HFR10 := Lib.hid (Reads.of_owns (zs := (clearT n T).free.map fun x : Nat => (x : Int)) (by rw [List.map_map]; exact ownsRow_mod HFR9.out m10 (fun g e e' => by have h1 := (HFR9.out.lt g e).1; have h2 := HLT9.out g e'.symm; omega))); have HOW10 := Lib.hid (Reads.of_owns (zs := wl ++ T.free.map fun x : Nat => (x : Int)) (by rw [List.map_append, List.map_map]; exact hown10)); have HR10 := Lib.hid (HR9.out.mod m10 (fun g h1 h2 e => by have h3 := (HROW9.out.lt g e.symm).1; have := HD7.out; omega)); have HS10 := Lib.hid (HS9.out.trans (m10.below HS9.out.size (fun g hg e => by have h3 := (HROW9.out.lt g e.symm).1; have := HD7.out; have := HS7.out.size; omega))); have HDD10 := Lib.hid (m10.heap HDD9.out (fun e => def_not_row HROW9.out HDD9.out e)); clear m10 hT10 hQ10 hown10 hgrow10)
            | (go_at_call 26; have hEq := Equal_any _ _ _ _ _ HFR10.out HOW10.out; rw [decide_eq_true HWANT.out] at hEq; refine hEq.mono ?_; rintro e w11 ⟨rfl, m11, rfl⟩; have HQ11 := Lib.hid (show (w10.drewN m11).cell? ⟨Bw, 0, none⟩ = some (.slice a3 wl.length c3) from HQ10.out); clear hEq)))
        have hT12 : TableAt (w10.drewN m11) p q n (clearT n T) := HT10.out
        have hR12 : RefRow wo.heap.size w1.heap.size (w10.drewN m11) a1' (refsT n T) := HR10.out
        have hS12 : Below w.heap.size w (w10.drewN m11) := below_drewN HS10.out m11
        have HDD12 := Lib.hid (show (w10.drewN m11).heap[D]? = some (.deferred (some [])) from HDD10.out)
        clear heq hw1 hw2 hw3 hq7
        generalize w10.drewN m11 = W12 at *
        have HT12 := Lib.hid hT12
        have HS12 := Lib.hid hS12
        have HBASE := Lib.hid (show w.heap.size ≤ D ∧ p < W12.heap.size ∧ q < W12.heap.size ∧ w.heap.size ≤ p ∧ w.heap.size ≤ q ∧ D ≠ p ∧ D ≠ q ∧ D < W12.heap.size from ⟨by have := HD7.out; omega, hT12.lt.1, hT12.lt.2, by omega, by omega, by have := HD7.out; omega, by have := HD7.out; omega, (Array.getElem?_eq_some_iff.1 HDD12.out).1⟩)
        clear hT12 hS12
        generalize clearT n T = T' at *
        rcases hR12 with hlz | ⟨g, hga, hgb, hgt, hgs, hgc⟩
        · rw [hlz]
          have HT13 := HT12
          have HS13 := HS12
          have HDD13 := HDD12
          obtain ⟨W13, hW13⟩ : ∃ W13, W13 = W12 := ⟨_, rfl⟩
          rw [← hW13] at HT13 HS13 HDD13 ⊢
          clear hW13
          go_wp2_with fail
          go_loopw [138] (fun i wr => i = .int .i64 0 ∧ wr = W13) (fun i _ => 0)
          case atStart => exact ⟨rfl, rfl⟩
          case round =>
            obtain ⟨rfl, hw13⟩ := hrel
            obtain ⟨W14, rfl⟩ : ∃ W14 : World, W14 = wr := ⟨_, rfl⟩
            rw [← hw13] at HT13 HS13 HDD13
            clear hw13
            obtain ⟨W13, rfl⟩ : ∃ W13 : World, W13 = W14 := ⟨_, rfl⟩
            have C := Clear_any p q n _ W13 HT13.out
            rw [HCR.out] at C
            have HC13 := Lib.hid C
            clear C
            go_wp2_with fail
            refine HC13.out.mono ?_; rintro e w14 ⟨rfl, hT14, hM14⟩
            have hK14 := hM14.heap HDD13.out (by have := HBASE.out; omega)
            have hS14 := HS13.out.trans (hM14.below HS13.out.size (fun g hg e => by have := HBASE.out; omega))
            clear hT14 hM14
            go_wp2_with fail
            refine ⟨by simp, .inl ⟨_, _, rfl, run_takeDeferred hK14, ?_⟩⟩
            exact ⟨_, results_tmp rfl _ _ _, rfl, hS14.trans (belowK_b (w := w) (Nat.le_refl _) w14 D _ _ HBASE.out.1 hK14 rfl rfl)⟩
        · subst hga
          have HCELL := Lib.hid hgc
          have HG := Lib.hid (show g < W12.heap.size by omega)
          clear hgc hgb hgt hgs
          go_wp2_with fail
          have hr40 : (refsT n T).length ≤ 40 := by omega
          have HMEM := Lib.hid (show ∀ i, i < (refsT n T).length → (refsT n T)[i]?.getD (0, 0) ∈ refsT n T from fun i hi => by rw [List.getElem?_eq_getElem hi, Option.getD_some]; exact List.getElem_mem hi)
          go_loopw [138] (fun i wr => ∃ t : Nat, t ≤ (refsT n T).length ∧ i = .int .i64 t ∧ Below W12.heap.size W12 wr) (fun i _ => (refsT n T).length - (intOf i).toNat)
          case atStart => exact ⟨0, by omega, rfl, Below.refl _ _⟩
          case round =>
            obtain ⟨t, ht, rfl, hB⟩ := hrel
            obtain ⟨w13, rfl⟩ : ∃ w13 : World, w13 = wr := ⟨_, rfl⟩
            by_cases hlt3 : t < (refsT n T).length
            · have hltI3 : (t : Int) < (refsT n T).length := by omega
              obtain ⟨c0, c1⟩ := HCELL.out t hlt3
              have q0 := (hB.cell (p := ⟨g, t * 2, none⟩) HG.out).trans c0
              have q1 := (hB.cell (p := ⟨g, t * 2 + 1, none⟩) HG.out).trans c1
              obtain ⟨hlk, hlv⟩ := HCL.out _ (HMEM.out t hlt3)
              generalize (refsT n T)[t]?.getD (0, 0) = y at *
              obtain ⟨y1, y2⟩ := y
              dsimp only at q0 q1 hlk
              have bl9 : Below w13.heap.size w13 (w13.alloc (.cells #[.int .i64 y1, .int .i64 y2] 26)) := (Below.refl _ w13).alloc (Nat.le_refl _) _
              have HT13 := Lib.hid (HT12.out.below (hB.trans (bl9.mono hB.size)))
              have hR9 : RefAt (w13.alloc (.cells #[.int .i64 y1, .int .i64 y2] 26)) w13.heap.size (y1, y2) := World.alloc_heap_new w13 _
              have d0 := hR9.c0
              have d1 := hR9.c1
              have HB9 := Lib.hid (hB.trans (bl9.mono hB.size))
              have C1 := Look_any p q n T' y1 (w13.alloc (.cells #[.int .i64 y1, .int .i64 y2] 26)) HT13.out
              rw [hlk] at C1
              have HC1 := Lib.hid C1
              have HLV := Lib.hid hlv
              clear c0 c1 hlk hlv hR9 hB bl9 C1
              go_wp2_with fail
              refine HC1.out.mono ?_; rintro e w14 ⟨rfl, m14, rfl⟩
              have C2 := Live_any p q n T' y1 y2 (World.drewN (w13.alloc (.cells #[.int .i64 y1, .int .i64 y2] 26)) m14) HT13.out
              rw [HLV.out] at C2
              have HC2 := Lib.hid C2
              clear C2
              go_wp2_with fail
              refine HC2.out.mono ?_; rintro e w15 ⟨rfl, hb15⟩
              have hB15 := (below_drewN HB9.out m14).trans (hb15.mono HB9.out.size)
              clear hb15
              go_wp2_with fail
              go_roundw
              case rel => exact ⟨t + 1, by omega, by go_num, hB15⟩
              case measure => simp [intOf]; omega
            · obtain rfl : t = (refsT n T).length := by omega
              have HT13 := Lib.hid (HT12.out.below hB)
              have HS13 := Lib.hid (HS12.out.trans (hB.mono HS12.out.size))
              have HDD13 := Lib.hid ((hB.block D HBASE.out.2.2.2.2.2.2.2).trans HDD12.out)
              obtain ⟨W13, rfl⟩ : ∃ W13 : World, W13 = w13 := ⟨_, rfl⟩
              clear hB
              have C := Clear_any p q n _ W13 HT13.out
              rw [HCR.out] at C
              have HC13 := Lib.hid C
              clear C
              go_wp2_with fail
              refine HC13.out.mono ?_; rintro e w14 ⟨rfl, hT14, hM14⟩
              have hK14 := hM14.heap HDD13.out (by have := HBASE.out; omega)
              have hS14 := HS13.out.trans (hM14.below HS13.out.size (fun g hg e => by have := HBASE.out; omega))
              clear hT14 hM14
              go_wp2_with fail
              refine ⟨by simp, .inl ⟨_, _, rfl, run_takeDeferred hK14, ?_⟩⟩
              exact ⟨_, results_tmp rfl _ _ _, rfl, hS14.trans (belowK_b (w := w) (Nat.le_refl _) w14 D _ _ HBASE.out.1 hK14 rfl rfl)⟩
      case stop =>
        rintro D c pre W _ _ h _
        exact h.elim


set_option maxHeartbeats 16000000 in
theorem cleared_some (a0 : Int) (h00 : 0 ≤ a0) (h01 : a0 ≤ 255) (a1 : Int) (h10 : 0 ≤ a1) (h11 : a1 ≤ 255) (b off len cap : Nat) (z : List Int) (w : World) (hcw : ∀ i (w' : World), Below w.heap.size w w' → i < len → w'.cell? ⟨b, off + i, none⟩ = some (.int .u8 (z.getD i 0))) (hxb : ∀ i, i < len → 0 ≤ z.getD i 0 ∧ z.getD i 0 < 256) (hl : len ≤ cap) (hpos : 1 ≤ len) (hm : cap ≤ maxLen) :
    Calls Try.prog 10 #[.int .u8 a0, .int .u8 a1, .slice (some ⟨b, off, none⟩) len cap] w fun e w' => e = .returned (.bool true) ∧ Below w.heap.size w w' := by
  obtain ⟨i0, hi, hz0, hz1, hz2⟩ := info_parts infoInt
  refine (callsIn_wide (n := 8)).1 ?_
  refine callsIn_of_wp_marks Try.func10 rfl trivial ?_ rfl
  simp only [Try.ntmps10, List.size_toArray, List.length_cons, List.length_nil, Nat.reduceAdd, Nat.reduceSub, Array.replicate_succ, Array.replicate_zero, List.push_toArray, List.append_toArray, List.nil_append, List.cons_append]
  refine wpIn_wide.2 ?_
  go_wp2_with fail
  refine (awake_any _).mono ?_; rintro e wa ⟨rfl, hba⟩
  go_wp2_with fail
  refine (sizes_any _ _ (by omega) (by omega) (by omega) (by omega) _).mono ?_; rintro e w' ⟨rfl, rfl⟩
  have hn0 : 0 ≤ a0 % 41 := by omega
  have hn1 : a0 % 41 ≤ 40 := by omega
  have hk1 : 1 ≤ 1 + a1 % 6 := by omega
  have hk2 : 1 + a1 % 6 ≤ 6 := by omega
  generalize a0 % 41 = ni at *
  generalize 1 + a1 % 6 = k at *
  obtain ⟨n, rfl⟩ := Int.eq_ofNat_of_zero_le hn0
  clear hn0 h00 h01 h10 h11
  have bK := Boxed.new wa 3 (.int .i64 k)
  have hbK := hba.alloc hba.size (.cells #[.int .i64 k] 3)
  have hzK : (wa.alloc (.cells #[.int .i64 k] 3)).heap.size = wa.heap.size + 1 := by simp
  have c8 := bK.cell
  go_wp2_with fail
  generalize wa.alloc (.cells #[.int .i64 k] 3) = wk at *
  refine (New_yes n _ _ (by omega) (by omega)).mono ?_; rintro e wb ⟨rfl, hT, hBa⟩
  have hS := hbK.trans (hBa.mono hbK.size)
  have hsz := hba.size
  have hlt := hT.lt
  have bK2 : Boxed wb wa.heap.size 3 (.int .i64 k) := (hBa.block wa.heap.size (by omega)).trans bK
  obtain ⟨p, hp⟩ : ∃ p, p = wk.heap.size + 1 := ⟨_, rfl⟩
  rw [← hp] at hT hlt ⊢
  generalize wa.heap.size = B8 at *
  generalize wk.heap.size = q at *
  have HP := Lib.hid (show w.heap.size ≤ B8 ∧ B8 < q ∧ q < p ∧ p < wb.heap.size from ⟨hsz, by omega, by omega, hlt.1⟩)
  clear hba hBa hsz hp hlt hbK hzK bK c8
  have HCW := Lib.hid hcw
  have HXB := Lib.hid hxb
  clear hcw hxb
  obtain ⟨m, hmin, hml, hm2⟩ : ∃ m : Nat, min (len : Int) 200 = m ∧ m ≤ len ∧ m ≤ 200 := ⟨(min (len : Int) 200).toNat, by omega, by omega, by omega⟩
  have hmc : m ≤ cap := by omega

  go_wp2_with fail
  go_loopw [56] (fun i wr => ∃ (j : Nat) (T : Tab), j ≤ m ∧ i = .int .i64 j ∧ TableAt wr p q n T ∧ Hid (T.most = k) ∧ Boxed wr B8 3 (.int .i64 k) ∧ Below w.heap.size w wr) (fun i _ => m - (intOf i).toNat)
  case atStart => exact ⟨0, _, Nat.zero_le _, rfl, hT, rfl, bK2, hS⟩
  case round =>
    clear hT bK2 hS
    obtain ⟨j, T, hj, rfl, hT, HI, bK, hS⟩ := hrel
    obtain ⟨wo, rfl⟩ : ∃ wo : World, wo = wr := ⟨_, rfl⟩
    by_cases hlt : j < m
    · have hltI : (j : Int) < m := by omega
      have hcj := HCW.out j wo hS (by omega)
      have hxj := HXB.out j (by omega)
      generalize z.getD j 0 = x at *
      have hmo := (step_most n T x).trans HI.out
      clear HI
      go_wp2_with fail
      refine (Step_any p q n T x hxj _ hT).mono ?_; rintro e w2 ⟨rfl, hT2, hM2⟩
      have hS2 := hS.trans (hM2.below hS.size (fun k hk e => by have := HP.out; omega))
      have bK3 := hM2.boxed bK (by have := HP.out; omega)
      clear hT hS bK hM2
      go_wp2_with fail
      go_roundw
      case rel => exact ⟨j + 1, _, by omega, by go_num, hT2, hmo, bK3, hS2⟩
      case measure => simp [intOf]; omega
    · obtain rfl : j = m := by omega
      have hv := hT.2.1
      have hrl := refs_le n T
      have hfl := free_le hv
      have hwa := want_all hv
      rw [HI.out] at hwa
      have HWANT := Lib.hid hwa
      have HCL := Lib.hid (show ∀ r ∈ refsT n T, lookT n (clearT n T) r.1 = (r.2, false) ∧ liveT n (clearT n T) r = false from fun r hr => clear_look hv hr)
      have HCR := Lib.hid (clear_refs hv)
      have hwl := wantL_le k (backsOf (refsT n T) (refsT n T).length)
      rw [backsOf_length] at hwl
      have hbase := hT.lt
      have hn40 : n ≤ 40 := by omega
      clear hwa hv hlt hj
      go_wp2_with fail
      refine (Refs_any p q n T _ hT).mono ?_; rintro e w1 ⟨v1, rfl, hr1, hb1⟩
      obtain ⟨a1', c1, e⟩ := ownsRow_val hr1
      subst e
      have hR1 := RefRow.of_owns hr1
      have hT1 := hT.below hb1
      have bK1 := (Mod.of_same (S := fun _ => False) hb1).boxed bK (by simp)
      have hS1 := hS.trans (hb1.mono hS.size)
      have hz1 := hb1.size
      clear hT bK hS hr1 hb1
      go_wp2_with fail
      refine (Free_any p q n T _ hT1).mono ?_; rintro e w2 ⟨v2, rfl, hr2, hb2⟩
      obtain ⟨a2', c2, e⟩ := ownsRow_val hr2
      subst e
      have hR2 := hR1.below hb2
      have hT2 := hT1.below hb2
      have bK2 := (Mod.of_same (S := fun _ => False) hb2).boxed bK1 (by simp)
      have hS2 := hS1.trans (hb2.mono hS1.size)
      have hz2 := hb2.size
      clear hT1 bK1 hS1 hR1 hb2
      obtain ⟨cb, cc, hct, hcc⟩ : ∃ cb cc : Int, countsT n T = (((refsT n T).length : Int), cb, cc) ∧ cc = (n : Int) - (refsT n T).length - T.free.length := ⟨_, _, rfl, rfl⟩
      have HCC := Lib.hid hcc
      have C := Counts_any p q n T _ hT2
      rw [hct] at C
      have HC := Lib.hid C
      clear C hcc hct
      go_wp2_with fail
      refine HC.out.mono ?_; rintro e w3 ⟨rfl, hb3⟩
      have hR3 := hR2.below hb3
      have hT3 := hT2.below hb3
      have bK3 := (Mod.of_same (S := fun _ => False) hb3).boxed bK2 (by simp)
      have hS3 := hS2.trans (hb3.mono hS2.size)
      have hr3 := ownsRow_mod (S := fun _ => False) hr2 (Mod.of_same hb3) (by simp)
      have hz3 := hb3.size
      clear hT2 bK2 hS2 hR2 hb3 hr2 HC
      go_wp2_with fail
      refine (Clear_any p q n T _ hT3).mono ?_; rintro e w4 ⟨rfl, hT4, hM4⟩
      have hzp := HP.out
      have hR4 := hR3.mod hM4 (fun g h1 h2 e => by omega)
      have bK4 := hM4.boxed bK3 (by omega)
      have hS4 := hS3.trans (hM4.below hS3.size (fun g hg e => by omega))
      have hr4 := ownsRow_mod hr3 hM4 (fun g e h => by have := (hr3.lt g e).1; omega)
      have hz4 := hM4.size
      have HZ := Lib.hid (show wo.heap.size ≤ w1.heap.size ∧ w1.heap.size ≤ w4.heap.size ∧ p < wo.heap.size ∧ q < wo.heap.size ∧ B8 < wo.heap.size from ⟨hz1, by omega, hbase.1, hbase.2, by omega⟩)
      clear hT3 bK3 hS3 hR3 hr3 hM4 hz1 hz2 hz3 hz4 hzp hbase
      go_wp2_with fail
      have bW0 := Boxed.new w4 29 (.slice none 0 0)
      have bW := bW0.alloc (.cells #[.slice a1' (refsT n T).length c1] 44)
      have bB := (Boxed.new (w4.alloc (.cells #[.slice none 0 0] 29)) 44 (.slice a1' (refsT n T).length c1)).cell
      rw [World.size_alloc] at bB
      have hb50 : Below w4.heap.size w4 ((w4.alloc (.cells #[.slice none 0 0] 29)).alloc (.cells #[.slice a1' (refsT n T).length c1] 44)) := ((Below.refl _ _).alloc (Nat.le_refl _) _).alloc (by simp) _
      have hT5 := hT4.below hb50
      have bK5 := (Mod.of_same (S := fun _ => False) hb50).boxed bK4 (by simp)
      have hR5 := hR4.below hb50
      have hr5 := ownsRow_mod (S := fun _ => False) hr4 (Mod.of_same hb50) (by simp)
      have hS5 := hS4.trans (hb50.mono hS4.size)
      have hz5 : (((w4.alloc (.cells #[.slice none 0 0] 29)).alloc (.cells #[.slice a1' (refsT n T).length c1] 44))).heap.size = w4.heap.size + 2 := by simp
      have hr4lt := fun g e => (hr4.lt g e).2
      refine (Backward_any _ _ _ _).mono ?_; rintro e w5 ⟨rfl, rfl⟩
      go_wp2_with fail
      clear hT4 bK4 hR4 hr4 hS4 hb50 bW0
      generalize ((w4.alloc (.cells #[.slice none 0 0] 29)).alloc (.cells #[.slice a1' (refsT n T).length c1] 44)) = W0 at *
      generalize w4.heap.size = Bw at *
      have HZ5 := Lib.hid hz5
      have HR5 := Lib.hid hR5
      have HT5 := Lib.hid hT5
      have HS5 := Lib.hid hS5
      have Hr5 := Lib.hid hr5
      have Hr4 := Lib.hid hr4lt
      have HK5 := Lib.hid bK5
      clear hr5 hS5 hr4lt bK5
      have hzz := HZ.out
      have hzp := HP.out
      refine (wpIn_wide (n := 8)).1 ?_
      refine wpIn_rangeFunc_ownH rfl (by omega) (gf := 38) (lb := #[.pointer (some ⟨Bw + 1, 0, none⟩)]) rfl trivial (enters_of Try.func38 (by kernel_rfl) rfl)
        (back_stops 7 (by omega) (Bw + 1) c1 a1' (fun k => k = Bw ∨ Bw + 2 ≤ k) (refsT n T) (by omega) W0 (by omega) (by omega) bB (by
          rcases hR5 with h | ⟨g, h1, h2, h3, h4, h5⟩
          · exact .inl h
          · exact .inr ⟨g, h1, by omega, by omega, h5⟩))
        (fun h k => h.trans k) (modK_b (by intro k hk; omega)) (Below.refl _ _) (fun _ => rfl)
        (fun pre W => (∃ v, Boxed W Bw 29 v ∧ W.ownsRow (Bw + 2) 3 1 v (wantL k pre).length ((wantL k pre).map (Value.int .i64)) ∧ True) ∧ Mod (fun k => k = Bw ∨ Bw + 2 ≤ k) W0 W)
        (fun _ _ _ => False)
        (OwnFrom.and (Own.from (holdsRow_own (Bw + 2) Bw 29 3 1 (fun pre : List (Nat × R) => (wantL k pre).length) (fun pre => (wantL k pre).map (Value.int .i64)) (fun _ _ => True)) _) (ownFrom_mod (by intro k hk; omega)))
        (fun _ _ _ _ _ hs _ _ => hs)
        ⟨⟨_, bW, World.ownsRow_nil _ _ _ _, trivial⟩, Mod.refl _ _⟩
        (fun x a' W => ∃ Bx, Bw + 2 ≤ Bx ∧ RefAt W Bx x.2 ∧ a' = { tmps := #[Value.int IntKind.u8 a0, Value.int IntKind.u8 a1, Value.slice (some { block := b, off := off }) len cap, undef, undef, undef, Value.bool false, Value.int IntKind.i64 ↑n, Value.pointer (some { block := B8, off := 0 }), Value.pointer (some { block := p, off := 0 }), Value.int IntKind.i64 0, undef, u12, Value.slice a1' (refsT n T).length c1, Value.slice a2' T.free.length c2, Value.int IntKind.i64 ↑(refsT n T).length, Value.int IntKind.i64 cb, Value.int IntKind.i64 cc, Value.int IntKind.i64 ↑(refsT n T).length, Value.pointer (some { block := Bw, off := 0 }), undef, .pointer (some ⟨Bx, 0, none⟩), undef, undef, undef, undef, undef, undef, undef, undef, Value.bool true, Value.bool false, Value.tuple #[Value.int IntKind.i64 ↑n, Value.int IntKind.i64 k], Value.int IntKind.u8 a0, Value.int IntKind.u8 a1, Value.tuple #[Value.int IntKind.i64 ↑n, Value.int IntKind.i64 k], Value.int IntKind.i64 ↑n, Value.int IntKind.i64 k, Value.tuple #[Value.pointer (some { block := p, off := 0 }), Value.int IntKind.i64 0], Value.int IntKind.i64 ↑n, Value.int IntKind.i64 k, Value.tuple #[Value.pointer (some { block := p, off := 0 }), Value.int IntKind.i64 0], Value.pointer (some { block := p, off := 0 }), Value.int IntKind.i64 0, Value.int IntKind.i64 0, Value.bool false, Value.bool false, Value.pointer (some { block := p, off := 0 }), Value.bool false, Value.bool false, Value.slice (some { block := b, off := off }) len cap, Value.slice (some { block := b, off := off }) len cap, Value.int IntKind.i64 ↑len, Value.int IntKind.i64 ↑j, Value.slice (some { block := b, off := off }) j cap, Value.int IntKind.i64 ↑j, Value.int IntKind.i64 ↑j, Value.bool false, u58, u59, u60, u61, u62, u63, Value.pointer (some { block := p, off := 0 }), Value.slice a1' (refsT n T).length c1, Value.pointer (some { block := p, off := 0 }), Value.slice a2' T.free.length c2, Value.tuple #[Value.int IntKind.i64 ↑(refsT n T).length, Value.int IntKind.i64 cb, Value.int IntKind.i64 cc], Value.pointer (some { block := p, off := 0 }), Value.tuple #[Value.int IntKind.i64 ↑(refsT n T).length, Value.int IntKind.i64 cb, Value.int IntKind.i64 cc], Value.int IntKind.i64 ↑(refsT n T).length, Value.int IntKind.i64 cb, Value.int IntKind.i64 cc, Value.tuple #[Value.int IntKind.i64 ↑(refsT n T).length, Value.int IntKind.i64 0], Value.pointer (some { block := p, off := 0 }), Value.tuple #[Value.int IntKind.i64 ↑(refsT n T).length, Value.int IntKind.i64 0], Value.int IntKind.i64 ↑(refsT n T).length, Value.int IntKind.i64 0, Value.slice a1' (refsT n T).length c1, Value.func (Fn.func 38) #[] #[Value.pointer (some { block := Bw + 1, off := 0 })], .int .i64 (x.1 : Int), .agg #[.int .i64 x.2.1, .int .i64 x.2.2], undef, undef, undef, undef, undef, undef, undef, undef, undef, undef, undef, undef, undef, undef, undef, undef, undef, undef, undef, undef, undef, undef, undef, undef, undef, undef, undef, undef, undef, undef, undef, undef, undef, undef, undef, undef, undef, undef, undef, undef, undef, undef, undef, undef, undef, undef, undef, undef, undef, undef, undef, undef, undef, undef, undef, undef, undef, undef, undef, undef, undef, undef, undef, undef, undef, undef, undef, undef, undef, undef, undef, undef, undef, undef, undef, undef, undef, undef, undef, undef, undef, undef, undef, undef, undef, undef, undef, undef, undef, undef], defers := [] })
        ?ax ?assign ?body ?done ?stop
      case ax =>
        intro x a'
        refine Own.from (fun s A B row hs hg hr => ?_) _
        obtain ⟨Bx, h1, h2, h3⟩ := hs
        refine ⟨Bx, h1, (hg.block Bx (Array.getElem?_eq_some_iff.1 h2).1 (fun e => ?_)).trans h2, h3⟩
        obtain ⟨o, ho, hc⟩ := hr Bx e.symm
        rw [show A.heap[Bx]? = _ from h2] at ho; cases ho; cases hc
      case assign =>
        rintro l pre x W K ⟨⟨v, hv, hrow, -⟩, hM⟩ hK
        have hsz := hM.size
        gi_wp2
        exact hK _ _ ((KeepsOthers.alloc _ _).from _) ((Mod.refl _ W).alloc _) ⟨⟨v, hv.alloc _, hrow.alloc _, trivial⟩, hM.alloc _⟩ ⟨W.heap.size, by omega, World.alloc_heap_new W _, rfl⟩
      case body =>
        rintro l pre x a' W hl - ⟨⟨v, hv, hrow, -⟩, hM⟩ ⟨Bx, hBx, hR, rfl⟩ hlt
        have hc := hv.cell
        have r0 := hR.c0
        have r1 := hR.c1
        have c8 := hM.cell (p := ⟨B8, 0, none⟩) (show ¬ (B8 = Bw ∨ Bw + 2 ≤ B8) by omega) HK5.out.cell
        have hlt8 : (wantL k pre).length < 1024 := by have := wantL_le k pre; omega
        have hszW := hM.size
        obtain ⟨xi, x1, x2⟩ := x
        dsimp only at r0 r1
        by_cases hx : x2 < k
        · have hwy : wantL k (pre ++ [(xi, x1, x2)]) = wantL k pre ++ [x1] := wantL_yes hx
          have HWY := Lib.hid hwy
          clear hwy hT5 hR5
          gi_wp2_with (gi_at_builtin; refine wpListIn_append_own _ rfl _ _ 29 rfl (Bw + 2) 3 i0 (.int .i64 0) 1 8 Try.underlying29 hi hz0 hz1 hz2 rfl (by decide) _ _ _ rfl (hrow.alloc _) ⟨W.heap.size, 0, none⟩ 1 1 [.int .i64 x1] rfl rfl (cell_one_new _ _ _) (by simp [Value.oneCell']) (by unfold maxLen; omega) (by omega) (by simp; omega) ?_; intro v' w1' hown' hgrow _; obtain ⟨g', cap', rfl⟩ := ownsRow_succ hown'; obtain ⟨hv1, hv2, hr2, hk2, hb2⟩ := boxed_appended hv (by decide) hrow hown' hgrow; have hc1 := hv1.cell; have hf1 := hv1.frozen)
          refine ⟨hk2.from _, hb2, ⟨_, hv2, by rw [HWY.out]; simpa using hr2⟩, hM.trans hb2⟩
        · have hwn : wantL k (pre ++ [(xi, x1, x2)]) = wantL k pre := wantL_no hx
          have HWN := Lib.hid hwn
          clear hwn hT5 hR5
          gi_wp2
          refine ⟨(KeepsOthers.refl _).from _, Mod.refl _ _, ⟨_, hv, by rw [HWN.out]; exact hrow⟩, hM⟩
      case done =>
        rintro D ys W hD rfl ⟨⟨v, hv, hrow, -⟩, hM⟩ hK
        dsimp only
        have hT6 := HT5.out.mod hM (by omega) (by omega)
        have hR6 := HR5.out.mod hM (fun g h1 h2 e => by omega)
        have hS6 := HS5.out.trans (hM.below HS5.out.size (fun g hg e => by omega))
        have hr6 := ownsRow_mod Hr5.out hM (fun g e e' => by have h1 := Hr4.out g e; omega)
        have hDs : D < W.heap.size := (Array.getElem?_eq_some_iff.1 hK).1
        have hBws : Bw < W.heap.size := (Array.getElem?_eq_some_iff.1 hv).1
        have HD := Lib.hid (show Bw + 2 ≤ D ∧ D < W.heap.size ∧ Bw < W.heap.size from ⟨by omega, hDs, hBws⟩)
        obtain ⟨a3, c3, e⟩ := ownsRow_val hrow
        subst e
        have hlen := congrArg List.length HWANT.out
        rw [List.length_map, List.length_append, List.length_map] at hlen
        have HROW := Lib.hid hrow
        have HV := Lib.hid hv
        have HDD := Lib.hid hK
        have HR6 := Lib.hid hR6
        have HS6 := Lib.hid hS6
        have Hr6 := Lib.hid hr6
        clear hM hT5 hR5 HT5 HR5 HS5 Hr5 HK5 hv hrow hK hR6 hS6 hr6 hDs hBws bW bB hz5
        obtain ⟨cb', cc', hct, hcc'⟩ : ∃ cb' cc' : Int, countsT n (clearT n T) = (0, cb', cc') ∧ cc' = (n : Int) - (clearT n T).free.length := ⟨(clearT n T).free.length, (n : Int) - 0 - (clearT n T).free.length, by rw [countsT, HCR.out]; rfl, by omega⟩
        have heq : cc + ((refsT n T).length : Int) - ((wantL k (backsOf (refsT n T) (refsT n T).length)).length : Int) = cc' := by have := HCC.out; omega
        have hccb : -1024 ≤ cc ∧ cc ≤ 1024 := by have := HCC.out; omega
        have HEQ := Lib.hid heq
        clear hcc' hlen heq
        have C := Counts_any p q n _ W hT6
        rw [hct] at C
        have HC := Lib.hid C
        have HT6 := Lib.hid hT6
        clear C hct hT6
        go_wp2_with fail
        refine HC.out.mono ?_; rintro e w7 ⟨rfl, hb7⟩
        go_upto_region 21 with (fail)
        have HT7 := Lib.hid (HT6.out.below hb7)
        have HV7 := Lib.hid ((Mod.of_same (S := fun _ => False) hb7).boxed HV.out (by simp))
        have HROW7 := Lib.hid (ownsRow_mod (S := fun _ => False) HROW.out (Mod.of_same hb7) (by simp))
        have Hr7 := Lib.hid (ownsRow_mod (S := fun _ => False) Hr6.out (Mod.of_same hb7) (by simp))
        have HR7 := Lib.hid (HR6.out.below hb7)
        have HS7 := Lib.hid (HS6.out.trans (hb7.mono HS6.out.size))
        have HD7 := Lib.hid (show Bw + 2 ≤ D ∧ D < w7.heap.size ∧ Bw < w7.heap.size ∧ p < Bw ∧ q < Bw ∧ w1.heap.size ≤ Bw from ⟨HD.out.1, by have := HD.out.2.1; have := hb7.size; omega, by have := HD.out.2.2; have := hb7.size; omega, by omega, by omega, by omega⟩)
        have HDD7 := Lib.hid (show w7.heap[D]? = some (.deferred (some [])) from (hb7.block D HD.out.2.1).trans HDD.out)
        clear hb7 HT6 HV HROW Hr6 HR6 HS6 HDD HC
        have heq := HEQ.out
        generalize wantL k (backsOf (refsT n T) (refsT n T).length) = wl at *
        have hq7 := HV7.out.cell
        have hwl40 : wl.length ≤ 40 := by omega
        have hwl40I : (wl.length : Int) ≤ 40 := by omega
        have hrlI : ((refsT n T).length : Int) ≤ 40 := by omega
        have hw1 : IntKind.i64.wrap (cc + ((refsT n T).length : Int)) = cc + ((refsT n T).length : Int) := IntWalk.i64_in _ (by omega)
        have hw2 : IntKind.i64.wrap cc' = cc' := IntWalk.i64_in _ (by omega)
        have hw3 : IntKind.i64.wrap (cc + ((refsT n T).length : Int) - (wl.length : Int)) = cc' := by rw [heq]; exact hw2
        have hone : ∀ z ∈ (T.free.map fun x : Nat => Value.int .i64 (x : Int)), z.oneCell' = true := by
          intro z hz
          obtain ⟨x, _, rfl⟩ := List.mem_map.1 hz
          rfl
        have HONE := Lib.hid hone
        clear hone
        go_region_held3 (fun w' => w'.cell? ⟨Bw, 0, none⟩ = some (.slice a3 wl.length c3))
          ((first | (with_reducible exact HQ11.out) | (with_reducible exact HQ10.out) | (with_reducible exact HQ9.out) | (with_reducible exact HQ8.out) | go_keep))
          ((first
            | (go_at_call 21; refine (Refs_any p q n (clearT n T) _ (by exact HT7.out)).mono ?_; rintro e w8 ⟨v8, rfl, hr8, hb8'⟩; have hb8 := below_of_drew hb8'; rw [HCR.out] at hr8; obtain ⟨a8, c8', e8⟩ := ownsRow_val hr8; subst e8; have HT8 := Lib.hid (HT7.out.below hb8); have hV8 := (Mod.of_same (S := fun _ => False) hb8).boxed HV7.out (by simp); have HV8 := Lib.hid hV8; have HQ8 := Lib.hid hV8.cell; have HROW8 := Lib.hid (ownsRow_mod (S := fun _ => False) HROW7.out (Mod.of_same hb8) (by simp)); have Hr8 := Lib.hid (ownsRow_mod (S := fun _ => False) Hr7.out (Mod.of_same hb8) (by simp)); have HR8 := Lib.hid (HR7.out.below hb8); have HS8 := Lib.hid (HS7.out.trans (hb8.mono HS7.out.size)); have HDD8 := Lib.hid ((hb8.block D HD7.out.2.1).trans HDD7.out); have hz8 := hb8.size; clear hr8 hb8 hb8' hV8)
            | (go_at_call 18; refine (Free_any p q n (clearT n T) _ (by exact HT8.out)).mono ?_; rintro e w9 ⟨v9, rfl, hr9, hb9⟩; obtain ⟨a9, c9, e9⟩ := ownsRow_val hr9; subst e9; have HFR9 := Lib.hid hr9; have HT9 := Lib.hid (HT8.out.below hb9); have hV9 := (Mod.of_same (S := fun _ => False) hb9).boxed HV8.out (by simp); have HV9 := Lib.hid hV9; have HQ9 := Lib.hid hV9.cell; have HLT9 := Lib.hid (fun g e => (HROW8.out.lt g e).2); have HROW9 := Lib.hid (ownsRow_mod (S := fun _ => False) HROW8.out (Mod.of_same hb9) (by simp)); have Hr9 := Lib.hid (ownsRow_mod (S := fun _ => False) Hr8.out (Mod.of_same hb9) (by simp)); have HR9 := Lib.hid (HR8.out.below hb9); have HS9 := Lib.hid (HS8.out.trans (hb9.mono HS8.out.size)); have HDD9 := Lib.hid ((hb9.block D (by have := HD7.out.2.1; omega)).trans HDD8.out); have hz9 := hb9.size; clear hr9 hb9 hV9)
            | (refine step_append_rows _ _ rfl (by rfl) (Bw + 2) w1.heap.size (.slice a3 wl.length c3) (.slice a2' T.free.length c2) _ _ (wl.map (Value.int .i64)) _ (by rfl) (by rfl) HROW9.out Hr9.out HONE.out (by omega) (by have := HD7.out; omega) ?_; intro a10 c10 w10 hown10 hgrow10; have m10 := Mod.of_grownBy hgrow10; have hT10 := HT9.out.mod m10 (fun e => by have h1 := (HROW9.out.lt p e.symm).1; have := HD7.out; omega) (fun e => by have h1 := (HROW9.out.lt q e.symm).1; have := HD7.out; omega); have HT10 := Lib.hid hT10; have hQ10 := (m10.boxed HV9.out (fun e => by have h1 := (HROW9.out.lt Bw e.symm).1; omega)).cell; have HQ10 := Lib.hid hQ10; have HFR10 := Lib.hid (Reads.of_owns (zs := (clearT n T).free.map fun x : Nat => (x : Int)) (by rw [List.map_map]; exact ownsRow_mod HFR9.out m10 (fun g e e' => by have h1 := (HFR9.out.lt g e).1; have h2 := HLT9.out g e'.symm; omega))); have HOW10 := Lib.hid (Reads.of_owns (zs := wl ++ T.free.map fun x : Nat => (x : Int)) (by rw [List.map_append, List.map_map]; exact hown10)); have HR10 := Lib.hid (HR9.out.mod m10 (fun g h1 h2 e => by have h3 := (HROW9.out.lt g e.symm).1; have := HD7.out; omega)); have HS10 := Lib.hid (HS9.out.trans (m10.below HS9.out.size (fun g hg e => by have h3 := (HROW9.out.lt g e.symm).1; have := HD7.out; have := HS7.out.size; omega))); have HDD10 := Lib.hid (m10.heap HDD9.out (fun e => def_not_row HROW9.out HDD9.out e)); clear m10 hT10 hQ10 hown10 hgrow10)
            | (go_at_call 26; have hEq := Equal_any _ _ _ _ _ HFR10.out HOW10.out; rw [decide_eq_true HWANT.out] at hEq; refine hEq.mono ?_; rintro e w11 ⟨rfl, m11, rfl⟩; have HQ11 := Lib.hid (show (w10.drewN m11).cell? ⟨Bw, 0, none⟩ = some (.slice a3 wl.length c3) from HQ10.out); clear hEq)))
        have hT12 : TableAt (w10.drewN m11) p q n (clearT n T) := HT10.out
        have hR12 : RefRow wo.heap.size w1.heap.size (w10.drewN m11) a1' (refsT n T) := HR10.out
        have hS12 : Below w.heap.size w (w10.drewN m11) := below_drewN HS10.out m11
        have HDD12 := Lib.hid (show (w10.drewN m11).heap[D]? = some (.deferred (some [])) from HDD10.out)
        clear heq hw1 hw2 hw3 hq7
        generalize w10.drewN m11 = W12 at *
        have HT12 := Lib.hid hT12
        have HS12 := Lib.hid hS12
        have HBASE := Lib.hid (show w.heap.size ≤ D ∧ p < W12.heap.size ∧ q < W12.heap.size ∧ w.heap.size ≤ p ∧ w.heap.size ≤ q ∧ D ≠ p ∧ D ≠ q ∧ D < W12.heap.size from ⟨by have := HD7.out; omega, hT12.lt.1, hT12.lt.2, by omega, by omega, by have := HD7.out; omega, by have := HD7.out; omega, (Array.getElem?_eq_some_iff.1 HDD12.out).1⟩)
        clear hT12 hS12
        generalize clearT n T = T' at *
        rcases hR12 with hlz | ⟨g, hga, hgb, hgt, hgs, hgc⟩
        · rw [hlz]
          have HT13 := HT12
          have HS13 := HS12
          have HDD13 := HDD12
          obtain ⟨W13, hW13⟩ : ∃ W13, W13 = W12 := ⟨_, rfl⟩
          rw [← hW13] at HT13 HS13 HDD13 ⊢
          clear hW13
          go_wp2_with fail
          go_loopw [138] (fun i wr => i = .int .i64 0 ∧ wr = W13) (fun i _ => 0)
          case atStart => exact ⟨rfl, rfl⟩
          case round =>
            obtain ⟨rfl, hw13⟩ := hrel
            obtain ⟨W14, rfl⟩ : ∃ W14 : World, W14 = wr := ⟨_, rfl⟩
            rw [← hw13] at HT13 HS13 HDD13
            clear hw13
            obtain ⟨W13, rfl⟩ : ∃ W13 : World, W13 = W14 := ⟨_, rfl⟩
            have C := Clear_any p q n _ W13 HT13.out
            rw [HCR.out] at C
            have HC13 := Lib.hid C
            clear C
            go_wp2_with fail
            refine HC13.out.mono ?_; rintro e w14 ⟨rfl, hT14, hM14⟩
            have hK14 := hM14.heap HDD13.out (by have := HBASE.out; omega)
            have hS14 := HS13.out.trans (hM14.below HS13.out.size (fun g hg e => by have := HBASE.out; omega))
            clear hT14 hM14
            go_wp2_with fail
            refine ⟨by simp, .inl ⟨_, _, rfl, run_takeDeferred hK14, ?_⟩⟩
            exact ⟨_, results_tmp rfl _ _ _, rfl, hS14.trans (belowK_b (w := w) (Nat.le_refl _) w14 D _ _ HBASE.out.1 hK14 rfl rfl)⟩
        · subst hga
          have HCELL := Lib.hid hgc
          have HG := Lib.hid (show g < W12.heap.size by omega)
          clear hgc hgb hgt hgs
          go_wp2_with fail
          have hr40 : (refsT n T).length ≤ 40 := by omega
          have HMEM := Lib.hid (show ∀ i, i < (refsT n T).length → (refsT n T)[i]?.getD (0, 0) ∈ refsT n T from fun i hi => by rw [List.getElem?_eq_getElem hi, Option.getD_some]; exact List.getElem_mem hi)
          go_loopw [138] (fun i wr => ∃ t : Nat, t ≤ (refsT n T).length ∧ i = .int .i64 t ∧ Below W12.heap.size W12 wr) (fun i _ => (refsT n T).length - (intOf i).toNat)
          case atStart => exact ⟨0, by omega, rfl, Below.refl _ _⟩
          case round =>
            obtain ⟨t, ht, rfl, hB⟩ := hrel
            obtain ⟨w13, rfl⟩ : ∃ w13 : World, w13 = wr := ⟨_, rfl⟩
            by_cases hlt3 : t < (refsT n T).length
            · have hltI3 : (t : Int) < (refsT n T).length := by omega
              obtain ⟨c0, c1⟩ := HCELL.out t hlt3
              have q0 := (hB.cell (p := ⟨g, t * 2, none⟩) HG.out).trans c0
              have q1 := (hB.cell (p := ⟨g, t * 2 + 1, none⟩) HG.out).trans c1
              obtain ⟨hlk, hlv⟩ := HCL.out _ (HMEM.out t hlt3)
              generalize (refsT n T)[t]?.getD (0, 0) = y at *
              obtain ⟨y1, y2⟩ := y
              dsimp only at q0 q1 hlk
              have bl9 : Below w13.heap.size w13 (w13.alloc (.cells #[.int .i64 y1, .int .i64 y2] 26)) := (Below.refl _ w13).alloc (Nat.le_refl _) _
              have HT13 := Lib.hid (HT12.out.below (hB.trans (bl9.mono hB.size)))
              have hR9 : RefAt (w13.alloc (.cells #[.int .i64 y1, .int .i64 y2] 26)) w13.heap.size (y1, y2) := World.alloc_heap_new w13 _
              have d0 := hR9.c0
              have d1 := hR9.c1
              have HB9 := Lib.hid (hB.trans (bl9.mono hB.size))
              have C1 := Look_any p q n T' y1 (w13.alloc (.cells #[.int .i64 y1, .int .i64 y2] 26)) HT13.out
              rw [hlk] at C1
              have HC1 := Lib.hid C1
              have HLV := Lib.hid hlv
              clear c0 c1 hlk hlv hR9 hB bl9 C1
              go_wp2_with fail
              refine HC1.out.mono ?_; rintro e w14 ⟨rfl, m14, rfl⟩
              have C2 := Live_any p q n T' y1 y2 (World.drewN (w13.alloc (.cells #[.int .i64 y1, .int .i64 y2] 26)) m14) HT13.out
              rw [HLV.out] at C2
              have HC2 := Lib.hid C2
              clear C2
              go_wp2_with fail
              refine HC2.out.mono ?_; rintro e w15 ⟨rfl, hb15⟩
              have hB15 := (below_drewN HB9.out m14).trans (hb15.mono HB9.out.size)
              clear hb15
              go_wp2_with fail
              go_roundw
              case rel => exact ⟨t + 1, by omega, by go_num, hB15⟩
              case measure => simp [intOf]; omega
            · obtain rfl : t = (refsT n T).length := by omega
              have HT13 := Lib.hid (HT12.out.below hB)
              have HS13 := Lib.hid (HS12.out.trans (hB.mono HS12.out.size))
              have HDD13 := Lib.hid ((hB.block D HBASE.out.2.2.2.2.2.2.2).trans HDD12.out)
              obtain ⟨W13, rfl⟩ : ∃ W13 : World, W13 = w13 := ⟨_, rfl⟩
              clear hB
              have C := Clear_any p q n _ W13 HT13.out
              rw [HCR.out] at C
              have HC13 := Lib.hid C
              clear C
              go_wp2_with fail
              refine HC13.out.mono ?_; rintro e w14 ⟨rfl, hT14, hM14⟩
              have hK14 := hM14.heap HDD13.out (by have := HBASE.out; omega)
              have hS14 := HS13.out.trans (hM14.below HS13.out.size (fun g hg e => by have := HBASE.out; omega))
              clear hT14 hM14
              go_wp2_with fail
              refine ⟨by simp, .inl ⟨_, _, rfl, run_takeDeferred hK14, ?_⟩⟩
              exact ⟨_, results_tmp rfl _ _ _, rfl, hS14.trans (belowK_b (w := w) (Nat.le_refl _) w14 D _ _ HBASE.out.1 hK14 rfl rfl)⟩
      case stop =>
        rintro D c pre W _ _ h _
        exact h.elim


theorem lawCleared (w : World) (a0 : Int) (w0 : (Lit.int .u8 a0).wf = true) (a1 : Int) (w1 : (Lit.int .u8 a1).wf = true) (a2 : Option Addr) (len2 cap2 : Nat) (z2 : List Int) (w2 : IsRow .u8 w a2 len2 cap2 z2) :
    Calls Try.prog 10 #[.int .u8 a0, .int .u8 a1, .slice a2 len2 cap2] w fun e w' => e = .returned (.bool true) ∧ Below w.heap.size w w' := by
  obtain ⟨h00, h01⟩ := bounds_u8 w0
  obtain ⟨h10, h11⟩ := bounds_u8 w1
  rcases row_cases w2 with ⟨rfl, rfl, rfl⟩ | ⟨x, rfl, rfl, hm⟩ | ⟨b, off, rfl, h1, h2, h3, h4, h5⟩
  · exact cleared_nil a0 h00 h01 a1 h10 h11 w
  · exact cleared_zero a0 h00 h01 a1 h10 h11 _ _ w hm
  · exact cleared_some a0 h00 h01 a1 h10 h11 b off len2 cap2 z2 w h4 h5 h2 h1 h3

end Slot
end Go.Proofs.Ytpcbmckknafdgaa
