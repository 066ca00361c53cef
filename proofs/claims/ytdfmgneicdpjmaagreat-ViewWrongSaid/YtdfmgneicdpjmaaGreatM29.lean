import Derived.Test.YtdfmgneicdpjmaaGreatM27
import Derived.Test.YtdfmgneicdpjmaaGreatM28
import Derived.Deep.RegionWith
import Derived.Deep.CutBlock
/- check.hands: what its iterator yields. -/
namespace Go.Proofs.YtdfmgneicdpjmaaGreat
open Go.RowKit Go.Shelf
attribute [local go_sem] Oper.semAt_some
set_option linter.unusedVariables false
set_option linter.unusedSimpArgs false
set_option maxRecDepth 100000
namespace Eng
open Resp
attribute [-go_sem] Instr.storeAt Instr.loadAt
attribute [local go_sem] ld_opn st_opn fc_cells

theorem oneE_op {i : Ins} (h : oneE i = 0) : (1 ≤ i.op ∧ i.op ≤ 11) ∨ (32 < i.op ∧ i.op ≤ 49) := by
  unfold oneE at h
  split at h
  · rename_i h1
    unfold frmB at h1
    exact of_decide_eq_true h1
  · cases h
/-- The iterator's state: the fact is the one that is handed on from the first round on. -/
def HdSt (bp bk bf b o n c k : Nat) (i : Ins) (f : Fc) (j : Nat) (W : World) : Prop := HdAt bp bk bf (.slice (some ⟨b, o, none⟩) n c) k (if j = 0 then f else hF i f) W ∧ InsIn W b (o + k * 5) i
/-- How the iterator ends. -/
def HdEnd (J : Nat → World → Prop) (Jx : World → Prop) (N : Nat) (e : Ending) (W' : World) : Prop := (∃ v, e = .returned v) ∧ (J N W' ∨ Jx W')
theorem HdSt.of {bp bk bf b o n c k : Nat} {i : Ins} {f : Fc} {j : Nat} {W0 W : World} (hp : W0.heap[bp]? = some (.cells #[.slice (some ⟨b, o, none⟩) n c] 170)) (hk : W0.heap[bk]? = some (.cells #[.int .i64 (k : Int)] 3)) (hi : InsIn W0 b (o + k * 5) i)
    (hne : ¬ bp = bf ∧ ¬ bk = bf ∧ ¬ b = bf) (hm : Mod (fun g => g = bf) W0 W) (hf : FcAt W bf (hF i f)) : HdSt bp bk bf b o n c k i f (j + 1) W :=
  ⟨⟨hm.heap hp hne.1, hm.heap hk hne.2.1, by rw [if_neg (by omega)]; exact hf⟩, hi.mod hm hne.2.2⟩
set_option maxHeartbeats 8000000 in
theorem hands1_ops (m : Nat) (hm : 1 ≤ m) (bp bk bf b o n c k ra : Nat) (op ib ic nn : Int) (f : Fc) (ho : InsOk ⟨op, (ra : Int), ib, ic, nn⟩) (h1 : oneE ⟨op, (ra : Int), ib, ic, nn⟩ = 0) (hk : k < n) (hn : n ≤ 256) (hne : ¬ bp = bf ∧ ¬ bk = bf ∧ ¬ b = bf) :
    SeqFe Fence.wide m Tryz.prog 431 #[.pointer (some ⟨bp, 0, none⟩), .pointer (some ⟨bk, 0, none⟩), .pointer (some ⟨bf, 0, none⟩)] (fun x : Int × Fc => #[.int .i64 x.1, fcV x.2]) (fun g => g = bf)
      (HdSt bp bk bf b o n c k ⟨op, (ra : Int), ib, ic, nn⟩ f) (fun j x _ W => (handL ⟨op, (ra : Int), ib, ic, nn⟩ k f)[j]? = some x ∧ HdSt bp bk bf b o n c k ⟨op, (ra : Int), ib, ic, nn⟩ f (j + 1) W) (handL ⟨op, (ra : Int), ib, ic, nn⟩ k f).length := by
  intro l J Jx W hS hJ hJx hY h0
  obtain ⟨N, hN⟩ : ∃ N, (handL ⟨op, (ra : Int), ib, ic, nn⟩ k f).length = N := ⟨_, rfl⟩
  rw [hN]
  have HNN := Lib.hid hN
  clear hN
  show CallsIn _ _ _ _ _ _ (HdEnd J Jx N)
  obtain ⟨a8, b8, c8⟩ := lt8 h1
  have hop := oneE_op h1
  simp only at a8 b8 c8 hop
  have HT := Lib.hid (Target_any ⟨op, (ra : Int), ib, ic, nn⟩ ho)
  have HG := Lib.hid (Goes_any ⟨op, (ra : Int), ib, ic, nn⟩ ho)
  have HRS := Lib.hid (fun kk => result_any ⟨op, (ra : Int), ib, ic, nn⟩ kk ho b8 c8)
  have ra8 : ra < 8 := by omega
  have HJ := Lib.hid hJ
  have HJX := Lib.hid hJx
  have HY := Lib.hid hY
  have H0 := Lib.hid h0
  have HNE := Lib.hid hne
  have H1 := Lib.hid h1
  have HO := Lib.hid ho
  obtain ⟨⟨hp0, hk0, hf0⟩, i0, i1, i2, i3, i4⟩ := hS
  have HIN : Hid (InsIn W b (o + k * 5) ⟨op, (ra : Int), ib, ic, nn⟩) := ⟨i0, i1, i2, i3, i4⟩
  rw [if_pos rfl] at hf0
  have HF0 := Lib.hid hf0
  have hbfl : bf < W.heap.size := (Array.getElem?_eq_some_iff.1 hf0).1
  have HP0 := Lib.hid hp0
  have HK0 := Lib.hid hk0
  have hkI : (k : Int) < n := by omega
  have hnI : (n : Int) ≤ 256 := by omega
  obtain ⟨r0, r1⟩ := hf0.reg ra8
  have cp := cell_of_heap_ hp0
  have ck := cell_of_heap_ hk0
  simp only at i0 i1 i2 i3 i4
  unfold insV at HT HG HRS
  simp only at HT HG HRS
  clear hJ hJx hY h0 hf0 hp0 hk0 hne h1 b8 c8 ho
  refine callsIn_of_wp Tryz.func431 rfl trivial ?_ rfl
  simp only [Tryz.ntmps431, List.size_toArray, List.length_cons, List.length_nil, Nat.reduceAdd, Nat.reduceSub, Array.replicate_succ, Array.replicate_zero, List.push_toArray, List.append_toArray, List.nil_append, List.cons_append]
  refine wpIn_wide.2 ?_
  go_wp2_with fail
  have hz1 : (W.alloc (.cells #[.int .u8 op, .int .u8 (ra : Int), .int .u8 ib, .int .u8 ic, .int .i64 nn] 169)).heap.size = W.heap.size + 1 := alloc_size_ _ _
  have HM2 : Hid (Mod (fun _ => False) W ((W.alloc (.cells #[.int .u8 op, .int .u8 (ra : Int), .int .u8 ib, .int .u8 ic, .int .i64 nn] 169)).alloc (.cells #[.bool (f.k ra).1, .int .i64 (f.k ra).2] 538))) := ((Mod.refl _ _).alloc _).alloc _
  have HI2 : Hid (InsAt ((W.alloc (.cells #[.int .u8 op, .int .u8 (ra : Int), .int .u8 ib, .int .u8 ic, .int .i64 nn] 169)).alloc (.cells #[.bool (f.k ra).1, .int .i64 (f.k ra).2] 538)) W.heap.size op ra ib ic nn) := ((Mod.refl (fun _ => False) _).alloc _).heap (World.alloc_heap_new W _) (fun h => h)
  have HA2 : Hid (KnAt ((W.alloc (.cells #[.int .u8 op, .int .u8 (ra : Int), .int .u8 ib, .int .u8 ic, .int .i64 nn] 169)).alloc (.cells #[.bool (f.k ra).1, .int .i64 (f.k ra).2] 538)) (W.heap.size + 1) (f.k ra)) := by
    have := World.alloc_heap_new (W.alloc (.cells #[.int .u8 op, .int .u8 (ra : Int), .int .u8 ib, .int .u8 ic, .int .i64 nn] 169)) (.cells #[.bool (f.k ra).1, .int .i64 (f.k ra).2] 538)
    rw [hz1] at this
    exact this
  clear hz1 r0 r1 cp ck i0 i1 i2 i3 i4
  generalize (W.alloc (.cells #[.int .u8 op, .int .u8 (ra : Int), .int .u8 ib, .int .u8 ic, .int .i64 nn] 169)).alloc (.cells #[.bool (f.k ra).1, .int .i64 (f.k ra).2] 538) = W2 at *
  refine (HT.out W2).mono ?_; rintro e W3 ⟨rfl, hb3⟩
  have hm3 : Mod (fun _ => False) W2 W3 := Mod.of_same hb3
  have HI3 : Hid (InsAt W3 W.heap.size op ra ib ic nn) := hm3.heap HI2.out (fun h => h)
  have HA3 : Hid (KnAt W3 (W.heap.size + 1) (f.k ra)) := hm3.heap HA2.out (fun h => h)
  have HM3 : Hid (Mod (fun _ => False) W W3) := HM2.out.trans hm3
  obtain ⟨i0, i1, i2, i3, i4⟩ := HI3.out.cells
  clear hm3 hb3 HI2 HA2 HM2 HT
  have HTV : Hid (tgtB ⟨op, (ra : Int), ib, ic, nn⟩ = jumpB op ∧ tgtV ⟨op, (ra : Int), ib, ic, nn⟩ = if jumpB op = true then nn else 0) := by
    unfold Hid tgtV tgtB
    rw [decide_eq_true H1.out]
    exact ⟨rfl, rfl⟩
  have HGV : Hid (goesB ⟨op, (ra : Int), ib, ic, nn⟩ = (decide (¬ op = 1) && (decide (¬ op = 2) && decide (¬ op = 9)))) := by
    unfold Hid goesB
    rw [decide_eq_true H1.out]
    rfl
  go_wp2_with fail
  refine (HG.out W3).mono ?_; rintro e W4 ⟨rfl, hb4⟩
  have hm4 : Mod (fun _ => False) W3 W4 := Mod.of_same hb4
  have HI4 : Hid (InsAt W4 W.heap.size op ra ib ic nn) := hm4.heap HI3.out (fun h => h)
  have HA4 : Hid (KnAt W4 (W.heap.size + 1) (f.k ra)) := hm4.heap HA3.out (fun h => h)
  have HM4 : Hid (Mod (fun g => g = bf) W W4) := (HM3.out.trans hm4).mono (fun _ _ h => h.elim)
  obtain ⟨j0, j1, j2, j3, j4⟩ := HI4.out.cells
  obtain ⟨x0, x1, -, -⟩ := HA4.out.cells
  have HF4 : Hid (FcAt W4 bf f) := (HM3.out.trans hm4).heap HF0.out (fun h => h)
  have HLT : Hid (bf < W.heap.size) := hbfl
  have HSZ : Hid (W.heap.size + 1 < W4.heap.size) := (Array.getElem?_eq_some_iff.1 HA4.out).1
  clear hm4 hb4 HI3 HA3 HM3 HG i0 i1 i2 i3 i4 hbfl
  have hB := HTV.out.1
  have hV := HTV.out.2
  have hG := HGV.out
  clear HTV HGV
  rcases hop with hop | hop
  · have hcs : op = 1 ∨ op = 2 ∨ op = 3 ∨ op = 4 ∨ op = 5 ∨ op = 6 ∨ op = 7 ∨ op = 8 ∨ op = 9 ∨ op = 10 ∨ op = 11 := by omega
    clear hop
    rcases hcs with rfl | rfl | rfl | rfl | rfl | rfl | rfl | rfl | rfl | rfl | rfl
    · -- 1
      rw [show jumpB 1 = false from rfl] at hB hV
      rw [show (decide (¬ (1 : Int) = 1) && (decide (¬ (1 : Int) = 2) && decide (¬ (1 : Int) = 9))) = false from rfl] at hG
      rw [if_neg (by decide)] at hV
      have HL : Hid (handL ⟨1, (ra : Int), ib, ic, nn⟩ k f = []) := by
        rw [Hid]
        simp [handL, hGo, hIs, hCnd, hB, hV, hG]
      have hfe : hF ⟨1, (ra : Int), ib, ic, nn⟩ f = f := if_neg (show ¬ hChg 1 = true by decide)
      have HMx := Lib.hid HM4.out
      have HSx : Hid (HdSt bp bk bf b o n c k ⟨1, (ra : Int), ib, ic, nn⟩ f 1 W4) := HdSt.of HP0.out HK0.out HIN.out HNE.out HM4.out (by rw [hfe]; exact HF4.out)
      obtain ⟨F, hF9⟩ : ∃ F, hF ⟨1, (ra : Int), ib, ic, nn⟩ f = F := ⟨_, rfl⟩
      have HFE := Lib.hid hF9
      try rw [hF9] at HL
      clear hF9 hfe
      rw [hB, hV, hG]
      have hN := HNN.out
      rw [HL.out] at hN
      have HN2 : Hid (_ = N) := hN
      clear hN
      clear hB hV hG
      go_wp2_with fail
      exact bodyPost_ret (results_none rfl _ _ _) rfl ⟨⟨_, rfl⟩, .inl (HN2.out ▸ HJ.out 0 W _ H0.out HMx.out)⟩
    · -- 2
      rw [show jumpB 2 = false from rfl] at hB hV
      rw [show (decide (¬ (2 : Int) = 1) && (decide (¬ (2 : Int) = 2) && decide (¬ (2 : Int) = 9))) = false from rfl] at hG
      rw [if_neg (by decide)] at hV
      have HL : Hid (handL ⟨2, (ra : Int), ib, ic, nn⟩ k f = []) := by
        rw [Hid]
        simp [handL, hGo, hIs, hCnd, hB, hV, hG]
      have hfe : hF ⟨2, (ra : Int), ib, ic, nn⟩ f = f := if_neg (show ¬ hChg 2 = true by decide)
      have HMx := Lib.hid HM4.out
      have HSx : Hid (HdSt bp bk bf b o n c k ⟨2, (ra : Int), ib, ic, nn⟩ f 1 W4) := HdSt.of HP0.out HK0.out HIN.out HNE.out HM4.out (by rw [hfe]; exact HF4.out)
      obtain ⟨F, hF9⟩ : ∃ F, hF ⟨2, (ra : Int), ib, ic, nn⟩ f = F := ⟨_, rfl⟩
      have HFE := Lib.hid hF9
      try rw [hF9] at HL
      clear hF9 hfe
      rw [hB, hV, hG]
      have hN := HNN.out
      rw [HL.out] at hN
      have HN2 : Hid (_ = N) := hN
      clear hN
      clear hB hV hG
      go_wp2_with fail
      exact bodyPost_ret (results_none rfl _ _ _) rfl ⟨⟨_, rfl⟩, .inl (HN2.out ▸ HJ.out 0 W _ H0.out HMx.out)⟩
    · -- 3
      rw [show jumpB 3 = false from rfl] at hB hV
      rw [show (decide (¬ (3 : Int) = 1) && (decide (¬ (3 : Int) = 2) && decide (¬ (3 : Int) = 9))) = true from rfl] at hG
      rw [if_neg (by decide)] at hV
      have hch : hChg _ = true := show hChg 3 = true by decide
      obtain ⟨⟨⟨x1', x2'⟩, fl⟩, hres⟩ : ∃ r, resV ⟨3, (ra : Int), ib, ic, nn⟩ f.k = r := ⟨_, rfl⟩
      have HRX : Hid (∀ W, Calls Tryz.prog 432 #[.agg #[.int .u8 3, .int .u8 (ra : Int), .int .u8 ib, .int .u8 ic, .int .i64 nn], rgV f.k] W fun e w' => e = .returned (.tuple #[.agg #[.bool x1', .int .i64 x2'], .bool fl]) ∧ Below W.heap.size W w') := by
        intro W
        have := HRS.out f.k W
        unfold RsP at this
        rw [hres] at this
        exact this
      obtain ⟨F, hF9⟩ : ∃ F, hF ⟨3, (ra : Int), ib, ic, nn⟩ f = F := ⟨_, rfl⟩
      have HFE := Lib.hid hF9
      have HFX : Hid (F = ⟨f.is, setK f.k ra (x1', x2')⟩) := by
        rw [Hid, ← hF9, hF, if_pos hch]
        show (⟨f.is, setK f.k ra (resV ⟨3, (ra : Int), ib, ic, nn⟩ f.k).1⟩ : Fc) = _
        rw [hres]
      clear hF9 hch
      have HL : Hid (handL ⟨3, (ra : Int), ib, ic, nn⟩ k f = [((k : Int) + 1, hF ⟨3, (ra : Int), ib, ic, nn⟩ f)]) := by
        rw [Hid]
        simp [handL, hGo, hIs, hCnd, hB, hV, hG]
      rw [HFE.out] at HL
      rw [hB, hV, hG]
      have hN := HNN.out
      rw [HL.out] at hN
      have HN2 : Hid (_ = N) := hN
      clear hN
      clear hB hV hG
      have hrg := ld_rg (W := W4.drew) HF4.out
      go_upto_block 0 with fail
      go_cut [8, 9] from 10 (fun s8 s9 wx => s8 = .bool false ∧ s9 = .bool true ∧ Hid (FcAt wx bf F) ∧ Hid (Mod (fun g => g = bf) W4 wx))
      case first =>
        rename_i Jc Kc hJc hKc
        go_upto_region 12 with fail
        go_region_with (go_at_call 432; go_loud (refine (HRX.out _).mono ?_; rintro e w2 ⟨rfl, hb2⟩; have hm2 : Mod (fun _ => False) W4 w2 := (by first | exact Mod.of_same hb2 | exact (fun (h : Mod (fun _ => False) W4.drew w2) => ⟨h.os, h.tape, h.output, h.size, h.block⟩) (Mod.of_same hb2)); have HF2 : Hid (FcAt w2 bf f) := hm2.heap HF4.out (fun h => h); have HM2 := Lib.hid hm2; have k1 : w2.cell? ⟨W.heap.size, 1, none⟩ = some (.int .u8 (ra : Int)) := hm2.cell (fun h => h) j1; have s0 := (HF2.out.reg ra8).1; have s1 := (HF2.out.reg ra8).2; have z0 := HF2.out.frozen (1 + ra * 2); have z1 := HF2.out.frozen (1 + ra * 2 + 1); clear hb2 hm2))
        all_goals (change Kc _ _; refine hKc _ _ (Met.intro (hJc _ _ ?_)); (repeat apply Exists.intro); refine ⟨?_, rfl⟩)
        all_goals (refine ⟨rfl, rfl, ?_, ?_⟩ <;> first | (rw [HFX.out]; exact HF2.out.set ra8 (x1', x2')) | exact ((HM2.out.mono (fun _ _ h => h.elim)).trans (mod_set_ _ _ _ _)).trans (mod_set_ _ _ _ _))
      obtain ⟨rfl, rfl, HFC, HMC⟩ := hcut
      have HMx : Hid (Mod (fun g => g = bf) W wc) := HM4.out.trans HMC.out
      have HSx : Hid (HdSt bp bk bf b o n c k ⟨3, (ra : Int), ib, ic, nn⟩ f 1 wc) := HdSt.of HP0.out HK0.out HIN.out HNE.out HMx.out (by rw [HFE.out]; exact HFC.out)
      clear HFC HMC HF4 HM4 HA4 HI4 hrg j0 j1 j2 j3 j4 x0 x1
      obtain ⟨⟨hq0, hq1, hq2⟩, hq3⟩ := HSx.out
      rw [if_neg (by omega), HFE.out] at hq2
      have hld := ld_fc hq2
      have kx := cell_of_heap_ hq1
      clear hq0 hq1 hq2 hq3
      go_upto_region 20 with fail
      obtain ⟨fn, tmps, assign, body, hy, hR⟩ := HY.out 0 ((k : Int) + 1, F) W wc (by rw [HL.out]; simp) H0.out HMx.out ⟨by rw [HL.out]; rfl, HSx.out⟩
      have HRR := Lib.hid hR
      clear hR
      refine (wpIn_wide (n := m)).1 ?_
      gi_wp2
      refine HRR.out.mono ?_
      rintro e W5 (⟨rfl, hJ, hS⟩ | ⟨rfl, hX⟩)
      · have HJ5 := Lib.hid hJ
        have HS5 := Lib.hid hS
        clear hJ hS HRR hy hld kx
        gi_wp2
        go_wp2_with fail
        exact bodyPost_ret (results_none rfl _ _ _) rfl ⟨⟨_, rfl⟩, .inl (HN2.out ▸ HJ5.out)⟩
      · have HX := Lib.hid hX
        clear hX HRR hy hld kx
        gi_wp2
        go_wp2_with fail
        exact bodyPost_ret (results_none rfl _ _ _) rfl ⟨⟨_, rfl⟩, .inr HX.out⟩
    · -- 4
      rw [show jumpB 4 = false from rfl] at hB hV
      rw [show (decide (¬ (4 : Int) = 1) && (decide (¬ (4 : Int) = 2) && decide (¬ (4 : Int) = 9))) = true from rfl] at hG
      rw [if_neg (by decide)] at hV
      have hch : hChg _ = true := show hChg 4 = true by decide
      obtain ⟨⟨⟨x1', x2'⟩, fl⟩, hres⟩ : ∃ r, resV ⟨4, (ra : Int), ib, ic, nn⟩ f.k = r := ⟨_, rfl⟩
      have HRX : Hid (∀ W, Calls Tryz.prog 432 #[.agg #[.int .u8 4, .int .u8 (ra : Int), .int .u8 ib, .int .u8 ic, .int .i64 nn], rgV f.k] W fun e w' => e = .returned (.tuple #[.agg #[.bool x1', .int .i64 x2'], .bool fl]) ∧ Below W.heap.size W w') := by
        intro W
        have := HRS.out f.k W
        unfold RsP at this
        rw [hres] at this
        exact this
      obtain ⟨F, hF9⟩ : ∃ F, hF ⟨4, (ra : Int), ib, ic, nn⟩ f = F := ⟨_, rfl⟩
      have HFE := Lib.hid hF9
      have HFX : Hid (F = ⟨f.is, setK f.k ra (x1', x2')⟩) := by
        rw [Hid, ← hF9, hF, if_pos hch]
        show (⟨f.is, setK f.k ra (resV ⟨4, (ra : Int), ib, ic, nn⟩ f.k).1⟩ : Fc) = _
        rw [hres]
      clear hF9 hch
      have HL : Hid (handL ⟨4, (ra : Int), ib, ic, nn⟩ k f = [((k : Int) + 1, hF ⟨4, (ra : Int), ib, ic, nn⟩ f)]) := by
        rw [Hid]
        simp [handL, hGo, hIs, hCnd, hB, hV, hG]
      rw [HFE.out] at HL
      rw [hB, hV, hG]
      have hN := HNN.out
      rw [HL.out] at hN
      have HN2 : Hid (_ = N) := hN
      clear hN
      clear hB hV hG
      have hrg := ld_rg (W := W4.drew) HF4.out
      go_upto_block 0 with fail
      go_cut [8, 9] from 10 (fun s8 s9 wx => s8 = .bool false ∧ s9 = .bool true ∧ Hid (FcAt wx bf F) ∧ Hid (Mod (fun g => g = bf) W4 wx))
      case first =>
        rename_i Jc Kc hJc hKc
        go_upto_region 12 with fail
        go_region_with (go_at_call 432; go_loud (refine (HRX.out _).mono ?_; rintro e w2 ⟨rfl, hb2⟩; have hm2 : Mod (fun _ => False) W4 w2 := (by first | exact Mod.of_same hb2 | exact (fun (h : Mod (fun _ => False) W4.drew w2) => ⟨h.os, h.tape, h.output, h.size, h.block⟩) (Mod.of_same hb2)); have HF2 : Hid (FcAt w2 bf f) := hm2.heap HF4.out (fun h => h); have HM2 := Lib.hid hm2; have k1 : w2.cell? ⟨W.heap.size, 1, none⟩ = some (.int .u8 (ra : Int)) := hm2.cell (fun h => h) j1; have s0 := (HF2.out.reg ra8).1; have s1 := (HF2.out.reg ra8).2; have z0 := HF2.out.frozen (1 + ra * 2); have z1 := HF2.out.frozen (1 + ra * 2 + 1); clear hb2 hm2))
        all_goals (change Kc _ _; refine hKc _ _ (Met.intro (hJc _ _ ?_)); (repeat apply Exists.intro); refine ⟨?_, rfl⟩)
        all_goals (refine ⟨rfl, rfl, ?_, ?_⟩ <;> first | (rw [HFX.out]; exact HF2.out.set ra8 (x1', x2')) | exact ((HM2.out.mono (fun _ _ h => h.elim)).trans (mod_set_ _ _ _ _)).trans (mod_set_ _ _ _ _))
      obtain ⟨rfl, rfl, HFC, HMC⟩ := hcut
      have HMx : Hid (Mod (fun g => g = bf) W wc) := HM4.out.trans HMC.out
      have HSx : Hid (HdSt bp bk bf b o n c k ⟨4, (ra : Int), ib, ic, nn⟩ f 1 wc) := HdSt.of HP0.out HK0.out HIN.out HNE.out HMx.out (by rw [HFE.out]; exact HFC.out)
      clear HFC HMC HF4 HM4 HA4 HI4 hrg j0 j1 j2 j3 j4 x0 x1
      obtain ⟨⟨hq0, hq1, hq2⟩, hq3⟩ := HSx.out
      rw [if_neg (by omega), HFE.out] at hq2
      have hld := ld_fc hq2
      have kx := cell_of_heap_ hq1
      clear hq0 hq1 hq2 hq3
      go_upto_region 20 with fail
      obtain ⟨fn, tmps, assign, body, hy, hR⟩ := HY.out 0 ((k : Int) + 1, F) W wc (by rw [HL.out]; simp) H0.out HMx.out ⟨by rw [HL.out]; rfl, HSx.out⟩
      have HRR := Lib.hid hR
      clear hR
      refine (wpIn_wide (n := m)).1 ?_
      gi_wp2
      refine HRR.out.mono ?_
      rintro e W5 (⟨rfl, hJ, hS⟩ | ⟨rfl, hX⟩)
      · have HJ5 := Lib.hid hJ
        have HS5 := Lib.hid hS
        clear hJ hS HRR hy hld kx
        gi_wp2
        go_wp2_with fail
        exact bodyPost_ret (results_none rfl _ _ _) rfl ⟨⟨_, rfl⟩, .inl (HN2.out ▸ HJ5.out)⟩
      · have HX := Lib.hid hX
        clear hX HRR hy hld kx
        gi_wp2
        go_wp2_with fail
        exact bodyPost_ret (results_none rfl _ _ _) rfl ⟨⟨_, rfl⟩, .inr HX.out⟩
    · -- 5
      rw [show jumpB 5 = false from rfl] at hB hV
      rw [show (decide (¬ (5 : Int) = 1) && (decide (¬ (5 : Int) = 2) && decide (¬ (5 : Int) = 9))) = true from rfl] at hG
      rw [if_neg (by decide)] at hV
      have hch : hChg _ = true := show hChg 5 = true by decide
      obtain ⟨⟨⟨x1', x2'⟩, fl⟩, hres⟩ : ∃ r, resV ⟨5, (ra : Int), ib, ic, nn⟩ f.k = r := ⟨_, rfl⟩
      have HRX : Hid (∀ W, Calls Tryz.prog 432 #[.agg #[.int .u8 5, .int .u8 (ra : Int), .int .u8 ib, .int .u8 ic, .int .i64 nn], rgV f.k] W fun e w' => e = .returned (.tuple #[.agg #[.bool x1', .int .i64 x2'], .bool fl]) ∧ Below W.heap.size W w') := by
        intro W
        have := HRS.out f.k W
        unfold RsP at this
        rw [hres] at this
        exact this
      obtain ⟨F, hF9⟩ : ∃ F, hF ⟨5, (ra : Int), ib, ic, nn⟩ f = F := ⟨_, rfl⟩
      have HFE := Lib.hid hF9
      have HFX : Hid (F = ⟨f.is, setK f.k ra (x1', x2')⟩) := by
        rw [Hid, ← hF9, hF, if_pos hch]
        show (⟨f.is, setK f.k ra (resV ⟨5, (ra : Int), ib, ic, nn⟩ f.k).1⟩ : Fc) = _
        rw [hres]
      clear hF9 hch
      have HL : Hid (handL ⟨5, (ra : Int), ib, ic, nn⟩ k f = [((k : Int) + 1, hF ⟨5, (ra : Int), ib, ic, nn⟩ f)]) := by
        rw [Hid]
        simp [handL, hGo, hIs, hCnd, hB, hV, hG]
      rw [HFE.out] at HL
      rw [hB, hV, hG]
      have hN := HNN.out
      rw [HL.out] at hN
      have HN2 : Hid (_ = N) := hN
      clear hN
      clear hB hV hG
      have hrg := ld_rg (W := W4.drew) HF4.out
      go_upto_block 0 with fail
      go_cut [8, 9] from 10 (fun s8 s9 wx => s8 = .bool false ∧ s9 = .bool true ∧ Hid (FcAt wx bf F) ∧ Hid (Mod (fun g => g = bf) W4 wx))
      case first =>
        rename_i Jc Kc hJc hKc
        go_upto_region 12 with fail
        go_region_with (go_at_call 432; go_loud (refine (HRX.out _).mono ?_; rintro e w2 ⟨rfl, hb2⟩; have hm2 : Mod (fun _ => False) W4 w2 := (by first | exact Mod.of_same hb2 | exact (fun (h : Mod (fun _ => False) W4.drew w2) => ⟨h.os, h.tape, h.output, h.size, h.block⟩) (Mod.of_same hb2)); have HF2 : Hid (FcAt w2 bf f) := hm2.heap HF4.out (fun h => h); have HM2 := Lib.hid hm2; have k1 : w2.cell? ⟨W.heap.size, 1, none⟩ = some (.int .u8 (ra : Int)) := hm2.cell (fun h => h) j1; have s0 := (HF2.out.reg ra8).1; have s1 := (HF2.out.reg ra8).2; have z0 := HF2.out.frozen (1 + ra * 2); have z1 := HF2.out.frozen (1 + ra * 2 + 1); clear hb2 hm2))
        all_goals (change Kc _ _; refine hKc _ _ (Met.intro (hJc _ _ ?_)); (repeat apply Exists.intro); refine ⟨?_, rfl⟩)
        all_goals (refine ⟨rfl, rfl, ?_, ?_⟩ <;> first | (rw [HFX.out]; exact HF2.out.set ra8 (x1', x2')) | exact ((HM2.out.mono (fun _ _ h => h.elim)).trans (mod_set_ _ _ _ _)).trans (mod_set_ _ _ _ _))
      obtain ⟨rfl, rfl, HFC, HMC⟩ := hcut
      have HMx : Hid (Mod (fun g => g = bf) W wc) := HM4.out.trans HMC.out
      have HSx : Hid (HdSt bp bk bf b o n c k ⟨5, (ra : Int), ib, ic, nn⟩ f 1 wc) := HdSt.of HP0.out HK0.out HIN.out HNE.out HMx.out (by rw [HFE.out]; exact HFC.out)
      clear HFC HMC HF4 HM4 HA4 HI4 hrg j0 j1 j2 j3 j4 x0 x1
      obtain ⟨⟨hq0, hq1, hq2⟩, hq3⟩ := HSx.out
      rw [if_neg (by omega), HFE.out] at hq2
      have hld := ld_fc hq2
      have kx := cell_of_heap_ hq1
      clear hq0 hq1 hq2 hq3
      go_upto_region 20 with fail
      obtain ⟨fn, tmps, assign, body, hy, hR⟩ := HY.out 0 ((k : Int) + 1, F) W wc (by rw [HL.out]; simp) H0.out HMx.out ⟨by rw [HL.out]; rfl, HSx.out⟩
      have HRR := Lib.hid hR
      clear hR
      refine (wpIn_wide (n := m)).1 ?_
      gi_wp2
      refine HRR.out.mono ?_
      rintro e W5 (⟨rfl, hJ, hS⟩ | ⟨rfl, hX⟩)
      · have HJ5 := Lib.hid hJ
        have HS5 := Lib.hid hS
        clear hJ hS HRR hy hld kx
        gi_wp2
        go_wp2_with fail
        exact bodyPost_ret (results_none rfl _ _ _) rfl ⟨⟨_, rfl⟩, .inl (HN2.out ▸ HJ5.out)⟩
      · have HX := Lib.hid hX
        clear hX HRR hy hld kx
        gi_wp2
        go_wp2_with fail
        exact bodyPost_ret (results_none rfl _ _ _) rfl ⟨⟨_, rfl⟩, .inr HX.out⟩
    · -- 6
      rw [show jumpB 6 = false from rfl] at hB hV
      rw [show (decide (¬ (6 : Int) = 1) && (decide (¬ (6 : Int) = 2) && decide (¬ (6 : Int) = 9))) = true from rfl] at hG
      rw [if_neg (by decide)] at hV
      have HL : Hid (handL ⟨6, (ra : Int), ib, ic, nn⟩ k f = [((k : Int) + 1, hF ⟨6, (ra : Int), ib, ic, nn⟩ f)]) := by
        rw [Hid]
        simp [handL, hGo, hIs, hCnd, hB, hV, hG]
      have hfe : hF ⟨6, (ra : Int), ib, ic, nn⟩ f = f := if_neg (show ¬ hChg 6 = true by decide)
      have HMx := Lib.hid HM4.out
      have HSx : Hid (HdSt bp bk bf b o n c k ⟨6, (ra : Int), ib, ic, nn⟩ f 1 W4) := HdSt.of HP0.out HK0.out HIN.out HNE.out HM4.out (by rw [hfe]; exact HF4.out)
      obtain ⟨F, hF9⟩ : ∃ F, hF ⟨6, (ra : Int), ib, ic, nn⟩ f = F := ⟨_, rfl⟩
      have HFE := Lib.hid hF9
      try rw [hF9] at HL
      clear hF9 hfe
      rw [hB, hV, hG]
      have hN := HNN.out
      rw [HL.out] at hN
      have HN2 : Hid (_ = N) := hN
      clear hN
      clear hB hV hG
      obtain ⟨⟨hq0, hq1, hq2⟩, hq3⟩ := HSx.out
      rw [if_neg (by omega), HFE.out] at hq2
      have hld := ld_fc hq2
      have kx := cell_of_heap_ hq1
      clear hq0 hq1 hq2 hq3
      go_upto_region 20 with fail
      obtain ⟨fn, tmps, assign, body, hy, hR⟩ := HY.out 0 ((k : Int) + 1, F) W W4 (by rw [HL.out]; simp) H0.out HMx.out ⟨by rw [HL.out]; rfl, HSx.out⟩
      have HRR := Lib.hid hR
      clear hR
      refine (wpIn_wide (n := m)).1 ?_
      gi_wp2
      refine HRR.out.mono ?_
      rintro e W5 (⟨rfl, hJ, hS⟩ | ⟨rfl, hX⟩)
      · have HJ5 := Lib.hid hJ
        have HS5 := Lib.hid hS
        clear hJ hS HRR hy hld kx
        gi_wp2
        go_wp2_with fail
        exact bodyPost_ret (results_none rfl _ _ _) rfl ⟨⟨_, rfl⟩, .inl (HN2.out ▸ HJ5.out)⟩
      · have HX := Lib.hid hX
        clear hX HRR hy hld kx
        gi_wp2
        go_wp2_with fail
        exact bodyPost_ret (results_none rfl _ _ _) rfl ⟨⟨_, rfl⟩, .inr HX.out⟩
    · -- 7
      rw [show jumpB 7 = false from rfl] at hB hV
      rw [show (decide (¬ (7 : Int) = 1) && (decide (¬ (7 : Int) = 2) && decide (¬ (7 : Int) = 9))) = true from rfl] at hG
      rw [if_neg (by decide)] at hV
      have hch : hChg _ = true := show hChg 7 = true by decide
      obtain ⟨⟨⟨x1', x2'⟩, fl⟩, hres⟩ : ∃ r, resV ⟨7, (ra : Int), ib, ic, nn⟩ f.k = r := ⟨_, rfl⟩
      have HRX : Hid (∀ W, Calls Tryz.prog 432 #[.agg #[.int .u8 7, .int .u8 (ra : Int), .int .u8 ib, .int .u8 ic, .int .i64 nn], rgV f.k] W fun e w' => e = .returned (.tuple #[.agg #[.bool x1', .int .i64 x2'], .bool fl]) ∧ Below W.heap.size W w') := by
        intro W
        have := HRS.out f.k W
        unfold RsP at this
        rw [hres] at this
        exact this
      obtain ⟨F, hF9⟩ : ∃ F, hF ⟨7, (ra : Int), ib, ic, nn⟩ f = F := ⟨_, rfl⟩
      have HFE := Lib.hid hF9
      have HFX : Hid (F = ⟨f.is, setK f.k ra (x1', x2')⟩) := by
        rw [Hid, ← hF9, hF, if_pos hch]
        show (⟨f.is, setK f.k ra (resV ⟨7, (ra : Int), ib, ic, nn⟩ f.k).1⟩ : Fc) = _
        rw [hres]
      clear hF9 hch
      have HL : Hid (handL ⟨7, (ra : Int), ib, ic, nn⟩ k f = [((k : Int) + 1, hF ⟨7, (ra : Int), ib, ic, nn⟩ f)]) := by
        rw [Hid]
        simp [handL, hGo, hIs, hCnd, hB, hV, hG]
      rw [HFE.out] at HL
      rw [hB, hV, hG]
      have hN := HNN.out
      rw [HL.out] at hN
      have HN2 : Hid (_ = N) := hN
      clear hN
      clear hB hV hG
      have hrg := ld_rg (W := W4.drew) HF4.out
      go_upto_block 0 with fail
      go_cut [8, 9] from 10 (fun s8 s9 wx => s8 = .bool false ∧ s9 = .bool true ∧ Hid (FcAt wx bf F) ∧ Hid (Mod (fun g => g = bf) W4 wx))
      case first =>
        rename_i Jc Kc hJc hKc
        go_upto_region 12 with fail
        go_region_with (go_at_call 432; go_loud (refine (HRX.out _).mono ?_; rintro e w2 ⟨rfl, hb2⟩; have hm2 : Mod (fun _ => False) W4 w2 := (by first | exact Mod.of_same hb2 | exact (fun (h : Mod (fun _ => False) W4.drew w2) => ⟨h.os, h.tape, h.output, h.size, h.block⟩) (Mod.of_same hb2)); have HF2 : Hid (FcAt w2 bf f) := hm2.heap HF4.out (fun h => h); have HM2 := Lib.hid hm2; have k1 : w2.cell? ⟨W.heap.size, 1, none⟩ = some (.int .u8 (ra : Int)) := hm2.cell (fun h => h) j1; have s0 := (HF2.out.reg ra8).1; have s1 := (HF2.out.reg ra8).2; have z0 := HF2.out.frozen (1 + ra * 2); have z1 := HF2.out.frozen (1 + ra * 2 + 1); clear hb2 hm2))
        all_goals (change Kc _ _; refine hKc _ _ (Met.intro (hJc _ _ ?_)); (repeat apply Exists.intro); refine ⟨?_, rfl⟩)
        all_goals (refine ⟨rfl, rfl, ?_, ?_⟩ <;> first | (rw [HFX.out]; exact HF2.out.set ra8 (x1', x2')) | exact ((HM2.out.mono (fun _ _ h => h.elim)).trans (mod_set_ _ _ _ _)).trans (mod_set_ _ _ _ _))
      obtain ⟨rfl, rfl, HFC, HMC⟩ := hcut
      have HMx : Hid (Mod (fun g => g = bf) W wc) := HM4.out.trans HMC.out
      have HSx : Hid (HdSt bp bk bf b o n c k ⟨7, (ra : Int), ib, ic, nn⟩ f 1 wc) := HdSt.of HP0.out HK0.out HIN.out HNE.out HMx.out (by rw [HFE.out]; exact HFC.out)
      clear HFC HMC HF4 HM4 HA4 HI4 hrg j0 j1 j2 j3 j4 x0 x1
      obtain ⟨⟨hq0, hq1, hq2⟩, hq3⟩ := HSx.out
      rw [if_neg (by omega), HFE.out] at hq2
      have hld := ld_fc hq2
      have kx := cell_of_heap_ hq1
      clear hq0 hq1 hq2 hq3
      go_upto_region 20 with fail
      obtain ⟨fn, tmps, assign, body, hy, hR⟩ := HY.out 0 ((k : Int) + 1, F) W wc (by rw [HL.out]; simp) H0.out HMx.out ⟨by rw [HL.out]; rfl, HSx.out⟩
      have HRR := Lib.hid hR
      clear hR
      refine (wpIn_wide (n := m)).1 ?_
      gi_wp2
      refine HRR.out.mono ?_
      rintro e W5 (⟨rfl, hJ, hS⟩ | ⟨rfl, hX⟩)
      · have HJ5 := Lib.hid hJ
        have HS5 := Lib.hid hS
        clear hJ hS HRR hy hld kx
        gi_wp2
        go_wp2_with fail
        exact bodyPost_ret (results_none rfl _ _ _) rfl ⟨⟨_, rfl⟩, .inl (HN2.out ▸ HJ5.out)⟩
      · have HX := Lib.hid hX
        clear hX HRR hy hld kx
        gi_wp2
        go_wp2_with fail
        exact bodyPost_ret (results_none rfl _ _ _) rfl ⟨⟨_, rfl⟩, .inr HX.out⟩
    · -- 8
      rw [show jumpB 8 = false from rfl] at hB hV
      rw [show (decide (¬ (8 : Int) = 1) && (decide (¬ (8 : Int) = 2) && decide (¬ (8 : Int) = 9))) = true from rfl] at hG
      rw [if_neg (by decide)] at hV
      have HL : Hid (handL ⟨8, (ra : Int), ib, ic, nn⟩ k f = [((k : Int) + 1, hF ⟨8, (ra : Int), ib, ic, nn⟩ f)]) := by
        rw [Hid]
        simp [handL, hGo, hIs, hCnd, hB, hV, hG]
      have hfe : hF ⟨8, (ra : Int), ib, ic, nn⟩ f = f := if_neg (show ¬ hChg 8 = true by decide)
      have HMx := Lib.hid HM4.out
      have HSx : Hid (HdSt bp bk bf b o n c k ⟨8, (ra : Int), ib, ic, nn⟩ f 1 W4) := HdSt.of HP0.out HK0.out HIN.out HNE.out HM4.out (by rw [hfe]; exact HF4.out)
      obtain ⟨F, hF9⟩ : ∃ F, hF ⟨8, (ra : Int), ib, ic, nn⟩ f = F := ⟨_, rfl⟩
      have HFE := Lib.hid hF9
      try rw [hF9] at HL
      clear hF9 hfe
      rw [hB, hV, hG]
      have hN := HNN.out
      rw [HL.out] at hN
      have HN2 : Hid (_ = N) := hN
      clear hN
      clear hB hV hG
      obtain ⟨⟨hq0, hq1, hq2⟩, hq3⟩ := HSx.out
      rw [if_neg (by omega), HFE.out] at hq2
      have hld := ld_fc hq2
      have kx := cell_of_heap_ hq1
      clear hq0 hq1 hq2 hq3
      go_upto_region 20 with fail
      obtain ⟨fn, tmps, assign, body, hy, hR⟩ := HY.out 0 ((k : Int) + 1, F) W W4 (by rw [HL.out]; simp) H0.out HMx.out ⟨by rw [HL.out]; rfl, HSx.out⟩
      have HRR := Lib.hid hR
      clear hR
      refine (wpIn_wide (n := m)).1 ?_
      gi_wp2
      refine HRR.out.mono ?_
      rintro e W5 (⟨rfl, hJ, hS⟩ | ⟨rfl, hX⟩)
      · have HJ5 := Lib.hid hJ
        have HS5 := Lib.hid hS
        clear hJ hS HRR hy hld kx
        gi_wp2
        go_wp2_with fail
        exact bodyPost_ret (results_none rfl _ _ _) rfl ⟨⟨_, rfl⟩, .inl (HN2.out ▸ HJ5.out)⟩
      · have HX := Lib.hid hX
        clear hX HRR hy hld kx
        gi_wp2
        go_wp2_with fail
        exact bodyPost_ret (results_none rfl _ _ _) rfl ⟨⟨_, rfl⟩, .inr HX.out⟩
    · -- 9
      rw [show jumpB 9 = true from rfl] at hB hV
      rw [show (decide (¬ (9 : Int) = 1) && (decide (¬ (9 : Int) = 2) && decide (¬ (9 : Int) = 9))) = false from rfl] at hG
      rw [if_pos rfl] at hV
      have HL : Hid (handL ⟨9, (ra : Int), ib, ic, nn⟩ k f = [(nn, hF ⟨9, (ra : Int), ib, ic, nn⟩ f)]) := by
        rw [Hid]
        simp [handL, hGo, hIs, hCnd, hB, hV, hG]
      have hfe : hF ⟨9, (ra : Int), ib, ic, nn⟩ f = f := if_neg (show ¬ hChg 9 = true by decide)
      have HMx := Lib.hid HM4.out
      have HSx : Hid (HdSt bp bk bf b o n c k ⟨9, (ra : Int), ib, ic, nn⟩ f 1 W4) := HdSt.of HP0.out HK0.out HIN.out HNE.out HM4.out (by rw [hfe]; exact HF4.out)
      obtain ⟨F, hF9⟩ : ∃ F, hF ⟨9, (ra : Int), ib, ic, nn⟩ f = F := ⟨_, rfl⟩
      have HFE := Lib.hid hF9
      try rw [hF9] at HL
      clear hF9 hfe
      rw [hB, hV, hG]
      have hN := HNN.out
      rw [HL.out] at hN
      have HN2 : Hid (_ = N) := hN
      clear hN
      clear hB hV hG
      obtain ⟨⟨hq0, hq1, hq2⟩, hq3⟩ := HSx.out
      rw [if_neg (by omega), HFE.out] at hq2
      have hld := ld_fc hq2
      have kx := cell_of_heap_ hq1
      clear hq0 hq1 hq2 hq3
      go_upto_region 22 with fail
      obtain ⟨fn, tmps, assign, body, hy, hR⟩ := HY.out 0 (nn, F) W W4 (by rw [HL.out]; simp) H0.out HMx.out ⟨by rw [HL.out]; rfl, HSx.out⟩
      have HRR := Lib.hid hR
      clear hR
      refine (wpIn_wide (n := m)).1 ?_
      gi_wp2
      refine HRR.out.mono ?_
      rintro e W5 (⟨rfl, hJ, hS⟩ | ⟨rfl, hX⟩)
      · have HJ5 := Lib.hid hJ
        have HS5 := Lib.hid hS
        clear hJ hS HRR hy hld kx
        gi_wp2
        go_wp2_with fail
        exact bodyPost_ret (results_none rfl _ _ _) rfl ⟨⟨_, rfl⟩, .inl (HN2.out ▸ HJ5.out)⟩
      · have HX := Lib.hid hX
        clear hX HRR hy hld kx
        gi_wp2
        go_wp2_with fail
        exact bodyPost_ret (results_none rfl _ _ _) rfl ⟨⟨_, rfl⟩, .inr HX.out⟩
    · -- 10
      rw [show jumpB 10 = true from rfl] at hB hV
      rw [show (decide (¬ (10 : Int) = 1) && (decide (¬ (10 : Int) = 2) && decide (¬ (10 : Int) = 9))) = true from rfl] at hG
      rw [if_pos rfl] at hV
      by_cases hkn : (f.k ra).1 = true
      · by_cases hz : (f.k ra).2 = 0
        · -- True
          have HL : Hid (handL ⟨10, (ra : Int), ib, ic, nn⟩ k f = [(nn, hF ⟨10, (ra : Int), ib, ic, nn⟩ f)]) := by
            rw [Hid]
            simp [handL, hGo, hIs, hCnd, hB, hV, hG, hkn, hz]
          have hfe : hF ⟨10, (ra : Int), ib, ic, nn⟩ f = f := if_neg (show ¬ hChg 10 = true by decide)
          have HMx := Lib.hid HM4.out
          have HSx : Hid (HdSt bp bk bf b o n c k ⟨10, (ra : Int), ib, ic, nn⟩ f 1 W4) := HdSt.of HP0.out HK0.out HIN.out HNE.out HM4.out (by rw [hfe]; exact HF4.out)
          obtain ⟨F, hF9⟩ : ∃ F, hF ⟨10, (ra : Int), ib, ic, nn⟩ f = F := ⟨_, rfl⟩
          have HFE := Lib.hid hF9
          try rw [hF9] at HL
          clear hF9 hfe
          rw [hB, hV, hG]
          have hN := HNN.out
          rw [HL.out] at hN
          have HN2 : Hid (_ = N) := hN
          clear hN
          clear hB hV hG
          have hzb : ((f.k ra).2 == 0) = true := by simpa using hz
          clear hz
          rw [hkn] at x0
          clear hkn
          obtain ⟨⟨hq0, hq1, hq2⟩, hq3⟩ := HSx.out
          rw [if_neg (by omega), HFE.out] at hq2
          have hld := ld_fc hq2
          have kx := cell_of_heap_ hq1
          clear hq0 hq1 hq2 hq3
          go_upto_region 22 with fail
          obtain ⟨fn, tmps, assign, body, hy, hR⟩ := HY.out 0 (nn, F) W W4 (by rw [HL.out]; simp) H0.out HMx.out ⟨by rw [HL.out]; rfl, HSx.out⟩
          have HRR := Lib.hid hR
          clear hR
          refine (wpIn_wide (n := m)).1 ?_
          gi_wp2
          refine HRR.out.mono ?_
          rintro e W5 (⟨rfl, hJ, hS⟩ | ⟨rfl, hX⟩)
          · have HJ5 := Lib.hid hJ
            have HS5 := Lib.hid hS
            clear hJ hS HRR hy hld kx
            gi_wp2
            go_wp2_with fail
            exact bodyPost_ret (results_none rfl _ _ _) rfl ⟨⟨_, rfl⟩, .inl (HN2.out ▸ HJ5.out)⟩
          · have HX := Lib.hid hX
            clear hX HRR hy hld kx
            gi_wp2
            go_wp2_with fail
            exact bodyPost_ret (results_none rfl _ _ _) rfl ⟨⟨_, rfl⟩, .inr HX.out⟩
        · -- False
          have HL : Hid (handL ⟨10, (ra : Int), ib, ic, nn⟩ k f = [((k : Int) + 1, hF ⟨10, (ra : Int), ib, ic, nn⟩ f)]) := by
            rw [Hid]
            simp [handL, hGo, hIs, hCnd, hB, hV, hG, hkn, hz]
          have hfe : hF ⟨10, (ra : Int), ib, ic, nn⟩ f = f := if_neg (show ¬ hChg 10 = true by decide)
          have HMx := Lib.hid HM4.out
          have HSx : Hid (HdSt bp bk bf b o n c k ⟨10, (ra : Int), ib, ic, nn⟩ f 1 W4) := HdSt.of HP0.out HK0.out HIN.out HNE.out HM4.out (by rw [hfe]; exact HF4.out)
          obtain ⟨F, hF9⟩ : ∃ F, hF ⟨10, (ra : Int), ib, ic, nn⟩ f = F := ⟨_, rfl⟩
          have HFE := Lib.hid hF9
          try rw [hF9] at HL
          clear hF9 hfe
          rw [hB, hV, hG]
          have hN := HNN.out
          rw [HL.out] at hN
          have HN2 : Hid (_ = N) := hN
          clear hN
          clear hB hV hG
          have hzb : ((f.k ra).2 == 0) = false := by simpa using hz
          clear hz
          rw [hkn] at x0
          clear hkn
          obtain ⟨⟨hq0, hq1, hq2⟩, hq3⟩ := HSx.out
          rw [if_neg (by omega), HFE.out] at hq2
          have hld := ld_fc hq2
          have kx := cell_of_heap_ hq1
          clear hq0 hq1 hq2 hq3
          go_upto_region 20 with fail
          obtain ⟨fn, tmps, assign, body, hy, hR⟩ := HY.out 0 ((k : Int) + 1, F) W W4 (by rw [HL.out]; simp) H0.out HMx.out ⟨by rw [HL.out]; rfl, HSx.out⟩
          have HRR := Lib.hid hR
          clear hR
          refine (wpIn_wide (n := m)).1 ?_
          gi_wp2
          refine HRR.out.mono ?_
          rintro e W5 (⟨rfl, hJ, hS⟩ | ⟨rfl, hX⟩)
          · have HJ5 := Lib.hid hJ
            have HS5 := Lib.hid hS
            clear hJ hS HRR hy hld kx
            gi_wp2
            go_wp2_with fail
            exact bodyPost_ret (results_none rfl _ _ _) rfl ⟨⟨_, rfl⟩, .inl (HN2.out ▸ HJ5.out)⟩
          · have HX := Lib.hid hX
            clear hX HRR hy hld kx
            gi_wp2
            go_wp2_with fail
            exact bodyPost_ret (results_none rfl _ _ _) rfl ⟨⟨_, rfl⟩, .inr HX.out⟩
      · have hkf : (f.k ra).1 = false := by simpa using hkn
        clear hkn
        have HL : Hid (handL ⟨10, (ra : Int), ib, ic, nn⟩ k f = [((k : Int) + 1, hF ⟨10, (ra : Int), ib, ic, nn⟩ f), (nn, hF ⟨10, (ra : Int), ib, ic, nn⟩ f)]) := by
          rw [Hid]
          simp [handL, hGo, hIs, hCnd, hB, hV, hG, hkf]
        have hfe : hF ⟨10, (ra : Int), ib, ic, nn⟩ f = f := if_neg (show ¬ hChg 10 = true by decide)
        have HMx := Lib.hid HM4.out
        have HSx : Hid (HdSt bp bk bf b o n c k ⟨10, (ra : Int), ib, ic, nn⟩ f 1 W4) := HdSt.of HP0.out HK0.out HIN.out HNE.out HM4.out (by rw [hfe]; exact HF4.out)
        obtain ⟨F, hF9⟩ : ∃ F, hF ⟨10, (ra : Int), ib, ic, nn⟩ f = F := ⟨_, rfl⟩
        have HFE := Lib.hid hF9
        try rw [hF9] at HL
        clear hF9 hfe
        rw [hB, hV, hG]
        have hN := HNN.out
        rw [HL.out] at hN
        have HN2 : Hid (_ = N) := hN
        clear hN
        clear hB hV hG
        rw [hkf] at x0
        clear hkf
        obtain ⟨⟨hq0, hq1, hq2⟩, hq3⟩ := HSx.out
        rw [if_neg (by omega), HFE.out] at hq2
        have hld := ld_fc hq2
        have kx := cell_of_heap_ hq1
        clear hq0 hq1 hq2 hq3
        go_upto_region 20 with fail
        obtain ⟨fn, tmps, assign, body, hy, hR⟩ := HY.out 0 ((k : Int) + 1, F) W W4 (by rw [HL.out]; simp) H0.out HMx.out ⟨by rw [HL.out]; rfl, HSx.out⟩
        have HRR := Lib.hid hR
        clear hR
        refine (wpIn_wide (n := m)).1 ?_
        gi_wp2
        refine HRR.out.mono ?_
        rintro e W5 (⟨rfl, hJ, hS⟩ | ⟨rfl, hX⟩)
        · have HJ5 := Lib.hid hJ
          have HS5 := Lib.hid hS
          clear hJ hS HRR hy hld kx
          gi_wp2
          obtain ⟨⟨hq0, hq1, hq2⟩, hq3⟩ := HS5.out
          rw [if_neg (by omega), HFE.out] at hq2
          have hld := ld_fc hq2
          have kx := cell_of_heap_ hq1
          clear hq0 hq1 hq2 hq3
          go_upto_region 22 with fail
          obtain ⟨fn, tmps, assign, body, hy, hR⟩ := HY.out 1 (nn, F) W5 W5 (by rw [HL.out]; simp) HJ5.out (Mod.refl _ _) ⟨by rw [HL.out]; rfl, HS5.out⟩
          have HRR := Lib.hid hR
          clear hR
          refine (wpIn_wide (n := m)).1 ?_
          gi_wp2
          refine HRR.out.mono ?_
          rintro e W6 (⟨rfl, hJ, hS⟩ | ⟨rfl, hX⟩)
          · have HJ6 := Lib.hid hJ
            have HS6 := Lib.hid hS
            clear hJ hS HRR hy hld kx
            gi_wp2
            go_wp2_with fail
            exact bodyPost_ret (results_none rfl _ _ _) rfl ⟨⟨_, rfl⟩, .inl (HN2.out ▸ HJ6.out)⟩
          · have HX := Lib.hid hX
            clear hX HRR hy hld kx
            gi_wp2
            go_wp2_with fail
            exact bodyPost_ret (results_none rfl _ _ _) rfl ⟨⟨_, rfl⟩, .inr HX.out⟩
        · have HX := Lib.hid hX
          clear hX HRR hy hld kx
          gi_wp2
          go_wp2_with fail
          exact bodyPost_ret (results_none rfl _ _ _) rfl ⟨⟨_, rfl⟩, .inr HX.out⟩
    · -- 11
      rw [show jumpB 11 = true from rfl] at hB hV
      rw [show (decide (¬ (11 : Int) = 1) && (decide (¬ (11 : Int) = 2) && decide (¬ (11 : Int) = 9))) = true from rfl] at hG
      rw [if_pos rfl] at hV
      by_cases hkn : (f.k ra).1 = true
      · by_cases hz : (f.k ra).2 < 0
        · -- True
          have HL : Hid (handL ⟨11, (ra : Int), ib, ic, nn⟩ k f = [(nn, hF ⟨11, (ra : Int), ib, ic, nn⟩ f)]) := by
            rw [Hid]
            simp [handL, hGo, hIs, hCnd, hB, hV, hG, hkn, hz]
          have hfe : hF ⟨11, (ra : Int), ib, ic, nn⟩ f = f := if_neg (show ¬ hChg 11 = true by decide)
          have HMx := Lib.hid HM4.out
          have HSx : Hid (HdSt bp bk bf b o n c k ⟨11, (ra : Int), ib, ic, nn⟩ f 1 W4) := HdSt.of HP0.out HK0.out HIN.out HNE.out HM4.out (by rw [hfe]; exact HF4.out)
          obtain ⟨F, hF9⟩ : ∃ F, hF ⟨11, (ra : Int), ib, ic, nn⟩ f = F := ⟨_, rfl⟩
          have HFE := Lib.hid hF9
          try rw [hF9] at HL
          clear hF9 hfe
          rw [hB, hV, hG]
          have hN := HNN.out
          rw [HL.out] at hN
          have HN2 : Hid (_ = N) := hN
          clear hN
          clear hB hV hG
          have hzb : decide ((f.k ra).2 < 0) = true := by simpa using hz
          rw [hkn] at x0
          clear hkn
          obtain ⟨⟨hq0, hq1, hq2⟩, hq3⟩ := HSx.out
          rw [if_neg (by omega), HFE.out] at hq2
          have hld := ld_fc hq2
          have kx := cell_of_heap_ hq1
          clear hq0 hq1 hq2 hq3
          go_upto_region 22 with fail
          obtain ⟨fn, tmps, assign, body, hy, hR⟩ := HY.out 0 (nn, F) W W4 (by rw [HL.out]; simp) H0.out HMx.out ⟨by rw [HL.out]; rfl, HSx.out⟩
          have HRR := Lib.hid hR
          clear hR
          refine (wpIn_wide (n := m)).1 ?_
          gi_wp2
          refine HRR.out.mono ?_
          rintro e W5 (⟨rfl, hJ, hS⟩ | ⟨rfl, hX⟩)
          · have HJ5 := Lib.hid hJ
            have HS5 := Lib.hid hS
            clear hJ hS HRR hy hld kx
            gi_wp2
            go_wp2_with fail
            exact bodyPost_ret (results_none rfl _ _ _) rfl ⟨⟨_, rfl⟩, .inl (HN2.out ▸ HJ5.out)⟩
          · have HX := Lib.hid hX
            clear hX HRR hy hld kx
            gi_wp2
            go_wp2_with fail
            exact bodyPost_ret (results_none rfl _ _ _) rfl ⟨⟨_, rfl⟩, .inr HX.out⟩
        · -- False
          have HL : Hid (handL ⟨11, (ra : Int), ib, ic, nn⟩ k f = [((k : Int) + 1, hF ⟨11, (ra : Int), ib, ic, nn⟩ f)]) := by
            rw [Hid]
            simp [handL, hGo, hIs, hCnd, hB, hV, hG, hkn, hz]
          have hfe : hF ⟨11, (ra : Int), ib, ic, nn⟩ f = f := if_neg (show ¬ hChg 11 = true by decide)
          have HMx := Lib.hid HM4.out
          have HSx : Hid (HdSt bp bk bf b o n c k ⟨11, (ra : Int), ib, ic, nn⟩ f 1 W4) := HdSt.of HP0.out HK0.out HIN.out HNE.out HM4.out (by rw [hfe]; exact HF4.out)
          obtain ⟨F, hF9⟩ : ∃ F, hF ⟨11, (ra : Int), ib, ic, nn⟩ f = F := ⟨_, rfl⟩
          have HFE := Lib.hid hF9
          try rw [hF9] at HL
          clear hF9 hfe
          rw [hB, hV, hG]
          have hN := HNN.out
          rw [HL.out] at hN
          have HN2 : Hid (_ = N) := hN
          clear hN
          clear hB hV hG
          have hzb : decide ((f.k ra).2 < 0) = false := by simpa using hz
          rw [hkn] at x0
          clear hkn
          obtain ⟨⟨hq0, hq1, hq2⟩, hq3⟩ := HSx.out
          rw [if_neg (by omega), HFE.out] at hq2
          have hld := ld_fc hq2
          have kx := cell_of_heap_ hq1
          clear hq0 hq1 hq2 hq3
          go_upto_region 20 with fail
          obtain ⟨fn, tmps, assign, body, hy, hR⟩ := HY.out 0 ((k : Int) + 1, F) W W4 (by rw [HL.out]; simp) H0.out HMx.out ⟨by rw [HL.out]; rfl, HSx.out⟩
          have HRR := Lib.hid hR
          clear hR
          refine (wpIn_wide (n := m)).1 ?_
          gi_wp2
          refine HRR.out.mono ?_
          rintro e W5 (⟨rfl, hJ, hS⟩ | ⟨rfl, hX⟩)
          · have HJ5 := Lib.hid hJ
            have HS5 := Lib.hid hS
            clear hJ hS HRR hy hld kx
            gi_wp2
            go_wp2_with fail
            exact bodyPost_ret (results_none rfl _ _ _) rfl ⟨⟨_, rfl⟩, .inl (HN2.out ▸ HJ5.out)⟩
          · have HX := Lib.hid hX
            clear hX HRR hy hld kx
            gi_wp2
            go_wp2_with fail
            exact bodyPost_ret (results_none rfl _ _ _) rfl ⟨⟨_, rfl⟩, .inr HX.out⟩
      · have hkf : (f.k ra).1 = false := by simpa using hkn
        clear hkn
        have HL : Hid (handL ⟨11, (ra : Int), ib, ic, nn⟩ k f = [((k : Int) + 1, hF ⟨11, (ra : Int), ib, ic, nn⟩ f), (nn, hF ⟨11, (ra : Int), ib, ic, nn⟩ f)]) := by
          rw [Hid]
          simp [handL, hGo, hIs, hCnd, hB, hV, hG, hkf]
        have hfe : hF ⟨11, (ra : Int), ib, ic, nn⟩ f = f := if_neg (show ¬ hChg 11 = true by decide)
        have HMx := Lib.hid HM4.out
        have HSx : Hid (HdSt bp bk bf b o n c k ⟨11, (ra : Int), ib, ic, nn⟩ f 1 W4) := HdSt.of HP0.out HK0.out HIN.out HNE.out HM4.out (by rw [hfe]; exact HF4.out)
        obtain ⟨F, hF9⟩ : ∃ F, hF ⟨11, (ra : Int), ib, ic, nn⟩ f = F := ⟨_, rfl⟩
        have HFE := Lib.hid hF9
        try rw [hF9] at HL
        clear hF9 hfe
        rw [hB, hV, hG]
        have hN := HNN.out
        rw [HL.out] at hN
        have HN2 : Hid (_ = N) := hN
        clear hN
        clear hB hV hG
        rw [hkf] at x0
        clear hkf
        obtain ⟨⟨hq0, hq1, hq2⟩, hq3⟩ := HSx.out
        rw [if_neg (by omega), HFE.out] at hq2
        have hld := ld_fc hq2
        have kx := cell_of_heap_ hq1
        clear hq0 hq1 hq2 hq3
        go_upto_region 20 with fail
        obtain ⟨fn, tmps, assign, body, hy, hR⟩ := HY.out 0 ((k : Int) + 1, F) W W4 (by rw [HL.out]; simp) H0.out HMx.out ⟨by rw [HL.out]; rfl, HSx.out⟩
        have HRR := Lib.hid hR
        clear hR
        refine (wpIn_wide (n := m)).1 ?_
        gi_wp2
        refine HRR.out.mono ?_
        rintro e W5 (⟨rfl, hJ, hS⟩ | ⟨rfl, hX⟩)
        · have HJ5 := Lib.hid hJ
          have HS5 := Lib.hid hS
          clear hJ hS HRR hy hld kx
          gi_wp2
          obtain ⟨⟨hq0, hq1, hq2⟩, hq3⟩ := HS5.out
          rw [if_neg (by omega), HFE.out] at hq2
          have hld := ld_fc hq2
          have kx := cell_of_heap_ hq1
          clear hq0 hq1 hq2 hq3
          go_upto_region 22 with fail
          obtain ⟨fn, tmps, assign, body, hy, hR⟩ := HY.out 1 (nn, F) W5 W5 (by rw [HL.out]; simp) HJ5.out (Mod.refl _ _) ⟨by rw [HL.out]; rfl, HS5.out⟩
          have HRR := Lib.hid hR
          clear hR
          refine (wpIn_wide (n := m)).1 ?_
          gi_wp2
          refine HRR.out.mono ?_
          rintro e W6 (⟨rfl, hJ, hS⟩ | ⟨rfl, hX⟩)
          · have HJ6 := Lib.hid hJ
            have HS6 := Lib.hid hS
            clear hJ hS HRR hy hld kx
            gi_wp2
            go_wp2_with fail
            exact bodyPost_ret (results_none rfl _ _ _) rfl ⟨⟨_, rfl⟩, .inl (HN2.out ▸ HJ6.out)⟩
          · have HX := Lib.hid hX
            clear hX HRR hy hld kx
            gi_wp2
            go_wp2_with fail
            exact bodyPost_ret (results_none rfl _ _ _) rfl ⟨⟨_, rfl⟩, .inr HX.out⟩
        · have HX := Lib.hid hX
          clear hX HRR hy hld kx
          gi_wp2
          go_wp2_with fail
          exact bodyPost_ret (results_none rfl _ _ _) rfl ⟨⟨_, rfl⟩, .inr HX.out⟩
  · -- more than 32
    have ho3 : (op == 3) = false := by simp; omega
    have ho4 : (op == 4) = false := by simp; omega
    have ho5 : (op == 5) = false := by simp; omega
    have ho7 : (op == 7) = false := by simp; omega
    have ho6 : (op == 6) = false := by simp; omega
    have ho8 : (op == 8) = false := by simp; omega
    have ho10 : (op == 10) = false := by simp; omega
    have ho11 : (op == 11) = false := by simp; omega
    have ho32 : 32 < op := hop.1
    have hj : jumpB op = false := decide_eq_false (by omega)
    have hg : (decide (¬ op = 1) && (decide (¬ op = 2) && decide (¬ op = 9))) = true := by
      rw [decide_eq_true (by omega), decide_eq_true (by omega), decide_eq_true (by omega)]; rfl
    have hc0 : hCnd ⟨op, (ra : Int), ib, ic, nn⟩ f = false := decide_eq_false (by simp only; omega)
    rw [hj] at hB hV
    rw [hg] at hG
    rw [if_neg (by decide)] at hV
    clear hj hg hop
    have hch : hChg op = true := decide_eq_true (by omega)
    obtain ⟨⟨⟨x1', x2'⟩, fl⟩, hres⟩ : ∃ r, resV ⟨op, (ra : Int), ib, ic, nn⟩ f.k = r := ⟨_, rfl⟩
    have HRX : Hid (∀ W, Calls Tryz.prog 432 #[.agg #[.int .u8 op, .int .u8 (ra : Int), .int .u8 ib, .int .u8 ic, .int .i64 nn], rgV f.k] W fun e w' => e = .returned (.tuple #[.agg #[.bool x1', .int .i64 x2'], .bool fl]) ∧ Below W.heap.size W w') := by
      intro W
      have := HRS.out f.k W
      unfold RsP at this
      rw [hres] at this
      exact this
    obtain ⟨F, hF9⟩ : ∃ F, hF ⟨op, (ra : Int), ib, ic, nn⟩ f = F := ⟨_, rfl⟩
    have HFE := Lib.hid hF9
    have HFX : Hid (F = ⟨f.is, setK f.k ra (x1', x2')⟩) := by
      rw [Hid, ← hF9, hF, if_pos hch]
      show (⟨f.is, setK f.k ra (resV ⟨op, (ra : Int), ib, ic, nn⟩ f.k).1⟩ : Fc) = _
      rw [hres]
    clear hF9 hch
    have HL : Hid (handL ⟨op, (ra : Int), ib, ic, nn⟩ k f = if fl = true then [((k : Int) + 1, F)] else []) := by
      rw [Hid, ← HFE.out]
      simp [handL, hGo, hIs, hc0, hB, ho32, hres]
    clear hres hc0
    rw [hB, hV, hG]
    clear hB hV hG
    cases fl with
    | true =>
      simp only [if_true] at HL
      have hN := HNN.out
      rw [HL.out] at hN
      have HN2 : Hid (_ = N) := hN
      clear hN
      have hrg := ld_rg (W := W4.drew) HF4.out
      go_upto_block 0 with fail
      go_cut [8, 9] from 10 (fun s8 s9 wx => s8 = .bool false ∧ s9 = .bool true ∧ Hid (FcAt wx bf F) ∧ Hid (Mod (fun g => g = bf) W4 wx))
      case first =>
        rename_i Jc Kc hJc hKc
        go_upto_region 6 with fail
        go_region_with (go_at_call 432; go_loud (refine (HRX.out _).mono ?_; rintro e w2 ⟨rfl, hb2⟩; have hm2 : Mod (fun _ => False) W4 w2 := (by first | exact Mod.of_same hb2 | exact (fun (h : Mod (fun _ => False) W4.drew w2) => ⟨h.os, h.tape, h.output, h.size, h.block⟩) (Mod.of_same hb2)); have HF2 : Hid (FcAt w2 bf f) := hm2.heap HF4.out (fun h => h); have HM2 := Lib.hid hm2; have k1 : w2.cell? ⟨W.heap.size, 1, none⟩ = some (.int .u8 (ra : Int)) := hm2.cell (fun h => h) j1; have s0 := (HF2.out.reg ra8).1; have s1 := (HF2.out.reg ra8).2; have z0 := HF2.out.frozen (1 + ra * 2); have z1 := HF2.out.frozen (1 + ra * 2 + 1); clear hb2 hm2))
        all_goals (go_wp2_with fail; go_meet)
        all_goals (refine ⟨rfl, rfl, ?_, ?_⟩ <;> first | (rw [HFX.out]; exact HF2.out.set ra8 (x1', x2')) | exact ((HM2.out.mono (fun _ _ h => h.elim)).trans (mod_set_ _ _ _ _)).trans (mod_set_ _ _ _ _))
      obtain ⟨rfl, rfl, HFC, HMC⟩ := hcut
      have HMx : Hid (Mod (fun g => g = bf) W wc) := HM4.out.trans HMC.out
      have HSx : Hid (HdSt bp bk bf b o n c k ⟨op, (ra : Int), ib, ic, nn⟩ f 1 wc) := HdSt.of HP0.out HK0.out HIN.out HNE.out HMx.out (by rw [HFE.out]; exact HFC.out)
      clear HFC HMC HF4 HM4 HA4 HI4 hrg j0 j1 j2 j3 j4 x0 x1
      obtain ⟨⟨hq0, hq1, hq2⟩, hq3⟩ := HSx.out
      rw [if_neg (by omega), HFE.out] at hq2
      have hld := ld_fc hq2
      have kx := cell_of_heap_ hq1
      clear hq0 hq1 hq2 hq3
      go_upto_region 20 with fail
      obtain ⟨fn, tmps, assign, body, hy, hR⟩ := HY.out 0 ((k : Int) + 1, F) W wc (by rw [HL.out]; simp) H0.out HMx.out ⟨by rw [HL.out]; rfl, HSx.out⟩
      have HRR := Lib.hid hR
      clear hR
      refine (wpIn_wide (n := m)).1 ?_
      gi_wp2
      refine HRR.out.mono ?_
      rintro e W5 (⟨rfl, hJ, hS⟩ | ⟨rfl, hX⟩)
      · have HJ5 := Lib.hid hJ
        have HS5 := Lib.hid hS
        clear hJ hS HRR hy hld kx
        gi_wp2
        go_wp2_with fail
        exact bodyPost_ret (results_none rfl _ _ _) rfl ⟨⟨_, rfl⟩, .inl (HN2.out ▸ HJ5.out)⟩
      · have HX := Lib.hid hX
        clear hX HRR hy hld kx
        gi_wp2
        go_wp2_with fail
        exact bodyPost_ret (results_none rfl _ _ _) rfl ⟨⟨_, rfl⟩, .inr HX.out⟩
    | false =>
      simp only [Bool.false_eq_true, if_false] at HL
      have hN := HNN.out
      rw [HL.out] at hN
      have HN2 : Hid (_ = N) := hN
      clear hN
      have hrg := ld_rg (W := W4.drew) HF4.out
      go_upto_region 6 with fail
      go_region_with (go_at_call 432; go_loud (refine (HRX.out _).mono ?_; rintro e w2 ⟨rfl, hb2⟩; have hm2 : Mod (fun _ => False) W4 w2 := (by first | exact Mod.of_same hb2 | exact (fun (h : Mod (fun _ => False) W4.drew w2) => ⟨h.os, h.tape, h.output, h.size, h.block⟩) (Mod.of_same hb2)); have HF2 : Hid (FcAt w2 bf f) := hm2.heap HF4.out (fun h => h); have HM2 := Lib.hid hm2; have k1 : w2.cell? ⟨W.heap.size, 1, none⟩ = some (.int .u8 (ra : Int)) := hm2.cell (fun h => h) j1; have s0 := (HF2.out.reg ra8).1; have s1 := (HF2.out.reg ra8).2; have z0 := HF2.out.frozen (1 + ra * 2); have z1 := HF2.out.frozen (1 + ra * 2 + 1); clear hb2 hm2))
      all_goals go_wp2_with fail
      all_goals exact bodyPost_ret (results_none rfl _ _ _) rfl ⟨⟨_, rfl⟩, .inl (HN2.out ▸ HJ.out 0 W _ H0.out (HM4.out.trans (((HM2.out.mono (fun _ _ h => h.elim)).trans (mod_set_ _ _ _ _)).trans (mod_set_ _ _ _ _))))⟩
end Eng
end Go.Proofs.YtdfmgneicdpjmaaGreat
