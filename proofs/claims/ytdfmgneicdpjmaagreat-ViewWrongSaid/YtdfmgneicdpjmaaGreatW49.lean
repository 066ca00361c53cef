import Derived.Test.YtdfmgneicdpjmaaGreatW48
import Derived.Test.YtdfmgneicdpjmaaGreatW47
namespace Go.Proofs.YtdfmgneicdpjmaaGreat
open Go.RowKit Go.Shelf
set_option linter.unusedVariables false
set_option linter.unusedSimpArgs false
set_option maxRecDepth 100000
namespace View
open Resp
end View
end Go.Proofs.YtdfmgneicdpjmaaGreat

namespace Go.Proofs.YtdfmgneicdpjmaaGreat
open Go.RowKit Go.Shelf
set_option linter.unusedVariables false
set_option linter.unusedSimpArgs false
namespace View
open Resp
end View
end Go.Proofs.YtdfmgneicdpjmaaGreat

namespace Go.Proofs.YtdfmgneicdpjmaaGreat
open Go.RowKit Go.Shelf
set_option linter.unusedVariables false
set_option linter.unusedSimpArgs false
set_option maxRecDepth 100000
namespace View
open Resp
def b7 : ByteArray := ⟨#[7]⟩
def b8 : ByteArray := ⟨#[8]⟩
def exL : List Ent := [⟨1, 0, 0, b7⟩, ⟨2, 0, 0, ByteArray.empty⟩, ⟨1, 1, 0, b8⟩, ⟨3, 0, 3, ByteArray.empty⟩, ⟨2, 0, 0, ByteArray.empty⟩]
def exC : List Ent := [⟨1, 0, 0, b7⟩, ⟨2, 0, 0, ByteArray.empty⟩, ⟨2, 0, 0, ByteArray.empty⟩]
def exD : List Ent := [⟨1, 1, 0, b8⟩, ⟨3, 0, 3, ByteArray.empty⟩]
theorem ex_wrg0 : wrg1 0 exL = 0 := by decide +kernel
theorem ex_wrg1 : wrg1 1 exL = 0 := by decide +kernel
theorem ex_mv0 : (mv 2 0 exL).2 = [(false, b7), (true, ByteArray.empty)] := by decide +kernel
theorem ex_mv1 : (mv 2 1 exL).2 = [(false, b8), (true, ByteArray.empty)] := by decide +kernel
theorem ex_alone : exL.filter (aloneP 0) = exC := by decide +kernel
theorem ex_others : exL.filter (othersP 0) = exD := by decide +kernel
theorem ex_mix : mixP 0 exC (exD.zip [2, 2]) = exL := by decide +kernel
theorem ex_cd : wrg2 0 exC exD = 0 ∧ atOk 3 2 [2, 2] = true := by decide +kernel
theorem ex_lc : wrg2 0 exL exC = 0 ∧ wrg2 1 exL exC = 0 := by decide +kernel
theorem ex_alike : decide ((mv 2 0 exL).2 = (mv 2 0 exC).2) = true := by decide +kernel
theorem ex_agree : decide (framesL 1 exL = framesL 1 exC) = false := by decide +kernel
theorem ex_check : chkI exL = -1 ∧ chkE exL = 0 := by decide +kernel
theorem str_lit_ {W : World} {g : Nat} {z : Int} {T : TypeId} (h : W.heap[g]? = some (.cells #[.int .u8 z] T)) : StrAt W (.slice (some ⟨g, 0, none⟩) 1 1) (strOfNums [z]) := ⟨[z], reads_one_ (cell_of_heap_ h), rfl⟩
theorem scr_lit_ {W : World} {B : Nat} {T : TypeId} {cs : Array Value} (l : List (Ent × Value)) (hB : W.heap[B]? = some (.cells cs T)) (hc : cs = (entCs l).toArray) (hs : ∀ x ∈ l, StrAt W x.2 x.1.bytes) : ScrAt W (some ⟨B, 0, none⟩) l.length (l.map (·.1)) := by
 refine ⟨by simp, fun i e he => ⟨B, 0, rfl, ?_⟩⟩
 have hi : i < l.length := by have := (List.getElem?_eq_some_iff.1 he).1; simpa using this
 rw [List.getElem?_map, List.getElem?_eq_getElem hi] at he
 injection he with he
 subst he
 have hcell : ∀ j u, j < 4 → (entC l[i].1 l[i].2)[j]? = some u → W.cell? ⟨B, 0 + i * 4 + j, none⟩ = some u := by
   intro j u hj hu
   rw [← entCs_at hi hj] at hu
   subst hc
   rw [Nat.zero_add]
   simp [World.cell?, hB]; simpa using hu
 exact ⟨l[i].2, hcell 0 _ (by omega) rfl, hcell 1 _ (by omega) rfl, hcell 2 _ (by omega) rfl, hcell 3 _ (by omega) rfl, hs _ (List.getElem_mem hi)⟩
theorem mv_two_ {W : World} {base : Nat} {v : Value} {l : List ((Bool × ByteArray) × Value)} {f : ByteArray} (h : OMv W base v l) (hl : l.map Prod.fst = [(false, f), (true, ByteArray.empty)]) : ∃ g c v1, v = .slice (some ⟨g, 0, none⟩) 2 c ∧ g < W.heap.size ∧ W.cell? ⟨g, 0, none⟩ = some (.bool false) ∧ W.cell? ⟨g, 1, none⟩ = some v1 ∧ StrAt W v1 f ∧ W.cell? ⟨g, 2, none⟩ = some (.bool true) := by
 rcases l with _ | ⟨⟨m1, v1⟩, _ | ⟨⟨m2, v2⟩, _ | ⟨y, t⟩⟩⟩
 · simp at hl
 · simp at hl
 · simp at hl
   obtain ⟨rfl, rfl⟩ := hl
   obtain ⟨a, c, rfl⟩ := ownsRow_form h.1
   obtain ⟨g, rfl, -, ⟨cur, hg⟩, -, -, hcell⟩ := owns_parts h.1 (by simp)
   exact ⟨g, c, v1, rfl, (Array.getElem?_eq_some_iff.1 hg).1, hcell 0 _ rfl, hcell 1 _ rfl, (h.2.1 _ List.mem_cons_self).str, hcell 2 _ rfl⟩
 · simp at hl
theorem reads_two_ {W : World} {g c : Nat} {k : IntKind} {y z : Int} {T : TypeId} (h : W.heap[g]? = some (.cells #[.int k y, .int k z] T)) : Reads k W (.slice (some ⟨g, 0, none⟩) 2 c) [y, z] :=
 .inr ⟨g, 0, c, rfl, by unfold maxLen; simp, fun i hi => by
   have : i = 0 ∨ i = 1 := by have : i < 2 := hi; omega
   rcases this with rfl | rfl <;> simp [World.cell?, h]⟩
set_option maxHeartbeats 4000000 in
theorem awake42 (W : World) : Calls Tryz.prog 17 #[] W fun e w' => e = .returned (.bool true) ∧ Below W.heap.size W w' := by
 go_enter Tryz.func17, Tryz.ntmps17
 go_wp2_with fail
 have hb0 : Below W.heap.size W (W.alloc (.cells #[.int .u8 7] 5)) := (Below.refl _ _).alloc (Nat.le_refl _) _
 have h70 := World.alloc_heap_new W (.cells #[.int .u8 7] 5)
 generalize W.alloc (.cells #[.int .u8 7] 5) = W0 at *
 refine (frame_any 0 _ 1 1 W0).mono ?_; rintro e W1 ⟨rfl, hb1⟩
 have H71 := Lib.hid ((hb1.block _ (Array.getElem?_eq_some_iff.1 h70).1).trans h70)
 have HB1 := Lib.hid (below_step_ hb0 hb1)
 clear hb0 h70 hb1
 go_wp2_with fail
 refine (tick_any W1).mono ?_; rintro e W2 ⟨rfl, hb2⟩
 have H72 := Lib.hid ((hb2.block _ (Array.getElem?_eq_some_iff.1 H71.out).1).trans H71.out)
 have HB2 := Lib.hid (below_step_ HB1.out hb2)
 clear HB1 H71 hb2
 go_wp2_with fail
 have hb3 : Below W.heap.size W (W2.alloc (.cells #[.int .u8 8] 5)) := HB2.out.alloc HB2.out.size _
 have h83 := World.alloc_heap_new W2 (.cells #[.int .u8 8] 5)
 have h73 := (Below.heap_alloc W2 (.cells #[.int .u8 8] 5) _ (Array.getElem?_eq_some_iff.1 H72.out).1).trans H72.out
 generalize W2.alloc (.cells #[.int .u8 8] 5) = W3 at *
 have X7 := (Array.getElem?_eq_some_iff.1 h73).1
 have X8 := (Array.getElem?_eq_some_iff.1 h83).1
 generalize W2.heap.size = B8 at *
 refine (frame_any 1 _ 1 1 W3).mono ?_; rintro e W4 ⟨rfl, hb4⟩
 have H74 := Lib.hid ((hb4.block _ X7).trans h73)
 have H84 := Lib.hid ((hb4.block _ X8).trans h83)
 have HB4 := Lib.hid (below_step_ hb3 hb4)
 clear hb3 h83 h73 hb4 HB2 H72 X7 X8
 go_wp2_with fail
 refine (pick_any 3 W4).mono ?_; rintro e W5 ⟨rfl, hb5⟩
 have H75 := Lib.hid ((hb5.block _ (Array.getElem?_eq_some_iff.1 H74.out).1).trans H74.out)
 have H85 := Lib.hid ((hb5.block _ (Array.getElem?_eq_some_iff.1 H84.out).1).trans H84.out)
 have HB5 := Lib.hid (below_step_ HB4.out hb5)
 clear hb5 HB4 H74 H84
 go_wp2_with fail
 refine (tick_any W5).mono ?_; rintro e W6 ⟨rfl, hb6⟩
 have H76 := Lib.hid ((hb6.block _ (Array.getElem?_eq_some_iff.1 H75.out).1).trans H75.out)
 have H86 := Lib.hid ((hb6.block _ (Array.getElem?_eq_some_iff.1 H85.out).1).trans H85.out)
 have HB6 := Lib.hid (below_step_ HB5.out hb6)
 clear hb6 HB5 H75 H85
 go_upto_region 2 with fail
 obtain ⟨WL, hWL⟩ : ∃ WL, WL = W6.alloc (.cells #[.int .u8 1, .int .i64 0, .int .i64 0, .slice (some ⟨W.heap.size, 0, none⟩) 1 1, .int .u8 2, .int .i64 0, .int .i64 0, .slice none 0 0, .int .u8 1, .int .i64 1, .int .i64 0, .slice (some ⟨B8, 0, none⟩) 1 1, .int .u8 3, .int .i64 0, .int .i64 3, .slice none 0 0, .int .u8 2, .int .i64 0, .int .i64 0, .slice none 0 0] 38) := ⟨_, rfl⟩
 rw [← hWL]
 have hml : Mod (fun _ => False) W6 WL := by rw [hWL]; exact (Mod.refl _ _).alloc _
 have hBl : WL.heap[W6.heap.size]? = some (.cells #[.int .u8 1, .int .i64 0, .int .i64 0, .slice (some ⟨W.heap.size, 0, none⟩) 1 1, .int .u8 2, .int .i64 0, .int .i64 0, .slice none 0 0, .int .u8 1, .int .i64 1, .int .i64 0, .slice (some ⟨B8, 0, none⟩) 1 1, .int .u8 3, .int .i64 0, .int .i64 3, .slice none 0 0, .int .u8 2, .int .i64 0, .int .i64 0, .slice none 0 0] 38) := by rw [hWL]; exact World.alloc_heap_new _ _
 have HSL : Hid (ScrAt WL (some ⟨W6.heap.size, 0, none⟩) 5 exL) := scr_lit_ [(⟨1, 0, 0, b7⟩, .slice (some ⟨W.heap.size, 0, none⟩) 1 1), (⟨2, 0, 0, ByteArray.empty⟩, .slice none 0 0), (⟨1, 1, 0, b8⟩, .slice (some ⟨B8, 0, none⟩) 1 1), (⟨3, 0, 3, ByteArray.empty⟩, .slice none 0 0), (⟨2, 0, 0, ByteArray.empty⟩, .slice none 0 0)] hBl rfl (by
   intro x hx
   simp at hx
   rcases hx with rfl | rfl | rfl | rfl | rfl
   · exact str_lit_ (hml.heap H76.out (by simp))
   · exact StrAt.nil _
   · exact str_lit_ (hml.heap H86.out (by simp))
   · exact StrAt.nil _
   · exact StrAt.nil _)
 have HBL : Hid (Below W.heap.size W WL) := HB6.out.trans (hml.below HB6.out.size (by simp))
 clear hWL hml hBl H76 H86 HB6
 generalize W6.heap.size = BL at *
 clear W6
 go_wp2_with fail
 refine (Moves_yes 2 0 (by omega) (by omega) (by omega) (some ⟨BL, 0, none⟩) 5 5 exL WL HSL.out (by unfold maxLen; omega) ex_wrg0).mono ?_; rintro e WA ⟨va, la, rfl, hla, hoa, hba⟩
 rw [ex_mv0] at hla
 obtain ⟨ga, ca, fa, rfl, hga, a0, a1, a2, a3⟩ := mv_two_ hoa hla
 have HA := Lib.hid (show WA.cell? ⟨ga, 0, none⟩ = some (.bool false) ∧ WA.cell? ⟨ga, 1, none⟩ = some fa ∧ StrAt WA fa b7 ∧ WA.cell? ⟨ga, 2, none⟩ = some (.bool true) from ⟨a0, a1, a2, a3⟩)
 have HSA := Lib.hid (HSL.out.below hba)
 have HBA := Lib.hid (below_step_ HBL.out hba)
 clear hla hoa hba a0 a1 a2 a3 HSL HBL hga
 go_wp2_with fail
 refine (Moves_yes 2 1 (by omega) (by omega) (by omega) (some ⟨BL, 0, none⟩) 5 5 exL WA HSA.out (by unfold maxLen; omega) ex_wrg1).mono ?_; rintro e WB ⟨vb, lb, rfl, hlb, hob, hbb⟩
 rw [ex_mv1] at hlb
 obtain ⟨gb, cb, fb, rfl, hgb, a0, a1, a2, a3⟩ := mv_two_ hob hlb
 have HBm := Lib.hid (show WB.cell? ⟨gb, 0, none⟩ = some (.bool false) ∧ WB.cell? ⟨gb, 2, none⟩ = some (.bool true) from ⟨a0, a3⟩)
 have hmb : Mod (fun _ => False) WA WB := Mod.of_same hbb
 have HAb := Lib.hid (show WB.cell? ⟨ga, 0, none⟩ = some (.bool false) ∧ WB.cell? ⟨ga, 1, none⟩ = some fa ∧ StrAt WB fa b7 ∧ WB.cell? ⟨ga, 2, none⟩ = some (.bool true) from ⟨hmb.cell (by simp) HA.out.1, hmb.cell (by simp) HA.out.2.1, HA.out.2.2.1.mod hmb (by simp), hmb.cell (by simp) HA.out.2.2.2⟩)
 have HSB := Lib.hid (HSA.out.below hbb)
 have HBB := Lib.hid (below_step_ HBA.out hbb)
 clear hlb hob hbb a0 a1 a2 a3 HSA HBA HA hgb hmb
 go_wp2_with fail
 refine (Alone_yes 0 (some ⟨BL, 0, none⟩) 5 5 exL WB HSB.out (by unfold maxLen; omega) ex_wrg0).mono ?_; rintro e WC ⟨vc, rfl, hoc, hbc⟩
 rw [ex_alone] at hoc
 obtain ⟨ac, cc, rfl, hcc1, hcc2, hsc⟩ := hoc.scr
 have HSC := Lib.hid (HSB.out.below hbc)
 have HCC := Lib.hid hsc
 have HBC := Lib.hid (below_step_ HBB.out hbc)
 have HMC : Hid (Mod (fun _ => False) WB WC) := Mod.of_same hbc
 clear hoc hsc hbc HSB HBB
 go_wp2_with fail
 refine (Others_yes 0 (some ⟨BL, 0, none⟩) 5 5 exL WC HSC.out (by unfold maxLen; omega) ex_wrg0).mono ?_; rintro e WD ⟨vd, rfl, hod, hbd⟩
 rw [ex_others] at hod
 obtain ⟨ad, cd, rfl, hcd1, hcd2, hsd⟩ := hod.scr
 have HSD := Lib.hid (HSC.out.below hbd)
 have HCD := Lib.hid (HCC.out.below hbd)
 have HDD := Lib.hid hsd
 have HBD := Lib.hid (below_step_ HBC.out hbd)
 have HMD : Hid (Mod (fun _ => False) WB WD) := HMC.out.trans (Mod.of_same hbd)
 clear hod hsd hbd HSC HBC HCC HMC
 go_wp2_with fail
 obtain ⟨WN, hWN⟩ : ∃ WN, WN = WD.alloc (.cells #[.int .i64 2, .int .i64 2] 3) := ⟨_, rfl⟩
 rw [← hWN]
 have hmn : Mod (fun _ => False) WD WN := by rw [hWN]; exact (Mod.refl _ _).alloc _
 have hRn : Reads .i64 WN (.slice (some ⟨WD.heap.size, 0, none⟩) 2 2) [2, 2] := reads_two_ (by rw [hWN]; exact World.alloc_heap_new _ _)
 have HSN := Lib.hid (HSD.out.mod hmn (by simp))
 have HCN := Lib.hid (HCD.out.mod hmn (by simp))
 have HDN := Lib.hid (HDD.out.mod hmn (by simp))
 have HBN := Lib.hid (HBD.out.trans (hmn.below HBD.out.size (by simp)))
 have HMN : Hid (Mod (fun _ => False) WB WN) := HMD.out.trans hmn
 clear hWN hmn HSD HCD HDD HBD HMD
 generalize WD.heap.size = BN at *
 clear WD
 refine (Mix_yes ac ad (some ⟨BN, 0, none⟩) exC.length exD.length 2 cc cd 2 exC exD [2, 2] WN HCN.out HDN.out (by decide) hcd1 (by omega) hRn ex_cd.1 ex_cd.2 (by decide)).mono ?_; rintro e WE ⟨ve, rfl, hoe, hbe⟩
 rw [ex_mix] at hoe
 obtain ⟨ae, ce, rfl, hce1, hce2, hse⟩ := hoe.scr
 have HSE := Lib.hid (HSN.out.below hbe)
 have HCE := Lib.hid (HCN.out.below hbe)
 have HDE := Lib.hid (HDN.out.below hbe)
 have HEE := Lib.hid hse
 have HBE := Lib.hid (below_step_ HBN.out hbe)
 have HME : Hid (Mod (fun _ => False) WB WE) := HMN.out.trans (Mod.of_same hbe)
 clear hoe hse hbe HSN HCN HDN HBN HMN
 go_wp2_with fail
 refine (Alike_yes 2 0 (by omega) (by omega) (by omega) (some ⟨BL, 0, none⟩) ac 5 exC.length 5 cc exL exC WE HSE.out HCE.out (by unfold maxLen; omega) (by unfold maxLen; decide) ex_lc.1).mono ?_; rintro e WF ⟨rfl, hbf⟩
 rw [ex_alike]
 have HSF := Lib.hid (HSE.out.below hbf)
 have HCF := Lib.hid (HCE.out.below hbf)
 have HDF := Lib.hid (HDE.out.below hbf)
 have HEF := Lib.hid (HEE.out.below hbf)
 have HBF := Lib.hid (below_step_ HBE.out hbf)
 have HMF : Hid (Mod (fun _ => False) WB WF) := HME.out.trans (Mod.of_same hbf)
 clear hbf HSE HCE HDE HEE HBE HME
 go_wp2_with fail
 refine (Agree_yes 1 (some ⟨BL, 0, none⟩) ac 5 exC.length 5 cc exL exC WF HSF.out HCF.out (by unfold maxLen; omega) (by unfold maxLen; decide) ex_lc.2).mono ?_; rintro e WG ⟨rfl, hbg⟩
 rw [ex_agree]
 have HSG := Lib.hid (HSF.out.below hbg)
 have HCG := Lib.hid (HCF.out.below hbg)
 have HDG := Lib.hid (HDF.out.below hbg)
 have HEG := Lib.hid (HEF.out.below hbg)
 have HBG := Lib.hid (below_step_ HBF.out hbg)
 have HMG : Hid (Mod (fun _ => False) WB WG) := HMF.out.trans (Mod.of_same hbg)
 clear hbg HSF HCF HDF HEF HBF HMF
 go_wp2_with fail
 refine (Lacks_ex (some ⟨BL, 0, none⟩) 5 5 exL WG HSG.out (by unfold maxLen; omega) ex_wrg0 b7 ex_mv0 (by decide)).mono ?_; rintro e WH ⟨rfl, hbh⟩
 have HSH := Lib.hid (HSG.out.below hbh)
 have HCH := Lib.hid (HCG.out.below hbh)
 have HDH := Lib.hid (HDG.out.below hbh)
 have HEH := Lib.hid (HEG.out.below hbh)
 have HBH := Lib.hid (below_step_ HBG.out hbh)
 have HMH : Hid (Mod (fun _ => False) WB WH) := HMG.out.trans (Mod.of_same hbh)
 clear hbh HSG HCG HDG HEG HBG HMG
 go_wp2_with fail
 refine (Check_any (some ⟨BL, 0, none⟩) 5 5 exL WH HSH.out (by unfold maxLen; omega)).mono ?_; rintro e WK ⟨rfl, hbk⟩
 rw [ex_check.1, ex_check.2]
 have HSK := Lib.hid (HSH.out.below hbk)
 have HCK := Lib.hid (HCH.out.below hbk)
 have HDK := Lib.hid (HDH.out.below hbk)
 have HEK := Lib.hid (HEH.out.below hbk)
 have HBK := Lib.hid (below_step_ HBH.out hbk)
 have HMK : Hid (Mod (fun _ => False) WB WK) := HMH.out.trans (Mod.of_same hbk)
 clear hbk HSH HCH HDH HEH HBH HMH
 have HAK := Lib.hid (show WK.cell? ⟨ga, 0, none⟩ = some (.bool false) ∧ WK.cell? ⟨ga, 1, none⟩ = some fa ∧ StrAt WK fa b7 ∧ WK.cell? ⟨ga, 2, none⟩ = some (.bool true) from ⟨HMK.out.cell (by simp) HAb.out.1, HMK.out.cell (by simp) HAb.out.2.1, HAb.out.2.2.1.mod HMK.out (by simp), HMK.out.cell (by simp) HAb.out.2.2.2⟩)
 have HBmK := Lib.hid (show WK.cell? ⟨gb, 0, none⟩ = some (.bool false) ∧ WK.cell? ⟨gb, 2, none⟩ = some (.bool true) from ⟨HMK.out.cell (by simp) HBm.out.1, HMK.out.cell (by simp) HBm.out.2⟩)
 clear HMK HAb HBm
 have a0 := HAK.out.1
 have a1 := HAK.out.2.1
 have a2 := HAK.out.2.2.1.convert
 have a3 := HAK.out.2.2.2
 have b0 := HBmK.out.1
 have b2 := HBmK.out.2
 go_wp2_with fail
 rotate_left
 · rename_i h9
   exact absurd (by decide +kernel) h9
 clear HAK HBmK a0 a1 a2 a3 b0 b2
 have hbp : Below W.heap.size W (WK.alloc (.cells #[.int .u8 7] 5)) := HBK.out.alloc HBK.out.size _
 have hmp : Mod (fun _ => False) WK (WK.alloc (.cells #[.int .u8 7] 5)) := (Mod.refl _ _).alloc _
 have h7p := World.alloc_heap_new WK (.cells #[.int .u8 7] 5)
 generalize WK.alloc (.cells #[.int .u8 7] 5) = WP at *
 generalize WK.heap.size = B7 at *
 refine (frame_any 0 _ 1 1 WP).mono ?_; rintro e WQ ⟨rfl, hbq⟩
 have H7Q := Lib.hid ((hbq.block _ (Array.getElem?_eq_some_iff.1 h7p).1).trans h7p)
 have HBQ := Lib.hid (below_step_ hbp hbq)
 have HMQ := Lib.hid (hmp.trans (Mod.of_same hbq))
 clear hbp hmp h7p hbq
 go_wp2_with fail
 refine (tick_any WQ).mono ?_; rintro e WR ⟨rfl, hbr⟩
 have H7R := Lib.hid ((hbr.block _ (Array.getElem?_eq_some_iff.1 H7Q.out).1).trans H7Q.out)
 have HBR := Lib.hid (below_step_ HBQ.out hbr)
 have HMR := Lib.hid (HMQ.out.trans (Mod.of_same hbr))
 clear hbr H7Q HBQ HMQ
 go_wp2_with fail
 refine (tick_any WR).mono ?_; rintro e WS ⟨rfl, hbs⟩
 have H7S := Lib.hid ((hbs.block _ (Array.getElem?_eq_some_iff.1 H7R.out).1).trans H7R.out)
 have HBS := Lib.hid (below_step_ HBR.out hbs)
 have HMS := Lib.hid (HMR.out.trans (Mod.of_same hbs))
 clear hbs H7R HBR HMR
 go_wp2_with fail
 obtain ⟨WT, hWT⟩ : ∃ WT, WT = WS.alloc (.cells #[.int .u8 1, .int .i64 0, .int .i64 0, .slice (some ⟨B7, 0, none⟩) 1 1, .int .u8 2, .int .i64 0, .int .i64 0, .slice none 0 0, .int .u8 2, .int .i64 0, .int .i64 0, .slice none 0 0] 38) := ⟨_, rfl⟩
 rw [← hWT]
 have hmt : Mod (fun _ => False) WK WT := HMS.out.trans (by rw [hWT]; exact (Mod.refl _ _).alloc _)
 have hmt1 : Mod (fun _ => False) WS WT := by rw [hWT]; exact (Mod.refl _ _).alloc _
 have hBt : WT.heap[WS.heap.size]? = some (.cells #[.int .u8 1, .int .i64 0, .int .i64 0, .slice (some ⟨B7, 0, none⟩) 1 1, .int .u8 2, .int .i64 0, .int .i64 0, .slice none 0 0, .int .u8 2, .int .i64 0, .int .i64 0, .slice none 0 0] 38) := by rw [hWT]; exact World.alloc_heap_new _ _
 have HST : Hid (ScrAt WT (some ⟨WS.heap.size, 0, none⟩) 3 exC) := scr_lit_ [(⟨1, 0, 0, b7⟩, .slice (some ⟨B7, 0, none⟩) 1 1), (⟨2, 0, 0, ByteArray.empty⟩, .slice none 0 0), (⟨2, 0, 0, ByteArray.empty⟩, .slice none 0 0)] hBt rfl (by
   intro x hx
   simp at hx
   rcases hx with rfl | rfl
   · exact str_lit_ (hmt1.heap H7S.out (by simp))
   · exact StrAt.nil _)
 have HBT : Hid (Below W.heap.size W WT) := HBS.out.trans (hmt1.below HBS.out.size (by simp))
 have HLT := Lib.hid (HSK.out.mod hmt (by simp))
 have HCT := Lib.hid (HCK.out.mod hmt (by simp))
 have HDT := Lib.hid (HDK.out.mod hmt (by simp))
 have HET := Lib.hid (HEK.out.mod hmt (by simp))
 clear hWT hmt hmt1 hBt H7S HBS HMS HSK HCK HDK HEK HBK
 generalize WS.heap.size = B9 at *
 clear WS
 refine (same_any ac (some ⟨B9, 0, none⟩) 3 3 cc 3 exC exC WT HCT.out HST.out (by omega)).mono ?_; rintro e WU ⟨rfl, hbu⟩
 rw [decide_eq_true rfl]
 have HLU := Lib.hid (HLT.out.below hbu)
 have HDU := Lib.hid (HDT.out.below hbu)
 have HEU := Lib.hid (HET.out.below hbu)
 have HBU := Lib.hid (below_step_ HBT.out hbu)
 clear hbu HLT HDT HET HBT HCT HST
 go_wp2_with fail
 have hbp : Below W.heap.size W (WU.alloc (.cells #[.int .u8 8] 5)) := HBU.out.alloc HBU.out.size _
 have hmp : Mod (fun _ => False) WU (WU.alloc (.cells #[.int .u8 8] 5)) := (Mod.refl _ _).alloc _
 have h8p := World.alloc_heap_new WU (.cells #[.int .u8 8] 5)
 generalize WU.alloc (.cells #[.int .u8 8] 5) = XP at *
 generalize WU.heap.size = C8 at *
 refine (frame_any 1 _ 1 1 XP).mono ?_; rintro e XQ ⟨rfl, hbq⟩
 have H8Q := Lib.hid ((hbq.block _ (Array.getElem?_eq_some_iff.1 h8p).1).trans h8p)
 have JBQ := Lib.hid (below_step_ hbp hbq)
 have JMQ := Lib.hid (hmp.trans (Mod.of_same hbq))
 clear hbp hmp h8p hbq
 go_wp2_with fail
 refine (pick_any 3 XQ).mono ?_; rintro e XS ⟨rfl, hbs⟩
 have H8S := Lib.hid ((hbs.block _ (Array.getElem?_eq_some_iff.1 H8Q.out).1).trans H8Q.out)
 have JBS := Lib.hid (below_step_ JBQ.out hbs)
 have JMS := Lib.hid (JMQ.out.trans (Mod.of_same hbs))
 clear hbs H8Q JBQ JMQ
 go_wp2_with fail
 obtain ⟨XT, hXT⟩ : ∃ XT, XT = XS.alloc (.cells #[.int .u8 1, .int .i64 1, .int .i64 0, .slice (some ⟨C8, 0, none⟩) 1 1, .int .u8 3, .int .i64 0, .int .i64 3, .slice none 0 0] 38) := ⟨_, rfl⟩
 rw [← hXT]
 have hmt : Mod (fun _ => False) WU XT := JMS.out.trans (by rw [hXT]; exact (Mod.refl _ _).alloc _)
 have hmt1 : Mod (fun _ => False) XS XT := by rw [hXT]; exact (Mod.refl _ _).alloc _
 have hBt : XT.heap[XS.heap.size]? = some (.cells #[.int .u8 1, .int .i64 1, .int .i64 0, .slice (some ⟨C8, 0, none⟩) 1 1, .int .u8 3, .int .i64 0, .int .i64 3, .slice none 0 0] 38) := by rw [hXT]; exact World.alloc_heap_new _ _
 have JST : Hid (ScrAt XT (some ⟨XS.heap.size, 0, none⟩) 2 exD) := scr_lit_ [(⟨1, 1, 0, b8⟩, .slice (some ⟨C8, 0, none⟩) 1 1), (⟨3, 0, 3, ByteArray.empty⟩, .slice none 0 0)] hBt rfl (by
   intro x hx
   simp at hx
   rcases hx with rfl | rfl
   · exact str_lit_ (hmt1.heap H8S.out (by simp))
   · exact StrAt.nil _)
 have JBT : Hid (Below W.heap.size W XT) := JBS.out.trans (hmt1.below JBS.out.size (by simp))
 have JLT := Lib.hid (HLU.out.mod hmt (by simp))
 have JDT := Lib.hid (HDU.out.mod hmt (by simp))
 have JET := Lib.hid (HEU.out.mod hmt (by simp))
 clear hXT hmt hmt1 hBt H8S JBS JMS HLU HDU HEU HBU
 generalize XS.heap.size = C9 at *
 clear XS
 refine (same_any ad (some ⟨C9, 0, none⟩) 2 2 cd 2 exD exD XT JDT.out JST.out (by omega)).mono ?_; rintro e XU ⟨rfl, hbu⟩
 rw [decide_eq_true rfl]
 have JLU := Lib.hid (JLT.out.below hbu)
 have JEU := Lib.hid (JET.out.below hbu)
 have JBU := Lib.hid (below_step_ JBT.out hbu)
 clear hbu JLT JDT JET JBT JST
 go_wp2_with fail
 refine (same_any ae (some ⟨BL, 0, none⟩) 5 5 ce 5 exL exL XU JEU.out JLU.out (by omega)).mono ?_; rintro e XV ⟨rfl, hbv⟩
 rw [decide_eq_true rfl]
 have JBV := Lib.hid (below_step_ JBU.out hbv)
 clear hbv JLU JEU JBU
 go_wp2_with fail
 go_ret
 exact ⟨rfl, JBV.out⟩
end View
end Go.Proofs.YtdfmgneicdpjmaaGreat
