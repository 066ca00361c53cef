import Derived.Test.YtdfmgneicdpjmaaGreatW45
namespace Go.Proofs.YtdfmgneicdpjmaaGreat
open Go.RowKit Go.Shelf
set_option linter.unusedVariables false
set_option linter.unusedSimpArgs false
set_option maxRecDepth 100000
namespace View
open Resp
def mixP : Nat → List Ent → List (Ent × Int) → List Ent
 | _, [], ps => ps.map Prod.fst
 | k, e :: t, ps => (ps.takeWhile fun p => decide (p.2 ≤ (k : Int))).map Prod.fst ++ e :: mixP (k + 1) t (ps.dropWhile fun p => decide (p.2 ≤ (k : Int)))
theorem mixP_take {k : Nat} {e : Ent} {t : List Ent} {p : Ent × Int} {ps : List (Ent × Int)} (h : p.2 ≤ (k : Int)) : mixP k (e :: t) (p :: ps) = p.1 :: mixP k (e :: t) ps := by
 simp [mixP, h]
theorem mixP_stop {k : Nat} {e : Ent} {t : List Ent} {ps : List (Ent × Int)} (h : ∀ p ∈ ps.head?, ¬ p.2 ≤ (k : Int)) : mixP k (e :: t) ps = e :: mixP (k + 1) t ps := by
 cases ps with
 | nil => simp [mixP]
 | cons p ps =>
   have h1 := h p rfl
   simp [mixP, h1]
def atOk (n m : Nat) (zs : List Int) : Bool := zs.length == m && (sortedB zs && (zs.length == 0 || (decide ((0 : Int) ≤ zs[0]?.getD (0 : Int)) && decide ((zs[zs.length - 1]?.getD (0 : Int) : Int) ≤ (n : Int)))))
theorem reads_cells_ {W : World} {a : Option Addr} {n c : Nat} {zs : List Int} (h : Reads .i64 W (.slice a n c) zs) (h0 : 0 < zs.length) : ∃ b o, a = some ⟨b, o, none⟩ ∧ n = zs.length ∧ ∀ i, i < zs.length → W.cell? ⟨b, o + i, none⟩ = some (.int .i64 (zs[i]?.getD 0)) := by
 rcases h with ⟨a', c', e, hz⟩ | ⟨b, o, c', e, -, hc⟩
 · rw [hz] at h0; simp at h0
 · cases e
   exact ⟨b, o, rfl, rfl, hc⟩
set_option maxHeartbeats 1000000 in
theorem Mix_no (a b za : Option Addr) (n m zn c d zc : Nat) (es fs : List Ent) (W : World) (h : ScrAt W a n es) (h2 : ScrAt W b m fs) (hn : n ≤ maxLen) (hm : m ≤ maxLen) (E : Int) (hE : wrg2 0 es fs = E) (h0 : ¬ E = 0) :
   Calls Tryz.prog 23 #[.slice a n c, .slice b m d, .slice za zn zc] W fun e w' => e = .returned (.tuple #[.slice none 0 0, .int .i64 E]) ∧ Below W.heap.size W w' := by
 have HC := Lib.hid (wrong_two 0 a n c es b m d fs W h hn h2 hm 27)
 have h0' : (E != 0) = true := by simpa using h0
 rw [hE] at HC
 clear h h2 hE h0
 go_enter Tryz.func23, Tryz.ntmps23
 go_wp2_with fail
 refine HC.out.mono ?_; rintro e W2 ⟨rfl, hb2⟩
 have HB2 := Lib.hid hb2
 clear hb2
 go_wp2_with fail
 go_ret2
 exact ⟨rfl, HB2.out⟩
set_option maxHeartbeats 4000000 in
theorem Mix_arg (a b za : Option Addr) (n m zn c d zc : Nat) (es fs : List Ent) (zs : List Int) (W : World) (h : ScrAt W a n es) (h2 : ScrAt W b m fs) (hn : n ≤ maxLen) (hm : m ≤ maxLen) (hz : Reads .i64 W (.slice za zn zc) zs) (hzl : zs.length ≤ 1000000) (hE : wrg2 0 es fs = 0) (h0 : atOk n m zs = false) :
   Calls Tryz.prog 23 #[.slice a n c, .slice b m d, .slice za zn zc] W fun e w' => e = .returned (.tuple #[.slice none 0 0, .int .i64 2]) ∧ Below W.heap.size W w' := by
 have HC := Lib.hid (wrong_two 0 a n c es b m d fs W h hn h2 hm 27)
 obtain ⟨hE1, hE2⟩ := wrg2_ok hE
 have hl1 := (chk_ok (wrg1_ok hE1).1).1
 have hl2 := (chk_ok (wrg1_ok hE2).1).1
 rw [h.1] at hl1
 rw [h2.1] at hl2
 rw [hE] at HC
 have hzf : zn = zs.length := by
   obtain ⟨a', c', e⟩ := Reads.form_ hz
   injection e with _ e2 _
 subst hzf
 have hzI : (zs.length : Int) ≤ 1000000 := by omega
 have hnI : (n : Int) ≤ 4000 := by omega
 have hmI : (m : Int) ≤ 4000 := by omega
 have HZ := Lib.hid hz
 clear h h2 hE hE1 hE2 hz
 by_cases hlm : zs.length = m
 · have hne : ((zs.length : Int) != (m : Int)) = false := by simp [hlm]
   have HIS := Lib.hid (fun W2 (hb : Below W.heap.size W W2) => IsSorted_any (.slice za zs.length zc) zs W2 (HZ.out.mod (S := fun _ => False) (Mod.of_same hb) (by simp)) hzl)
   have HCE := Lib.hid (fun (h0 : 0 < zs.length) => reads_cells_ HZ.out h0)
   cases hs : sortedB zs with
   | false =>
     rw [hs] at HIS
     clear h0 hs hlm
     go_enter Tryz.func23, Tryz.ntmps23
     go_wp2_with fail
     refine HC.out.mono ?_; rintro e W2 ⟨rfl, hb2⟩
     have HB2 := Lib.hid hb2
     clear hb2
     go_wp2_with fail
     refine (HIS.out W2 HB2.out).mono ?_; rintro e W3 ⟨rfl, q, rfl⟩
     go_wp2_with fail
     go_ret2
     exact ⟨rfl, below_drewN_ HB2.out q⟩
   | true =>
     rw [hs] at HIS
     have hpos : 0 < zs.length := by
       rcases Nat.eq_zero_or_pos zs.length with h | h
       · simp [atOk, hlm, hs, h] at h0
         omega
       · exact h
     obtain ⟨zb, zo, rfl, -, hcell⟩ := HCE.out hpos
     have hposI : (0 : Int) < zs.length := by omega
     have w1 : IntKind.i64.wrap ((zs.length : Int) - 1) = ((zs.length - 1 : Nat) : Int) := by rw [IntKind.wrap_i64]; omega
     have e0 := hcell 0 hpos
     have e1 := hcell (zs.length - 1) (by omega)
     simp only [Nat.add_zero] at e0
     have hbl := World.block_lt_of_cell? W _ e0
     clear hcell HCE
     by_cases hz0 : zs[0]?.getD 0 < 0
     · generalize zs[0]?.getD 0 = x at *
       clear h0 hs hlm e1
       go_enter Tryz.func23, Tryz.ntmps23
       go_wp2_with fail
       refine HC.out.mono ?_; rintro e W2 ⟨rfl, hb2⟩
       have HB2 := Lib.hid hb2
       have e0' := (hb2.cell (p := ⟨zb, zo, none⟩) hbl).trans e0
       clear hb2 e0
       go_wp2_with fail
       refine (HIS.out W2 HB2.out).mono ?_; rintro e W3 ⟨rfl, q, rfl⟩
       go_wp2_with fail
       go_ret2
       exact ⟨rfl, below_drewN_ HB2.out q⟩
     · have hz1 : (n : Int) < zs[zs.length - 1]?.getD 0 := by
         simp [atOk, hlm, hs] at h0
         rw [hlm]
         exact h0.2 (by omega)
       generalize zs[0]?.getD 0 = x at *
       generalize zs[zs.length - 1]?.getD 0 = y at *
       have hx0 : 0 ≤ x := by omega
       have n1 : ((zs.length - 1 : Nat) : Int) < zs.length := by omega
       have n2 : (zs.length : Int) - 1 = ((zs.length - 1 : Nat) : Int) := by omega
       have N2 := Lib.hid n2
       generalize zs.length - 1 = z1 at *
       clear h0 hs hlm hz0 n2
       go_enter Tryz.func23, Tryz.ntmps23
       go_wp2_with fail
       refine HC.out.mono ?_; rintro e W2 ⟨rfl, hb2⟩
       have HB2 := Lib.hid hb2
       have e0' := (hb2.cell (p := ⟨zb, zo, none⟩) hbl).trans e0
       have e1' := (hb2.cell (p := ⟨zb, zo + z1, none⟩) hbl).trans e1
       clear hb2 e0 e1
       go_wp2_with fail
       refine (HIS.out W2 HB2.out).mono ?_; rintro e W3 ⟨rfl, q, rfl⟩
       have n2 := N2.out
       go_wp2_with fail
       go_ret2
       exact ⟨rfl, below_drewN_ HB2.out q⟩
 · have hne : ((zs.length : Int) != (m : Int)) = true := by rw [bne_iff_ne]; omega
   clear h0 hlm
   go_enter Tryz.func23, Tryz.ntmps23
   go_wp2_with fail
   refine HC.out.mono ?_; rintro e W2 ⟨rfl, hb2⟩
   have HB2 := Lib.hid hb2
   clear hb2
   go_wp2_with fail
   go_ret2
   exact ⟨rfl, HB2.out⟩
end View
end Go.Proofs.YtdfmgneicdpjmaaGreat

namespace Go.Proofs.YtdfmgneicdpjmaaGreat
open Go.RowKit Go.Shelf
set_option linter.unusedVariables false
set_option linter.unusedSimpArgs false
set_option maxRecDepth 100000
namespace View
open Resp
theorem ScrAt.drop {W : World} {b o : Nat} {n : Nat} {es : List Ent} (h : ScrAt W (some ⟨b, o, none⟩) n es) {k : Nat} (hk : k ≤ n) : ScrAt W (some ⟨b, o + k * 4, none⟩) (n - k) (es.drop k) :=
 ⟨by rw [List.length_drop, h.1], fun i u hu => by
   rw [List.getElem?_drop] at hu
   obtain ⟨b', o', e, hc⟩ := h.2 _ u hu
   cases e
   refine ⟨b, o + k * 4, rfl, ?_⟩
   rw [show o + k * 4 + i * 4 = o + (k + i) * 4 by omega]
   exact hc⟩
structure MxI (W : World) (X Y : Nat) (cv : Value) (CL : List (Ent × Value)) (R es : List Ent) (ps : List (Ent × Int)) (k i : Nat) (ov : Value) (L : List (Ent × Value)) (wr : World) : Prop where
 row : wr.ownsRow Y 38 4 ov L.length (entCs L)
 fresh : ∀ x ∈ L, FreshB wr X x.2 x.1.bytes
 apart : L.Pairwise fun x y => ∀ g, x.2.ownBlock = some g → ¬ y.2.ownBlock = some g
 src : ∀ x ∈ L, ∀ g, x.2.ownBlock = some g → (∃ j, ∃ h : j < CL.length, j < k ∧ CL[j].2.ownBlock = some g) ∨ Y ≤ g
 crow : wr.ownsRow X 38 4 cv CL.length (entCs CL)
 cfresh : ∀ x ∈ CL, FreshB wr X x.2 x.1.bytes
 below : Below X W wr
 size : Y ≤ wr.heap.size
 eq : L.map Prod.fst ++ mixP k (es.drop k) (ps.drop i) = R
structure MxC (X Y : Nat) (cv : Value) (CL : List (Ent × Value)) : Prop where
 apart : CL.Pairwise fun x y => ∀ g, x.2.ownBlock = some g → ¬ y.2.ownBlock = some g
 low : ∀ x ∈ CL, ∀ g, x.2.ownBlock = some g → g < Y
 clow : ∀ g, cv.ownBlock = some g → g < Y
 le : X ≤ Y
theorem MxI.mod {W : World} {X Y : Nat} {cv : Value} {CL : List (Ent × Value)} {R es : List Ent} {ps : List (Ent × Int)} {k i : Nat} {ov : Value} {L : List (Ent × Value)} {wr w' : World} (h : MxI W X Y cv CL R es ps k i ov L wr) (hm : Mod (fun _ => False) wr w') (hX : X ≤ wr.heap.size) : MxI W X Y cv CL R es ps k i ov L w' where
 row := ownsRow_mod h.row hm (by simp)
 fresh := fun x hx => (h.fresh x hx).mod hm (by simp)
 apart := h.apart
 src := h.src
 crow := ownsRow_mod h.crow hm (by simp)
 cfresh := fun x hx => (h.cfresh x hx).mod hm (by simp)
 below := h.below.trans (hm.below hX (by simp))
 size := Nat.le_trans h.size hm.size
 eq := h.eq
theorem MxI.grown {W : World} {X Y : Nat} {cv : Value} {CL : List (Ent × Value)} {R es : List Ent} {ps : List (Ent × Int)} {k i k' i' : Nat} {ov : Value} {L : List (Ent × Value)} {wr w3 : World} (hC : MxC X Y cv CL) (h : MxI W X Y cv CL R es ps k i ov L wr) {e : Ent} {v ov' : Value} (hv : FreshB wr X v e.bytes)
   (hd : ∀ x ∈ L, ∀ g, x.2.ownBlock = some g → ¬ v.ownBlock = some g) (hs : ∀ g, v.ownBlock = some g → (∃ j, ∃ h : j < CL.length, j < k' ∧ CL[j].2.ownBlock = some g) ∨ Y ≤ g) (hk : k ≤ k')
   (ho : w3.ownsRow Y 38 4 ov' (L.length + 1) (entCs L ++ entC e v)) (hm : Mod (fun q => some q = ov.ownBlock) wr w3) (hX : X ≤ wr.heap.size)
   (hR : mixP k (es.drop k) (ps.drop i) = e :: mixP k' (es.drop k') (ps.drop i')) : MxI W X Y cv CL R es ps k' i' ov' (L ++ [(e, v)]) w3 := by
 have hov : ∀ q, some q = ov.ownBlock → Y ≤ q := fun q h1 => ownBlock_ge_ h.row h1.symm
 refine ⟨by simpa [entCs_append, entCs_one] using ho, fun x hx => ?_, ?_, fun x hx g hg => ?_, ?_, fun x hx => ?_, ?_, Nat.le_trans h.size hm.size, ?_⟩
 · rcases List.mem_append.1 hx with hx | hx
   · obtain ⟨zs, h5, h6⟩ := h.fresh x hx
     exact ⟨zs, owns_keep_ h5 h.row hm (by decide), h6⟩
   · obtain rfl := List.mem_singleton.1 hx
     obtain ⟨zs, h5, h6⟩ := hv
     exact ⟨zs, owns_keep_ h5 h.row hm (by decide), h6⟩
 · rw [List.pairwise_append]
   refine ⟨h.apart, List.pairwise_singleton _ _, fun x hx y hy => ?_⟩
   obtain rfl := List.mem_singleton.1 hy
   exact hd x hx
 · rcases List.mem_append.1 hx with hx | hx
   · rcases h.src x hx g hg with ⟨j, h1, h2, h3⟩ | h1
     · exact .inl ⟨j, h1, by omega, h3⟩
     · exact .inr h1
   · obtain rfl := List.mem_singleton.1 hx
     exact hs g hg
 · exact ownsRow_mod h.crow hm (fun g hg h1 => by have := hC.clow g hg; have := hov g h1; omega)
 · obtain ⟨zs, h5, h6⟩ := h.cfresh x hx
   exact ⟨zs, owns_keep_ h5 h.row hm (by decide), h6⟩
 · exact h.below.trans (hm.below hX (fun q hq h1 => by have := hov q h1; have := hC.le; omega))
 · rw [← h.eq, hR, List.map_append, List.append_assoc]
   rfl
end View
end Go.Proofs.YtdfmgneicdpjmaaGreat

namespace Go.Proofs.YtdfmgneicdpjmaaGreat
open Go.RowKit Go.Shelf
set_option linter.unusedVariables false
set_option linter.unusedSimpArgs false
set_option maxRecDepth 100000
namespace View
open Resp
theorem filter_all_ (es : List Ent) : es.filter (fun _ => true) = es := by simp
theorem zip_drop_ {fs : List Ent} {zs : List Int} {i : Nat} (h1 : i < fs.length) (h2 : i < zs.length) : (fs.zip zs).drop i = (fs[i], zs[i]) :: (fs.zip zs).drop (i + 1) := by
 have hl : i < (fs.zip zs).length := by simp; omega
 rw [← List.getElem_cons_drop hl]
 simp
theorem zip_drop_map {fs : List Ent} {zs : List Int} {i : Nat} (h : fs.length = zs.length) : ((fs.zip zs).drop i).map Prod.fst = fs.drop i := by
 rw [List.map_drop, List.map_fst_zip (by omega)]
set_option maxHeartbeats 8000000 in
theorem Mix_yes (a b za : Option Addr) (n m zn c d zc : Nat) (es fs : List Ent) (zs : List Int) (W : World) (h : ScrAt W a n es) (h2 : ScrAt W b m fs) (hn : n ≤ maxLen) (hm : m ≤ d) (hd : d ≤ maxLen) (hz : Reads .i64 W (.slice za zn zc) zs) (hE : wrg2 0 es fs = 0) (h0 : atOk n m zs = true) (hsum : n + m ≤ 4000) :
   Calls Tryz.prog 23 #[.slice a n c, .slice b m d, .slice za zn zc] W fun e w' => ∃ v, e = .returned (.tuple #[v, .int .i64 0]) ∧ OwnScr w' W.heap.size v (mixP 0 es (fs.zip zs)) ∧ Below W.heap.size W w' := by
 obtain ⟨i1, ji, jz0, jz1, jz2⟩ := info_parts infoEnt
 have HC := Lib.hid (wrong_two 0 a n c es b m d fs W h hn h2 (by omega) 27)
 obtain ⟨hE1, hE2⟩ := wrg2_ok hE
 have HOK1 := Lib.hid (chk_ok (wrg1_ok hE1).1)
 have HOK2 := Lib.hid (chk_ok (wrg1_ok hE2).1)
 have hl1 := HOK1.out.1
 have hl2 := HOK2.out.1
 rw [h.1] at hl1
 rw [h2.1] at hl2
 rw [hE] at HC
 have hzf : zn = zs.length := by
   obtain ⟨a', c', e⟩ := Reads.form_ hz
   injection e with _ e2 _
 subst hzf
 simp only [atOk, Bool.and_eq_true, Bool.or_eq_true, beq_iff_eq, decide_eq_true_eq] at h0
 obtain ⟨hlm, hs, hcase⟩ := h0
 have hzI : (zs.length : Int) ≤ 4000 := by omega
 have hnI : (n : Int) ≤ 4000 := by omega
 have hmI : (m : Int) ≤ 4000 := by omega
 have hne : ((zs.length : Int) != (m : Int)) = false := by simp [hlm]
 have H1 := Lib.hid h
 have H2 := Lib.hid h2
 have HZ := Lib.hid hz
 have HLM := Lib.hid hlm
 have HLES := Lib.hid h.1
 have HLFS := Lib.hid h2.1
 have HIS := Lib.hid (fun W2 (hb : Below W.heap.size W W2) => IsSorted_any (.slice za zs.length zc) zs W2 (hz.mod (S := fun _ => False) (Mod.of_same hb) (by simp)) (by omega))
 rw [hs] at HIS
 have hcs : zs.length = 0 ∨ (0 < zs.length ∧ (0 : Int) ≤ zs[0]?.getD (0 : Int) ∧ (zs[zs.length - 1]?.getD (0 : Int) : Int) ≤ (n : Int) ∧ ∃ zb zo, za = some ⟨zb, zo, none⟩ ∧ W.cell? ⟨zb, zo, none⟩ = some (.int .i64 (zs[0]?.getD 0)) ∧ W.cell? ⟨zb, zo + (zs.length - 1), none⟩ = some (.int .i64 (zs[zs.length - 1]?.getD 0))) := by
   rcases Nat.eq_zero_or_pos zs.length with h3 | h3
   · exact .inl h3
   · refine .inr ⟨h3, ?_⟩
     obtain ⟨zb, zo, e, -, hcell⟩ := reads_cells_ hz h3
     have e0 := hcell 0 h3
     simp only [Nat.add_zero] at e0
     rcases hcase with h4 | h4
     · omega
     · exact ⟨h4.1, h4.2, zb, zo, e, e0, hcell (zs.length - 1) (by omega)⟩
 clear h h2 hz hE hE1 hE2 hlm hs hcase
 rcases hcs with hz0 | ⟨hpos, hx0, hy0, zb, zo, rfl, e0, e1⟩
 · have hposI : ¬ (0 : Int) < zs.length := by omega
   generalize hzl : zs.length = zl at *
   have HZL := Lib.hid hzl
   clear hzl hz0
   go_enter Tryz.func23, Tryz.ntmps23
   go_wp2_with fail
   refine HC.out.mono ?_; rintro e W2 ⟨rfl, hb2⟩
   have HB2 := Lib.hid hb2
   clear hb2
   go_wp2_with fail
   refine (HIS.out W2 HB2.out).mono ?_; rintro e W3 ⟨rfl, q, rfl⟩
   have HB3 := Lib.hid (below_drewN_ HB2.out q)
   clear HB2 HC HIS
   generalize W2.drewN q = W3 at *
   have hsumI : ¬ (4000 : Int) < (n : Int) + m := by omega
   go_wp2_with fail
   refine (chosen_any2 _ _ ⟨a, n, c, rfl⟩ ⟨_, _, rfl⟩ W3).mono ?_; rintro e W4 ⟨rfl, h4, hb4⟩
   have HB4 := Lib.hid (below_step_ HB3.out hb4)
   have H4 := Lib.hid h4
   clear h4 hb4 HB3
   generalize W3.heap.size = bl at *
   go_wp2_with fail
   refine (Collect_any a n c _ es (fun _ => true) bl (bl + 1) (fun e he => Nat.le_trans (clean_size (HOK1.out.2 e he)) (by omega)) hn W4 (is_all W4.heap.size W4) H4.out (H1.out.below HB4.out) (by have := HOK1.out.1; omega)).mono ?_; rintro e W5 ⟨cv, rfl, ho, hb5⟩
   rw [filter_all_] at ho
   obtain ⟨CL, hc1, hc2, hc3, hc4⟩ := ho
   have hcl : CL.length = n := by have := congrArg List.length hc1; simp at this; rw [this, HLES.out]
   obtain ⟨ca, cc, rfl⟩ := ownsRow_form hc2
   have hX4 : W.heap.size ≤ W4.heap.size := HB4.out.size
   have HC5 : Hid (MxC W.heap.size W5.heap.size (.slice ca CL.length cc) CL) := ⟨hc4, fun x hx g hg => by
     obtain ⟨zs', z1', -⟩ := hc3 x hx
     exact (z1'.lt g hg).2, fun g hg => (hc2.lt g hg).2, Nat.le_trans hX4 hb5.size⟩
   have HI5 : Hid (MxI W W.heap.size W5.heap.size (.slice ca CL.length cc) CL (mixP 0 es (fs.zip zs)) es (fs.zip zs) 0 0 (.slice none 0 0) [] W5) := ⟨owns_nil _ _ _ _, by simp, .nil, by simp, ownsRow_base hc2 hX4, fun x hx => (hc3 x hx).base hX4, below_step_ HB4.out hb5, Nat.le_refl _, by simp⟩
   have HM1 := Lib.hid hc1
   rw [hcl] at HC5 HI5 ⊢
   have HCL := Lib.hid hcl
   have hY : W.heap.size ≤ W5.heap.size := Nat.le_trans hX4 hb5.size
   clear hc1 hc2 hc3 hc4 hb5 hcl H4 HB4 hX4
   generalize W5.heap.size = Y at *
   go_wp2_with fail
   go_loopw [64, 10, 11, 12, 13] (fun kv ov iv _ _ wr => ∃ (k i : Nat) (L : List (Ent × Value)) (oa : Option Addr) (oc : Nat), k ≤ n ∧ i ≤ m ∧ L.length = k + i ∧ kv = .int .i64 k ∧ iv = .int .i64 i ∧ ov = .slice oa L.length oc ∧ Hid (MxI W W.heap.size Y (.slice ca n cc) CL (mixP 0 es (fs.zip zs)) es (fs.zip zs) k i (.slice oa L.length oc) L wr)) (fun kv _ _ _ _ _ => n - (intOf kv).toNat)
   case atStart => exact ⟨0, 0, [], none, 0, Nat.zero_le _, Nat.zero_le _, rfl, rfl, rfl, rfl, HI5.out⟩
   case round =>
     obtain ⟨k, i, L, oa, oc, hk, hi, hL, rfl, rfl, rfl, HI⟩ := hrel
     obtain ⟨wk, rfl⟩ : ∃ wk : World, wk = wr := ⟨_, rfl⟩
     clear HI5
     by_cases hlt : k < n
     · have hltI : (k : Int) < n := by omega
       have hkc : k < CL.length := by have := HCL.out; omega
       have hXw : W.heap.size ≤ wk.heap.size := HI.out.below.size
       have hcr := HI.out.crow
       rw [HCL.out] at hcr
       obtain ⟨cg, rfl, hcg, -, -, hcn, hcell⟩ := owns_parts hcr (by omega)
       have hcf := HI.out.cfresh CL[k] (List.getElem_mem hkc)
       obtain ⟨sa, sc, hsv⟩ := hcf.str.form
       have c0 := hcell _ _ (entCs_at (j := 0) hkc (by omega) |>.trans (by rfl))
       have c1 := hcell _ _ (entCs_at (j := 1) hkc (by omega) |>.trans (by rfl))
       have c2 := hcell _ _ (entCs_at (j := 2) hkc (by omega) |>.trans (by rfl))
       have c3 := hcell _ _ (entCs_at (j := 3) hkc (by omega) |>.trans (by rfl))
       simp only [Nat.add_zero] at c0
       have hek : es[k]'(by have := HLES.out; omega) = CL[k].1 := by
         have := HM1.out
         subst this
         simp
       have HES : Hid (es.drop k = CL[k].1 :: es.drop (k + 1)) := by
         rw [Hid, ← hek, List.getElem_cons_drop]
       rw [hsv] at c3
       have HSV := Lib.hid hsv
       clear hcr hcell hcf hek hsv
       generalize hz : CL[k].1 = z at *
       have HZ1 := Lib.hid hz
       clear hz
       have hm6 : Mod (fun _ => False) wk (wk.alloc (.cells #[.int .u8 z.kind, .int .i64 z.slot, .int .i64 z.n, .slice sa z.bytes.size sc] 38)) := (Mod.refl _ _).alloc _
       have HP := Lib.hid (World.alloc_heap_new wk (.cells #[.int .u8 z.kind, .int .i64 z.slot, .int .i64 z.n, .slice sa z.bytes.size sc] 38))
       have HI6 := Lib.hid (HI.out.mod hm6 hXw)
       have HOP : Hid (∀ g, (Value.slice oa L.length oc).ownBlock = some g → ¬ g = wk.heap.size) := fun g hg e => by
         have := (HI.out.row.lt g hg).2
         omega
       have hPw : wk.heap.size < (wk.alloc (.cells #[.int .u8 z.kind, .int .i64 z.slot, .int .i64 z.n, .slice sa z.bytes.size sc] 38)).heap.size := by simp
       go_wp2_with fail
       clear hm6 HI c0 c1 c2 c3
       generalize wk.alloc (.cells #[.int .u8 z.kind, .int .i64 z.slot, .int .i64 z.n, .slice sa z.bytes.size sc] 38) = W6 at *
       generalize wk.heap.size = P at *
       go_loopw [11, 10] (fun iv ov wr => ∃ (i : Nat) (L : List (Ent × Value)) (oa : Option Addr) (oc : Nat), i ≤ m ∧ L.length = k + i ∧ iv = .int .i64 i ∧ ov = .slice oa L.length oc ∧ Hid (MxI W W.heap.size Y (.slice (some ⟨cg, 0, none⟩) n cc) CL (mixP 0 es (fs.zip zs)) es (fs.zip zs) k i (.slice oa L.length oc) L wr) ∧ Hid (wr.heap[P]? = some (.cells #[.int .u8 z.kind, .int .i64 z.slot, .int .i64 z.n, .slice sa z.bytes.size sc] 38)) ∧ Hid (∀ g, (Value.slice oa L.length oc).ownBlock = some g → ¬ g = P)) (fun iv _ _ => m - (intOf iv).toNat)
       case atStart => exact ⟨i, L, oa, oc, hi, hL, rfl, rfl, HI6.out, HP.out, HOP.out⟩
       case round =>
         obtain ⟨i, L, oa, oc, hi, hL, rfl, rfl, HI, HP, HOP⟩ := hrel
         have hXr : W.heap.size ≤ wr.heap.size := HI.out.below.size
         generalize hll : L.length = ll at *
         have HLL := Lib.hid hll
         have HLK := Lib.hid hL
         have hll4 : ll ≤ 4000 := by omega
         clear hll hL
         have HROW : Hid (wr.ownsRow Y 38 4 (.slice oa ll oc) ll (entCs L)) := by have := HI.out.row; rw [HLL.out] at this; exact this
         obtain ⟨p0, p1, p2, p3, -⟩ := quad_cells_ HP.out
         by_cases him : i < m
         · exfalso
           have := HLM.out
           omega
         · have HHD : Hid (∀ p ∈ ((fs.zip zs).drop i).head?, ¬ p.2 ≤ (k : Int)) := by
             have : (fs.zip zs).drop i = [] := List.drop_eq_nil_of_le (by
               have h1 := HLFS.out; have h2 := HZL.out; have h3 := HLM.out
               simp only [List.length_zip]; omega)
             rw [Hid, this]
             simp
           have hzm : ¬ (i : Int) < zl := by have := HLM.out; omega
           generalize hzn : z.bytes.size = zn at *
           have HZN := Lib.hid hzn
           clear hzn
           go_wp2_with (at_builtin; refine wpList_append_lies _ rfl _ _ 27 rfl Y 38 i1 (.agg #[.int .u8 0, .int .i64 0, .int .i64 0, .slice none 0 0]) 4 48 Tryz.underlying27 ji jz0 jz1 jz2 rfl (by decide) _ ll _ rfl (HROW.out.alloc _) ⟨wr.heap.size, 0, none⟩ 1 1 (entC z (.slice sa zn sc)) rfl rfl (news_k_ (World.alloc_heap_new wr (.cells #[.int .u8 z.kind, .int .i64 z.slot, .int .i64 z.n, .slice sa zn sc] 38))) (by simp [entC, Value.oneCell']) (by omega) (by unfold maxLen; omega) (by omega) (by have := HI.out.size; simp; omega) _ rfl ?_; intro g' c' w5 hown' hgrow hat hlt'; have HOWN := Lib.hid hown'; have HG := Lib.hid hgrow; clear hown' hgrow hat hlt')
           have hm5 : Mod (fun q => some q = (Value.slice oa ll oc).ownBlock) wr w5 := ((Mod.refl _ wr).alloc _).trans (Mod.of_grownBy HG.out)
           have hsv : CL[k].2 = .slice sa zn sc := HSV.out
           have hgr := HI.out.grown HC5.out (e := z) (v := .slice sa zn sc) (ov' := .slice (some ⟨g', 0, none⟩) (ll + 1) c') (k' := k + 1) (i' := i) (by have := HI.out.cfresh CL[k] (List.getElem_mem hkc); rw [hsv, HZ1.out] at this; exact this)
             (fun x hx g hg hv => by
               rw [← hsv] at hv
               rcases HI.out.src x hx g hg with ⟨j, h1, h2, h3⟩ | h1
               · exact (List.pairwise_iff_getElem.1 HC5.out.apart) j k h1 hkc h2 g h3 hv
               · have := HC5.out.low _ (List.getElem_mem hkc) g hv
                 omega)
             (fun g hg => .inl ⟨k, hkc, by omega, by rw [hsv]; exact hg⟩) (by omega) (by rw [HLL.out]; exact HOWN.out) hm5 hXr (by rw [HES.out]; exact mixP_stop HHD.out)
           have HGR := Lib.hid hgr
           clear hgr hsv hm5
           go_wp2_with fail
           have hlen : (L ++ [(z, Value.slice sa zn sc)]).length = ll + 1 := by simp [HLL.out]
           exact ⟨⟨k + 1, i, L ++ [(z, .slice sa zn sc)], some ⟨g', 0, none⟩, c', by omega, by omega, by have := HLK.out; omega, by simp, rfl, by rw [hlen], by rw [hlen]; exact HGR.out⟩, by simp [intOf]; omega⟩
     · have hkn : k = n := by omega
       subst hkn
       have hXw : W.heap.size ≤ wk.heap.size := HI.out.below.size
       have HEQ : Hid (L.map Prod.fst ++ fs.drop i = mixP 0 es (fs.zip zs)) := by
         have h9 := HI.out.eq
         rw [List.drop_eq_nil_of_le (by have := HLES.out; omega), show mixP k [] ((fs.zip zs).drop i) = ((fs.zip zs).drop i).map Prod.fst from rfl, zip_drop_map (by have := HLFS.out; have := HLM.out; have := HZL.out; omega)] at h9
         exact h9
       generalize hll : L.length = ll at *
       have HLL := Lib.hid hll
       have hll4 : ll ≤ 4000 := by omega
       clear hll hL
       have himI : (i : Int) ≤ m := by omega
       cases b with
       | none =>
         by_cases hid : i < d
         · have hidn : ¬ d = i := by omega
           have hidI : (i : Int) ≤ d := by omega
           go_wp2_with fail
           refine (chosen_any2 _ _ ⟨_, _, _, rfl⟩ ⟨_, _, rfl⟩ wk).mono ?_; rintro e W7 ⟨rfl, h7, hb7⟩
           have HI7 := Lib.hid (HI.out.mod (Mod.of_same hb7) hXw)
           have H7 := Lib.hid h7
           clear h7 hb7
           generalize wk.heap.size = bl2 at *
           go_wp2_with fail
           refine (AppendSeq_any (.slice oa ll oc) (L.map Prod.fst) W.heap.size none (m - i) (d - i) _ (fs.drop i) (fun _ => true) bl2 (bl2 + 1) (fun e he => Nat.le_trans (clean_size (HOK2.out.2 e (List.mem_of_mem_drop he))) (by omega)) (by unfold maxLen; omega) W7 (is_all W.heap.size W7) ⟨L, rfl, by have := ownsRow_base HI7.out.row hY; rw [HLL.out] at this ⊢; exact this, HI7.out.fresh, HI7.out.apart⟩ HI7.out.below.size H7.out (fun w' hw => ⟨by rw [List.length_drop]; have := HLFS.out; omega, fun i' u hu => by rw [List.drop_eq_nil_of_le (by have := HLFS.out; have := HLM.out; omega)] at hu; simp at hu⟩) (by rw [List.length_map, HLL.out, List.length_drop]; have := HOK2.out.1; omega)).mono ?_; rintro e W8 ⟨v8, rfl, ho8, hm8⟩
           rw [filter_all_, HEQ.out] at ho8
           obtain ⟨oa8, oc8, rfl⟩ := ho8.form
           have HO8 := Lib.hid ho8
           have HB8 : Hid (Below W.heap.size W W8) := HI7.out.below.trans (hm8.below HI7.out.below.size (fun q hq h => by omega))
           clear ho8 hm8
           go_wp2_with fail
           go_ret2
           exact ⟨_, rfl, HO8.out, HB8.out⟩
         · have hidn : d = i := by omega
           have hidI : (i : Int) ≤ d := by omega
           subst hidn
           go_wp2_with fail
           refine (chosen_any2 _ _ ⟨_, _, _, rfl⟩ ⟨_, _, rfl⟩ wk).mono ?_; rintro e W7 ⟨rfl, h7, hb7⟩
           have HI7 := Lib.hid (HI.out.mod (Mod.of_same hb7) hXw)
           have H7 := Lib.hid h7
           clear h7 hb7
           generalize wk.heap.size = bl2 at *
           go_wp2_with fail
           refine (AppendSeq_any (.slice oa ll oc) (L.map Prod.fst) W.heap.size none 0 0 _ (fs.drop d) (fun _ => true) bl2 (bl2 + 1) (fun e he => Nat.le_trans (clean_size (HOK2.out.2 e (List.mem_of_mem_drop he))) (by omega)) (by unfold maxLen; omega) W7 (is_all W.heap.size W7) ⟨L, rfl, by have := ownsRow_base HI7.out.row hY; rw [HLL.out] at this ⊢; exact this, HI7.out.fresh, HI7.out.apart⟩ HI7.out.below.size H7.out (fun w' hw => ⟨by rw [List.length_drop]; have := HLFS.out; omega, fun i' u hu => by rw [List.drop_eq_nil_of_le (by have := HLFS.out; have := HLM.out; omega)] at hu; simp at hu⟩) (by rw [List.length_map, HLL.out, List.length_drop]; have := HOK2.out.1; omega)).mono ?_; rintro e W8 ⟨v8, rfl, ho8, hm8⟩
           rw [filter_all_, HEQ.out] at ho8
           obtain ⟨oa8, oc8, rfl⟩ := ho8.form
           have HO8 := Lib.hid ho8
           have HB8 : Hid (Below W.heap.size W W8) := HI7.out.below.trans (hm8.below HI7.out.below.size (fun q hq h => by omega))
           clear ho8 hm8
           go_wp2_with fail
           go_ret2
           exact ⟨_, rfl, HO8.out, HB8.out⟩
       | some ad =>
         by_cases hid : i < d
         · have hidn : ¬ d = i := by omega
           have hidI : (i : Int) ≤ d := by omega
           go_wp2_with fail
           refine (chosen_any2 _ _ ⟨_, _, _, rfl⟩ ⟨_, _, rfl⟩ wk).mono ?_; rintro e W7 ⟨rfl, h7, hb7⟩
           have HI7 := Lib.hid (HI.out.mod (Mod.of_same hb7) hXw)
           have H7 := Lib.hid h7
           clear h7 hb7
           generalize wk.heap.size = bl2 at *
           go_wp2_with fail
           refine (AppendSeq_any (.slice oa ll oc) (L.map Prod.fst) W.heap.size (some (ad.add (i * 4))) (m - i) (d - i) _ (fs.drop i) (fun _ => true) bl2 (bl2 + 1) (fun e he => Nat.le_trans (clean_size (HOK2.out.2 e (List.mem_of_mem_drop he))) (by omega)) (by unfold maxLen; omega) W7 (is_all W.heap.size W7) ⟨L, rfl, by have := ownsRow_base HI7.out.row hY; rw [HLL.out] at this ⊢; exact this, HI7.out.fresh, HI7.out.apart⟩ HI7.out.below.size H7.out (fun w' hw => ⟨by rw [List.length_drop]; have := HLFS.out; omega, fun i' u hu => by rw [List.drop_eq_nil_of_le (by have := HLFS.out; have := HLM.out; omega)] at hu; simp at hu⟩) (by rw [List.length_map, HLL.out, List.length_drop]; have := HOK2.out.1; omega)).mono ?_; rintro e W8 ⟨v8, rfl, ho8, hm8⟩
           rw [filter_all_, HEQ.out] at ho8
           obtain ⟨oa8, oc8, rfl⟩ := ho8.form
           have HO8 := Lib.hid ho8
           have HB8 : Hid (Below W.heap.size W W8) := HI7.out.below.trans (hm8.below HI7.out.below.size (fun q hq h => by omega))
           clear ho8 hm8
           go_wp2_with fail
           go_ret2
           exact ⟨_, rfl, HO8.out, HB8.out⟩
         · have hidn : d = i := by omega
           have hidI : (i : Int) ≤ d := by omega
           subst hidn
           go_wp2_with fail
           refine (chosen_any2 _ _ ⟨_, _, _, rfl⟩ ⟨_, _, rfl⟩ wk).mono ?_; rintro e W7 ⟨rfl, h7, hb7⟩
           have HI7 := Lib.hid (HI.out.mod (Mod.of_same hb7) hXw)
           have H7 := Lib.hid h7
           clear h7 hb7
           generalize wk.heap.size = bl2 at *
           go_wp2_with fail
           refine (AppendSeq_any (.slice oa ll oc) (L.map Prod.fst) W.heap.size (some ad) 0 0 _ (fs.drop d) (fun _ => true) bl2 (bl2 + 1) (fun e he => Nat.le_trans (clean_size (HOK2.out.2 e (List.mem_of_mem_drop he))) (by omega)) (by unfold maxLen; omega) W7 (is_all W.heap.size W7) ⟨L, rfl, by have := ownsRow_base HI7.out.row hY; rw [HLL.out] at this ⊢; exact this, HI7.out.fresh, HI7.out.apart⟩ HI7.out.below.size H7.out (fun w' hw => ⟨by rw [List.length_drop]; have := HLFS.out; omega, fun i' u hu => by rw [List.drop_eq_nil_of_le (by have := HLFS.out; have := HLM.out; omega)] at hu; simp at hu⟩) (by rw [List.length_map, HLL.out, List.length_drop]; have := HOK2.out.1; omega)).mono ?_; rintro e W8 ⟨v8, rfl, ho8, hm8⟩
           rw [filter_all_, HEQ.out] at ho8
           obtain ⟨oa8, oc8, rfl⟩ := ho8.form
           have HO8 := Lib.hid ho8
           have HB8 : Hid (Below W.heap.size W W8) := HI7.out.below.trans (hm8.below HI7.out.below.size (fun q hq h => by omega))
           clear ho8 hm8
           go_wp2_with fail
           go_ret2
           exact ⟨_, rfl, HO8.out, HB8.out⟩
 · have hposI : (0 : Int) < zs.length := by omega
   obtain ⟨bb, bo, _, _, _, rfl, -⟩ := H2.out.at_ (i := 0) (by have := HLFS.out; have := HLM.out; omega)
   have hbl := World.block_lt_of_cell? W _ e0
   have w1 : IntKind.i64.wrap ((zs.length : Int) - 1) = ((zs.length - 1 : Nat) : Int) := by rw [IntKind.wrap_i64]; omega
   have n1 : ((zs.length - 1 : Nat) : Int) < zs.length := by omega
   have N2 : Hid ((zs.length : Int) - 1 = ((zs.length - 1 : Nat) : Int)) := by show _ = _; omega
   have hy0' : ¬ (n : Int) < zs[zs.length - 1]?.getD 0 := by omega
   have hx0' : ¬ zs[0]?.getD 0 < 0 := by omega
   generalize zs[0]?.getD 0 = x at *
   generalize zs[zs.length - 1]?.getD 0 = y at *
   generalize zs.length - 1 = z1 at *
   generalize hzl : zs.length = zl at *
   have HZL := Lib.hid hzl
   clear hzl
   go_enter Tryz.func23, Tryz.ntmps23
   go_wp2_with fail
   refine HC.out.mono ?_; rintro e W2 ⟨rfl, hb2⟩
   have HB2 := Lib.hid hb2
   clear hb2
   go_wp2_with fail
   refine (HIS.out W2 HB2.out).mono ?_; rintro e W3 ⟨rfl, q, rfl⟩
   have HB3 := Lib.hid (below_drewN_ HB2.out q)
   clear HB2 HC HIS
   generalize W2.drewN q = W3 at *
   have e0' := (HB3.out.cell (p := ⟨zb, zo, none⟩) hbl).trans e0
   have e1' := (HB3.out.cell (p := ⟨zb, zo + z1, none⟩) hbl).trans e1
   have n2 := N2.out
   clear e0 e1
   have hsumI : ¬ (4000 : Int) < (n : Int) + m := by omega
   go_wp2_with fail
   refine (chosen_any2 _ _ ⟨a, n, c, rfl⟩ ⟨_, _, rfl⟩ W3).mono ?_; rintro e W4 ⟨rfl, h4, hb4⟩
   have HB4 := Lib.hid (below_step_ HB3.out hb4)
   have H4 := Lib.hid h4
   clear h4 hb4 HB3
   generalize W3.heap.size = bl at *
   go_wp2_with fail
   refine (Collect_any a n c _ es (fun _ => true) bl (bl + 1) (fun e he => Nat.le_trans (clean_size (HOK1.out.2 e he)) (by omega)) hn W4 (is_all W4.heap.size W4) H4.out (H1.out.below HB4.out) (by have := HOK1.out.1; omega)).mono ?_; rintro e W5 ⟨cv, rfl, ho, hb5⟩
   rw [filter_all_] at ho
   obtain ⟨CL, hc1, hc2, hc3, hc4⟩ := ho
   have hcl : CL.length = n := by have := congrArg List.length hc1; simp at this; rw [this, HLES.out]
   obtain ⟨ca, cc, rfl⟩ := ownsRow_form hc2
   have hX4 : W.heap.size ≤ W4.heap.size := HB4.out.size
   have HC5 : Hid (MxC W.heap.size W5.heap.size (.slice ca CL.length cc) CL) := ⟨hc4, fun x hx g hg => by
     obtain ⟨zs', z1', -⟩ := hc3 x hx
     exact (z1'.lt g hg).2, fun g hg => (hc2.lt g hg).2, Nat.le_trans hX4 hb5.size⟩
   have HI5 : Hid (MxI W W.heap.size W5.heap.size (.slice ca CL.length cc) CL (mixP 0 es (fs.zip zs)) es (fs.zip zs) 0 0 (.slice none 0 0) [] W5) := ⟨owns_nil _ _ _ _, by simp, .nil, by simp, ownsRow_base hc2 hX4, fun x hx => (hc3 x hx).base hX4, below_step_ HB4.out hb5, Nat.le_refl _, by simp⟩
   have HM1 := Lib.hid hc1
   rw [hcl] at HC5 HI5 ⊢
   have HCL := Lib.hid hcl
   have hY : W.heap.size ≤ W5.heap.size := Nat.le_trans hX4 hb5.size
   clear hc1 hc2 hc3 hc4 hb5 hcl H4 HB4 hX4
   generalize W5.heap.size = Y at *
   clear hx0 hx0' hy0 hy0' n2 e0' e1' n1 w1
   go_wp2_with fail
   go_loopw [64, 10, 11, 12, 13] (fun kv ov iv _ _ wr => ∃ (k i : Nat) (L : List (Ent × Value)) (oa : Option Addr) (oc : Nat), k ≤ n ∧ i ≤ m ∧ L.length = k + i ∧ kv = .int .i64 k ∧ iv = .int .i64 i ∧ ov = .slice oa L.length oc ∧ Hid (MxI W W.heap.size Y (.slice ca n cc) CL (mixP 0 es (fs.zip zs)) es (fs.zip zs) k i (.slice oa L.length oc) L wr)) (fun kv _ _ _ _ _ => n - (intOf kv).toNat)
   case atStart => exact ⟨0, 0, [], none, 0, Nat.zero_le _, Nat.zero_le _, rfl, rfl, rfl, rfl, HI5.out⟩
   case round =>
     obtain ⟨k, i, L, oa, oc, hk, hi, hL, rfl, rfl, rfl, HI⟩ := hrel
     obtain ⟨wk, rfl⟩ : ∃ wk : World, wk = wr := ⟨_, rfl⟩
     clear HI5
     by_cases hlt : k < n
     · have hltI : (k : Int) < n := by omega
       have hkc : k < CL.length := by have := HCL.out; omega
       have hXw : W.heap.size ≤ wk.heap.size := HI.out.below.size
       have hcr := HI.out.crow
       rw [HCL.out] at hcr
       obtain ⟨cg, rfl, hcg, -, -, hcn, hcell⟩ := owns_parts hcr (by omega)
       have hcf := HI.out.cfresh CL[k] (List.getElem_mem hkc)
       obtain ⟨sa, sc, hsv⟩ := hcf.str.form
       have c0 := hcell _ _ (entCs_at (j := 0) hkc (by omega) |>.trans (by rfl))
       have c1 := hcell _ _ (entCs_at (j := 1) hkc (by omega) |>.trans (by rfl))
       have c2 := hcell _ _ (entCs_at (j := 2) hkc (by omega) |>.trans (by rfl))
       have c3 := hcell _ _ (entCs_at (j := 3) hkc (by omega) |>.trans (by rfl))
       simp only [Nat.add_zero] at c0
       have hek : es[k]'(by have := HLES.out; omega) = CL[k].1 := by
         have := HM1.out
         subst this
         simp
       have HES : Hid (es.drop k = CL[k].1 :: es.drop (k + 1)) := by
         rw [Hid, ← hek, List.getElem_cons_drop]
       rw [hsv] at c3
       have HSV := Lib.hid hsv
       clear hcr hcell hcf hek hsv
       generalize hz : CL[k].1 = z at *
       have HZ1 := Lib.hid hz
       clear hz
       have hm6 : Mod (fun _ => False) wk (wk.alloc (.cells #[.int .u8 z.kind, .int .i64 z.slot, .int .i64 z.n, .slice sa z.bytes.size sc] 38)) := (Mod.refl _ _).alloc _
       have HP := Lib.hid (World.alloc_heap_new wk (.cells #[.int .u8 z.kind, .int .i64 z.slot, .int .i64 z.n, .slice sa z.bytes.size sc] 38))
       have HI6 := Lib.hid (HI.out.mod hm6 hXw)
       have HOP : Hid (∀ g, (Value.slice oa L.length oc).ownBlock = some g → ¬ g = wk.heap.size) := fun g hg e => by
         have := (HI.out.row.lt g hg).2
         omega
       have hPw : wk.heap.size < (wk.alloc (.cells #[.int .u8 z.kind, .int .i64 z.slot, .int .i64 z.n, .slice sa z.bytes.size sc] 38)).heap.size := by simp
       go_wp2_with fail
       clear hm6 HI c0 c1 c2 c3
       generalize wk.alloc (.cells #[.int .u8 z.kind, .int .i64 z.slot, .int .i64 z.n, .slice sa z.bytes.size sc] 38) = W6 at *
       generalize wk.heap.size = P at *
       go_loopw [11, 10] (fun iv ov wr => ∃ (i : Nat) (L : List (Ent × Value)) (oa : Option Addr) (oc : Nat), i ≤ m ∧ L.length = k + i ∧ iv = .int .i64 i ∧ ov = .slice oa L.length oc ∧ Hid (MxI W W.heap.size Y (.slice (some ⟨cg, 0, none⟩) n cc) CL (mixP 0 es (fs.zip zs)) es (fs.zip zs) k i (.slice oa L.length oc) L wr) ∧ Hid (wr.heap[P]? = some (.cells #[.int .u8 z.kind, .int .i64 z.slot, .int .i64 z.n, .slice sa z.bytes.size sc] 38)) ∧ Hid (∀ g, (Value.slice oa L.length oc).ownBlock = some g → ¬ g = P)) (fun iv _ _ => m - (intOf iv).toNat)
       case atStart => exact ⟨i, L, oa, oc, hi, hL, rfl, rfl, HI6.out, HP.out, HOP.out⟩
       case round =>
         obtain ⟨i, L, oa, oc, hi, hL, rfl, rfl, HI, HP, HOP⟩ := hrel
         have hXr : W.heap.size ≤ wr.heap.size := HI.out.below.size
         generalize hll : L.length = ll at *
         have HLL := Lib.hid hll
         have HLK := Lib.hid hL
         have hll4 : ll ≤ 4000 := by omega
         clear hll hL
         have HROW : Hid (wr.ownsRow Y 38 4 (.slice oa ll oc) ll (entCs L)) := by have := HI.out.row; rw [HLL.out] at this; exact this
         obtain ⟨p0, p1, p2, p3, -⟩ := quad_cells_ HP.out
         by_cases him : i < m
         · have hizs : i < zs.length := by have := HZL.out; have := HLM.out; omega
           have hifs : i < fs.length := by have := HLFS.out; omega
           obtain ⟨zb', zo', e9, -, hcell⟩ := reads_cells_ (HZ.out.mod (S := fun _ => False) (Mod.of_same HI.out.below) (by simp)) (by omega)
           cases e9
           have zi := hcell i hizs
           rw [List.getElem?_eq_getElem hizs, Option.getD_some] at zi
           have hizI : (i : Int) < zl := by have := HZL.out; omega
           have HDR := Lib.hid (zip_drop_ hifs hizs)
           clear hcell
           by_cases hle : zs[i] ≤ (k : Int)
           · have hle' : zs[i] ≤ (k : Int) := hle
             have HMT : Hid (mixP k (es.drop k) ((fs.zip zs).drop i) = fs[i] :: mixP k (es.drop k) ((fs.zip zs).drop (i + 1))) := by
               rw [Hid, HES.out, HDR.out]
               exact mixP_take hle
             have HFI : Hid (fs.drop i = fs[i] :: fs.drop (i + 1)) := (List.getElem_cons_drop hifs).symm
             have HFB := Lib.hid (clean_size (HOK2.out.2 _ (List.getElem_mem hifs)))
             have hid0 : i + 1 ≤ d := by omega
             have hidI : (i : Int) + 1 ≤ d := by omega
             have hidn : ¬ d = i := by omega
             have hi1 : (i : Int) ≤ (i : Int) + 1 := by omega
             have hw1 : IntKind.i64.wrap ((i : Int) + 1) = (i : Int) + 1 := by rw [IntKind.wrap_i64]; omega
             have hi0 : (0 : Int) ≤ (i : Int) + 1 := by omega
             have hin : ((i : Int) + 1).toNat = i + 1 := by omega
             generalize zs[i] = zi' at *
             generalize fs[i] = f at *
             have hPlt : P < wr.heap.size := (Array.getElem?_eq_some_iff.1 HP.out).1
             clear p0 p1 p2 p3
             go_wp2_with fail
             refine (chosen_any2 _ _ ⟨_, 1, d - i, rfl⟩ ⟨_, _, rfl⟩ wr).mono ?_; rintro e W7 ⟨rfl, h7, hb7⟩
             have HM7 : Hid (Mod (fun _ => False) wr W7) := Mod.of_same hb7
             have HI7 := Lib.hid (HI.out.mod HM7.out hXr)
             have H7 := Lib.hid h7
             have hs7 : wr.heap.size ≤ W7.heap.size := hb7.size
             clear h7 hb7
             generalize hbl2 : wr.heap.size = bl2 at *
             have HBL2 := Lib.hid hbl2
             clear hbl2
             go_wp2_with fail
             have hsc : ScrAt W7 (some ⟨bb, bo + i * 4, none⟩) 1 [f] := by
               have h9 := ((H2.out.below HI7.out.below).drop hi).take (k := 1) (by omega)
               rw [HFI.out] at h9
               exact h9
             refine (Collect_any (some ⟨bb, bo + i * 4, none⟩) 1 (d - i) _ [f] (fun _ => true) bl2 (bl2 + 1) (fun e he => by obtain rfl := List.mem_singleton.1 he; exact Nat.le_trans HFB.out (by omega)) (by unfold maxLen; omega) W7 (is_all W7.heap.size W7) H7.out hsc (by simp)).mono ?_; rintro e W8 ⟨v8, rfl, ho8, hb8⟩
             rw [filter_all_] at ho8
             obtain ⟨l8, q1, q2, q3, -⟩ := ho8
             obtain ⟨v, rfl⟩ : ∃ v, l8 = [(f, v)] := by
               rcases l8 with _ | ⟨⟨f', v⟩, _ | ⟨y, t⟩⟩
               · simp at q1
               · simp at q1; subst q1; exact ⟨v, rfl⟩
               · simp at q1
             obtain ⟨g8, c8, rfl⟩ := owns_form_pos_ q2 (by simp)
             have hv8 := q3 _ (List.mem_singleton.2 rfl)
             dsimp only at hv8
             obtain ⟨va, vc, rfl⟩ := hv8.str.form
             rw [entCs_one] at q2
             simp only [List.length_cons, List.length_nil, Nat.zero_add] at q2
             have HM8 : Hid (Mod (fun _ => False) W7 W8) := Mod.of_same hb8
             have hX7 : W.heap.size ≤ W7.heap.size := HI7.out.below.size
             have HI8 := Lib.hid (HI7.out.mod HM8.out hX7)
             have HV8 := Lib.hid hv8
             have HQ2 := Lib.hid q2
             have hs8 : W7.heap.size ≤ W8.heap.size := hb8.size
             have HROW8 : Hid (W8.ownsRow Y 38 4 (.slice oa ll oc) ll (entCs L)) := by have := HI8.out.row; rw [HLL.out] at this; exact this
             have hY7 : Y ≤ W7.heap.size := HI7.out.size
             generalize hfz : f.bytes.size = fz at *
             have HFZ := Lib.hid hfz
             clear hfz q1 q2 q3 hv8 hb8 hsc HROW
             go_wp2_with (at_builtin; refine wpList_append_lies _ rfl _ _ 27 rfl Y 38 i1 (.agg #[.int .u8 0, .int .i64 0, .int .i64 0, .slice none 0 0]) 4 48 Tryz.underlying27 ji jz0 jz1 jz2 rfl (by decide) _ ll _ rfl HROW8.out ⟨g8, 0, none⟩ 1 c8 (entC f (.slice va fz vc)) rfl rfl (fun j u hu => HQ2.out.cells (g := g8) rfl j u hu) (by simp [entC, Value.oneCell']) (by omega) (by unfold maxLen; omega) (by omega) (by omega) _ rfl ?_; intro g' c' w5 hown' hgrow hat hlt'; have HOWN := Lib.hid hown'; have HG := Lib.hid hgrow; have HAT := Lib.hid hat; clear hown' hgrow hat hlt')
             have hm5 : Mod (fun q => some q = (Value.slice oa ll oc).ownBlock) W8 w5 := Mod.of_grownBy HG.out
             have hv8 : FreshB W8 W7.heap.size (.slice va fz vc) f.bytes := HV8.out
             have hgr := HI8.out.grown HC5.out (e := f) (v := .slice va fz vc) (ov' := .slice (some ⟨g', 0, none⟩) (ll + 1) c') (k' := k) (i' := i + 1) (hv8.base hX7)
               (fun x hx g hg hv => by
                 obtain ⟨zs', z1', -⟩ := HI7.out.fresh x hx
                 obtain ⟨zs2, z2', -⟩ := hv8
                 have h1 := (z1'.lt g hg).2
                 have h2 := (z2'.lt g hv).1
                 omega)
               (fun g hg => .inr (by
                 obtain ⟨zs2, z2', -⟩ := hv8
                 have h2 := (z2'.lt g hg).1
                 omega)) (Nat.le_refl _) (by rw [HLL.out]; exact HOWN.out) hm5 (by omega) HMT.out
             have HGR := Lib.hid hgr
             have hP5 : w5.heap[P]? = some (.cells #[.int .u8 z.kind, .int .i64 z.slot, .int .i64 z.n, .slice sa z.bytes.size sc] 38) := hm5.heap (HM8.out.heap (HM7.out.heap HP.out (by simp)) (by simp)) (fun e => HOP.out P e.symm rfl)
             have HP5 := Lib.hid hP5
             have HOP5 : Hid (∀ g, (Value.slice (some ⟨g', 0, none⟩) (ll + 1) c').ownBlock = some g → ¬ g = P) := by
               intro g hg e
               obtain rfl : g' = g := by simpa [Value.ownBlock] using hg
               rcases HAT.out with h1 | h1
               · exact HOP.out _ h1 e
               · omega
             clear hgr hv8 hm5 hP5
             go_wp2_with fail
             have hlen : (L ++ [(f, Value.slice va fz vc)]).length = ll + 1 := by simp [HLL.out]
             exact ⟨⟨i + 1, L ++ [(f, .slice va fz vc)], some ⟨g', 0, none⟩, c', by omega, by have := HLK.out; omega, by simp, by rw [hlen], by rw [hlen]; exact HGR.out, HP5.out, by rw [hlen]; exact HOP5.out⟩, by simp [intOf]; omega⟩
           · have hle' : ¬ zs[i] ≤ (k : Int) := hle
             have HHD : Hid (∀ p ∈ ((fs.zip zs).drop i).head?, ¬ p.2 ≤ (k : Int)) := by
               rw [Hid, HDR.out]
               intro p hp
               simp at hp
               subst hp
               exact hle
             generalize zs[i] = zi' at *
             generalize hzn : z.bytes.size = zn at *
             have HZN := Lib.hid hzn
             clear hzn
             go_wp2_with (at_builtin; refine wpList_append_lies _ rfl _ _ 27 rfl Y 38 i1 (.agg #[.int .u8 0, .int .i64 0, .int .i64 0, .slice none 0 0]) 4 48 Tryz.underlying27 ji jz0 jz1 jz2 rfl (by decide) _ ll _ rfl (HROW.out.alloc _) ⟨wr.heap.size, 0, none⟩ 1 1 (entC z (.slice sa zn sc)) rfl rfl (news_k_ (World.alloc_heap_new wr (.cells #[.int .u8 z.kind, .int .i64 z.slot, .int .i64 z.n, .slice sa zn sc] 38))) (by simp [entC, Value.oneCell']) (by omega) (by unfold maxLen; omega) (by omega) (by have := HI.out.size; simp; omega) _ rfl ?_; intro g' c' w5 hown' hgrow hat hlt'; have HOWN := Lib.hid hown'; have HG := Lib.hid hgrow; clear hown' hgrow hat hlt')
             have hm5 : Mod (fun q => some q = (Value.slice oa ll oc).ownBlock) wr w5 := ((Mod.refl _ wr).alloc _).trans (Mod.of_grownBy HG.out)
             have hsv : CL[k].2 = .slice sa zn sc := HSV.out
             have hgr := HI.out.grown HC5.out (e := z) (v := .slice sa zn sc) (ov' := .slice (some ⟨g', 0, none⟩) (ll + 1) c') (k' := k + 1) (i' := i) (by have := HI.out.cfresh CL[k] (List.getElem_mem hkc); rw [hsv, HZ1.out] at this; exact this)
               (fun x hx g hg hv => by
                 rw [← hsv] at hv
                 rcases HI.out.src x hx g hg with ⟨j, h1, h2, h3⟩ | h1
                 · exact (List.pairwise_iff_getElem.1 HC5.out.apart) j k h1 hkc h2 g h3 hv
                 · have := HC5.out.low _ (List.getElem_mem hkc) g hv
                   omega)
               (fun g hg => .inl ⟨k, hkc, by omega, by rw [hsv]; exact hg⟩) (by omega) (by rw [HLL.out]; exact HOWN.out) hm5 hXr (by rw [HES.out]; exact mixP_stop HHD.out)
             have HGR := Lib.hid hgr
             clear hgr hsv hm5
             go_wp2_with fail
             have hlen : (L ++ [(z, Value.slice sa zn sc)]).length = ll + 1 := by simp [HLL.out]
             exact ⟨⟨k + 1, i, L ++ [(z, .slice sa zn sc)], some ⟨g', 0, none⟩, c', by omega, by omega, by have := HLK.out; omega, by simp, rfl, by rw [hlen], by rw [hlen]; exact HGR.out⟩, by simp [intOf]; omega⟩
         · have HHD : Hid (∀ p ∈ ((fs.zip zs).drop i).head?, ¬ p.2 ≤ (k : Int)) := by
             have : (fs.zip zs).drop i = [] := List.drop_eq_nil_of_le (by
               have h1 := HLFS.out; have h2 := HZL.out; have h3 := HLM.out
               simp only [List.length_zip]; omega)
             rw [Hid, this]
             simp
           have hzm : ¬ (i : Int) < zl := by have := HLM.out; omega
           generalize hzn : z.bytes.size = zn at *
           have HZN := Lib.hid hzn
           clear hzn
           go_wp2_with (at_builtin; refine wpList_append_lies _ rfl _ _ 27 rfl Y 38 i1 (.agg #[.int .u8 0, .int .i64 0, .int .i64 0, .slice none 0 0]) 4 48 Tryz.underlying27 ji jz0 jz1 jz2 rfl (by decide) _ ll _ rfl (HROW.out.alloc _) ⟨wr.heap.size, 0, none⟩ 1 1 (entC z (.slice sa zn sc)) rfl rfl (news_k_ (World.alloc_heap_new wr (.cells #[.int .u8 z.kind, .int .i64 z.slot, .int .i64 z.n, .slice sa zn sc] 38))) (by simp [entC, Value.oneCell']) (by omega) (by unfold maxLen; omega) (by omega) (by have := HI.out.size; simp; omega) _ rfl ?_; intro g' c' w5 hown' hgrow hat hlt'; have HOWN := Lib.hid hown'; have HG := Lib.hid hgrow; clear hown' hgrow hat hlt')
           have hm5 : Mod (fun q => some q = (Value.slice oa ll oc).ownBlock) wr w5 := ((Mod.refl _ wr).alloc _).trans (Mod.of_grownBy HG.out)
           have hsv : CL[k].2 = .slice sa zn sc := HSV.out
           have hgr := HI.out.grown HC5.out (e := z) (v := .slice sa zn sc) (ov' := .slice (some ⟨g', 0, none⟩) (ll + 1) c') (k' := k + 1) (i' := i) (by have := HI.out.cfresh CL[k] (List.getElem_mem hkc); rw [hsv, HZ1.out] at this; exact this)
             (fun x hx g hg hv => by
               rw [← hsv] at hv
               rcases HI.out.src x hx g hg with ⟨j, h1, h2, h3⟩ | h1
               · exact (List.pairwise_iff_getElem.1 HC5.out.apart) j k h1 hkc h2 g h3 hv
               · have := HC5.out.low _ (List.getElem_mem hkc) g hv
                 omega)
             (fun g hg => .inl ⟨k, hkc, by omega, by rw [hsv]; exact hg⟩) (by omega) (by rw [HLL.out]; exact HOWN.out) hm5 hXr (by rw [HES.out]; exact mixP_stop HHD.out)
           have HGR := Lib.hid hgr
           clear hgr hsv hm5
           go_wp2_with fail
           have hlen : (L ++ [(z, Value.slice sa zn sc)]).length = ll + 1 := by simp [HLL.out]
           exact ⟨⟨k + 1, i, L ++ [(z, .slice sa zn sc)], some ⟨g', 0, none⟩, c', by omega, by omega, by have := HLK.out; omega, by simp, rfl, by rw [hlen], by rw [hlen]; exact HGR.out⟩, by simp [intOf]; omega⟩
     · have hkn : k = n := by omega
       subst hkn
       have hXw : W.heap.size ≤ wk.heap.size := HI.out.below.size
       have HEQ : Hid (L.map Prod.fst ++ fs.drop i = mixP 0 es (fs.zip zs)) := by
         have h9 := HI.out.eq
         rw [List.drop_eq_nil_of_le (by have := HLES.out; omega), show mixP k [] ((fs.zip zs).drop i) = ((fs.zip zs).drop i).map Prod.fst from rfl, zip_drop_map (by have := HLFS.out; have := HLM.out; have := HZL.out; omega)] at h9
         exact h9
       generalize hll : L.length = ll at *
       have HLL := Lib.hid hll
       have hll4 : ll ≤ 4000 := by omega
       clear hll hL
       by_cases hid : i < d
       · have hidn : ¬ d = i := by omega
         have hidI : (i : Int) ≤ d := by omega
         have himI : (i : Int) ≤ m := by omega
         go_wp2_with fail
         refine (chosen_any2 _ _ ⟨_, _, _, rfl⟩ ⟨_, _, rfl⟩ wk).mono ?_; rintro e W7 ⟨rfl, h7, hb7⟩
         have HI7 := Lib.hid (HI.out.mod (Mod.of_same hb7) hXw)
         have H7 := Lib.hid h7
         clear h7 hb7
         generalize wk.heap.size = bl2 at *
         go_wp2_with fail
         refine (AppendSeq_any (.slice oa ll oc) (L.map Prod.fst) W.heap.size (some ⟨bb, bo + i * 4, none⟩) (m - i) (d - i) _ (fs.drop i) (fun _ => true) bl2 (bl2 + 1) (fun e he => Nat.le_trans (clean_size (HOK2.out.2 e (List.mem_of_mem_drop he))) (by omega)) (by unfold maxLen; omega) W7 (is_all W.heap.size W7) ⟨L, rfl, by have := ownsRow_base HI7.out.row hY; rw [HLL.out] at this ⊢; exact this, HI7.out.fresh, HI7.out.apart⟩ HI7.out.below.size H7.out (fun w' hw => (H2.out.below (HI7.out.below.trans hw)).drop hi) (by rw [List.length_map, HLL.out, List.length_drop]; have := HOK2.out.1; omega)).mono ?_; rintro e W8 ⟨v8, rfl, ho8, hm8⟩
         rw [filter_all_, HEQ.out] at ho8
         obtain ⟨oa8, oc8, rfl⟩ := ho8.form
         have HO8 := Lib.hid ho8
         have HB8 : Hid (Below W.heap.size W W8) := HI7.out.below.trans (hm8.below HI7.out.below.size (fun q hq h => by omega))
         clear ho8 hm8
         go_wp2_with fail
         go_ret2
         exact ⟨_, rfl, HO8.out, HB8.out⟩
       · obtain rfl : i = d := by omega
         have himI : (i : Int) ≤ m := by omega
         go_wp2_with fail
         refine (chosen_any2 _ _ ⟨_, _, _, rfl⟩ ⟨_, _, rfl⟩ wk).mono ?_; rintro e W7 ⟨rfl, h7, hb7⟩
         have HI7 := Lib.hid (HI.out.mod (Mod.of_same hb7) hXw)
         have H7 := Lib.hid h7
         clear h7 hb7
         generalize wk.heap.size = bl2 at *
         go_wp2_with fail
         refine (AppendSeq_any (.slice oa ll oc) (L.map Prod.fst) W.heap.size (some ⟨bb, bo, none⟩) 0 0 _ (fs.drop i) (fun _ => true) bl2 (bl2 + 1) (fun e he => Nat.le_trans (clean_size (HOK2.out.2 e (List.mem_of_mem_drop he))) (by omega)) (by unfold maxLen; omega) W7 (is_all W.heap.size W7) ⟨L, rfl, by have := ownsRow_base HI7.out.row hY; rw [HLL.out] at this ⊢; exact this, HI7.out.fresh, HI7.out.apart⟩ HI7.out.below.size H7.out (fun w' hw => ⟨by rw [List.length_drop]; have := HLFS.out; omega, fun i' u hu => by rw [List.drop_eq_nil_of_le (by have := HLFS.out; omega)] at hu; simp at hu⟩) (by rw [List.length_map, HLL.out, List.length_drop]; have := HOK2.out.1; omega)).mono ?_; rintro e W8 ⟨v8, rfl, ho8, hm8⟩
         rw [filter_all_, HEQ.out] at ho8
         obtain ⟨oa8, oc8, rfl⟩ := ho8.form
         have HO8 := Lib.hid ho8
         have HB8 : Hid (Below W.heap.size W W8) := HI7.out.below.trans (hm8.below HI7.out.below.size (fun q hq h => by omega))
         clear ho8 hm8
         go_wp2_with fail
         go_ret2
         exact ⟨_, rfl, HO8.out, HB8.out⟩
end View
end Go.Proofs.YtdfmgneicdpjmaaGreat
