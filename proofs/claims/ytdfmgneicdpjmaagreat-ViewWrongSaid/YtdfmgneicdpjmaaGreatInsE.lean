import Derived.Test.YtdfmgneicdpjmaaGreatM11
import Derived.Test.YtdfmgneicdpjmaaGreatFermCopyK
import Derived.Deep.RegionLaw
namespace Go.Proofs.YtdfmgneicdpjmaaGreat
open Go.RowKit Go.Shelf Go.Lib
set_option linter.unusedVariables false
set_option linter.unusedSimpArgs false
set_option maxRecDepth 100000
namespace InsE
open Resp App
theorem infoE : (Tryz.prog.info? 38).map (fun i => (i.zero, i.size, i.bytes)) = some (some (.agg #[.int .u8 0, .int .i64 0, .int .i64 0, .slice none 0 0]), 4, 48) := by kernel_rfl
set_option maxHeartbeats 4000000 in
theorem Insert_any (base n i vb : Nat) (v : Value) (xs new : List Value) (w : World) (hown : w.ownsRow base 38 4 v n xs) (hb : base ≤ w.heap.size) (hn : n ≤ 1000000) (hi : i ≤ n) (hx1 : ∀ u ∈ xs, u.oneCell' = true) (hn1 : ∀ u ∈ new, u.oneCell' = true)
   (hvb : w.heap[vb]? = some (.cells new.toArray 38)) (hnl : new.length = 4) (hne : ¬ v.ownBlock = some vb) :
   Calls Tryz.prog 37 #[v, .int .i64 i, .slice (some ⟨vb, 0, none⟩) 1 1] w fun e w' => ∃ v', e = .returned v' ∧ w'.ownsRow base 38 4 v' (n + 1) (xs.take (i * 4) ++ new ++ xs.drop (i * 4)) ∧ Mod (fun q => some q = v.ownBlock) w w' := by
 obtain ⟨i0, ji, jz0, jz1, jz2⟩ := info_parts infoE
 have hnews : ∀ (j : Nat) (u : Value), new[j]? = some u → w.cell? ((⟨vb, 0, none⟩ : Addr).add j) = some u := fun j u hj => by
   rw [Addr.add_lit]
   simp only [World.cell?, hvb, Nat.zero_add]
   simpa using hj
 have hxl : xs.length = n * 4 := hown.1
 rcases hown.2 with ⟨rfl, rfl⟩ | ⟨g, cap, cur, rfl, hbg, hg, h1, h2, h3, h4⟩
 · obtain rfl : i = 0 := by omega
   have hx0 : xs = [] := List.length_eq_zero_iff.1 (by omega)
   subst hx0
   have HO := Lib.hid hown
   have HN := Lib.hid hnews
   clear hown hnews
   go_enter Tryz.func37, Tryz.ntmps37
   go_wp2_with (at_builtin; (refine wpList_append_own _ rfl _ _ 27 rfl base 38 i0 _ 4 48 Tryz.underlying27 ji jz0 jz1 jz2 rfl (by decide) (.slice none 0 0) 0 _ rfl HO.out ⟨vb, 0, none⟩ 1 1 new rfl (by omega) HN.out hn1 (by unfold maxLen; omega) (by omega) (by omega) ?_); intro v' w3 hown3 hgrow3 hat3; obtain ⟨g3, c3, e3⟩ := owns_pos_ hown3 (by omega); subst e3; have HO3 := Lib.hid hown3; have HM3 := Lib.hid (Mod.of_grownBy hgrow3); clear hown3 hgrow3 hat3)
   go_ret
   exact ⟨_, rfl, by simpa using HO3.out, HM3.out⟩
 · have hcI : (n : Int) ≤ (cap : Int) := by omega
   have hcm : (cap : Int) ≤ 9223372036854775807 := by unfold maxLen at h2; omega
   by_cases hin : i = n
   · subst hin
     rw [List.take_of_length_le (by omega), List.drop_of_length_le (by omega), List.append_nil]
     have HO := Lib.hid hown
     have HN := Lib.hid hnews
     clear hown hnews h4 h3 hg
     go_enter Tryz.func37, Tryz.ntmps37
     go_wp2_with (at_builtin; (refine wpList_append_own _ rfl _ _ 27 rfl base 38 i0 _ 4 48 Tryz.underlying27 ji jz0 jz1 jz2 rfl (by decide) (.slice (some ⟨g, 0, none⟩) i cap) i _ rfl HO.out ⟨vb, 0, none⟩ 1 1 new rfl (by omega) HN.out hn1 (by unfold maxLen; omega) (by omega) (by omega) ?_); intro v' w3 hown3 hgrow3 hat3; obtain ⟨g3, c3, e3⟩ := owns_pos_ hown3 (by omega); subst e3; have HO3 := Lib.hid hown3; have HM3 := Lib.hid (Mod.of_grownBy hgrow3); clear hown3 hgrow3 hat3)
     all_goals (go_ret; exact ⟨_, rfl, HO3.out, HM3.out⟩)
   · have hi2 : i < n := by omega
     have hnl1 : (cur.toList.take (n * 4)).length = n * 4 := by rw [h4, hxl]
     have hgv : ¬ g = vb := fun e => hne (by rw [e]; rfl)
     have HN := Lib.hid hnews
     have hz2 : ¬ ((i : Int) = (n : Int)) := by omega
     have hsz : (Tryz.prog.info? 38).map (·.size) = some 4 := by rw [ji]; simp [jz1]
     have hw1 : IntKind.i64.wrap ((i : Int) + 1) = (i : Int) + 1 := by rw [IntKind.wrap_i64]; omega
     have hin' : i ≤ n := by omega
     clear hown
     by_cases hroom : n + 1 ≤ cap
     · have hov : ∀ o lb cb, (callFunc 81 #[.slice (some ⟨vb, 0, none⟩) 1 1, .slice (some ⟨g, o, none⟩) lb cb]).run Tryz.prog w = .ok (.value (.bool false)) w := fun o lb cb => by
         rw [run_callFunc_extern Tryz.func81 (by kernel_rfl) (by kernel_rfl) (by kernel_rfl) (e := Extern.SlicesOverlaps.overlaps #[27, 27] #[4]) (by kernel_rfl),
           Lib.run_overlaps_apart w 27 4 38 Tryz.underlying27 4 (fun w => by simp [Go.sizeOf, typeInfo, ji, jz1]) ⟨vb, 0, none⟩ ⟨g, o, none⟩ 1 1 lb cb (fun e => hgv e.symm) 38 38 4 (cap * 4) (by simp [World.shape?, hvb, hnl]) (by simp [World.shape?, hg, h3]) (by omega) (by simp [World.frozen?, hvb]) (by simp [World.frozen?, hvb])]
         rfl
       have hroomI : (n : Int) + 1 ≤ (cap : Int) := by omega
       have hdl : (xs.drop (i * 4)).length = (n - i) * 4 := by rw [List.length_drop, hxl, Nat.sub_mul]
       have hcell : ∀ (j : Nat) (u : Value), (xs.drop (i * 4))[j]? = some u → w.cell? ⟨g, i * 4 + j, none⟩ = some u := fun j u hj => by
         rw [List.getElem?_drop, ← h4, List.getElem?_take] at hj
         split at hj
         · simp only [World.cell?, hg]; simpa using hj
         · cases hj
       have hAk : (i + 1) * 4 = i * 4 + 4 := by omega
       have hNk : (n + 1) * 4 = n * 4 + 4 := by omega
       have hsz1 : (n + 1) * 4 ≤ cur.size := by rw [h3]; exact Nat.mul_le_mul_right _ hroom
       obtain ⟨R1, hR1⟩ : ∃ R1, R1 = (cur.toList.take (i * 4 + 4) ++ xs.drop (i * 4) ++ cur.toList.drop (i * 4 + 4 + (n * 4 - i * 4))).toArray := ⟨_, rfl⟩
       have hR1s : R1.size = cur.size := by rw [hR1]; simp only [List.size_toArray, List.length_append, List.length_take, List.length_drop, hxl, Array.length_toList]; omega
       obtain ⟨R2, hR2⟩ : ∃ R2, R2 = (R1.toList.take (i * 4) ++ new ++ R1.toList.drop (i * 4 + 4)).toArray := ⟨_, rfl⟩
       have hfin : R2.toList.take ((n + 1) * 4) = xs.take (i * 4) ++ new ++ xs.drop (i * 4) := by
         rw [hR2, hR1, hNk]
         have := shift_list (R := cur.toList) (new := new) (X := xs.drop (i * 4)) (A := i * 4) (N := n * 4) (k := 4) (by omega) (by rw [Array.length_toList]; omega) hnl (by rw [List.length_drop, hxl])
         rw [this, ← h4, List.take_take, Nat.min_eq_left (by omega)]
       have hR2s : R2.size = cap * 4 := by rw [hR2]; simp only [List.size_toArray, List.length_append, List.length_take, List.length_drop, hnl, Array.length_toList, hR1s, h3]; omega
       have hcp1 : ∀ (W : World), W.heap = w.heap → ∀ ty dc sc, (Builtin.copy_ #[27, 27] ty #[.slice (some ⟨g, (i + 1) * 4, none⟩) (n - i) dc, .slice (some ⟨g, i * 4, none⟩) (n + 1 - i) sc]).run Tryz.prog W = .ok (goInt ((n - i : Nat) : Int)) (W.setRow g R1) := fun W hW ty dc sc => by
         have hmin : Nat.min (n + 1 - i) (n - i) = n - i := by simp only [Nat.min_def]; split <;> omega
         have := run_copy_rowK (P := Tryz.prog) 4 W 27 27 ty 38 g ((i + 1) * 4) (n - i) dc ⟨g, i * 4, none⟩ (n + 1 - i) sc cur 38 (xs.drop (i * 4)) Tryz.underlying27 hsz (by rw [hW]; exact hg) (by rw [hmin, hdl]) (fun j u hj => by rw [Addr.add_lit]; simp only [World.cell?, hW]; exact hcell j u hj) (by rw [hdl]; omega) (fun u hu => hx1 u (List.mem_of_mem_drop hu))
         rw [hmin, hdl, hAk] at this
         rw [hAk, this, hR1, Nat.sub_mul]
       have hcp2 : ∀ (W : World), W.heap[g]? = some (.cells R1 38) → W.heap[vb]? = w.heap[vb]? → ∀ ty dc, (Builtin.copy_ #[27, 27] ty #[.slice (some ⟨g, i * 4, none⟩) (n + 1 - i) dc, .slice (some ⟨vb, 0, none⟩) 1 1]).run Tryz.prog W = .ok (goInt ((1 : Nat) : Int)) (W.setRow g R2) := fun W hW hV ty dc => by
         have hmin : Nat.min 1 (n + 1 - i) = 1 := by simp only [Nat.min_def]; split <;> omega
         have := run_copy_rowK (P := Tryz.prog) 4 W 27 27 ty 38 g (i * 4) (n + 1 - i) dc ⟨vb, 0, none⟩ 1 1 R1 38 new Tryz.underlying27 hsz hW (by rw [hmin, hnl]) (fun j u hj => by have := HN.out j u hj; rw [Addr.add_lit] at this ⊢; simp only [World.cell?, hV] at this ⊢; exact this) (by rw [hnl, hR1s]; omega) hn1
         rw [hmin, hnl] at this
         rw [this, hR2]
       have HFIN := Lib.hid hfin
       have HR2S := Lib.hid hR2s
       have HG := Lib.hid hg
       clear hfin hR2s hR2 hR1 hR1s hcell hdl h4 h3 hnl1 hxl hx1 hn1 hnl hvb hnews hAk hNk hsz1
       go_enter Tryz.func37, Tryz.ntmps37
       go_wp2_with (simp only [hov])
       have hb1 : (0 : Int) ≤ (i : Int) + 1 := by omega
       have htn : ((i : Int) + 1).toNat = i + 1 := by omega
       have hb2 : ¬ (cap = i + 1) := by omega
       have hb3 : (i : Int) ≤ (n : Int) + 1 := by omega
       have hb4 : ¬ (cap = i) := by omega
       go_region_law (refine step_copy_run_ (by rfl) _ _ 27 27 (by rfl) (.slice (some ⟨g, (i + 1) * 4, none⟩) (n - i) (cap - (i + 1))) (.slice (some ⟨g, i * 4, none⟩) (n + 1 - i) (cap - i)) (by simp [Act.eval, Act.put]) (by simp [Act.eval, Act.put]) (hcp1 _ (by rfl) _ _ _) ?_)
       have hc2 := hcp2 (w.drew.setRow g R1) (by exact row_heap_ HG.out) (by simp only [World.setRow, Array.getElem?_modify]; rw [if_neg hgv]; rfl) 3 (cap - i)
       clear hcp1 hcp2
       go_wp2_with fail
       go_ret
       refine ⟨_, rfl, ⟨by rw [← HFIN.out, List.length_take, Array.length_toList, HR2S.out]; exact Nat.min_eq_left (Nat.mul_le_mul_right _ hroom), .inr ⟨g, cap, R2, rfl, hbg, row_heap_ (row_heap_ HG.out), by omega, h2, HR2S.out, HFIN.out⟩⟩, ?_⟩
       exact (((Mod.refl _ w).drew).trans ((row_mod_ _ g R1).mono (fun q _ h => by subst h; rfl))).trans ((row_mod_ _ g R2).mono (fun q _ h => by subst h; rfl))
     · have hroomI : (cap : Int) < (n : Int) + 1 := by omega
       have hroomN : cap < n + 1 := by omega
       have hAk : (i + 1) * 4 = i * 4 + 4 := by omega
       have hNk : (n + 1) * 4 = n * 4 + 4 := by omega
       have hold : (Builtin.firstCells i0.size i (.slice (some ⟨g, 0, none⟩) i cap)).run Tryz.prog w.drew = .ok (xs.take (i * 4)).toArray w.drew := by
         rw [jz1]
         exact run_firstCells_some (w := w.drew) 4 i ⟨g, 0, none⟩ i cap (xs.take (i * 4)) (by rw [List.length_take]; omega) (fun j u hj => by
           rw [Addr.add_lit, Nat.zero_add]
           rw [← h4, List.take_take, Nat.min_eq_left (by omega), List.getElem?_take] at hj
           split at hj
           · have hg' : w.drew.heap[g]? = some (.cells cur 38) := hg
             simp only [World.cell?, hg']; simpa using hj
           · cases hj)
       have hik : i + (n + 1 - i) = n + 1 := by omega
       have hkk : ((n + 1 - i : Nat) : Int) = (n : Int) + 1 - (i : Int) := by omega
       have hrz := Lib.run_append_grow_zeros (P := Tryz.prog) w 27 3 27 38 i0 _ .i64 .i64 Tryz.underlying27 Tryz.underlying3 ji jz0 (some ⟨g, 0, none⟩) i cap (xs.take (i * 4)) hold (n + 1 - i) (by omega) (by omega) (by omega) (by omega) (by rw [jz2]; omega) (by rw [jz2, hik]; exact growslice_fits (by omega) (by omega))
       rw [hik, hkk] at hrz
       have hGn : n + 1 ≤ grownCap w (n + 1) cap 38 := grownCap_ge w _ _ _
       have hG63 : grownCap w (n + 1) cap 38 ≤ maxLen := grownCap_le_maxLen w (n + 1) cap 38 (by unfold maxLen; omega)
       generalize grownCap w (n + 1) cap 38 = G at *
       obtain ⟨ROW, hROW⟩ : ∃ ROW : Array Value, ROW = (xs.take (i * 4)).toArray ++ Builtin.zeroCells (.agg #[.int .u8 0, .int .i64 0, .int .i64 0, .slice none 0 0] : Value).cells (n + 1 - i) ++ Builtin.zeroCells (.agg #[.int .u8 0, .int .i64 0, .int .i64 0, .slice none 0 0] : Value).cells (G - (n + 1)) := ⟨_, rfl⟩
       rw [← hROW] at hrz
       have hRs : ROW.size = G * 4 := by
         rw [hROW]
         simp only [Array.size_append, Builtin.zeroCells, Array.size_map, Array.size_range, List.size_toArray, List.length_take, hxl]
         show min (i * 4) (n * 4) + (n + 1 - i) * 4 + (G - (n + 1)) * 4 = G * 4
         rw [Nat.min_eq_left (by omega)]
         omega
       have hRt : ROW.toList.take (i * 4) = xs.take (i * 4) := by
         rw [hROW, Array.toList_append, Array.toList_append, List.append_assoc]
         exact List.take_left' (by simp [hxl]; omega)
       clear hROW hold
       go_enter Tryz.func37, Tryz.ntmps37
       go_upto_region 10 with (at_builtin; refine Lib.wpList_append_run _ rfl _ _ _ _ rfl _ _ rfl rfl _ _ hrz ?_)
       clear hrz
       have hgl : g < w.heap.size := (Array.getElem?_eq_some_iff.1 hg).1
       have hvl : vb < w.heap.size := (Array.getElem?_eq_some_iff.1 hvb).1
       have hm1 : Mod (fun _ => False) w (w.alloc (.cells ROW 38)).drew := ((Mod.refl _ _).alloc _).drew
       have hH : (w.alloc (.cells ROW 38)).drew.heap[w.heap.size]? = some (.cells ROW 38) := World.alloc_heap_new w _
       have hg1 := hm1.heap hg (fun h => h)
       have hv1 := hm1.heap hvb (fun h => h)
       have HM1 := Lib.hid hm1
       have HHW := Lib.hid hb
       generalize (w.alloc (.cells ROW 38)).drew = W1 at *
       generalize hNN : w.heap.size = N at *
       have HNN := Lib.hid hNN
       clear hm1 hNN hb
       have hgN : ¬ N = g := by omega
       have hvN : ¬ N = vb := by omega
       have hdl : (xs.drop (i * 4)).length = (n - i) * 4 := by rw [List.length_drop, hxl, Nat.sub_mul]
       have hRge : (n + 1) * 4 ≤ ROW.size := by rw [hRs]; exact Nat.mul_le_mul_right _ hGn
       obtain ⟨R1, hR1⟩ : ∃ R1, R1 = (ROW.toList.take (i * 4) ++ new ++ ROW.toList.drop (i * 4 + 4)).toArray := ⟨_, rfl⟩
       have hR1s : R1.size = ROW.size := by rw [hR1]; simp only [List.size_toArray, List.length_append, List.length_take, List.length_drop, hnl, Array.length_toList]; omega
       obtain ⟨R2, hR2⟩ : ∃ R2, R2 = (R1.toList.take (i * 4 + 4) ++ xs.drop (i * 4) ++ R1.toList.drop (i * 4 + 4 + (n * 4 - i * 4))).toArray := ⟨_, rfl⟩
       have hfin : R2.toList.take ((n + 1) * 4) = xs.take (i * 4) ++ new ++ xs.drop (i * 4) := by
         rw [hR2, hR1, hNk]
         have := grow_list (R := ROW.toList) (new := new) (X := xs.drop (i * 4)) (A := i * 4) (N := n * 4) (k := 4) (by omega) (by rw [Array.length_toList]; omega) hnl (by rw [List.length_drop, hxl])
         rw [this, hRt]
       have hR2s : R2.size = G * 4 := by rw [hR2]; simp only [List.size_toArray, List.length_append, List.length_take, List.length_drop, hxl, Array.length_toList, hR1s, hRs]; omega
       have hc1 : ∀ ty, (Builtin.copy_ #[27, 27] ty #[.slice (some ⟨N, i * 4, none⟩) (n + 1 - i) (G - i), .slice (some ⟨vb, 0, none⟩) 1 1]).run Tryz.prog W1 = .ok (goInt ((1 : Nat) : Int)) (W1.setRow N R1) := fun ty => by
         have hmin : Nat.min 1 (n + 1 - i) = 1 := by simp only [Nat.min_def]; split <;> omega
         have := run_copy_rowK (P := Tryz.prog) 4 W1 27 27 ty 38 N (i * 4) (n + 1 - i) (G - i) ⟨vb, 0, none⟩ 1 1 ROW 38 new Tryz.underlying27 hsz hH (by rw [hmin, hnl]) (fun j u hj => by rw [Addr.add_lit, Nat.zero_add]; simp only [World.cell?, hv1]; simpa using hj) (by rw [hnl]; omega) hn1
         rw [hmin, hnl] at this
         rw [this, hR1]
       have hc1' := hc1 3
       have hcp2 : ∀ (W : World), W.heap[N]? = some (.cells R1 38) → W.heap[g]? = some (.cells cur 38) → ∀ ty dc sc, (Builtin.copy_ #[27, 27] ty #[.slice (some ⟨N, (i + 1) * 4, none⟩) (n - i) dc, .slice (some ⟨g, i * 4, none⟩) (n - i) sc]).run Tryz.prog W = .ok (goInt ((n - i : Nat) : Int)) (W.setRow N R2) := fun W hW hV ty dc sc => by
         have hmin : Nat.min (n - i) (n - i) = n - i := Nat.min_self _
         have := run_copy_rowK (P := Tryz.prog) 4 W 27 27 ty 38 N ((i + 1) * 4) (n - i) dc ⟨g, i * 4, none⟩ (n - i) sc R1 38 (xs.drop (i * 4)) Tryz.underlying27 hsz hW (by rw [hmin, hdl]) (fun j u hj => by
           rw [Addr.add_lit]
           rw [List.getElem?_drop, ← h4, List.getElem?_take] at hj
           split at hj
           · simp only [World.cell?, hV]; simpa using hj
           · cases hj) (by rw [hdl, hR1s]; omega) (fun u hu => hx1 u (List.mem_of_mem_drop hu))
         rw [hmin, hdl, hAk] at this
         rw [hAk, this, hR2, Nat.sub_mul]
       have HFIN := Lib.hid hfin
       have HR2S := Lib.hid hR2s
       have HH := Lib.hid hH
       have HG1 := Lib.hid hg1
       clear hfin hR2s hR2 hR1 hR1s hdl h4 h3 hnl1 hxl hx1 hn1 hnl hvb hnews hAk hNk hRge hRs hRt hik hkk hc1 hg1 hv1 hH hg
       have hb1 : (0 : Int) ≤ (i : Int) + 1 := by omega
       have htn : ((i : Int) + 1).toNat = i + 1 := by omega
       have hb2 : ¬ (G = i + 1) := by omega
       have hb3 : (i : Int) ≤ (n : Int) + 1 := by omega
       have hb4 : ¬ (G = i) := by omega
       have hb5 : ¬ (cap = i) := by omega
       have hb6 : (n : Int) + 1 ≤ (G : Int) := by omega
       have hb7 : (G : Int) ≤ 9223372036854775807 := by unfold maxLen at hG63; omega
       go_wp2_with fail
       clear hc1'
       go_region_law (refine step_copy_run_ (by rfl) _ _ 27 27 (by rfl) (.slice (some ⟨N, (i + 1) * 4, none⟩) (n - i) (G - (i + 1))) (.slice (some ⟨g, i * 4, none⟩) (n - i) (cap - i)) (by simp [Act.eval, Act.put]) (by simp [Act.eval, Act.put]) (hcp2 _ (by exact row_heap_ HH.out) (by simp only [World.drew, World.setRow, Array.getElem?_modify]; rw [if_neg hgN]; exact HG1.out) _ _ _) ?_)
       go_wp2_with fail
       go_ret
       have hmm : Mod (fun _ => False) w ((W1.setRow N R1).drew.setRow N R2) := by
         refine ⟨HM1.out.os, HM1.out.tape, HM1.out.output, by simp [World.setRow, World.drew]; exact HM1.out.size, fun q hq _ => ?_⟩
         simp only [World.drew, World.setRow, Array.getElem?_modify]
         rw [if_neg (by have := HNN.out; omega), if_neg (by have := HNN.out; omega)]
         exact HM1.out.block q hq (fun h => h)
       exact ⟨_, rfl, ⟨by rw [← HFIN.out, List.length_take, Array.length_toList, HR2S.out]; exact Nat.min_eq_left (Nat.mul_le_mul_right _ hGn), .inr ⟨N, G, R2, rfl, HHW.out, row_heap_ (row_heap_ HH.out), by omega, hG63, HR2S.out, HFIN.out⟩⟩, hmm.mono (fun _ _ h => h.elim)⟩
end InsE
end Go.Proofs.YtdfmgneicdpjmaaGreat
