import Derived.Test.YtdfmgneicdpjmaaGreatW46
import Derived.Test.YtdfmgneicdpjmaaGreatW39
import Derived.Test.YtdfmgneicdpjmaaGreatW40
import Derived.Test.YtdfmgneicdpjmaaGreatW44
import Derived.Deep.RegionHeld3
namespace Go.Proofs.YtdfmgneicdpjmaaGreat
open Go.RowKit Go.Shelf
attribute [local go_sem] Oper.semAt_some
set_option linter.unusedVariables false
set_option linter.unusedSimpArgs false
set_option maxRecDepth 100000
namespace View
open Resp
theorem infoEntS : (Tryz.prog.info? 38).map (·.size) = some 4 := by kernel_rfl
theorem frame_any (slot : Int) (a : Option Addr) (n c : Nat) (W : World) : Calls Tryz.prog 36 #[.int .i64 slot, .slice a n c] W fun e w' => e = .returned (.agg #[.int .u8 1, .int .i64 slot, .int .i64 0, .slice a n c]) ∧ Below W.heap.size W w' := by
 go_enter Tryz.func36, Tryz.ntmps36
 go_wp2_with fail
 exact bodyPost_ret (results_cell_row rfl _ _ W.heap.size _ _ _ _ rfl (World.alloc_heap_new _ _) Tryz.underlying38 rfl infoEntS) rfl ⟨rfl, (Below.refl _ _).alloc (Nat.le_refl _) _⟩
theorem tick_any (W : World) : Calls Tryz.prog 39 #[] W fun e w' => e = .returned (.agg #[.int .u8 2, .int .i64 0, .int .i64 0, .slice none 0 0]) ∧ Below W.heap.size W w' := by
 go_enter Tryz.func39, Tryz.ntmps39
 go_wp2_with fail
 exact bodyPost_ret (results_cell_row rfl _ _ W.heap.size _ _ _ _ rfl (World.alloc_heap_new _ _) Tryz.underlying38 rfl infoEntS) rfl ⟨rfl, (Below.refl _ _).alloc (Nat.le_refl _) _⟩
theorem pick_any (n : Int) (W : World) : Calls Tryz.prog 54 #[.int .i64 n] W fun e w' => e = .returned (.agg #[.int .u8 3, .int .i64 0, .int .i64 n, .slice none 0 0]) ∧ Below W.heap.size W w' := by
 go_enter Tryz.func54, Tryz.ntmps54
 go_wp2_with fail
 exact bodyPost_ret (results_cell_row rfl _ _ W.heap.size _ _ _ _ rfl (World.alloc_heap_new _ _) Tryz.underlying38 rfl infoEntS) rfl ⟨rfl, (Below.refl _ _).alloc (Nat.le_refl _) _⟩
theorem same_any (a1 a2 : Option Addr) (n m c1 c2 : Nat) (xs ys : List Ent) (W : World) (h1 : ScrAt W a1 n xs) (h2 : ScrAt W a2 m ys) (hn : n ≤ 1000000) :
   Calls Tryz.prog 24 #[.slice a1 n c1, .slice a2 m c2] W fun e w' => e = .returned (.bool (decide (xs = ys))) ∧ Below W.heap.size W w' := by
 have HC := Lib.hid (EqualE_any a1 a2 n m c1 c2 xs ys W h1 h2 hn)
 clear h1 h2
 go_enter Tryz.func24, Tryz.ntmps24
 go_wp2_with fail
 refine HC.out.mono ?_; rintro e w' ⟨rfl, hb⟩
 have HB := Lib.hid hb
 clear hb
 go_wp2_with fail
 go_ret
 exact ⟨rfl, HB.out⟩
theorem tslot_yes (n s : Int) (h1 : 1 ≤ n) (h8 : n ≤ 8) (h0 : 0 ≤ s) (hs : s < n) (w : World) : Calls Tryz.prog 113 #[.int .i64 n, .int .i64 s] w fun e w' => e = .returned (.bool true) ∧ w = w' := by
 go_enter Tryz.func113, Tryz.ntmps113
 go_wp2_with (go_at_call 116; refine (slots_yes _ h1 h8 _).mono ?_; rintro e w' ⟨rfl, rfl⟩)
 go_ret
 exact ⟨by first | rfl | simp, rfl⟩
theorem bounds_yes (a b : Int) (h1 : 0 ≤ a) (h2 : a ≤ b) (h3 : b ≤ 1000000) (w : World) : Calls Tryz.prog 114 #[.int .i64 a, .int .i64 b] w fun e w' => e = .returned (.bool true) ∧ w = w' := by
 have h4 : b ≤ 1099511627776 := by omega
 go_enter Tryz.func114, Tryz.ntmps114
 go_wp2_with fail
 go_ret
 exact ⟨by first | rfl | simp, rfl⟩
theorem NeedT_zero (n a s : Int) (h1 : 1 ≤ n) (h8 : n ≤ 8) (h0 : 0 ≤ s) (hs : s < n) (ha : 0 ≤ a) (ha2 : a ≤ 1000000) (w : World) :
   Calls Tryz.prog 76 #[.int .i64 n, .int .i64 a, .int .i64 s, .int .i64 0] w fun e w' => e = .returned (.tuple #[.int .i64 0, .int .i64 0]) ∧ w = w' := by
 go_enter Tryz.func76, Tryz.ntmps76
 go_wp2_with (first | (go_at_call 113; refine (tslot_yes _ _ h1 h8 h0 hs _).mono ?_; rintro e w' ⟨rfl, rfl⟩) | (go_at_call 114; refine (bounds_yes _ _ ha (Int.le_refl _) ha2 _).mono ?_; rintro e w' ⟨rfl, rfl⟩))
 go_ret2
 exact ⟨by first | rfl | simp, rfl⟩
end View
end Go.Proofs.YtdfmgneicdpjmaaGreat

namespace Go.Proofs.YtdfmgneicdpjmaaGreat
open Go.RowKit Go.Shelf
attribute [local go_sem] Oper.semAt_some
set_option linter.unusedVariables false
set_option linter.unusedSimpArgs false
set_option maxRecDepth 100000
namespace View
open Resp
theorem SmallAt.at_ {W : World} {a : Option Addr} {n : Nat} {es : List Sml} (h : SmallAt W a n es) {i : Nat} (hi : i < n) : ∃ z b o v sa sc, es[i]? = some z ∧ a = some ⟨b, o, none⟩ ∧ b < W.heap.size ∧ W.cell? ⟨b, o + i * 4, none⟩ = some (.int .u8 z.kind) ∧ W.cell? ⟨b, o + i * 4 + 1, none⟩ = some (.int .u8 z.slot) ∧ W.cell? ⟨b, o + i * 4 + 2, none⟩ = some (.int .u8 z.n) ∧ W.cell? ⟨b, o + i * 4 + 3, none⟩ = some v ∧ StrAt W v z.bytes ∧ v = .slice sa z.bytes.size sc ∧ z.bytes.size ≤ sc ∧ SmlOk z := by
 have hl : i < es.length := by have := h.1; omega
 obtain ⟨b, o, e1, v, h0, h1, h2, h3, h4, h6, h5⟩ := h.2 i es[i] (List.getElem?_eq_getElem hl)
 obtain ⟨sa, sc, e2⟩ := h4.form
 refine ⟨es[i], b, o, v, sa, sc, List.getElem?_eq_getElem hl, e1, World.block_lt_of_cell? W _ h0, h0, h1, h2, h3, h4, e2, h6 _ _ _ e2, h5⟩
theorem StrAt.cut {W : World} {sa : Option Addr} {sc : Nat} {s : ByteArray} (h : StrAt W (.slice sa s.size sc) s) {m : Nat} (hm : m ≤ s.size) : ∃ s', StrAt W (.slice sa m sc) s' ∧ s'.size = m := by
 obtain ⟨zs, hr, hz⟩ := h
 have hl : zs.length = s.size := by rw [← hz, strOfNums_size]
 refine ⟨strOfNums (zs.take m), ⟨zs.take m, ?_, rfl⟩, by rw [strOfNums_size, List.length_take]; omega⟩
 rcases hr with ⟨a, c, h1, h2⟩ | ⟨b, o, c, h1, h2, h3⟩
 · subst h2
   obtain rfl : m = 0 := by simp at hl; omega
   exact .inl ⟨sa, sc, rfl, rfl⟩
 · rw [← hl] at h1
   obtain ⟨rfl, rfl⟩ : sa = some ⟨b, o, none⟩ ∧ sc = c := by injection h1 with h1 h4 h5; exact ⟨h1, h5⟩
   refine .inr ⟨b, o, sc, by rw [List.length_take, Nat.min_eq_left (by omega)], by rw [List.length_take]; omega, fun i hi => ?_⟩
   rw [List.length_take] at hi
   rw [List.getElem?_take_of_lt (by omega)]
   exact h3 i (by omega)
theorem clean_frame {s : Int} (h0 : 0 ≤ s) (h1 : s ≤ 255) {b : ByteArray} (hb : b.size ≤ 16384) : cleanB ⟨1, s, 0, b⟩ = true := by
 unfold cleanB withinB
 rw [if_pos rfl]
 simp only [Bool.and_eq_true, decide_eq_true_eq]
 exact ⟨⟨h0, by show s ≤ _; omega⟩, by decide, hb⟩
theorem clean_pick {n : Int} (h0 : 0 ≤ n) (h1 : n ≤ 255) : cleanB ⟨3, 0, n, ByteArray.empty⟩ = true := by
 unfold cleanB
 have e1 : ¬ (3 : Int) = 1 := by decide
 have e2 : ¬ (3 : Int) = 2 := by decide
 rw [if_neg e1, if_neg e2, if_pos rfl]
 simp only [Bool.and_eq_true]
 refine ⟨by unfold withinB; exact decide_eq_true ⟨h0, by show n ≤ _; omega⟩, by simp [sameB]⟩
def mdB (e : Ent) : Bool := cleanB e && (decide (¬ e.kind = 1) || decide (0 ≤ e.slot ∧ e.slot ≤ 3))
theorem mdB_clean {e : Ent} (h : mdB e = true) : cleanB e = true := by
 unfold mdB at h
 rw [Bool.and_eq_true] at h
 exact h.1
theorem md_frame {s : Int} (h0 : 0 ≤ s) (h1 : s ≤ 3) {b : ByteArray} (hb : b.size ≤ 16384) : mdB ⟨1, s, 0, b⟩ = true := by
 unfold mdB
 rw [clean_frame h0 (by omega) hb, decide_eq_true (show 0 ≤ s ∧ s ≤ 3 from ⟨h0, h1⟩)]
 simp
theorem md_tick : mdB ⟨2, 0, 0, ByteArray.empty⟩ = true := by decide
theorem md_pick {n : Int} (h0 : 0 ≤ n) (h1 : n ≤ 255) : mdB ⟨3, 0, n, ByteArray.empty⟩ = true := by
 unfold mdB
 rw [clean_pick h0 h1]
 rfl
theorem Grown.next {p : Ent → Bool} {W1 y1 w3 W : World} {X k : Nat} {da : Option Addr} {dc : Nat} {l : List (Ent × Value)} {e : Ent} {v v' : Value} (hl : l.length = k) (h : Grown W1 X (.slice da k dc) l) (hc : ∀ x ∈ l, p x.1 = true) (hB : Below X W W1) (hX : X ≤ W.heap.size)
   (hy : Mod (fun _ => False) W1 y1) (hv : FreshB y1 W1.heap.size v e.bytes) (he : p e = true) (ho : w3.ownsRow X 38 4 v' (k + 1) (entCs l ++ entC e v)) (hm : Mod (fun q => some q = (Value.slice da k dc).ownBlock) y1 w3) :
   (l ++ [(e, v)]).length = k + 1 ∧ Grown w3 X v' (l ++ [(e, v)]) ∧ (∀ x ∈ l ++ [(e, v)], p x.1 = true) ∧ Below X W w3 := by
 have hX1 : X ≤ W1.heap.size := Nat.le_trans hX hB.size
 have h1 := h.modLow hy (by simp)
 refine ⟨by simp [hl], ?_, fun x hx => ?_, (hB.trans (hy.below hX1 (by simp))).trans (hm.below (Nat.le_trans hX1 hy.size) (fun q hq e => by have := ownBlock_ge_ h1.1 e.symm; omega))⟩
 · refine h1.push (hv.base hX1) (fun x hx q hq hv' => ?_) (by rw [hl]; exact ho) hm
   obtain ⟨zs, z1, -⟩ := h.2.1 x hx
   obtain ⟨zs2, z2, -⟩ := hv
   have h7 := (z1.lt q hq).2
   have h8 := (z2.lt q hv').1
   omega
 · rcases List.mem_append.1 hx with hx | hx
   · exact hc x hx
   · rw [List.mem_singleton.1 hx]; exact he
theorem FreshB.nul (W : World) (base : Nat) : FreshB W base (.slice none 0 0) ByteArray.empty := ⟨[], owns_nil _ _ _ _, rfl⟩
set_option maxHeartbeats 8000000 in
theorem Made_any (a : Option Addr) (n c : Nat) (es : List Sml) (W : World) (h : SmallAt W a n es) (hnc : n ≤ c) (hc : c ≤ maxLen) (hb : ∀ e ∈ es, e.bytes.size ≤ 140737488351232) :
   Calls Tryz.prog 19 #[.slice a n c] W fun e w' => ∃ v fs, e = .returned v ∧ OwnScr w' W.heap.size v fs ∧ fs.length = min n 60 ∧ (∀ e ∈ fs, mdB e = true) ∧ Below W.heap.size W w' := by
 obtain ⟨i1, ji, jz0, jz1, jz2⟩ := info_parts infoEnt
 have H := Lib.hid h
 have HL := Lib.hid h.1
 have HBY := Lib.hid hb
 obtain ⟨m, hm⟩ : ∃ m, min n 60 = m := ⟨_, rfl⟩
 have hmI : min (n : Int) 60 = (m : Int) := by omega
 have hm60 : m ≤ 60 := by omega
 have hm60I : (m : Int) ≤ 60 := by omega
 have hmn : m ≤ n := by omega
 rw [hm]
 clear h hb hm
 generalize hX : W.heap.size = X at *
 have HX := Lib.hid hX
 have HXW : Hid (X ≤ W.heap.size) := Nat.le_of_eq hX.symm
 clear hX
 go_enter Tryz.func19, Tryz.ntmps19
 go_wp2_with fail
 clear hmI
 go_loopw [3, 12, 5] (fun d i _ wr => ∃ (k : Nat) (l : List (Ent × Value)) (da : Option Addr) (dc : Nat), k ≤ m ∧ l.length = k ∧ i = .int .i64 k ∧ d = .slice da k dc ∧ Hid (Grown wr X (.slice da k dc) l) ∧ Hid (∀ x ∈ l, mdB x.1 = true) ∧ Hid (Below X W wr)) (fun _ i _ _ => m - (intOf i).toNat)
 case atStart => exact ⟨0, [], none, 0, Nat.zero_le _, rfl, rfl, rfl, ⟨owns_nil _ _ _ _, by simp, .nil⟩, (fun x hx => by cases hx), Below.refl _ _⟩
 case round =>
   obtain ⟨k, l, da, dc, hk, hlk, rfl, rfl, HR, HCL, HB⟩ := hrel
   by_cases hlt : k < m
   · have hltI : (k : Int) < m := by omega
     have hXw : X ≤ wr.heap.size := by have h1 := HB.out.size; have h2 := HX.out; omega
     have HBW : Hid (Below W.heap.size W wr) := by rw [HX.out]; exact HB.out
     have HS := Lib.hid (H.out.below HBW.out)
     obtain ⟨z, b, o, v, sa, sc, hz, rfl, hbl, c0, c1, c2, c3, hst, rfl, hcap, hok⟩ := HS.out.at_ (Nat.lt_of_lt_of_le hlt hmn)
     have HSZ := Lib.hid (HBY.out z (List.mem_of_getElem? hz))
     have hm1 : Mod (fun _ => False) wr (wr.alloc (.cells #[.int .u8 z.kind, .int .u8 z.slot, .int .u8 z.n, .slice sa z.bytes.size sc] 113)) := (Mod.refl _ _).alloc _
     have HP := Lib.hid (World.alloc_heap_new wr (.cells #[.int .u8 z.kind, .int .u8 z.slot, .int .u8 z.n, .slice sa z.bytes.size sc] 113))
     have HV1 := Lib.hid (hst.mod hm1 (by simp))
     have HR1 := Lib.hid (HR.out.modLow hm1 (by simp))
     have HB1 : Hid (Below X W (wr.alloc (.cells #[.int .u8 z.kind, .int .u8 z.slot, .int .u8 z.n, .slice sa z.bytes.size sc] 113))) := HB.out.trans (hm1.below hXw (by simp))
     have hX1 := Nat.le_trans hXw hm1.size
     obtain ⟨⟨hk0, hk1⟩, ⟨hs0, hs1⟩, hn0, hn1⟩ := hok
     have HZN : Hid (0 ≤ z.n ∧ z.n < 256) := ⟨hn0, by omega⟩
     clear hz hbl hst HS HBW hm1 hXw
     have hw1 : IntKind.i64.wrap ((k : Int) + 1) = (k : Int) + 1 := by rw [IntKind.wrap_i64]; omega
     go_upto_region 5 with fail
     clear c0 c1 c2 c3
     generalize wr.alloc (.cells #[.int .u8 z.kind, .int .u8 z.slot, .int .u8 z.n, .slice sa z.bytes.size sc] 113) = W1 at *
     generalize wr.heap.size = P at *
     obtain ⟨p0, p1, p2, p3, -⟩ := quad_cells_ HP.out
     generalize hzz : z.bytes.size = zn at *
     have HZZ := Lib.hid hzz
     clear hzz
     have HLL := Lib.hid hlk
     have HNE : Hid (¬ some P = (Value.slice da k dc).ownBlock) := own_other_ (by have := HR1.out.1; rw [HLL.out] at this; exact this) HP.out (by decide)
     have HRR : Hid (W1.ownsRow X 38 4 (.slice da k dc) k (entCs l)) := by have := HR1.out.1; rw [HLL.out] at this; exact this
     clear hlk
     have hq4 : z.kind % 4 = 3 ∨ z.kind % 4 = 0 ∨ z.kind % 4 = 1 ∨ z.kind % 4 = 2 := by omega
     rcases hq4 with hq | hq | hq | hq
     · have HCE : ∀ zs : List Int, zs.length ≤ 16384 → Hid (mdB ⟨1, z.slot % 4, 0, strOfNums zs⟩ = true) := fun zs h => md_frame (by omega) (by omega) (by rw [strOfNums_size]; exact h)
       have hsl : IntKind.i64.wrap (z.slot.tmod 4) = z.slot % 4 := by rw [Int.tmod_eq_emod_of_nonneg hs0, IntKind.wrap_i64]; omega
       go_upto_region 8 with fail
       go_region_held3 (fun w => w.cell? ⟨P, 0, none⟩ = some (.int .u8 z.kind) ∧ w.cell? ⟨P, 1, none⟩ = some (.int .u8 z.slot) ∧ w.cell? ⟨P, 2, none⟩ = some (.int .u8 z.n) ∧ w.cell? ⟨P, 3, none⟩ = some (.slice sa zn sc))
         (first | (with_reducible exact HK2.out) | (with_reducible exact HK1.out) | exact ⟨p0, p1, p2, p3⟩ | go_keep)
         ((first
           | (go_at_call 58; refine (Eng.Request_any z.n HZN.out.1 HZN.out.2 _).mono ?_; rintro e y1 ⟨v1, zs, rfl, ho1, hl1, hb1⟩; obtain ⟨a1, c1, rfl⟩ := ownsRow_form ho1; have HF1 := Lib.hid (show FreshB y1 _ _ (strOfNums zs) from ⟨zs, ho1, rfl⟩); have HL1 := Lib.hid hl1; have HLZ := Lib.hid (strOfNums_size zs); obtain ⟨zn1, hzn1⟩ : ∃ q, zs.length = q := ⟨_, rfl⟩; have HZ1 := Lib.hid hzn1; rw [hzn1] at HF1 HL1 ⊢; clear ho1 hl1 hzn1; have HY1 : Hid (Mod (fun _ => False) W1 y1) := Mod.of_same (below_step_ (by repeat (first | exact Below.refl _ _ | refine below_drew_ ?_ | refine below_alloc_ ?_ _)) hb1); have HK1 : Hid (y1.cell? ⟨P, 0, none⟩ = some (.int .u8 z.kind) ∧ y1.cell? ⟨P, 1, none⟩ = some (.int .u8 z.slot) ∧ y1.cell? ⟨P, 2, none⟩ = some (.int .u8 z.n) ∧ y1.cell? ⟨P, 3, none⟩ = some (.slice sa zn sc)) := ⟨HY1.out.cell (by simp) p0, HY1.out.cell (by simp) p1, HY1.out.cell (by simp) p2, HY1.out.cell (by simp) p3⟩; clear hb1)
           | (refine step_append_lies _ (by rfl) _ _ _ (by rfl) X 38 i1 _ 4 48 Tryz.underlying27 ji jz0 jz1 jz2 rfl (by omega) (.slice da k dc) k _ (by rfl) (owns_up (ownsRow_mod HRR.out HY1.out (by simp)) (by repeat (first | exact Below.refl _ _ | refine below_alloc_ ?_ _ | refine below_drew_ ?_))) ⟨y1.heap.size, 0, none⟩ 1 1 [.int .u8 1, .int .i64 (z.slot % 4), .int .i64 0, .slice a1 zn1 c1] (by rfl) (by rfl) (news_four_ (by simp) (by simp [hsl]) (by simp) (by simp)) (by simp [Value.oneCell']) (by omega) (by unfold maxLen; omega) (by omega) (by have := HY1.out.size; simp; omega) _ (by rfl) ?_; intro g3 c3 w3 hown3 hgrow3 hat3 hlt3; have HO3 := Lib.hid hown3; have HM3 := Lib.hid ((Mod.of_same (S := fun q => some q = (Value.slice da k dc).ownBlock) (w := y1) (by repeat (first | exact Below.refl _ _ | refine below_alloc_ ?_ _ | refine below_drew_ ?_))).trans (Mod.of_grownBy hgrow3)); have HK2 : Hid (w3.cell? ⟨P, 0, none⟩ = some (.int .u8 z.kind) ∧ w3.cell? ⟨P, 1, none⟩ = some (.int .u8 z.slot) ∧ w3.cell? ⟨P, 2, none⟩ = some (.int .u8 z.n) ∧ w3.cell? ⟨P, 3, none⟩ = some (.slice sa zn sc)) := ⟨HM3.out.cell HNE.out (HY1.out.cell (by simp) p0), HM3.out.cell HNE.out (HY1.out.cell (by simp) p1), HM3.out.cell HNE.out (HY1.out.cell (by simp) p2), HM3.out.cell HNE.out (HY1.out.cell (by simp) p3)⟩; clear hown3 hgrow3 hat3 hlt3)))
       obtain ⟨e1, e2, e3, e4⟩ := Grown.next (e := ⟨1, z.slot % 4, 0, strOfNums zs⟩) HLL.out HR1.out HCL.out HB1.out HXW.out HY1.out HF1.out (HCE zs (by rw [HZ1.out]; exact HL1.out)).out HO3.out HM3.out
       have HR3 := Lib.hid e2
       have HC3 := Lib.hid e3
       have HB3 := Lib.hid e4
       rename_i hHeld0
       clear e2 e3 e4 hHeld0 HK1 HK2
       go_wp2_with fail
       exact ⟨⟨k + 1, _, some ⟨g3, 0, none⟩, c3, by omega, e1, by simp, rfl, HR3.out, HC3.out, HB3.out⟩, by simp [intOf]; omega⟩
     · obtain ⟨zm, hzm⟩ : ∃ q, min zn 40 = q := ⟨_, rfl⟩
       obtain ⟨s2, hs2, hss⟩ := StrAt.cut (m := zm) (by rw [HZZ.out]; exact HV1.out) (by rw [HZZ.out]; omega)
       have HV2 := Lib.hid hs2
       have HS2 := Lib.hid hss
       have HCE : Hid (mdB ⟨1, z.slot % 4, 0, s2⟩ = true) := md_frame (by omega) (by omega) (by rw [hss]; omega)
       have hsl : IntKind.i64.wrap (z.slot.tmod 4) = z.slot % 4 := by rw [Int.tmod_eq_emod_of_nonneg hs0, IntKind.wrap_i64]; omega
       have hzmI : min (zn : Int) 40 = (zm : Int) := by omega
       have hzc : zm ≤ sc := by omega
       have hz40 : zm ≤ 40 := by omega
       clear hs2 hss hzm
       go_upto_region 10 with fail
       go_region_held3 (fun w => w.cell? ⟨P, 0, none⟩ = some (.int .u8 z.kind) ∧ w.cell? ⟨P, 1, none⟩ = some (.int .u8 z.slot) ∧ w.cell? ⟨P, 2, none⟩ = some (.int .u8 z.n) ∧ w.cell? ⟨P, 3, none⟩ = some (.slice sa zn sc))
         (first | (with_reducible exact HK2.out) | (with_reducible exact HK1.out) | exact ⟨p0, p1, p2, p3⟩ | go_keep)
         ((first
           | (go_at_call 59; refine (CloneB_any _ s2 _ (by exact HV2.out) (by rw [HS2.out]; omega)).mono ?_; rintro e y1 ⟨v1, rfl, hf1, hb1⟩; have HF1 := Lib.hid hf1; obtain ⟨a1, c1, e1⟩ := hf1.str.form; rw [HS2.out] at e1; subst e1; clear hf1; have HY1 : Hid (Mod (fun _ => False) W1 y1) := Mod.of_same (below_step_ (by repeat (first | exact Below.refl _ _ | refine below_drew_ ?_ | refine below_alloc_ ?_ _)) hb1); have HK1 : Hid (y1.cell? ⟨P, 0, none⟩ = some (.int .u8 z.kind) ∧ y1.cell? ⟨P, 1, none⟩ = some (.int .u8 z.slot) ∧ y1.cell? ⟨P, 2, none⟩ = some (.int .u8 z.n) ∧ y1.cell? ⟨P, 3, none⟩ = some (.slice sa zn sc)) := ⟨HY1.out.cell (by simp) p0, HY1.out.cell (by simp) p1, HY1.out.cell (by simp) p2, HY1.out.cell (by simp) p3⟩; clear hb1)
           | (refine step_append_lies _ (by rfl) _ _ _ (by rfl) X 38 i1 _ 4 48 Tryz.underlying27 ji jz0 jz1 jz2 rfl (by omega) (.slice da k dc) k _ (by rfl) (owns_up (ownsRow_mod HRR.out HY1.out (by simp)) (by repeat (first | exact Below.refl _ _ | refine below_alloc_ ?_ _ | refine below_drew_ ?_))) ⟨y1.heap.size, 0, none⟩ 1 1 [.int .u8 1, .int .i64 (z.slot % 4), .int .i64 0, .slice a1 zm c1] (by rfl) (by rfl) (news_four_ (by simp) (by simp [hsl]) (by simp) (by simp)) (by simp [Value.oneCell']) (by omega) (by unfold maxLen; omega) (by omega) (by have := HY1.out.size; simp; omega) _ (by rfl) ?_; intro g3 c3 w3 hown3 hgrow3 hat3 hlt3; have HO3 := Lib.hid hown3; have HM3 := Lib.hid ((Mod.of_same (S := fun q => some q = (Value.slice da k dc).ownBlock) (w := y1) (by repeat (first | exact Below.refl _ _ | refine below_alloc_ ?_ _ | refine below_drew_ ?_))).trans (Mod.of_grownBy hgrow3)); have HK2 : Hid (w3.cell? ⟨P, 0, none⟩ = some (.int .u8 z.kind) ∧ w3.cell? ⟨P, 1, none⟩ = some (.int .u8 z.slot) ∧ w3.cell? ⟨P, 2, none⟩ = some (.int .u8 z.n) ∧ w3.cell? ⟨P, 3, none⟩ = some (.slice sa zn sc)) := ⟨HM3.out.cell HNE.out (HY1.out.cell (by simp) p0), HM3.out.cell HNE.out (HY1.out.cell (by simp) p1), HM3.out.cell HNE.out (HY1.out.cell (by simp) p2), HM3.out.cell HNE.out (HY1.out.cell (by simp) p3)⟩; clear hown3 hgrow3 hat3 hlt3)))
       obtain ⟨e1, e2, e3, e4⟩ := Grown.next (e := ⟨1, z.slot % 4, 0, s2⟩) HLL.out HR1.out HCL.out HB1.out HXW.out HY1.out HF1.out HCE.out HO3.out HM3.out
       have HR3 := Lib.hid e2
       have HC3 := Lib.hid e3
       have HB3 := Lib.hid e4
       rename_i hHeld0
       clear e2 e3 e4 hHeld0 HK1 HK2
       go_wp2_with fail
       exact ⟨⟨k + 1, _, some ⟨g3, 0, none⟩, c3, by omega, e1, by simp, rfl, HR3.out, HC3.out, HB3.out⟩, by simp [intOf]; omega⟩
     · have HCE : Hid (mdB ⟨2, 0, 0, ByteArray.empty⟩ = true) := md_tick
       go_upto_region 12 with fail
       go_wp2_with fail
       refine (tick_any _).mono ?_; rintro e y1 ⟨rfl, hb1⟩
       have HY1 : Hid (Mod (fun _ => False) W1 y1) := Mod.of_same hb1
       clear hb1
       go_wp2_with (at_builtin; refine wpList_append_own _ rfl _ _ 27 rfl X 38 i1 _ 4 48 Tryz.underlying27 ji jz0 jz1 jz2 rfl (by decide) (.slice da k dc) k _ rfl ((ownsRow_mod HRR.out HY1.out (by simp)).alloc _) ⟨y1.heap.size, 0, none⟩ 1 1 [.int .u8 2, .int .i64 0, .int .i64 0, .slice none 0 0] rfl rfl (news_four_ (by simp) (by simp) (by simp) (by simp)) (by simp [Value.oneCell']) (by unfold maxLen; omega) (by omega) (by have := HY1.out.size; simp; omega) ?_; intro v' w3 hown3 hgrow3 hat3; obtain ⟨g3, c3, e3⟩ := owns_form_pos_ hown3 (by omega); subst e3; have HO3 := Lib.hid hown3; have HM3 := Lib.hid ((Mod.of_same (S := fun q => some q = (Value.slice da k dc).ownBlock) (w := y1) (by repeat (first | exact Below.refl _ _ | refine below_alloc_ ?_ _ | refine below_drew_ ?_))).trans (Mod.of_grownBy hgrow3)); clear hown3 hgrow3 hat3)
       obtain ⟨e1, e2, e3, e4⟩ := Grown.next (e := ⟨2, 0, 0, ByteArray.empty⟩) HLL.out HR1.out HCL.out HB1.out HXW.out HY1.out (FreshB.nul _ _) HCE.out HO3.out HM3.out
       have HR3 := Lib.hid e2
       have HC3 := Lib.hid e3
       have HB3 := Lib.hid e4
       clear e2 e3 e4
       go_wp2_with fail
       exact ⟨⟨k + 1, _, some ⟨g3, 0, none⟩, c3, by omega, e1, by simp, rfl, HR3.out, HC3.out, HB3.out⟩, by simp [intOf]; omega⟩
     · have HCE : Hid (mdB ⟨3, 0, z.n, ByteArray.empty⟩ = true) := md_pick hn0 hn1
       have hcn : IntKind.i64.wrap z.n = z.n := by rw [IntKind.wrap_i64]; omega
       go_upto_region 6 with fail
       go_wp2_with fail
       refine (pick_any z.n _).mono ?_; rintro e y1 ⟨rfl, hb1⟩
       have HY1 : Hid (Mod (fun _ => False) W1 y1) := Mod.of_same hb1
       clear hb1
       go_wp2_with (at_builtin; refine wpList_append_own _ rfl _ _ 27 rfl X 38 i1 _ 4 48 Tryz.underlying27 ji jz0 jz1 jz2 rfl (by decide) (.slice da k dc) k _ rfl ((ownsRow_mod HRR.out HY1.out (by simp)).alloc _) ⟨y1.heap.size, 0, none⟩ 1 1 [.int .u8 3, .int .i64 0, .int .i64 z.n, .slice none 0 0] rfl rfl (news_four_ (by simp) (by simp) (by simp) (by simp)) (by simp [Value.oneCell']) (by unfold maxLen; omega) (by omega) (by have := HY1.out.size; simp; omega) ?_; intro v' w3 hown3 hgrow3 hat3; obtain ⟨g3, c3, e3⟩ := owns_form_pos_ hown3 (by omega); subst e3; have HO3 := Lib.hid hown3; have HM3 := Lib.hid ((Mod.of_same (S := fun q => some q = (Value.slice da k dc).ownBlock) (w := y1) (by repeat (first | exact Below.refl _ _ | refine below_alloc_ ?_ _ | refine below_drew_ ?_))).trans (Mod.of_grownBy hgrow3)); clear hown3 hgrow3 hat3)
       obtain ⟨e1, e2, e3, e4⟩ := Grown.next (e := ⟨3, 0, z.n, ByteArray.empty⟩) HLL.out HR1.out HCL.out HB1.out HXW.out HY1.out (FreshB.nul _ _) HCE.out HO3.out HM3.out
       have HR3 := Lib.hid e2
       have HC3 := Lib.hid e3
       have HB3 := Lib.hid e4
       clear e2 e3 e4
       go_wp2_with fail
       exact ⟨⟨k + 1, _, some ⟨g3, 0, none⟩, c3, by omega, e1, by simp, rfl, HR3.out, HC3.out, HB3.out⟩, by simp [intOf]; omega⟩
   · obtain rfl : k = m := by omega
     go_wp2_with fail
     go_ret
     exact ⟨_, _, rfl, Grown.own HR.out, by simp [hlk], fun e he => by obtain ⟨x, hx, rfl⟩ := List.mem_map.1 he; exact HCL.out x hx, HB.out⟩
end View
end Go.Proofs.YtdfmgneicdpjmaaGreat

namespace Go.Proofs.YtdfmgneicdpjmaaGreat
open Go.RowKit Go.Shelf
attribute [local go_sem] Oper.semAt_some
set_option linter.unusedVariables false
set_option linter.unusedSimpArgs false
set_option maxRecDepth 100000
namespace View
open Resp
theorem lacks1_any (e : Ent) (v : Value) (W : World) (hv : StrAt W v e.bytes) :
   Calls Tryz.prog 75 #[.agg #[.int .u8 e.kind, .int .i64 e.slot, .int .i64 e.n, v]] W fun r w' => r = .returned (.bool (tickB e)) ∧ Below W.heap.size W w' := by
 obtain ⟨a, c, rfl⟩ := hv.form
 have hbz : Below W.heap.size W (W.alloc (.cells #[.int .u8 e.kind, .int .i64 e.slot, .int .i64 e.n, .slice a e.bytes.size c] 38)) := (Below.refl _ _).alloc (Nat.le_refl _) _
 have HB := Lib.hid hbz
 clear hbz hv
 by_cases hk : e.kind = 2
 · have HE : Hid (tickB e = true) := by simp [Hid, tickB, hk]
   rw [hk] at HB ⊢
   clear hk
   go_enter Tryz.func75, Tryz.ntmps75
   go_wp2_with fail
   go_ret
   exact ⟨by rw [HE.out]; rfl, HB.out⟩
 · have hk' : (e.kind == 2) = false := by simpa using hk
   have HE : Hid (tickB e = false) := by simp [Hid, tickB, hk]
   clear hk
   go_enter Tryz.func75, Tryz.ntmps75
   go_wp2_with fail
   go_ret
   exact ⟨by rw [HE.out]; rfl, HB.out⟩
theorem is_tick (base : Nat) (W : World) : IsAt (.func (.func 75) #[] #[]) tickB (Below base W) :=
 ⟨_, _, rfl, enters_of Tryz.func75 (by kernel_rfl) rfl, fun e v A hA hv => lacks1_any e v A hv⟩
theorem moves_ex {W : World} {base : Nat} {v : Value} {l : List ((Bool × ByteArray) × Value)} {f : ByteArray} (h : OMv W base v l) (hl : l.map Prod.fst = [(false, f), (true, ByteArray.empty)]) (hf : f.size = 1) : MovesAt W v [false, true] := by
 rcases l with _ | ⟨⟨m1, v1⟩, _ | ⟨⟨m2, v2⟩, _ | ⟨y, t⟩⟩⟩
 · simp at hl
 · simp at hl
 · simp at hl
   obtain ⟨rfl, rfl⟩ := hl
   obtain ⟨a, c, rfl⟩ := ownsRow_form h.1
   obtain ⟨g, rfl, -, -, -, -, hcell⟩ := owns_parts h.1 (by simp)
   obtain ⟨zs, z1, z2⟩ := h.2.1 _ (List.mem_cons_self)
   dsimp only [movO] at z1 z2
   have hz : zs.length = 1 := by rw [← hf, ← z2, strOfNums_size]
   obtain ⟨z, rfl⟩ := List.length_eq_one_iff.1 hz
   obtain ⟨q, qc, rfl⟩ := owns_form_pos_ z1 (by simp)
   have hv2 : v2 = .slice none 0 0 := h.2.2.2 ((true, ByteArray.empty), v2) (by simp) rfl
   subst hv2
   refine .inr ⟨g, c, rfl, fun i hi => ?_⟩
   have hc0 := hcell 0 _ rfl
   have hc1 := hcell 1 _ rfl
   have hc2 := hcell 2 _ rfl
   have hc3 := hcell 3 _ rfl
   have hq := row_one8_ (W := W) (base := base) (g := q) (c := qc) (fr := .int .u8 z) z1
   simp at hi
   rcases i with _ | _ | i
   · exact ⟨hc0, .inr ⟨rfl, q, qc, z, hc1, hq⟩⟩
   · exact ⟨hc2, .inl ⟨rfl, hc3⟩⟩
   · omega
 · simp at hl
def LkI (W : World) (base Tk k : Nat) (A : World) : Prop := A.heap[Tk]? = some (.cells #[.int .i64 (k : Int)] 3) ∧ Below base W A
set_option maxHeartbeats 4000000 in
theorem Lacks_ex (a : Option Addr) (m c : Nat) (es : List Ent) (W : World) (h : ScrAt W a m es) (hn : m ≤ maxLen) (hE : wrg1 0 es = 0) (f : ByteArray) (hmv : (mv 2 0 es).2 = [(false, f), (true, ByteArray.empty)]) (hf : f.size = 1) :
   Calls Tryz.prog 28 #[.slice a m c, .int .i64 2, .int .i64 0] W fun e w' => e = .returned (.tuple #[.int .i64 0, .int .i64 0]) ∧ Below W.heap.size W w' := by
 have HOK := Lib.hid (chk_ok (wrg1_ok hE).1)
 have HMV := Lib.hid (Moves_yes 2 0 (by omega) (by omega) (by omega) a m c es W h hn hE)
 have HS := Lib.hid h
 have HF := Lib.hid hf
 have HMF := Lib.hid hmv
 clear h hE hmv hf
 refine (callsIn_wide (n := 8)).1 ?_
 refine callsIn_of_wp_marks Tryz.func28 rfl trivial ?_ rfl
 simp only [Tryz.ntmps28, List.size_toArray, List.length_cons, List.length_nil, Nat.reduceAdd, Nat.reduceSub, Array.replicate_succ, Array.replicate_zero, List.push_toArray, List.append_toArray, List.nil_append, List.cons_append]
 refine wpIn_wide.2 ?_
 go_wp2_with fail
 refine HMV.out.mono ?_; rintro e W2 ⟨v, l, rfl, hl, ho, hb2⟩
 rw [HMF.out] at hl
 have hex := moves_ex ho hl HF.out
 obtain ⟨va, vc, hv⟩ := MovesAt.form hex
 subst hv
 have HB2 := Lib.hid hb2
 have HEX := Lib.hid hex
 clear hl ho hb2 hex HMV
 go_wp2_with fail
 refine (Need_any _ [false, true] W2 HEX.out (by simp) (by simp [framesN])).mono ?_; rintro e W3 ⟨rfl, hb3⟩
 have HB3 := Lib.hid (below_step_ HB2.out hb3)
 clear hb3 HEX HB2
 go_upto_region 8 with fail
 have ht := World.alloc_heap_new W3 (.cells #[.int .i64 0] 3)
 have hm4 : Mod (fun _ => False) W3 (W3.alloc (.cells #[.int .i64 0] 3)) := (Mod.refl _ _).alloc _
 generalize W3.alloc (.cells #[.int .i64 0] 3) = W4 at *
 have HB4 : Hid (Below W.heap.size W W4) := HB3.out.trans (hm4.below HB3.out.size (by simp))
 have HT4 := Lib.hid ht
 have hTW : W.heap.size ≤ W3.heap.size := HB3.out.size
 clear ht hm4 HB3
 generalize W3.heap.size = Tk at *
 go_wp2_with fail
 refine (chosen_any2 _ _ ⟨a, m, c, rfl⟩ ⟨_, _, rfl⟩ W4).mono ?_; rintro e W5 ⟨rfl, h5, hb5⟩
 have HM5 : Hid (Mod (fun _ => False) W4 W5) := Mod.of_same hb5
 have HB5 := Lib.hid (below_step_ HB4.out hb5)
 have HT5 := Lib.hid (HM5.out.heap HT4.out (by simp))
 have H5 := Lib.hid h5
 clear h5 hb5 HM5 HT4 HB4
 generalize W4.heap.size = bl at *
 go_wp2_with fail
 have hGm : ∀ A B, Below W.heap.size W A → Mod (fun _ => False) A B → Below W.heap.size W B := below_mod_ (Nat.le_refl _)
 have HGM := Lib.hid hGm
 have HST5 : Hid (ChSt a m c (.func (.func 75) #[] #[]) es bl (bl + 1) (Below W.heap.size W) W5) := ⟨H5.out.1, H5.out.2, HS.out.below HB5.out, HB5.out⟩
 have HI0 : Hid (LkI W W.heap.size Tk 0 W5) := ⟨HT5.out, HB5.out⟩
 have HW5 : Hid (W.heap.size ≤ W5.heap.size) := HB5.out.size
 clear hGm H5 HT5 HB5
 refine (wpIn_wide (n := 8)).1 ?_
 refine wpIn_rangeFunc_st3 rfl (by omega) (gf := 101) (lb := #[.pointer (some ⟨bl, 0, none⟩), .pointer (some ⟨bl + 1, 0, none⟩)]) rfl trivial (enters_of Tryz.func101 (by kernel_rfl) rfl) (fun _ => rfl)
   (chosen1_fr 7 (by omega) a m c (.func (.func 75) #[] #[]) es tickB bl (bl + 1) (Below W.heap.size W) HGM.out (is_tick W.heap.size W) (fun e he => Nat.le_trans (clean_size (HOK.out.2 e he)) (by omega)) hn)
   (fun k hk => hk.elim)
   (fun A' hA => HST5.out.mod HGM.out ((Mod.of_below hA).mono (fun k hk h => by omega)))
   (fun k A' l o1 o' hl hlo ho hS => hS.put o' hlo ho (fun hg => below_put_ hg (Nat.le_refl _) o' (by have := HW5.out; omega)))
   (LkI W W.heap.size Tk)
   (fun k A' A'' hI' hm => ⟨hm.heap hI'.1 (by simp), HGM.out _ _ hI'.2 hm⟩)
   (fun k A' q o1 o' hl hlo ho hI' => ⟨heap_put_ o' hlo ho hI'.1, below_put_ hI'.2 (Nat.le_refl _) o' (by have := HW5.out; omega)⟩)
   HI0.out
   (fun k a' A => (∃ x, a' = (fun x : Value => ({ tmps := #[.slice a m c, .int .i64 2, .int .i64 0, undef, undef, undef, .int .i64 0, .int .i64 0, .slice va 2 vc, .int .i64 0, .int .i64 0, .pointer (some ⟨Tk, 0, none⟩), .tuple #[.slice va 2 vc, .int .i64 0], .slice a m c, .int .i64 2, .int .i64 0, .tuple #[.slice va 2 vc, .int .i64 0], .slice va 2 vc, .int .i64 0, .int .i64 0, .bool false, undef, .tuple #[.int .i64 0, .int .i64 0], .slice va 2 vc, .tuple #[.int .i64 0, .int .i64 0], .int .i64 0, .int .i64 0, .int .i64 0, .bool false, undef, .slice a m c, .func (.func 101) #[] #[.pointer (some ⟨bl, 0, none⟩), .pointer (some ⟨bl + 1, 0, none⟩)], x, undef, undef, undef, undef, undef, undef, undef, undef, undef], defers := [] } : Act)) x) ∧ LkI W W.heap.size Tk k A ∧ ChSt a m c (.func (.func 75) #[] #[]) es bl (bl + 1) (Below W.heap.size W) A)
   (fun k a' A' l o1 o' hl hlo ho hA => ⟨hA.1, ⟨heap_put_ o' hlo ho hA.2.1.1, below_put_ hA.2.1.2 (Nat.le_refl _) o' (by have := HW5.out; omega)⟩, hA.2.2.put o' hlo ho (fun hg => below_put_ hg (Nat.le_refl _) o' (by have := HW5.out; omega))⟩)
   ?assign ?body ?done
 case assign =>
   intro l k x W0 Wc K hk hsz hI' hm0 hY hK
   obtain ⟨e, v, he, rfl, hf, hch⟩ := hY
   have hI2 : LkI W W.heap.size Tk k Wc := ⟨hm0.heap hI'.1 (by simp), HGM.out _ _ hI'.2 hm0⟩
   simp only [entV]
   gi_wp2
   exact hK _ _ (keepsFrom_mod_ (Mod.refl (fun _ => False) Wc) (fun q o1 _ h => h.elim)) ⟨⟨_, rfl⟩, hI2, hch⟩
 case body =>
   intro l k a' Wc hk hA
   obtain ⟨⟨x, rfl⟩, ⟨ht, hbel⟩, hch⟩ := hA
   have qt := cell_of_heap_ ht
   have qf : Wc.frozen? ⟨Tk, 0, none⟩ = false := by simp [World.frozen?, ht]
   have HT := Lib.hid ht
   have HBL := Lib.hid hbel
   have HCH := Lib.hid hch
   have hkl : (k : Int) ≤ 4000 := by
     have h1 := List.length_filter_le tickB es
     have h2 := HOK.out.1
     omega
   have hw1 : IntKind.i64.wrap ((k : Int) + 1) = (k : Int) + 1 := by rw [IntKind.wrap_i64]; omega
   clear ht hbel hch
   gi_wp2
   have hms := mod_set_ Wc Tk 0 (.int .i64 ((k : Int) + 1))
   have hb2 : Below W.heap.size W (Wc.setCell ⟨Tk, 0, none⟩ (.int .i64 ((k : Int) + 1))) := HBL.out.trans (hms.below HBL.out.size (fun q hq h => by omega))
   have hnt : ∀ {q : Nat} {cs : Array Value} {ty : TypeId}, Wc.heap[q]? = some (.cells cs ty) → ¬ 3 = ty → ¬ q = Tk := by
     rintro q cs ty hq h1 rfl
     rw [HT.out] at hq; cases hq; exact h1 rfl
   refine ⟨keepsFrom_mod_ hms ?_, ⟨?_, hb2⟩, hms.heap HCH.out.1 (hnt HCH.out.1 (by decide)), hms.heap HCH.out.2.1 (hnt HCH.out.2.1 (by decide)), HS.out.below hb2, hb2⟩
   · rintro q o1 hq h ho
     rw [h, HT.out] at ho; cases ho; rfl
   · have := heap_set_ HT.out 0 (.int .i64 ((k : Int) + 1))
     simpa using this
 case done =>
   intro D Wc hD hI' hS hK
   obtain ⟨ht, hbel⟩ := hI'
   have hkl : ((es.filter tickB).length : Int) ≤ 4000 := by
     have h1 := List.length_filter_le tickB es
     have h2 := HOK.out.1
     omega
   generalize (es.filter tickB).length = tn at *
   have htn : (0 : Int) ≤ tn := by omega
   have qt := cell_of_heap_ ht
   have HBL := Lib.hid hbel
   have HK := Lib.hid hK
   clear ht hbel hK hS
   simp only [Exit.inBlock, Exit.then]
   go_wp2_with fail
   refine (NeedT_zero 2 tn 0 (by omega) (by omega) (by omega) (by omega) htn (by omega) Wc).mono ?_; rintro e W8 ⟨rfl, rfl⟩
   go_wp2_with fail
   refine ⟨by simp, .inl ⟨_, _, rfl, run_takeDeferred HK.out, ?_⟩⟩
   refine ⟨_, results_tmp2 rfl _ _ _, rfl, below_put_ HBL.out (Nat.le_refl _) _ (by have := HW5.out; omega)⟩
end View
end Go.Proofs.YtdfmgneicdpjmaaGreat
