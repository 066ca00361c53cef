import Derived.Test.YtdfmgneicdpjmaaGreatW44
namespace Go.Proofs.YtdfmgneicdpjmaaGreat
open Go.RowKit Go.Shelf
set_option linter.unusedVariables false
set_option linter.unusedSimpArgs false
set_option maxRecDepth 100000
namespace View
open Resp
set_option maxHeartbeats 1000000 in
theorem same1_any (k1 s1 n1 k2 s2 n2 : Int) (v1 v2 : Value) (b1 b2 : ByteArray) (w : World) (h1 : StrAt w v1 b1) (h2 : StrAt w v2 b2) :
   Calls Tryz.prog 70 #[.agg #[.int .u8 k1, .int .i64 s1, .int .i64 n1, v1], .agg #[.int .u8 k2, .int .i64 s2, .int .i64 n2, v2]] w fun e w' => e = .returned (.bool (sameB ⟨k1, s1, n1, b1⟩ ⟨k2, s2, n2, b2⟩)) ∧ Below w.heap.size w w' := by
 obtain ⟨a1, c1, rfl⟩ := h1.form
 obtain ⟨a2, c2, rfl⟩ := h2.form
 have H1 := Lib.hid h1
 have H2 := Lib.hid h2
 clear h1 h2
 have hb2 : Below w.heap.size w ((w.alloc (.cells #[.int .u8 k1, .int .i64 s1, .int .i64 n1, .slice a1 b1.size c1] 38)).alloc (.cells #[.int .u8 k2, .int .i64 s2, .int .i64 n2, .slice a2 b2.size c2] 38)) := ((Below.refl _ _).alloc (Nat.le_refl _) _).alloc (by simp) _
 have HB := Lib.hid hb2
 clear hb2
 by_cases hk : k1 = k2
 · by_cases hs : s1 = s2
   · by_cases hn : n1 = n2
     · subst hk hs hn
       have HE : Hid (sameB ⟨k1, s1, n1, b1⟩ ⟨k1, s1, n1, b2⟩ = decide (b1 = b2)) := by simp [Hid, sameB]
       go_enter Tryz.func70, Tryz.ntmps70
       go_wp2_with fail
       refine (EqualB_any _ _ b1 b2 _ (StrAt.below H1.out HB.out) (StrAt.below H2.out HB.out)).mono ?_; rintro e w' ⟨rfl, rfl⟩
       go_wp2_with fail
       go_ret
       exact ⟨by rw [HE.out]; rfl, HB.out⟩
     · have hn' : (n1 == n2) = false := by simpa using hn
       have HE : Hid (sameB ⟨k1, s1, n1, b1⟩ ⟨k2, s2, n2, b2⟩ = false) := by simp [Hid, sameB, hn]
       subst hk hs
       clear hn
       go_enter Tryz.func70, Tryz.ntmps70
       go_wp2_with fail
       go_ret
       exact ⟨by rw [HE.out]; rfl, HB.out⟩
   · have hs' : (s1 == s2) = false := by simpa using hs
     have HE : Hid (sameB ⟨k1, s1, n1, b1⟩ ⟨k2, s2, n2, b2⟩ = false) := by simp [Hid, sameB, hs]
     subst hk
     clear hs
     go_enter Tryz.func70, Tryz.ntmps70
     go_wp2_with fail
     go_ret
     exact ⟨by rw [HE.out]; rfl, HB.out⟩
 · have hk' : (k1 == k2) = false := by simpa using hk
   have HE : Hid (sameB ⟨k1, s1, n1, b1⟩ ⟨k2, s2, n2, b2⟩ = false) := by simp [Hid, sameB, hk]
   clear hk
   go_enter Tryz.func70, Tryz.ntmps70
   go_wp2_with fail
   go_ret
   exact ⟨by rw [HE.out]; rfl, HB.out⟩
theorem sameB_eq (a b : Ent) : sameB a b = decide (a = b) := by
 rcases a with ⟨k, s, n, x⟩
 rcases b with ⟨k', s', n', x'⟩
 rw [Bool.eq_iff_iff]
 simp [sameB]
 constructor
 · rintro ⟨⟨⟨h1, h2⟩, h3⟩, h4⟩; exact ⟨h1, h2, h3, h4⟩
 · rintro ⟨h1, h2, h3, h4⟩; exact ⟨⟨⟨h1, h2⟩, h3⟩, h4⟩
theorem alike1_any (t1 t2 : Bool) (v1 v2 : Value) (s1 s2 : ByteArray) (w : World) (h1 : StrAt w v1 s1) (h2 : StrAt w v2 s2) :
   Calls Tryz.prog 74 #[.agg #[.bool t1, v1], .agg #[.bool t2, v2]] w fun e w' => e = .returned (.bool (decide ((t1, s1) = (t2, s2)))) ∧ Below w.heap.size w w' := by
 obtain ⟨a1, c1, rfl⟩ := h1.form
 obtain ⟨a2, c2, rfl⟩ := h2.form
 have hb2 : Below w.heap.size w ((w.alloc (.cells #[.bool t1, .slice a1 s1.size c1] 80)).alloc (.cells #[.bool t2, .slice a2 s2.size c2] 80)) := ((Below.refl _ _).alloc (Nat.le_refl _) _).alloc (by simp) _
 have HB := Lib.hid hb2
 have H1 := Lib.hid (StrAt.below h1 hb2)
 have H2 := Lib.hid (StrAt.below h2 hb2)
 clear hb2 h1 h2
 by_cases ht : t1 = t2
 · subst ht
   have HE : Hid (decide ((t1, s1) = (t1, s2)) = decide (s1 = s2)) := by simp [Hid]
   cases t1
   all_goals
     go_enter Tryz.func74, Tryz.ntmps74
     go_wp2_with fail
     refine (EqualB_any _ _ s1 s2 _ H1.out H2.out).mono ?_; rintro e w' ⟨rfl, rfl⟩
     go_wp2_with fail
     go_ret
     exact ⟨by rw [HE.out]; rfl, HB.out⟩
 · have HE : Hid (decide ((t1, s1) = (t2, s2)) = false) := by simp [Hid, ht]
   have ht' : (t1 == t2) = false := by simpa using ht
   cases t1 <;> cases t2 <;> first | (exact absurd rfl ht) | skip
   all_goals
     go_enter Tryz.func74, Tryz.ntmps74
     go_wp2_with fail
     go_ret
     exact ⟨by rw [HE.out]; rfl, HB.out⟩
theorem take_eq_stepG_ {α : Type} {xs ys : List α} {k : Nat} (h : xs.take k = ys.take k) (hx : k < xs.length) (hy : k < ys.length) (he : xs[k] = ys[k]) : xs.take (k + 1) = ys.take (k + 1) := by
 rw [List.take_succ_eq_append_getElem hx, List.take_succ_eq_append_getElem hy, h, he]
theorem MvsAt.mod {S : Nat → Prop} {W W' : World} {a : Option Addr} {n : Nat} {ms : List (Bool × ByteArray)} (h : MvsAt W a n ms) (hm : Mod S W W') (hS : ∀ g, ¬ S g) : MvsAt W' a n ms :=
 ⟨h.1, fun i m hi => by
   obtain ⟨b, o, v, e, h0, h1, h2⟩ := h.2 i m hi
   exact ⟨b, o, v, e, hm.cell (hS _) h0, hm.cell (hS _) h1, h2.mod hm hS⟩⟩
set_option maxHeartbeats 2000000 in
theorem EqualM_any (a1 a2 : Option Addr) (n m c1 c2 : Nat) (xs ys : List (Bool × ByteArray)) (W : World) (h1 : MvsAt W a1 n xs) (h2 : MvsAt W a2 m ys) (hn : n ≤ 1000000) :
   Calls Tryz.prog 73 #[.slice a1 n c1, .slice a2 m c2, .func (.func 74) #[] #[]] W fun e w' => e = .returned (.bool (decide (xs = ys))) ∧ Below W.heap.size W w' := by
 by_cases hnm : n = m
 · have hne : ((n : Int) != (m : Int)) = false := by simp [hnm]
   have HX := Lib.hid h1.1
   have HY := Lib.hid h2.1
   have HNM := Lib.hid hnm
   have H1 := Lib.hid h1
   have H2 := Lib.hid h2
   clear h1 h2 hnm
   have hnI : (n : Int) ≤ 1000000 := by omega
   go_enter Tryz.func73, Tryz.ntmps73
   go_wp2_with fail
   go_loopw [17, 9, 8, 7] (fun i _ _ _ wr => ∃ k : Nat, k ≤ n ∧ i = .int .i64 k ∧ Hid (xs.take k = ys.take k) ∧ Hid (Below W.heap.size W wr)) (fun i _ _ _ _ => n - (intOf i).toNat)
   case atStart => exact ⟨0, Nat.zero_le _, rfl, rfl, Below.refl _ _⟩
   case round =>
     obtain ⟨k, hk, rfl, HT, HB⟩ := hrel
     by_cases hlt : k < n
     · have hltI : (k : Int) < n := by omega
       have hlt2 : k < m := by rw [← HNM.out]; exact hlt
       have hx1 : k < xs.length := by rw [HX.out]; exact hlt
       have hy1 : k < ys.length := by rw [HY.out]; exact hlt2
       have hltJ : (k : Int) < m := by omega
       have hm : Mod (fun _ => False) W wr := Mod.of_same HB.out
       obtain ⟨b1, o1, v1, sa, sc, rfl, l1, q0, q1, s1, rfl⟩ := (H1.out.mod hm (by simp)).at_ hx1
       obtain ⟨b2, o2, v2, ta, tc, rfl, l2, r0, r1, s2, rfl⟩ := (H2.out.mod hm (by simp)).at_ hy1
       have HXY : Hid (∀ h : xs[k] = ys[k], xs.take (k + 1) = ys.take (k + 1)) := fun h => take_eq_stepG_ HT.out hx1 hy1 h
       have HNE : Hid (∀ h : ¬ xs[k] = ys[k], decide (xs = ys) = false) := by
         intro h
         rw [decide_eq_false_iff_not]
         rintro rfl
         exact h rfl
       have HS1 := Lib.hid s1
       have HS2 := Lib.hid s2
       clear hm s1 s2
       generalize xs[k] = x at *
       generalize ys[k] = y at *
       have hmA : Mod (fun _ => False) wr ((wr.alloc (.cells #[.bool x.1, .slice sa x.2.size sc] 80)).alloc (.cells #[.bool y.1, .slice ta y.2.size tc] 80)) := ((Mod.refl _ _).alloc _).alloc _
       have HBA : Hid (Below W.heap.size W ((wr.alloc (.cells #[.bool x.1, .slice sa x.2.size sc] 80)).alloc (.cells #[.bool y.1, .slice ta y.2.size tc] 80))) := HB.out.trans (hmA.below HB.out.size (by simp))
       have HC := Lib.hid (alike1_any x.1 y.1 (.slice sa x.2.size sc) (.slice ta y.2.size tc) x.2 y.2 ((wr.alloc (.cells #[.bool x.1, .slice sa x.2.size sc] 80)).alloc (.cells #[.bool y.1, .slice ta y.2.size tc] 80)) (HS1.out.mod hmA (by simp)) (HS2.out.mod hmA (by simp)))
       clear hmA
       by_cases hxy : x = y
       · have hd : decide ((x.1, x.2) = (y.1, y.2)) = true := by simp [hxy]
         replace HXY := Lib.hid (HXY.out hxy)
         rw [hd] at HC
         clear hd hxy HNE
         go_wp2_with fail
         refine HC.out.mono ?_; rintro e w2 ⟨rfl, hb2⟩
         have HB2 := Lib.hid (below_step_ HBA.out hb2)
         clear hb2
         go_wp2_with fail
         exact ⟨⟨k + 1, by omega, by simp, HXY.out, HB2.out⟩, by simp [intOf]; omega⟩
       · have hd : decide ((x.1, x.2) = (y.1, y.2)) = false := by rw [decide_eq_false_iff_not]; exact hxy
         replace HNE := Lib.hid (HNE.out hxy)
         rw [hd] at HC
         clear hd hxy HXY
         go_wp2_with fail
         refine HC.out.mono ?_; rintro e w2 ⟨rfl, hb2⟩
         have HB2 := Lib.hid (below_step_ HBA.out hb2)
         clear hb2
         go_wp2_with fail
         go_ret
         exact ⟨by rw [HNE.out]; rfl, HB2.out⟩
     · obtain rfl : k = n := by omega
       have HE : Hid (decide (xs = ys) = true) := by
         rw [Hid, decide_eq_true_eq]
         have := HT.out
         rwa [List.take_of_length_le (by rw [HX.out]; exact Nat.le_refl _), List.take_of_length_le (by rw [HY.out, HNM.out]; exact Nat.le_refl _)] at this
       go_wp2_with fail
       go_ret
       exact ⟨by rw [HE.out]; rfl, HB.out⟩
 · have hne : ((n : Int) != (m : Int)) = true := by simp; omega
   have HE : Hid (decide (xs = ys) = false) := by
     rw [Hid, decide_eq_false_iff_not]; rintro rfl; exact hnm (h1.1.symm.trans h2.1)
   clear h1 h2
   go_enter Tryz.func73, Tryz.ntmps73
   go_wp2_with fail
   go_ret
   exact ⟨by rw [HE.out]; rfl, Below.refl _ _⟩
set_option maxHeartbeats 2000000 in
theorem EqualE_any (a1 a2 : Option Addr) (n m c1 c2 : Nat) (xs ys : List Ent) (W : World) (h1 : ScrAt W a1 n xs) (h2 : ScrAt W a2 m ys) (hn : n ≤ 1000000) :
   Calls Tryz.prog 69 #[.slice a1 n c1, .slice a2 m c2, .func (.func 70) #[] #[]] W fun e w' => e = .returned (.bool (decide (xs = ys))) ∧ Below W.heap.size W w' := by
 by_cases hnm : n = m
 · have hne : ((n : Int) != (m : Int)) = false := by simp [hnm]
   have HX := Lib.hid h1.1
   have HY := Lib.hid h2.1
   have HNM := Lib.hid hnm
   have H1 := Lib.hid h1
   have H2 := Lib.hid h2
   clear h1 h2 hnm
   have hnI : (n : Int) ≤ 1000000 := by omega
   go_enter Tryz.func69, Tryz.ntmps69
   go_wp2_with fail
   go_loopw [17, 9, 8, 7] (fun i _ _ _ wr => ∃ k : Nat, k ≤ n ∧ i = .int .i64 k ∧ Hid (xs.take k = ys.take k) ∧ Hid (Below W.heap.size W wr)) (fun i _ _ _ _ => n - (intOf i).toNat)
   case atStart => exact ⟨0, Nat.zero_le _, rfl, rfl, Below.refl _ _⟩
   case round =>
     obtain ⟨k, hk, rfl, HT, HB⟩ := hrel
     by_cases hlt : k < n
     · have hltI : (k : Int) < n := by omega
       have hlt2 : k < m := by rw [← HNM.out]; exact hlt
       have hx1 : k < xs.length := by rw [HX.out]; exact hlt
       have hy1 : k < ys.length := by rw [HY.out]; exact hlt2
       have hltJ : (k : Int) < m := by omega
       have hm : Mod (fun _ => False) W wr := Mod.of_same HB.out
       obtain ⟨b1, o1, v1, sa, sc, rfl, l1, q0, q1, q2, q3, s1, rfl⟩ := (H1.out.mod hm (by simp)).at_ hx1
       obtain ⟨b2, o2, v2, ta, tc, rfl, l2, r0, r1, r2, r3, s2, rfl⟩ := (H2.out.mod hm (by simp)).at_ hy1
       have HXY : Hid (∀ h : xs[k] = ys[k], xs.take (k + 1) = ys.take (k + 1)) := fun h => take_eq_stepG_ HT.out hx1 hy1 h
       have HNE : Hid (∀ h : ¬ xs[k] = ys[k], decide (xs = ys) = false) := by
         intro h
         rw [decide_eq_false_iff_not]
         rintro rfl
         exact h rfl
       have HS1 := Lib.hid s1
       have HS2 := Lib.hid s2
       clear hm s1 s2
       generalize xs[k] = x at *
       generalize ys[k] = y at *
       have hmA : Mod (fun _ => False) wr ((wr.alloc (.cells #[.int .u8 x.kind, .int .i64 x.slot, .int .i64 x.n, .slice sa x.bytes.size sc] 38)).alloc (.cells #[.int .u8 y.kind, .int .i64 y.slot, .int .i64 y.n, .slice ta y.bytes.size tc] 38)) := ((Mod.refl _ _).alloc _).alloc _
       have HBA : Hid (Below W.heap.size W ((wr.alloc (.cells #[.int .u8 x.kind, .int .i64 x.slot, .int .i64 x.n, .slice sa x.bytes.size sc] 38)).alloc (.cells #[.int .u8 y.kind, .int .i64 y.slot, .int .i64 y.n, .slice ta y.bytes.size tc] 38))) := HB.out.trans (hmA.below HB.out.size (by simp))
       have HC := Lib.hid (same1_any x.kind x.slot x.n y.kind y.slot y.n (.slice sa x.bytes.size sc) (.slice ta y.bytes.size tc) x.bytes y.bytes ((wr.alloc (.cells #[.int .u8 x.kind, .int .i64 x.slot, .int .i64 x.n, .slice sa x.bytes.size sc] 38)).alloc (.cells #[.int .u8 y.kind, .int .i64 y.slot, .int .i64 y.n, .slice ta y.bytes.size tc] 38)) (HS1.out.mod hmA (by simp)) (HS2.out.mod hmA (by simp)))
       clear hmA
       by_cases hxy : x = y
       · have hd : sameB ⟨x.kind, x.slot, x.n, x.bytes⟩ ⟨y.kind, y.slot, y.n, y.bytes⟩ = true := by rw [sameB_eq, decide_eq_true_eq]; exact hxy
         replace HXY := Lib.hid (HXY.out hxy)
         rw [hd] at HC
         clear hd hxy HNE
         go_wp2_with fail
         refine HC.out.mono ?_; rintro e w2 ⟨rfl, hb2⟩
         have HB2 := Lib.hid (below_step_ HBA.out hb2)
         clear hb2
         go_wp2_with fail
         exact ⟨⟨k + 1, by omega, by simp, HXY.out, HB2.out⟩, by simp [intOf]; omega⟩
       · have hd : sameB ⟨x.kind, x.slot, x.n, x.bytes⟩ ⟨y.kind, y.slot, y.n, y.bytes⟩ = false := by rw [sameB_eq, decide_eq_false_iff_not]; exact hxy
         replace HNE := Lib.hid (HNE.out hxy)
         rw [hd] at HC
         clear hd hxy HXY
         go_wp2_with fail
         refine HC.out.mono ?_; rintro e w2 ⟨rfl, hb2⟩
         have HB2 := Lib.hid (below_step_ HBA.out hb2)
         clear hb2
         go_wp2_with fail
         go_ret
         exact ⟨by rw [HNE.out]; rfl, HB2.out⟩
     · obtain rfl : k = n := by omega
       have HE : Hid (decide (xs = ys) = true) := by
         rw [Hid, decide_eq_true_eq]
         have := HT.out
         rwa [List.take_of_length_le (by rw [HX.out]; exact Nat.le_refl _), List.take_of_length_le (by rw [HY.out, HNM.out]; exact Nat.le_refl _)] at this
       go_wp2_with fail
       go_ret
       exact ⟨by rw [HE.out]; rfl, HB.out⟩
 · have hne : ((n : Int) != (m : Int)) = true := by simp; omega
   have HE : Hid (decide (xs = ys) = false) := by
     rw [Hid, decide_eq_false_iff_not]; rintro rfl; exact hnm (h1.1.symm.trans h2.1)
   clear h1 h2
   go_enter Tryz.func69, Tryz.ntmps69
   go_wp2_with fail
   go_ret
   exact ⟨by rw [HE.out]; rfl, Below.refl _ _⟩
end View
end Go.Proofs.YtdfmgneicdpjmaaGreat

namespace Go.Proofs.YtdfmgneicdpjmaaGreat
open Go.RowKit Go.Shelf
set_option linter.unusedVariables false
set_option linter.unusedSimpArgs false
set_option maxRecDepth 100000
namespace View
open Resp
theorem bytSh_flat (l : List (ByteArray × Value)) : bytSh.flat l = l.map Prod.snd := by
 induction l with
 | nil => rfl
 | cons x t ih => simp only [Sh.flat, bytSh, List.flatMap_cons] at ih ⊢; rw [ih]; rfl
theorem bytes_rows {W : World} {base : Nat} {v : Value} {l : List (ByteArray × Value)} (h1 : W.ownsRow base 25 1 v l.length (bytSh.flat l)) (h2 : ∀ x ∈ l, StrAt W x.2 x.1) : ∃ a c, v = .slice a l.length c ∧ l.length ≤ c ∧ c ≤ maxLen ∧ RowsAt W a l.length (l.map Prod.fst) := by
 rcases Nat.eq_zero_or_pos l.length with h0 | h0
 · obtain ⟨a, c, rfl⟩ := ownsRow_form h1
   have hl : l = [] := List.length_eq_zero_iff.1 h0
   subst hl
   rcases h1.2 with ⟨e, -⟩ | ⟨g, cap, cur, e, -, -, u1, u2, -, -⟩
   · cases e; exact ⟨none, 0, rfl, Nat.le_refl _, Nat.zero_le _, rfl, fun i u hu => by simp at hu⟩
   · injection e with e1 e2 e3
     subst e3
     exact ⟨a, c, rfl, Nat.zero_le _, u2, rfl, fun i u hu => by simp at hu⟩
 · obtain ⟨a, c, rfl⟩ := ownsRow_form h1
   have hc : c ≤ maxLen := by
     rcases h1.2 with ⟨e, -⟩ | ⟨g, cap, cur, e, -, -, u1, u2, -, -⟩
     · injection e with e1 e2 e3; omega
     · injection e with e1 e2 e3; subst e3; exact u2
   obtain ⟨g, rfl, hg, ⟨cur, hgc⟩, hf, hn, hcell⟩ := owns_parts h1 h0
   refine ⟨_, _, rfl, hn, hc, by simp, fun i u hu => ?_⟩
   have hi : i < l.length := by have := (List.getElem?_eq_some_iff.1 hu).1; simpa using this
   rw [List.getElem?_map, List.getElem?_eq_getElem hi] at hu
   injection hu with hu
   subst hu
   exact ⟨g, 0, _, rfl, by rw [Nat.zero_add]; exact hcell i _ (by rw [bytSh_flat, List.getElem?_map, List.getElem?_eq_getElem hi]; rfl), h2 _ (List.getElem_mem hi)⟩
theorem ORow.rows {W : World} {base : Nat} {v : Value} {l : List (ByteArray × Value)} (h : ORow bytSh W base v l) : ∃ a c, v = .slice a l.length c ∧ l.length ≤ c ∧ c ≤ maxLen ∧ RowsAt W a l.length (l.map Prod.fst) :=
 bytes_rows h.1 (fun x hx => (h.2.1 x hx).str)
theorem movO_rows {W : World} {base : Nat} {v : Value} {l : List ((Bool × ByteArray) × Value)} {T : TypeId} (h1 : W.ownsRow base T 2 v l.length (movO.flat l)) (h2 : ∀ x ∈ l, StrAt W x.2 x.1.2) : ∃ a c, v = .slice a l.length c ∧ l.length ≤ c ∧ c ≤ maxLen ∧ MvsAt W a l.length (l.map Prod.fst) := by
 rcases Nat.eq_zero_or_pos l.length with h0 | h0
 · obtain ⟨a, c, rfl⟩ := ownsRow_form h1
   have hl : l = [] := List.length_eq_zero_iff.1 h0
   subst hl
   rcases h1.2 with ⟨e, -⟩ | ⟨g, cap, cur, e, -, -, u1, u2, -, -⟩
   · cases e; exact ⟨none, 0, rfl, Nat.le_refl _, Nat.zero_le _, rfl, fun i u hu => by simp at hu⟩
   · injection e with e1 e2 e3
     subst e3
     exact ⟨a, c, rfl, Nat.zero_le _, u2, rfl, fun i u hu => by simp at hu⟩
 · obtain ⟨a, c, rfl⟩ := ownsRow_form h1
   have hc : c ≤ maxLen := by
     rcases h1.2 with ⟨e, -⟩ | ⟨g, cap, cur, e, -, -, u1, u2, -, -⟩
     · injection e with e1 e2 e3; omega
     · injection e with e1 e2 e3; subst e3; exact u2
   obtain ⟨g, rfl, hg, ⟨cur, hgc⟩, hf, hn, hcell⟩ := owns_parts h1 h0
   refine ⟨_, _, rfl, hn, hc, by simp, fun i u hu => ?_⟩
   have hi : i < l.length := by have := (List.getElem?_eq_some_iff.1 hu).1; simpa using this
   rw [List.getElem?_map, List.getElem?_eq_getElem hi] at hu
   injection hu with hu
   subst hu
   have e0 := hcell _ _ ((movO_at (j := 0) hi (by omega)).trans rfl)
   have e1 := hcell _ _ ((movO_at (j := 1) hi (by omega)).trans rfl)
   exact ⟨g, 0, _, rfl, by rw [Nat.zero_add]; exact e0, by rw [Nat.zero_add]; exact e1, h2 _ (List.getElem_mem hi)⟩
theorem ORow.mvs {W : World} {base : Nat} {v : Value} {l : List ((Bool × ByteArray) × Value)} (h : ORow movO W base v l) : ∃ a c, v = .slice a l.length c ∧ l.length ≤ c ∧ c ≤ maxLen ∧ MvsAt W a l.length (l.map Prod.fst) :=
 movO_rows h.1 (fun x hx => (h.2.1 x hx).str)
theorem wrg2_ok {slot : Int} {es fs : List Ent} (h : wrg2 slot es fs = 0) : wrg1 slot es = 0 ∧ wrg1 slot fs = 0 := by
 unfold wrg2 at h
 split at h
 · rename_i h1
   refine ⟨?_, h⟩
   have := (wrg1_ok h).2
   unfold wrg1
   rw [if_pos h1, if_neg (by omega)]
 · rename_i h1; exact absurd h h1
theorem framesL_len (slot : Int) (es : List Ent) : (framesL slot es).length ≤ es.length := by
 unfold framesL
 rw [List.length_map]
 exact List.length_filter_le _ _
set_option maxHeartbeats 1000000 in
theorem Agree_no (slot : Int) (a b : Option Addr) (n m c d : Nat) (es fs : List Ent) (W : World) (h : ScrAt W a n es) (h2 : ScrAt W b m fs) (hn : n ≤ maxLen) (hm : m ≤ maxLen) (E : Int) (hE : wrg2 slot es fs = E) (h0 : ¬ E = 0) :
   Calls Tryz.prog 27 #[.slice a n c, .slice b m d, .int .i64 slot] W fun e w' => e = .returned (.tuple #[.bool false, .int .i64 E]) ∧ Below W.heap.size W w' := by
 have HC := Lib.hid (wrong_two slot a n c es b m d fs W h hn h2 hm 27)
 have h0' : (E != 0) = true := by simpa using h0
 rw [hE] at HC
 clear h h2 hE h0
 go_enter Tryz.func27, Tryz.ntmps27
 go_wp2_with fail
 refine HC.out.mono ?_; rintro e W2 ⟨rfl, hb2⟩
 have HB2 := Lib.hid hb2
 clear hb2
 go_wp2_with fail
 go_ret2
 exact ⟨rfl, HB2.out⟩
set_option maxHeartbeats 1000000 in
theorem Agree_yes (slot : Int) (a b : Option Addr) (n m c d : Nat) (es fs : List Ent) (W : World) (h : ScrAt W a n es) (h2 : ScrAt W b m fs) (hn : n ≤ maxLen) (hm : m ≤ maxLen) (hE : wrg2 slot es fs = 0) :
   Calls Tryz.prog 27 #[.slice a n c, .slice b m d, .int .i64 slot] W fun e w' => e = .returned (.tuple #[.bool (decide (framesL slot es = framesL slot fs)), .int .i64 0]) ∧ Below W.heap.size W w' := by
 have HC := Lib.hid (wrong_two slot a n c es b m d fs W h hn h2 hm 27)
 obtain ⟨hE1, hE2⟩ := wrg2_ok hE
 have hl1 := (chk_ok (wrg1_ok hE1).1).1
 have hle := framesL_len slot es
 rw [hE] at HC
 have H := Lib.hid h
 have H2 := Lib.hid h2
 have HE1 := Lib.hid hE1
 have HE2 := Lib.hid hE2
 clear h h2 hE hE1 hE2
 go_enter Tryz.func27, Tryz.ntmps27
 go_wp2_with fail
 refine HC.out.mono ?_; rintro e W2 ⟨rfl, hb2⟩
 have HB2 := Lib.hid hb2
 clear hb2
 go_wp2_with fail
 refine (Frames_yes slot a n c es W2 (H.out.below HB2.out) hn HE1.out).mono ?_; rintro e W3 ⟨v3, l3, rfl, hf3, ho3, hb3⟩
 obtain ⟨a3, c3, rfl, hc3, hcm3, hr3⟩ := ho3.rows
 rw [hf3] at hr3
 have HB3 := Lib.hid (below_step_ HB2.out hb3)
 have HR3 := Lib.hid hr3
 have hlen3 := congrArg List.length hf3
 rw [List.length_map] at hlen3
 have hl3 : l3.length ≤ 4000 := by omega
 clear ho3 hf3 hr3 hb3 hlen3 hle
 generalize l3.length = k3 at *
 go_wp2_with fail
 refine (Frames_yes slot b m d fs W3 (H2.out.below HB3.out) hm HE2.out).mono ?_; rintro e W4 ⟨v4, l4, rfl, hf4, ho4, hb4⟩
 obtain ⟨a4, c4, rfl, hc4, hcm4, hr4⟩ := ho4.rows
 rw [hf4] at hr4
 have HB4 := Lib.hid (below_step_ HB3.out hb4)
 have HR4 := Lib.hid hr4
 have HR3b := Lib.hid (HR3.out.mod (S := fun _ => False) (Mod.of_same hb4) (by simp))
 clear ho4 hf4 hr4 hb4
 generalize l4.length = k4 at *
 go_wp2_with fail
 refine (EqualFunc_any a3 a4 k3 k4 c3 c4 _ _ W4 HR3b.out HR4.out (by omega)).mono ?_; rintro e W5 ⟨rfl, hb5⟩
 have HB5 := Lib.hid (below_step_ HB4.out hb5)
 clear hb5
 go_wp2_with fail
 go_ret2
 exact ⟨rfl, HB5.out⟩
set_option maxHeartbeats 1000000 in
theorem Alike_no (n slot : Int) (a b : Option Addr) (k m c d : Nat) (es fs : List Ent) (W : World) (h : ScrAt W a k es) (h2 : ScrAt W b m fs) (hn : k ≤ maxLen) (hm : m ≤ maxLen) (E : Int) (hE : wrg2 slot es fs = E) (h0 : ¬ E = 0) :
   Calls Tryz.prog 26 #[.slice a k c, .slice b m d, .int .i64 n, .int .i64 slot] W fun e w' => e = .returned (.tuple #[.bool false, .int .i64 E]) ∧ Below W.heap.size W w' := by
 have HC := Lib.hid (wrong_two slot a k c es b m d fs W h hn h2 hm 27)
 have h0' : (E != 0) = true := by simpa using h0
 rw [hE] at HC
 clear h h2 hE h0
 go_enter Tryz.func26, Tryz.ntmps26
 go_wp2_with fail
 refine HC.out.mono ?_; rintro e W2 ⟨rfl, hb2⟩
 have HB2 := Lib.hid hb2
 clear hb2
 go_wp2_with fail
 go_ret2
 exact ⟨rfl, HB2.out⟩
set_option maxHeartbeats 1000000 in
theorem Alike_yes (n slot : Int) (hn1 : 1 ≤ n) (hn8 : n ≤ 8) (hsn : slot < n) (a b : Option Addr) (k m c d : Nat) (es fs : List Ent) (W : World) (h : ScrAt W a k es) (h2 : ScrAt W b m fs) (hn : k ≤ maxLen) (hm : m ≤ maxLen) (hE : wrg2 slot es fs = 0) :
   Calls Tryz.prog 26 #[.slice a k c, .slice b m d, .int .i64 n, .int .i64 slot] W fun e w' => e = .returned (.tuple #[.bool (decide ((mv n slot es).2 = (mv n slot fs).2)), .int .i64 0]) ∧ Below W.heap.size W w' := by
 have HC := Lib.hid (wrong_two slot a k c es b m d fs W h hn h2 hm 27)
 obtain ⟨hE1, hE2⟩ := wrg2_ok hE
 have hl1 := (chk_ok (wrg1_ok hE1).1).1
 have hle := (mv_len n slot es).2
 rw [hE] at HC
 have HM1 := Lib.hid (fun W2 (hb : Below W.heap.size W W2) => Moves_yes n slot hn1 hn8 hsn a k c es W2 (h.below hb) hn hE1)
 have HM2 := Lib.hid (fun W2 (hb : Below W.heap.size W W2) => Moves_yes n slot hn1 hn8 hsn b m d fs W2 (h2.below hb) hm hE2)
 clear h h2 hE hE1 hE2
 go_enter Tryz.func26, Tryz.ntmps26
 go_wp2_with fail
 refine HC.out.mono ?_; rintro e W2 ⟨rfl, hb2⟩
 have HB2 := Lib.hid hb2
 clear hb2
 go_wp2_with fail
 refine (HM1.out W2 HB2.out).mono ?_; rintro e W3 ⟨v3, l3, rfl, hf3, ho3, hb3⟩
 obtain ⟨a3, c3, rfl, hc3, hcm3, hr3⟩ := ho3.row.mvs
 rw [hf3] at hr3
 have HB3 := Lib.hid (below_step_ HB2.out hb3)
 have HR3 := Lib.hid hr3
 have hlen3 := congrArg List.length hf3
 rw [List.length_map] at hlen3
 have hl3 : l3.length ≤ 4000 := by omega
 clear ho3 hf3 hr3 hb3 hlen3 hle
 generalize l3.length = k3 at *
 go_wp2_with fail
 refine (HM2.out W3 HB3.out).mono ?_; rintro e W4 ⟨v4, l4, rfl, hf4, ho4, hb4⟩
 obtain ⟨a4, c4, rfl, hc4, hcm4, hr4⟩ := ho4.row.mvs
 rw [hf4] at hr4
 have HB4 := Lib.hid (below_step_ HB3.out hb4)
 have HR4 := Lib.hid hr4
 have HR3b := Lib.hid (HR3.out.mod (S := fun _ => False) (Mod.of_same hb4) (by simp))
 clear ho4 hf4 hr4 hb4
 generalize l4.length = k4 at *
 go_wp2_with fail
 refine (EqualM_any a3 a4 k3 k4 c3 c4 _ _ W4 HR3b.out HR4.out (by omega)).mono ?_; rintro e W5 ⟨rfl, hb5⟩
 have HB5 := Lib.hid (below_step_ HB4.out hb5)
 clear hb5
 go_wp2_with fail
 go_ret2
 exact ⟨rfl, HB5.out⟩
end View
end Go.Proofs.YtdfmgneicdpjmaaGreat

namespace Go.Proofs.YtdfmgneicdpjmaaGreat
open Go.RowKit Go.Shelf
set_option linter.unusedVariables false
set_option linter.unusedSimpArgs false
set_option maxRecDepth 100000
namespace View
open Resp
theorem isNaN_any (x : Int) (w : World) : Calls Tryz.prog 157 #[.int .i64 x] w fun e w' => e = .returned (.bool false) ∧ w = w' := by
 have h : (x != x) = false := by simp
 go_enter Tryz.func157, Tryz.ntmps157
 go_wp2_with fail
 go_ret
 exact ⟨by first | rfl | simp, rfl⟩
theorem Less_any (x y : Int) (w : World) : Calls Tryz.prog 102 #[.int .i64 x, .int .i64 y] w fun e w' => e = .returned (.bool (decide (x < y))) ∧ w = w' := by
 go_enter Tryz.func102, Tryz.ntmps102
 go_wp2_with fail
 refine (isNaN_any _ _).mono ?_; rintro e w' ⟨rfl, rfl⟩
 go_wp2_with fail
 go_ret
 exact ⟨by first | rfl | simp, rfl⟩
theorem Less_same (x y : Int) (b : Bool) (h : decide (x < y) = b) (w : World) : Calls Tryz.prog 102 #[.int .i64 x, .int .i64 y] w fun e w' => e = .returned (.bool b) ∧ w' = w :=
 (Less_any x y w).mono fun e w' hh => ⟨by rw [← h]; exact hh.1, hh.2.symm⟩
def sortedB (zs : List Int) : Bool := decide (∀ i, i < zs.length - 1 → zs[i]?.getD 0 ≤ zs[i + 1]?.getD 0)
set_option maxHeartbeats 1000000 in
theorem IsSorted_any (v : Value) (zs : List Int) (w : World) (h : Reads .i64 w v zs) (hl : zs.length ≤ 1000000) :
   Calls Tryz.prog 66 #[v] w fun e w' => e = .returned (.bool (sortedB zs)) ∧ ∃ n, w' = w.drewN n := by
 obtain ⟨a, c, rfl⟩ := Reads.form_ h
 have H := Lib.hid h
 have hlI : (zs.length : Int) ≤ 1000000 := by omega
 clear h
 go_enter Tryz.func66, Tryz.ntmps66
 go_wp2_with fail
 go_loopw [3] (fun i wr => ∃ k : Int, -1 ≤ k ∧ k ≤ (zs.length : Int) - 1 ∧ i = .int .i64 k ∧ Hid (∀ j : Nat, k ≤ j → j < zs.length - 1 → zs[j]?.getD 0 ≤ zs[j + 1]?.getD 0) ∧ ∃ m, wr = w.drewN m) (fun i _ => (intOf i + 1).toNat)
 case atStart => exact ⟨(zs.length : Int) - 1, by omega, by omega, rfl, fun j h1 h2 => by omega, 0, rfl⟩
 case round =>
   obtain ⟨k, hk, hk2, rfl, HS, m, rfl⟩ := hrel
   by_cases hlt : 0 < k
   · obtain ⟨kn, rfl⟩ : ∃ kn : Nat, k = (kn : Int) + 1 := ⟨(k - 1).toNat, by omega⟩
     have hk3 : kn + 1 < zs.length := by omega
     obtain ⟨b, o, c', e, hc⟩ : ∃ b o c', a = some ⟨b, o, none⟩ ∧ ∀ i, i < zs.length → w.cell? ⟨b, o + i, none⟩ = some (.int .i64 (zs[i]?.getD 0)) := by
       rcases H.out with ⟨a', c', e, hz⟩ | ⟨b, o, c', e, -, hc⟩
       · rw [hz] at hk3; simp at hk3
       · cases e
         exact ⟨b, o, c, rfl, hc⟩
     subst e
     have e1 : (w.drewN m).cell? ⟨b, o + (kn + 1), none⟩ = _ := hc (kn + 1) hk3
     have e2 : (w.drewN m).cell? ⟨b, o + kn, none⟩ = _ := hc kn (by omega)
     generalize hw0 : w.drewN m = w0 at *
     have HW0 := Lib.hid hw0
     clear hw0
     have n1 : (kn : Int) + 1 < zs.length := by omega
     have n2 : (kn : Int) < zs.length := by omega
     have w1 : IntKind.i64.wrap ((kn : Int) + 1 - 1) = (kn : Int) := by rw [IntKind.wrap_i64]; omega
     have w2 : IntKind.i64.wrap (kn : Int) = (kn : Int) := by rw [IntKind.wrap_i64]; omega
     have n3 : 0 ≤ (kn : Int) + 1 := by omega
     have n4 : ((kn : Int) + 1).toNat = kn + 1 := by omega
     by_cases hd : zs[kn + 1]?.getD 0 < zs[kn]?.getD 0
     · have HE : Hid (sortedB zs = false) := by
         unfold sortedB
         rw [Hid, decide_eq_false_iff_not]
         intro h
         have := h kn (by omega)
         omega
       have hd' : decide (zs[kn + 1]?.getD 0 < zs[kn]?.getD 0) = true := decide_eq_true hd
       generalize zs[kn + 1]?.getD 0 = x at *
       generalize zs[kn]?.getD 0 = y at *
       have HLS := Lib.hid (Less_same x y _ hd')
       clear hc hd hd'
       go_wp2_with fail
       go_quiet ((go_at_call 102; exact Calls.quiet_of_same (HLS.out _)))
       go_wp2_with fail
       go_ret
       exact ⟨by rw [HE.out]; rfl, m + nq, by rw [← HW0.out]; simp⟩
     · have HS2 : Hid (∀ j : Nat, (kn : Int) ≤ j → j < zs.length - 1 → zs[j]?.getD 0 ≤ zs[j + 1]?.getD 0) := fun j h1 h2 => by
         by_cases hj : j = kn
         · subst hj; omega
         · exact HS.out j (by omega) h2
       have hd' : decide (zs[kn + 1]?.getD 0 < zs[kn]?.getD 0) = false := decide_eq_false hd
       generalize zs[kn + 1]?.getD 0 = x at *
       generalize zs[kn]?.getD 0 = y at *
       have HLS := Lib.hid (Less_same x y _ hd')
       clear hc hd hd'
       go_wp2_with fail
       go_quiet ((go_at_call 102; exact Calls.quiet_of_same (HLS.out _)))
       go_wp2_with fail
       refine ⟨⟨(kn : Int), by omega, by omega, by simp, HS2.out, m + nq, by rw [← HW0.out]; simp⟩, by simp [intOf]; try omega⟩
   · have HE : Hid (sortedB zs = true) := by
       unfold sortedB
       rw [Hid, decide_eq_true_eq]
       intro i hi
       exact HS.out i (by omega) hi
     have hlt' : ¬ 0 < k := hlt
     go_wp2_with fail
     go_ret
     exact ⟨by rw [HE.out]; rfl, m, rfl⟩
end View
end Go.Proofs.YtdfmgneicdpjmaaGreat
