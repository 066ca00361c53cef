import Derived.Test.YtdfmgneicdpjmaaGreatM23
import Derived.BigQuiet
import Derived.DeepKeys
/- check.meet. -/
namespace Go.Proofs.YtdfmgneicdpjmaaGreat
open Go.RowKit Go.Shelf
attribute [local go_sem] Oper.semAt_some
set_option linter.unusedVariables false
set_option linter.unusedSimpArgs false
set_option maxRecDepth 100000
namespace Eng
open Resp

/-- A fact in a block. -/
def FcAt (W : World) (B : Nat) (f : Fc) : Prop := W.heap[B]? = some (.cells (fcL f).toArray 541)
theorem FcAt.is {W : World} {B : Nat} {f : Fc} (h : FcAt W B f) : W.cell? ⟨B, 0, none⟩ = some (.bool f.is) := by
  have h' : W.heap[B]? = _ := h
  simp [World.cell?, h', fcL]
theorem FcAt.reg {W : World} {B : Nat} {f : Fc} (h : FcAt W B f) {r : Nat} (hr : r < 8) : W.cell? ⟨B, 1 + r * 2, none⟩ = some (.bool (f.k r).1) ∧ W.cell? ⟨B, 1 + r * 2 + 1, none⟩ = some (.int .i64 (f.k r).2) := by
  have h' : W.heap[B]? = _ := h
  have ha : r = 0 ∨ r = 1 ∨ r = 2 ∨ r = 3 ∨ r = 4 ∨ r = 5 ∨ r = 6 ∨ r = 7 := by omega
  rcases ha with rfl | rfl | rfl | rfl | rfl | rfl | rfl | rfl <;> simp [World.cell?, h', fcL, rgL]
theorem FcAt.frozen {W : World} {B : Nat} {f : Fc} (h : FcAt W B f) (j : Nat) : W.frozen? ⟨B, j, none⟩ = false := by
  have h' : W.heap[B]? = _ := h
  simp [World.frozen?, h']
def setK (k : Nat → Kn) (r : Nat) (x : Kn) : Nat → Kn := fun q => if q = r then x else k q
theorem FcAt.set {W : World} {B : Nat} {f : Fc} (h : FcAt W B f) {r : Nat} (hr : r < 8) (x : Kn) : FcAt ((W.setCell ⟨B, 1 + r * 2, none⟩ (.bool x.1)).setCell ⟨B, 1 + r * 2 + 1, none⟩ (.int .i64 x.2)) B ⟨f.is, setK f.k r x⟩ := by
  have h' : W.heap[B]? = _ := h
  have ha : r = 0 ∨ r = 1 ∨ r = 2 ∨ r = 3 ∨ r = 4 ∨ r = 5 ∨ r = 6 ∨ r = 7 := by omega
  unfold FcAt
  rcases ha with rfl | rfl | rfl | rfl | rfl | rfl | rfl | rfl <;> (rw [heap_set_ (heap_set_ h' _ _)]; rfl)
theorem neq_kn (x y : Kn) (w : World) : (binOp .neq 538 (.agg #[.bool x.1, .int .i64 x.2]) (.agg #[.bool y.1, .int .i64 y.2])).run Tryz.prog w = .ok (.bool (decide (¬ x = y))) w := by
  obtain ⟨a, b⟩ := x
  obtain ⟨c, d⟩ := y
  cases a <;> cases c
  · by_cases h : b = d
    · subst h
      rw [decide_eq_false (by simp)]
      simp [go_sem]
    · have h2 : (b == d) = false := by simpa using h
      rw [decide_eq_true (by simp [h])]
      simp [go_sem, h2]
  · rw [decide_eq_true (by simp)]
    with_unfolding_all exact rfl
  · rw [decide_eq_true (by simp)]
    with_unfolding_all exact rfl
  · by_cases h : b = d
    · subst h
      rw [decide_eq_false (by simp)]
      simp [go_sem]
    · have h2 : (b == d) = false := by simpa using h
      rw [decide_eq_true (by simp [h])]
      simp [go_sem, h2]
/-- What two facts have in common. -/
def meetK (a b : Nat → Kn) (j : Nat) : Nat → Kn := fun r => if r < j ∧ ¬ a r = b r then kn0 else a r
def meetV (a b : Fc) : Fc := ⟨a.is, meetK a.k b.k 8⟩
theorem meetK_skip {a b : Nat → Kn} {j : Nat} (h : a j = b j) : meetK a b (j + 1) = meetK a b j := by
  funext r
  simp only [meetK]
  by_cases hr : r = j
  · subst hr
    rw [if_neg (by simp [h]), if_neg (by omega)]
  · by_cases hl : r < j ∧ ¬ a r = b r
    · rw [if_pos hl, if_pos ⟨by omega, hl.2⟩]
    · rw [if_neg hl, if_neg (by rintro ⟨h1, h2⟩; exact hl ⟨by omega, h2⟩)]
theorem meetK_set {a b : Nat → Kn} {j : Nat} (h : ¬ a j = b j) : meetK a b (j + 1) = setK (meetK a b j) j kn0 := by
  funext r
  simp only [meetK, setK]
  by_cases hr : r = j
  · subst hr
    rw [if_pos ⟨by omega, h⟩, if_pos rfl]
  · rw [if_neg hr]
    by_cases hl : r < j ∧ ¬ a r = b r
    · rw [if_pos hl, if_pos ⟨by omega, hl.2⟩]
    · rw [if_neg hl, if_neg (by rintro ⟨h1, h2⟩; exact hl ⟨by omega, h2⟩)]
theorem meetK_at (a b : Nat → Kn) (j : Nat) : meetK a b j j = a j := by unfold meetK; rw [if_neg (by omega)]
/-- A fact laid into a block, cell by cell. -/
def fillF (W : World) (B : Nat) (f : Fc) : World := (((((((((((((((((W.setCell ⟨B, 0, none⟩ (.bool f.is)).setCell ⟨B, 1, none⟩ (.bool (f.k 0).1)).setCell ⟨B, 2, none⟩ (.int .i64 (f.k 0).2)).setCell ⟨B, 3, none⟩ (.bool (f.k 1).1)).setCell ⟨B, 4, none⟩ (.int .i64 (f.k 1).2)).setCell ⟨B, 5, none⟩ (.bool (f.k 2).1)).setCell ⟨B, 6, none⟩ (.int .i64 (f.k 2).2)).setCell ⟨B, 7, none⟩ (.bool (f.k 3).1)).setCell ⟨B, 8, none⟩ (.int .i64 (f.k 3).2)).setCell ⟨B, 9, none⟩ (.bool (f.k 4).1)).setCell ⟨B, 10, none⟩ (.int .i64 (f.k 4).2)).setCell ⟨B, 11, none⟩ (.bool (f.k 5).1)).setCell ⟨B, 12, none⟩ (.int .i64 (f.k 5).2)).setCell ⟨B, 13, none⟩ (.bool (f.k 6).1)).setCell ⟨B, 14, none⟩ (.int .i64 (f.k 6).2)).setCell ⟨B, 15, none⟩ (.bool (f.k 7).1)).setCell ⟨B, 16, none⟩ (.int .i64 (f.k 7).2))
theorem FcAt.setIs {W : World} {B : Nat} {f : Fc} (h : FcAt W B f) (x : Bool) : FcAt (W.setCell ⟨B, 0, none⟩ (.bool x)) B ⟨x, f.k⟩ := by
  have h' : W.heap[B]? = _ := h
  unfold FcAt
  rw [heap_set_ h']; rfl
theorem fillF_at {W : World} {B : Nat} {z : Fc} (h : FcAt W B z) (f : Fc) : FcAt (fillF W B f) B f := by
  have h0 := h.setIs f.is
  have h1 := h0.set (r := 0) (by omega) (f.k 0)
  have h2 := h1.set (r := 1) (by omega) (f.k 1)
  have h3 := h2.set (r := 2) (by omega) (f.k 2)
  have h4 := h3.set (r := 3) (by omega) (f.k 3)
  have h5 := h4.set (r := 4) (by omega) (f.k 4)
  have h6 := h5.set (r := 5) (by omega) (f.k 5)
  have h7 := h6.set (r := 6) (by omega) (f.k 6)
  have h8 := h7.set (r := 7) (by omega) (f.k 7)
  exact h8
theorem fillF_below {W W0 : World} {B : Nat} (hb : Below W0.heap.size W0 W) (hB : W0.heap.size ≤ B) (f : Fc) : Below W0.heap.size W0 (fillF W B f) := (((((((((((((((((hb.setCell (p := ⟨B, 0, none⟩) hB (.bool f.is)).setCell (p := ⟨B, 1, none⟩) hB (.bool (f.k 0).1)).setCell (p := ⟨B, 2, none⟩) hB (.int .i64 (f.k 0).2)).setCell (p := ⟨B, 3, none⟩) hB (.bool (f.k 1).1)).setCell (p := ⟨B, 4, none⟩) hB (.int .i64 (f.k 1).2)).setCell (p := ⟨B, 5, none⟩) hB (.bool (f.k 2).1)).setCell (p := ⟨B, 6, none⟩) hB (.int .i64 (f.k 2).2)).setCell (p := ⟨B, 7, none⟩) hB (.bool (f.k 3).1)).setCell (p := ⟨B, 8, none⟩) hB (.int .i64 (f.k 3).2)).setCell (p := ⟨B, 9, none⟩) hB (.bool (f.k 4).1)).setCell (p := ⟨B, 10, none⟩) hB (.int .i64 (f.k 4).2)).setCell (p := ⟨B, 11, none⟩) hB (.bool (f.k 5).1)).setCell (p := ⟨B, 12, none⟩) hB (.int .i64 (f.k 5).2)).setCell (p := ⟨B, 13, none⟩) hB (.bool (f.k 6).1)).setCell (p := ⟨B, 14, none⟩) hB (.int .i64 (f.k 6).2)).setCell (p := ⟨B, 15, none⟩) hB (.bool (f.k 7).1)).setCell (p := ⟨B, 16, none⟩) hB (.int .i64 (f.k 7).2))
theorem infoFc : (Tryz.prog.info? 541).map (·.size) = some 17 := by kernel_rfl
set_option maxHeartbeats 4000000 in
theorem meet_any (f g : Fc) (W : World) : Calls Tryz.prog 414 #[fcV f, fcV g] W fun e w' => e = .returned (fcV (meetV f g)) ∧ Below W.heap.size W w' := by
  unfold fcV fcL rgL
  go_enter Tryz.func414, Tryz.ntmps414
  go_wp2_with fail
  have hz1 : (W.alloc (.cells (fcL f).toArray 541)).heap.size = W.heap.size + 1 := by show (W.heap.push _).size = _; rw [Array.size_push]
  have hz2 : ((W.alloc (.cells (fcL f).toArray 541)).alloc (.cells (fcL g).toArray 541)).heap.size = W.heap.size + 2 := by show ((W.alloc (.cells (fcL f).toArray 541)).heap.push _).size = _; rw [Array.size_push, hz1]
  have HA : Hid (FcAt (((W.alloc (.cells (fcL f).toArray 541)).alloc (.cells (fcL g).toArray 541)).alloc (.cells (fcL ⟨false, fun _ => kn0⟩).toArray 541)) W.heap.size f) := (((Mod.refl (fun _ => False) _).alloc _).alloc _).heap (World.alloc_heap_new W _) (fun h => h)
  have HG : Hid (FcAt (((W.alloc (.cells (fcL f).toArray 541)).alloc (.cells (fcL g).toArray 541)).alloc (.cells (fcL ⟨false, fun _ => kn0⟩).toArray 541)) (W.heap.size + 1) g) := by
    have := World.alloc_heap_new (W.alloc (.cells (fcL f).toArray 541)) (.cells (fcL g).toArray 541)
    rw [hz1] at this
    exact ((Mod.refl (fun _ => False) _).alloc _).heap this (fun h => h)
  have HR : Hid (FcAt (((W.alloc (.cells (fcL f).toArray 541)).alloc (.cells (fcL g).toArray 541)).alloc (.cells (fcL ⟨false, fun _ => kn0⟩).toArray 541)) (W.heap.size + 2) ⟨false, fun _ => kn0⟩) := by
    have := World.alloc_heap_new ((W.alloc (.cells (fcL f).toArray 541)).alloc (.cells (fcL g).toArray 541)) (.cells (fcL ⟨false, fun _ => kn0⟩).toArray 541)
    rw [hz2] at this
    exact this
  have HB : Hid (Below W.heap.size W (((W.alloc (.cells (fcL f).toArray 541)).alloc (.cells (fcL g).toArray 541)).alloc (.cells (fcL ⟨false, fun _ => kn0⟩).toArray 541))) := ((((Mod.refl (fun _ => False) W).alloc _).alloc _).alloc _).below (Nat.le_refl _) (fun _ _ h => h)
  clear hz1 hz2
  have hun : (((W.alloc (.cells (fcL f).toArray 541)).alloc (.cells (fcL g).toArray 541)).alloc (.cells (fcL ⟨false, fun _ => kn0⟩).toArray 541)) = ((W.alloc (.cells [.bool f.is, .bool (f.k 0).1, .int .i64 (f.k 0).2, .bool (f.k 1).1, .int .i64 (f.k 1).2, .bool (f.k 2).1, .int .i64 (f.k 2).2, .bool (f.k 3).1, .int .i64 (f.k 3).2, .bool (f.k 4).1, .int .i64 (f.k 4).2, .bool (f.k 5).1, .int .i64 (f.k 5).2, .bool (f.k 6).1, .int .i64 (f.k 6).2, .bool (f.k 7).1, .int .i64 (f.k 7).2].toArray 541)).alloc (.cells [.bool g.is, .bool (g.k 0).1, .int .i64 (g.k 0).2, .bool (g.k 1).1, .int .i64 (g.k 1).2, .bool (g.k 2).1, .int .i64 (g.k 2).2, .bool (g.k 3).1, .int .i64 (g.k 3).2, .bool (g.k 4).1, .int .i64 (g.k 4).2, .bool (g.k 5).1, .int .i64 (g.k 5).2, .bool (g.k 6).1, .int .i64 (g.k 6).2, .bool (g.k 7).1, .int .i64 (g.k 7).2].toArray 541)).alloc (.cells [.bool false, .bool false, .int .i64 0, .bool false, .int .i64 0, .bool false, .int .i64 0, .bool false, .int .i64 0, .bool false, .int .i64 0, .bool false, .int .i64 0, .bool false, .int .i64 0, .bool false, .int .i64 0].toArray 541) := rfl
  rw [hun] at HA HG HR HB
  clear hun
  generalize ((W.alloc (.cells [.bool f.is, .bool (f.k 0).1, .int .i64 (f.k 0).2, .bool (f.k 1).1, .int .i64 (f.k 1).2, .bool (f.k 2).1, .int .i64 (f.k 2).2, .bool (f.k 3).1, .int .i64 (f.k 3).2, .bool (f.k 4).1, .int .i64 (f.k 4).2, .bool (f.k 5).1, .int .i64 (f.k 5).2, .bool (f.k 6).1, .int .i64 (f.k 6).2, .bool (f.k 7).1, .int .i64 (f.k 7).2].toArray 541)).alloc (.cells [.bool g.is, .bool (g.k 0).1, .int .i64 (g.k 0).2, .bool (g.k 1).1, .int .i64 (g.k 1).2, .bool (g.k 2).1, .int .i64 (g.k 2).2, .bool (g.k 3).1, .int .i64 (g.k 3).2, .bool (g.k 4).1, .int .i64 (g.k 4).2, .bool (g.k 5).1, .int .i64 (g.k 5).2, .bool (g.k 6).1, .int .i64 (g.k 6).2, .bool (g.k 7).1, .int .i64 (g.k 7).2].toArray 541)).alloc (.cells [.bool false, .bool false, .int .i64 0, .bool false, .int .i64 0, .bool false, .int .i64 0, .bool false, .int .i64 0, .bool false, .int .i64 0, .bool false, .int .i64 0, .bool false, .int .i64 0, .bool false, .int .i64 0].toArray 541) = W3 at *
  generalize (.agg [.bool f.is, .bool (f.k 0).1, .int .i64 (f.k 0).2, .bool (f.k 1).1, .int .i64 (f.k 1).2, .bool (f.k 2).1, .int .i64 (f.k 2).2, .bool (f.k 3).1, .int .i64 (f.k 3).2, .bool (f.k 4).1, .int .i64 (f.k 4).2, .bool (f.k 5).1, .int .i64 (f.k 5).2, .bool (f.k 6).1, .int .i64 (f.k 6).2, .bool (f.k 7).1, .int .i64 (f.k 7).2].toArray : Value) = fv
  generalize (.agg [.bool g.is, .bool (g.k 0).1, .int .i64 (g.k 0).2, .bool (g.k 1).1, .int .i64 (g.k 1).2, .bool (g.k 2).1, .int .i64 (g.k 2).2, .bool (g.k 3).1, .int .i64 (g.k 3).2, .bool (g.k 4).1, .int .i64 (g.k 4).2, .bool (g.k 5).1, .int .i64 (g.k 5).2, .bool (g.k 6).1, .int .i64 (g.k 6).2, .bool (g.k 7).1, .int .i64 (g.k 7).2].toArray : Value) = gv
  have HA0 : Hid (FcAt W3 W.heap.size ⟨f.is, meetK f.k g.k 0⟩) := by
    have e : meetK f.k g.k 0 = f.k := by funext r; simp only [meetK]; rw [if_neg (by omega)]
    rw [e]; exact HA.out
  clear HA
  go_loopw [6] (fun i wr => ∃ k : Nat, k ≤ 8 ∧ i = .int .i64 k ∧ Hid (FcAt wr W.heap.size ⟨f.is, meetK f.k g.k k⟩) ∧ Hid (FcAt wr (W.heap.size + 1) g) ∧ Hid (FcAt wr (W.heap.size + 2) ⟨false, fun _ => kn0⟩) ∧ Hid (Below W.heap.size W wr)) (fun i _ => 8 - (intOf i).toNat)
  case atStart => exact ⟨0, by omega, rfl, HA0, HG, HR, HB⟩
  case round =>
    clear HA0 HG HR HB
    obtain ⟨k, hk, rfl, HA, HG, HR, HB⟩ := hrel
    by_cases hlt : k < 8
    · have hltI : (k : Int) < 8 := by omega
      obtain ⟨a0, a1⟩ := HA.out.reg hlt
      obtain ⟨b0, b1⟩ := HG.out.reg hlt
      simp only [meetK_at] at a0 a1
      have hne := fun w => neq_kn (f.k k) (g.k k) w
      by_cases he : f.k k = g.k k
      · rw [decide_eq_false (by simp [he])] at hne
        have HN : Hid (meetK f.k g.k (k + 1) = meetK f.k g.k k) := meetK_skip he
        clear he
        go_wp2_with fail
        go_quiet (fail)
        go_wp2_with fail
        exact ⟨⟨k + 1, by omega, by simp, by rw [HN.out]; exact HA.out, HG.out, HR.out, HB.out.trans (below_q_ wr _ |>.mono HB.out.size)⟩, by simp [intOf]; omega⟩
      · rw [decide_eq_true he] at hne
        have HN : Hid (meetK f.k g.k (k + 1) = setK (meetK f.k g.k k) k kn0) := meetK_set he
        have f0 := HA.out.frozen (1 + k * 2)
        have f1 := HA.out.frozen (1 + k * 2 + 1)
        clear he
        go_wp2_with fail
        go_quiet (fail)
        go_wp2_with fail
        have hs1 := (show FcAt (wr.drewN nq) W.heap.size ⟨f.is, meetK f.k g.k k⟩ from HA.out).set hlt kn0
        have hm : Mod (fun q => q = W.heap.size) (wr.drewN nq) (((wr.drewN nq).setCell ⟨W.heap.size, 1 + k * 2, none⟩ (.bool false)).setCell ⟨W.heap.size, 1 + k * 2 + 1, none⟩ (.int .i64 0)) := (mod_set_ _ W.heap.size (1 + k * 2) (.bool false)).trans (mod_set_ _ W.heap.size (1 + k * 2 + 1) (.int .i64 0))
        exact ⟨⟨k + 1, by omega, by simp, by rw [HN.out]; exact hs1, hm.heap (show (wr.drewN nq).heap[W.heap.size + 1]? = _ from HG.out) (by omega), hm.heap (show (wr.drewN nq).heap[W.heap.size + 2]? = _ from HR.out) (by omega), (HB.out.trans (below_q_ wr _ |>.mono HB.out.size)).trans (hm.below (show W.heap.size ≤ wr.heap.size from HB.out.size) (fun q hq e => by omega))⟩, by simp [intOf]; omega⟩
    · obtain rfl : k = 8 := by omega
      have HV : Hid (meetV f g = ⟨f.is, meetK f.k g.k 8⟩) := rfl
      have a0 := HA.out.is
      obtain ⟨a1, a2⟩ := HA.out.reg (r := 0) (by omega)
      obtain ⟨a3, a4⟩ := HA.out.reg (r := 1) (by omega)
      obtain ⟨a5, a6⟩ := HA.out.reg (r := 2) (by omega)
      obtain ⟨a7, a8⟩ := HA.out.reg (r := 3) (by omega)
      obtain ⟨a9, a10⟩ := HA.out.reg (r := 4) (by omega)
      obtain ⟨a11, a12⟩ := HA.out.reg (r := 5) (by omega)
      obtain ⟨a13, a14⟩ := HA.out.reg (r := 6) (by omega)
      obtain ⟨a15, a16⟩ := HA.out.reg (r := 7) (by omega)
      have c0 := HR.out.is
      obtain ⟨c1, c2⟩ := HR.out.reg (r := 0) (by omega)
      obtain ⟨c3, c4⟩ := HR.out.reg (r := 1) (by omega)
      obtain ⟨c5, c6⟩ := HR.out.reg (r := 2) (by omega)
      obtain ⟨c7, c8⟩ := HR.out.reg (r := 3) (by omega)
      obtain ⟨c9, c10⟩ := HR.out.reg (r := 4) (by omega)
      obtain ⟨c11, c12⟩ := HR.out.reg (r := 5) (by omega)
      obtain ⟨c13, c14⟩ := HR.out.reg (r := 6) (by omega)
      obtain ⟨c15, c16⟩ := HR.out.reg (r := 7) (by omega)
      have hfz := HR.out.frozen
      go_wp2_with fail
      have HF := Lib.hid (fillF_at HR.out (meetV f g))
      have HBF := Lib.hid (fillF_below HB.out (Nat.le_add_right _ 2) (meetV f g))
      clear hfz
      change bodyPost _ _ _ _ _ (fillF wr (W.heap.size + 2) (meetV f g))
      exact bodyPost_ret (results_cell_row rfl _ _ (W.heap.size + 2) _ _ _ _ rfl HF.out Tryz.underlying541 rfl infoFc) rfl ⟨rfl, HBF.out⟩
end Eng
end Go.Proofs.YtdfmgneicdpjmaaGreat

/- What check.result says, in plain words. -/
namespace Go.Proofs.YtdfmgneicdpjmaaGreat
open Go.RowKit Go.Shelf
namespace Eng
open Resp
/-- What is known of what an instruction sets, and whether it hands on. -/
def resV (i : Ins) (k : Nat → Kn) : Kn × Bool :=
  if i.op = 3 then ((true, i.n), true) else if i.op = 4 then (k i.b.toNat, true) else if i.op ≤ 32 then (kn0, true)
  else if dvB i = true ∧ k i.c.toNat = (true, 0) then (kn0, false)
  else if (k i.b.toNat).1 = false ∨ (k i.c.toNat).1 = false then (kn0, true)
  else ((decide (apE (i.op - 32) (k i.c.toNat).2 = 0), apR (i.op - 32) (k i.b.toNat).2 (k i.c.toNat).2), decide (apE (i.op - 32) (k i.c.toNat).2 = 0))
end Eng
end Go.Proofs.YtdfmgneicdpjmaaGreat

/- check.hands, check.facts in plain words: what is handed on; facts that are final; each change lowers them. -/
namespace Go.Proofs.YtdfmgneicdpjmaaGreat
open Go.RowKit Go.Shelf
set_option linter.unusedVariables false
set_option linter.unusedSimpArgs false
set_option maxRecDepth 100000
namespace Eng
open Resp

/-- Which instructions set a register. -/
def hChg (op : Int) : Bool := decide (op = 3 ∨ op = 4 ∨ op = 5 ∨ op = 7 ∨ 32 < op)
/-- The fact that an instruction hands on. -/
def hF (i : Ins) (f : Fc) : Fc := if hChg i.op = true then ⟨f.is, setK f.k i.a.toNat (resV i f.k).1⟩ else f
def hCnd (i : Ins) (f : Fc) : Bool := decide ((i.op = 10 ∨ i.op = 11) ∧ (f.k i.a.toNat).1 = true)
def hIs (i : Ins) (f : Fc) : Bool := if hCnd i f = true then (decide (i.op = 10) && decide ((f.k i.a.toNat).2 = 0)) || (decide (i.op = 11) && decide ((f.k i.a.toNat).2 < 0)) else tgtB i
def hGo (i : Ins) (f : Fc) : Bool := if hCnd i f = true then !(hIs i f) else if 32 < i.op then (resV i f.k).2 else goesB i
/-- What an instruction hands on, and to which one. -/
def handL (i : Ins) (k : Nat) (f : Fc) : List (Int × Fc) := (if hGo i f = true then [((k : Int) + 1, hF i f)] else []) ++ (if hIs i f = true then [(tgtV i, hF i f)] else [])
theorem hF_is (i : Ins) (f : Fc) : (hF i f).is = f.is := by unfold hF; split <;> rfl
theorem handL_len (i : Ins) (k : Nat) (f : Fc) : (handL i k f).length ≤ 2 := by unfold handL; split <;> split <;> simp
theorem handL_fact {i : Ins} {k : Nat} {f : Fc} {x : Int × Fc} (h : x ∈ handL i k f) : x.2 = hF i f := by
  unfold handL at h
  rcases List.mem_append.1 h with h | h
  · split at h
    · obtain rfl := List.mem_singleton.1 h; rfl
    · cases h
  · split at h
    · obtain rfl := List.mem_singleton.1 h; rfl
    · cases h
/-- Facts that Go holds for equal. -/
def fcE (f g : Fc) : Bool := decide (f.is = g.is ∧ ∀ r : Fin 8, f.k r = g.k r)
/-- What a fact is behind one that is handed on. -/
def nxF (o f : Fc) : Fc := if o.is = true then meetV o f else f
/-- How many registers are known, or more where an instruction is not reached. -/
def knN (k : Nat → Kn) : Nat := ((List.range 8).filter fun r => decide (¬ k r = kn0)).length
def hgt (f : Fc) : Nat := if f.is = true then knN f.k else 9
def hgtL (fs : List Fc) : Nat := (fs.map hgt).sum
theorem knN_le (k : Nat → Kn) : knN k ≤ 8 := by
  unfold knN
  have := List.length_filter_le (fun r => decide (¬ k r = kn0)) (List.range 8)
  simpa using this
theorem filter_len_lt {α : Type} {p q : α → Bool} : ∀ (l : List α), (∀ x ∈ l, p x = true → q x = true) → (∃ x ∈ l, q x = true ∧ p x = false) → (l.filter p).length < (l.filter q).length
  | [], _, ⟨x, hx, _⟩ => by cases hx
  | y :: t, h, ⟨x, hx, h1, h2⟩ => by
    have hle : (t.filter p).length ≤ (t.filter q).length := by
      clear hx h1 h2
      have h' : ∀ x ∈ t, p x = true → q x = true := fun x hx => h x (List.mem_cons_of_mem _ hx)
      clear h
      induction t with
      | nil => exact Nat.le_refl _
      | cons z t ih =>
        have ih' := ih (fun x hx => h' x (List.mem_cons_of_mem _ hx))
        cases hp : p z with
        | false =>
          rw [List.filter_cons_of_neg (by simp [hp])]
          cases hq : q z with
          | false => rw [List.filter_cons_of_neg (by simp [hq])]; exact ih'
          | true => rw [List.filter_cons_of_pos hq, List.length_cons]; omega
        | true =>
          have hq := h' z List.mem_cons_self hp
          rw [List.filter_cons_of_pos hp, List.filter_cons_of_pos hq, List.length_cons, List.length_cons]; omega
    rcases List.mem_cons.1 hx with rfl | hx
    · rw [List.filter_cons_of_pos h1, List.filter_cons_of_neg (by simp [h2]), List.length_cons]
      omega
    · have ih := filter_len_lt t (fun x hx => h x (List.mem_cons_of_mem _ hx)) ⟨x, hx, h1, h2⟩
      cases hp : p y with
      | false =>
        rw [List.filter_cons_of_neg (by simp [hp])]
        cases hq : q y with
        | false => rw [List.filter_cons_of_neg (by simp [hq])]; exact ih
        | true => rw [List.filter_cons_of_pos hq, List.length_cons]; omega
      | true =>
        have hq := h y List.mem_cons_self hp
        rw [List.filter_cons_of_pos hp, List.filter_cons_of_pos hq, List.length_cons, List.length_cons]; omega
theorem meet_lt {o f : Fc} (ho : o.is = true) (h : fcE (meetV o f) o = false) : hgt (meetV o f) < hgt o := by
  unfold hgt
  rw [if_pos (show (meetV o f).is = true from ho), if_pos ho]
  unfold fcE at h
  have h2 : ∃ r, r < 8 ∧ ¬ meetK o.k f.k 8 r = o.k r := by
    false_or_by_contra
    rename_i hn
    refine absurd (decide_eq_true ?_) (by rw [h]; decide)
    refine ⟨rfl, fun r => ?_⟩
    false_or_by_contra
    rename_i h3
    exact hn ⟨r, r.2, h3⟩
  obtain ⟨r, hr, h3⟩ := h2
  unfold knN meetV
  simp only
  refine filter_len_lt _ (fun x _ hx => ?_) ⟨r, List.mem_range.2 hr, ?_, ?_⟩
  · have hx' := of_decide_eq_true hx
    refine decide_eq_true (fun e => hx' ?_)
    unfold meetK
    split
    · rfl
    · exact e
  · refine decide_eq_true (fun e => h3 ?_)
    unfold meetK
    split
    · exact e.symm
    · rfl
  · refine decide_eq_false (fun e => e ?_)
    unfold meetK at h3 ⊢
    split at h3
    · rename_i h4; rw [if_pos h4]
    · exact absurd rfl h3
theorem nxF_lt {o f : Fc} (hf : f.is = true) (h : fcE (nxF o f) o = false) : hgt (nxF o f) < hgt o := by
  unfold nxF at h ⊢
  by_cases ho : o.is = true
  · rw [if_pos ho] at h ⊢
    exact meet_lt ho h
  · rw [if_neg ho]
    unfold hgt
    rw [if_pos hf, if_neg ho]
    have := knN_le f.k
    omega
theorem hgtL_set : ∀ (fs : List Fc) (j : Nat) (o : Fc) (x : Fc), fs[j]? = some o → hgt x < hgt o → hgtL (fs.set j x) < hgtL fs
  | [], j, o, _, hj, _ => by simp at hj
  | f :: t, 0, o, x, hj, h => by
    simp only [List.getElem?_cons_zero, Option.some.injEq] at hj
    subst hj
    simp only [hgtL, List.set_cons_zero, List.map_cons, List.sum_cons] at h ⊢
    omega
  | f :: t, j + 1, o, x, hj, h => by
    have ih := hgtL_set t j o x (by simpa using hj) h
    simp only [hgtL, List.set_cons_succ, List.map_cons, List.sum_cons] at ih ⊢
    omega
/-- The first facts. -/
def fcZ : Fc := ⟨false, fun _ => kn0⟩
def fc0 : Fc := ⟨true, fun r => if 3 ≤ r ∧ r < 8 then (true, 0) else kn0⟩
def fcs0 (n : Nat) : List Fc := (List.replicate n fcZ).set 0 fc0
/-- Facts that come of others by one instruction after the other. -/
inductive FcSteps (p : List Ins) : List Fc → List Fc → Prop
  | refl (fs : List Fc) : FcSteps p fs fs
  | step {fs gs : List Fc} (h : FcSteps p fs gs) {k : Nat} {i : Ins} {f o : Fc} (hi : p[k]? = some i) (hf : gs[k]? = some f) (hr : f.is = true) {x : Int × Fc} (hx : x ∈ handL i k f) (ho : gs[x.1.toNat]? = some o) (hc : fcE (nxF o x.2) o = false) :
    FcSteps p fs (gs.set x.1.toNat (nxF o x.2))
/-- Nothing that is handed on changes anything. -/
def FcQuiet (p : List Ins) (fs : List Fc) (n : Nat) : Prop := ∀ k i f, k < n → p[k]? = some i → fs[k]? = some f → f.is = true → ∀ x ∈ handL i k f, ∀ o, fs[x.1.toNat]? = some o → fcE (nxF o x.2) o = true
theorem FcSteps.len {p : List Ins} {fs gs : List Fc} (h : FcSteps p fs gs) : gs.length = fs.length := by
  induction h with
  | refl => rfl
  | step _ _ _ _ _ _ _ ih => rw [List.length_set, ih]
/-- A right program: what it hands on goes to one of its instructions. -/
theorem cp_right {p : List Ins} (h : cpE p = 0) : (1 ≤ p.length ∧ p.length ≤ 256) ∧ (∀ (k : Nat) (i : Ins), p[k]? = some i → oneE i = 0 ∧ (tgtB i = true → tgtV i < (p.length : Int))) ∧ (∀ i, p[p.length - 1]? = some i → goesB i = false) := by
  unfold cpE at h
  split at h
  · cases h
  rename_i h0
  split at h
  · cases h
  rename_i h1
  split at h
  · rename_i h2
    exfalso
    have h3 := List.findIdx_getElem (xs := p) (p := fun i => decide (¬ badI p.length i = 0)) (w := h2)
    have h4 : badI p.length (p[badP p]?.getD insZ) = 0 := h
    rw [List.getElem?_eq_getElem h2, Option.getD_some] at h4
    exact (of_decide_eq_true h3) h4
  rename_i h2
  split at h
  · cases h
  rename_i h3
  refine ⟨⟨by omega, by omega⟩, fun k i hi => ?_, fun i hi => ?_⟩
  · have hk : k < p.length := (List.getElem?_eq_some_iff.1 hi).1
    have h4 : badI p.length i = 0 := by
      have h5 := List.not_of_lt_findIdx (p := fun i => decide (¬ badI p.length i = 0)) (xs := p) (i := k) (by unfold badP at h2; omega)
      have h6 : p[k] = i := (List.getElem?_eq_some_iff.1 hi).2
      rw [h6] at h5
      simpa using h5
    unfold badI at h4
    split at h4
    · rename_i h7
      refine ⟨h7, fun ht => ?_⟩
      split at h4
      · cases h4
      · rename_i h8
        have h9 : ¬ ((p.length : Int) ≤ tgtV i) := fun h10 => h8 ⟨ht, h10⟩
        omega
    · rename_i h7; exact absurd h4 h7
  · rw [hi, Option.getD_some] at h3
    simpa using h3
end Eng
end Go.Proofs.YtdfmgneicdpjmaaGreat
