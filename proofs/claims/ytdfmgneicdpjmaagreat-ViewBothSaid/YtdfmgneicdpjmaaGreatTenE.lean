/- An inbox: what it does with one frame. -/
import Derived.Test.YtdfmgneicdpjmaaGreatTenD
import Derived.Test.YtdfmgneicdpjmaaGreatFermRange
import Derived.BigRegion
import Derived.Laws.EntriesVeiled
namespace Go.Proofs.YtdfmgneicdpjmaaGreat
open Go.RowKit Go.Shelf
set_option linter.unusedVariables false
set_option linter.unusedSimpArgs false
set_option maxRecDepth 100000
namespace Resp

theorem begun_any (I : Nat) (w : World) :
    Calls Tryz.prog 231 #[.pointer (some ⟨I, 0, none⟩)] w fun e w' => e = .returned (.func (.func 271) #[] #[.pointer (some ⟨w.heap.size, 0, none⟩), .pointer (some ⟨w.heap.size + 1, 0, none⟩)]) ∧ w' = (w.alloc (.cells #[.pointer (some ⟨I, 0, none⟩)] 148)).alloc (.cells #[.func (.func 270) #[] #[.pointer (some ⟨w.heap.size, 0, none⟩)]] 408) := by
  go_enter Tryz.func231, Tryz.ntmps231
  go_wp2_with fail
  go_ret
  exact ⟨rfl, rfl⟩
theorem row_one_ {W : World} {base g c : Nat} {fr : Value} (h : W.ownsRow base 25 1 (.slice (some ⟨g, 0, none⟩) 1 c) 1 [fr]) : W.cell? ⟨g, 0, none⟩ = some fr ∧ W.frozen? ⟨g, 0, none⟩ = false ∧ 1 ≤ c ∧ base ≤ g ∧ g < W.heap.size ∧ ∃ cs, W.heap[g]? = some (.cells cs 25) := by
  rcases h.2 with ⟨hn, hk⟩ | ⟨g', cap', cur', hv, hb', hg', k1, k2, k3, k4⟩
  · cases hn
  · cases hv
    have h0 : (cur'.toList.take (1 * 1))[0]? = some fr := by rw [k4]; simp
    rw [List.getElem?_take, if_pos (by omega)] at h0
    refine ⟨?_, ?_, by omega, hb', (Array.getElem?_eq_some_iff.1 hg').1, _, hg'⟩
    · simp [World.cell?, hg']; simpa using h0
    · simp [World.frozen?, hg']
set_option maxHeartbeats 1000000 in
theorem next_any (b1 I B g c base : Nat) (idle : Int) (fr : Value) (W : World) (hb : BoxAt W I B true (.slice (some ⟨g, 0, none⟩) 1 c) 1 0 idle) (hc : W.cell? ⟨b1, 0, none⟩ = some (.pointer (some ⟨I, 0, none⟩))) (hb1 : ¬ b1 = g) (ho : W.ownsRow base 25 1 (.slice (some ⟨g, 0, none⟩) 1 c) 1 [fr]) :
    Calls Tryz.prog 270 #[.pointer (some ⟨b1, 0, none⟩)] W fun e w' => e = .returned fr ∧ (∃ a' c', BoxAt w' I B true (.slice a' 0 c') 1 0 idle) ∧ Mod (fun k => k = I ∨ k = g) W w' := by
  obtain ⟨r1, r2, r3, r4, r5, cs, r6⟩ := row_one_ ho
  have hgI : ¬ g = I := fun e => by
    have := hb; rw [BoxAt, ← e, r6] at this; cases this
  have hIg : ¬ I = g := fun e => hgI e.symm
  have hm1 : Mod (fun k => k = g) W (W.setCell ⟨g, 0, none⟩ (.slice none 0 0)) := mod_set_ W g 0 _
  have HB1 := Lib.hid (hb.mod hm1 hIg)
  have hcc := hm1.cell (p := ⟨b1, 0, none⟩) hb1 hc
  obtain ⟨c0, c1, c2, c3, c4, c5, c6⟩ := hb.cells
  go_enter Tryz.func270, Tryz.ntmps270
  go_upto_region 3 with fail
  clear c0 c1 c2 c3 c4 c5 c6 r1 r2 r6 hc hb ho
  have HM1 := Lib.hid hm1
  clear hm1
  generalize W.setCell ⟨g, 0, none⟩ (.slice none 0 0) = W1 at *
  obtain ⟨c0, c1, c2, c3, c4, c5, c6⟩ := HB1.out.cells
  obtain ⟨-, f2, -, -, -⟩ := HB1.out.cool
  go_region
  generalize (if c = 1 then some (⟨g, 0, none⟩ : Addr) else some ⟨g, 1, none⟩) = a' at *
  generalize c - 1 = c' at *
  have HB2 := HB1.out.setF (.slice a' 0 c')
  have HM2 := mod_set_ W1 I 2 (.slice a' 0 c')
  have hm : Mod (fun k => k = I ∨ k = g) W (W1.setCell ⟨I, 2, none⟩ (.slice a' 0 c')).drew := ((HM1.out.mono (fun k _ h => .inr h)).trans (HM2.mono (fun k _ h => .inl h))).drew
  have HB3 : BoxAt (W1.setCell ⟨I, 2, none⟩ (.slice a' 0 c')).drew I B true (.slice a' 0 c') 1 0 idle := HB2
  have HM := Lib.hid hm
  have HB := Lib.hid HB3
  clear hm HB3 HB2 HM2 c0 c1 c2 c3 c4 c5 c6 f2 hcc
  generalize (W1.setCell ⟨I, 2, none⟩ (.slice a' 0 c')).drew = W2 at *
  go_wp2_with fail
  go_ret
  exact ⟨rfl, ⟨a', c', HB.out⟩, HM.out⟩

/-- What an inbox does with its one frame: behind no round, and behind it. -/
def OnSt (W0 : World) (I B g c b1 b2 base : Nat) (idle : Int) (fr : Value) : Nat → World → Prop
  | 0, W => (BoxAt W I B false (.slice (some ⟨g, 0, none⟩) 1 c) 1 0 idle ∧ SlotAt W B 0 ∧ W.ownsRow base 25 1 (.slice (some ⟨g, 0, none⟩) 1 c) 1 [fr]) ∧ W.heap[b1]? = some (.cells #[.pointer (some ⟨I, 0, none⟩)] 148) ∧ W.heap[b2]? = some (.cells #[.func (.func 270) #[] #[.pointer (some ⟨b1, 0, none⟩)]] 408) ∧ Mod (fun k => k = I ∨ k = B ∨ k = g) W0 W
  | _ + 1, W => ((∃ a' c', BoxAt W I B false (.slice a' 0 c') 1 1 idle) ∧ SlotAt W B 1) ∧ W.heap[b1]? = some (.cells #[.pointer (some ⟨I, 0, none⟩)] 148) ∧ W.heap[b2]? = some (.cells #[.func (.func 270) #[] #[.pointer (some ⟨b1, 0, none⟩)]] 408) ∧ Mod (fun k => k = I ∨ k = B ∨ k = g) W0 W
def OnYa (W0 : World) (I B g c b1 b2 base : Nat) (idle : Int) (fr : Value) (_ : Nat) (x : Value) (W : World) : Prop :=
  (∃ a c', x = .slice a 9 c') ∧ W.ownsRow W0.heap.size 5 1 x 9 (u8s (frameR 1)) ∧ OnSt W0 I B g c b1 b2 base idle fr 1 W
theorem cell_of_heap_ {W : World} {b : Nat} {v : Value} {t : TypeId} (h : W.heap[b]? = some (.cells #[v] t)) : W.cell? ⟨b, 0, none⟩ = some v := by simp [World.cell?, h]
set_option maxHeartbeats 4000000 in
theorem begun2_st (m : Nat) (hm : 1 ≤ m) (W0 : World) (I B g c b1 b2 base : Nat) (idle : Int) (fa : Option Addr) (fc : Nat) (hI : I < W0.heap.size) (hB : B < W0.heap.size) (hg : g < W0.heap.size) (hb1 : W0.heap.size ≤ b1) (hb2 : W0.heap.size ≤ b2) :
    SeqSt Fence.wide m Tryz.prog 271 #[.pointer (some ⟨b1, 0, none⟩), .pointer (some ⟨b2, 0, none⟩)] (fun x : Value => #[x, .bool true]) (fun k => k < W0.heap.size) (OnSt W0 I B g c b1 b2 base idle (.slice fa 1 fc)) (OnYa W0 I B g c b1 b2 base idle (.slice fa 1 fc)) 1 := by
  intro l J W hS hJ hY h0
  obtain ⟨⟨hbox, hslot, hrow⟩, hh1, hh2, hm0⟩ := hS
  have HBOX := Lib.hid hbox
  have HSLOT := Lib.hid hslot
  have HROW := Lib.hid hrow
  have HH1 := Lib.hid hh1
  have HH2 := Lib.hid hh2
  have HM0 := Lib.hid hm0
  have HJ := Lib.hid hJ
  have HY := Lib.hid hY
  have H0 := Lib.hid h0
  obtain ⟨c0, c1, c2, c3, c4, c5, c6⟩ := hbox.cells
  obtain ⟨f1, f2, -, -, -⟩ := hbox.cool
  have k1 := cell_of_heap_ hh1
  have k2 := cell_of_heap_ hh2
  have hIB : ¬ I = B := fun e => by have := hbox; rw [e, BoxAt, hslot] at this; cases this
  have hBI : ¬ B = I := fun e => hIB e.symm
  have hm1 := mod_set_ W I 1 (.bool true)
  have h1I : ¬ b1 = I := by omega
  have h2I : ¬ b2 = I := by omega
  clear hbox hslot hrow hh1 hh2 hm0 hJ hY h0
  refine callsIn_of_wp Tryz.func271 rfl trivial ?_ rfl
  simp only [Tryz.ntmps271, List.size_toArray, List.length_cons, List.length_nil, Nat.reduceAdd, Nat.reduceSub, Array.replicate_succ, Array.replicate_zero, List.push_toArray, List.append_toArray, List.nil_append, List.cons_append]
  refine wpIn_wide.2 ?_
  go_wp2_with fail
  refine wp_loop_rounds 2 ?_
  rw [rounds_succ]
  go_upto_region 2 with fail
  obtain ⟨r1, r2, r3, r4, r5, cs, r6⟩ := row_one_ HROW.out
  have hgB : ¬ B = g := fun e => by have := HSLOT.out; rw [e, SlotAt, r6] at this; cases this
  have hgI : ¬ g = I := fun e => by have := HBOX.out; rw [BoxAt, ← e, r6] at this; cases this
  have h1g : ¬ b1 = g := by omega
  have h2g : ¬ b2 = g := by omega
  have h1B : ¬ b1 = B := by omega
  have h2B : ¬ b2 = B := by omega
  have hsz0 : W0.heap.size ≤ W.heap.size := HM0.out.size
  have HB1 := Lib.hid (HBOX.out.setP true)
  have HS1 := Lib.hid (HSLOT.out.mod hm1 hBI)
  have HR1 := Lib.hid (owns_keep_at_ HROW.out HBOX.out hm1 (by decide))
  have HP1 := Lib.hid (hm1.heap HH1.out h1I)
  have HP2 := Lib.hid (hm1.heap HH2.out h2I)
  have HMW : Hid (Mod (fun k => k < W0.heap.size) W (W.setCell ⟨I, 1, none⟩ (.bool true))) := hm1.mono (fun k _ h => by omega)
  have HM1 : Hid (Mod (fun k => k = I ∨ k = B ∨ k = g) W0 (W.setCell ⟨I, 1, none⟩ (.bool true))) := HM0.out.trans (hm1.mono (fun k _ h => .inl h))
  clear c0 c1 c2 c3 c4 c5 c6 f1 f2 k1 k2 hm1 r1 r2 r3 r4 r5 r6 HBOX HSLOT HROW HH1 HH2
  generalize W.setCell ⟨I, 1, none⟩ (.bool true) = W1 at *
  have k1 := cell_of_heap_ HP1.out
  have k2 := cell_of_heap_ HP2.out
  obtain ⟨c0, -⟩ := HB1.out.cells
  have hsz1 := HM1.out.size
  go_region_held3 (fun W => W.cell? ⟨b1, 0, none⟩ = some (.pointer (some ⟨I, 0, none⟩)) ∧ W.cell? ⟨I, 0, none⟩ = some (.iface 147 (.agg #[.pointer (some ⟨B, 0, none⟩)])) ∧ W.cell? ⟨b2, 0, none⟩ = some (.func (.func 270) #[] #[.pointer (some ⟨b1, 0, none⟩)]))
    (first | (with_reducible exact HK2.out) | (with_reducible exact HK1.out) | exact ⟨k1, c0, k2⟩ | go_keep)
    ((first
      | (go_at_call 270; refine (next_any b1 I B g c base idle (.slice fa 1 fc) _ (by exact HB1.out) (by exact k1) h1g (by exact HR1.out)).mono ?_; rintro e y1 ⟨rfl, ⟨na, nc, hb1⟩, hm1⟩; have HY1 : Hid (Mod (fun k => k = I ∨ k = g) W1 y1) := Mod.trans (Mod.of_same (by repeat (first | exact Below.refl _ _ | refine below_drew_ ?_ | refine below_alloc_ ?_ _))) hm1; have HB2 := Lib.hid hb1; have HS2 := Lib.hid (HS1.out.mod HY1.out (by rintro (h | h); exact hBI h; exact hgB h)); have HP12 := Lib.hid (HY1.out.heap HP1.out (by rintro (h | h); exact h1I h; exact h1g h)); have HP22 := Lib.hid (HY1.out.heap HP2.out (by rintro (h | h); exact h2I h; exact h2g h)); have HK1 : Hid (y1.cell? ⟨b1, 0, none⟩ = some (.pointer (some ⟨I, 0, none⟩)) ∧ y1.cell? ⟨I, 0, none⟩ = some (.iface 147 (.agg #[.pointer (some ⟨B, 0, none⟩)])) ∧ y1.cell? ⟨b2, 0, none⟩ = some (.func (.func 270) #[] #[.pointer (some ⟨b1, 0, none⟩)])) := ⟨cell_of_heap_ HP12.out, hb1.cells.1, cell_of_heap_ HP22.out⟩; clear hb1 hm1)
      | (go_at_call 119; refine (Begin_short B 0 (by omega) _ (by exact HS2.out) fa 1 fc (by omega)).mono ?_; rintro e y2 ⟨v2, rfl, ho2, hs2, hm2⟩; obtain ⟨a2, c2, e2⟩ := ownsRow_form ho2; subst e2; have HY2 : Hid (Mod (fun k => k = B) y1 y2) := Mod.trans (Mod.of_same (by repeat (first | exact Below.refl _ _ | refine below_drew_ ?_ | refine below_alloc_ ?_ _))) hm2; have HS3 := Lib.hid hs2; have HB3 := Lib.hid (HB2.out.mod HY2.out hIB); have HO3 := Lib.hid (ownsRow_base ho2 (base' := W0.heap.size) (by have := HY1.out.size; show W0.heap.size ≤ y1.heap.size; omega)); have HP13 := Lib.hid (HY2.out.heap HP12.out h1B); have HP23 := Lib.hid (HY2.out.heap HP22.out h2B); have HK2 : Hid (y2.cell? ⟨b1, 0, none⟩ = some (.pointer (some ⟨I, 0, none⟩)) ∧ y2.cell? ⟨I, 0, none⟩ = some (.iface 147 (.agg #[.pointer (some ⟨B, 0, none⟩)])) ∧ y2.cell? ⟨b2, 0, none⟩ = some (.func (.func 270) #[] #[.pointer (some ⟨b1, 0, none⟩)])) := ⟨cell_of_heap_ HP13.out, HB3.out.cells.1, cell_of_heap_ HP23.out⟩; clear hm2 hs2 ho2)))
  have HM2 : Hid (Mod (fun k => k = I ∨ k = B ∨ k = g) W0 y2) := (HM1.out.trans (HY1.out.mono (fun k _ h => by omega))).trans (HY2.out.mono (fun k _ h => by omega))
  have HMW2 : Hid (Mod (fun k => k < W0.heap.size) W y2) := (HMW.out.trans (HY1.out.mono (fun k _ h => by omega))).trans (HY2.out.mono (fun k _ h => by omega))
  have hsz2 := HM2.out.size
  have q1 := cell_of_heap_ HP13.out
  clear HK1 HK2 HP12 HP22 HS2 HB2 HY1 HY2 HB1 HS1 HR1 HP1 HP2 HM1 k1 k2 c0 HMW hsz1
  go_wp2_with fail
  refine (Answered_any I B true (.slice na 0 nc) 1 idle 0 (by omega) a2 9 c2 (frameR 1) y2 HB3.out _ HO3.out rfl (by omega) (by omega)).mono ?_; rintro e W4 ⟨v4, rfl, ho4, hb4, hm4⟩
  obtain ⟨a4, c4, e4⟩ := ownsRow_form ho4
  subst e4
  have HB4 : Hid (BoxAt W4 I B false (.slice na 0 nc) 1 1 idle) := by have h := hb4; simp at h; exact h
  have HS4 := Lib.hid (HS3.out.mod hm4 hBI)
  have HP14 := Lib.hid (hm4.heap HP13.out h1I)
  have HP24 := Lib.hid (hm4.heap HP23.out h2I)
  have HM4 : Hid (Mod (fun k => k = I ∨ k = B ∨ k = g) W0 W4) := HM2.out.trans (hm4.mono (fun k _ h => .inl h))
  have HMW4 : Hid (Mod (fun k => k < W0.heap.size) W W4) := HMW2.out.trans (hm4.mono (fun k _ h => by omega))
  have HO4 := Lib.hid (ownsRow_base ho4 hsz2)
  clear ho4 hb4 hm4 HM2 HMW2 HS3 HB3 HP13 HP23 q1 HO3
  go_upto_region 5 with fail
  obtain ⟨fn, tmps, assign, body, hy, hR⟩ := HY.out 0 (.slice a4 9 c4) W4 (by omega) (HJ.out 0 W W4 H0.out HMW4.out) ⟨⟨a4, c4, rfl⟩, HO4.out, ⟨⟨na, nc, HB4.out⟩, HS4.out⟩, HP14.out, HP24.out, HM4.out⟩
  refine (wpIn_wide (n := m)).1 ?_
  gi_wp2
  refine hR.mono ?_
  rintro e W5 ⟨rfl, hJ5, hS5⟩
  gi_wp2
  have HS5 := Lib.hid hS5
  have HJ5 := Lib.hid hJ5
  obtain ⟨⟨⟨na5, nc5, hb5⟩, hs5⟩, hp15, hp25, hm5⟩ := hS5
  have k1 := cell_of_heap_ hp15
  obtain ⟨c0, c1, c2, c3, c4, c5, c6⟩ := hb5.cells
  clear hb5 hs5 hp15 hp25 hm5 hJ5 hR hy
  go_wp2_with fail
  rw [rounds_succ]
  go_wp2_with fail
  go_end0
  exact ⟨⟨_, rfl⟩, HJ5.out, HS5.out⟩
end Resp
end Go.Proofs.YtdfmgneicdpjmaaGreat
