import Derived.Test.YtdfmgneicdpjmaaGreatM06
import Derived.BigRegion
import Derived.Laws.EntriesVeiled
import Derived.Deep.RegionLaw
/- An inbox: what it does with one frame. -/
namespace Go.Proofs.YtdfmgneicdpjmaaGreat
open Go.RowKit Go.Shelf
set_option linter.unusedVariables false
set_option linter.unusedSimpArgs false
set_option maxRecDepth 100000
namespace Resp

theorem begun_any (I : Nat) (w : World) :
    Calls Tryz.prog 231 #[.pointer (some ⟨I, 0, none⟩)] w fun e w' => e = .returned (.func (.func 271) #[] #[.pointer (some ⟨w.heap.size, 0, none⟩), .pointer (some ⟨w.heap.size + 1, 0, none⟩)]) ∧ w' = (w.alloc (.cells #[.pointer (some ⟨I, 0, none⟩)] 148)).alloc (.cells #[.func (.func 270) #[] #[.pointer (some ⟨w.heap.size, 0, none⟩)]] 408) := by
  go_enter Tryz.func231, Tryz.ntmps231
  go_wp2_with fail
  go_ret
  exact ⟨rfl, rfl⟩
theorem row_one_ {W : World} {base g c : Nat} {fr : Value} (h : W.ownsRow base 25 1 (.slice (some ⟨g, 0, none⟩) 1 c) 1 [fr]) : W.cell? ⟨g, 0, none⟩ = some fr ∧ W.frozen? ⟨g, 0, none⟩ = false ∧ 1 ≤ c ∧ base ≤ g ∧ g < W.heap.size ∧ ∃ cs, W.heap[g]? = some (.cells cs 25) := by
  rcases h.2 with ⟨hn, hk⟩ | ⟨g', cap', cur', hv, hb', hg', k1, k2, k3, k4⟩
  · cases hn
  · cases hv
    have h0 : (cur'.toList.take (1 * 1))[0]? = some fr := by rw [k4]; simp
    rw [List.getElem?_take, if_pos (by omega)] at h0
    refine ⟨?_, ?_, by omega, hb', (Array.getElem?_eq_some_iff.1 hg').1, _, hg'⟩
    · simp [World.cell?, hg']; simpa using h0
    · simp [World.frozen?, hg']
set_option maxHeartbeats 1000000 in
theorem next_any (b1 I B g c base : Nat) (idle : Int) (fr : Value) (W : World) (hb : BoxAt W I B true (.slice (some ⟨g, 0, none⟩) 1 c) 1 0 idle) (hc : W.cell? ⟨b1, 0, none⟩ = some (.pointer (some ⟨I, 0, none⟩))) (hb1 : ¬ b1 = g) (ho : W.ownsRow base 25 1 (.slice (some ⟨g, 0, none⟩) 1 c) 1 [fr]) :
    Calls Tryz.prog 270 #[.pointer (some ⟨b1, 0, none⟩)] W fun e w' => e = .returned fr ∧ (∃ a' c', BoxAt w' I B true (.slice a' 0 c') 1 0 idle) ∧ Mod (fun k => k = I ∨ k = g) W w' := by
  obtain ⟨r1, r2, r3, r4, r5, cs, r6⟩ := row_one_ ho
  have hgI : ¬ g = I := fun e => by
    have := hb; rw [BoxAt, ← e, r6] at this; cases this
  have hIg : ¬ I = g := fun e => hgI e.symm
  have hm1 : Mod (fun k => k = g) W (W.setCell ⟨g, 0, none⟩ (.slice none 0 0)) := mod_set_ W g 0 _
  have HB1 := Lib.hid (hb.mod hm1 hIg)
  have hcc := hm1.cell (p := ⟨b1, 0, none⟩) hb1 hc
  obtain ⟨c0, c1, c2, c3, c4, c5, c6⟩ := hb.cells
  go_enter Tryz.func270, Tryz.ntmps270
  go_upto_region 3 with fail
  clear c0 c1 c2 c3 c4 c5 c6 r1 r2 r6 hc hb ho
  have HM1 := Lib.hid hm1
  clear hm1
  generalize W.setCell ⟨g, 0, none⟩ (.slice none 0 0) = W1 at *
  obtain ⟨c0, c1, c2, c3, c4, c5, c6⟩ := HB1.out.cells
  obtain ⟨-, f2, -, -, -⟩ := HB1.out.cool
  go_region
  generalize (if c = 1 then some (⟨g, 0, none⟩ : Addr) else some ⟨g, 1, none⟩) = a' at *
  generalize c - 1 = c' at *
  have HB2 := HB1.out.setF (.slice a' 0 c')
  have HM2 := mod_set_ W1 I 2 (.slice a' 0 c')
  have hm : Mod (fun k => k = I ∨ k = g) W (W1.setCell ⟨I, 2, none⟩ (.slice a' 0 c')).drew := ((HM1.out.mono (fun k _ h => .inr h)).trans (HM2.mono (fun k _ h => .inl h))).drew
  have HB3 : BoxAt (W1.setCell ⟨I, 2, none⟩ (.slice a' 0 c')).drew I B true (.slice a' 0 c') 1 0 idle := HB2
  have HM := Lib.hid hm
  have HB := Lib.hid HB3
  clear hm HB3 HB2 HM2 c0 c1 c2 c3 c4 c5 c6 f2 hcc
  generalize (W1.setCell ⟨I, 2, none⟩ (.slice a' 0 c')).drew = W2 at *
  go_wp2_with fail
  go_ret
  exact ⟨rfl, ⟨a', c', HB.out⟩, HM.out⟩

/-- What an inbox does with its one frame: behind no round, and behind it. -/
def OnSt (W0 : World) (I B g c b1 b2 base : Nat) (idle : Int) (fr : Value) : Nat → World → Prop
  | 0, W => (BoxAt W I B false (.slice (some ⟨g, 0, none⟩) 1 c) 1 0 idle ∧ SlotAt W B 0 ∧ W.ownsRow base 25 1 (.slice (some ⟨g, 0, none⟩) 1 c) 1 [fr]) ∧ W.heap[b1]? = some (.cells #[.pointer (some ⟨I, 0, none⟩)] 148) ∧ W.heap[b2]? = some (.cells #[.func (.func 270) #[] #[.pointer (some ⟨b1, 0, none⟩)]] 408) ∧ Mod (fun k => k = I ∨ k = B ∨ k = g) W0 W
  | _ + 1, W => ((∃ a' c', BoxAt W I B false (.slice a' 0 c') 1 1 idle) ∧ SlotAt W B 1) ∧ W.heap[b1]? = some (.cells #[.pointer (some ⟨I, 0, none⟩)] 148) ∧ W.heap[b2]? = some (.cells #[.func (.func 270) #[] #[.pointer (some ⟨b1, 0, none⟩)]] 408) ∧ Mod (fun k => k = I ∨ k = B ∨ k = g) W0 W
def OnYa (W0 : World) (I B g c b1 b2 base : Nat) (idle : Int) (fr : Value) (_ : Nat) (x : Value) (W : World) : Prop :=
  (∃ a c', x = .slice a 9 c') ∧ W.ownsRow W0.heap.size 5 1 x 9 (u8s (frameR 1)) ∧ OnSt W0 I B g c b1 b2 base idle fr 1 W
theorem cell_of_heap_ {W : World} {b : Nat} {v : Value} {t : TypeId} (h : W.heap[b]? = some (.cells #[v] t)) : W.cell? ⟨b, 0, none⟩ = some v := by simp [World.cell?, h]
set_option maxHeartbeats 4000000 in
theorem begun2_st (m : Nat) (hm : 1 ≤ m) (W0 : World) (I B g c b1 b2 base : Nat) (idle : Int) (fa : Option Addr) (fc : Nat) (hI : I < W0.heap.size) (hB : B < W0.heap.size) (hg : g < W0.heap.size) (hb1 : W0.heap.size ≤ b1) (hb2 : W0.heap.size ≤ b2) :
    SeqSt Fence.wide m Tryz.prog 271 #[.pointer (some ⟨b1, 0, none⟩), .pointer (some ⟨b2, 0, none⟩)] (fun x : Value => #[x, .bool true]) (fun k => k < W0.heap.size) (OnSt W0 I B g c b1 b2 base idle (.slice fa 1 fc)) (OnYa W0 I B g c b1 b2 base idle (.slice fa 1 fc)) 1 := by
  intro l J W hS hJ hY h0
  obtain ⟨⟨hbox, hslot, hrow⟩, hh1, hh2, hm0⟩ := hS
  have HBOX := Lib.hid hbox
  have HSLOT := Lib.hid hslot
  have HROW := Lib.hid hrow
  have HH1 := Lib.hid hh1
  have HH2 := Lib.hid hh2
  have HM0 := Lib.hid hm0
  have HJ := Lib.hid hJ
  have HY := Lib.hid hY
  have H0 := Lib.hid h0
  obtain ⟨c0, c1, c2, c3, c4, c5, c6⟩ := hbox.cells
  obtain ⟨f1, f2, -, -, -⟩ := hbox.cool
  have k1 := cell_of_heap_ hh1
  have k2 := cell_of_heap_ hh2
  have hIB : ¬ I = B := fun e => by have := hbox; rw [e, BoxAt, hslot] at this; cases this
  have hBI : ¬ B = I := fun e => hIB e.symm
  have hm1 := mod_set_ W I 1 (.bool true)
  have h1I : ¬ b1 = I := by omega
  have h2I : ¬ b2 = I := by omega
  clear hbox hslot hrow hh1 hh2 hm0 hJ hY h0
  refine callsIn_of_wp Tryz.func271 rfl trivial ?_ rfl
  simp only [Tryz.ntmps271, List.size_toArray, List.length_cons, List.length_nil, Nat.reduceAdd, Nat.reduceSub, Array.replicate_succ, Array.replicate_zero, List.push_toArray, List.append_toArray, List.nil_append, List.cons_append]
  refine wpIn_wide.2 ?_
  go_wp2_with fail
  refine wp_loop_rounds 2 ?_
  rw [rounds_succ]
  go_upto_region 2 with fail
  obtain ⟨r1, r2, r3, r4, r5, cs, r6⟩ := row_one_ HROW.out
  have hgB : ¬ B = g := fun e => by have := HSLOT.out; rw [e, SlotAt, r6] at this; cases this
  have hgI : ¬ g = I := fun e => by have := HBOX.out; rw [BoxAt, ← e, r6] at this; cases this
  have h1g : ¬ b1 = g := by omega
  have h2g : ¬ b2 = g := by omega
  have h1B : ¬ b1 = B := by omega
  have h2B : ¬ b2 = B := by omega
  have hsz0 : W0.heap.size ≤ W.heap.size := HM0.out.size
  have HB1 := Lib.hid (HBOX.out.setP true)
  have HS1 := Lib.hid (HSLOT.out.mod hm1 hBI)
  have HR1 := Lib.hid (owns_keep_at_ HROW.out HBOX.out hm1 (by decide))
  have HP1 := Lib.hid (hm1.heap HH1.out h1I)
  have HP2 := Lib.hid (hm1.heap HH2.out h2I)
  have HMW : Hid (Mod (fun k => k < W0.heap.size) W (W.setCell ⟨I, 1, none⟩ (.bool true))) := hm1.mono (fun k _ h => by omega)
  have HM1 : Hid (Mod (fun k => k = I ∨ k = B ∨ k = g) W0 (W.setCell ⟨I, 1, none⟩ (.bool true))) := HM0.out.trans (hm1.mono (fun k _ h => .inl h))
  clear c0 c1 c2 c3 c4 c5 c6 f1 f2 k1 k2 hm1 r1 r2 r3 r4 r5 r6 HBOX HSLOT HROW HH1 HH2
  generalize W.setCell ⟨I, 1, none⟩ (.bool true) = W1 at *
  have k1 := cell_of_heap_ HP1.out
  have k2 := cell_of_heap_ HP2.out
  obtain ⟨c0, -⟩ := HB1.out.cells
  have hsz1 := HM1.out.size
  go_region_held3 (fun W => W.cell? ⟨b1, 0, none⟩ = some (.pointer (some ⟨I, 0, none⟩)) ∧ W.cell? ⟨I, 0, none⟩ = some (.iface 147 (.agg #[.pointer (some ⟨B, 0, none⟩)])) ∧ W.cell? ⟨b2, 0, none⟩ = some (.func (.func 270) #[] #[.pointer (some ⟨b1, 0, none⟩)]))
    (first | (with_reducible exact HK2.out) | (with_reducible exact HK1.out) | exact ⟨k1, c0, k2⟩ | go_keep)
    ((first
      | (go_at_call 270; refine (next_any b1 I B g c base idle (.slice fa 1 fc) _ (by exact HB1.out) (by exact k1) h1g (by exact HR1.out)).mono ?_; rintro e y1 ⟨rfl, ⟨na, nc, hb1⟩, hm1⟩; have HY1 : Hid (Mod (fun k => k = I ∨ k = g) W1 y1) := Mod.trans (Mod.of_same (by repeat (first | exact Below.refl _ _ | refine below_drew_ ?_ | refine below_alloc_ ?_ _))) hm1; have HB2 := Lib.hid hb1; have HS2 := Lib.hid (HS1.out.mod HY1.out (by rintro (h | h); exact hBI h; exact hgB h)); have HP12 := Lib.hid (HY1.out.heap HP1.out (by rintro (h | h); exact h1I h; exact h1g h)); have HP22 := Lib.hid (HY1.out.heap HP2.out (by rintro (h | h); exact h2I h; exact h2g h)); have HK1 : Hid (y1.cell? ⟨b1, 0, none⟩ = some (.pointer (some ⟨I, 0, none⟩)) ∧ y1.cell? ⟨I, 0, none⟩ = some (.iface 147 (.agg #[.pointer (some ⟨B, 0, none⟩)])) ∧ y1.cell? ⟨b2, 0, none⟩ = some (.func (.func 270) #[] #[.pointer (some ⟨b1, 0, none⟩)])) := ⟨cell_of_heap_ HP12.out, hb1.cells.1, cell_of_heap_ HP22.out⟩; clear hb1 hm1)
      | (go_at_call 119; refine (Begin_short B 0 (by omega) _ (by exact HS2.out) fa 1 fc (by omega)).mono ?_; rintro e y2 ⟨v2, rfl, ho2, hs2, hm2⟩; obtain ⟨a2, c2, e2⟩ := ownsRow_form ho2; subst e2; have HY2 : Hid (Mod (fun k => k = B) y1 y2) := Mod.trans (Mod.of_same (by repeat (first | exact Below.refl _ _ | refine below_drew_ ?_ | refine below_alloc_ ?_ _))) hm2; have HS3 := Lib.hid hs2; have HB3 := Lib.hid (HB2.out.mod HY2.out hIB); have HO3 := Lib.hid (ownsRow_base ho2 (base' := W0.heap.size) (by have := HY1.out.size; show W0.heap.size ≤ y1.heap.size; omega)); have HP13 := Lib.hid (HY2.out.heap HP12.out h1B); have HP23 := Lib.hid (HY2.out.heap HP22.out h2B); have HK2 : Hid (y2.cell? ⟨b1, 0, none⟩ = some (.pointer (some ⟨I, 0, none⟩)) ∧ y2.cell? ⟨I, 0, none⟩ = some (.iface 147 (.agg #[.pointer (some ⟨B, 0, none⟩)])) ∧ y2.cell? ⟨b2, 0, none⟩ = some (.func (.func 270) #[] #[.pointer (some ⟨b1, 0, none⟩)])) := ⟨cell_of_heap_ HP13.out, HB3.out.cells.1, cell_of_heap_ HP23.out⟩; clear hm2 hs2 ho2)))
  have HM2 : Hid (Mod (fun k => k = I ∨ k = B ∨ k = g) W0 y2) := (HM1.out.trans (HY1.out.mono (fun k _ h => by omega))).trans (HY2.out.mono (fun k _ h => by omega))
  have HMW2 : Hid (Mod (fun k => k < W0.heap.size) W y2) := (HMW.out.trans (HY1.out.mono (fun k _ h => by omega))).trans (HY2.out.mono (fun k _ h => by omega))
  have hsz2 := HM2.out.size
  have q1 := cell_of_heap_ HP13.out
  clear HK1 HK2 HP12 HP22 HS2 HB2 HY1 HY2 HB1 HS1 HR1 HP1 HP2 HM1 k1 k2 c0 HMW hsz1
  go_wp2_with fail
  refine (Answered_any I B true (.slice na 0 nc) 1 idle 0 (by omega) a2 9 c2 (frameR 1) y2 HB3.out _ HO3.out rfl (by omega) (by omega)).mono ?_; rintro e W4 ⟨v4, rfl, ho4, hb4, hm4⟩
  obtain ⟨a4, c4, e4⟩ := ownsRow_form ho4
  subst e4
  have HB4 : Hid (BoxAt W4 I B false (.slice na 0 nc) 1 1 idle) := by have h := hb4; simp at h; exact h
  have HS4 := Lib.hid (HS3.out.mod hm4 hBI)
  have HP14 := Lib.hid (hm4.heap HP13.out h1I)
  have HP24 := Lib.hid (hm4.heap HP23.out h2I)
  have HM4 : Hid (Mod (fun k => k = I ∨ k = B ∨ k = g) W0 W4) := HM2.out.trans (hm4.mono (fun k _ h => .inl h))
  have HMW4 : Hid (Mod (fun k => k < W0.heap.size) W W4) := HMW2.out.trans (hm4.mono (fun k _ h => by omega))
  have HO4 := Lib.hid (ownsRow_base ho4 hsz2)
  clear ho4 hb4 hm4 HM2 HMW2 HS3 HB3 HP13 HP23 q1 HO3
  go_upto_region 5 with fail
  obtain ⟨fn, tmps, assign, body, hy, hR⟩ := HY.out 0 (.slice a4 9 c4) W4 (by omega) (HJ.out 0 W W4 H0.out HMW4.out) ⟨⟨a4, c4, rfl⟩, HO4.out, ⟨⟨na, nc, HB4.out⟩, HS4.out⟩, HP14.out, HP24.out, HM4.out⟩
  refine (wpIn_wide (n := m)).1 ?_
  gi_wp2
  refine hR.mono ?_
  rintro e W5 ⟨rfl, hJ5, hS5⟩
  gi_wp2
  have HS5 := Lib.hid hS5
  have HJ5 := Lib.hid hJ5
  obtain ⟨⟨⟨na5, nc5, hb5⟩, hs5⟩, hp15, hp25, hm5⟩ := hS5
  have k1 := cell_of_heap_ hp15
  obtain ⟨c0, c1, c2, c3, c4, c5, c6⟩ := hb5.cells
  clear hb5 hs5 hp15 hp25 hm5 hJ5 hR hy
  go_wp2_with fail
  rw [rounds_succ]
  go_wp2_with fail
  go_end0
  exact ⟨⟨_, rfl⟩, HJ5.out, HS5.out⟩
end Resp
end Go.Proofs.YtdfmgneicdpjmaaGreat

/- An inbox: on. -/
namespace Go.Proofs.YtdfmgneicdpjmaaGreat
open Go.RowKit Go.Shelf
attribute [local go_sem] Oper.semAt_some
set_option linter.unusedVariables false
set_option linter.unusedSimpArgs false
set_option maxRecDepth 100000
namespace Resp

theorem mod_put_ (A : World) (l : Nat) (o' : Obj) : Mod (fun k => k = l) A (A.putObj l o') := (Mod.of_grownBy (grownBy_putObj' A l o')).mono (fun k _ h => by simpa using h)
theorem OnSt.keep {T : Nat → Prop} {W0 : World} {I B g c b1 b2 base : Nat} {idle : Int} {fr : Value} {k : Nat} {A A' : World} (h : OnSt W0 I B g c b1 b2 base idle fr k A) (hm : Mod T A A') (hT : ∀ q, T q → W0.heap.size ≤ q ∧ ¬ q = b1 ∧ ¬ q = b2) (hI : I < W0.heap.size) (hB : B < W0.heap.size) (hg : g < W0.heap.size) : OnSt W0 I B g c b1 b2 base idle fr k A' := by
  have t1 : ∀ q, q < W0.heap.size → ¬ T q := fun q hq hTq => by have := (hT q hTq).1; omega
  cases k with
  | zero =>
    obtain ⟨⟨h1, h2, h3⟩, h4, h5, h6⟩ := h
    refine ⟨⟨h1.mod hm (t1 _ hI), h2.mod hm (t1 _ hB), ownsRow_mod h3 hm (fun q hq => ?_)⟩, hm.heap h4 (fun h => (hT _ h).2.1 rfl), hm.heap h5 (fun h => (hT _ h).2.2 rfl), mod_trans_up_ h6 hm (fun q hq hTq => absurd hTq (t1 q hq))⟩
    have : g = q := by simpa [Value.ownBlock] using hq
    exact t1 q (by omega)
  | succ k =>
    obtain ⟨⟨⟨a', c', h1⟩, h2⟩, h4, h5, h6⟩ := h
    exact ⟨⟨⟨a', c', h1.mod hm (t1 _ hI)⟩, h2.mod hm (t1 _ hB)⟩, hm.heap h4 (fun h => (hT _ h).2.1 rfl), hm.heap h5 (fun h => (hT _ h).2.2 rfl), mod_trans_up_ h6 hm (fun q hq hTq => absurd hTq (t1 q hq))⟩
theorem OutRow.modLt {W W' : World} {base m : Nat} {v : Value} (h : OutRow W base v m) (hm : Mod (fun k => k < base) W W') : OutRow W' base v m := by
  obtain ⟨vs, hl, ho, he⟩ := h
  exact ⟨vs, hl, ownsRow_mod ho hm (fun g hg => Nat.not_lt.2 (ownBlock_ge_ ho hg)), fun i hi => ownsRow_mod (he i hi) hm (fun g hg => Nat.not_lt.2 (ownBlock_ge_ (he i hi) hg))⟩
theorem OutRow.put {W : World} {base m : Nat} {v : Value} (h : OutRow W base v m) {l : Nat} {o : Obj} (o' : Obj) (hl : W.heap[l]? = some o) (ho' : o.isCells = false) : OutRow (W.putObj l o') base v m := by
  obtain ⟨vs, hvl, ho, he⟩ := h
  exact ⟨vs, hvl, ownsRow_putObj ho _ hl ho', fun i hi => ownsRow_putObj (he i hi) _ hl ho'⟩
theorem keepsFrom_mod_ {S : Nat → Prop} {b : Nat} {A A' : World} (hm : Mod S A A') (hS : ∀ k o, b ≤ k → S k → A.heap[k]? = some o → o.isCells = true) : KeepsFrom b A A' :=
  ⟨hm.size, fun k o hB hk ho => (hm.block k (Array.getElem?_eq_some_iff.1 hk).1 (fun hs => by have := hS k o hB hs hk; simp [ho] at this)).trans hk⟩
theorem own_isCells_ {W : World} {base : Nat} {e : TypeId} {size : Nat} {v : Value} {n : Nat} {xs : List Value} (h : W.ownsRow base e size v n xs) {k : Nat} {o : Obj} (hk : some k = v.ownBlock) (ho : W.heap[k]? = some o) : o.isCells = true := by
  rcases h.2 with ⟨rfl, rfl⟩ | ⟨g', cap, cur, rfl, hb, hgg, rest⟩
  · cases hk
  · cases hk
    rw [hgg] at ho; cases ho; rfl
set_option maxHeartbeats 2000000 in
theorem on_one (W0 : World) (I B g c base : Nat) (idle : Int) (fa : Option Addr) (fc : Nat) (hbox : BoxAt W0 I B false (.slice (some ⟨g, 0, none⟩) 1 c) 1 0 idle) (hslot : SlotAt W0 B 0) (hrow : W0.ownsRow base 25 1 (.slice (some ⟨g, 0, none⟩) 1 c) 1 [.slice fa 1 fc]) :
    Calls Tryz.prog 181 #[.pointer (some ⟨I, 0, none⟩), .slice none 0 0] W0 fun e w' => ∃ vo, e = .returned vo ∧ OutRow w' W0.heap.size vo 1 ∧ (∃ a' c', BoxAt w' I B false (.slice a' 0 c') 1 1 idle) ∧ SlotAt w' B 1 ∧ Mod (fun k => k = I ∨ k = B ∨ k = g) W0 w' := by
  obtain ⟨i1, hi, hz0, hz1, hz2⟩ := info_parts infoBytes
  obtain ⟨r1, r2, r3, r4, hg, cs, r6⟩ := row_one_ hrow
  have hI := hbox.lt
  have hB := hslot.lt
  have HBOX := Lib.hid hbox
  have HSLOT := Lib.hid hslot
  have HROW := Lib.hid hrow
  clear r1 r2 r3 r4 r6 hbox hslot hrow
  refine (callsIn_wide (n := 6)).1 ?_
  refine callsIn_of_wp_marks Tryz.func181 rfl trivial ?_ rfl
  simp only [Tryz.ntmps181, List.size_toArray, List.length_cons, List.length_nil, Nat.reduceAdd, Nat.reduceSub, Array.replicate_succ, Array.replicate_zero, List.push_toArray, List.append_toArray, List.nil_append, List.cons_append]
  refine wpIn_wide.2 ?_
  go_upto_region 1 with fail
  have hb1 : Below W0.heap.size W0 (W0.alloc (.cells #[.slice none 0 0] 22)) := (Below.refl _ _).alloc (Nat.le_refl _) _
  have HO := Lib.hid (World.alloc_heap_new W0 (.cells #[.slice none 0 0] 22))
  have hs1 : (W0.alloc (.cells #[.slice none 0 0] 22)).heap.size = W0.heap.size + 1 := by simp
  have hm1 : Mod (fun _ => False) W0 (W0.alloc (.cells #[.slice none 0 0] 22)) := Mod.of_same hb1
  generalize W0.alloc (.cells #[.slice none 0 0] 22) = W1 at *
  have HB1 := Lib.hid (HBOX.out.mod hm1 (by simp))
  obtain ⟨c0, c1, c2, c3, c4, c5, c6⟩ := HB1.out.cells
  go_step3
  go_wp2_with fail
  go_step3
  go_wp2_with fail
  refine (begun_any I W1).mono ?_; rintro e W2 ⟨rfl, hW2⟩
  go_wp2_with fail
  have hbz : Below W1.heap.size W1 ((W1.alloc (.cells #[.pointer (some ⟨I, 0, none⟩)] 148)).alloc (.cells #[.func (.func 270) #[] #[.pointer (some ⟨W0.heap.size + 1, 0, none⟩)]] 408)) := ((Below.refl _ _).alloc (Nat.le_refl _) _).alloc (by simp) _
  have hq1 := World.alloc_heap_new W1 (.cells #[.pointer (some ⟨I, 0, none⟩)] 148)
  have hq2 := World.alloc_heap_new (W1.alloc (.cells #[.pointer (some ⟨I, 0, none⟩)] 148)) (.cells #[.func (.func 270) #[] #[.pointer (some ⟨W0.heap.size + 1, 0, none⟩)]] 408)
  have hq3 : ((W1.alloc (.cells #[.pointer (some ⟨I, 0, none⟩)] 148)).alloc (.cells #[.func (.func 270) #[] #[.pointer (some ⟨W0.heap.size + 1, 0, none⟩)]] 408)).heap[W1.heap.size]? = some (.cells #[.pointer (some ⟨I, 0, none⟩)] 148) := (Below.heap_alloc _ _ _ (by simp)).trans hq1
  rw [World.size_alloc, hs1] at hq2
  rw [hs1] at hq3
  have hsz : ((W1.alloc (.cells #[.pointer (some ⟨I, 0, none⟩)] 148)).alloc (.cells #[.func (.func 270) #[] #[.pointer (some ⟨W0.heap.size + 1, 0, none⟩)]] 408)).heap.size = W0.heap.size + 3 := by simp [hs1]
  clear hW2 hq1
  generalize (W1.alloc (.cells #[.pointer (some ⟨I, 0, none⟩)] 148)).alloc (.cells #[.func (.func 270) #[] #[.pointer (some ⟨W0.heap.size + 1, 0, none⟩)]] 408) = W3 at *
  have hm3 : Mod (fun _ => False) W1 W3 := Mod.of_same hbz
  have hm03 := hm1.trans hm3
  have HO3 := Lib.hid (hm3.heap HO.out (by simp))
  have HSZ := Lib.hid hsz
  have HST : Hid (OnSt W0 I B g c (W0.heap.size + 1) (W0.heap.size + 1 + 1) base idle (.slice fa 1 fc) 0 W3) := ⟨⟨HBOX.out.mod hm03 (by simp), HSLOT.out.mod hm03 (by simp), ownsRow_mod HROW.out hm03 (by simp)⟩, hq3, hq2, hm03.mono (by simp)⟩
  clear c0 c1 c2 c3 c4 c5 c6 hq3 hq2 hm3 hm03 hm1 hb1 hbz HO HB1 hsz hs1 HBOX HSLOT HROW
  refine (wpIn_wide (n := 6)).1 ?_
  refine wpIn_rangeFunc_st rfl (by omega) (gf := 271) (lb := #[.pointer (some ⟨W0.heap.size + 1, 0, none⟩), .pointer (some ⟨W0.heap.size + 1 + 1, 0, none⟩)]) rfl trivial (enters_of Tryz.func271 (by kernel_rfl) rfl) (fun _ => rfl)
    (begun2_st 5 (by omega) W0 I B g c (W0.heap.size + 1) (W0.heap.size + 1 + 1) base idle fa fc hI hB hg (by omega) (by omega))
    (fun k hk => by have := HSZ.out; omega)
    (fun A hA => HST.out.keep (Mod.of_below hA) (fun q hq => by have := HSZ.out; omega) hI hB hg)
    (fun k A l o o' hl hlo ho hS => hS.keep (mod_put_ A l o') (fun q hq => by have := HSZ.out; omega) hI hB hg)
    (fun k x A l o o' hl hlo ho hY => ⟨hY.1, ownsRow_putObj hY.2.1 _ hlo ho, hY.2.2.keep (mod_put_ A l o') (fun q hq => by have := HSZ.out; omega) hI hB hg⟩)
    (fun k W => ∃ vo, W.heap[W0.heap.size]? = some (.cells #[vo] 22) ∧ OutRow W W0.heap.size vo k)
    (fun k A A' hI hm => by obtain ⟨vo, h1, h2⟩ := hI; exact ⟨vo, hm.heap h1 (by omega), h2.modLt hm⟩)
    (fun k A l o o' hl hlo ho hI => by obtain ⟨vo, h1, h2⟩ := hI; exact ⟨vo, (mod_put_ A l o').heap h1 (by have := HSZ.out; omega), h2.put _ hlo ho⟩)
    ⟨_, HO3.out, [], rfl, owns_nil _ _ _ _, fun i hi => absurd hi (by simp)⟩
    (fun x => { tmps := #[.pointer (some ⟨I, 0, none⟩), .slice none 0 0, undef, .pointer (some ⟨W0.heap.size, 0, none⟩), .slice none 0 0, x, .bool true, .pointer (some ⟨I, 0, none⟩), .pointer (some ⟨I, 0, none⟩), .pointer (some ⟨I, 1, none⟩), .bool false, undef, .pointer (some ⟨I, 0, none⟩), .func (.func 271) #[] #[.pointer (some ⟨W0.heap.size + 1, 0, none⟩), .pointer (some ⟨W0.heap.size + 1 + 1, 0, none⟩)], x, .bool true, undef, undef, undef, undef, undef, undef, undef], defers := [] }) ?assign ?body ?done
  case assign =>
    intro l x W K hK
    gi_wp2
    exact hK
  case body =>
    intro l k x W hk hI' hY
    obtain rfl : k = 0 := by omega
    obtain ⟨vo, ho1, vs, hvl, hrow, hve⟩ := hI'
    obtain rfl : vs = [] := List.length_eq_zero_iff.1 hvl
    obtain ⟨ad, cd, e⟩ := ownsRow_form hrow
    subst e
    obtain ⟨⟨xa, xc, rfl⟩, hx, hst⟩ := hY
    have hc := cell_of_heap_ ho1
    have hWs : W0.heap.size < W.heap.size := (Array.getElem?_eq_some_iff.1 ho1).1
    have HROW := Lib.hid hrow
    have HO1 := Lib.hid ho1
    have HX := Lib.hid hx
    have HST1 := Lib.hid hst
    clear hrow ho1 hx hst hve
    gi_wp2_with (gi_at_builtin; refine wpListIn_append_own _ rfl _ _ 22 rfl W0.heap.size 25 i1 (.slice none 0 0) 1 24 Tryz.underlying22 hi hz0 hz1 hz2 rfl (by decide) _ _ _ rfl (HROW.out.alloc _) ⟨W.heap.size, 0, none⟩ 1 1 [.slice xa 9 xc] rfl rfl (news_one_ (by simp)) (by simp [Value.oneCell']) (by simp [maxLen]) (by decide) (Nat.le_trans (Nat.le_of_lt hWs) (by simp)) ?_; intro v' w1 hown' hgrow _; obtain ⟨oa, oc, e⟩ := owns_form_pos_ hown' (by decide); subst e; have HOWN := Lib.hid hown'; have hgr' : (W.alloc (.cells #[.slice xa 9 xc] 25)).grownBy w1 (Value.slice ad 0 cd).ownBlock := hgrow; have HM1 := Lib.hid (((Mod.refl _ W).alloc _).trans (Mod.of_grownBy hgr')); have HQ1 := Lib.hid (HM1.out.heap HO1.out (own_other_ HROW.out HO1.out (by decide))); have q0 := cell_of_heap_ HQ1.out; have qf : w1.frozen? ⟨W0.heap.size, 0, none⟩ = false := (by simp [World.frozen?, HQ1.out]); clear hown' hgrow hgr')
    have hms := mod_set_ w1 W0.heap.size 0 (.slice (some ⟨oa, 0, none⟩) 1 oc)
    have hmt : Mod (fun k => some k = (Value.slice ad 0 cd).ownBlock ∨ k = W0.heap.size) W (w1.setCell ⟨W0.heap.size, 0, none⟩ (.slice (some ⟨oa, 0, none⟩) 1 oc)) := (HM1.out.mono (fun _ _ h => .inl h)).trans (hms.mono (fun _ _ h => .inr h))
    have hst := HST1.out
    obtain ⟨-, hp1, hp2, -⟩ := HST1.out
    refine ⟨keepsFrom_mod_ hmt ?_, ⟨.slice (some ⟨oa, 0, none⟩) 1 oc, ?_, [.slice xa 9 xc], rfl, ?_, ?_⟩, hst.keep hmt ?_ hI hB hg⟩
    · rintro q o hq (h | h) ho
      · exact own_isCells_ HROW.out h ho
      · have := HSZ.out; omega
    · have := heap_set_ HQ1.out 0 (.slice (some ⟨oa, 0, none⟩) 1 oc)
      simpa using this
    · exact owns_keep_at_ HOWN.out HQ1.out hms (by decide)
    · intro i hi
      obtain rfl : i = 0 := by simpa using hi
      exact owns_keep_at_ (owns_keep_ HX.out HROW.out HM1.out (by decide)) HQ1.out hms (by decide)
    · rintro q (h | h)
      · exact ⟨ownBlock_ge_ HROW.out h.symm, fun e => own_other_ HROW.out hp1 (by decide) (by rw [← e]; exact h), fun e => own_other_ HROW.out hp2 (by decide) (by rw [← e]; exact h)⟩
      · omega
  case done =>
    intro D W hD hI' hS hK
    obtain ⟨vo, ho1, hrow⟩ := hI'
    have hc := cell_of_heap_ ho1
    obtain ⟨⟨hbx, hsl⟩, -, -, hm⟩ := hS
    simp only [Exit.inBlock, Exit.then]
    have HROW := Lib.hid hrow
    have HBX := Lib.hid hbx
    have HSL := Lib.hid hsl
    have HM := Lib.hid hm
    have HK := Lib.hid hK
    clear hrow hbx hsl hm hK ho1
    go_wp2_with fail
    rw [Exit.noGoto_ret]
    refine ⟨by simp, .inl ⟨_, _, rfl, run_takeDeferred HK.out, ?_⟩⟩
    have hmp := mod_put_ W D (.deferred none)
    have hDn : ∀ q, q < W0.heap.size → ¬ q = D := fun q hq e => by have := HSZ.out; omega
    obtain ⟨a', c', hbx⟩ := HBX.out
    exact ⟨_, results_tmp rfl _ _ _, vo, rfl, HROW.out.put _ HK.out rfl, ⟨a', c', hbx.mod hmp (hDn _ hI)⟩, HSL.out.mod hmp (hDn _ hB), mod_trans_up_ HM.out hmp (fun q hq e => absurd e (hDn q hq))⟩
end Resp
end Go.Proofs.YtdfmgneicdpjmaaGreat

/- An inbox: Put of one frame into an empty inbox. -/
namespace Go.Proofs.YtdfmgneicdpjmaaGreat
open Go.RowKit Go.Shelf
set_option linter.unusedVariables false
set_option linter.unusedSimpArgs false
set_option maxRecDepth 100000
namespace Resp

set_option maxHeartbeats 2000000 in
theorem Put_one (W : World) (I B f fc : Nat) (z : Int) (idle : Int) (hbox : BoxAt W I B false (.slice none 0 0) 0 0 idle) (hslot : SlotAt W B 0) (hf : W.cell? ⟨f, 0, none⟩ = some (.int .u8 z)) :
    Calls Tryz.prog 143 #[.pointer (some ⟨I, 0, none⟩), .slice (some ⟨f, 0, none⟩) 1 fc] W fun e w' => ∃ vo, e = .returned (.tuple #[vo, .int .i64 0]) ∧ OutRow w' W.heap.size vo 1 ∧ (∃ a' c', BoxAt w' I B false (.slice a' 0 c') 1 1 idle) ∧ SlotAt w' B 1 ∧ Mod (fun k => k = I ∨ k = B) W w' := by
  obtain ⟨i1, hi, hz0, hz1, hz2⟩ := info_parts infoBytes
  obtain ⟨i2, ki, kz0, kz1, kz2⟩ := info_parts infoByte
  have hI := hbox.lt
  have hB := hslot.lt
  have HBOX := Lib.hid hbox
  have HSLOT := Lib.hid hslot
  obtain ⟨c0, c1, c2, c3, c4, c5, c6⟩ := hbox.cells
  obtain ⟨-, f2, f3, -, -⟩ := hbox.cool
  have hIB : ¬ I = B := fun e => by have := hbox; rw [e, BoxAt, hslot] at this; cases this
  clear hbox hslot
  go_enter Tryz.func143, Tryz.ntmps143
  go_wp2_with fail
  refine (BoxNone_no I B false (.slice none 0 0) 0 0 idle W HBOX.out).mono ?_; rintro e w1 ⟨rfl, hy⟩
  subst hy
  go_upto_region 5 with fail
  go_cut [] from 16 (fun wx => ∃ g c, BoxAt wx I B false (.slice (some ⟨g, 0, none⟩) 1 c) 0 0 idle ∧ (∃ fa c', wx.ownsRow W.heap.size 25 1 (.slice (some ⟨g, 0, none⟩) 1 c) 1 [.slice fa 1 c']) ∧ Mod (fun k => k = I) W wx)
  case first =>
    rename_i J K' hJ hK
    have e1 : (W.alloc (.cells #[] 5)).cell? ⟨I, 2, none⟩ = some (.slice none 0 0) := ((Mod.refl (fun _ => False) W).alloc _).cell (by simp) c2
    have e1' : (W.alloc (.cells #[] 5)).cell? ⟨f, 0, none⟩ = some (.int .u8 z) := ((Mod.refl (fun _ => False) W).alloc _).cell (by simp) hf
    go_region_law ((first
      | (refine step_append_lies _ (by rfl) _ _ _ (by rfl) W.heap.size 5 i2 _ 1 1 Tryz.underlying25 ki kz0 kz1 kz2 rfl (by omega) _ 0 _ (by rfl) (by exact World.ownsRow_lit W #[] 0 (Nat.le_refl _) (by unfold maxLen; omega) rfl) _ 1 fc [.int .u8 z] (by rfl) (by rfl) (news_one_ (by exact e1')) (by simp [Value.oneCell']) (by omega) (by unfold maxLen; omega) (by omega) (by simp) _ (by rfl) ?_; intro x1 y1 w1 hown1 hgrow1 hat1 hlt1; have HM1 : Hid (Mod (fun _ => False) W w1) := mod_trans_up_ (Mod.of_same (by repeat (first | exact Below.refl _ _ | refine below_drew_ ?_ | refine below_alloc_ ?_ _))) (Mod.of_grownBy (row := some W.heap.size) hgrow1) (fun q hq e => by simp at e; omega); have HO1 := Lib.hid hown1; have e2 := HM1.out.cell (by simp) c2; have e3 : (w1.alloc (.cells #[.slice (some ⟨x1, 0, none⟩) 1 y1] 25)).cell? ⟨I, 2, none⟩ = some (.slice none 0 0) := ((Mod.refl (fun _ => False) w1).alloc _).cell (by simp) e2; clear hown1 hgrow1 hat1 hlt1)
      | (refine step_append_lies _ (by rfl) _ _ _ (by rfl) W.heap.size 25 i1 _ 1 24 Tryz.underlying22 hi hz0 hz1 hz2 rfl (by omega) _ 0 _ (by rfl) (owns_nil _ _ _ _) _ 1 1 [.slice (some ⟨x1, 0, none⟩) 1 y1] (by rfl) (by rfl) (news_one_ (by simp)) (by simp [Value.oneCell']) (by omega) (by unfold maxLen; omega) (by omega) (by have := HM1.out.size; simp; omega) _ (by rfl) ?_; intro x2 y2 w2 hown2 hgrow2 hat2 hlt2; have HM2 : Hid (Mod (fun _ => False) W w2) := mod_trans_up_ HM1.out (mod_trans_up_ (S := fun _ => False) (Mod.of_same (by repeat (first | exact Below.refl _ _ | refine below_drew_ ?_ | refine below_alloc_ ?_ _))) (Mod.of_grownBy (row := none) hgrow2) (fun q hq e => by simp at e)) (fun q hq e => e); have HO2 := Lib.hid hown2; have e4 := HM2.out.cell (by simp) c2; have e5 : w2.frozen? ⟨I, 2, none⟩ = false := (HM2.out.frozen (p := ⟨I, 2, none⟩) hI (by simp)).trans f2; clear hown2 hgrow2 hat2 hlt2)))
    all_goals (change K' _ _; refine hK _ _ (Met.intro (hJ _ _ ?_)); (repeat apply Exists.intro); refine ⟨?_, rfl⟩)
    all_goals (
      have hb2 := HBOX.out.mod HM2.out (by simp)
      have hms := mod_set_ w2 I 2 (.slice (some ⟨x2, 0, none⟩) 1 y2)
      exact ⟨x2, y2, hb2.setF _, ⟨some ⟨x1, 0, none⟩, y1, owns_keep_at_ HO2.out hb2 hms (by decide)⟩, (HM2.out.mono (by simp)).trans hms⟩)
  case rest =>
    clear c0 c1 c2 c3 c4 c5 c6 f2 f3
    obtain ⟨g, c, hb, ⟨fa, c', hr⟩, hm⟩ := hcut
    obtain ⟨c0, c1, c2, c3, c4, c5, c6⟩ := hb.cells
    obtain ⟨-, -, f3, -, -⟩ := hb.cool
    have HB1 := Lib.hid hb
    have HR1 := Lib.hid hr
    have HM1 := Lib.hid hm
    clear hb hr hm
    go_upto_region 7 with fail
    have hms := mod_set_ wc I 3 (.int .i64 1)
    have hbs := HB1.out.setPut 1
    have hrs := owns_keep_at_ HR1.out HB1.out hms (by decide)
    have HM2 := Lib.hid (HM1.out.trans hms)
    have HB2 := Lib.hid hbs
    have HR2 := Lib.hid hrs
    have HS2 := Lib.hid (HSLOT.out.mod HM2.out (fun e => hIB e.symm))
    clear hms hbs hrs c0 c1 c2 c3 c4 c5 c6 f3
    generalize wc.setCell ⟨I, 3, none⟩ (.int .i64 1) = W3 at *
    go_wp2_with fail
    refine (on_one W3 I B g c _ idle fa c' HB2.out HS2.out HR2.out).mono ?_; rintro e W4 ⟨vo, rfl, ho, hb4, hs4, hm4⟩
    have hsz := HM2.out.size
    have hgW : W.heap.size ≤ g := ownBlock_ge_ HR2.out rfl
    have HO4 : Hid (OutRow W4 W.heap.size vo 1) := by
      obtain ⟨vs, hvl, hvo, hve⟩ := ho
      exact ⟨vs, hvl, ownsRow_base hvo hsz, fun i hi => ownsRow_base (hve i hi) hsz⟩
    have HB4 := Lib.hid hb4
    have HS4 := Lib.hid hs4
    have HM4 : Hid (Mod (fun k => k = I ∨ k = B) W W4) := mod_trans_up_ (HM2.out.mono (fun k _ h => .inl h)) hm4 (fun q hq e => by omega)
    clear ho hb4 hs4 hm4
    go_wp2_with fail
    go_ret2
    exact ⟨vo, rfl, HO4.out, HB4.out, HS4.out, HM4.out⟩
end Resp
end Go.Proofs.YtdfmgneicdpjmaaGreat
