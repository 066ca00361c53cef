/- Slots: what would be taken next. -/
import Derived.Test.YtpcbmckknafdgaaSlotE
namespace Go.Proofs.Ytpcbmckknafdgaa
open Go.RowKit Go.Shelf
attribute [local go_sem] Oper.semAt_some
set_option linter.unusedVariables false
set_option linter.unusedSimpArgs false
set_option maxRecDepth 100000
namespace Slot

theorem held_kept {A B : World} {row : Option Nat} {g : Nat} {cs : Array Value} {t : TypeId} (h : A.heap[g]? = some (.cells cs t (0, 0))) (hg : A.grownBy B row) (hr : ∀ r, row = some r → ∃ o, A.heap[r]? = some o ∧ o.isCells = false) : B.heap[g]? = some (.cells cs t (0, 0)) := by
  refine (hg.block g (Array.getElem?_eq_some_iff.1 h).1 (fun e => ?_)).trans h
  obtain ⟨o, ho, hc⟩ := hr g e.symm
  rw [h] at ho; cases ho; cases hc

theorem nextT_cons {T : Tab} {i : Nat} {r : List Nat} (h : T.free = i :: r) : nextT T = (((i : Int), T.lives.getD i 0 + 1), true) := by rw [nextT, h]
def NextOut (T : Tab) (S : Nat) (pre : List { x : Nat // x ∈ T.free }) (W : World) : Prop :=
  ∃ x, pre = [x] ∧ RefAt W (S + 1) ((x.1 : Int), T.lives.getD x.1 0 + 1) ∧ Boxed W (S + 1 + 1) 4 (.bool true)
theorem RefAt.set {W : World} {B : Nat} {x : R} (h : RefAt W B x) (a b : Int) : RefAt ((W.setCell ⟨B, 0, none⟩ (.int .i64 a)).setCell ⟨B, 1, none⟩ (.int .i64 b)) B (a, b) := by
  obtain ⟨hlt, hk⟩ := Array.getElem?_eq_some_iff.1 h
  rw [RefAt]
  simp only [World.setCell, Array.getElem?_modify, if_true]
  rw [show W.heap[B]? = _ from h]
  rfl

theorem next_results {W : World} {S D : Nat} {x : R} {b : Bool} {tmps : Array Value} (h1 : RefAt W (S + 1) x) (h2 : Boxed W (S + 1 + 1) 4 (.bool b)) (hK : W.heap[D]? = some (.deferred (some []))) (e2 : tmps[2]? = some (.pointer (some ⟨S + 1, 0, none⟩))) (e3 : tmps[3]? = some (.pointer (some ⟨S + 1 + 1, 0, none⟩))) :
    (results Try.f22 tmps).run Try.prog (W.putObj D (.deferred none)) = .ok (.tuple #[.agg #[.int .i64 x.1, .int .i64 x.2], .bool b]) (W.putObj D (.deferred none)) := by
  have k1 : RefAt (W.putObj D (.deferred none)) (S + 1) x := held_kept h1 (grownBy_putObj' W D (.deferred none)) (fun r e => by cases e; exact ⟨_, hK, rfl⟩)
  have k2 : Boxed (W.putObj D (.deferred none)) (S + 1 + 1) 4 (.bool b) := held_kept h2 (grownBy_putObj' W D (.deferred none)) (fun r e => by cases e; exact ⟨_, hK, rfl⟩)
  have c0 := k1.c0
  have c1 := k1.c1
  have c2 := k2.cell
  simp [results, Try.results22, go_sem, e2, e3, c0, c1, c2]

set_option maxHeartbeats 2000000 in
theorem Next_any (p q n : Nat) (T : Tab) (w : World) (h : TableAt w p q n T) :
    Calls Try.prog 22 #[.pointer (some ⟨p, 0, none⟩)] w fun e w' => e = .returned (.tuple #[.agg #[.int .i64 (nextT T).1.1, .int .i64 (nextT T).1.2], .bool (nextT T).2]) ∧ Below w.heap.size w w' := by
  have hlt := h.lt
  refine (callsIn_wide (n := 6)).1 ?_
  refine callsIn_of_wp_marks Try.func22 rfl trivial ?_ rfl
  simp only [Try.ntmps22, List.size_toArray, List.length_cons, List.length_nil, Nat.reduceAdd, Nat.reduceSub, Array.replicate_succ, Array.replicate_zero, List.push_toArray, List.append_toArray, List.nil_append, List.cons_append]
  have hB0 : Below w.heap.size w (((w.alloc (.cells #[.pointer (some ⟨p, 0, none⟩)] 33)).alloc (.cells #[.int .i64 0, .int .i64 0] 26)).alloc (.cells #[.bool false] 4)) := (((Below.refl _ w).alloc (Nat.le_refl _) _).alloc (by simp) _).alloc (by simp; omega) _
  have h1 := h.below hB0
  have hB1 : Below w.heap.size w ((((w.alloc (.cells #[.pointer (some ⟨p, 0, none⟩)] 33)).alloc (.cells #[.int .i64 0, .int .i64 0] 26)).alloc (.cells #[.bool false] 4)).alloc (.cells #[.pointer (some ⟨p, 0, none⟩)] 33)) := hB0.alloc (by simp; omega) _
  have h2 := h.below hB1
  gi_wp2_with (first | (refine ⟨trivial, ?_⟩; gi_at_call 33; refine (callsIn_wide.2 (none_no p q n T _ h1)).mono ?_; rintro e w' ⟨rfl, rfl⟩) | (refine ⟨trivial, ?_⟩; gi_at_call 35; refine (callsIn_wide.2 (free_any _ _)).mono ?_; rintro e w' ⟨rfl, rfl⟩))
  have x0 := (((Boxed.new w 33 (.pointer (some ⟨p, 0, none⟩))).alloc (.cells #[.int .i64 0, .int .i64 0] 26)).alloc (.cells #[.bool false] 4)).alloc (.cells #[.pointer (some ⟨p, 0, none⟩)] 33)
  have x1 : RefAt ((((w.alloc (.cells #[.pointer (some ⟨p, 0, none⟩)] 33)).alloc (.cells #[.int .i64 0, .int .i64 0] 26)).alloc (.cells #[.bool false] 4)).alloc (.cells #[.pointer (some ⟨p, 0, none⟩)] 33)) (w.heap.size + 1) (0, 0) := by
    have a := World.alloc_heap_new (w.alloc (.cells #[.pointer (some ⟨p, 0, none⟩)] 33)) (.cells #[.int .i64 0, .int .i64 0] 26)
    rw [World.size_alloc] at a
    rw [RefAt, Below.heap_alloc _ _ _ (by simp), Below.heap_alloc _ _ _ (by simp)]; exact a
  have x2 := (Boxed.new ((w.alloc (.cells #[.pointer (some ⟨p, 0, none⟩)] 33)).alloc (.cells #[.int .i64 0, .int .i64 0] 26)) 4 (.bool false)).alloc (.cells #[.pointer (some ⟨p, 0, none⟩)] 33)
  have x3 := (Boxed.new (((w.alloc (.cells #[.pointer (some ⟨p, 0, none⟩)] 33)).alloc (.cells #[.int .i64 0, .int .i64 0] 26)).alloc (.cells #[.bool false] 4)) 33 (.pointer (some ⟨p, 0, none⟩))).cell
  simp only [World.size_alloc] at x2 x3
  have hsz : ((((w.alloc (.cells #[.pointer (some ⟨p, 0, none⟩)] 33)).alloc (.cells #[.int .i64 0, .int .i64 0] 26)).alloc (.cells #[.bool false] 4)).alloc (.cells #[.pointer (some ⟨p, 0, none⟩)] 33)).heap.size = w.heap.size + 4 := by simp
  generalize (((w.alloc (.cells #[.pointer (some ⟨p, 0, none⟩)] 33)).alloc (.cells #[.int .i64 0, .int .i64 0] 26)).alloc (.cells #[.bool false] 4)).alloc (.cells #[.pointer (some ⟨p, 0, none⟩)] 33) = W0 at *
  have Hsz := Lib.hid hsz
  clear hsz hB0 h1
  refine wpIn_rangeFunc_ownG rfl (by omega) (gf := 48) (lb := #[.pointer (some ⟨w.heap.size + 1 + 1 + 1, 0, none⟩)]) rfl trivial (enters_of Try.func48 (by kernel_rfl) rfl)
    (free1_stops' 5 (by omega) (w.heap.size + 1 + 1 + 1) (w.heap.size + 4) p q n T _ (by omega) (by have := Hsz.out; omega) h2 (by omega) (by omega) x3) belowK_t (belowK_b (by have := Hsz.out; omega)) (Below.refl _ _) (fun _ => rfl)
    (fun pre W => (pre = [] ∧ Boxed W w.heap.size 33 (.pointer (some ⟨p, 0, none⟩)) ∧ RefAt W (w.heap.size + 1) (0, 0) ∧ Boxed W (w.heap.size + 1 + 1) 4 (.bool false)) ∧ Below w.heap.size W0 W)
    (fun c pre W => (c = .ret ∧ NextOut T w.heap.size pre W) ∧ Below w.heap.size W0 W)
    (OwnFrom.and (Own.from ?own1 _) (ownFrom_below (by have := Hsz.out; omega) (by have := Hsz.out; omega)))
    (fun c => OwnFrom.and (Own.from ?own2 _) (ownFrom_below (by have := Hsz.out; omega) (by have := Hsz.out; omega)))
    ⟨⟨rfl, x0, x1, x2⟩, Below.refl _ _⟩
    (fun x => { tmps := #[.pointer (some ⟨p, 0, none⟩), .pointer (some ⟨w.heap.size, 0, none⟩), .pointer (some ⟨w.heap.size + 1, 0, none⟩), .pointer (some ⟨w.heap.size + 1 + 1, 0, none⟩), .int .i64 (x.1 : Int), .pointer (some ⟨p, 0, none⟩), .bool false, undef, .pointer (some ⟨p, 0, none⟩), .func (.func 48) #[] #[.pointer (some ⟨w.heap.size + 1 + 1 + 1, 0, none⟩)], .int .i64 (x.1 : Int), undef, undef, undef, undef, undef, undef, undef, undef, undef, undef, undef, undef], defers := [] }) ?assign ?body ?done ?stop
  case own1 =>
    rintro s A B row ⟨h1, h2, h3, h4⟩ hg hr
    exact ⟨h1, held_kept h2 hg hr, held_kept h3 hg hr, held_kept h4 hg hr⟩
  case own2 =>
    rintro s A B row ⟨h1, x, h2, h3, h4⟩ hg hr
    exact ⟨h1, x, h2, held_kept h3 hg hr, held_kept h4 hg hr⟩
  case assign =>
    intro l x W K hK
    gi_wp2
    exact hK
  case body =>
    rintro l pre x W ⟨⟨rfl, y0, y1, y2⟩, hB⟩ hlen
    have hT : TableAt W p q n T := h2.mod (Mod.of_below hB) (by omega) (by omega)
    obtain ⟨fst, nx, c0, -, -, -, hcc, -, -⟩ := hT.reads
    obtain ⟨hin, htk, hlm⟩ := h.2.1.free x.1 x.2
    obtain ⟨l0, l1⟩ := h.2.1.lives x.1 hin
    have hmost := h.2.1.most.2
    obtain ⟨d0, -, -⟩ := hcc x.1 hin
    have hinI : (x.1 : Int) < n := by omega
    clear hcc hT
    obtain ⟨x, hx⟩ := x
    simp only at *
    have b0 := y0.cell
    have r0 := y1.c0
    have r1 := y1.c1
    have rf : ∀ i, W.frozen? ⟨w.heap.size + 1, i, none⟩ = false := fun i => by simp [World.frozen?, show W.heap[w.heap.size + 1]? = _ from y1]
    have rf0 := rf 0
    have rf1 := rf 1
    have q0 := y2.cell
    have qf := y2.frozen
    generalize hlf : T.lives.getD x 0 = lf at *
    have Hlf := Lib.hid hlf
    clear hlf
    have g1 := RefAt.set y1 (x : Int) (lf + 1)
    have g2 : RefAt (((W.setCell ⟨w.heap.size + 1, 0, none⟩ (.int .i64 (x : Int))).setCell ⟨w.heap.size + 1, 1, none⟩ (.int .i64 (lf + 1))).setCell ⟨w.heap.size + 1 + 1, 0, none⟩ (.bool true)) (w.heap.size + 1) ((x : Int), lf + 1) := heap_set_other g1 (by simp) _
    have g3 : Boxed (((W.setCell ⟨w.heap.size + 1, 0, none⟩ (.int .i64 (x : Int))).setCell ⟨w.heap.size + 1, 1, none⟩ (.int .i64 (lf + 1))).setCell ⟨w.heap.size + 1 + 1, 0, none⟩ (.bool true)) (w.heap.size + 1 + 1) 4 (.bool true) :=
      Boxed.set (.bool true) (heap_set_other (heap_set_other y2 (a := ⟨w.heap.size + 1, 0, none⟩) (by simp) _) (a := ⟨w.heap.size + 1, 1, none⟩) (by simp) _)
    have G2 := Lib.hid g2
    have G3 := Lib.hid g3
    clear g1 g2 g3
    gi_wp2
    refine ⟨(((KeepsOthers.setCell _ _ _).trans (KeepsOthers.setCell _ _ _)).trans (KeepsOthers.setCell _ _ _)).from _, ⟨rfl, ⟨x, hx⟩, rfl, ?_, G3.out⟩, ?_⟩
    · show RefAt _ _ ((x : Int), T.lives.getD x 0 + 1)
      rw [Hlf.out]; exact G2.out
    · exact ((hB.setCell (p := ⟨w.heap.size + 1, 0, none⟩) (by simp) _).setCell (p := ⟨w.heap.size + 1, 1, none⟩) (by simp) _).setCell (p := ⟨w.heap.size + 1 + 1, 0, none⟩) (by simp; omega) _
  case done =>
    rintro D ys W hD hys ⟨⟨rfl, y0, y1, y2⟩, hB⟩ hK
    have hfr : T.free = [] := by simpa using hys.symm
    have HN : Hid (nextT T = ((0, 0), false)) := by rw [Hid, nextT, hfr]
    have b0 := y0.cell
    have r0 := y1.c0
    have r1 := y1.c1
    have rf : ∀ i, W.frozen? ⟨w.heap.size + 1, i, none⟩ = false := fun i => by simp [World.frozen?, show W.heap[w.heap.size + 1]? = _ from y1]
    have rf0 := rf 0
    have rf1 := rf 1
    have q0 := y2.cell
    have qf := y2.frozen
    have g1 := RefAt.set y1 0 0
    have g2 : RefAt (((W.setCell ⟨w.heap.size + 1, 0, none⟩ (.int .i64 0)).setCell ⟨w.heap.size + 1, 1, none⟩ (.int .i64 0)).setCell ⟨w.heap.size + 1 + 1, 0, none⟩ (.bool false)) (w.heap.size + 1) (0, 0) := heap_set_other g1 (by simp) _
    have g3 : Boxed (((W.setCell ⟨w.heap.size + 1, 0, none⟩ (.int .i64 0)).setCell ⟨w.heap.size + 1, 1, none⟩ (.int .i64 0)).setCell ⟨w.heap.size + 1 + 1, 0, none⟩ (.bool false)) (w.heap.size + 1 + 1) 4 (.bool false) :=
      Boxed.set (.bool false) (heap_set_other (heap_set_other y2 (a := ⟨w.heap.size + 1, 0, none⟩) (by simp) _) (a := ⟨w.heap.size + 1, 1, none⟩) (by simp) _)
    have hK2 := (((KeepsOthers.setCell W ⟨w.heap.size + 1, 0, none⟩ (.int .i64 0)).trans (KeepsOthers.setCell _ ⟨w.heap.size + 1, 1, none⟩ (.int .i64 0))).trans (KeepsOthers.setCell _ ⟨w.heap.size + 1 + 1, 0, none⟩ (.bool false))).same D _ hK rfl
    have hB2 := ((hB.setCell (p := ⟨w.heap.size + 1, 0, none⟩) (by simp) (.int .i64 0)).setCell (p := ⟨w.heap.size + 1, 1, none⟩) (by simp) (.int .i64 0)).setCell (p := ⟨w.heap.size + 1 + 1, 0, none⟩) (by simp; omega) (.bool false)
    have G2 := Lib.hid g2
    have G3 := Lib.hid g3
    have HK := Lib.hid hK2
    have HB := Lib.hid hB2
    clear g1 g2 g3 hK2 hB2 hfr hys
    gi_wp2
    generalize ((W.setCell ⟨w.heap.size + 1, 0, none⟩ (.int .i64 0)).setCell ⟨w.heap.size + 1, 1, none⟩ (.int .i64 0)).setCell ⟨w.heap.size + 1 + 1, 0, none⟩ (.bool false) = W9 at *
    refine ⟨by simp, .inl ⟨_, _, rfl, run_takeDeferred HK.out, ?_⟩⟩
    refine ⟨.tuple #[.agg #[.int .i64 0, .int .i64 0], .bool false], ?_, by rw [HN.out], (hB1.trans (HB.out.mono (Nat.le_refl _))).trans (belowK_b (w := w) (Nat.le_refl _) W9 D _ _ (by have := Hsz.out; omega) HK.out rfl rfl)⟩
    exact next_results G2.out G3.out HK.out rfl rfl
  case stop =>
    rintro D c pre W hD hpre ⟨⟨rfl, x, rfl, z1, z2⟩, hB⟩ hK
    have HN : Hid (nextT T = (((x.1 : Int), T.lives.getD x.1 0 + 1), true)) := by
      obtain ⟨r, hr⟩ := hpre
      exact nextT_cons hr.symm
    generalize T.lives.getD x.1 0 + 1 = lf at *
    gi_wp2
    refine ⟨by simp, .inl ⟨_, _, rfl, run_takeDeferred hK, ?_⟩⟩
    refine ⟨.tuple #[.agg #[.int .i64 (x.1 : Int), .int .i64 lf], .bool true], ?_, by rw [HN.out], (hB1.trans (hB.mono (Nat.le_refl _))).trans (belowK_b (w := w) (Nat.le_refl _) W D _ _ (by have := Hsz.out; omega) hK rfl rfl)⟩
    exact next_results z1 z2 hK rfl rfl
end Slot
end Go.Proofs.Ytpcbmckknafdgaa
