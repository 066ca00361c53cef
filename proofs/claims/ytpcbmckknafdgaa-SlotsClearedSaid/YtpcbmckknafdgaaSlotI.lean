/- Slots: the laws' step. -/
import Derived.Test.YtpcbmckknafdgaaSlotH
import Derived.Deep.RegionWith
namespace Go.Proofs.Ytpcbmckknafdgaa
open Go.RowKit Go.Shelf
set_option linter.unusedVariables false
set_option linter.unusedSimpArgs false
set_option maxRecDepth 100000
namespace Slot

/-- What a step does to a table, and what it tells. -/
def stepT (n : Nat) (T : Tab) (x : Int) : Tab × R × Bool × Int :=
  if x % 2 = 0 ∨ (refsT n T).length = 0 then ((takeT T).1, (takeT T).2.1, true, (takeT T).2.2)
  else
    let r := (refsT n T)[(x / 2 % ((refsT n T).length : Int)).toNat]?.getD (0, 0)
    ((giveT n T r).1, r, false, (giveT n T r).2)

theorem step_results {W : World} {S : Nat} {x : R} {b : Bool} {e : Int} {tmps : Array Value} (h1 : RefAt W S x) (e2 : tmps[4]? = some (.pointer (some ⟨S, 0, none⟩))) (e3 : tmps[5]? = some (.bool b)) (e4 : tmps[6]? = some (.int .i64 e)) :
    (results Try.f17 tmps).run Try.prog W = .ok (.tuple #[.agg #[.int .i64 x.1, .int .i64 x.2], .bool b, .int .i64 e]) W := by
  have c0 := h1.c0
  have c1 := h1.c1
  simp [results, Try.results17, go_sem, e2, e3, e4, c0, c1]

set_option maxHeartbeats 4000000 in
theorem Step_any (p q n : Nat) (T : Tab) (x : Int) (hx : 0 ≤ x ∧ x < 256) (w : World) (h : TableAt w p q n T) :
    Calls Try.prog 17 #[.pointer (some ⟨p, 0, none⟩), .int .u8 x] w fun e w' => e = .returned (.tuple #[.agg #[.int .i64 (stepT n T x).2.1.1, .int .i64 (stepT n T x).2.1.2], .bool (stepT n T x).2.2.1, .int .i64 (stepT n T x).2.2.2]) ∧ TableAt w' p q n (stepT n T x).1 ∧ Mod (fun k => k = p ∨ k = q) w w' := by
  have hlt := h.lt
  have hle := refs_le n T
  have hnn := h.2.1.n
  obtain ⟨hx0, hx1⟩ := hx
  have hB0 : Below w.heap.size w (w.alloc (.cells #[.int .i64 0, .int .i64 0] 26)) := (Below.refl _ w).alloc (Nat.le_refl _) _
  have h0 := h.below hB0
  have x1 : RefAt (w.alloc (.cells #[.int .i64 0, .int .i64 0] 26)) w.heap.size (0, 0) := World.alloc_heap_new w _
  have hs0 : (w.alloc (.cells #[.int .i64 0, .int .i64 0] 26)).heap.size = w.heap.size + 1 := by simp
  by_cases h2 : x % 2 = 0
  · have HS : Hid (stepT n T x = ((takeT T).1, (takeT T).2.1, true, (takeT T).2.2)) := by rw [Hid, stepT, if_pos (.inl h2)]
    go_enter Try.func17, Try.ntmps17
    go_wp2_with fail
    refine (Refs_any p q n T _ h0).mono ?_; rintro e w1 ⟨v, rfl, hr1, hb1⟩
    have x2 : RefAt w1 w.heap.size (0, 0) := (hb1.block w.heap.size (by omega)).trans x1
    have h1 := h0.below hb1
    have hB1 := hB0.trans (hb1.mono (by omega))
    obtain ⟨a1, k1, rfl⟩ := ownsRow_val hr1
    generalize w.alloc (.cells #[.int .i64 0, .int .i64 0] 26) = w0 at *
    clear hr1 h0 x1
    go_wp2_with fail
    refine (Take_any p q n T _ h1).mono ?_; rintro e w2 ⟨rfl, hT, hM⟩
    have x3 : RefAt w2 w.heap.size (0, 0) := hM.heap x2 (by omega)
    have x4 : RefAt (w2.alloc (.cells #[.int .i64 (takeT T).2.1.1, .int .i64 (takeT T).2.1.2] 26)) w.heap.size (0, 0) := (Below.heap_alloc w2 _ _ (Array.getElem?_eq_some_iff.1 x3).1).trans x3
    have r0 := x4.c0
    have r1 := x4.c1
    have rf : ∀ i, (w2.alloc (.cells #[.int .i64 (takeT T).2.1.1, .int .i64 (takeT T).2.1.2] 26)).frozen? ⟨w.heap.size, i, none⟩ = false := fun i => by simp [World.frozen?, show (w2.alloc (.cells #[.int .i64 (takeT T).2.1.1, .int .i64 (takeT T).2.1.2] 26)).heap[w.heap.size]? = _ from x4]
    have rf0 := rf 0
    have rf1 := rf 1
    have g := RefAt.set x4 (takeT T).2.1.1 (takeT T).2.1.2
    have hT4 := hT.below ((Below.refl _ w2).alloc (Nat.le_refl _) (.cells #[.int .i64 (takeT T).2.1.1, .int .i64 (takeT T).2.1.2] 26))
    have hT5 := hT4.mod (S := fun k => k = w.heap.size) (Mod.setCell (S := fun k => k = w.heap.size) (p := ⟨w.heap.size, 1, none⟩) (Mod.setCell (S := fun k => k = w.heap.size) (p := ⟨w.heap.size, 0, none⟩) (Mod.refl _ _) (.inr rfl) (.int .i64 (takeT T).2.1.1)) (.inr rfl) (.int .i64 (takeT T).2.1.2)) (by omega) (by omega)
    have hM4 := ((Mod.of_same (S := fun k => k = p ∨ k = q) hB1).trans hM).alloc (.cells #[.int .i64 (takeT T).2.1.1, .int .i64 (takeT T).2.1.2] 26)
    have HM5 := Lib.hid (Mod.setCell (S := fun k => k = p ∨ k = q) (p := ⟨w.heap.size, 1, none⟩) (Mod.setCell (S := fun k => k = p ∨ k = q) (p := ⟨w.heap.size, 0, none⟩) hM4 (.inl (Nat.le_refl _)) (.int .i64 (takeT T).2.1.1)) (.inl (Nat.le_refl _)) (.int .i64 (takeT T).2.1.2))
    have G := Lib.hid g
    have HT5 := Lib.hid hT5
    clear g hT4 hT5 hM4 rf x3 x4 hT
    go_wp2_with fail
    refine bodyPost_ret (v := .tuple #[.agg #[.int .i64 (takeT T).2.1.1, .int .i64 (takeT T).2.1.2], .bool true, .int .i64 (takeT T).2.2]) (step_results G.out rfl rfl rfl) rfl ?_
    rw [HS.out]
    exact ⟨rfl, HT5.out, HM5.out⟩
  · by_cases hl : (refsT n T).length = 0
    · have HS : Hid (stepT n T x = ((takeT T).1, (takeT T).2.1, true, (takeT T).2.2)) := by rw [Hid, stepT, if_pos (.inr hl)]
      go_enter Try.func17, Try.ntmps17
      go_wp2_with fail
      refine (Refs_any p q n T _ h0).mono ?_; rintro e w1 ⟨v, rfl, hr1, hb1⟩
      have x2 : RefAt w1 w.heap.size (0, 0) := (hb1.block w.heap.size (by omega)).trans x1
      have h1 := h0.below hb1
      have hB1 := hB0.trans (hb1.mono (by omega))
      rw [hl] at hr1
      obtain ⟨a1, k1, rfl⟩ := ownsRow_val hr1
      generalize w.alloc (.cells #[.int .i64 0, .int .i64 0] 26) = w0 at *
      clear hr1 h0 x1
      go_wp2_with fail
      refine (Take_any p q n T _ h1).mono ?_; rintro e w2 ⟨rfl, hT, hM⟩
      have x3 : RefAt w2 w.heap.size (0, 0) := hM.heap x2 (by omega)
      have x4 : RefAt (w2.alloc (.cells #[.int .i64 (takeT T).2.1.1, .int .i64 (takeT T).2.1.2] 26)) w.heap.size (0, 0) := (Below.heap_alloc w2 _ _ (Array.getElem?_eq_some_iff.1 x3).1).trans x3
      have r0 := x4.c0
      have r1 := x4.c1
      have rf : ∀ i, (w2.alloc (.cells #[.int .i64 (takeT T).2.1.1, .int .i64 (takeT T).2.1.2] 26)).frozen? ⟨w.heap.size, i, none⟩ = false := fun i => by simp [World.frozen?, show (w2.alloc (.cells #[.int .i64 (takeT T).2.1.1, .int .i64 (takeT T).2.1.2] 26)).heap[w.heap.size]? = _ from x4]
      have rf0 := rf 0
      have rf1 := rf 1
      have g := RefAt.set x4 (takeT T).2.1.1 (takeT T).2.1.2
      have hT4 := hT.below ((Below.refl _ w2).alloc (Nat.le_refl _) (.cells #[.int .i64 (takeT T).2.1.1, .int .i64 (takeT T).2.1.2] 26))
      have hT5 := hT4.mod (S := fun k => k = w.heap.size) (Mod.setCell (S := fun k => k = w.heap.size) (p := ⟨w.heap.size, 1, none⟩) (Mod.setCell (S := fun k => k = w.heap.size) (p := ⟨w.heap.size, 0, none⟩) (Mod.refl _ _) (.inr rfl) (.int .i64 (takeT T).2.1.1)) (.inr rfl) (.int .i64 (takeT T).2.1.2)) (by omega) (by omega)
      have hM4 := ((Mod.of_same (S := fun k => k = p ∨ k = q) hB1).trans hM).alloc (.cells #[.int .i64 (takeT T).2.1.1, .int .i64 (takeT T).2.1.2] 26)
      have HM5 := Lib.hid (Mod.setCell (S := fun k => k = p ∨ k = q) (p := ⟨w.heap.size, 1, none⟩) (Mod.setCell (S := fun k => k = p ∨ k = q) (p := ⟨w.heap.size, 0, none⟩) hM4 (.inl (Nat.le_refl _)) (.int .i64 (takeT T).2.1.1)) (.inl (Nat.le_refl _)) (.int .i64 (takeT T).2.1.2))
      have G := Lib.hid g
      have HT5 := Lib.hid hT5
      clear g hT4 hT5 hM4 rf x3 x4 hT
      go_wp2_with fail
      refine bodyPost_ret (v := .tuple #[.agg #[.int .i64 (takeT T).2.1.1, .int .i64 (takeT T).2.1.2], .bool true, .int .i64 (takeT T).2.2]) (step_results G.out rfl rfl rfl) rfl ?_
      rw [HS.out]
      exact ⟨rfl, HT5.out, HM5.out⟩
    · have HS : Hid (stepT n T x = ((giveT n T ((refsT n T)[(x / 2 % ((refsT n T).length : Int)).toNat]?.getD (0, 0))).1, (refsT n T)[(x / 2 % ((refsT n T).length : Int)).toNat]?.getD (0, 0), false, (giveT n T ((refsT n T)[(x / 2 % ((refsT n T).length : Int)).toNat]?.getD (0, 0))).2)) := by rw [Hid, stepT, if_neg (by rintro (e | e) <;> contradiction)]
      go_enter Try.func17, Try.ntmps17
      go_wp2_with fail
      refine (Refs_any p q n T _ h0).mono ?_; rintro e w1 ⟨v, rfl, hr1, hb1⟩
      have x2 : RefAt w1 w.heap.size (0, 0) := (hb1.block w.heap.size (by omega)).trans x1
      have h1 := h0.below hb1
      have hB1 := hB0.trans (hb1.mono (by omega))
      have hrr := ReadsRefs.of_owns hr1
      obtain ⟨a1, k1, rfl⟩ := ownsRow_val hr1
      generalize w.alloc (.cells #[.int .i64 0, .int .i64 0] 26) = w0 at *
      clear hr1 h0 x1
      rcases hrr with ⟨a, cap, e, hnil⟩ | ⟨b, cap, e, hb, hltb, hc⟩
      · exact absurd (by rw [hnil]; rfl) hl
      · injection e with e1 e2 e3
        subst e1
        clear e2 e3
        have hpos : 0 < (refsT n T).length := by omega
        have hidx0 : 0 ≤ x / 2 % ((refsT n T).length : Int) := Int.emod_nonneg _ (by omega)
        have hidx1 : x / 2 % ((refsT n T).length : Int) < ((refsT n T).length : Int) := Int.emod_lt_of_pos _ (by omega)
        have hidx : (x / 2 % ((refsT n T).length : Int)).toNat < (refsT n T).length := by omega
        obtain ⟨c0, c1⟩ := hc _ hidx
        clear hc
        generalize (refsT n T).length = m at *
        generalize (refsT n T)[(x / 2 % (m : Int)).toNat]?.getD (0, 0) = r at *
        have hd1 : (x % 2 == 0) = false := by simp; omega
        have hd2 : ((m : Int) == 0) = false := by simp; omega
        go_wp2_with fail
        have hne : w.heap.size < w1.heap.size := (Array.getElem?_eq_some_iff.1 x2).1
        have x3 : RefAt (w1.alloc (.cells #[.int .i64 r.1, .int .i64 r.2] 26)) w.heap.size (0, 0) := (Below.heap_alloc w1 _ _ hne).trans x2
        have x4 : RefAt (w1.alloc (.cells #[.int .i64 r.1, .int .i64 r.2] 26)) w1.heap.size r := World.alloc_heap_new w1 _
        have hT1 := h1.below ((Below.refl _ w1).alloc (Nat.le_refl _) (.cells #[.int .i64 r.1, .int .i64 r.2] 26))
        have hM1 := (Mod.of_same (S := fun k => k = p ∨ k = q) hB1).alloc (.cells #[.int .i64 r.1, .int .i64 r.2] 26)
        generalize w1.alloc (.cells #[.int .i64 r.1, .int .i64 r.2] 26) = W1 at *
        generalize w1.heap.size = B1 at *
        have y0 := x4.c0
        have y1 := x4.c1
        have y2 := x3.c0
        have y3 := x3.c1
        have X3 := Lib.hid x3
        have X4 := Lib.hid x4
        have HM1 := Lib.hid hM1
        clear x3 x4 hM1 c0 c1 hidx hidx0 hidx1 hpos hb hltb hB1 x2 h1 hb1
        have hSp : ¬ (w.heap.size = p ∨ w.heap.size = q) := by omega
        have hSb : ¬ (B1 = p ∨ B1 = q) := by omega
        go_region_with (go_at_call 24; go_loud (refine (Give_any p q n T r.1 r.2 _ (by exact hT1)).mono ?_; rintro e w2 ⟨rfl, hT2, hM2⟩; have z0 := hM2.cell (p := ⟨B1, 0, none⟩) hSb (by exact y0); have z1 := hM2.cell (p := ⟨B1, 1, none⟩) hSb (by exact y1); have z2 := hM2.cell (p := ⟨w.heap.size, 0, none⟩) hSp (by exact y2); have z3 := hM2.cell (p := ⟨w.heap.size, 1, none⟩) hSp (by exact y3); have x5 : RefAt w2 w.heap.size (0, 0) := hM2.heap (by exact X3.out) hSp; have f0 : w2.frozen? ⟨w.heap.size, 0, none⟩ = false := (by simp [World.frozen?, show w2.heap[w.heap.size]? = _ from x5]); have f1 : w2.frozen? ⟨w.heap.size, 1, none⟩ = false := (by simp [World.frozen?, show w2.heap[w.heap.size]? = _ from x5]); have X5 := Lib.hid x5; clear x5))
        all_goals (
          go_wp2_with fail
          have HT5 : TableAt ((w2.setCell ⟨w.heap.size, 0, none⟩ (.int .i64 r.1)).setCell ⟨w.heap.size, 1, none⟩ (.int .i64 r.2)) p q n (giveT n T r).1 := TableAt.mod (S := fun k => k = w.heap.size) hT2 (Mod.setCell (S := fun k => k = w.heap.size) (p := ⟨w.heap.size, 1, none⟩) (Mod.setCell (S := fun k => k = w.heap.size) (p := ⟨w.heap.size, 0, none⟩) (Mod.refl _ _) (.inr rfl) (.int .i64 r.1)) (.inr rfl) (.int .i64 r.2)) (by omega) (by omega)
          have HM5 : Mod (fun k => k = p ∨ k = q) w ((w2.setCell ⟨w.heap.size, 0, none⟩ (.int .i64 r.1)).setCell ⟨w.heap.size, 1, none⟩ (.int .i64 r.2)) := Mod.setCell (S := fun k => k = p ∨ k = q) (p := ⟨w.heap.size, 1, none⟩) (Mod.setCell (S := fun k => k = p ∨ k = q) (p := ⟨w.heap.size, 0, none⟩) (HM1.out.drew.trans hM2) (.inl (Nat.le_refl _)) (.int .i64 r.1)) (.inl (Nat.le_refl _)) (.int .i64 r.2)
          have g := RefAt.set X5.out r.1 r.2
          refine bodyPost_ret (v := .tuple #[.agg #[.int .i64 r.1, .int .i64 r.2], .bool false, .int .i64 (giveT n T r).2]) (step_results g rfl rfl rfl) rfl ?_
          rw [HS.out]
          exact ⟨rfl, HT5, HM5⟩)
end Slot
end Go.Proofs.Ytpcbmckknafdgaa
