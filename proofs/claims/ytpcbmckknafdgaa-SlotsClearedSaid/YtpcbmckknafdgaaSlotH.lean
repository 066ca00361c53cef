/- Slots: giving all places back. -/
import Derived.Test.YtpcbmckknafdgaaSlotG
namespace Go.Proofs.Ytpcbmckknafdgaa
open Go.RowKit Go.Shelf
set_option linter.unusedVariables false
set_option linter.unusedSimpArgs false
set_option maxRecDepth 100000
namespace Slot

theorem refCells_at : ∀ (l : List R) (i : Nat), i < l.length → (refCells l)[i * 2]? = some (.int .i64 (l[i]?.getD (0, 0)).1) ∧ (refCells l)[i * 2 + 1]? = some (.int .i64 (l[i]?.getD (0, 0)).2)
  | [], i, h => by simp at h
  | x :: l, 0, _ => by simp [refCells]
  | x :: l, i + 1, h => by
    have := refCells_at l i (by simpa using h)
    have e1 : (i + 1) * 2 = i * 2 + 2 := by omega
    rw [e1]
    simpa [refCells] using this
theorem refCells_length (l : List R) : (refCells l).length = l.length * 2 := by
  induction l with
  | nil => rfl
  | cons x l ih => simp [refCells] at ih ⊢; omega

/-- The slice value v, whose row lies at or behind the base, reads as the references l. -/
def ReadsRefs (base : Nat) (w : World) (v : Value) (l : List R) : Prop :=
  (∃ a cap, v = .slice a 0 cap ∧ l = []) ∨ ∃ b cap, v = .slice (some ⟨b, 0, none⟩) l.length cap ∧ base ≤ b ∧ b < w.heap.size ∧ ∀ i, i < l.length → w.cell? ⟨b, i * 2, none⟩ = some (.int .i64 (l[i]?.getD (0, 0)).1) ∧ w.cell? ⟨b, i * 2 + 1, none⟩ = some (.int .i64 (l[i]?.getD (0, 0)).2)
theorem ReadsRefs.of_owns {w : World} {base : Nat} {e : TypeId} {v : Value} {n : Nat} {l : List R} (h : w.ownsRow base e 2 v n (refCells l)) : ReadsRefs base w v l := by
  obtain ⟨hl, h⟩ := h
  have hn : l.length = n := by rw [refCells_length] at hl; omega
  rcases h with ⟨rfl, rfl⟩ | ⟨g, cap, cur, rfl, hb, hg, h1, h2, h3, h4⟩
  · exact .inl ⟨_, _, rfl, by simpa using hn⟩
  · refine .inr ⟨g, cap, by rw [hn], hb, (Array.getElem?_eq_some_iff.1 hg).1, fun i hi => ?_⟩
    obtain ⟨c0, c1⟩ := refCells_at l i hi
    rw [← h4] at c0 c1
    rw [List.getElem?_take, if_pos (by omega)] at c0 c1
    constructor
    · simp [World.cell?, hg]; simpa using c0
    · simp [World.cell?, hg]; simpa using c1
theorem ReadsRefs.mod {S : Nat → Prop} {base : Nat} {w w' : World} {v : Value} {l : List R} (h : ReadsRefs base w v l) (hm : Mod S w w') (hS : ∀ g, base ≤ g → ¬ S g) : ReadsRefs base w' v l := by
  rcases h with h | ⟨b, cap, rfl, hb, hlt, hc⟩
  · exact .inl h
  · exact .inr ⟨b, cap, rfl, hb, Nat.lt_of_lt_of_le hlt hm.size, fun i hi => ⟨hm.cell (hS b hb) (hc i hi).1, hm.cell (hS b hb) (hc i hi).2⟩⟩
theorem ReadsRefs.below {base : Nat} {w w' : World} {v : Value} {l : List R} (h : ReadsRefs base w v l) (hm : Below w.heap.size w w') : ReadsRefs base w' v l := h.mod (S := fun _ => False) (Mod.of_same hm) (by simp)

/-- Giving back, one by one. -/
def giveAll (n : Nat) (T : Tab) (l : List R) : Tab := l.foldl (fun T r => (giveT n T r).1) T
theorem giveAll_take {n : Nat} {T : Tab} {l : List R} {j : Nat} (hj : j < l.length) : giveAll n T (l.take (j + 1)) = (giveT n (giveAll n T (l.take j)) (l[j]?.getD (0, 0))).1 := by
  rw [giveAll, List.take_succ_eq_append_getElem hj, List.foldl_append]
  simp [giveAll, List.getElem?_eq_getElem hj]

theorem Clear_any (p q n : Nat) (T : Tab) (w : World) (h : TableAt w p q n T) :
    Calls Try.prog 28 #[.pointer (some ⟨p, 0, none⟩)] w fun e w' => e = .returned (.tuple #[.int .i64 (refsT n T).length, .int .i64 0]) ∧ TableAt w' p q n (clearT n T) ∧ Mod (fun k => k = p ∨ k = q) w w' := by
  have hlt := h.lt
  have hle := refs_le n T
  have hnn := h.2.1.n
  go_enter Try.func28, Try.ntmps28
  go_wp2_with fail
  refine (none_no p q n T _ h).mono ?_; rintro e w' ⟨rfl, rfl⟩
  go_wp2_with fail
  refine (Refs_any p q n T _ h).mono ?_; rintro e w1 ⟨v, rfl, hr1, hb1⟩
  have hrr := ReadsRefs.of_owns hr1
  have h1 := h.below hb1
  have HC : Hid (clearT n T = giveAll n T (refsT n T)) := rfl
  obtain ⟨a1, k1, rfl⟩ := ownsRow_val hr1
  clear hr1
  generalize hl : refsT n T = l at *
  have HL := Lib.hid hl
  clear hl
  rcases hrr with ⟨a, cap, e, rfl⟩ | ⟨b, cap, e, hb, hltb, hc⟩
  · clear e
    go_wp2_with fail
    go_loopw [13, 6] (fun i _ wr => i = .int .i64 0 ∧ wr = w1) (fun i _ _ => 0)
    case atStart => exact ⟨rfl, rfl⟩
    case round =>
      obtain ⟨rfl, rfl⟩ := hrel
      go_wp2_with fail
      go_ret2
      refine ⟨by rw [HL.out]; rfl, ?_, Mod.of_same hb1⟩
      rw [HC.out]; exact h1
  · injection e with e1 e2 e3
    subst e1
    have hpb : ∀ g, w.heap.size ≤ g → ¬ (g = p ∨ g = q) := fun g hg e => by omega
    clear e2 e3
    go_wp2_with fail
    go_loopw [13, 6] (fun i _ wr => ∃ j : Nat, j ≤ l.length ∧ i = .int .i64 j ∧ TableAt wr p q n (giveAll n T (l.take j)) ∧ Mod (fun k => k = p ∨ k = q) w1 wr) (fun i _ _ => l.length - (intOf i).toNat)
    case atStart => exact ⟨0, by omega, rfl, h1, Mod.refl _ _⟩
    case round =>
      obtain ⟨j, hj, rfl, hT, hM⟩ := hrel
      by_cases hjl : j < l.length
      · obtain ⟨c0, c1⟩ := hc j hjl
        have r0 := hM.cell (hpb _ hb) c0
        have r1 := hM.cell (hpb _ hb) c1
        have hG := giveAll_take (n := n) (T := T) hjl
        have hG' := Lib.hid hG
        generalize l[j]?.getD (0, 0) = x at *
        have hjI : (j : Int) < l.length := by omega
        have hT' := hT.below ((Below.refl _ wr).alloc (Nat.le_refl _) (.cells #[.int .i64 x.1, .int .i64 x.2] 26))
        clear c0 c1 hc hG
        go_wp2_with fail
        refine (Give_any p q n _ x.1 x.2 _ hT').mono ?_; rintro e w2 ⟨rfl, hT2, hM2⟩
        go_wp2_with fail
        refine ⟨⟨j + 1, hjl, by simp, ?_, ?_⟩, ?_⟩
        · rw [hG'.out]; exact hT2
        · exact (hM.alloc _).trans hM2
        · simp [intOf]; omega
      · have hjl' : ¬ (j : Int) < l.length := by omega
        obtain rfl : j = l.length := by omega
        clear hc hb
        go_wp2_with fail
        go_ret2
        rw [List.take_length] at hT
        refine ⟨by rw [HL.out]; rfl, ?_, (Mod.of_same hb1).trans hM⟩
        rw [HC.out]; exact hT
end Slot
end Go.Proofs.Ytpcbmckknafdgaa
