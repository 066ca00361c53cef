/- The law SlotsCleared: the plain law. -/
import Derived.Test.YtpcbmckknafdgaaSlotZH
import Derived.Test.YtpcbmckknafdgaaSlotZN
namespace Go.Proofs.Ytpcbmckknafdgaa
open Go.RowKit Go.Shelf
set_option linter.unusedVariables false
set_option linter.unusedSimpArgs false
namespace Slot

theorem back_stops (m : Nat) (hm : 1 ≤ m) (B cv : Nat) (av : Option Addr) (S : Nat → Prop) (l : List R) (hl : l.length ≤ 1024) (w : World) (hB : ¬ S B) (hB' : B < w.heap.size) (hc : w.cell? ⟨B, 0, none⟩ = some (.slice av l.length cv))
    (hr : l = [] ∨ ∃ g, av = some ⟨g, 0, none⟩ ∧ ¬ S g ∧ g < w.heap.size ∧ ∀ i, i < l.length → w.cell? ⟨g, i * 2, none⟩ = some (.int .i64 (l[i]?.getD (0, 0)).1) ∧ w.cell? ⟨g, i * 2 + 1, none⟩ = some (.int .i64 (l[i]?.getD (0, 0)).2)) :
    SeqStopsK Fence.wide m Try.prog 38 #[.pointer (some ⟨B, 0, none⟩)] (fun x : Nat × R => #[.int .i64 (x.1 : Int), .agg #[.int .i64 x.2.1, .int .i64 x.2.2]]) (Mod S) (fun ys => ys = backsOf l l.length) (fun pre => pre <+: backsOf l l.length) l.length w := by
  rcases hr with rfl | ⟨g, rfl, hg, hg', hcell⟩
  · exact back0_stops m hm B cv av (Mod S) w hB' hc
  · exact back1_stops m hm B g cv S l hl w hB hB' hg hg' hc hcell

theorem backs_snd (l : List R) : ∀ k, k ≤ l.length → (backsOf l k).map (·.2) = (l.take k).reverse
  | 0, _ => rfl
  | k + 1, h => by
    rw [backsOf, List.map_cons, backs_snd l k (by omega), List.take_succ_eq_append_getElem (by omega), List.reverse_append, List.getElem?_eq_getElem (by omega)]
    rfl
/-- The places that are free again, of those that were given back so far. -/
def wantL (k : Int) (pre : List (Nat × R)) : List Int := ((pre.map (·.2)).filter fun r => decide (r.2 < k)).map (·.1)
theorem wantL_yes {k : Int} {pre : List (Nat × R)} {x : Nat × R} (h : x.2.2 < k) : wantL k (pre ++ [x]) = wantL k pre ++ [x.2.1] := by
  simp [wantL, List.filter_append, h]
theorem wantL_no {k : Int} {pre : List (Nat × R)} {x : Nat × R} (h : ¬ x.2.2 < k) : wantL k (pre ++ [x]) = wantL k pre := by
  simp [wantL, List.filter_append, h]
theorem wantL_le (k : Int) (pre : List (Nat × R)) : (wantL k pre).length ≤ pre.length := by
  rw [wantL, List.length_map]
  exact Nat.le_trans (List.length_filter_le _ _) (by simp)
/-- What is free behind a Clear. -/
theorem want_all {n : Nat} {T : Tab} (hv : Valid n T) : (clearT n T).free.map (fun x : Nat => (x : Int)) = wantL T.most (backsOf (refsT n T) (refsT n T).length) ++ T.free.map (fun x : Nat => (x : Int)) := by
  rw [clear_free hv, wantL, backs_snd _ _ (Nat.le_refl _), List.take_length, List.map_append, List.filter_reverse, List.map_reverse, List.map_reverse]
  congr 2
  rw [List.map_map]
  have e : (refsT n T).filter (fun r => decide (T.lives.getD r.1.toNat 0 < T.most)) = (refsT n T).filter (fun r => decide (r.2 < T.most)) := by
    refine List.filter_congr fun r hr => ?_
    obtain ⟨i, _, _, rfl⟩ := mem_refs.1 hr
    rw [Int.toNat_natCast]
  rw [e]
  refine List.map_congr_left fun r hr => ?_
  obtain ⟨i, _, _, rfl⟩ := mem_refs.1 (List.mem_filter.1 hr).1
  rfl
theorem clear_look {n : Nat} {T : Tab} (hv : Valid n T) {r : R} (hr : r ∈ refsT n T) : lookT n (clearT n T) r.1 = (r.2, false) ∧ liveT n (clearT n T) r = false := by
  obtain ⟨i, hi, ht, rfl⟩ := mem_refs.1 hr
  have e : lookT n (clearT n T) (i : Int) = (T.lives.getD i 0, false) := by
    rw [lookT, if_pos ⟨by omega, by omega⟩, Int.toNat_natCast, clear_taken hv i hi, (clear_lives hv).1]
  exact ⟨e, by rw [liveT, e]; rfl⟩
end Slot
end Go.Proofs.Ytpcbmckknafdgaa
