/- The plain law of SlotsLast: what is given back last is taken next. -/
import Derived.Test.YtpcbmckknafdgaaSlotN
namespace Go.Proofs.Ytpcbmckknafdgaa
set_option linter.unusedVariables false
set_option linter.unusedSimpArgs false
set_option maxRecDepth 100000
namespace Slot

structure LastInv (n : Nat) (T : Tab) (back : List R) (fresh : Nat) : Prop where
  free : T.free = (back.map fun r => r.1.toNat).reverse ++ List.range' fresh (n - fresh)
  le : fresh ≤ n
  back : ∀ r ∈ back, ∃ i : Nat, r = ((i : Int), T.lives.getD i 0)
  zero : ∀ i, fresh ≤ i → i < n → T.lives.getD i 0 = 0

theorem last_new (n : Nat) (k : Int) : LastInv n (newT n k) [] 0 := by
  refine ⟨by simp [newT, List.range_eq_range'], Nat.zero_le _, by simp, fun i _ hi => by simp [newT, hi]⟩
theorem last_full {n : Nat} {T : Tab} {back : List R} {fresh : Nat} (h : LastInv n T back fresh) (hf : T.free = []) : back = [] ∧ fresh = n := by
  have h1 := h.free
  rw [hf] at h1
  have h2 := congrArg List.length h1
  simp at h2
  have := h.le
  exact ⟨List.length_eq_zero_iff.1 (by omega), by omega⟩
theorem last_take_back {n : Nat} {T : Tab} {bs : List R} {b : R} {fresh : Nat} (hv : Valid n T) (h : LastInv n T (bs ++ [b]) fresh) :
    (takeT T).2.2 = 0 ∧ (takeT T).2.1 = (b.1, b.2 + 1) ∧ LastInv n (takeT T).1 bs fresh ∧ T.free ≠ [] := by
  obtain ⟨i, rfl⟩ := h.back b (by simp)
  have hf : T.free = i :: ((bs.map fun r => r.1.toNat).reverse ++ List.range' fresh (n - fresh)) := by rw [h.free]; simp
  have hi := hv.free i (by rw [hf]; simp)
  have hnd := hv.nodup
  rw [hf] at hnd
  have hni := (List.nodup_cons.1 hnd).1
  rw [takeT_cons hf]
  refine ⟨rfl, rfl, ⟨rfl, h.le, fun r hr => ?_, fun j hj hjn => ?_⟩, by rw [hf]; simp⟩
  · obtain ⟨j, rfl⟩ := h.back r (by simp [hr])
    refine ⟨j, ?_⟩
    show _ = ((j : Int), (T.lives.set i _).getD j 0)
    rw [getD_set _ _ _ _ _ (by rw [hv.ll]; exact hi.1), if_neg]
    rintro rfl
    exact hni (List.mem_append.2 (.inl (List.mem_reverse.2 (List.mem_map.2 ⟨_, hr, by simp⟩))))
  · show (T.lives.set i _).getD j 0 = 0
    rw [getD_set _ _ _ _ _ (by rw [hv.ll]; exact hi.1), if_neg]
    · exact h.zero j hj hjn
    · rintro rfl
      exact hni (List.mem_append.2 (.inr (List.mem_range'_1.2 ⟨hj, by omega⟩)))
theorem last_take_new {n : Nat} {T : Tab} {fresh : Nat} (hv : Valid n T) (h : LastInv n T [] fresh) (hlt : fresh < n) :
    (takeT T).2.2 = 0 ∧ (takeT T).2.1 = ((fresh : Int), 1) ∧ LastInv n (takeT T).1 [] (fresh + 1) ∧ T.free ≠ [] := by
  have hf : T.free = fresh :: List.range' (fresh + 1) (n - (fresh + 1)) := by
    rw [h.free]
    obtain ⟨d, hd⟩ : ∃ d, n - fresh = d + 1 := ⟨n - fresh - 1, by omega⟩
    rw [hd, show n - (fresh + 1) = d by omega]
    simp [List.range'_succ]
  have hi := hv.free fresh (by rw [hf]; simp)
  have hz := h.zero fresh (Nat.le_refl _) hlt
  rw [takeT_cons hf]
  refine ⟨rfl, by rw [hz]; rfl, ⟨by simp, by omega, by simp, fun j hj hjn => ?_⟩, by rw [hf]; simp⟩
  show (T.lives.set fresh _).getD j 0 = 0
  rw [getD_set _ _ _ _ _ (by rw [hv.ll]; exact hi.1), if_neg (by omega)]
  exact h.zero j (by omega) hjn
theorem last_give {n : Nat} {T : Tab} {back : List R} {fresh : Nat} (hv : Valid n T) (h : LastInv n T back fresh) {r : R} (hl : liveT n T r = true) :
    LastInv n (giveT n T r).1 (if r.2 < T.most then back ++ [r] else back) fresh := by
  obtain ⟨a, b⟩ := r
  obtain ⟨k, rfl, hk, ht, hb⟩ := live_of hl
  subst hb
  have hlv := give_lives n T ((k : Int), T.lives.getD k 0)
  refine ⟨?_, h.le, fun r hr => ?_, fun j hj hjn => ?_⟩
  · rw [giveT_yes hl]
    show (if T.lives.getD k 0 < T.most then k :: T.free else T.free) = _
    by_cases hm : T.lives.getD k 0 < T.most
    · rw [if_pos hm, if_pos hm, h.free]; simp
    · rw [if_neg hm, if_neg hm, h.free]
  · rw [hlv]
    split at hr
    · rcases List.mem_append.1 hr with hr | hr
      · exact h.back r hr
      · exact ⟨k, by simpa using hr⟩
    · exact h.back r hr
  · rw [hlv]; exact h.zero j hj hjn
theorem last_len {n : Nat} {T : Tab} {back : List R} {fresh : Nat} (hv : Valid n T) (h : LastInv n T back fresh) : back.length ≤ n := by
  have h1 := congrArg List.length h.free
  simp at h1
  have h2 := free_le hv
  omega
end Slot
end Go.Proofs.Ytpcbmckknafdgaa
