/- Plain laws: what Clear makes of a table; a table of one life each, taken to its end. -/
import Derived.Test.YtpcbmckknafdgaaSlotN
namespace Go.Proofs.Ytpcbmckknafdgaa
open Go.RowKit Go.Shelf
set_option linter.unusedVariables false
set_option linter.unusedSimpArgs false
namespace Slot

/-- All references of a list are given back. -/
theorem giveAll_spec {n : Nat} : ∀ (l : List R) (T : Tab), T.taken.length = n → (∀ r ∈ l, liveT n T r = true) → (l.map (·.1)).Nodup →
    (giveAll n T l).lives = T.lives ∧ (giveAll n T l).most = T.most ∧ (giveAll n T l).taken.length = n ∧
    (giveAll n T l).free = ((l.filter fun r => decide (T.lives.getD r.1.toNat 0 < T.most)).map fun r => r.1.toNat).reverse ++ T.free ∧
    ∀ i : Nat, (giveAll n T l).taken.getD i false = (T.taken.getD i false && !(l.any fun r => r.1 == (i : Int))) := by
  intro l
  induction l with
  | nil => intro T hlen _ _; exact ⟨rfl, rfl, hlen, rfl, fun i => by simp [giveAll]⟩
  | cons r l ih =>
    intro T hlen hl hnd
    have hr := hl r (List.mem_cons_self)
    have e : giveAll n T (r :: l) = giveAll n (giveT n T r).1 l := rfl
    rw [e]
    obtain ⟨k, hk, hkn, htk, hlk⟩ := live_of (a := r.1) (b := r.2) hr
    have hg := giveT_yes hr
    have h1 : (giveT n T r).1.lives = T.lives := by rw [hg]
    have h2 : (giveT n T r).1.most = T.most := by rw [hg]
    have h3 : (giveT n T r).1.taken = T.taken.set k false := by rw [hg, hk]; rfl
    have h4 : (giveT n T r).1.free = if T.lives.getD k 0 < T.most then k :: T.free else T.free := by rw [hg, hk]; rfl
    have hlen1 : (giveT n T r).1.taken.length = n := by rw [h3]; simpa using hlen
    have hnd1 : (l.map (·.1)).Nodup := (List.nodup_cons.1 hnd).2
    have hne : ∀ r' ∈ l, r'.1 ≠ (k : Int) := fun r' hr' he => (List.nodup_cons.1 hnd).1 (by show r.1 ∈ l.map (·.1); rw [hk, ← he]; exact List.mem_map.2 ⟨r', hr', rfl⟩)
    have hl1 : ∀ r' ∈ l, liveT n (giveT n T r).1 r' = true := by
      intro r' hr'
      have := live_iff.1 (hl r' (List.mem_cons_of_mem _ hr'))
      rw [live_iff, mem_refs]
      obtain ⟨i, hi, ht, e⟩ := mem_refs.1 this
      refine ⟨i, hi, ?_, by rw [h1]; exact e⟩
      rw [h3, getD_set _ _ _ _ _ (by rw [hlen]; exact hkn), if_neg ?_]
      · exact ht
      · rintro rfl
        exact hne r' hr' (by rw [e])
    obtain ⟨g1, g2, g3, g4, g5⟩ := ih (giveT n T r).1 hlen1 hl1 hnd1
    refine ⟨g1.trans h1, g2.trans h2, g3, ?_, fun i => ?_⟩
    · rw [g4, h1, h2, h4, List.filter_cons, hk, Int.toNat_natCast]
      by_cases hm : T.lives.getD k 0 < T.most
      · rw [if_pos hm, if_pos (by simpa using hm)]
        simp [hk]
      · rw [if_neg hm, if_neg (by simpa using hm)]
    · rw [g5, h3, getD_set _ _ _ _ _ (by rw [hlen]; exact hkn), List.any_cons, hk]
      by_cases hik : i = k
      · subst hik; simp
      · rw [if_neg hik]
        have : ((k : Int) == (i : Int)) = false := by simp; omega
        rw [this]; simp

theorem refs_nodup (n : Nat) (T : Tab) : ((refsT n T).map (·.1)).Nodup := by
  show List.Pairwise _ _
  rw [List.pairwise_map, refsT, List.pairwise_filterMap]
  refine List.Pairwise.imp ?_ (List.nodup_range (n := n))
  intro a a' hne b hb b' hb' he
  split at hb
  · split at hb'
    · simp at hb hb'
      subst hb hb'
      simp at he
      exact hne (by omega)
    · cases hb'
  · cases hb
theorem clear_lives {n : Nat} {T : Tab} (hv : Valid n T) : (clearT n T).lives = T.lives ∧ (clearT n T).most = T.most :=
  ⟨(giveAll_spec (refsT n T) T hv.lt (fun r h => live_iff.2 h) (refs_nodup n T)).1, (giveAll_spec (refsT n T) T hv.lt (fun r h => live_iff.2 h) (refs_nodup n T)).2.1⟩
theorem clear_free {n : Nat} {T : Tab} (hv : Valid n T) : (clearT n T).free = (((refsT n T).filter fun r => decide (T.lives.getD r.1.toNat 0 < T.most)).map fun r => r.1.toNat).reverse ++ T.free :=
  (giveAll_spec (refsT n T) T hv.lt (fun r h => live_iff.2 h) (refs_nodup n T)).2.2.2.1
theorem clear_taken {n : Nat} {T : Tab} (hv : Valid n T) (i : Nat) (hi : i < n) : (clearT n T).taken.getD i false = false := by
  have h := (giveAll_spec (refsT n T) T hv.lt (fun r h => live_iff.2 h) (refs_nodup n T)).2.2.2.2 i
  refine (show (clearT n T).taken.getD i false = _ from h).trans ?_
  cases ht : T.taken.getD i false
  · rfl
  · have : ((refsT n T).any fun r => r.1 == (i : Int)) = true := List.any_eq_true.2 ⟨((i : Int), T.lives.getD i 0), mem_refs.2 ⟨i, hi, ht, rfl⟩, by simp⟩
    rw [this]; rfl
theorem clear_refs {n : Nat} {T : Tab} (hv : Valid n T) : refsT n (clearT n T) = [] := by
  rw [List.eq_nil_iff_forall_not_mem]
  intro r hr
  obtain ⟨i, hi, ht, _⟩ := mem_refs.1 hr
  rw [clear_taken hv i hi] at ht
  cases ht

/-- The table of which places 0 .. i - 1 are taken, each for its only life. -/
structure Took (n i : Nat) (T : Tab) : Prop where
  free : T.free = List.range' i (n - i)
  lives : T.lives = List.replicate i 1 ++ List.replicate (n - i) 0
  taken : T.taken = List.replicate i true ++ List.replicate (n - i) false
  most : T.most = 1
theorem took_new (n : Nat) : Took n 0 (newT n 1) := ⟨by simp [newT, List.range_eq_range'], by simp [newT], by simp [newT], rfl⟩
theorem set_run {α : Type} (i m : Nat) (a b : α) : (List.replicate i a ++ List.replicate (m + 1) b).set i a = List.replicate (i + 1) a ++ List.replicate m b := by
  rw [List.set_append_right _ _ (by simp), List.length_replicate, Nat.sub_self, List.replicate_succ (n := m), List.set_cons_zero, List.replicate_succ' (n := i)]
  simp
theorem took_step {n i : Nat} {T : Tab} (h : Took n i T) (hi : i < n) : (takeT T).2.1.1 = (i : Int) ∧ (takeT T).2.1.2 = 1 ∧ (takeT T).2.2 = 0 ∧ Took n (i + 1) (takeT T).1 := by
  obtain ⟨m, hm⟩ : ∃ m, n - i = m + 1 := ⟨n - i - 1, by omega⟩
  have hf : T.free = i :: List.range' (i + 1) m := by rw [h.free, hm, List.range'_succ]
  have hl : T.lives.getD i 0 = 0 := by rw [h.lives, hm]; simp [List.getD, List.getElem?_append_right]
  have hm' : n - (i + 1) = m := by omega
  rw [takeT_cons hf]
  refine ⟨rfl, by rw [hl]; rfl, rfl, ⟨by rw [hm'], ?_, ?_, h.most⟩⟩
  · show T.lives.set i (T.lives.getD i 0 + 1) = _
    rw [hl, h.lives, hm, hm']; exact set_run i m 1 0
  · show T.taken.set i true = _
    rw [h.taken, hm, hm']; exact set_run i m true false
theorem took_end {n : Nat} {T : Tab} (h : Took n n T) : T.free = [] ∧ (refsT n T).length = n ∧ ∀ i, i < n → T.lives.getD i 0 = 1 := by
  refine ⟨by rw [h.free]; simp, ?_, fun i hi => by rw [h.lives]; simp [List.getD, hi]⟩
  have ht : ∀ i, i < n → T.taken.getD i false = true := fun i hi => by rw [h.taken]; simp [List.getD, hi]
  rw [refs_len (by rw [h.taken]; simp), h.taken]
  simp
theorem took_clear {n : Nat} {T : Tab} (hv : Valid n T) (h : Took n n T) : (clearT n T).free = [] ∧ (refsT n (clearT n T)).length = 0 := by
  obtain ⟨h1, h2, h3⟩ := took_end h
  refine ⟨?_, by rw [clear_refs hv]; rfl⟩
  rw [clear_free hv, h1, List.append_nil, List.reverse_eq_nil_iff, List.map_eq_nil_iff, List.filter_eq_nil_iff]
  intro r hr
  obtain ⟨i, hi, _, rfl⟩ := mem_refs.1 hr
  simp only [Int.toNat_natCast, h3 i hi, h.most]
  decide
end Slot
end Go.Proofs.Ytpcbmckknafdgaa
