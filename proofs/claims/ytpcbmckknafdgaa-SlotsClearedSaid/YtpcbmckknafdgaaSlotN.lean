/- Plain laws of tables: how many are taken, how many lives there were, what stays. -/
import Derived.Test.YtpcbmckknafdgaaSlotI
namespace Go.Proofs.Ytpcbmckknafdgaa
set_option linter.unusedVariables false
set_option linter.unusedSimpArgs false
set_option maxRecDepth 100000
namespace Slot

theorem refs_len {n : Nat} {T : Tab} (hl : T.taken.length = n) : (refsT n T).length = T.taken.count true := by
  rw [refsT, List.length_filterMap_eq_countP]
  have h : T.taken = (List.range n).map (fun i => T.taken.getD i false) := by
    apply List.ext_getElem?
    intro i
    by_cases hi : i < n
    · simp [hi, List.getElem?_eq_getElem (show i < T.taken.length by omega)]
    · rw [List.getElem?_eq_none (by omega), List.getElem?_eq_none (by simp; omega)]
  conv => rhs; rw [h]
  rw [List.count, List.countP_map]
  refine List.countP_congr fun i _ => ?_
  simp only [Function.comp]
  cases hh : T.taken.getD i false <;> simp
theorem count_set' : ∀ (l : List Bool) (i : Nat), i < l.length → ∀ b, ((l.set i b).count true : Int) = (l.count true : Int) - (if l.getD i false = true then 1 else 0) + (if b = true then 1 else 0)
  | [], i, h, b => by simp at h
  | a :: l, 0, h, b => by cases a <;> cases b <;> simp
  | a :: l, i + 1, h, b => by
    have := count_set' l i (by simpa using h) b
    simp only [List.set_cons_succ, List.getD_cons_succ, List.count_cons]
    omega
theorem sum_set' : ∀ (l : List Int) (i : Nat), i < l.length → ∀ v, (l.set i v).sum = l.sum - l.getD i 0 + v
  | [], i, h, b => by simp at h
  | a :: l, 0, h, b => by simp; omega
  | a :: l, i + 1, h, b => by
    have := sum_set' l i (by simpa using h) b
    simp only [List.set_cons_succ, List.getD_cons_succ, List.sum_cons]
    omega
theorem sum_le (k : Int) : ∀ (l : List Int), (∀ i, i < l.length → l.getD i 0 ≤ k) → l.sum ≤ (l.length : Int) * k
  | [], _ => by simp
  | a :: l, h => by
    have h0 := h 0 (by simp)
    have := sum_le k l fun i hi => by simpa using h (i + 1) (by simpa using hi)
    simp only [List.getD_cons_zero] at h0
    rw [List.sum_cons, List.length_cons, Int.natCast_add, Int.add_mul]
    simp only [Int.natCast_one, Int.one_mul]
    omega
theorem sum_all (k : Int) : ∀ (l : List Int), (∀ i, i < l.length → l.getD i 0 = k) → l.sum = (l.length : Int) * k
  | [], _ => by simp
  | a :: l, h => by
    have h0 := h 0 (by simp)
    have := sum_all k l fun i hi => by simpa using h (i + 1) (by simpa using hi)
    simp only [List.getD_cons_zero] at h0
    rw [List.sum_cons, List.length_cons, Int.natCast_add, Int.add_mul]
    simp only [Int.natCast_one, Int.one_mul]
    omega

/-- What every table that was made by steps has besides. -/
structure Good (n : Nat) (T : Tab) : Prop where
  full : ∀ i, i < n → T.taken.getD i false = false → i ∈ T.free ∨ T.lives.getD i 0 = T.most
  one : ∀ i, i < n → T.taken.getD i false = true → 1 ≤ T.lives.getD i 0
theorem new_good (n : Nat) (k : Int) : Good n (newT n k) := by
  refine ⟨fun i hi _ => .inl (by simpa [newT] using hi), fun i hi h => ?_⟩
  simp [newT, hi] at h
theorem mem_refs {n : Nat} {T : Tab} {r : R} : r ∈ refsT n T ↔ ∃ i : Nat, i < n ∧ T.taken.getD i false = true ∧ r = ((i : Int), T.lives.getD i 0) := by
  rw [refsT, List.mem_filterMap]
  constructor
  · rintro ⟨i, hi, h⟩
    have hi' : i < n := by simpa using hi
    by_cases ht : T.taken.getD i false = true
    · rw [if_pos ht] at h
      exact ⟨i, hi', ht, by injection h with h; exact h.symm⟩
    · rw [if_neg ht] at h; cases h
  · rintro ⟨i, hi, ht, rfl⟩
    exact ⟨i, by simpa using hi, by rw [if_pos ht]⟩
theorem live_iff {n : Nat} {T : Tab} {r : R} : liveT n T r = true ↔ r ∈ refsT n T := by
  rw [mem_refs]
  constructor
  · intro h
    obtain ⟨a, b⟩ := r
    obtain ⟨k, rfl, hk, ht, hl⟩ := live_of h
    exact ⟨k, hk, ht, by rw [hl]⟩
  · rintro ⟨i, hi, ht, rfl⟩
    simp only [liveT, lookT]
    rw [if_pos ⟨by simp, by simpa using hi⟩]
    rw [List.getD_eq_getElem?_getD] at ht ⊢
    simp [ht]
theorem pick_live {n : Nat} {T : Tab} {i : Nat} (hi : i < (refsT n T).length) : liveT n T ((refsT n T)[i]?.getD (0, 0)) = true := by
  rw [live_iff, List.getElem?_eq_getElem hi]
  exact List.getElem_mem hi

theorem take_good {n : Nat} {T : Tab} (hv : Valid n T) (h : Good n T) : Good n (takeT T).1 := by
  cases hf : T.free with
  | nil => rw [takeT_nil hf]; exact h
  | cons i r =>
    rw [takeT_cons hf]
    have hi := hv.free i (by rw [hf]; simp)
    refine ⟨fun j hj ht => ?_, fun j hj ht => ?_⟩
    · show j ∈ r ∨ _
      rw [getD_set _ _ _ _ _ (by rw [hv.lt]; exact hi.1)] at ht
      by_cases hij : j = i
      · rw [if_pos hij] at ht; cases ht
      · rw [if_neg hij] at ht
        rcases h.full j hj ht with hm | hm
        · rw [hf] at hm
          rcases List.mem_cons.1 hm with e | e
          · exact absurd e hij
          · exact .inl e
        · refine .inr ?_
          show (T.lives.set i _).getD j 0 = T.most
          rw [getD_set _ _ _ _ _ (by rw [hv.ll]; exact hi.1), if_neg hij]; exact hm
    · show 1 ≤ (T.lives.set i _).getD j 0
      rw [getD_set _ _ _ _ _ (by rw [hv.ll]; exact hi.1)]
      rw [getD_set _ _ _ _ _ (by rw [hv.lt]; exact hi.1)] at ht
      by_cases hij : j = i
      · rw [if_pos hij]; have := (hv.lives i hi.1).1; omega
      · rw [if_neg hij]; rw [if_neg hij] at ht; exact h.one j hj ht
theorem give_good {n : Nat} {T : Tab} (hv : Valid n T) (h : Good n T) (r : R) : Good n (giveT n T r).1 := by
  cases hl : liveT n T r with
  | false => rw [giveT_no hl]; exact h
  | true =>
    rw [giveT_yes hl]
    obtain ⟨a, b⟩ := r
    obtain ⟨k, rfl, hk, ht, hb⟩ := live_of hl
    refine ⟨fun j hj htj => ?_, fun j hj htj => ?_⟩
    · have htj' : (T.taken.set k false).getD j false = false := htj
      show j ∈ (if T.lives.getD k 0 < T.most then k :: T.free else T.free) ∨ T.lives.getD j 0 = T.most
      rw [getD_set _ _ _ _ _ (by rw [hv.lt]; exact hk)] at htj'
      by_cases hij : j = k
      · subst hij
        by_cases hlt : T.lives.getD j 0 < T.most
        · rw [if_pos hlt]; exact .inl (by simp)
        · exact .inr (by have := (hv.lives j hj).2; omega)
      · rw [if_neg hij] at htj'
        rcases h.full j hj htj' with hm | hm
        · left; split
          · exact List.mem_cons_of_mem _ hm
          · exact hm
        · exact .inr hm
    · have htj' : (T.taken.set k false).getD j false = true := htj
      rw [getD_set _ _ _ _ _ (by rw [hv.lt]; exact hk)] at htj'
      by_cases hij : j = k
      · rw [if_pos hij] at htj'; cases htj'
      · rw [if_neg hij] at htj'; exact h.one j hj htj'

theorem take_most (T : Tab) : (takeT T).1.most = T.most := by
  rw [takeT]; split <;> rfl
theorem give_most (n : Nat) (T : Tab) (r : R) : (giveT n T r).1.most = T.most := by
  rw [giveT]; split <;> rfl
theorem give_lives (n : Nat) (T : Tab) (r : R) : (giveT n T r).1.lives = T.lives := by
  rw [giveT]; split <;> rfl
theorem give_ok {n : Nat} {T : Tab} {r : R} (h : liveT n T r = true) : (giveT n T r).2 = 0 := by rw [giveT_yes h]
theorem take_err {T : Tab} : ((takeT T).2.2 = 0 ↔ T.free ≠ []) ∧ ((takeT T).2.2 = 4 ↔ T.free = []) := by
  cases hf : T.free with
  | nil => rw [takeT_nil hf]; simp
  | cons i r => rw [takeT_cons hf]; simp

/-- A take of a table with a free place: one more life, one more taken. -/
theorem take_counts {n : Nat} {T : Tab} (hv : Valid n T) (hf : T.free ≠ []) : (takeT T).1.lives.sum = T.lives.sum + 1 ∧ (refsT n (takeT T).1).length = (refsT n T).length + 1 := by
  have hv' := take_valid hv
  have h1 := refs_len hv.lt
  have h2 := refs_len hv'.lt
  cases hc : T.free with
  | nil => exact absurd hc hf
  | cons i r =>
    have hi := hv.free i (by rw [hc]; simp)
    rw [takeT_cons hc] at h2 ⊢
    have h3 := sum_set' T.lives i (by rw [hv.ll]; exact hi.1) (T.lives.getD i 0 + 1)
    have h4 := count_set' T.taken i (by rw [hv.lt]; exact hi.1) true
    rw [if_neg (by rw [hi.2.1]; simp), if_pos rfl] at h4
    refine ⟨?_, ?_⟩
    · show (T.lives.set i (T.lives.getD i 0 + 1)).sum = _
      omega
    · rw [h2, h1]
      show (T.taken.set i true).count true = _
      omega
theorem give_counts {n : Nat} {T : Tab} (hv : Valid n T) {r : R} (hl : liveT n T r = true) : (giveT n T r).1.lives.sum = T.lives.sum ∧ (refsT n (giveT n T r).1).length + 1 = (refsT n T).length := by
  obtain ⟨a, b⟩ := r
  have hv' := give_valid hv hl
  have h1 := refs_len hv.lt
  have h2 := refs_len hv'.lt
  rw [give_lives]
  refine ⟨rfl, ?_⟩
  rw [h1, h2]
  rw [giveT_yes hl]
  obtain ⟨k, rfl, hk, ht, hb⟩ := live_of hl
  have h4 := count_set' T.taken k (by rw [hv.lt]; exact hk) false
  rw [if_pos ht, if_neg (by simp)] at h4
  show (T.taken.set k false).count true + 1 = _
  omega
theorem lives_le {n : Nat} {T : Tab} (hv : Valid n T) : T.lives.sum ≤ (n : Int) * T.most := by
  have := sum_le T.most T.lives fun i hi => (hv.lives i (by rw [← hv.ll]; exact hi)).2
  rwa [hv.ll] at this
theorem refs_pos {n : Nat} {T : Tab} (hv : Valid n T) {i : Nat} (hi : i < n) (ht : T.taken.getD i false = true) : 0 < (refsT n T).length :=
  List.length_pos_of_mem (mem_refs.2 ⟨i, hi, ht, rfl⟩)
theorem all_worn {n : Nat} {T : Tab} (hv : Valid n T) (hg : Good n T) (hf : T.free = []) (hr : (refsT n T).length = 0) : T.lives.sum = (n : Int) * T.most := by
  have := sum_all T.most T.lives fun i hi => by
    rw [hv.ll] at hi
    cases ht : T.taken.getD i false with
    | true => have := refs_pos hv hi ht; omega
    | false =>
      rcases hg.full i hi ht with h | h
      · rw [hf] at h; cases h
      · exact h
  rwa [hv.ll] at this
theorem new_sum (n : Nat) (k : Int) : (newT n k).lives.sum = 0 := by simp [newT]
theorem new_refs (n : Nat) (k : Int) : refsT n (newT n k) = [] := by
  rw [List.eq_nil_iff_forall_not_mem]
  intro r hr
  obtain ⟨i, hi, ht, _⟩ := mem_refs.1 hr
  simp [newT, hi] at ht

theorem step_most (n : Nat) (T : Tab) (x : Int) : (stepT n T x).1.most = T.most := by
  rw [stepT]; split
  · exact take_most T
  · exact give_most _ _ _
theorem step_valid {n : Nat} {T : Tab} (hv : Valid n T) (x : Int) : Valid n (stepT n T x).1 := by
  rw [stepT]; split
  · exact take_valid hv
  · cases hl : liveT n T ((refsT n T)[(x / 2 % ((refsT n T).length : Int)).toNat]?.getD (0, 0)) with
    | true => exact give_valid hv hl
    | false => dsimp only; rw [giveT_no hl]; exact hv
theorem step_good {n : Nat} {T : Tab} (hv : Valid n T) (h : Good n T) (x : Int) : Good n (stepT n T x).1 := by
  rw [stepT]; split
  · exact take_good hv h
  · exact give_good hv h _
end Slot
end Go.Proofs.Ytpcbmckknafdgaa
