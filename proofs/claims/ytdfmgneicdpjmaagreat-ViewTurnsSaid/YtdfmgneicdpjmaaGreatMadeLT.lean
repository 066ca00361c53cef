/- Plain laws of ViewTurns. -/
import Derived.Test.YtdfmgneicdpjmaaGreatM49
namespace Go.Proofs.YtdfmgneicdpjmaaGreat
open Go.RowKit Go.Shelf
set_option linter.unusedVariables false
set_option linter.unusedSimpArgs false
namespace View
open Resp

def turnsSum (n : Nat) (t : Nat) : Nat → Nat
  | 0 => 0
  | s + 1 => turnsSum n t s + turnsOf n s t
theorem turnsSum_zero {n : Nat} : ∀ s, s ≤ n → turnsSum n 0 s = 0
  | 0, _ => rfl
  | s + 1, h => by rw [turnsSum, turnsSum_zero s (by omega), turnsOf_zero (by omega)]
theorem turnsSum_succ {n t : Nat} : ∀ s, s ≤ n → turnsSum n (t + 1) s = turnsSum n t s + if t % n < s then 1 else 0
  | 0, _ => by simp [turnsSum]
  | s + 1, h => by
    rw [turnsSum, turnsSum, turnsSum_succ s (by omega), turnsOf_succ (by omega)]
    by_cases h1 : t % n < s
    · rw [if_pos h1, if_neg (by omega), if_pos (by omega)]; omega
    · by_cases h2 : t % n = s
      · rw [if_neg h1, if_pos h2, if_pos (by omega)]; omega
      · rw [if_neg h1, if_neg h2, if_neg (by omega)]; omega
theorem turnsSum_all {n : Nat} (hn : 0 < n) : ∀ t, turnsSum n t n = t
  | 0 => turnsSum_zero n (Nat.le_refl _)
  | t + 1 => by rw [turnsSum_succ n (Nat.le_refl _), turnsSum_all hn t, if_pos (Nat.mod_lt _ hn)]
def framesSum (es : List Ent) : Nat → Nat
  | 0 => 0
  | s + 1 => framesSum es s + (framesL (s : Int) es).length
def allN (es : List Ent) : Nat := (es.filter fun e => e.kind == 1).length
theorem framesSum_eq (es : List Ent) : ∀ s : Nat, framesSum es s = (es.filter fun e => e.kind == 1 && decide (0 ≤ e.slot ∧ e.slot < (s : Int))).length
  | 0 => by
    have h : (es.filter fun e => e.kind == 1 && decide (0 ≤ e.slot ∧ e.slot < ((0 : Nat) : Int))) = [] := by
      rw [List.filter_eq_nil_iff]
      intro e _ h
      simp at h
      omega
    rw [h]; rfl
  | s + 1 => by
    rw [framesSum, framesSum_eq es s]
    unfold framesL
    rw [List.length_map]
    induction es with
    | nil => rfl
    | cons e t ih =>
      have hk : ∀ b : Bool, (e.kind == 1) = b → ownB (s : Int) e = (b && decide (e.slot = (s : Int))) := by
        intro b hb
        unfold ownB
        rw [hb]
        rfl
      cases h1 : (e.kind == 1) with
      | false =>
        have h2 := hk _ h1
        simp only [List.filter_cons, h1, h2, Bool.false_and, Bool.false_eq_true, if_false]
        exact ih
      | true =>
        have h2 := hk _ h1
        simp only [List.filter_cons, h1, h2, Bool.true_and]
        by_cases h3 : e.slot = (s : Int)
        · rw [decide_eq_true h3, decide_eq_false (by omega : ¬ (0 ≤ e.slot ∧ e.slot < (s : Int))), decide_eq_true (by omega : 0 ≤ e.slot ∧ e.slot < ((s + 1 : Nat) : Int))]
          simp only [if_true, Bool.false_eq_true, if_false, List.length_cons]
          omega
        · rw [decide_eq_false h3]
          by_cases h4 : 0 ≤ e.slot ∧ e.slot < (s : Int)
          · rw [decide_eq_true h4, decide_eq_true (by omega : 0 ≤ e.slot ∧ e.slot < ((s + 1 : Nat) : Int))]
            simp only [if_true, Bool.false_eq_true, if_false, List.length_cons]
            omega
          · rw [decide_eq_false h4, decide_eq_false (by omega : ¬ (0 ≤ e.slot ∧ e.slot < ((s + 1 : Nat) : Int)))]
            simp only [Bool.false_eq_true, if_false]
            exact ih
theorem framesSum_le (es : List Ent) (s : Nat) : framesSum es s ≤ allN es := by
  rw [framesSum_eq]
  unfold allN
  induction es with
  | nil => exact Nat.le_refl _
  | cons e t ih =>
    cases h1 : (e.kind == 1) with
    | false => simpa [List.filter_cons, h1] using ih
    | true =>
      simp only [List.filter_cons, h1, Bool.true_and, if_true]
      split
      · simp only [List.length_cons]; omega
      · simp only [List.length_cons]; omega
theorem framesSum_all {es : List Ent} {s : Nat} (h4 : 4 ≤ s) (h : ∀ e ∈ es, e.kind = 1 → 0 ≤ e.slot ∧ e.slot ≤ 3) : framesSum es s = allN es := by
  rw [framesSum_eq]
  unfold allN
  congr 1
  apply List.filter_congr
  intro e he
  cases h1 : (e.kind == 1) with
  | false => rfl
  | true =>
    have h2 := h e he (by simpa using h1)
    rw [decide_eq_true (by omega)]
    rfl
end View
end Go.Proofs.YtdfmgneicdpjmaaGreat
