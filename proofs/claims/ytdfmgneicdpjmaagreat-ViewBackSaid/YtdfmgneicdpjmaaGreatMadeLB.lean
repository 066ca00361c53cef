/- Plain laws of ViewBack. -/
import Derived.Test.YtdfmgneicdpjmaaGreatM49
namespace Go.Proofs.YtdfmgneicdpjmaaGreat
open Go.RowKit Go.Shelf
set_option linter.unusedVariables false
set_option linter.unusedSimpArgs false
namespace View
open Resp

def backAt (s : Int) : List Ent → Nat → List Int
  | [], _ => []
  | e :: t, b => if aloneP s e = true then backAt s t (b + 1) else (b : Int) :: backAt s t b
theorem backAt_append (s : Int) : ∀ (l m : List Ent) (b : Nat), backAt s (l ++ m) b = backAt s l b ++ backAt s m (b + (l.filter (aloneP s)).length)
  | [], m, b => by simp [backAt]
  | e :: t, m, b => by
    by_cases h : aloneP s e = true
    · simp only [List.cons_append, backAt, h, if_true, backAt_append s t m (b + 1), List.filter_cons_of_pos h, List.length_cons]
      congr 2; omega
    · simp only [List.cons_append, backAt, if_neg h, backAt_append s t m b, List.filter_cons_of_neg h]
theorem backAt_take {s : Int} {es : List Ent} {k : Nat} (hk : k < es.length) : backAt s (es.take (k + 1)) 0 = backAt s (es.take k) 0 ++ if aloneP s es[k] = true then [] else [((((es.take k).filter (aloneP s)).length : Nat) : Int)] := by
  rw [List.take_succ_eq_append_getElem hk, backAt_append]
  by_cases h : aloneP s es[k] = true <;> simp [backAt, h]
theorem backAt_len (s : Int) : ∀ (l : List Ent) (b : Nat), (backAt s l b).length = (l.filter (othersP s)).length
  | [], _ => rfl
  | e :: t, b => by
    by_cases h : aloneP s e = true
    · have h2 : othersP s e = false := by rw [othersP_not, h]; rfl
      simp [backAt, h, h2, backAt_len s t]
    · have h2 : othersP s e = true := by rw [othersP_not]; simpa using h
      simp [backAt, h, h2, backAt_len s t]
theorem backAt_ge (s : Int) : ∀ (l : List Ent) (b : Nat), ∀ x ∈ backAt s l b, (b : Int) ≤ x ∧ x ≤ (b : Int) + ((l.filter (aloneP s)).length : Nat)
  | [], _, x, hx => by simp [backAt] at hx
  | e :: t, b, x, hx => by
    by_cases h : aloneP s e = true
    · simp only [backAt, h, if_true] at hx
      have := backAt_ge s t (b + 1) x hx
      rw [List.filter_cons_of_pos h, List.length_cons]
      omega
    · simp only [backAt, if_neg h] at hx
      rw [List.filter_cons_of_neg h]
      rcases List.mem_cons.1 hx with rfl | hx
      · omega
      · exact backAt_ge s t b x hx
theorem backAt_sorted (s : Int) : ∀ (l : List Ent) (b : Nat), (backAt s l b).Pairwise (· ≤ ·)
  | [], _ => by simp [backAt]
  | e :: t, b => by
    by_cases h : aloneP s e = true
    · simp only [backAt, h, if_true]; exact backAt_sorted s t (b + 1)
    · simp only [backAt, if_neg h]
      exact List.pairwise_cons.2 ⟨fun x hx => (backAt_ge s t b x hx).1, backAt_sorted s t b⟩
theorem back_ok (s : Int) (es : List Ent) : atOk (es.filter (aloneP s)).length (es.filter (othersP s)).length (backAt s es 0) = true := by
  have hl := backAt_len s es 0
  have hg := backAt_ge s es 0
  rw [atOk_ref hl]
  intro i hi
  have hm := List.getElem_mem hi
  have h1 := hg _ hm
  rw [List.getElem?_eq_getElem hi]
  refine ⟨by simpa using h1.1, by simpa using h1.2, fun h0 => ?_⟩
  have hi1 : i - 1 < (backAt s es 0).length := by omega
  rw [List.getElem?_eq_getElem hi1]
  exact List.pairwise_iff_getElem.1 (backAt_sorted s es 0) (i - 1) i hi1 hi (by omega)
theorem mixP_take0 {k : Nat} {l : List Ent} {p : Ent × Int} {ps : List (Ent × Int)} (h : p.2 ≤ (k : Int)) : mixP k l (p :: ps) = p.1 :: mixP k l ps := by
  cases l with
  | nil => simp [mixP]
  | cons e t => exact mixP_take h
theorem mix_back (s : Int) : ∀ (es : List Ent) (b : Nat), mixP b (es.filter (aloneP s)) ((es.filter (othersP s)).zip (backAt s es b)) = es
  | [], b => by simp [mixP, backAt]
  | e :: t, b => by
    by_cases h : aloneP s e = true
    · have h2 : othersP s e = false := by rw [othersP_not, h]; rfl
      simp only [backAt, h, if_true, List.filter_cons_of_pos h]
      rw [List.filter_cons_of_neg (by rw [h2]; decide)]
      have ht : ∀ p ∈ (t.filter (othersP s)).zip (backAt s t (b + 1)), decide (p.2 ≤ (b : Int)) = false := by
        intro p hp
        have := (backAt_ge s t (b + 1) p.2 (List.of_mem_zip hp).2).1
        exact decide_eq_false (by omega)
      have h3 : ((t.filter (othersP s)).zip (backAt s t (b + 1))).takeWhile (fun p => decide (p.2 ≤ (b : Int))) = [] := by
        generalize (t.filter (othersP s)).zip (backAt s t (b + 1)) = ps at *
        cases ps with
        | nil => rfl
        | cons q r => rw [List.takeWhile_cons_of_neg]; simpa using ht q List.mem_cons_self
      have h4 : ((t.filter (othersP s)).zip (backAt s t (b + 1))).dropWhile (fun p => decide (p.2 ≤ (b : Int))) = (t.filter (othersP s)).zip (backAt s t (b + 1)) := by
        generalize (t.filter (othersP s)).zip (backAt s t (b + 1)) = ps at *
        cases ps with
        | nil => rfl
        | cons q r => rw [List.dropWhile_cons_of_neg]; simpa using ht q List.mem_cons_self
      rw [mixP, h3, h4, mix_back s t (b + 1)]
      rfl
    · have h2 : othersP s e = true := by rw [othersP_not]; simpa using h
      simp only [backAt, if_neg h, List.filter_cons_of_neg h, List.filter_cons_of_pos h2, List.zip_cons_cons]
      rw [mixP_take0 (by simp), mix_back s t b]

end View
end Go.Proofs.YtdfmgneicdpjmaaGreat
