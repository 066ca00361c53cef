/- More general lemmas: the first k values of a function, one of them turned; a block that holds ints. -/
import Derived.Test.YtdfmgneicdpjmaaGreatFermLib
namespace Go.Proofs.YtdfmgneicdpjmaaGreat
open Go.RowKit Go.Shelf
set_option linter.unusedVariables false

theorem upto_set {α : Type} (f : Nat → α) (n j : Nat) (v : α) : (upto f n).set j v = upto (fun i => if i = j then v else f i) n := by
  apply List.ext_getElem?
  intro i
  rw [List.getElem?_set]
  by_cases hj : j = i
  · subst hj
    by_cases h : j < n
    · rw [if_pos rfl, if_pos (by rw [upto_length]; exact h), upto_getElem? _ _ _ h, if_pos rfl]
    · rw [if_pos rfl, if_neg (by rw [upto_length]; exact h), List.getElem?_eq_none (by rw [upto_length]; omega)]
  · rw [if_neg hj]
    by_cases h : i < n
    · rw [upto_getElem? _ _ _ h, upto_getElem? _ _ _ h, if_neg (by omega)]
    · rw [List.getElem?_eq_none (by rw [upto_length]; omega), List.getElem?_eq_none (by rw [upto_length]; omega)]
theorem upto_congr {α : Type} {f g : Nat → α} {n : Nat} (h : ∀ i, i < n → f i = g i) : upto f n = upto g n := by
  apply List.ext_getElem?
  intro i
  by_cases hi : i < n
  · rw [upto_getElem? _ _ _ hi, upto_getElem? _ _ _ hi, h i hi]
  · rw [List.getElem?_eq_none (by rw [upto_length]; omega), List.getElem?_eq_none (by rw [upto_length]; omega)]

/-- Block g holds the ints l, and nothing else. -/
def IntsAt (W : World) (g : Nat) (T : TypeId) (l : List Int) : Prop := W.heap[g]? = some (.cells (l.map (Value.int .i64)).toArray T (0, 0))
theorem IntsAt.lt {W : World} {g : Nat} {T : TypeId} {l : List Int} (h : IntsAt W g T l) : g < W.heap.size := (Array.getElem?_eq_some_iff.1 h).1
theorem IntsAt.cell {W : World} {g : Nat} {T : TypeId} {l : List Int} (h : IntsAt W g T l) {i : Nat} {z : Int} (hi : l[i]? = some z) : W.cell? ⟨g, i, none⟩ = some (.int .i64 z) := by
  simp [World.cell?, show W.heap[g]? = _ from h, hi]
theorem IntsAt.frozen {W : World} {g : Nat} {T : TypeId} {l : List Int} (h : IntsAt W g T l) (i : Nat) : W.frozen? ⟨g, i, none⟩ = false := by simp [World.frozen?, show W.heap[g]? = _ from h]
theorem IntsAt.mod {S : Nat → Prop} {W W' : World} {g : Nat} {T : TypeId} {l : List Int} (h : IntsAt W g T l) (hm : Mod S W W') (hS : ¬ S g) : IntsAt W' g T l := hm.heap h hS
theorem IntsAt.below {W W' : World} {g : Nat} {T : TypeId} {l : List Int} (h : IntsAt W g T l) (hm : Below W.heap.size W W') : IntsAt W' g T l := (hm.block g h.lt).trans h
theorem IntsAt.set {W : World} {g : Nat} {T : TypeId} {l : List Int} (h : IntsAt W g T l) (i : Nat) (v : Int) : IntsAt (W.setCell ⟨g, i, none⟩ (.int .i64 v)) g T (l.set i v) := by
  obtain ⟨hlt, hk⟩ := Array.getElem?_eq_some_iff.1 h
  show (W.heap.modify g _)[g]? = _
  rw [Array.getElem?_eq_getElem (by rw [Array.size_modify]; exact hlt), Array.getElem_modify_self, hk]
  simp [List.map_set]

end Go.Proofs.YtdfmgneicdpjmaaGreat
