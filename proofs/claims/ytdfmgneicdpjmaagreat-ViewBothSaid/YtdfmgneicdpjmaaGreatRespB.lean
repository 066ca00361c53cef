/- A number as a field: num.Append in one contract, field.Number. -/
import Derived.Test.YtdfmgneicdpjmaaGreatRespA
import Derived.Laws.Rows
namespace Go.Proofs.YtdfmgneicdpjmaaGreat
open Go.RowKit Go.Shelf
set_option linter.unusedVariables false
set_option linter.unusedSimpArgs false
set_option maxRecDepth 100000
namespace Resp

/-- The bytes of a number. -/
def numBytes (x : Nat) : List Int := if x ≤ 246 then [(x : Int)] else ((246 + numLen x : Nat) : Int) :: (List.range (numLen x)).map fun j => ((x / 256 ^ (numLen x - 1 - j) % 256 : Nat) : Int)
def u8s (l : List Int) : List Value := l.map (Value.int .u8)
theorem numBytes_length {x : Nat} (hx : x < 18446744073709551616) : (numBytes x).length = sizeN x ∧ sizeN x ≤ 9 := by
  have := numLen_le 8 x (by simpa using hx)
  unfold numBytes sizeN
  split
  · simp
  · simp; omega

theorem Append_any (x : Nat) (hx : x < 18446744073709551616) (base n : Nat) (v : Value) (xs : List Value) (w : World) (hown : w.ownsRow base 5 1 v n xs) (hn : n ≤ 1048576) (hbase : base ≤ w.heap.size) :
    Calls Tryz.prog 197 #[v, .int .u64 x] w fun e w' => ∃ v', e = .returned v' ∧ w'.ownsRow base 5 1 v' (n + sizeN x) (xs ++ u8s (numBytes x)) ∧ Mod (fun k => some k = v.ownBlock) w w' := by
  by_cases h : x ≤ 246
  · refine (Append_small x h base n v xs w hown hn hbase).mono ?_
    rintro e w' ⟨v', rfl, h1, h2⟩
    refine ⟨v', rfl, ?_, h2⟩
    rw [numBytes, if_pos h, sizeN, if_pos h]
    exact h1
  · refine (Append_big x (by omega) hx base n v xs w hown hn hbase).mono ?_
    rintro e w' ⟨v', rfl, h1, h2⟩
    refine ⟨v', rfl, ?_, h2⟩
    rw [numBytes, if_neg h, sizeN, if_neg h, u8s, List.map_cons, List.map_map]
    exact h1

theorem owns_nil (W : World) (base : Nat) (e : TypeId) (size : Nat) : W.ownsRow base e size (.slice none 0 0) 0 [] := ⟨by simp, .inl ⟨rfl, rfl⟩⟩

theorem ownBlock_ge_ {W : World} {base : Nat} {e : TypeId} {size : Nat} {v : Value} {k : Nat} {xs : List Value} (h : W.ownsRow base e size v k xs) {g : Nat} (hg : v.ownBlock = some g) : base ≤ g := by
  rcases h.2 with ⟨rfl, rfl⟩ | ⟨g', cap, cur, rfl, hb, hgg, rest⟩
  · cases hg
  · cases hg; exact hb
theorem pair_cells_ {W : World} {g : Nat} {a b : Value} {T : TypeId} (h : W.heap[g]? = some (.cells #[a, b] T)) : W.cell? ⟨g, 0, none⟩ = some a ∧ W.cell? ⟨g, 1, none⟩ = some b ∧ W.frozen? ⟨g, 0, none⟩ = false ∧ W.frozen? ⟨g, 1, none⟩ = false :=
  ⟨by simp [World.cell?, h], by simp [World.cell?, h], by simp [World.frozen?, h], by simp [World.frozen?, h]⟩
theorem heap_set_ {W : World} {g : Nat} {cs : Array Value} {T : TypeId} {fr : Nat × Nat} (h : W.heap[g]? = some (.cells cs T fr)) (i : Nat) (v : Value) : (W.setCell ⟨g, i, none⟩ v).heap[g]? = some (.cells (cs.setIfInBounds i v) T fr) := by
  obtain ⟨hlt, he⟩ := Array.getElem?_eq_some_iff.1 h
  show (W.heap.modify g _)[g]? = _
  rw [Array.getElem?_eq_getElem (by rw [Array.size_modify]; exact hlt), Array.getElem_modify_self, he]
  rfl
theorem pair_set_ {W : World} {g : Nat} {a b a' b' : Value} {T : TypeId} (h : W.heap[g]? = some (.cells #[a, b] T)) : ((W.setCell ⟨g, 0, none⟩ a').setCell ⟨g, 1, none⟩ b').heap[g]? = some (.cells #[a', b'] T) :=
  heap_set_ (heap_set_ h 0 a') 1 b'
theorem infoField : (Tryz.prog.info? 141).map (·.size) = some 2 := by kernel_rfl
theorem Number_any (tag : Int) (x : Nat) (hx : x < 18446744073709551616) (w : World) :
    Calls Tryz.prog 201 #[.int .i64 tag, .int .u64 x] w fun e w' => ∃ v', e = .returned (.agg #[.int .i64 tag, v']) ∧ w'.ownsRow w.heap.size 5 1 v' (sizeN x) (u8s (numBytes x)) ∧ Below w.heap.size w w' := by
  go_enter Tryz.func201, Tryz.ntmps201
  go_wp2_with fail
  have hs1 : (w.alloc (.cells #[.int .i64 0, .slice none 0 0] 141)).heap.size = w.heap.size + 1 := by simp
  have hb1 : Below w.heap.size w (w.alloc (.cells #[.int .i64 0, .slice none 0 0] 141)) := (Below.refl _ _).alloc (Nat.le_refl _) _
  have hf1 : (w.alloc (.cells #[.int .i64 0, .slice none 0 0] 141)).heap[w.heap.size]? = some (.cells #[.int .i64 0, .slice none 0 0] 141) := World.alloc_heap_new w _
  generalize w.alloc (.cells #[.int .i64 0, .slice none 0 0] 141) = W1 at *
  refine (Append_any x hx (w.heap.size + 1) 0 (.slice none 0 0) [] W1 (owns_nil _ _ _ _) (by omega) (by omega)).mono ?_; rintro e w' ⟨v', rfl, hown, hm⟩
  have hk : w'.heap[w.heap.size]? = some (.cells #[.int .i64 0, .slice none 0 0] 141) := hm.heap hf1 (by simp [Value.ownBlock])
  have hm0 : Below W1.heap.size W1 w' := hm.below (Nat.le_refl _) (by simp [Value.ownBlock])
  have hb2 : Below w.heap.size w w' := hb1.trans (hm0.mono (by omega))
  have hlt : w.heap.size < w'.heap.size := (Array.getElem?_eq_some_iff.1 hk).1
  obtain ⟨a, c, e⟩ := ownsRow_form hown
  subst e
  have HO := Lib.hid hown
  obtain ⟨hc0, hc1, hz0, hz1⟩ := pair_cells_ hk
  clear hm hm0 hown
  go_wp2_with fail
  refine bodyPost_ret (results_cell_row rfl _ _ w.heap.size _ _ _ _ rfl (pair_set_ hk) Tryz.underlying141 rfl infoField) rfl ?_
  have hst : ∀ (k : Nat), (Value.slice a (0 + sizeN x) c).ownBlock = some k → w.heap.size + 1 ≤ k := fun k e => ownBlock_ge_ HO.out e
  refine ⟨_, rfl, ?_, (hb2.setCell (p := ⟨w.heap.size, 0, none⟩) (Nat.le_refl _) _).setCell (p := ⟨w.heap.size, 1, none⟩) (Nat.le_refl _) _⟩
  have h3 := ownsRow_mod (S := fun k => k = w.heap.size) HO.out (((Mod.refl (fun k => k = w.heap.size) w').setCell (p := ⟨w.heap.size, 0, none⟩) (.inr rfl) (.int .i64 tag)).setCell (p := ⟨w.heap.size, 1, none⟩) (.inr rfl) (.slice a (sizeN x) c)) (fun g e h => by have := hst g e; omega)
  simpa using ownsRow_base h3 (base' := w.heap.size) (by omega)
end Resp
end Go.Proofs.YtdfmgneicdpjmaaGreat
