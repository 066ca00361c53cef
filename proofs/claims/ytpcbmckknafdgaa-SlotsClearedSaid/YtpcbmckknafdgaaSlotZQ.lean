/- append of one row of ints to another, whatever they are. -/
import Derived.Test.YtpcbmckknafdgaaSlotZO
import Derived.Deep.AppendLies
import Derived.Deep.AppendSrc
namespace Go.Proofs.Ytpcbmckknafdgaa
open Go.RowKit Go.Shelf
set_option linter.unusedVariables false
set_option linter.unusedSimpArgs false
set_option maxRecDepth 100000
namespace Slot

theorem run_append_rows (w : World) (ty : TypeId) (base base2 : Nat) (v u : Value) (n m : Nat) (xs ys : List Value) (hown : w.ownsRow base 3 1 v n xs) (hsrc : w.ownsRow base2 3 1 u m ys) (h1 : ∀ z ∈ ys, z.oneCell' = true)
    (h63 : n + m ≤ 4096) (hbase : base ≤ w.heap.size) :
    ∃ v' w', (Builtin.append_ #[29, 29] ty #[v, u]).run Try.prog w = .ok v' w' ∧ w'.ownsRow base 3 1 v' (n + m) (xs ++ ys) ∧ w.grownBy w' v.ownBlock := by
  obtain ⟨i0, hi, hz0, hz1, hz2⟩ := info_parts infoInt
  rcases hsrc.2 with ⟨rfl, rfl⟩ | ⟨g, cap, cur, rfl, hb, hg, h2, h3, h4, h5⟩
  · have hy : ys = [] := List.length_eq_zero_iff.1 (by simpa using hsrc.1)
    subst hy
    rw [List.append_nil]
    rcases hown.2 with ⟨rfl, rfl⟩ | ⟨g, cap, cur, rfl, hb, hg, h2, h3, h4, h5⟩
    · refine ⟨.slice none 0 0, w, ?_, hown, ⟨rfl, rfl, rfl, Nat.le_refl _, fun _ _ _ => rfl⟩⟩
      have hs := Src.ofNil (P := Try.prog) (w := w) (size := i0.size) Try.underlying29 0
      simp [Builtin.append_, run_underlying Try.underlying29, sizeOf, typeInfo, hi, hs.len, hs.cells]
    · have hs := Src.ofNil (P := Try.prog) (w := w) (size := i0.size) Try.underlying29 0
      have := run_append_room_src (w := w) 29 29 ty 3 i0 Try.underlying29 hi g 0 n cap _ 0 [] hs (by omega) (by simp) (by simp)
      exact ⟨_, _, this, by simpa [World.setCells] using hown, by rw [World.setCells]; exact ⟨rfl, rfl, rfl, Nat.le_refl _, fun _ _ _ => rfl⟩⟩
  · obtain ⟨v', w', hr, h6, h7, _⟩ := run_append_own_at (P := Try.prog) w base 29 ty 3 i0 (.int .i64 0) 1 8 Try.underlying29 hi hz0 hz1 hz2 rfl (by decide) v n xs hown ⟨g, 0, none⟩ m cap ys hsrc.1 (fun j z hj => hsrc.cells (g := g) rfl j z hj) h1 (by unfold maxLen; omega) (by omega) hbase
    exact ⟨v', w', hr, h6, h7⟩

theorem step_append_rows {w : World} {ops : Array Oper} {o : Oper} {a : Act} {K : Act → World → Prop} {Q : Exit → Act → World → Prop} {E : Prop} (s x : Operand)
    (ho : o.op = .call { callee := .builtin .append, args := #[s, x], argTypes := #[29, 29] }) (hw : Region.wanted o (yielded ops a.tmps) = true)
    (base base2 : Nat) (v u : Value) (n m : Nat) (xs ys : List Value) (hs : a.eval s = v) (hx : a.eval x = u) (hown : w.ownsRow base 3 1 v n xs) (hsrc : w.ownsRow base2 3 1 u m ys) (h1 : ∀ z ∈ ys, z.oneCell' = true)
    (h63 : n + m ≤ 4096) (hbase : base ≤ w.heap.size) (h : ∀ a' c' w', w'.ownsRow base 3 1 (.slice a' (n + m) c') (n + m) (xs ++ ys) → w.grownBy w' v.ownBlock → K (a.put o.dst (.slice a' (n + m) c')) w') :
    if Region.wanted o (yielded ops a.tmps) = true then Oper.wp Try.prog o a w K Q else E := by
  rw [if_pos hw]
  obtain ⟨v', w', hr, h2, h3⟩ := run_append_rows w o.type base base2 v u n m xs ys hown hsrc h1 h63 hbase
  obtain ⟨a', c', rfl⟩ := ownsRow_val h2
  unfold Oper.wp execOp
  simp only [ho, resolve, invoke, builtin, Sem.run_bind, Sem.run_pure, Result.andThen_ok, List.map_toArray, List.map_cons, List.map_nil, hs, hx, hr]
  exact h a' c' w' h2 h3
theorem def_not_row {w : World} {base : Nat} {e : TypeId} {size : Nat} {v : Value} {n : Nat} {xs : List Value} {D : Nat} {x : Option (List Deferred)} (h : w.ownsRow base e size v n xs) (hD : w.heap[D]? = some (.deferred x)) : ¬ some D = v.ownBlock := fun e => by
  rcases h.2 with ⟨rfl, _⟩ | ⟨g, cap, cur, rfl, _, h5, _⟩
  · cases e
  · have e' : D = g := by simpa [Value.ownBlock] using e
    subst e'
    rw [hD] at h5
    cases h5
end Slot
end Go.Proofs.Ytpcbmckknafdgaa
