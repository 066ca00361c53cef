/- General lemmas: a world of which only some blocks have turned; an append into a boxed slice; the first k values of a function. -/
import Derived.Test.YtdfmgneicdpjmaaGreatChecked
import Derived.WalkKit
import Derived.ProofKit
import Derived.Lib.Hide
import Derived.BigQuiet
import Derived.Outline
import Derived.Deep.LoopGhost
import Derived.RangeFuncBox
import Derived.RangeFuncLeaves
import Derived.RangeFuncNested
import Derived.RangeFuncBound
import Derived.RangeFuncCalls
import Derived.Shelf.Abstract
import Derived.Shelf.RegionOpen
import Derived.OwnWalkIn
import Derived.TacticsInMore
import Derived.LoopNIn
import Derived.LoopIn
import Derived.Maps.AppendAt
import Derived.OpenShut
import Derived.Lib.MinMax
namespace Go.Proofs.YtdfmgneicdpjmaaGreat
open Go.RowKit Go.Shelf
set_option linter.unusedVariables false

/-- Of the blocks that lay, only those in S may have turned. -/
structure Mod (S : Nat → Prop) (w w' : World) : Prop where
  os : w'.os = w.os
  tape : w'.tape = w.tape
  output : w'.output = w.output
  size : w.heap.size ≤ w'.heap.size
  block : ∀ k, k < w.heap.size → ¬ S k → w'.heap[k]? = w.heap[k]?

namespace Mod
variable {S T : Nat → Prop} {a b c w w' : World}
theorem refl (S : Nat → Prop) (w : World) : Mod S w w := ⟨rfl, rfl, rfl, Nat.le_refl _, fun _ _ _ => rfl⟩
theorem mono (h : Mod S w w') (hST : ∀ k, k < w.heap.size → S k → T k) : Mod T w w' :=
  ⟨h.os, h.tape, h.output, h.size, fun k hk hT => h.block k hk fun hS => hT (hST k hk hS)⟩

theorem trans (h : Mod S a b) (h' : Mod S b c) : Mod S a c :=
  ⟨h'.os.trans h.os, h'.tape.trans h.tape, h'.output.trans h.output, Nat.le_trans h.size h'.size, fun k hk hS => (h'.block k (Nat.lt_of_lt_of_le hk h.size) hS).trans (h.block k hk hS)⟩
theorem of_grownBy {row : Option Nat} (h : w.grownBy w' row) : Mod (fun k => some k = row) w w' := ⟨h.os, h.tape, h.output, h.size, h.block⟩
theorem of_below {B : Nat} (h : Below B w w') : Mod (fun k => B ≤ k) w w' := ⟨h.os, h.tape, h.output, h.size, fun k _ hS => h.block k (Nat.lt_of_not_le hS)⟩
theorem of_same (h : Below w.heap.size w w') : Mod S w w' := (of_below h).mono fun k hk hB => absurd hB (Nat.not_le.2 hk)
theorem alloc (h : Mod S w w') (o : Obj) : Mod S w (w'.alloc o) :=
  h.trans ⟨rfl, rfl, rfl, by simp, fun k hk _ => Below.heap_alloc _ _ _ hk⟩
theorem drew (h : Mod S w w') : Mod S w w'.drew := ⟨h.os, h.tape, h.output, h.size, h.block⟩
theorem setCell (h : Mod S w w') {p : Addr} (hp : w.heap.size ≤ p.block ∨ S p.block) (v : Value) : Mod S w (w'.setCell p v) := by
  refine ⟨h.os, h.tape, h.output, by simpa using h.size, fun k hk hS => ?_⟩
  rw [Below.heap_setCell]
  · exact h.block k hk hS
  · rintro rfl
    rcases hp with hp | hp
    · omega
    · exact hS hp
theorem putObj (h : Mod S w w') {l : Nat} (hl : w.heap.size ≤ l ∨ S l) (o : Obj) : Mod S w (w'.putObj l o) := by
  have hg := grownBy_putObj' w' l o
  refine ⟨hg.os.trans h.os, hg.tape.trans h.tape, hg.output.trans h.output, Nat.le_trans h.size hg.size, fun k hk hS => ?_⟩
  rw [hg.block k (Nat.lt_of_lt_of_le hk h.size)]
  · exact h.block k hk hS
  · intro e; cases e
    rcases hl with hl | hl
    · omega
    · exact hS hl
/-- Nothing that lay has turned, if what may have turned did not lie. -/
theorem below (h : Mod S w w') {B : Nat} (hB : B ≤ w.heap.size) (hS : ∀ k, k < B → ¬ S k) : Below B w w' := ⟨h.os, h.tape, h.output, h.size, fun k hk => h.block k (by omega) (hS k hk)⟩
theorem cell (h : Mod S w w') {p : Addr} {v : Value} (hp : ¬ S p.block) (hc : w.cell? p = some v) : w'.cell? p = some v :=
  (World.cell?_of_block (h.block p.block (World.block_lt_of_cell? w p hc) hp)).trans hc
theorem frozen (h : Mod S w w') {p : Addr} (hl : p.block < w.heap.size) (hp : ¬ S p.block) : w'.frozen? p = w.frozen? p := World.frozen?_of_block (h.block p.block hl hp)
theorem heap (h : Mod S w w') {k : Nat} {o : Obj} (hk : w.heap[k]? = some o) (hS : ¬ S k) : w'.heap[k]? = some o := (h.block k (Array.getElem?_eq_some_iff.1 hk).1 hS).trans hk
theorem boxed (h : Mod S w w') {B : Nat} {t : TypeId} {v : Value} (hb : Boxed w B t v) (hS : ¬ S B) : Boxed w' B t v := h.heap hb hS
end Mod

/-- The row that a slice owns, kept. -/
theorem ownsRow_mod {S : Nat → Prop} {w w' : World} {base : Nat} {e : TypeId} {size : Nat} {v : Value} {n : Nat} {xs : List Value} (h : w.ownsRow base e size v n xs) (hm : Mod S w w') (hS : ∀ g, v.ownBlock = some g → ¬ S g) : w'.ownsRow base e size v n xs := by
  refine ⟨h.1, ?_⟩
  rcases h.2 with hn | ⟨g, cap, cur, rfl, hb, hgg, rest⟩
  · exact .inl hn
  · exact .inr ⟨g, cap, cur, rfl, hb, hm.heap hgg (hS g rfl), rest⟩
theorem ownsRow_base {w : World} {base base' : Nat} {e : TypeId} {size : Nat} {v : Value} {n : Nat} {xs : List Value} (h : w.ownsRow base e size v n xs) (hb : base' ≤ base) : w.ownsRow base' e size v n xs := by
  refine ⟨h.1, ?_⟩
  rcases h.2 with hn | ⟨g, cap, cur, rfl, hg, rest⟩
  · exact .inl hn
  · exact .inr ⟨g, cap, cur, rfl, by omega, rest⟩

/-- 'out = append(out, ..)' on a boxed slice. -/
theorem boxed_appended {W w1 : World} {base B : Nat} {t e : TypeId} {size : Nat} {v v' : Value} {k m : Nat} {xs ys : List Value} {tmp : Obj}
    (hv : Boxed W B t v) (hte : t ≠ e) (hrow : W.ownsRow base e size v k xs) (hown' : w1.ownsRow base e size v' m ys) (hgrow : (W.alloc tmp).grownBy w1 v.ownBlock) :
    Boxed w1 B t v ∧ Boxed (w1.setCell ⟨B, 0, none⟩ v') B t v' ∧ (w1.setCell ⟨B, 0, none⟩ v').ownsRow base e size v' m ys ∧ KeepsOthers W (w1.setCell ⟨B, 0, none⟩ v') ∧ Mod (fun k => k = B ∨ base ≤ k) W (w1.setCell ⟨B, 0, none⟩ v') := by
  have hv1 : Boxed w1 B t v := (hv.alloc tmp).kept hgrow (hv.not_row hte hrow)
  refine ⟨hv1, hv1.set v', hown'.kept (grownBy_setCell' w1 B v') (.inr (hv1.not_row hte hown').symm), ?_, ?_⟩
  · refine ((KeepsOthers.alloc W tmp).trans (KeepsOthers.of_grownBy hgrow fun j o ej hj => ?_)).trans (KeepsOthers.setCell _ _ _)
    rcases (hrow.alloc tmp).2 with ⟨rfl, _⟩ | ⟨g, cap, cur, rfl, _, hgb, _⟩
    · simp [Value.ownBlock] at ej
    · obtain rfl : g = j := by simpa [Value.ownBlock] using ej
      rw [hgb] at hj; cases hj; rfl
  · refine Mod.setCell ?_ (.inr (.inl rfl)) v'
    refine ((Mod.refl (fun k => k = B ∨ base ≤ k) W).alloc tmp).trans ((Mod.of_grownBy hgrow).mono fun k _ hk => .inr ?_)
    exact (hrow.lt k hk.symm).1

/-- The first k values of f. -/
def upto {α : Type} (f : Nat → α) (k : Nat) : List α := (List.range k).map f
theorem upto_succ {α : Type} (f : Nat → α) (k : Nat) : upto f (k + 1) = upto f k ++ [f k] := by simp [upto, List.range_succ]
theorem upto_length {α : Type} (f : Nat → α) (k : Nat) : (upto f k).length = k := by simp [upto]
theorem upto_getElem? {α : Type} (f : Nat → α) (k i : Nat) (h : i < k) : (upto f k)[i]? = some (f i) := by simp [upto, h]
theorem upto_map {α β : Type} (f : Nat → α) (g : α → β) (k : Nat) : (upto f k).map g = upto (fun i => g (f i)) k := by simp [upto]

/-- The slice value v reads as the ints zs. -/
def Reads (k : IntKind) (w : World) (v : Value) (zs : List Int) : Prop :=
  (∃ a cap, v = .slice a 0 cap ∧ zs = []) ∨ ∃ b off cap, v = .slice (some ⟨b, off, none⟩) zs.length cap ∧ zs.length ≤ maxLen ∧ ∀ i, i < zs.length → w.cell? ⟨b, off + i, none⟩ = some (.int k (zs[i]?.getD 0))
theorem Reads.of_owns {k : IntKind} {w : World} {base : Nat} {e : TypeId} {v : Value} {n : Nat} {zs : List Int} (h : w.ownsRow base e 1 v n (zs.map (Value.int k))) : Reads k w v zs := by
  obtain ⟨hl, h⟩ := h
  have hn : zs.length = n := by simpa using hl
  rcases h with ⟨rfl, rfl⟩ | ⟨g, cap, cur, rfl, _, hg, h1, h2, h3, h4⟩
  · exact .inl ⟨_, _, rfl, by simpa using hn⟩
  · refine .inr ⟨g, 0, cap, by rw [hn], by omega, fun i hi => ?_⟩
    have h5 : cur[i]? = some (.int k (zs[i]?.getD 0)) := by
      have : (cur.toList.take (n * 1))[i]? = (zs.map (Value.int k))[i]? := by rw [h4]
      rw [List.getElem?_take, if_pos (by omega)] at this
      simpa [List.getElem?_eq_getElem hi] using this
    simp [World.cell?, hg, h5]
theorem Reads.mod {S : Nat → Prop} {k : IntKind} {w w' : World} {v : Value} {zs : List Int} (h : Reads k w v zs) (hm : Mod S w w') (hS : ∀ g, v.ownBlock = some g → ¬ S g) : Reads k w' v zs := by
  rcases h with h | ⟨b, off, cap, rfl, hl, hc⟩
  · exact .inl h
  · exact .inr ⟨b, off, cap, rfl, hl, fun i hi => hm.cell (hS b rfl) (hc i hi)⟩
theorem Reads.drewN {k : IntKind} {w : World} {v : Value} {zs : List Int} (n : Nat) (h : Reads k w v zs) : Reads k (w.drewN n) v zs := h

/-- What is known of a slice of integers that came in: it is nil; or it leads to a row of cap cells, the numbers zs (the first len are its elements), each fitting its kind. -/
def IsRow (k : IntKind) (w : World) (a : Option Addr) (len cap : Nat) (zs : List Int) : Prop :=
  (a = none ∧ len = 0 ∧ cap = 0 ∧ zs = []) ∨
  ∃ x, a = some x ∧ len ≤ cap ∧ cap ≤ maxLen ∧ zs.length = cap ∧ (∀ i, i < zs.length → w.cell? (x.add i) = some (.int k (zs.getD i 0))) ∧ ∀ n ∈ zs, (Lit.int k n).wf = true
theorem IsRow.reads {k : IntKind} {w : World} {a : Option Addr} {len cap : Nat} {zs : List Int} (h : IsRow k w a len cap zs) : Reads k w (.slice a len cap) (zs.take len) ∧ ∀ n ∈ zs.take len, (Lit.int k n).wf = true := by
  rcases h with ⟨rfl, rfl, rfl, rfl⟩ | ⟨x, rfl, hl, hm, hz, hcell, hwz⟩
  · exact ⟨.inl ⟨_, _, rfl, rfl⟩, by simp⟩
  · refine ⟨?_, fun n hn => hwz n (List.mem_of_mem_take hn)⟩
    obtain ⟨b, off, spot⟩ := x
    by_cases h0 : len = 0
    · subst h0
      exact .inl ⟨_, _, rfl, rfl⟩
    · have hc := hcell 0 (by omega)
      have hspot : spot = none := by simpa [Addr.add] using World.cell?_spot hc
      subst hspot
      refine .inr ⟨b, off, cap, by rw [List.length_take_of_le (by omega)], by rw [List.length_take_of_le (by omega)]; omega, fun i hi => ?_⟩
      rw [List.length_take_of_le (by omega)] at hi
      have := hcell i (by omega)
      rw [List.getElem?_take, if_pos hi]
      rcases i with _ | i
      · simpa [Addr.add] using this
      · simpa [Addr.add] using this

/-- min and max of three. -/
theorem min3_ex (P : Program) (k : IntKind) (x y z : Int) : ∃ a, (a ≤ x ∧ a ≤ y ∧ a ≤ z) ∧ (a = x ∨ a = y ∨ a = z) ∧ ∀ (w : World) (ts : Array TypeId) (t : TypeId), (Builtin.min_ ts t #[.int k x, .int k y, .int k z]).run P w = .ok (.int k a) w := by
  refine ⟨if z < (if y < x then y else x) then z else (if y < x then y else x), ?_, ?_, fun w ts t => by simp [Builtin.min_, Builtin.min2]⟩
  · split <;> split at * <;> omega
  · split <;> split at * <;> omega
theorem max3_ex (P : Program) (k : IntKind) (x y z : Int) : ∃ a, (x ≤ a ∧ y ≤ a ∧ z ≤ a) ∧ (a = x ∨ a = y ∨ a = z) ∧ ∀ (w : World) (ts : Array TypeId) (t : TypeId), (Builtin.max_ ts t #[.int k x, .int k y, .int k z]).run P w = .ok (.int k a) w := by
  refine ⟨if z > (if y > x then y else x) then z else (if y > x then y else x), ?_, ?_, fun w ts t => by simp [Builtin.max_, Builtin.max2]⟩
  · split <;> split at * <;> omega
  · split <;> split at * <;> omega

/-- The cells of a row of ints that a slice owns. -/
theorem owns_cell {k : IntKind} {w : World} {base : Nat} {e : TypeId} {g n cap : Nat} {zs : List Int} (h : w.ownsRow base e 1 (.slice (some ⟨g, 0, none⟩) n cap) n (zs.map (Value.int k))) (i : Nat) (z : Int) (hi : zs[i]? = some z) : w.cell? ⟨g, i, none⟩ = some (.int k z) := by
  have := h.cells (g := g) rfl i (.int k z) (by simp [hi])
  rcases i with _ | i
  · simpa [Addr.add] using this
  · simpa [Addr.add] using this

theorem ret_bool {a b : Bool} (h : a = b) : Ending.returned (.bool a) = .returned (.bool b) := by rw [h]
theorem ret_int {k : IntKind} {a b : Int} (h : a = b) : Ending.returned (.int k a) = .returned (.int k b) := by rw [h]
theorem ret_int2 {a b : Int} {p : Int × Int} (h : (a, b) = p) : Ending.returned (.tuple #[.int .i64 a, .int .i64 b]) = .returned (.tuple #[.int .i64 p.1, .int .i64 p.2]) := by rw [← h]
end Go.Proofs.YtdfmgneicdpjmaaGreat
