import Derived.Test.YtdfmgneicdpjmaaGreatChecked
import Derived.WalkKit
import Derived.ProofKit
import Derived.Lib.Hide
import Derived.BigQuiet
import Derived.Outline
import Derived.Deep.LoopGhost
import Derived.RangeFuncBox
import Derived.RangeFuncLeaves
import Derived.RangeFuncNested
import Derived.RangeFuncBound
import Derived.RangeFuncCalls
import Derived.Shelf.Abstract
import Derived.Shelf.RegionOpen
import Derived.OwnWalkIn
import Derived.TacticsInMore
import Derived.LoopNIn
import Derived.LoopIn
import Derived.Maps.AppendAt
import Derived.OpenShut
import Derived.Lib.MinMax
import Derived.Deep.RegionHeld3
import Derived.Deep.AppendLies
import Derived.Deep.Cut
import Derived.IntWalk
/- General lemmas: a world of which only some blocks have turned; an append into a boxed slice; the first k values of a function. -/
namespace Go.Proofs.YtdfmgneicdpjmaaGreat
open Go.RowKit Go.Shelf
set_option linter.unusedVariables false

/-- Of the blocks that lay, only those in S may have turned. -/
structure Mod (S : Nat → Prop) (w w' : World) : Prop where
  os : w'.os = w.os
  tape : w'.tape = w.tape
  output : w'.output = w.output
  size : w.heap.size ≤ w'.heap.size
  block : ∀ k, k < w.heap.size → ¬ S k → w'.heap[k]? = w.heap[k]?

namespace Mod
variable {S T : Nat → Prop} {a b c w w' : World}
theorem refl (S : Nat → Prop) (w : World) : Mod S w w := ⟨rfl, rfl, rfl, Nat.le_refl _, fun _ _ _ => rfl⟩
theorem mono (h : Mod S w w') (hST : ∀ k, k < w.heap.size → S k → T k) : Mod T w w' :=
  ⟨h.os, h.tape, h.output, h.size, fun k hk hT => h.block k hk fun hS => hT (hST k hk hS)⟩

theorem trans (h : Mod S a b) (h' : Mod S b c) : Mod S a c :=
  ⟨h'.os.trans h.os, h'.tape.trans h.tape, h'.output.trans h.output, Nat.le_trans h.size h'.size, fun k hk hS => (h'.block k (Nat.lt_of_lt_of_le hk h.size) hS).trans (h.block k hk hS)⟩
theorem of_grownBy {row : Option Nat} (h : w.grownBy w' row) : Mod (fun k => some k = row) w w' := ⟨h.os, h.tape, h.output, h.size, h.block⟩
theorem of_below {B : Nat} (h : Below B w w') : Mod (fun k => B ≤ k) w w' := ⟨h.os, h.tape, h.output, h.size, fun k _ hS => h.block k (Nat.lt_of_not_le hS)⟩
theorem of_same (h : Below w.heap.size w w') : Mod S w w' := (of_below h).mono fun k hk hB => absurd hB (Nat.not_le.2 hk)
theorem alloc (h : Mod S w w') (o : Obj) : Mod S w (w'.alloc o) :=
  h.trans ⟨rfl, rfl, rfl, by simp, fun k hk _ => Below.heap_alloc _ _ _ hk⟩
theorem drew (h : Mod S w w') : Mod S w w'.drew := ⟨h.os, h.tape, h.output, h.size, h.block⟩
theorem setCell (h : Mod S w w') {p : Addr} (hp : w.heap.size ≤ p.block ∨ S p.block) (v : Value) : Mod S w (w'.setCell p v) := by
  refine ⟨h.os, h.tape, h.output, by simpa using h.size, fun k hk hS => ?_⟩
  rw [Below.heap_setCell]
  · exact h.block k hk hS
  · rintro rfl
    rcases hp with hp | hp
    · omega
    · exact hS hp
theorem putObj (h : Mod S w w') {l : Nat} (hl : w.heap.size ≤ l ∨ S l) (o : Obj) : Mod S w (w'.putObj l o) := by
  have hg := grownBy_putObj' w' l o
  refine ⟨hg.os.trans h.os, hg.tape.trans h.tape, hg.output.trans h.output, Nat.le_trans h.size hg.size, fun k hk hS => ?_⟩
  rw [hg.block k (Nat.lt_of_lt_of_le hk h.size)]
  · exact h.block k hk hS
  · intro e; cases e
    rcases hl with hl | hl
    · omega
    · exact hS hl
/-- Nothing that lay has turned, if what may have turned did not lie. -/
theorem below (h : Mod S w w') {B : Nat} (hB : B ≤ w.heap.size) (hS : ∀ k, k < B → ¬ S k) : Below B w w' := ⟨h.os, h.tape, h.output, h.size, fun k hk => h.block k (by omega) (hS k hk)⟩
theorem cell (h : Mod S w w') {p : Addr} {v : Value} (hp : ¬ S p.block) (hc : w.cell? p = some v) : w'.cell? p = some v :=
  (World.cell?_of_block (h.block p.block (World.block_lt_of_cell? w p hc) hp)).trans hc
theorem frozen (h : Mod S w w') {p : Addr} (hl : p.block < w.heap.size) (hp : ¬ S p.block) : w'.frozen? p = w.frozen? p := World.frozen?_of_block (h.block p.block hl hp)
theorem heap (h : Mod S w w') {k : Nat} {o : Obj} (hk : w.heap[k]? = some o) (hS : ¬ S k) : w'.heap[k]? = some o := (h.block k (Array.getElem?_eq_some_iff.1 hk).1 hS).trans hk
theorem boxed (h : Mod S w w') {B : Nat} {t : TypeId} {v : Value} (hb : Boxed w B t v) (hS : ¬ S B) : Boxed w' B t v := h.heap hb hS
end Mod

/-- The row that a slice owns, kept. -/
theorem ownsRow_mod {S : Nat → Prop} {w w' : World} {base : Nat} {e : TypeId} {size : Nat} {v : Value} {n : Nat} {xs : List Value} (h : w.ownsRow base e size v n xs) (hm : Mod S w w') (hS : ∀ g, v.ownBlock = some g → ¬ S g) : w'.ownsRow base e size v n xs := by
  refine ⟨h.1, ?_⟩
  rcases h.2 with hn | ⟨g, cap, cur, rfl, hb, hgg, rest⟩
  · exact .inl hn
  · exact .inr ⟨g, cap, cur, rfl, hb, hm.heap hgg (hS g rfl), rest⟩
theorem ownsRow_base {w : World} {base base' : Nat} {e : TypeId} {size : Nat} {v : Value} {n : Nat} {xs : List Value} (h : w.ownsRow base e size v n xs) (hb : base' ≤ base) : w.ownsRow base' e size v n xs := by
  refine ⟨h.1, ?_⟩
  rcases h.2 with hn | ⟨g, cap, cur, rfl, hg, rest⟩
  · exact .inl hn
  · exact .inr ⟨g, cap, cur, rfl, by omega, rest⟩

/-- 'out = append(out, ..)' on a boxed slice. -/
theorem boxed_appended {W w1 : World} {base B : Nat} {t e : TypeId} {size : Nat} {v v' : Value} {k m : Nat} {xs ys : List Value} {tmp : Obj}
    (hv : Boxed W B t v) (hte : t ≠ e) (hrow : W.ownsRow base e size v k xs) (hown' : w1.ownsRow base e size v' m ys) (hgrow : (W.alloc tmp).grownBy w1 v.ownBlock) :
    Boxed w1 B t v ∧ Boxed (w1.setCell ⟨B, 0, none⟩ v') B t v' ∧ (w1.setCell ⟨B, 0, none⟩ v').ownsRow base e size v' m ys ∧ KeepsOthers W (w1.setCell ⟨B, 0, none⟩ v') ∧ Mod (fun k => k = B ∨ base ≤ k) W (w1.setCell ⟨B, 0, none⟩ v') := by
  have hv1 : Boxed w1 B t v := (hv.alloc tmp).kept hgrow (hv.not_row hte hrow)
  refine ⟨hv1, hv1.set v', hown'.kept (grownBy_setCell' w1 B v') (.inr (hv1.not_row hte hown').symm), ?_, ?_⟩
  · refine ((KeepsOthers.alloc W tmp).trans (KeepsOthers.of_grownBy hgrow fun j o ej hj => ?_)).trans (KeepsOthers.setCell _ _ _)
    rcases (hrow.alloc tmp).2 with ⟨rfl, _⟩ | ⟨g, cap, cur, rfl, _, hgb, _⟩
    · simp [Value.ownBlock] at ej
    · obtain rfl : g = j := by simpa [Value.ownBlock] using ej
      rw [hgb] at hj; cases hj; rfl
  · refine Mod.setCell ?_ (.inr (.inl rfl)) v'
    refine ((Mod.refl (fun k => k = B ∨ base ≤ k) W).alloc tmp).trans ((Mod.of_grownBy hgrow).mono fun k _ hk => .inr ?_)
    exact (hrow.lt k hk.symm).1

/-- The first k values of f. -/
def upto {α : Type} (f : Nat → α) (k : Nat) : List α := (List.range k).map f
theorem upto_succ {α : Type} (f : Nat → α) (k : Nat) : upto f (k + 1) = upto f k ++ [f k] := by simp [upto, List.range_succ]
theorem upto_length {α : Type} (f : Nat → α) (k : Nat) : (upto f k).length = k := by simp [upto]
theorem upto_getElem? {α : Type} (f : Nat → α) (k i : Nat) (h : i < k) : (upto f k)[i]? = some (f i) := by simp [upto, h]
theorem upto_map {α β : Type} (f : Nat → α) (g : α → β) (k : Nat) : (upto f k).map g = upto (fun i => g (f i)) k := by simp [upto]

/-- The slice value v reads as the ints zs. -/
def Reads (k : IntKind) (w : World) (v : Value) (zs : List Int) : Prop :=
  (∃ a cap, v = .slice a 0 cap ∧ zs = []) ∨ ∃ b off cap, v = .slice (some ⟨b, off, none⟩) zs.length cap ∧ zs.length ≤ maxLen ∧ ∀ i, i < zs.length → w.cell? ⟨b, off + i, none⟩ = some (.int k (zs[i]?.getD 0))
theorem Reads.of_owns {k : IntKind} {w : World} {base : Nat} {e : TypeId} {v : Value} {n : Nat} {zs : List Int} (h : w.ownsRow base e 1 v n (zs.map (Value.int k))) : Reads k w v zs := by
  obtain ⟨hl, h⟩ := h
  have hn : zs.length = n := by simpa using hl
  rcases h with ⟨rfl, rfl⟩ | ⟨g, cap, cur, rfl, _, hg, h1, h2, h3, h4⟩
  · exact .inl ⟨_, _, rfl, by simpa using hn⟩
  · refine .inr ⟨g, 0, cap, by rw [hn], by omega, fun i hi => ?_⟩
    have h5 : cur[i]? = some (.int k (zs[i]?.getD 0)) := by
      have : (cur.toList.take (n * 1))[i]? = (zs.map (Value.int k))[i]? := by rw [h4]
      rw [List.getElem?_take, if_pos (by omega)] at this
      simpa [List.getElem?_eq_getElem hi] using this
    simp [World.cell?, hg, h5]
theorem Reads.mod {S : Nat → Prop} {k : IntKind} {w w' : World} {v : Value} {zs : List Int} (h : Reads k w v zs) (hm : Mod S w w') (hS : ∀ g, v.ownBlock = some g → ¬ S g) : Reads k w' v zs := by
  rcases h with h | ⟨b, off, cap, rfl, hl, hc⟩
  · exact .inl h
  · exact .inr ⟨b, off, cap, rfl, hl, fun i hi => hm.cell (hS b rfl) (hc i hi)⟩
theorem Reads.drewN {k : IntKind} {w : World} {v : Value} {zs : List Int} (n : Nat) (h : Reads k w v zs) : Reads k (w.drewN n) v zs := h

/-- What is known of a slice of integers that came in: it is nil; or it leads to a row of cap cells, the numbers zs (the first len are its elements), each fitting its kind. -/
def IsRow (k : IntKind) (w : World) (a : Option Addr) (len cap : Nat) (zs : List Int) : Prop :=
  (a = none ∧ len = 0 ∧ cap = 0 ∧ zs = []) ∨
  ∃ x, a = some x ∧ len ≤ cap ∧ cap ≤ maxLen ∧ zs.length = cap ∧ (∀ i, i < zs.length → w.cell? (x.add i) = some (.int k (zs.getD i 0))) ∧ ∀ n ∈ zs, (Lit.int k n).wf = true
theorem IsRow.reads {k : IntKind} {w : World} {a : Option Addr} {len cap : Nat} {zs : List Int} (h : IsRow k w a len cap zs) : Reads k w (.slice a len cap) (zs.take len) ∧ ∀ n ∈ zs.take len, (Lit.int k n).wf = true := by
  rcases h with ⟨rfl, rfl, rfl, rfl⟩ | ⟨x, rfl, hl, hm, hz, hcell, hwz⟩
  · exact ⟨.inl ⟨_, _, rfl, rfl⟩, by simp⟩
  · refine ⟨?_, fun n hn => hwz n (List.mem_of_mem_take hn)⟩
    obtain ⟨b, off, spot⟩ := x
    by_cases h0 : len = 0
    · subst h0
      exact .inl ⟨_, _, rfl, rfl⟩
    · have hc := hcell 0 (by omega)
      have hspot : spot = none := by simpa [Addr.add] using World.cell?_spot hc
      subst hspot
      refine .inr ⟨b, off, cap, by rw [List.length_take_of_le (by omega)], by rw [List.length_take_of_le (by omega)]; omega, fun i hi => ?_⟩
      rw [List.length_take_of_le (by omega)] at hi
      have := hcell i (by omega)
      rw [List.getElem?_take, if_pos hi]
      rcases i with _ | i
      · simpa [Addr.add] using this
      · simpa [Addr.add] using this

/-- min and max of three. -/
theorem min3_ex (P : Program) (k : IntKind) (x y z : Int) : ∃ a, (a ≤ x ∧ a ≤ y ∧ a ≤ z) ∧ (a = x ∨ a = y ∨ a = z) ∧ ∀ (w : World) (ts : Array TypeId) (t : TypeId), (Builtin.min_ ts t #[.int k x, .int k y, .int k z]).run P w = .ok (.int k a) w := by
  refine ⟨if z < (if y < x then y else x) then z else (if y < x then y else x), ?_, ?_, fun w ts t => by simp [Builtin.min_, Builtin.min2]⟩
  · split <;> split at * <;> omega
  · split <;> split at * <;> omega
theorem max3_ex (P : Program) (k : IntKind) (x y z : Int) : ∃ a, (x ≤ a ∧ y ≤ a ∧ z ≤ a) ∧ (a = x ∨ a = y ∨ a = z) ∧ ∀ (w : World) (ts : Array TypeId) (t : TypeId), (Builtin.max_ ts t #[.int k x, .int k y, .int k z]).run P w = .ok (.int k a) w := by
  refine ⟨if z > (if y > x then y else x) then z else (if y > x then y else x), ?_, ?_, fun w ts t => by simp [Builtin.max_, Builtin.max2]⟩
  · split <;> split at * <;> omega
  · split <;> split at * <;> omega

/-- The cells of a row of ints that a slice owns. -/
theorem owns_cell {k : IntKind} {w : World} {base : Nat} {e : TypeId} {g n cap : Nat} {zs : List Int} (h : w.ownsRow base e 1 (.slice (some ⟨g, 0, none⟩) n cap) n (zs.map (Value.int k))) (i : Nat) (z : Int) (hi : zs[i]? = some z) : w.cell? ⟨g, i, none⟩ = some (.int k z) := by
  have := h.cells (g := g) rfl i (.int k z) (by simp [hi])
  rcases i with _ | i
  · simpa [Addr.add] using this
  · simpa [Addr.add] using this

theorem ret_bool {a b : Bool} (h : a = b) : Ending.returned (.bool a) = .returned (.bool b) := by rw [h]
theorem ret_int {k : IntKind} {a b : Int} (h : a = b) : Ending.returned (.int k a) = .returned (.int k b) := by rw [h]
theorem ret_int2 {a b : Int} {p : Int × Int} (h : (a, b) = p) : Ending.returned (.tuple #[.int .i64 a, .int .i64 b]) = .returned (.tuple #[.int .i64 p.1, .int .i64 p.2]) := by rw [← h]
end Go.Proofs.YtdfmgneicdpjmaaGreat

/- More general lemmas: the first k values of a function, one of them turned; a block that holds ints. -/
namespace Go.Proofs.YtdfmgneicdpjmaaGreat
open Go.RowKit Go.Shelf
set_option linter.unusedVariables false

theorem upto_set {α : Type} (f : Nat → α) (n j : Nat) (v : α) : (upto f n).set j v = upto (fun i => if i = j then v else f i) n := by
  apply List.ext_getElem?
  intro i
  rw [List.getElem?_set]
  by_cases hj : j = i
  · subst hj
    by_cases h : j < n
    · rw [if_pos rfl, if_pos (by rw [upto_length]; exact h), upto_getElem? _ _ _ h, if_pos rfl]
    · rw [if_pos rfl, if_neg (by rw [upto_length]; exact h), List.getElem?_eq_none (by rw [upto_length]; omega)]
  · rw [if_neg hj]
    by_cases h : i < n
    · rw [upto_getElem? _ _ _ h, upto_getElem? _ _ _ h, if_neg (by omega)]
    · rw [List.getElem?_eq_none (by rw [upto_length]; omega), List.getElem?_eq_none (by rw [upto_length]; omega)]
theorem upto_congr {α : Type} {f g : Nat → α} {n : Nat} (h : ∀ i, i < n → f i = g i) : upto f n = upto g n := by
  apply List.ext_getElem?
  intro i
  by_cases hi : i < n
  · rw [upto_getElem? _ _ _ hi, upto_getElem? _ _ _ hi, h i hi]
  · rw [List.getElem?_eq_none (by rw [upto_length]; omega), List.getElem?_eq_none (by rw [upto_length]; omega)]

/-- Block g holds the ints l, and nothing else. -/
def IntsAt (W : World) (g : Nat) (T : TypeId) (l : List Int) : Prop := W.heap[g]? = some (.cells (l.map (Value.int .i64)).toArray T (0, 0))
theorem IntsAt.lt {W : World} {g : Nat} {T : TypeId} {l : List Int} (h : IntsAt W g T l) : g < W.heap.size := (Array.getElem?_eq_some_iff.1 h).1
theorem IntsAt.cell {W : World} {g : Nat} {T : TypeId} {l : List Int} (h : IntsAt W g T l) {i : Nat} {z : Int} (hi : l[i]? = some z) : W.cell? ⟨g, i, none⟩ = some (.int .i64 z) := by
  simp [World.cell?, show W.heap[g]? = _ from h, hi]
theorem IntsAt.frozen {W : World} {g : Nat} {T : TypeId} {l : List Int} (h : IntsAt W g T l) (i : Nat) : W.frozen? ⟨g, i, none⟩ = false := by simp [World.frozen?, show W.heap[g]? = _ from h]
theorem IntsAt.mod {S : Nat → Prop} {W W' : World} {g : Nat} {T : TypeId} {l : List Int} (h : IntsAt W g T l) (hm : Mod S W W') (hS : ¬ S g) : IntsAt W' g T l := hm.heap h hS
theorem IntsAt.below {W W' : World} {g : Nat} {T : TypeId} {l : List Int} (h : IntsAt W g T l) (hm : Below W.heap.size W W') : IntsAt W' g T l := (hm.block g h.lt).trans h
theorem IntsAt.set {W : World} {g : Nat} {T : TypeId} {l : List Int} (h : IntsAt W g T l) (i : Nat) (v : Int) : IntsAt (W.setCell ⟨g, i, none⟩ (.int .i64 v)) g T (l.set i v) := by
  obtain ⟨hlt, hk⟩ := Array.getElem?_eq_some_iff.1 h
  show (W.heap.modify g _)[g]? = _
  rw [Array.getElem?_eq_getElem (by rw [Array.size_modify]; exact hlt), Array.getElem_modify_self, hk]
  simp [List.map_set]

end Go.Proofs.YtdfmgneicdpjmaaGreat

/- Numbers as bytes: num.Size, num.Append. -/
namespace Go.Proofs.YtdfmgneicdpjmaaGreat
open Go.RowKit Go.Shelf
set_option linter.unusedVariables false
set_option linter.unusedSimpArgs false
set_option maxRecDepth 100000
namespace Resp

/-- How many bytes a number has, written to the base 256. -/
def numLen (x : Nat) : Nat := if h : x = 0 then 0 else numLen (x / 256) + 1
termination_by x
decreasing_by omega
theorem numLen_pos {x : Nat} (h : 0 < x) : numLen x = numLen (x / 256) + 1 := by rw [numLen, dif_neg (by omega)]
theorem numLen_zero : numLen 0 = 0 := by rw [numLen, dif_pos rfl]
theorem numLen_le : ∀ (k x : Nat), x < 256 ^ k → numLen x ≤ k
  | 0, x, h => by
    obtain rfl : x = 0 := by simpa using h
    rw [numLen_zero]; exact Nat.le_refl _
  | k + 1, x, h => by
    by_cases h0 : x = 0
    · subst h0; rw [numLen_zero]; omega
    · rw [numLen_pos (by omega)]
      have := numLen_le k (x / 256) (Nat.div_lt_of_lt_mul (by rw [Nat.pow_succ, Nat.mul_comm] at h; exact h))
      omega
def sizeN (x : Nat) : Nat := if x ≤ 246 then 1 else numLen x + 1

theorem Size_any (x : Nat) (hx : x < 18446744073709551616) (w : World) :
    Calls Tryz.prog 239 #[.int .u64 x] w fun e w' => e = .returned (.int .i64 (sizeN x : Nat)) ∧ w = w' := by
  by_cases h : x ≤ 246
  · have hI : (x : Int) ≤ 246 := by omega
    have HS : Hid (sizeN x = 1) := by rw [Hid, sizeN, if_pos h]
    go_enter Tryz.func239, Tryz.ntmps239
    go_wp2
    go_ret
    exact ⟨by rw [HS.out]; rfl, rfl⟩
  · have hI : ¬ (x : Int) ≤ 246 := by omega
    have HS : Hid (sizeN x = numLen x + 1) := by rw [Hid, sizeN, if_neg h]
    go_enter Tryz.func239, Tryz.ntmps239
    go_wp2_with fail
    go_loopw [0, 3] (fun y m wr => ∃ (z c : Nat), y = .int .u64 z ∧ m = .int .i64 c ∧ Hid (c + numLen z = numLen x + 1) ∧ z < 18446744073709551616 ∧ c ≤ 1000 ∧ wr = w) (fun y _ _ => (intOf y).toNat)
    case atStart => exact ⟨x, 1, rfl, rfl, by rw [Hid]; omega, hx, by omega, rfl⟩
    case round =>
      clear hI h
      obtain ⟨z, c, rfl, rfl, HC, hz, hc, rfl⟩ := hrel
      have hl := numLen_le 8 x (by simpa using hx)
      by_cases h0 : z = 0
      · subst h0
        have hc0 : c = numLen x + 1 := by have := HC.out; rw [numLen_zero] at this; omega
        have HC0 := Lib.hid hc0
        clear HC hc0 hl
        go_wp2
        go_ret
        exact ⟨by rw [HS.out, HC0.out]; rfl, rfl⟩
      · have h1 : 0 < z := by omega
        have h1I : (0 : Int) < z := by omega
        have hcc : c + 1 + numLen (z / 256) = numLen x + 1 := by have := HC.out; rw [numLen_pos h1] at this; omega
        have HCC := Lib.hid hcc
        have hc9 : c + 1 ≤ 1000 := by omega
        have hcI : (c : Int) + 1 ≤ 1000 := by omega
        clear HC hcc hl h0
        go_wp2_with fail
        exact ⟨⟨z / 256, c + 1, by simp, by simp, HCC.out, by omega, hc9, trivial⟩, by simp [intOf]; omega⟩

theorem infoByte : (Tryz.prog.info? 5).map (fun i => (i.zero, i.size, i.bytes)) = some (some (.int .u8 0), 1, 1) := by kernel_rfl
theorem sizeN_small {x : Nat} (h : x ≤ 246) : sizeN x = 1 := by rw [sizeN, if_pos h]
theorem ownsRow_form {W : World} {base : Nat} {e : TypeId} {size : Nat} {v : Value} {k : Nat} {xs : List Value} (h : W.ownsRow base e size v k xs) : ∃ a cap, v = .slice a k cap := by
  rcases h.2 with ⟨rfl, rfl⟩ | ⟨g, cap, cur, rfl, _⟩
  · exact ⟨_, _, rfl⟩
  · exact ⟨_, _, rfl⟩

theorem below_alloc_ {a w : World} (h : Below a.heap.size a w) (o : Obj) : Below a.heap.size a (w.alloc o) := h.alloc h.size o
theorem below_drew_ {a w : World} (h : Below a.heap.size a w) : Below a.heap.size a w.drew := ⟨h.os, h.tape, h.output, h.size, h.block⟩
theorem owns_up {a w : World} {base : Nat} {e : TypeId} {size : Nat} {v : Value} {n : Nat} {xs : List Value} (h : a.ownsRow base e size v n xs) (hb : Below a.heap.size a w) : w.ownsRow base e size v n xs := ownsRow_mod (S := fun _ => False) h (Mod.of_same hb) (by simp)
theorem news_one_ {W : World} {b : Nat} {x : Value} (h : W.cell? ⟨b, 0, none⟩ = some x) (j : Nat) (u : Value) (hj : [x][j]? = some u) : W.cell? ((⟨b, 0, none⟩ : Addr).add j) = some u := by
  rcases j with _ | j
  · have e : x = u := by simpa using hj
    subst e
    simpa [Addr.add] using h
  · simp at hj
theorem news_mod_ {S : Nat → Prop} {W W' : World} {B : Nat} {xs : List Value} (hm : Mod S W W') (hB : ¬ S B) (h : ∀ (j : Nat) (u : Value), xs[j]? = some u → W.cell? ((⟨B, 0, none⟩ : Addr).add j) = some u) (j : Nat) (u : Value) (hj : xs[j]? = some u) : W'.cell? ((⟨B, 0, none⟩ : Addr).add j) = some u := by
  refine hm.cell ?_ (h j u hj)
  rcases j with _ | j <;> simpa [Addr.add] using hB
theorem ownBlock_lt_ {W : World} {base : Nat} {e : TypeId} {size : Nat} {v : Value} {k : Nat} {xs : List Value} (h : W.ownsRow base e size v k xs) {g : Nat} (hg : v.ownBlock = some g) : g < W.heap.size := by
  rcases h.2 with ⟨rfl, rfl⟩ | ⟨g', cap, cur, rfl, hb, hgg, rest⟩
  · cases hg
  · cases hg; exact (Array.getElem?_eq_some_iff.1 hgg).1
theorem mod_trans_up_ {S T : Nat → Prop} {a b c : World} (h : Mod S a b) (h' : Mod T b c) (hT : ∀ k, k < a.heap.size → T k → S k) : Mod S a c :=
  ⟨h'.os.trans h.os, h'.tape.trans h.tape, h'.output.trans h.output, Nat.le_trans h.size h'.size, fun k hk hS => (h'.block k (Nat.lt_of_lt_of_le hk h.size) fun hTk => hS (hT k hk hTk)).trans (h.block k hk hS)⟩
theorem Append_small (x : Nat) (hx : x ≤ 246) (base n : Nat) (v : Value) (xs : List Value) (w : World) (hown : w.ownsRow base 5 1 v n xs) (hn : n ≤ 1048576) (hbase : base ≤ w.heap.size) :
    Calls Tryz.prog 197 #[v, .int .u64 x] w fun e w' => ∃ v', e = .returned v' ∧ w'.ownsRow base 5 1 v' (n + 1) (xs ++ [.int .u8 x]) ∧ Mod (fun k => some k = v.ownBlock) w w' := by
  obtain ⟨i0, hi, hz0, hz1, hz2⟩ := info_parts infoByte
  obtain ⟨a, c, e⟩ := ownsRow_form hown
  subst e
  have hxI : (x : Int) ≤ 246 := by omega
  go_enter Tryz.func197, Tryz.ntmps197
  go_wp2_with fail
  refine (Size_any x (by omega) _).mono ?_; rintro e w' ⟨rfl, rfl⟩; rw [sizeN_small hx]
  go_wp2_with (at_builtin; refine wpList_append_own _ rfl _ _ 25 rfl base 5 i0 (.int .u8 0) 1 1 Tryz.underlying25 hi hz0 hz1 hz2 rfl (by decide) _ _ _ rfl (hown.alloc _) ⟨w.heap.size, 0, none⟩ 1 1 [.int .u8 (x : Int)] rfl rfl (cell_one_new _ _ _) (by simp [Value.oneCell']) (by unfold maxLen; omega) (by omega) (by simp; omega) ?_; intro v' w3 hown' hgrow _)
  have hg2 : (w.alloc (.cells #[.int .u8 (x : Int)] 5)).grownBy w3 (Value.slice a n c).ownBlock := hgrow
  go_ret
  exact ⟨v', rfl, hown', ((Mod.refl _ w).alloc _).trans ((Mod.of_grownBy hg2).mono fun k _ e => e)⟩

/-- The array of digits when those from k on are written. -/
def digs (x L k : Nat) : Array Value := ((List.range 8).map fun j => Value.int .u8 (if k ≤ j ∧ j < L then ((x / 256 ^ (L - 1 - j) % 256 : Nat) : Int) else 0)).toArray
theorem digs_none (x L : Nat) : digs x L L = #[.int .u8 0, .int .u8 0, .int .u8 0, .int .u8 0, .int .u8 0, .int .u8 0, .int .u8 0, .int .u8 0] := by
  have h : ∀ j, ¬ (L ≤ j ∧ j < L) := fun j h => by omega
  simp [digs, h, List.range, List.range.loop]
theorem digs_size (x L k : Nat) : (digs x L k).size = 8 := by simp [digs]
theorem digs_at {x L k j : Nat} (hj : j < 8) : (digs x L k)[j]? = some (.int .u8 (if k ≤ j ∧ j < L then ((x / 256 ^ (L - 1 - j) % 256 : Nat) : Int) else 0)) := by simp [digs, hj]
theorem digs_set {x L k : Nat} (hk : k < L) (hL : L ≤ 8) : (digs x L (k + 1)).setIfInBounds k (.int .u8 ((x / 256 ^ (L - 1 - k) % 256 : Nat) : Int)) = digs x L k := by
  apply Array.ext_getElem?
  intro j
  rw [Array.getElem?_setIfInBounds]
  by_cases hj : j < 8
  · rw [digs_at hj, digs_at hj]
    by_cases e : k = j
    · subst e
      rw [if_pos rfl, if_pos (by rw [digs_size]; omega), if_pos ⟨Nat.le_refl _, hk⟩]
    · rw [if_neg e]
      by_cases h : k ≤ j ∧ j < L
      · rw [if_pos h, if_pos (by omega)]
      · rw [if_neg h, if_neg (by omega)]
  · rw [Array.getElem?_eq_none (by rw [digs_size]; omega), Array.getElem?_eq_none (by rw [digs_size]; omega)]
    split
    · split
      · rw [digs_size] at *; omega
      · rfl
    · rfl
def DigsAt (W : World) (B x L k : Nat) : Prop := W.heap[B]? = some (.cells (digs x L k) 370 (0, 0))
theorem DigsAt.cell {W : World} {B x L k j : Nat} (h : DigsAt W B x L k) (hj : j < 8) : W.cell? ⟨B, j, none⟩ = some (.int .u8 (if k ≤ j ∧ j < L then ((x / 256 ^ (L - 1 - j) % 256 : Nat) : Int) else 0)) := by
  simp only [World.cell?, show W.heap[B]? = _ from h]
  simpa using digs_at hj
theorem DigsAt.frozen {W : World} {B x L k : Nat} (h : DigsAt W B x L k) (j : Nat) : W.frozen? ⟨B, j, none⟩ = false := by simp [World.frozen?, show W.heap[B]? = _ from h]
theorem DigsAt.set {W : World} {B x L k : Nat} (h : DigsAt W B x L (k + 1)) (hk : k < L) (hL : L ≤ 8) : DigsAt (W.setCell ⟨B, k, none⟩ (.int .u8 ((x / 256 ^ (L - 1 - k) % 256 : Nat) : Int))) B x L k := by
  obtain ⟨hlt, he⟩ := Array.getElem?_eq_some_iff.1 h
  show (W.heap.modify B _)[B]? = _
  rw [Array.getElem?_eq_getElem (by rw [Array.size_modify]; exact hlt), Array.getElem_modify_self, he, ← digs_set hk hL]
  rfl

set_option maxHeartbeats 2000000 in
theorem Append_big (x : Nat) (hx0 : 246 < x) (hx : x < 18446744073709551616) (base n : Nat) (v : Value) (xs : List Value) (w : World) (hown : w.ownsRow base 5 1 v n xs) (hn : n ≤ 1048576) (hbase : base ≤ w.heap.size) :
    Calls Tryz.prog 197 #[v, .int .u64 x] w fun e w' => ∃ v', e = .returned v' ∧ w'.ownsRow base 5 1 v' (n + (numLen x + 1)) (xs ++ (.int .u8 ((246 + numLen x : Nat) : Int) :: (List.range (numLen x)).map fun j => .int .u8 ((x / 256 ^ (numLen x - 1 - j) % 256 : Nat) : Int))) ∧ Mod (fun k => some k = v.ownBlock) w w' := by
  obtain ⟨i0, hi, hz0, hz1, hz2⟩ := info_parts infoByte
  obtain ⟨a, c, e⟩ := ownsRow_form hown
  subst e
  have hsz : sizeN x = numLen x + 1 := by rw [sizeN, if_neg (by omega)]
  have hL8 := numLen_le 8 x (by simpa using hx)
  have hL1 : 0 < numLen x := by rw [numLen_pos (by omega)]; omega
  go_enter Tryz.func197, Tryz.ntmps197
  go_wp2_with fail
  refine (Size_any x hx _).mono ?_; rintro e w' ⟨rfl, rfl⟩; rw [hsz]
  generalize hLx : numLen x = L at *
  have HLX := Lib.hid hLx
  clear hLx
  have hL8I : (L : Int) ≤ 8 := by omega
  have hL1I : (1 : Int) ≤ L := by omega
  go_wp2_with fail
  have hD0 : DigsAt (w.alloc (.cells #[.int .u8 0, .int .u8 0, .int .u8 0, .int .u8 0, .int .u8 0, .int .u8 0, .int .u8 0, .int .u8 0] 370)) w.heap.size x L L := by
    rw [DigsAt, digs_none]; exact World.alloc_heap_new w _
  have hb0 : Below w.heap.size w (w.alloc (.cells #[.int .u8 0, .int .u8 0, .int .u8 0, .int .u8 0, .int .u8 0, .int .u8 0, .int .u8 0, .int .u8 0] 370)) := (Below.refl _ _).alloc (Nat.le_refl _) _
  generalize w.alloc (.cells #[.int .u8 0, .int .u8 0, .int .u8 0, .int .u8 0, .int .u8 0, .int .u8 0, .int .u8 0, .int .u8 0] 370) = W0 at *
  have HO := Lib.hid hown
  clear hown
  go_loopw [7, 1] (fun i y wr => ∃ (k z : Nat), k ≤ L ∧ i = .int .i64 ((k : Int) - 1) ∧ y = .int .u64 z ∧ Hid (z = x / 256 ^ (L - k)) ∧ DigsAt wr w.heap.size x L k ∧ Below w.heap.size w wr) (fun i _ _ => (intOf i + 1).toNat)
  case atStart => exact ⟨L, x, Nat.le_refl _, by congr 1; omega, rfl, by rw [Hid, Nat.sub_self, Nat.pow_zero, Nat.div_one], hD0, hb0⟩
  case round =>
    clear hD0 hb0
    obtain ⟨k, z, hk, rfl, rfl, HZ, hD, hb⟩ := hrel
    obtain ⟨wo, rfl⟩ : ∃ wo : World, wo = wr := ⟨_, rfl⟩
    cases k with
    | zero =>
      have hO2 := ownsRow_mod (S := fun _ => False) HO.out (Mod.of_same hb) (by simp)
      have hnews : ∀ (j : Nat) (u : Value), ((List.range L).map fun j => Value.int .u8 ((x / 256 ^ (L - 1 - j) % 256 : Nat) : Int))[j]? = some u → wo.cell? ((⟨w.heap.size, 0, none⟩ : Addr).add j) = some u := by
        intro j u hu
        have hj : j < L := by
          rcases Nat.lt_or_ge j L with h | h
          · exact h
          · rw [List.getElem?_eq_none (by simpa using h)] at hu; cases hu
        have hc := hD.cell (show j < 8 by omega)
        rw [if_pos ⟨Nat.zero_le _, hj⟩] at hc
        have e : Value.int .u8 ((x / 256 ^ (L - 1 - j) % 256 : Nat) : Int) = u := by simpa [hj] using hu
        rw [← e]
        rcases j with _ | j <;> simpa [Addr.add] using hc
      have HN := Lib.hid hnews
      have HO2 := Lib.hid hO2
      have hzb := hb.size
      have HB := Lib.hid hb
      have HNE : Hid (¬ some w.heap.size = (Value.slice a n c).ownBlock) := fun e => Nat.lt_irrefl _ (ownBlock_lt_ HO.out e.symm)
      have HC1 : Hid (∀ u ∈ (List.range L).map fun j => Value.int .u8 ((x / 256 ^ (L - 1 - j) % 256 : Nat) : Int), u.oneCell' = true) := by
        intro u hu
        obtain ⟨j, _, rfl⟩ := List.mem_map.1 hu
        rfl
      have hHs := Lib.hid ((Array.getElem?_eq_some_iff.1 hD).1)
      clear hD hnews hO2 hb HO HZ
      have hw1 : IntKind.i64.wrap (246 + ((L : Int) + 1)) = 246 + ((L : Int) + 1) := IntWalk.i64_in _ (by omega)
      have hw2 : IntKind.i64.wrap (246 + ((L : Int) + 1) - 1) = 246 + (L : Int) := by rw [IntWalk.i64_in _ (by omega)]; omega
      have hw3 : IntKind.u8.wrap (246 + (L : Int)) = 246 + (L : Int) := by rw [IntKind.wrap_u8]; omega
      have hw4 : IntKind.i64.wrap (L : Int) = (L : Int) := IntWalk.i64_in _ (by omega)
      have hL0I : (0 : Int) ≤ (L : Int) := by omega
      go_wp2_with fail
      go_region_held3? (fun _ => True) (trivial)
        ((first
          | (refine step_append_lies _ (by rfl) _ _ _ (by rfl) base 5 i0 _ 1 1 Tryz.underlying25 hi hz0 hz1 hz2 rfl (by omega) (.slice a n c) n xs (by rfl) (owns_up HO2.out (by repeat (first | exact Below.refl _ _ | refine below_alloc_ ?_ _ | refine below_drew_ ?_))) _ 1 1 [.int .u8 (246 + (L : Int))] (by rfl) (by rfl) (news_one_ (by simp)) (by simp [Value.oneCell']) (by omega) (by unfold maxLen; omega) (by omega) (by simp; try omega) _ (by rfl) ?_; intro g1 c1 w1 hown1 hgrow1 hat1 hlt1; have HO1 := Lib.hid hown1; have HG1 := Lib.hid hgrow1; have HA1 := Lib.hid hat1; clear hown1 hgrow1 hat1)
          | (refine step_append_lies _ (by rfl) _ _ _ (by rfl) base 5 i0 _ 1 1 Tryz.underlying25 hi hz0 hz1 hz2 rfl (by omega) (.slice (some ⟨g1, 0, none⟩) (n + 1) c1) (n + 1) (xs ++ [.int .u8 (246 + (L : Int))]) (by rfl) HO1.out ⟨w.heap.size, 0, none⟩ L 8 ((List.range L).map fun j => Value.int .u8 ((x / 256 ^ (L - 1 - j) % 256 : Nat) : Int)) (by rfl) (by simp) (news_mod_ (S := fun k => some k = (Value.slice a n c).ownBlock) ((Mod.of_same (by repeat (first | exact Below.refl _ _ | refine below_alloc_ ?_ _ | refine below_drew_ ?_))).trans (Mod.of_grownBy HG1.out)) HNE.out HN.out) HC1.out (by omega) (by unfold maxLen; omega) (by omega) (by have := HG1.out.size; simp at this; omega) _ (by rfl) ?_; intro g2 c2 w2 hown2 hgrow2 hat2 hlt2)))
      have hS : w.heap.size ≤ w1.heap.size := by have := HG1.out.size; simp at this; omega
      have hm1 : Mod (fun k => some k = (Value.slice a n c).ownBlock) w w1 := (Mod.of_same HB.out).trans ((Mod.of_same (by repeat (first | exact Below.refl _ _ | refine below_alloc_ ?_ _ | refine below_drew_ ?_))).trans (Mod.of_grownBy HG1.out))
      have hm2 := mod_trans_up_ hm1 (Mod.of_grownBy hgrow2) (fun k hk e => by
        rcases HA1.out with h | h
        · exact e.trans h.symm
        · have e2 : k = g1 := by simpa [Value.ownBlock] using e
          rw [e2, h] at hk
          simp at hk
          omega)
      go_wp2_with fail
      go_ret
      rw [HLX.out]
      refine ⟨_, rfl, ?_, hm2⟩
      rw [show n + (L + 1) = n + 1 + L by omega, show xs ++ (Value.int .u8 ((246 + L : Nat) : Int) :: (List.range L).map fun j => Value.int .u8 ((x / 256 ^ (L - 1 - j) % 256 : Nat) : Int)) = xs ++ [.int .u8 (246 + (L : Int))] ++ (List.range L).map fun j => Value.int .u8 ((x / 256 ^ (L - 1 - j) % 256 : Nat) : Int) by simp]
      exact hown2
    | succ k =>
      have hk8 : k < 8 := by omega
      have d0 := hD.cell hk8
      have df := hD.frozen k
      have hz : (z % 256 : Nat) = x / 256 ^ (L - 1 - k) % 256 := by rw [HZ.out, show L - (k + 1) = L - 1 - k by omega]
      have hnx := hD.set (by omega) (by omega)
      rw [← hz] at hnx
      have HNX := Lib.hid hnx
      have hkI : (k : Int) < 8 := by omega
      clear hnx hz
      go_wp2_with fail
      refine ⟨⟨k, z / 256, by omega, rfl, by simp, ?_, by simpa using HNX.out, hb.setCell (p := ⟨w.heap.size, k, none⟩) (Nat.le_refl _) _⟩, by simp [intOf]⟩
      rw [Hid, HZ.out, Nat.div_div_eq_div_mul, ← Nat.pow_succ, show (L - (k + 1)).succ = L - k by omega]
end Resp
end Go.Proofs.YtdfmgneicdpjmaaGreat
