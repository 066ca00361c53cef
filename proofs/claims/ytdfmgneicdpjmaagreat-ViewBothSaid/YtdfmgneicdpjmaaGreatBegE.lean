/- A list of lists of bytes that came as an argument. -/
import Derived.Test.YtdfmgneicdpjmaaGreatBegD
import Derived.Deep.Matrix
namespace Go.Proofs.YtdfmgneicdpjmaaGreat
open Go.RowKit Go.Shelf Go.ChangeShapes Go.WideShapes
set_option linter.unusedVariables false
set_option linter.unusedSimpArgs false
set_option maxRecDepth 100000
namespace Resp

theorem open_rowsB {H : Type} {enc : TypeId × Value → H} {W : World} {base fuel : Nat} {held : Bool} {a : Option Addr} {n c : Nat} {x : DataW H × List MemPlace}
    (h : DataW.trod enc Tryz.prog W base (fun _ => true) held fuel 22 [.slice a n c] = some x) : ∃ ss, RowsAt W a n ss ∧ n ≤ c ∧ c ≤ maxLen := by
  rcases Go.Deep.open_int_rows Tryz.underlying22 Tryz.underlying25 Tryz.underlying5 (by kernel_rfl) (by kernel_rfl) h with ⟨hcs, _⟩ | ⟨a', len, cap, A, L, C, Z, hcs, _, hl, hm, _, hr⟩
  · simp at hcs
    obtain ⟨rfl, rfl, rfl⟩ := hcs
    exact ⟨[], ⟨rfl, fun i u hu => by simp at hu⟩, Nat.le_refl _, Nat.zero_le _⟩
  · simp at hcs
    obtain ⟨rfl, rfl, rfl⟩ := hcs
    refine ⟨(List.range n).map fun i => strOfNums ((Z i).take (L i)), ⟨by simp, fun i u hu => ?_⟩, hl, hm⟩
    have hi : i < n := by
      have := (List.getElem?_eq_some_iff.1 hu).1
      simpa using this
    rw [List.getElem?_map, List.getElem?_range hi] at hu
    injection hu with hu
    subst hu
    obtain ⟨hc, r1, r2, r3, r4, r5, r6⟩ := hr i (by omega)
    obtain ⟨b, o, spot⟩ := a'
    have hspot : spot = none := by simpa [Addr.add] using World.cell?_spot (hr 0 (by omega)).1
    subst hspot
    have hadd : (⟨b, o, none⟩ : Addr).add i = ⟨b, o + i, none⟩ := by unfold Addr.add; split <;> simp_all
    rw [hadd] at hc
    have hrow : IsRow .u8 W (A i) (L i) (C i) (Z i) := by
      cases hA : A i with
      | none =>
        have h0 := r5 hA
        refine .inl ⟨rfl, by omega, h0, List.length_eq_zero_iff.1 (by omega)⟩
      | some p => exact .inr ⟨p, rfl, r1, r2, r3, fun j hj => (r6 p hA).2 j (by omega), r4⟩
    exact ⟨b, o, _, rfl, hc, _, hrow.reads.1, rfl⟩
theorem lawBegins0 (W : World) (a1 : Option Addr) (n c1 : Nat) (xs : List ByteArray) (h1 : RowsAt W a1 n xs) (y1 : n ≤ c1) (x1 : c1 ≤ maxLen) (a2 : Option Addr) (m c2 : Nat) (ys : List ByteArray) (h2 : RowsAt W a2 m ys) (y2 : m ≤ c2) (x2 : c2 ≤ maxLen) :
    Calls Tryz.prog 3 #[.slice a1 n c1, .slice a2 m c2] W fun e w' => e = .returned (.bool true) ∧ Below W.heap.size W w' :=
  lawBegins a1 a2 n m c1 c2 xs ys W h1 h2 (Nat.le_trans y1 x1) (Nat.le_trans y2 x2) y2 x2
end Resp
end Go.Proofs.YtdfmgneicdpjmaaGreat
