import Derived.Test.YtdfmgneicdpjmaaGreatW43
import Derived.Deep.RegionHeld3
import Derived.Deep.QuietTactic
import Derived.BigQuiet
namespace Go.Proofs.YtdfmgneicdpjmaaGreat
open Go.RowKit Go.Shelf
set_option linter.unusedVariables false
set_option linter.unusedSimpArgs false
set_option maxRecDepth 100000
namespace View
open Resp
theorem news_four_ {W : World} {b : Nat} {x0 x1 x2 x3 : Value} (h0 : W.cell? ⟨b, 0, none⟩ = some x0) (h1 : W.cell? ⟨b, 1, none⟩ = some x1) (h2 : W.cell? ⟨b, 2, none⟩ = some x2) (h3 : W.cell? ⟨b, 3, none⟩ = some x3) (j : Nat) (u : Value) (hj : [x0, x1, x2, x3][j]? = some u) : W.cell? ((⟨b, 0, none⟩ : Addr).add j) = some u := by
 rcases j with _ | _ | _ | _ | j
 · simp at hj; subst hj; simpa [Addr.add] using h0
 · simp at hj; subst hj; simpa [Addr.add] using h1
 · simp at hj; subst hj; simpa [Addr.add] using h2
 · simp at hj; subst hj; simpa [Addr.add] using h3
 · simp at hj
end View
end Go.Proofs.YtdfmgneicdpjmaaGreat

namespace Go.Proofs.YtdfmgneicdpjmaaGreat
open Go.RowKit Go.Shelf
set_option linter.unusedVariables false
set_option linter.unusedSimpArgs false
set_option maxRecDepth 100000
namespace View
open Resp
theorem Grown.row {W : World} {base : Nat} {v : Value} {l : List (Ent × Value)} (h : Grown W base v l) : ORow ⟨38, 4, entC, Ent.bytes⟩ W base v l := h
end View
end Go.Proofs.YtdfmgneicdpjmaaGreat

namespace Go.Proofs.YtdfmgneicdpjmaaGreat
open Go.RowKit Go.Shelf
set_option linter.unusedVariables false
set_option linter.unusedSimpArgs false
set_option maxRecDepth 100000
namespace View
open Resp
theorem movO_len : ∀ l : List ((Bool × ByteArray) × Value), (movO.flat l).length = l.length * 2
 | [] => rfl
 | x :: t => by
   have := movO_len t
   simp only [Sh.flat, movO, List.flatMap_cons, List.length_append, List.length_cons, List.length_nil] at this ⊢
   rw [this]; omega
theorem movO_split {l : List ((Bool × ByteArray) × Value)} {i : Nat} (hi : i < l.length) : movO.flat l = movO.flat (l.take i) ++ ([.bool l[i].1.1, l[i].2] ++ movO.flat (l.drop (i + 1))) := by
 have h0 : l = l.take i ++ ([(l[i].1, l[i].2)] ++ l.drop (i + 1)) := by
   have h := List.take_append_drop i l
   rw [← List.getElem_cons_drop hi] at h
   exact h.symm
 have h1 := congrArg movO.flat h0
 simp only [Sh.flat, movO, List.flatMap_append, List.flatMap_cons, List.flatMap_nil, List.append_nil] at h1 ⊢
 exact h1
theorem movO_at {l : List ((Bool × ByteArray) × Value)} {i j : Nat} (hi : i < l.length) (hj : j < 2) : (movO.flat l)[i * 2 + j]? = ([.bool l[i].1.1, l[i].2] : List Value)[j]? := by
 have hlen : (movO.flat (l.take i)).length = i * 2 := by rw [movO_len, List.length_take_of_le (by omega)]
 rw [movO_split hi, List.getElem?_append_right (by omega), hlen, Nat.add_sub_cancel_left, List.getElem?_append_left (by simp; omega)]
def MvsAt (W : World) (a : Option Addr) (n : Nat) (ms : List (Bool × ByteArray)) : Prop := ms.length = n ∧ ∀ i m, ms[i]? = some m → ∃ b o v, a = some ⟨b, o, none⟩ ∧ W.cell? ⟨b, o + i * 2, none⟩ = some (.bool m.1) ∧ W.cell? ⟨b, o + i * 2 + 1, none⟩ = some v ∧ StrAt W v m.2
theorem MvsAt.at_ {W : World} {a : Option Addr} {n : Nat} {ms : List (Bool × ByteArray)} (h : MvsAt W a n ms) {i : Nat} (hi : i < ms.length) : ∃ b o v sa sc, a = some ⟨b, o, none⟩ ∧ b < W.heap.size ∧ W.cell? ⟨b, o + i * 2, none⟩ = some (.bool ms[i].1) ∧ W.cell? ⟨b, o + i * 2 + 1, none⟩ = some v ∧ StrAt W v ms[i].2 ∧ v = .slice sa ms[i].2.size sc := by
 obtain ⟨b, o, v, e, h0, h1, h2⟩ := h.2 i _ (List.getElem?_eq_getElem hi)
 obtain ⟨sa, sc, e2⟩ := h2.form
 exact ⟨b, o, v, sa, sc, e, World.block_lt_of_cell? W _ h0, h0, h1, h2, e2⟩
end View
end Go.Proofs.YtdfmgneicdpjmaaGreat
