import Derived.Test.YtdfmgneicdpjmaaGreatW41
import Derived.Deep.AppendLies
namespace Go.Proofs.YtdfmgneicdpjmaaGreat
open Go.RowKit Go.Shelf
set_option linter.unusedVariables false
set_option linter.unusedSimpArgs false
set_option maxRecDepth 100000
namespace View
open Resp
structure Sh (α : Type) where
 T : TypeId
 size : Nat
 cells : α → Value → List Value
 byt : α → ByteArray
def Sh.flat {α : Type} (K : Sh α) (l : List (α × Value)) : List Value := l.flatMap fun x => K.cells x.1 x.2
theorem Sh.flat_push {α : Type} (K : Sh α) (l : List (α × Value)) (e : α) (v : Value) : K.flat (l ++ [(e, v)]) = K.flat l ++ K.cells e v := by simp [Sh.flat]
def bytSh : Sh ByteArray := ⟨25, 1, fun _ v => [v], id⟩
def framesL (slot : Int) (es : List Ent) : List ByteArray := (es.filter (ownB slot)).map Ent.bytes
end View
end Go.Proofs.YtdfmgneicdpjmaaGreat

namespace Go.Proofs.YtdfmgneicdpjmaaGreat
open Go.RowKit Go.Shelf
set_option linter.unusedVariables false
set_option linter.unusedSimpArgs false
set_option maxRecDepth 100000
namespace View
open Resp
end View
end Go.Proofs.YtdfmgneicdpjmaaGreat

namespace Go.Proofs.YtdfmgneicdpjmaaGreat
open Go.RowKit Go.Shelf
set_option linter.unusedVariables false
set_option linter.unusedSimpArgs false
set_option maxRecDepth 100000
namespace View
open Resp
def mvStep (n slot : Int) (s : Nat × List (Bool × ByteArray)) (e : Ent) : Nat × List (Bool × ByteArray) :=
 (if tickB e then s.1 + 1 else s.1, if ownB slot e then s.2 ++ [(false, e.bytes)] else if tickB e && decide ((s.1 : Int) % n = slot) then s.2 ++ [(true, ByteArray.empty)] else s.2)
def mv (n slot : Int) (es : List Ent) : Nat × List (Bool × ByteArray) := es.foldl (mvStep n slot) (0, [])
theorem mv_take {n slot : Int} {es : List Ent} {k : Nat} (hk : k < es.length) : mv n slot (es.take (k + 1)) = mvStep n slot (mv n slot (es.take k)) es[k] := by
 unfold mv
 rw [List.take_succ_eq_append_getElem hk, List.foldl_append]
 rfl
theorem ScrAt.take {W : World} {a : Option Addr} {n : Nat} {es : List Ent} (h : ScrAt W a n es) {k : Nat} (hk : k ≤ n) : ScrAt W a k (es.take k) :=
 ⟨by rw [List.length_take, h.1]; omega, fun i u hu => h.2 i u (by
   rw [List.getElem?_take] at hu
   split at hu
   · exact hu
   · cases hu)⟩
end View
end Go.Proofs.YtdfmgneicdpjmaaGreat
