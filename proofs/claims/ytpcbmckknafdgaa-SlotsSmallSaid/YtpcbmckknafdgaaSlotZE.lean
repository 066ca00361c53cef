/- The law SlotsTells: the walk, with New's contract. -/
import Derived.Test.YtpcbmckknafdgaaSlotZD
import Derived.Test.YtpcbmckknafdgaaSlotNew
namespace Go.Proofs.Ytpcbmckknafdgaa
open Go.RowKit Go.Shelf Go.ChangeShapes Go.WideShapes
namespace Slot
theorem newOk : NewOk := fun n k w hn => NewR_any n k w hn
theorem lawTells (w : World) (x : Int) (hx : (Lit.int .i64 x).wf = true) (k : Int) (hk : (Lit.int .i64 k).wf = true) (a : Option Addr) (len cap : Nat) (l : List ActV) (h : ActsAt w.heap.size w a len l ∧ len ≤ cap ∧ cap ≤ maxLen) :
    Calls Try.prog 3 #[.int .i64 x, .int .i64 k, .slice a len cap] w fun e w' => e = .returned (.bool true) ∧ Below w.heap.size w w' := SlotsTells_any newOk x hx k hk a len cap l w h
end Slot
end Go.Proofs.Ytpcbmckknafdgaa
