/- The law SlotsSmall: with New's contract. -/
import Derived.Test.YtpcbmckknafdgaaSlotZE
import Derived.Test.YtpcbmckknafdgaaSlotZJ
namespace Go.Proofs.Ytpcbmckknafdgaa
open Go.RowKit Go.Shelf
namespace Slot
theorem lawSmall (w : World) : Calls Try.prog 4 #[] w fun e w' => e = .returned (.bool true) ∧ Below w.heap.size w w' := SlotsSmall_any newOk w
end Slot
end Go.Proofs.Ytpcbmckknafdgaa
