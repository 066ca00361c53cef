/-
  No cell of these rows narrows 'for every input' (looked for: loops, veiled, ifaces, maps, wideKeys, modest, calm, conditions, laid).
  DERIVED. THE GIVEN ROWS OF THIS SEAT. 8 by the template 'for every input the law returns true; each argument reads behind the call as it read before'; 0 by the template 'total and deterministic' (their statements: YtpcbmckknafdgaaTotals.lean).
  GIVEN WITH THE SEED: the statements are not yours to turn. If you find one false, say at which input.
  Laid BY PROGRAM, IN A SANDBOX (cutbox-rows.mjs): the forced cells as the released guide's own fill.sh prints them over the translation b399920c636495e7… (all of the seat's roots in one cut). By AI agents, Wed Nov 11 2026. No macro, syntax, notation, axiom, sorry.
-/
import Derived.Test.YtpcbmckknafdgaaChecked
import GoSem.Claim
import GoSem.ClaimJoined
import GoSem.ClaimMapViews
import Derived.JoinedTies
import Derived.KernelRfl
namespace Go.Proofs.Ytpcbmckknafdgaa
/- THE CELL 'sum', in the pinned program and in every row, IS THE sha256 OF THE DUMP (.gsa) THAT YtpcbmckknafdgaaProg.lean LOADS. Nothing in Lean hashes anything: it is a label: what it is worth is what the hold of that sum in a sandbox is worth. -/
noncomputable def Try.pinned : Pinned := { name := "ytpcbmckknafdgaa", sum := "b399920c636495e7d4d203d924efcf8533815c49fabcc68b92efee621aed2fe4", checked := Try.checked }
namespace Rows
def none {H : Type} : Left H := { results := [], args := [] }

/-- 'fermatalaw09.SlotsTells': WHATEVER THE INPUT: true; the input reads as it did. -/
def slotsTellsSpec : ChangeSpec := { name := "slotsTells", fn := fun _ => fun
  | [d1, d2, d3] => { results := [.lit (.bool true)], args := [d1, d2, d3] }
  | _ => none }
def slotsTellsRow : OpenClaim := { program := "ytpcbmckknafdgaa", sum := "b399920c636495e7d4d203d924efcf8533815c49fabcc68b92efee621aed2fe4", func := "fermata/fermatalaw09.SlotsTells", spec := "slotsTells", unfollowed := true, recurses := true, plainKeys := false, apart := false }
def SlotsTellsSaid : Prop := slotsTellsRow.holds Try.pinned (OpenSpec.ofChange slotsTellsSpec)

/-- ITS FALSE NEIGHBOUR: 'it returns false'. Refute it at one input. -/
def slotsTellsWrong : ChangeSpec := { name := "slotsTells", fn := fun _ => fun
  | [d1, d2, d3] => { results := [.lit (.bool false)], args := [d1, d2, d3] }
  | _ => none }
def SlotsTellsWrongFalsely : Prop := slotsTellsRow.holds Try.pinned (OpenSpec.ofChange slotsTellsWrong)

/-- 'fermatalaw09.SlotsSmall': WHATEVER THE INPUT: true; the input reads as it did. -/
def slotsSmallSpec : ChangeSpec := { name := "slotsSmall", fn := fun _ => fun
  | [] => { results := [.lit (.bool true)], args := [] }
  | _ => none }
def slotsSmallRow : OpenClaim := { program := "ytpcbmckknafdgaa", sum := "b399920c636495e7d4d203d924efcf8533815c49fabcc68b92efee621aed2fe4", func := "fermata/fermatalaw09.SlotsSmall", spec := "slotsSmall", unfollowed := true, recurses := true, plainKeys := false, apart := false }
def SlotsSmallSaid : Prop := slotsSmallRow.holds Try.pinned (OpenSpec.ofChange slotsSmallSpec)

/-- ITS FALSE NEIGHBOUR: 'it returns false'. Refute it at one input. -/
def slotsSmallWrong : ChangeSpec := { name := "slotsSmall", fn := fun _ => fun
  | [] => { results := [.lit (.bool false)], args := [] }
  | _ => none }
def SlotsSmallWrongFalsely : Prop := slotsSmallRow.holds Try.pinned (OpenSpec.ofChange slotsSmallWrong)

/-- 'fermatalaw09.SlotsOne': WHATEVER THE INPUT: true; the input reads as it did. -/
def slotsOneSpec : ChangeSpec := { name := "slotsOne", fn := fun _ => fun
  | [d1, d2, d3] => { results := [.lit (.bool true)], args := [d1, d2, d3] }
  | _ => none }
def slotsOneRow : OpenClaim := { program := "ytpcbmckknafdgaa", sum := "b399920c636495e7d4d203d924efcf8533815c49fabcc68b92efee621aed2fe4", func := "fermata/fermatalaw09.SlotsOne", spec := "slotsOne", unfollowed := true, recurses := true, plainKeys := false, apart := false }
def SlotsOneSaid : Prop := slotsOneRow.holds Try.pinned (OpenSpec.ofChange slotsOneSpec)

/-- ITS FALSE NEIGHBOUR: 'it returns false'. Refute it at one input. -/
def slotsOneWrong : ChangeSpec := { name := "slotsOne", fn := fun _ => fun
  | [d1, d2, d3] => { results := [.lit (.bool false)], args := [d1, d2, d3] }
  | _ => none }
def SlotsOneWrongFalsely : Prop := slotsOneRow.holds Try.pinned (OpenSpec.ofChange slotsOneWrong)

/-- 'fermatalaw09.SlotsLast': WHATEVER THE INPUT: true; the input reads as it did. -/
def slotsLastSpec : ChangeSpec := { name := "slotsLast", fn := fun _ => fun
  | [d1, d2, d3] => { results := [.lit (.bool true)], args := [d1, d2, d3] }
  | _ => none }
def slotsLastRow : OpenClaim := { program := "ytpcbmckknafdgaa", sum := "b399920c636495e7d4d203d924efcf8533815c49fabcc68b92efee621aed2fe4", func := "fermata/fermatalaw09.SlotsLast", spec := "slotsLast", unfollowed := true, recurses := true, plainKeys := false, apart := false }
def SlotsLastSaid : Prop := slotsLastRow.holds Try.pinned (OpenSpec.ofChange slotsLastSpec)

/-- ITS FALSE NEIGHBOUR: 'it returns false'. Refute it at one input. -/
def slotsLastWrong : ChangeSpec := { name := "slotsLast", fn := fun _ => fun
  | [d1, d2, d3] => { results := [.lit (.bool false)], args := [d1, d2, d3] }
  | _ => none }
def SlotsLastWrongFalsely : Prop := slotsLastRow.holds Try.pinned (OpenSpec.ofChange slotsLastWrong)

/-- 'fermatalaw09.SlotsLives': WHATEVER THE INPUT: true; the input reads as it did. -/
def slotsLivesSpec : ChangeSpec := { name := "slotsLives", fn := fun _ => fun
  | [d1, d2, d3] => { results := [.lit (.bool true)], args := [d1, d2, d3] }
  | _ => none }
def slotsLivesRow : OpenClaim := { program := "ytpcbmckknafdgaa", sum := "b399920c636495e7d4d203d924efcf8533815c49fabcc68b92efee621aed2fe4", func := "fermata/fermatalaw09.SlotsLives", spec := "slotsLives", unfollowed := true, recurses := true, plainKeys := false, apart := false }
def SlotsLivesSaid : Prop := slotsLivesRow.holds Try.pinned (OpenSpec.ofChange slotsLivesSpec)

/-- ITS FALSE NEIGHBOUR: 'it returns false'. Refute it at one input. -/
def slotsLivesWrong : ChangeSpec := { name := "slotsLives", fn := fun _ => fun
  | [d1, d2, d3] => { results := [.lit (.bool false)], args := [d1, d2, d3] }
  | _ => none }
def SlotsLivesWrongFalsely : Prop := slotsLivesRow.holds Try.pinned (OpenSpec.ofChange slotsLivesWrong)

/-- 'fermatalaw09.SlotsApart': WHATEVER THE INPUT: true; the input reads as it did. -/
def slotsApartSpec : ChangeSpec := { name := "slotsApart", fn := fun _ => fun
  | [d1, d2, d3, d4] => { results := [.lit (.bool true)], args := [d1, d2, d3, d4] }
  | _ => none }
def slotsApartRow : OpenClaim := { program := "ytpcbmckknafdgaa", sum := "b399920c636495e7d4d203d924efcf8533815c49fabcc68b92efee621aed2fe4", func := "fermata/fermatalaw09.SlotsApart", spec := "slotsApart", unfollowed := true, recurses := true, plainKeys := false, apart := false }
def SlotsApartSaid : Prop := slotsApartRow.holds Try.pinned (OpenSpec.ofChange slotsApartSpec)

/-- ITS FALSE NEIGHBOUR: 'it returns false'. Refute it at one input. -/
def slotsApartWrong : ChangeSpec := { name := "slotsApart", fn := fun _ => fun
  | [d1, d2, d3, d4] => { results := [.lit (.bool false)], args := [d1, d2, d3, d4] }
  | _ => none }
def SlotsApartWrongFalsely : Prop := slotsApartRow.holds Try.pinned (OpenSpec.ofChange slotsApartWrong)

/-- 'fermatalaw09.SlotsWrong': WHATEVER THE INPUT: true; the input reads as it did. -/
def slotsWrongSpec : ChangeSpec := { name := "slotsWrong", fn := fun _ => fun
  | [d1, d2, d3, d4] => { results := [.lit (.bool true)], args := [d1, d2, d3, d4] }
  | _ => none }
def slotsWrongRow : OpenClaim := { program := "ytpcbmckknafdgaa", sum := "b399920c636495e7d4d203d924efcf8533815c49fabcc68b92efee621aed2fe4", func := "fermata/fermatalaw09.SlotsWrong", spec := "slotsWrong", unfollowed := true, recurses := true, plainKeys := false, apart := false }
def SlotsWrongSaid : Prop := slotsWrongRow.holds Try.pinned (OpenSpec.ofChange slotsWrongSpec)

/-- ITS FALSE NEIGHBOUR: 'it returns false'. Refute it at one input. -/
def slotsWrongWrong : ChangeSpec := { name := "slotsWrong", fn := fun _ => fun
  | [d1, d2, d3, d4] => { results := [.lit (.bool false)], args := [d1, d2, d3, d4] }
  | _ => none }
def SlotsWrongWrongFalsely : Prop := slotsWrongRow.holds Try.pinned (OpenSpec.ofChange slotsWrongWrong)

/-- 'fermatalaw09.SlotsCleared': WHATEVER THE INPUT: true; the input reads as it did. -/
def slotsClearedSpec : ChangeSpec := { name := "slotsCleared", fn := fun _ => fun
  | [d1, d2, d3] => { results := [.lit (.bool true)], args := [d1, d2, d3] }
  | _ => none }
def slotsClearedRow : OpenClaim := { program := "ytpcbmckknafdgaa", sum := "b399920c636495e7d4d203d924efcf8533815c49fabcc68b92efee621aed2fe4", func := "fermata/fermatalaw09.SlotsCleared", spec := "slotsCleared", unfollowed := true, recurses := true, plainKeys := false, apart := false }
def SlotsClearedSaid : Prop := slotsClearedRow.holds Try.pinned (OpenSpec.ofChange slotsClearedSpec)

/-- ITS FALSE NEIGHBOUR: 'it returns false'. Refute it at one input. -/
def slotsClearedWrong : ChangeSpec := { name := "slotsCleared", fn := fun _ => fun
  | [d1, d2, d3] => { results := [.lit (.bool false)], args := [d1, d2, d3] }
  | _ => none }
def SlotsClearedWrongFalsely : Prop := slotsClearedRow.holds Try.pinned (OpenSpec.ofChange slotsClearedWrong)

/- THE SECOND FORM. 'bulk': how many values and letters a reading holds, each counted each time it is reached (what is shared counts as often as it is met; a slice's spare places count too). A statement '..UptoSaid' is the law's where the arguments, and the package variables that the reading takes, are together of bulk at most 1048576: NARROWER than '..Said'. Prove '..Said' where nothing that the law and all that it calls make is longer than what came in: it says more and counts as full. Else prove '..UptoSaid'. A law counts once. -/
mutual
def uptoBulk {H : Type} : DataW H → Nat
  | .lit (.string bytes) => bytes.length + 1
  | .lit _ => 1
  | .nil => 1
  | .ptr d => uptoBulk d + 1
  | .slice elems spare => uptoBulkAll elems + uptoBulkAll spare + 1
  | .agg parts => uptoBulkAll parts + 1
  | .iface _ d => uptoBulk d + 1
  | .map entries => uptoBulkEntries entries + 1
  | .held _ => 1
def uptoBulkAll {H : Type} : List (DataW H) → Nat
  | [] => 0
  | d :: r => uptoBulk d + uptoBulkAll r
def uptoBulkEntries {H : Type} : List (Lit × DataW H) → Nat
  | [] => 0
  | x :: r => uptoBulkEntry x + uptoBulkEntries r
def uptoBulkEntry {H : Type} : Lit × DataW H → Nat
  | (.string bytes, d) => bytes.length + uptoBulk d + 1
  | (_, d) => uptoBulk d + 1
 end
def uptoSmall : (H : Type) → List (DataW H) → Bool := fun _ ds => decide (uptoBulkAll ds ≤ 1048576)
def OpenSpec.upto (s : _root_.Go.ChangeSpec) : _root_.Go.OpenSpec := { _root_.Go.OpenSpec.ofChange s with cond := some uptoSmall }

/-- 'fermatalaw09.SlotsTells', WHERE WHAT IT READS IS OF BULK AT MOST 1048576: true; the input reads as it did. -/
def slotsTellsUptoRow : OpenClaim := { program := "ytpcbmckknafdgaa", sum := "b399920c636495e7d4d203d924efcf8533815c49fabcc68b92efee621aed2fe4", func := "fermata/fermatalaw09.SlotsTells", spec := "slotsTells", unfollowed := true, recurses := true, plainKeys := false, apart := false, narrowed := true }
def SlotsTellsUptoSaid : Prop := slotsTellsUptoRow.holds Try.pinned (OpenSpec.upto slotsTellsSpec)

/-- 'fermatalaw09.SlotsSmall', WHERE WHAT IT READS IS OF BULK AT MOST 1048576: true; the input reads as it did. -/
def slotsSmallUptoRow : OpenClaim := { program := "ytpcbmckknafdgaa", sum := "b399920c636495e7d4d203d924efcf8533815c49fabcc68b92efee621aed2fe4", func := "fermata/fermatalaw09.SlotsSmall", spec := "slotsSmall", unfollowed := true, recurses := true, plainKeys := false, apart := false, narrowed := true }
def SlotsSmallUptoSaid : Prop := slotsSmallUptoRow.holds Try.pinned (OpenSpec.upto slotsSmallSpec)

/-- 'fermatalaw09.SlotsOne', WHERE WHAT IT READS IS OF BULK AT MOST 1048576: true; the input reads as it did. -/
def slotsOneUptoRow : OpenClaim := { program := "ytpcbmckknafdgaa", sum := "b399920c636495e7d4d203d924efcf8533815c49fabcc68b92efee621aed2fe4", func := "fermata/fermatalaw09.SlotsOne", spec := "slotsOne", unfollowed := true, recurses := true, plainKeys := false, apart := false, narrowed := true }
def SlotsOneUptoSaid : Prop := slotsOneUptoRow.holds Try.pinned (OpenSpec.upto slotsOneSpec)

/-- 'fermatalaw09.SlotsLast', WHERE WHAT IT READS IS OF BULK AT MOST 1048576: true; the input reads as it did. -/
def slotsLastUptoRow : OpenClaim := { program := "ytpcbmckknafdgaa", sum := "b399920c636495e7d4d203d924efcf8533815c49fabcc68b92efee621aed2fe4", func := "fermata/fermatalaw09.SlotsLast", spec := "slotsLast", unfollowed := true, recurses := true, plainKeys := false, apart := false, narrowed := true }
def SlotsLastUptoSaid : Prop := slotsLastUptoRow.holds Try.pinned (OpenSpec.upto slotsLastSpec)

/-- 'fermatalaw09.SlotsLives', WHERE WHAT IT READS IS OF BULK AT MOST 1048576: true; the input reads as it did. -/
def slotsLivesUptoRow : OpenClaim := { program := "ytpcbmckknafdgaa", sum := "b399920c636495e7d4d203d924efcf8533815c49fabcc68b92efee621aed2fe4", func := "fermata/fermatalaw09.SlotsLives", spec := "slotsLives", unfollowed := true, recurses := true, plainKeys := false, apart := false, narrowed := true }
def SlotsLivesUptoSaid : Prop := slotsLivesUptoRow.holds Try.pinned (OpenSpec.upto slotsLivesSpec)

/-- 'fermatalaw09.SlotsApart', WHERE WHAT IT READS IS OF BULK AT MOST 1048576: true; the input reads as it did. -/
def slotsApartUptoRow : OpenClaim := { program := "ytpcbmckknafdgaa", sum := "b399920c636495e7d4d203d924efcf8533815c49fabcc68b92efee621aed2fe4", func := "fermata/fermatalaw09.SlotsApart", spec := "slotsApart", unfollowed := true, recurses := true, plainKeys := false, apart := false, narrowed := true }
def SlotsApartUptoSaid : Prop := slotsApartUptoRow.holds Try.pinned (OpenSpec.upto slotsApartSpec)

/-- 'fermatalaw09.SlotsWrong', WHERE WHAT IT READS IS OF BULK AT MOST 1048576: true; the input reads as it did. -/
def slotsWrongUptoRow : OpenClaim := { program := "ytpcbmckknafdgaa", sum := "b399920c636495e7d4d203d924efcf8533815c49fabcc68b92efee621aed2fe4", func := "fermata/fermatalaw09.SlotsWrong", spec := "slotsWrong", unfollowed := true, recurses := true, plainKeys := false, apart := false, narrowed := true }
def SlotsWrongUptoSaid : Prop := slotsWrongUptoRow.holds Try.pinned (OpenSpec.upto slotsWrongSpec)

/-- 'fermatalaw09.SlotsCleared', WHERE WHAT IT READS IS OF BULK AT MOST 1048576: true; the input reads as it did. -/
def slotsClearedUptoRow : OpenClaim := { program := "ytpcbmckknafdgaa", sum := "b399920c636495e7d4d203d924efcf8533815c49fabcc68b92efee621aed2fe4", func := "fermata/fermatalaw09.SlotsCleared", spec := "slotsCleared", unfollowed := true, recurses := true, plainKeys := false, apart := false, narrowed := true }
def SlotsClearedUptoSaid : Prop := slotsClearedUptoRow.holds Try.pinned (OpenSpec.upto slotsClearedSpec)

end Rows
end Go.Proofs.Ytpcbmckknafdgaa
