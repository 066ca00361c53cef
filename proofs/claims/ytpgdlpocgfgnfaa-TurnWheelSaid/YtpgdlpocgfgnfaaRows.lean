/-
  No cell of these rows narrows 'for every input' (looked for: loops, veiled, ifaces, maps, wideKeys, modest, calm, conditions, laid).
  DERIVED. THE GIVEN ROWS OF THIS SEAT. 8 by the template 'for every input the law returns true; each argument reads behind the call as it read before'; 0 by the template 'total and deterministic' (their statements: YtpgdlpocgfgnfaaTotals.lean).
  GIVEN WITH THE SEED: the statements are not yours to turn. If you find one false, say at which input.
  Laid BY PROGRAM, IN A SANDBOX (cutbox-rows.mjs): the forced cells as the released guide's own fill.sh prints them over the translation 82424a035bf531a3… (all of the seat's roots in one cut). By AI agents, Wed Nov 11 2026. No macro, syntax, notation, axiom, sorry.
-/
import Derived.Test.YtpgdlpocgfgnfaaChecked
import GoSem.Claim
import GoSem.ClaimJoined
import GoSem.ClaimMapViews
import Derived.JoinedTies
import Derived.KernelRfl
namespace Go.Proofs.Ytpgdlpocgfgnfaa
/- THE CELL 'sum', in the pinned program and in every row, IS THE sha256 OF THE DUMP (.gsa) THAT YtpgdlpocgfgnfaaProg.lean LOADS. Nothing in Lean hashes anything: it is a label: what it is worth is what the hold of that sum in a sandbox is worth. -/
noncomputable def Try.pinned : Pinned := { name := "ytpgdlpocgfgnfaa", sum := "82424a035bf531a3995365fb46642490dfcecc1a2b4096d41ad86432931b7d46", checked := Try.checked }
namespace Rows
def none {H : Type} : Left H := { results := [], args := [] }

/-- 'fermatalaw39.TurnTells': WHATEVER THE INPUT: true; the input reads as it did. -/
def turnTellsSpec : ChangeSpec := { name := "turnTells", fn := fun _ => fun
  | [d1, d2, d3, d4, d5] => { results := [.lit (.bool true)], args := [d1, d2, d3, d4, d5] }
  | _ => none }
def turnTellsRow : OpenClaim := { program := "ytpgdlpocgfgnfaa", sum := "82424a035bf531a3995365fb46642490dfcecc1a2b4096d41ad86432931b7d46", func := "fermata/fermatalaw39.TurnTells", spec := "turnTells", unfollowed := true, recurses := true, apart := false }
def TurnTellsSaid : Prop := turnTellsRow.holds Try.pinned (OpenSpec.ofChange turnTellsSpec)

/-- ITS FALSE NEIGHBOUR: 'it returns false'. Refute it at one input. -/
def turnTellsWrong : ChangeSpec := { name := "turnTells", fn := fun _ => fun
  | [d1, d2, d3, d4, d5] => { results := [.lit (.bool false)], args := [d1, d2, d3, d4, d5] }
  | _ => none }
def TurnTellsWrongFalsely : Prop := turnTellsRow.holds Try.pinned (OpenSpec.ofChange turnTellsWrong)

/-- 'fermatalaw39.TurnWheels': WHATEVER THE INPUT: true; the input reads as it did. -/
def turnWheelsSpec : ChangeSpec := { name := "turnWheels", fn := fun _ => fun
  | [d1, d2, d3] => { results := [.lit (.bool true)], args := [d1, d2, d3] }
  | _ => none }
def turnWheelsRow : OpenClaim := { program := "ytpgdlpocgfgnfaa", sum := "82424a035bf531a3995365fb46642490dfcecc1a2b4096d41ad86432931b7d46", func := "fermata/fermatalaw39.TurnWheels", spec := "turnWheels", unfollowed := true, recurses := true, apart := false }
def TurnWheelsSaid : Prop := turnWheelsRow.holds Try.pinned (OpenSpec.ofChange turnWheelsSpec)

/-- ITS FALSE NEIGHBOUR: 'it returns false'. Refute it at one input. -/
def turnWheelsWrong : ChangeSpec := { name := "turnWheels", fn := fun _ => fun
  | [d1, d2, d3] => { results := [.lit (.bool false)], args := [d1, d2, d3] }
  | _ => none }
def TurnWheelsWrongFalsely : Prop := turnWheelsRow.holds Try.pinned (OpenSpec.ofChange turnWheelsWrong)

/-- 'fermatalaw39.TurnSmall': WHATEVER THE INPUT: true; the input reads as it did. -/
def turnSmallSpec : ChangeSpec := { name := "turnSmall", fn := fun _ => fun
  | [] => { results := [.lit (.bool true)], args := [] }
  | _ => none }
def turnSmallRow : OpenClaim := { program := "ytpgdlpocgfgnfaa", sum := "82424a035bf531a3995365fb46642490dfcecc1a2b4096d41ad86432931b7d46", func := "fermata/fermatalaw39.TurnSmall", spec := "turnSmall", unfollowed := true, recurses := true, apart := false }
def TurnSmallSaid : Prop := turnSmallRow.holds Try.pinned (OpenSpec.ofChange turnSmallSpec)

/-- ITS FALSE NEIGHBOUR: 'it returns false'. Refute it at one input. -/
def turnSmallWrong : ChangeSpec := { name := "turnSmall", fn := fun _ => fun
  | [] => { results := [.lit (.bool false)], args := [] }
  | _ => none }
def TurnSmallWrongFalsely : Prop := turnSmallRow.holds Try.pinned (OpenSpec.ofChange turnSmallWrong)

/-- 'fermatalaw39.TurnEach': WHATEVER THE INPUT: true; the input reads as it did. -/
def turnEachSpec : ChangeSpec := { name := "turnEach", fn := fun _ => fun
  | [d1, d2, d3] => { results := [.lit (.bool true)], args := [d1, d2, d3] }
  | _ => none }
def turnEachRow : OpenClaim := { program := "ytpgdlpocgfgnfaa", sum := "82424a035bf531a3995365fb46642490dfcecc1a2b4096d41ad86432931b7d46", func := "fermata/fermatalaw39.TurnEach", spec := "turnEach", unfollowed := true, recurses := true, apart := false }
def TurnEachSaid : Prop := turnEachRow.holds Try.pinned (OpenSpec.ofChange turnEachSpec)

/-- ITS FALSE NEIGHBOUR: 'it returns false'. Refute it at one input. -/
def turnEachWrong : ChangeSpec := { name := "turnEach", fn := fun _ => fun
  | [d1, d2, d3] => { results := [.lit (.bool false)], args := [d1, d2, d3] }
  | _ => none }
def TurnEachWrongFalsely : Prop := turnEachRow.holds Try.pinned (OpenSpec.ofChange turnEachWrong)

/-- 'fermatalaw39.TurnAdds': WHATEVER THE INPUT: true; the input reads as it did. -/
def turnAddsSpec : ChangeSpec := { name := "turnAdds", fn := fun _ => fun
  | [d1, d2, d3, d4, d5] => { results := [.lit (.bool true)], args := [d1, d2, d3, d4, d5] }
  | _ => none }
def turnAddsRow : OpenClaim := { program := "ytpgdlpocgfgnfaa", sum := "82424a035bf531a3995365fb46642490dfcecc1a2b4096d41ad86432931b7d46", func := "fermata/fermatalaw39.TurnAdds", spec := "turnAdds", unfollowed := true, recurses := true, apart := false }
def TurnAddsSaid : Prop := turnAddsRow.holds Try.pinned (OpenSpec.ofChange turnAddsSpec)

/-- ITS FALSE NEIGHBOUR: 'it returns false'. Refute it at one input. -/
def turnAddsWrong : ChangeSpec := { name := "turnAdds", fn := fun _ => fun
  | [d1, d2, d3, d4, d5] => { results := [.lit (.bool false)], args := [d1, d2, d3, d4, d5] }
  | _ => none }
def TurnAddsWrongFalsely : Prop := turnAddsRow.holds Try.pinned (OpenSpec.ofChange turnAddsWrong)

/-- 'fermatalaw39.TurnNeeds': WHATEVER THE INPUT: true; the input reads as it did. -/
def turnNeedsSpec : ChangeSpec := { name := "turnNeeds", fn := fun _ => fun
  | [d1, d2, d3, d4] => { results := [.lit (.bool true)], args := [d1, d2, d3, d4] }
  | _ => none }
def turnNeedsRow : OpenClaim := { program := "ytpgdlpocgfgnfaa", sum := "82424a035bf531a3995365fb46642490dfcecc1a2b4096d41ad86432931b7d46", func := "fermata/fermatalaw39.TurnNeeds", spec := "turnNeeds", unfollowed := true, recurses := true, apart := false }
def TurnNeedsSaid : Prop := turnNeedsRow.holds Try.pinned (OpenSpec.ofChange turnNeedsSpec)

/-- ITS FALSE NEIGHBOUR: 'it returns false'. Refute it at one input. -/
def turnNeedsWrong : ChangeSpec := { name := "turnNeeds", fn := fun _ => fun
  | [d1, d2, d3, d4] => { results := [.lit (.bool false)], args := [d1, d2, d3, d4] }
  | _ => none }
def TurnNeedsWrongFalsely : Prop := turnNeedsRow.holds Try.pinned (OpenSpec.ofChange turnNeedsWrong)

/-- 'fermatalaw39.TurnWheel': WHATEVER THE INPUT: true; the input reads as it did. -/
def turnWheelSpec : ChangeSpec := { name := "turnWheel", fn := fun _ => fun
  | [d1, d2] => { results := [.lit (.bool true)], args := [d1, d2] }
  | _ => none }
def turnWheelRow : OpenClaim := { program := "ytpgdlpocgfgnfaa", sum := "82424a035bf531a3995365fb46642490dfcecc1a2b4096d41ad86432931b7d46", func := "fermata/fermatalaw39.TurnWheel", spec := "turnWheel", unfollowed := true, recurses := true, apart := false }
def TurnWheelSaid : Prop := turnWheelRow.holds Try.pinned (OpenSpec.ofChange turnWheelSpec)

/-- ITS FALSE NEIGHBOUR: 'it returns false'. Refute it at one input. -/
def turnWheelWrong : ChangeSpec := { name := "turnWheel", fn := fun _ => fun
  | [d1, d2] => { results := [.lit (.bool false)], args := [d1, d2] }
  | _ => none }
def TurnWheelWrongFalsely : Prop := turnWheelRow.holds Try.pinned (OpenSpec.ofChange turnWheelWrong)

/-- 'fermatalaw39.TurnWrong': WHATEVER THE INPUT: true; the input reads as it did. -/
def turnWrongSpec : ChangeSpec := { name := "turnWrong", fn := fun _ => fun
  | [d1, d2] => { results := [.lit (.bool true)], args := [d1, d2] }
  | _ => none }
def turnWrongRow : OpenClaim := { program := "ytpgdlpocgfgnfaa", sum := "82424a035bf531a3995365fb46642490dfcecc1a2b4096d41ad86432931b7d46", func := "fermata/fermatalaw39.TurnWrong", spec := "turnWrong", unfollowed := true, recurses := true, apart := false }
def TurnWrongSaid : Prop := turnWrongRow.holds Try.pinned (OpenSpec.ofChange turnWrongSpec)

/-- ITS FALSE NEIGHBOUR: 'it returns false'. Refute it at one input. -/
def turnWrongWrong : ChangeSpec := { name := "turnWrong", fn := fun _ => fun
  | [d1, d2] => { results := [.lit (.bool false)], args := [d1, d2] }
  | _ => none }
def TurnWrongWrongFalsely : Prop := turnWrongRow.holds Try.pinned (OpenSpec.ofChange turnWrongWrong)

/- THE SECOND FORM. 'bulk': how many values and letters a reading holds, each counted each time it is reached (what is shared counts as often as it is met; a slice's spare places count too). A statement '..UptoSaid' is the law's where the arguments, and the package variables that the reading takes, are together of bulk at most 1048576: NARROWER than '..Said'. Prove '..Said' where nothing that the law and all that it calls make is longer than what came in: it says more and counts as full. Else prove '..UptoSaid'. A law counts once. -/
mutual
def uptoBulk {H : Type} : DataW H → Nat
  | .lit (.string bytes) => bytes.length + 1
  | .lit _ => 1
  | .nil => 1
  | .ptr d => uptoBulk d + 1
  | .slice elems spare => uptoBulkAll elems + uptoBulkAll spare + 1
  | .agg parts => uptoBulkAll parts + 1
  | .iface _ d => uptoBulk d + 1
  | .map entries => uptoBulkEntries entries + 1
  | .held _ => 1
def uptoBulkAll {H : Type} : List (DataW H) → Nat
  | [] => 0
  | d :: r => uptoBulk d + uptoBulkAll r
def uptoBulkEntries {H : Type} : List (Lit × DataW H) → Nat
  | [] => 0
  | x :: r => uptoBulkEntry x + uptoBulkEntries r
def uptoBulkEntry {H : Type} : Lit × DataW H → Nat
  | (.string bytes, d) => bytes.length + uptoBulk d + 1
  | (_, d) => uptoBulk d + 1
 end
def uptoSmall : (H : Type) → List (DataW H) → Bool := fun _ ds => decide (uptoBulkAll ds ≤ 1048576)
def OpenSpec.upto (s : _root_.Go.ChangeSpec) : _root_.Go.OpenSpec := { _root_.Go.OpenSpec.ofChange s with cond := some uptoSmall }

/-- 'fermatalaw39.TurnTells', WHERE WHAT IT READS IS OF BULK AT MOST 1048576: true; the input reads as it did. -/
def turnTellsUptoRow : OpenClaim := { program := "ytpgdlpocgfgnfaa", sum := "82424a035bf531a3995365fb46642490dfcecc1a2b4096d41ad86432931b7d46", func := "fermata/fermatalaw39.TurnTells", spec := "turnTells", unfollowed := true, recurses := true, apart := false, narrowed := true }
def TurnTellsUptoSaid : Prop := turnTellsUptoRow.holds Try.pinned (OpenSpec.upto turnTellsSpec)

/-- 'fermatalaw39.TurnWheels', WHERE WHAT IT READS IS OF BULK AT MOST 1048576: true; the input reads as it did. -/
def turnWheelsUptoRow : OpenClaim := { program := "ytpgdlpocgfgnfaa", sum := "82424a035bf531a3995365fb46642490dfcecc1a2b4096d41ad86432931b7d46", func := "fermata/fermatalaw39.TurnWheels", spec := "turnWheels", unfollowed := true, recurses := true, apart := false, narrowed := true }
def TurnWheelsUptoSaid : Prop := turnWheelsUptoRow.holds Try.pinned (OpenSpec.upto turnWheelsSpec)

/-- 'fermatalaw39.TurnSmall', WHERE WHAT IT READS IS OF BULK AT MOST 1048576: true; the input reads as it did. -/
def turnSmallUptoRow : OpenClaim := { program := "ytpgdlpocgfgnfaa", sum := "82424a035bf531a3995365fb46642490dfcecc1a2b4096d41ad86432931b7d46", func := "fermata/fermatalaw39.TurnSmall", spec := "turnSmall", unfollowed := true, recurses := true, apart := false, narrowed := true }
def TurnSmallUptoSaid : Prop := turnSmallUptoRow.holds Try.pinned (OpenSpec.upto turnSmallSpec)

/-- 'fermatalaw39.TurnEach', WHERE WHAT IT READS IS OF BULK AT MOST 1048576: true; the input reads as it did. -/
def turnEachUptoRow : OpenClaim := { program := "ytpgdlpocgfgnfaa", sum := "82424a035bf531a3995365fb46642490dfcecc1a2b4096d41ad86432931b7d46", func := "fermata/fermatalaw39.TurnEach", spec := "turnEach", unfollowed := true, recurses := true, apart := false, narrowed := true }
def TurnEachUptoSaid : Prop := turnEachUptoRow.holds Try.pinned (OpenSpec.upto turnEachSpec)

/-- 'fermatalaw39.TurnAdds', WHERE WHAT IT READS IS OF BULK AT MOST 1048576: true; the input reads as it did. -/
def turnAddsUptoRow : OpenClaim := { program := "ytpgdlpocgfgnfaa", sum := "82424a035bf531a3995365fb46642490dfcecc1a2b4096d41ad86432931b7d46", func := "fermata/fermatalaw39.TurnAdds", spec := "turnAdds", unfollowed := true, recurses := true, apart := false, narrowed := true }
def TurnAddsUptoSaid : Prop := turnAddsUptoRow.holds Try.pinned (OpenSpec.upto turnAddsSpec)

/-- 'fermatalaw39.TurnNeeds', WHERE WHAT IT READS IS OF BULK AT MOST 1048576: true; the input reads as it did. -/
def turnNeedsUptoRow : OpenClaim := { program := "ytpgdlpocgfgnfaa", sum := "82424a035bf531a3995365fb46642490dfcecc1a2b4096d41ad86432931b7d46", func := "fermata/fermatalaw39.TurnNeeds", spec := "turnNeeds", unfollowed := true, recurses := true, apart := false, narrowed := true }
def TurnNeedsUptoSaid : Prop := turnNeedsUptoRow.holds Try.pinned (OpenSpec.upto turnNeedsSpec)

/-- 'fermatalaw39.TurnWheel', WHERE WHAT IT READS IS OF BULK AT MOST 1048576: true; the input reads as it did. -/
def turnWheelUptoRow : OpenClaim := { program := "ytpgdlpocgfgnfaa", sum := "82424a035bf531a3995365fb46642490dfcecc1a2b4096d41ad86432931b7d46", func := "fermata/fermatalaw39.TurnWheel", spec := "turnWheel", unfollowed := true, recurses := true, apart := false, narrowed := true }
def TurnWheelUptoSaid : Prop := turnWheelUptoRow.holds Try.pinned (OpenSpec.upto turnWheelSpec)

/-- 'fermatalaw39.TurnWrong', WHERE WHAT IT READS IS OF BULK AT MOST 1048576: true; the input reads as it did. -/
def turnWrongUptoRow : OpenClaim := { program := "ytpgdlpocgfgnfaa", sum := "82424a035bf531a3995365fb46642490dfcecc1a2b4096d41ad86432931b7d46", func := "fermata/fermatalaw39.TurnWrong", spec := "turnWrong", unfollowed := true, recurses := true, apart := false, narrowed := true }
def TurnWrongUptoSaid : Prop := turnWrongUptoRow.holds Try.pinned (OpenSpec.upto turnWrongSpec)

end Rows
end Go.Proofs.Ytpgdlpocgfgnfaa
