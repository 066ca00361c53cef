/-
  No cell of these rows narrows 'for every input' (looked for: loops, veiled, ifaces, maps, wideKeys, modest, calm, conditions, laid).
  DERIVED. THE GIVEN ROWS OF THIS SEAT. 8 by the template 'for every input the law returns true; each argument reads behind the call as it read before'; 0 by the template 'total and deterministic' (their statements: YtdfmgneicdpjmaaGreatTotals.lean).
  GIVEN WITH THE SEED: the statements are not yours to turn. If you find one false, say at which input.
  Laid BY PROGRAM, IN A SANDBOX (cutbox-rows.mjs): the forced cells as the released guide's own fill.sh prints them over the translation 14b7f0c6de544576… (all of the seat's roots in one cut). By AI agents, Wed Nov 11 2026. No macro, syntax, notation, axiom, sorry.
-/
import Derived.Test.YtdfmgneicdpjmaaGreatChecked
import GoSem.Claim
import GoSem.ClaimJoined
import GoSem.ClaimMapViews
import Derived.JoinedTies
import Derived.KernelRfl
namespace Go.Proofs.YtdfmgneicdpjmaaGreat
/- THE CELL 'sum', in the pinned program and in every row, IS THE sha256 OF THE DUMP (.gsa) THAT YtdfmgneicdpjmaaGreatProg.lean LOADS. Nothing in Lean hashes anything: it is a label: what it is worth is what the hold of that sum in a sandbox is worth. -/
noncomputable def Tryz.pinned : Pinned := { name := "ytdfmgneicdpjmaagreat", sum := "14b7f0c6de54457604d4367dc6bd67282a5f483e07eb6ced2bd074177f68b2ee", checked := Tryz.checked }
namespace Rows
def none {H : Type} : Left H := { results := [], args := [] }

/-- 'fermatalaw38.ModelBegins': WHATEVER THE INPUT: true; the input reads as it did. -/
def modelBeginsSpec : ChangeSpec := { name := "modelBegins", fn := fun _ => fun
  | [d1, d2] => { results := [.lit (.bool true)], args := [d1, d2] }
  | _ => none }
def modelBeginsRow : OpenClaim := { program := "ytdfmgneicdpjmaagreat", sum := "14b7f0c6de54457604d4367dc6bd67282a5f483e07eb6ced2bd074177f68b2ee", func := "fermata/fermatalaw38.ModelBegins", spec := "modelBegins", inPlace := ["maps.clone", "internal/bytealg.IndexByteString", "internal/bytealg.IndexString", "slices.overlaps[string]", "slices.overlaps[fermata/api.Event]"], unfollowed := true, recurses := true, named := ["internal/bytealg.MaxLen"], plainKeys := false, apart := false }
def ModelBeginsSaid : Prop := modelBeginsRow.holds Tryz.pinned (OpenSpec.ofChange modelBeginsSpec)

/-- ITS FALSE NEIGHBOUR: 'it returns false'. Refute it at one input. -/
def modelBeginsWrong : ChangeSpec := { name := "modelBegins", fn := fun _ => fun
  | [d1, d2] => { results := [.lit (.bool false)], args := [d1, d2] }
  | _ => none }
def ModelBeginsWrongFalsely : Prop := modelBeginsRow.holds Tryz.pinned (OpenSpec.ofChange modelBeginsWrong)

/-- 'fermatalaw42.ViewParts': WHATEVER THE INPUT: true; the input reads as it did. -/
def viewPartsSpec : ChangeSpec := { name := "viewParts", fn := fun _ => fun
  | [d1, d2, d3] => { results := [.lit (.bool true)], args := [d1, d2, d3] }
  | _ => none }
def viewPartsRow : OpenClaim := { program := "ytdfmgneicdpjmaagreat", sum := "14b7f0c6de54457604d4367dc6bd67282a5f483e07eb6ced2bd074177f68b2ee", func := "fermata/fermatalaw42.ViewParts", spec := "viewParts", inPlace := ["maps.clone", "internal/bytealg.IndexByteString", "internal/bytealg.IndexString", "slices.overlaps[string]", "slices.overlaps[fermata/api.Event]"], unfollowed := true, recurses := true, named := ["internal/bytealg.MaxLen"], plainKeys := false, apart := false }
def ViewPartsSaid : Prop := viewPartsRow.holds Tryz.pinned (OpenSpec.ofChange viewPartsSpec)

/-- ITS FALSE NEIGHBOUR: 'it returns false'. Refute it at one input. -/
def viewPartsWrong : ChangeSpec := { name := "viewParts", fn := fun _ => fun
  | [d1, d2, d3] => { results := [.lit (.bool false)], args := [d1, d2, d3] }
  | _ => none }
def ViewPartsWrongFalsely : Prop := viewPartsRow.holds Tryz.pinned (OpenSpec.ofChange viewPartsWrong)

/-- 'fermatalaw42.ViewBoth': WHATEVER THE INPUT: true; the input reads as it did. -/
def viewBothSpec : ChangeSpec := { name := "viewBoth", fn := fun _ => fun
  | [d1, d2, d3, d4, d5] => { results := [.lit (.bool true)], args := [d1, d2, d3, d4, d5] }
  | _ => none }
def viewBothRow : OpenClaim := { program := "ytdfmgneicdpjmaagreat", sum := "14b7f0c6de54457604d4367dc6bd67282a5f483e07eb6ced2bd074177f68b2ee", func := "fermata/fermatalaw42.ViewBoth", spec := "viewBoth", inPlace := ["maps.clone", "internal/bytealg.IndexByteString", "internal/bytealg.IndexString", "slices.overlaps[string]", "slices.overlaps[fermata/api.Event]"], unfollowed := true, recurses := true, named := ["internal/bytealg.MaxLen"], plainKeys := false, apart := false }
def ViewBothSaid : Prop := viewBothRow.holds Tryz.pinned (OpenSpec.ofChange viewBothSpec)

/-- ITS FALSE NEIGHBOUR: 'it returns false'. Refute it at one input. -/
def viewBothWrong : ChangeSpec := { name := "viewBoth", fn := fun _ => fun
  | [d1, d2, d3, d4, d5] => { results := [.lit (.bool false)], args := [d1, d2, d3, d4, d5] }
  | _ => none }
def ViewBothWrongFalsely : Prop := viewBothRow.holds Tryz.pinned (OpenSpec.ofChange viewBothWrong)

/-- 'fermatalaw42.ViewBack': WHATEVER THE INPUT: true; the input reads as it did. -/
def viewBackSpec : ChangeSpec := { name := "viewBack", fn := fun _ => fun
  | [d1, d2] => { results := [.lit (.bool true)], args := [d1, d2] }
  | _ => none }
def viewBackRow : OpenClaim := { program := "ytdfmgneicdpjmaagreat", sum := "14b7f0c6de54457604d4367dc6bd67282a5f483e07eb6ced2bd074177f68b2ee", func := "fermata/fermatalaw42.ViewBack", spec := "viewBack", inPlace := ["maps.clone", "internal/bytealg.IndexByteString", "internal/bytealg.IndexString", "slices.overlaps[string]", "slices.overlaps[fermata/api.Event]"], unfollowed := true, recurses := true, named := ["internal/bytealg.MaxLen"], plainKeys := false, apart := false }
def ViewBackSaid : Prop := viewBackRow.holds Tryz.pinned (OpenSpec.ofChange viewBackSpec)

/-- ITS FALSE NEIGHBOUR: 'it returns false'. Refute it at one input. -/
def viewBackWrong : ChangeSpec := { name := "viewBack", fn := fun _ => fun
  | [d1, d2] => { results := [.lit (.bool false)], args := [d1, d2] }
  | _ => none }
def ViewBackWrongFalsely : Prop := viewBackRow.holds Tryz.pinned (OpenSpec.ofChange viewBackWrong)

/-- 'fermatalaw42.ViewApart': WHATEVER THE INPUT: true; the input reads as it did. -/
def viewApartSpec : ChangeSpec := { name := "viewApart", fn := fun _ => fun
  | [d1, d2, d3, d4, d5] => { results := [.lit (.bool true)], args := [d1, d2, d3, d4, d5] }
  | _ => none }
def viewApartRow : OpenClaim := { program := "ytdfmgneicdpjmaagreat", sum := "14b7f0c6de54457604d4367dc6bd67282a5f483e07eb6ced2bd074177f68b2ee", func := "fermata/fermatalaw42.ViewApart", spec := "viewApart", inPlace := ["maps.clone", "internal/bytealg.IndexByteString", "internal/bytealg.IndexString", "slices.overlaps[string]", "slices.overlaps[fermata/api.Event]"], unfollowed := true, recurses := true, named := ["internal/bytealg.MaxLen"], plainKeys := false, apart := false }
def ViewApartSaid : Prop := viewApartRow.holds Tryz.pinned (OpenSpec.ofChange viewApartSpec)

/-- ITS FALSE NEIGHBOUR: 'it returns false'. Refute it at one input. -/
def viewApartWrong : ChangeSpec := { name := "viewApart", fn := fun _ => fun
  | [d1, d2, d3, d4, d5] => { results := [.lit (.bool false)], args := [d1, d2, d3, d4, d5] }
  | _ => none }
def ViewApartWrongFalsely : Prop := viewApartRow.holds Tryz.pinned (OpenSpec.ofChange viewApartWrong)

/-- 'fermatalaw42.ViewTurns': WHATEVER THE INPUT: true; the input reads as it did. -/
def viewTurnsSpec : ChangeSpec := { name := "viewTurns", fn := fun _ => fun
  | [d1, d2] => { results := [.lit (.bool true)], args := [d1, d2] }
  | _ => none }
def viewTurnsRow : OpenClaim := { program := "ytdfmgneicdpjmaagreat", sum := "14b7f0c6de54457604d4367dc6bd67282a5f483e07eb6ced2bd074177f68b2ee", func := "fermata/fermatalaw42.ViewTurns", spec := "viewTurns", inPlace := ["maps.clone", "internal/bytealg.IndexByteString", "internal/bytealg.IndexString", "slices.overlaps[string]", "slices.overlaps[fermata/api.Event]"], unfollowed := true, recurses := true, named := ["internal/bytealg.MaxLen"], plainKeys := false, apart := false }
def ViewTurnsSaid : Prop := viewTurnsRow.holds Tryz.pinned (OpenSpec.ofChange viewTurnsSpec)

/-- ITS FALSE NEIGHBOUR: 'it returns false'. Refute it at one input. -/
def viewTurnsWrong : ChangeSpec := { name := "viewTurns", fn := fun _ => fun
  | [d1, d2] => { results := [.lit (.bool false)], args := [d1, d2] }
  | _ => none }
def ViewTurnsWrongFalsely : Prop := viewTurnsRow.holds Tryz.pinned (OpenSpec.ofChange viewTurnsWrong)

/-- 'fermatalaw42.ViewAgree': WHATEVER THE INPUT: true; the input reads as it did. -/
def viewAgreeSpec : ChangeSpec := { name := "viewAgree", fn := fun _ => fun
  | [d1, d2, d3, d4] => { results := [.lit (.bool true)], args := [d1, d2, d3, d4] }
  | _ => none }
def viewAgreeRow : OpenClaim := { program := "ytdfmgneicdpjmaagreat", sum := "14b7f0c6de54457604d4367dc6bd67282a5f483e07eb6ced2bd074177f68b2ee", func := "fermata/fermatalaw42.ViewAgree", spec := "viewAgree", inPlace := ["maps.clone", "internal/bytealg.IndexByteString", "internal/bytealg.IndexString", "slices.overlaps[string]", "slices.overlaps[fermata/api.Event]"], unfollowed := true, recurses := true, named := ["internal/bytealg.MaxLen"], plainKeys := false, apart := false }
def ViewAgreeSaid : Prop := viewAgreeRow.holds Tryz.pinned (OpenSpec.ofChange viewAgreeSpec)

/-- ITS FALSE NEIGHBOUR: 'it returns false'. Refute it at one input. -/
def viewAgreeWrong : ChangeSpec := { name := "viewAgree", fn := fun _ => fun
  | [d1, d2, d3, d4] => { results := [.lit (.bool false)], args := [d1, d2, d3, d4] }
  | _ => none }
def ViewAgreeWrongFalsely : Prop := viewAgreeRow.holds Tryz.pinned (OpenSpec.ofChange viewAgreeWrong)

/-- 'fermatalaw42.ViewWrong': WHATEVER THE INPUT: true; the input reads as it did. -/
def viewWrongSpec : ChangeSpec := { name := "viewWrong", fn := fun _ => fun
  | [d1, d2, d3] => { results := [.lit (.bool true)], args := [d1, d2, d3] }
  | _ => none }
def viewWrongRow : OpenClaim := { program := "ytdfmgneicdpjmaagreat", sum := "14b7f0c6de54457604d4367dc6bd67282a5f483e07eb6ced2bd074177f68b2ee", func := "fermata/fermatalaw42.ViewWrong", spec := "viewWrong", inPlace := ["slices.overlaps[fermata/script.Entry]", "maps.clone", "internal/bytealg.IndexByteString", "internal/bytealg.IndexString", "slices.overlaps[string]", "slices.overlaps[fermata/api.Event]"], unfollowed := true, recurses := true, named := ["internal/bytealg.MaxLen"], plainKeys := false, apart := false }
def ViewWrongSaid : Prop := viewWrongRow.holds Tryz.pinned (OpenSpec.ofChange viewWrongSpec)

/-- ITS FALSE NEIGHBOUR: 'it returns false'. Refute it at one input. -/
def viewWrongWrong : ChangeSpec := { name := "viewWrong", fn := fun _ => fun
  | [d1, d2, d3] => { results := [.lit (.bool false)], args := [d1, d2, d3] }
  | _ => none }
def ViewWrongWrongFalsely : Prop := viewWrongRow.holds Tryz.pinned (OpenSpec.ofChange viewWrongWrong)

/- THE SECOND FORM. 'bulk': how many values and letters a reading holds, each counted each time it is reached (what is shared counts as often as it is met; a slice's spare places count too). A statement '..UptoSaid' is the law's where the arguments, and the package variables that the reading takes, are together of bulk at most 1048576: NARROWER than '..Said'. Prove '..Said' where nothing that the law and all that it calls make is longer than what came in: it says more and counts as full. Else prove '..UptoSaid'. A law counts once. -/
mutual
def uptoBulk {H : Type} : DataW H → Nat
  | .lit (.string bytes) => bytes.length + 1
  | .lit _ => 1
  | .nil => 1
  | .ptr d => uptoBulk d + 1
  | .slice elems spare => uptoBulkAll elems + uptoBulkAll spare + 1
  | .agg parts => uptoBulkAll parts + 1
  | .iface _ d => uptoBulk d + 1
  | .map entries => uptoBulkEntries entries + 1
  | .held _ => 1
def uptoBulkAll {H : Type} : List (DataW H) → Nat
  | [] => 0
  | d :: r => uptoBulk d + uptoBulkAll r
def uptoBulkEntries {H : Type} : List (Lit × DataW H) → Nat
  | [] => 0
  | x :: r => uptoBulkEntry x + uptoBulkEntries r
def uptoBulkEntry {H : Type} : Lit × DataW H → Nat
  | (.string bytes, d) => bytes.length + uptoBulk d + 1
  | (_, d) => uptoBulk d + 1
 end
def uptoSmall : (H : Type) → List (DataW H) → Bool := fun _ ds => decide (uptoBulkAll ds ≤ 1048576)
def OpenSpec.upto (s : _root_.Go.ChangeSpec) : _root_.Go.OpenSpec := { _root_.Go.OpenSpec.ofChange s with cond := some uptoSmall }

/-- 'fermatalaw38.ModelBegins', WHERE WHAT IT READS IS OF BULK AT MOST 1048576: true; the input reads as it did. -/
def modelBeginsUptoRow : OpenClaim := { program := "ytdfmgneicdpjmaagreat", sum := "14b7f0c6de54457604d4367dc6bd67282a5f483e07eb6ced2bd074177f68b2ee", func := "fermata/fermatalaw38.ModelBegins", spec := "modelBegins", inPlace := ["maps.clone", "internal/bytealg.IndexByteString", "internal/bytealg.IndexString", "slices.overlaps[string]", "slices.overlaps[fermata/api.Event]"], unfollowed := true, recurses := true, named := ["internal/bytealg.MaxLen"], plainKeys := false, apart := false, narrowed := true }
def ModelBeginsUptoSaid : Prop := modelBeginsUptoRow.holds Tryz.pinned (OpenSpec.upto modelBeginsSpec)

/-- 'fermatalaw42.ViewParts', WHERE WHAT IT READS IS OF BULK AT MOST 1048576: true; the input reads as it did. -/
def viewPartsUptoRow : OpenClaim := { program := "ytdfmgneicdpjmaagreat", sum := "14b7f0c6de54457604d4367dc6bd67282a5f483e07eb6ced2bd074177f68b2ee", func := "fermata/fermatalaw42.ViewParts", spec := "viewParts", inPlace := ["maps.clone", "internal/bytealg.IndexByteString", "internal/bytealg.IndexString", "slices.overlaps[string]", "slices.overlaps[fermata/api.Event]"], unfollowed := true, recurses := true, named := ["internal/bytealg.MaxLen"], plainKeys := false, apart := false, narrowed := true }
def ViewPartsUptoSaid : Prop := viewPartsUptoRow.holds Tryz.pinned (OpenSpec.upto viewPartsSpec)

/-- 'fermatalaw42.ViewBoth', WHERE WHAT IT READS IS OF BULK AT MOST 1048576: true; the input reads as it did. -/
def viewBothUptoRow : OpenClaim := { program := "ytdfmgneicdpjmaagreat", sum := "14b7f0c6de54457604d4367dc6bd67282a5f483e07eb6ced2bd074177f68b2ee", func := "fermata/fermatalaw42.ViewBoth", spec := "viewBoth", inPlace := ["maps.clone", "internal/bytealg.IndexByteString", "internal/bytealg.IndexString", "slices.overlaps[string]", "slices.overlaps[fermata/api.Event]"], unfollowed := true, recurses := true, named := ["internal/bytealg.MaxLen"], plainKeys := false, apart := false, narrowed := true }
def ViewBothUptoSaid : Prop := viewBothUptoRow.holds Tryz.pinned (OpenSpec.upto viewBothSpec)

/-- 'fermatalaw42.ViewBack', WHERE WHAT IT READS IS OF BULK AT MOST 1048576: true; the input reads as it did. -/
def viewBackUptoRow : OpenClaim := { program := "ytdfmgneicdpjmaagreat", sum := "14b7f0c6de54457604d4367dc6bd67282a5f483e07eb6ced2bd074177f68b2ee", func := "fermata/fermatalaw42.ViewBack", spec := "viewBack", inPlace := ["maps.clone", "internal/bytealg.IndexByteString", "internal/bytealg.IndexString", "slices.overlaps[string]", "slices.overlaps[fermata/api.Event]"], unfollowed := true, recurses := true, named := ["internal/bytealg.MaxLen"], plainKeys := false, apart := false, narrowed := true }
def ViewBackUptoSaid : Prop := viewBackUptoRow.holds Tryz.pinned (OpenSpec.upto viewBackSpec)

/-- 'fermatalaw42.ViewApart', WHERE WHAT IT READS IS OF BULK AT MOST 1048576: true; the input reads as it did. -/
def viewApartUptoRow : OpenClaim := { program := "ytdfmgneicdpjmaagreat", sum := "14b7f0c6de54457604d4367dc6bd67282a5f483e07eb6ced2bd074177f68b2ee", func := "fermata/fermatalaw42.ViewApart", spec := "viewApart", inPlace := ["maps.clone", "internal/bytealg.IndexByteString", "internal/bytealg.IndexString", "slices.overlaps[string]", "slices.overlaps[fermata/api.Event]"], unfollowed := true, recurses := true, named := ["internal/bytealg.MaxLen"], plainKeys := false, apart := false, narrowed := true }
def ViewApartUptoSaid : Prop := viewApartUptoRow.holds Tryz.pinned (OpenSpec.upto viewApartSpec)

/-- 'fermatalaw42.ViewTurns', WHERE WHAT IT READS IS OF BULK AT MOST 1048576: true; the input reads as it did. -/
def viewTurnsUptoRow : OpenClaim := { program := "ytdfmgneicdpjmaagreat", sum := "14b7f0c6de54457604d4367dc6bd67282a5f483e07eb6ced2bd074177f68b2ee", func := "fermata/fermatalaw42.ViewTurns", spec := "viewTurns", inPlace := ["maps.clone", "internal/bytealg.IndexByteString", "internal/bytealg.IndexString", "slices.overlaps[string]", "slices.overlaps[fermata/api.Event]"], unfollowed := true, recurses := true, named := ["internal/bytealg.MaxLen"], plainKeys := false, apart := false, narrowed := true }
def ViewTurnsUptoSaid : Prop := viewTurnsUptoRow.holds Tryz.pinned (OpenSpec.upto viewTurnsSpec)

/-- 'fermatalaw42.ViewAgree', WHERE WHAT IT READS IS OF BULK AT MOST 1048576: true; the input reads as it did. -/
def viewAgreeUptoRow : OpenClaim := { program := "ytdfmgneicdpjmaagreat", sum := "14b7f0c6de54457604d4367dc6bd67282a5f483e07eb6ced2bd074177f68b2ee", func := "fermata/fermatalaw42.ViewAgree", spec := "viewAgree", inPlace := ["maps.clone", "internal/bytealg.IndexByteString", "internal/bytealg.IndexString", "slices.overlaps[string]", "slices.overlaps[fermata/api.Event]"], unfollowed := true, recurses := true, named := ["internal/bytealg.MaxLen"], plainKeys := false, apart := false, narrowed := true }
def ViewAgreeUptoSaid : Prop := viewAgreeUptoRow.holds Tryz.pinned (OpenSpec.upto viewAgreeSpec)

/-- 'fermatalaw42.ViewWrong', WHERE WHAT IT READS IS OF BULK AT MOST 1048576: true; the input reads as it did. -/
def viewWrongUptoRow : OpenClaim := { program := "ytdfmgneicdpjmaagreat", sum := "14b7f0c6de54457604d4367dc6bd67282a5f483e07eb6ced2bd074177f68b2ee", func := "fermata/fermatalaw42.ViewWrong", spec := "viewWrong", inPlace := ["slices.overlaps[fermata/script.Entry]", "maps.clone", "internal/bytealg.IndexByteString", "internal/bytealg.IndexString", "slices.overlaps[string]", "slices.overlaps[fermata/api.Event]"], unfollowed := true, recurses := true, named := ["internal/bytealg.MaxLen"], plainKeys := false, apart := false, narrowed := true }
def ViewWrongUptoSaid : Prop := viewWrongUptoRow.holds Tryz.pinned (OpenSpec.upto viewWrongSpec)

end Rows
end Go.Proofs.YtdfmgneicdpjmaaGreat
