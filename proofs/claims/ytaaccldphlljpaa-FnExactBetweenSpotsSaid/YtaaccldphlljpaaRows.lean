/-
  No cell of these rows narrows 'for every input' (looked for: loops, veiled, ifaces, maps, wideKeys, modest, calm, conditions, laid).
  DERIVED. THE GIVEN ROWS OF THIS SEAT. 12 by the template 'for every input the law returns true; each argument reads behind the call as it read before'; 0 by the template 'total and deterministic' (their statements: YtaaccldphlljpaaTotals.lean).
  GIVEN WITH THE SEED: the statements are not yours to turn. If you find one false, say at which input.
  Laid BY PROGRAM, IN A SANDBOX (cutbox-rows.mjs): the forced cells as the released guide's own fill.sh prints them over the translation d50ade1a0adcfb20… (all of the seat's roots in one cut). By AI agents, Wed Nov 11 2026. No macro, syntax, notation, axiom, sorry.
-/
import Derived.Test.YtaaccldphlljpaaChecked
import GoSem.Claim
import GoSem.ClaimJoined
import GoSem.ClaimMapViews
import Derived.JoinedTies
import Derived.KernelRfl
namespace Go.Proofs.Ytaaccldphlljpaa
/- THE CELL 'sum', in the pinned program and in every row, IS THE sha256 OF THE DUMP (.gsa) THAT YtaaccldphlljpaaProg.lean LOADS. Nothing in Lean hashes anything: it is a label: what it is worth is what the hold of that sum in a sandbox is worth. -/
noncomputable def Try.pinned : Pinned := { name := "ytaaccldphlljpaa", sum := "d50ade1a0adcfb20772677c4aa1164a5ff61b5cdab75a75aa5bec242866695e4", checked := Try.checked }
namespace Rows
def none {H : Type} : Left H := { results := [], args := [] }

/-- 'laws.FnExactConstants': WHATEVER THE INPUT: true; the input reads as it did. -/
def fnExactConstantsSpec : ChangeSpec := { name := "fnExactConstants", fn := fun _ => fun
  | [] => { results := [.lit (.bool true)], args := [] }
  | _ => none }
def fnExactConstantsRow : OpenClaim := { program := "ytaaccldphlljpaa", sum := "d50ade1a0adcfb20772677c4aa1164a5ff61b5cdab75a75aa5bec242866695e4", func := "loop.example/g00939/laws.FnExactConstants", spec := "fnExactConstants", apart := false }
def FnExactConstantsSaid : Prop := fnExactConstantsRow.holds Try.pinned (OpenSpec.ofChange fnExactConstantsSpec)

/-- ITS FALSE NEIGHBOUR: 'it returns false'. Refute it at one input. -/
def fnExactConstantsWrong : ChangeSpec := { name := "fnExactConstants", fn := fun _ => fun
  | [] => { results := [.lit (.bool false)], args := [] }
  | _ => none }
def FnExactConstantsWrongFalsely : Prop := fnExactConstantsRow.holds Try.pinned (OpenSpec.ofChange fnExactConstantsWrong)

/-- 'laws.FnExactIsSpot': WHATEVER THE INPUT: true; the input reads as it did. -/
def fnExactIsSpotSpec : ChangeSpec := { name := "fnExactIsSpot", fn := fun _ => fun
  | [d] => { results := [.lit (.bool true)], args := [d] }
  | _ => none }
def fnExactIsSpotRow : OpenClaim := { program := "ytaaccldphlljpaa", sum := "d50ade1a0adcfb20772677c4aa1164a5ff61b5cdab75a75aa5bec242866695e4", func := "loop.example/g00939/laws.FnExactIsSpot", spec := "fnExactIsSpot", apart := false }
def FnExactIsSpotSaid : Prop := fnExactIsSpotRow.holds Try.pinned (OpenSpec.ofChange fnExactIsSpotSpec)

/-- ITS FALSE NEIGHBOUR: 'it returns false'. Refute it at one input. -/
def fnExactIsSpotWrong : ChangeSpec := { name := "fnExactIsSpot", fn := fun _ => fun
  | [d] => { results := [.lit (.bool false)], args := [d] }
  | _ => none }
def FnExactIsSpotWrongFalsely : Prop := fnExactIsSpotRow.holds Try.pinned (OpenSpec.ofChange fnExactIsSpotWrong)

/-- 'laws.FnExactIsMove': WHATEVER THE INPUT: true; the input reads as it did. -/
def fnExactIsMoveSpec : ChangeSpec := { name := "fnExactIsMove", fn := fun _ => fun
  | [d] => { results := [.lit (.bool true)], args := [d] }
  | _ => none }
def fnExactIsMoveRow : OpenClaim := { program := "ytaaccldphlljpaa", sum := "d50ade1a0adcfb20772677c4aa1164a5ff61b5cdab75a75aa5bec242866695e4", func := "loop.example/g00939/laws.FnExactIsMove", spec := "fnExactIsMove", apart := false }
def FnExactIsMoveSaid : Prop := fnExactIsMoveRow.holds Try.pinned (OpenSpec.ofChange fnExactIsMoveSpec)

/-- ITS FALSE NEIGHBOUR: 'it returns false'. Refute it at one input. -/
def fnExactIsMoveWrong : ChangeSpec := { name := "fnExactIsMove", fn := fun _ => fun
  | [d] => { results := [.lit (.bool false)], args := [d] }
  | _ => none }
def FnExactIsMoveWrongFalsely : Prop := fnExactIsMoveRow.holds Try.pinned (OpenSpec.ofChange fnExactIsMoveWrong)

/-- 'laws.FnExactTempoFor': WHATEVER THE INPUT: true; the input reads as it did. -/
def fnExactTempoForSpec : ChangeSpec := { name := "fnExactTempoFor", fn := fun _ => fun
  | [d1, d2] => { results := [.lit (.bool true)], args := [d1, d2] }
  | _ => none }
def fnExactTempoForRow : OpenClaim := { program := "ytaaccldphlljpaa", sum := "d50ade1a0adcfb20772677c4aa1164a5ff61b5cdab75a75aa5bec242866695e4", func := "loop.example/g00939/laws.FnExactTempoFor", spec := "fnExactTempoFor", apart := false }
def FnExactTempoForSaid : Prop := fnExactTempoForRow.holds Try.pinned (OpenSpec.ofChange fnExactTempoForSpec)

/-- ITS FALSE NEIGHBOUR: 'it returns false'. Refute it at one input. -/
def fnExactTempoForWrong : ChangeSpec := { name := "fnExactTempoFor", fn := fun _ => fun
  | [d1, d2] => { results := [.lit (.bool false)], args := [d1, d2] }
  | _ => none }
def FnExactTempoForWrongFalsely : Prop := fnExactTempoForRow.holds Try.pinned (OpenSpec.ofChange fnExactTempoForWrong)

/-- 'laws.FnExactSquareOf': WHATEVER THE INPUT: true; the input reads as it did. -/
def fnExactSquareOfSpec : ChangeSpec := { name := "fnExactSquareOf", fn := fun _ => fun
  | [d1, d2] => { results := [.lit (.bool true)], args := [d1, d2] }
  | _ => none }
def fnExactSquareOfRow : OpenClaim := { program := "ytaaccldphlljpaa", sum := "d50ade1a0adcfb20772677c4aa1164a5ff61b5cdab75a75aa5bec242866695e4", func := "loop.example/g00939/laws.FnExactSquareOf", spec := "fnExactSquareOf", apart := false }
def FnExactSquareOfSaid : Prop := fnExactSquareOfRow.holds Try.pinned (OpenSpec.ofChange fnExactSquareOfSpec)

/-- ITS FALSE NEIGHBOUR: 'it returns false'. Refute it at one input. -/
def fnExactSquareOfWrong : ChangeSpec := { name := "fnExactSquareOf", fn := fun _ => fun
  | [d1, d2] => { results := [.lit (.bool false)], args := [d1, d2] }
  | _ => none }
def FnExactSquareOfWrongFalsely : Prop := fnExactSquareOfRow.holds Try.pinned (OpenSpec.ofChange fnExactSquareOfWrong)

/-- 'laws.FnExactNearArc': WHATEVER THE INPUT: true; the input reads as it did. -/
def fnExactNearArcSpec : ChangeSpec := { name := "fnExactNearArc", fn := fun _ => fun
  | [d1, d2, d3, d4] => { results := [.lit (.bool true)], args := [d1, d2, d3, d4] }
  | _ => none }
def fnExactNearArcRow : OpenClaim := { program := "ytaaccldphlljpaa", sum := "d50ade1a0adcfb20772677c4aa1164a5ff61b5cdab75a75aa5bec242866695e4", func := "loop.example/g00939/laws.FnExactNearArc", spec := "fnExactNearArc", apart := false }
def FnExactNearArcSaid : Prop := fnExactNearArcRow.holds Try.pinned (OpenSpec.ofChange fnExactNearArcSpec)

/-- ITS FALSE NEIGHBOUR: 'it returns false'. Refute it at one input. -/
def fnExactNearArcWrong : ChangeSpec := { name := "fnExactNearArc", fn := fun _ => fun
  | [d1, d2, d3, d4] => { results := [.lit (.bool false)], args := [d1, d2, d3, d4] }
  | _ => none }
def FnExactNearArcWrongFalsely : Prop := fnExactNearArcRow.holds Try.pinned (OpenSpec.ofChange fnExactNearArcWrong)

/-- 'laws.FnExactNearestStep': WHATEVER THE INPUT: true; the input reads as it did. -/
def fnExactNearestStepSpec : ChangeSpec := { name := "fnExactNearestStep", fn := fun _ => fun
  | [d] => { results := [.lit (.bool true)], args := [d] }
  | _ => none }
def fnExactNearestStepRow : OpenClaim := { program := "ytaaccldphlljpaa", sum := "d50ade1a0adcfb20772677c4aa1164a5ff61b5cdab75a75aa5bec242866695e4", func := "loop.example/g00939/laws.FnExactNearestStep", spec := "fnExactNearestStep", apart := false }
def FnExactNearestStepSaid : Prop := fnExactNearestStepRow.holds Try.pinned (OpenSpec.ofChange fnExactNearestStepSpec)

/-- ITS FALSE NEIGHBOUR: 'it returns false'. Refute it at one input. -/
def fnExactNearestStepWrong : ChangeSpec := { name := "fnExactNearestStep", fn := fun _ => fun
  | [d] => { results := [.lit (.bool false)], args := [d] }
  | _ => none }
def FnExactNearestStepWrongFalsely : Prop := fnExactNearestStepRow.holds Try.pinned (OpenSpec.ofChange fnExactNearestStepWrong)

/-- 'laws.FnExactMiddleOf': WHATEVER THE INPUT: true; the input reads as it did. -/
def fnExactMiddleOfSpec : ChangeSpec := { name := "fnExactMiddleOf", fn := fun _ => fun
  | [d1, d2] => { results := [.lit (.bool true)], args := [d1, d2] }
  | _ => none }
def fnExactMiddleOfRow : OpenClaim := { program := "ytaaccldphlljpaa", sum := "d50ade1a0adcfb20772677c4aa1164a5ff61b5cdab75a75aa5bec242866695e4", func := "loop.example/g00939/laws.FnExactMiddleOf", spec := "fnExactMiddleOf", apart := false }
def FnExactMiddleOfSaid : Prop := fnExactMiddleOfRow.holds Try.pinned (OpenSpec.ofChange fnExactMiddleOfSpec)

/-- ITS FALSE NEIGHBOUR: 'it returns false'. Refute it at one input. -/
def fnExactMiddleOfWrong : ChangeSpec := { name := "fnExactMiddleOf", fn := fun _ => fun
  | [d1, d2] => { results := [.lit (.bool false)], args := [d1, d2] }
  | _ => none }
def FnExactMiddleOfWrongFalsely : Prop := fnExactMiddleOfRow.holds Try.pinned (OpenSpec.ofChange fnExactMiddleOfWrong)

/-- 'laws.FnExactMirrorSpot': WHATEVER THE INPUT: true; the input reads as it did. -/
def fnExactMirrorSpotSpec : ChangeSpec := { name := "fnExactMirrorSpot", fn := fun _ => fun
  | [d] => { results := [.lit (.bool true)], args := [d] }
  | _ => none }
def fnExactMirrorSpotRow : OpenClaim := { program := "ytaaccldphlljpaa", sum := "d50ade1a0adcfb20772677c4aa1164a5ff61b5cdab75a75aa5bec242866695e4", func := "loop.example/g00939/laws.FnExactMirrorSpot", spec := "fnExactMirrorSpot", apart := false }
def FnExactMirrorSpotSaid : Prop := fnExactMirrorSpotRow.holds Try.pinned (OpenSpec.ofChange fnExactMirrorSpotSpec)

/-- ITS FALSE NEIGHBOUR: 'it returns false'. Refute it at one input. -/
def fnExactMirrorSpotWrong : ChangeSpec := { name := "fnExactMirrorSpot", fn := fun _ => fun
  | [d] => { results := [.lit (.bool false)], args := [d] }
  | _ => none }
def FnExactMirrorSpotWrongFalsely : Prop := fnExactMirrorSpotRow.holds Try.pinned (OpenSpec.ofChange fnExactMirrorSpotWrong)

/-- 'laws.FnExactRootOf': WHATEVER THE INPUT: true; the input reads as it did. -/
def fnExactRootOfSpec : ChangeSpec := { name := "fnExactRootOf", fn := fun _ => fun
  | [d] => { results := [.lit (.bool true)], args := [d] }
  | _ => none }
def fnExactRootOfRow : OpenClaim := { program := "ytaaccldphlljpaa", sum := "d50ade1a0adcfb20772677c4aa1164a5ff61b5cdab75a75aa5bec242866695e4", func := "loop.example/g00939/laws.FnExactRootOf", spec := "fnExactRootOf", apart := false }
def FnExactRootOfSaid : Prop := fnExactRootOfRow.holds Try.pinned (OpenSpec.ofChange fnExactRootOfSpec)

/-- ITS FALSE NEIGHBOUR: 'it returns false'. Refute it at one input. -/
def fnExactRootOfWrong : ChangeSpec := { name := "fnExactRootOf", fn := fun _ => fun
  | [d] => { results := [.lit (.bool false)], args := [d] }
  | _ => none }
def FnExactRootOfWrongFalsely : Prop := fnExactRootOfRow.holds Try.pinned (OpenSpec.ofChange fnExactRootOfWrong)

/-- 'laws.FnExactChordOf': WHATEVER THE INPUT: true; the input reads as it did. -/
def fnExactChordOfSpec : ChangeSpec := { name := "fnExactChordOf", fn := fun _ => fun
  | [d1, d2] => { results := [.lit (.bool true)], args := [d1, d2] }
  | _ => none }
def fnExactChordOfRow : OpenClaim := { program := "ytaaccldphlljpaa", sum := "d50ade1a0adcfb20772677c4aa1164a5ff61b5cdab75a75aa5bec242866695e4", func := "loop.example/g00939/laws.FnExactChordOf", spec := "fnExactChordOf", apart := false }
def FnExactChordOfSaid : Prop := fnExactChordOfRow.holds Try.pinned (OpenSpec.ofChange fnExactChordOfSpec)

/-- ITS FALSE NEIGHBOUR: 'it returns false'. Refute it at one input. -/
def fnExactChordOfWrong : ChangeSpec := { name := "fnExactChordOf", fn := fun _ => fun
  | [d1, d2] => { results := [.lit (.bool false)], args := [d1, d2] }
  | _ => none }
def FnExactChordOfWrongFalsely : Prop := fnExactChordOfRow.holds Try.pinned (OpenSpec.ofChange fnExactChordOfWrong)

/-- 'laws.FnExactBetweenSpots': WHATEVER THE INPUT: true; the input reads as it did. -/
def fnExactBetweenSpotsSpec : ChangeSpec := { name := "fnExactBetweenSpots", fn := fun _ => fun
  | [d1, d2, d3] => { results := [.lit (.bool true)], args := [d1, d2, d3] }
  | _ => none }
def fnExactBetweenSpotsRow : OpenClaim := { program := "ytaaccldphlljpaa", sum := "d50ade1a0adcfb20772677c4aa1164a5ff61b5cdab75a75aa5bec242866695e4", func := "loop.example/g00939/laws.FnExactBetweenSpots", spec := "fnExactBetweenSpots", apart := false }
def FnExactBetweenSpotsSaid : Prop := fnExactBetweenSpotsRow.holds Try.pinned (OpenSpec.ofChange fnExactBetweenSpotsSpec)

/-- ITS FALSE NEIGHBOUR: 'it returns false'. Refute it at one input. -/
def fnExactBetweenSpotsWrong : ChangeSpec := { name := "fnExactBetweenSpots", fn := fun _ => fun
  | [d1, d2, d3] => { results := [.lit (.bool false)], args := [d1, d2, d3] }
  | _ => none }
def FnExactBetweenSpotsWrongFalsely : Prop := fnExactBetweenSpotsRow.holds Try.pinned (OpenSpec.ofChange fnExactBetweenSpotsWrong)

/- THE SECOND FORM. 'bulk': how many values and letters a reading holds, each counted each time it is reached (what is shared counts as often as it is met; a slice's spare places count too). A statement '..UptoSaid' is the law's where the arguments, and the package variables that the reading takes, are together of bulk at most 1048576: NARROWER than '..Said'. Prove '..Said' where nothing that the law and all that it calls make is longer than what came in: it says more and counts as full. Else prove '..UptoSaid'. A law counts once. -/
mutual
def uptoBulk {H : Type} : DataW H → Nat
  | .lit (.string bytes) => bytes.length + 1
  | .lit _ => 1
  | .nil => 1
  | .ptr d => uptoBulk d + 1
  | .slice elems spare => uptoBulkAll elems + uptoBulkAll spare + 1
  | .agg parts => uptoBulkAll parts + 1
  | .iface _ d => uptoBulk d + 1
  | .map entries => uptoBulkEntries entries + 1
  | .held _ => 1
def uptoBulkAll {H : Type} : List (DataW H) → Nat
  | [] => 0
  | d :: r => uptoBulk d + uptoBulkAll r
def uptoBulkEntries {H : Type} : List (Lit × DataW H) → Nat
  | [] => 0
  | x :: r => uptoBulkEntry x + uptoBulkEntries r
def uptoBulkEntry {H : Type} : Lit × DataW H → Nat
  | (.string bytes, d) => bytes.length + uptoBulk d + 1
  | (_, d) => uptoBulk d + 1
 end
def uptoSmall : (H : Type) → List (DataW H) → Bool := fun _ ds => decide (uptoBulkAll ds ≤ 1048576)
def OpenSpec.upto (s : _root_.Go.ChangeSpec) : _root_.Go.OpenSpec := { _root_.Go.OpenSpec.ofChange s with cond := some uptoSmall }

/-- 'laws.FnExactConstants', WHERE WHAT IT READS IS OF BULK AT MOST 1048576: true; the input reads as it did. -/
def fnExactConstantsUptoRow : OpenClaim := { program := "ytaaccldphlljpaa", sum := "d50ade1a0adcfb20772677c4aa1164a5ff61b5cdab75a75aa5bec242866695e4", func := "loop.example/g00939/laws.FnExactConstants", spec := "fnExactConstants", apart := false, narrowed := true }
def FnExactConstantsUptoSaid : Prop := fnExactConstantsUptoRow.holds Try.pinned (OpenSpec.upto fnExactConstantsSpec)

/-- 'laws.FnExactIsSpot', WHERE WHAT IT READS IS OF BULK AT MOST 1048576: true; the input reads as it did. -/
def fnExactIsSpotUptoRow : OpenClaim := { program := "ytaaccldphlljpaa", sum := "d50ade1a0adcfb20772677c4aa1164a5ff61b5cdab75a75aa5bec242866695e4", func := "loop.example/g00939/laws.FnExactIsSpot", spec := "fnExactIsSpot", apart := false, narrowed := true }
def FnExactIsSpotUptoSaid : Prop := fnExactIsSpotUptoRow.holds Try.pinned (OpenSpec.upto fnExactIsSpotSpec)

/-- 'laws.FnExactIsMove', WHERE WHAT IT READS IS OF BULK AT MOST 1048576: true; the input reads as it did. -/
def fnExactIsMoveUptoRow : OpenClaim := { program := "ytaaccldphlljpaa", sum := "d50ade1a0adcfb20772677c4aa1164a5ff61b5cdab75a75aa5bec242866695e4", func := "loop.example/g00939/laws.FnExactIsMove", spec := "fnExactIsMove", apart := false, narrowed := true }
def FnExactIsMoveUptoSaid : Prop := fnExactIsMoveUptoRow.holds Try.pinned (OpenSpec.upto fnExactIsMoveSpec)

/-- 'laws.FnExactTempoFor', WHERE WHAT IT READS IS OF BULK AT MOST 1048576: true; the input reads as it did. -/
def fnExactTempoForUptoRow : OpenClaim := { program := "ytaaccldphlljpaa", sum := "d50ade1a0adcfb20772677c4aa1164a5ff61b5cdab75a75aa5bec242866695e4", func := "loop.example/g00939/laws.FnExactTempoFor", spec := "fnExactTempoFor", apart := false, narrowed := true }
def FnExactTempoForUptoSaid : Prop := fnExactTempoForUptoRow.holds Try.pinned (OpenSpec.upto fnExactTempoForSpec)

/-- 'laws.FnExactSquareOf', WHERE WHAT IT READS IS OF BULK AT MOST 1048576: true; the input reads as it did. -/
def fnExactSquareOfUptoRow : OpenClaim := { program := "ytaaccldphlljpaa", sum := "d50ade1a0adcfb20772677c4aa1164a5ff61b5cdab75a75aa5bec242866695e4", func := "loop.example/g00939/laws.FnExactSquareOf", spec := "fnExactSquareOf", apart := false, narrowed := true }
def FnExactSquareOfUptoSaid : Prop := fnExactSquareOfUptoRow.holds Try.pinned (OpenSpec.upto fnExactSquareOfSpec)

/-- 'laws.FnExactNearArc', WHERE WHAT IT READS IS OF BULK AT MOST 1048576: true; the input reads as it did. -/
def fnExactNearArcUptoRow : OpenClaim := { program := "ytaaccldphlljpaa", sum := "d50ade1a0adcfb20772677c4aa1164a5ff61b5cdab75a75aa5bec242866695e4", func := "loop.example/g00939/laws.FnExactNearArc", spec := "fnExactNearArc", apart := false, narrowed := true }
def FnExactNearArcUptoSaid : Prop := fnExactNearArcUptoRow.holds Try.pinned (OpenSpec.upto fnExactNearArcSpec)

/-- 'laws.FnExactNearestStep', WHERE WHAT IT READS IS OF BULK AT MOST 1048576: true; the input reads as it did. -/
def fnExactNearestStepUptoRow : OpenClaim := { program := "ytaaccldphlljpaa", sum := "d50ade1a0adcfb20772677c4aa1164a5ff61b5cdab75a75aa5bec242866695e4", func := "loop.example/g00939/laws.FnExactNearestStep", spec := "fnExactNearestStep", apart := false, narrowed := true }
def FnExactNearestStepUptoSaid : Prop := fnExactNearestStepUptoRow.holds Try.pinned (OpenSpec.upto fnExactNearestStepSpec)

/-- 'laws.FnExactMiddleOf', WHERE WHAT IT READS IS OF BULK AT MOST 1048576: true; the input reads as it did. -/
def fnExactMiddleOfUptoRow : OpenClaim := { program := "ytaaccldphlljpaa", sum := "d50ade1a0adcfb20772677c4aa1164a5ff61b5cdab75a75aa5bec242866695e4", func := "loop.example/g00939/laws.FnExactMiddleOf", spec := "fnExactMiddleOf", apart := false, narrowed := true }
def FnExactMiddleOfUptoSaid : Prop := fnExactMiddleOfUptoRow.holds Try.pinned (OpenSpec.upto fnExactMiddleOfSpec)

/-- 'laws.FnExactMirrorSpot', WHERE WHAT IT READS IS OF BULK AT MOST 1048576: true; the input reads as it did. -/
def fnExactMirrorSpotUptoRow : OpenClaim := { program := "ytaaccldphlljpaa", sum := "d50ade1a0adcfb20772677c4aa1164a5ff61b5cdab75a75aa5bec242866695e4", func := "loop.example/g00939/laws.FnExactMirrorSpot", spec := "fnExactMirrorSpot", apart := false, narrowed := true }
def FnExactMirrorSpotUptoSaid : Prop := fnExactMirrorSpotUptoRow.holds Try.pinned (OpenSpec.upto fnExactMirrorSpotSpec)

/-- 'laws.FnExactRootOf', WHERE WHAT IT READS IS OF BULK AT MOST 1048576: true; the input reads as it did. -/
def fnExactRootOfUptoRow : OpenClaim := { program := "ytaaccldphlljpaa", sum := "d50ade1a0adcfb20772677c4aa1164a5ff61b5cdab75a75aa5bec242866695e4", func := "loop.example/g00939/laws.FnExactRootOf", spec := "fnExactRootOf", apart := false, narrowed := true }
def FnExactRootOfUptoSaid : Prop := fnExactRootOfUptoRow.holds Try.pinned (OpenSpec.upto fnExactRootOfSpec)

/-- 'laws.FnExactChordOf', WHERE WHAT IT READS IS OF BULK AT MOST 1048576: true; the input reads as it did. -/
def fnExactChordOfUptoRow : OpenClaim := { program := "ytaaccldphlljpaa", sum := "d50ade1a0adcfb20772677c4aa1164a5ff61b5cdab75a75aa5bec242866695e4", func := "loop.example/g00939/laws.FnExactChordOf", spec := "fnExactChordOf", apart := false, narrowed := true }
def FnExactChordOfUptoSaid : Prop := fnExactChordOfUptoRow.holds Try.pinned (OpenSpec.upto fnExactChordOfSpec)

/-- 'laws.FnExactBetweenSpots', WHERE WHAT IT READS IS OF BULK AT MOST 1048576: true; the input reads as it did. -/
def fnExactBetweenSpotsUptoRow : OpenClaim := { program := "ytaaccldphlljpaa", sum := "d50ade1a0adcfb20772677c4aa1164a5ff61b5cdab75a75aa5bec242866695e4", func := "loop.example/g00939/laws.FnExactBetweenSpots", spec := "fnExactBetweenSpots", apart := false, narrowed := true }
def FnExactBetweenSpotsUptoSaid : Prop := fnExactBetweenSpotsUptoRow.holds Try.pinned (OpenSpec.upto fnExactBetweenSpotsSpec)

end Rows
end Go.Proofs.Ytaaccldphlljpaa
