/-
  No cell of these rows narrows 'for every input' (looked for: loops, veiled, ifaces, maps, wideKeys, modest, calm, conditions, laid).
  DERIVED. THE GIVEN ROWS OF THIS SEAT. 12 by the template 'for every input the law returns true; each argument reads behind the call as it read before'; 0 by the template 'total and deterministic' (their statements: YthmcpemcmghelaaTotals.lean).
  GIVEN WITH THE SEED: the statements are not yours to turn. If you find one false, say at which input.
  Laid BY PROGRAM, IN A SANDBOX (cutbox-rows.mjs): the forced cells as the released guide's own fill.sh prints them over the translation cc9f98bab18da7a2… (all of the seat's roots in one cut). By AI agents, Wed Nov 11 2026. No macro, syntax, notation, axiom, sorry.
-/
import Derived.Test.YthmcpemcmghelaaChecked
import GoSem.Claim
import GoSem.ClaimJoined
import GoSem.ClaimMapViews
import Derived.JoinedTies
import Derived.KernelRfl
namespace Go.Proofs.Ythmcpemcmghelaa
/- THE CELL 'sum', in the pinned program and in every row, IS THE sha256 OF THE DUMP (.gsa) THAT YthmcpemcmghelaaProg.lean LOADS. Nothing in Lean hashes anything: it is a label: what it is worth is what the hold of that sum in a sandbox is worth. -/
noncomputable def Try.pinned : Pinned := { name := "ythmcpemcmghelaa", sum := "cc9f98bab18da7a22b564afd49c8b7e4535c0e60a95b8a2d4458acbb16f87dae", checked := Try.checked }
namespace Rows
def none {H : Type} : Left H := { results := [], args := [] }

/-- 'laws.FnExactMoveSpot': WHATEVER THE INPUT: true; the input reads as it did. -/
def fnExactMoveSpotSpec : ChangeSpec := { name := "fnExactMoveSpot", fn := fun _ => fun
  | [d1, d2, d3] => { results := [.lit (.bool true)], args := [d1, d2, d3] }
  | _ => none }
def fnExactMoveSpotRow : OpenClaim := { program := "ythmcpemcmghelaa", sum := "cc9f98bab18da7a22b564afd49c8b7e4535c0e60a95b8a2d4458acbb16f87dae", func := "loop.example/g00939/laws.FnExactMoveSpot", spec := "fnExactMoveSpot", apart := false }
def FnExactMoveSpotSaid : Prop := fnExactMoveSpotRow.holds Try.pinned (OpenSpec.ofChange fnExactMoveSpotSpec)

/-- ITS FALSE NEIGHBOUR: 'it returns false'. Refute it at one input. -/
def fnExactMoveSpotWrong : ChangeSpec := { name := "fnExactMoveSpot", fn := fun _ => fun
  | [d1, d2, d3] => { results := [.lit (.bool false)], args := [d1, d2, d3] }
  | _ => none }
def FnExactMoveSpotWrongFalsely : Prop := fnExactMoveSpotRow.holds Try.pinned (OpenSpec.ofChange fnExactMoveSpotWrong)

/-- 'laws.FnExactLeastCounts': WHATEVER THE INPUT: true; the input reads as it did. -/
def fnExactLeastCountsSpec : ChangeSpec := { name := "fnExactLeastCounts", fn := fun _ => fun
  | [d1, d2, d3] => { results := [.lit (.bool true)], args := [d1, d2, d3] }
  | _ => none }
def fnExactLeastCountsRow : OpenClaim := { program := "ythmcpemcmghelaa", sum := "cc9f98bab18da7a22b564afd49c8b7e4535c0e60a95b8a2d4458acbb16f87dae", func := "loop.example/g00939/laws.FnExactLeastCounts", spec := "fnExactLeastCounts", apart := false }
def FnExactLeastCountsSaid : Prop := fnExactLeastCountsRow.holds Try.pinned (OpenSpec.ofChange fnExactLeastCountsSpec)

/-- ITS FALSE NEIGHBOUR: 'it returns false'. Refute it at one input. -/
def fnExactLeastCountsWrong : ChangeSpec := { name := "fnExactLeastCounts", fn := fun _ => fun
  | [d1, d2, d3] => { results := [.lit (.bool false)], args := [d1, d2, d3] }
  | _ => none }
def FnExactLeastCountsWrongFalsely : Prop := fnExactLeastCountsRow.holds Try.pinned (OpenSpec.ofChange fnExactLeastCountsWrong)

/-- 'laws.FnExactPlaceAt': WHATEVER THE INPUT: true; the input reads as it did. -/
def fnExactPlaceAtSpec : ChangeSpec := { name := "fnExactPlaceAt", fn := fun _ => fun
  | [d1, d2] => { results := [.lit (.bool true)], args := [d1, d2] }
  | _ => none }
def fnExactPlaceAtRow : OpenClaim := { program := "ythmcpemcmghelaa", sum := "cc9f98bab18da7a22b564afd49c8b7e4535c0e60a95b8a2d4458acbb16f87dae", func := "loop.example/g00939/laws.FnExactPlaceAt", spec := "fnExactPlaceAt", apart := false }
def FnExactPlaceAtSaid : Prop := fnExactPlaceAtRow.holds Try.pinned (OpenSpec.ofChange fnExactPlaceAtSpec)

/-- ITS FALSE NEIGHBOUR: 'it returns false'. Refute it at one input. -/
def fnExactPlaceAtWrong : ChangeSpec := { name := "fnExactPlaceAt", fn := fun _ => fun
  | [d1, d2] => { results := [.lit (.bool false)], args := [d1, d2] }
  | _ => none }
def FnExactPlaceAtWrongFalsely : Prop := fnExactPlaceAtRow.holds Try.pinned (OpenSpec.ofChange fnExactPlaceAtWrong)

/-- 'laws.FnExactWithinStep': WHATEVER THE INPUT: true; the input reads as it did. -/
def fnExactWithinStepSpec : ChangeSpec := { name := "fnExactWithinStep", fn := fun _ => fun
  | [d1, d2] => { results := [.lit (.bool true)], args := [d1, d2] }
  | _ => none }
def fnExactWithinStepRow : OpenClaim := { program := "ythmcpemcmghelaa", sum := "cc9f98bab18da7a22b564afd49c8b7e4535c0e60a95b8a2d4458acbb16f87dae", func := "loop.example/g00939/laws.FnExactWithinStep", spec := "fnExactWithinStep", apart := false }
def FnExactWithinStepSaid : Prop := fnExactWithinStepRow.holds Try.pinned (OpenSpec.ofChange fnExactWithinStepSpec)

/-- ITS FALSE NEIGHBOUR: 'it returns false'. Refute it at one input. -/
def fnExactWithinStepWrong : ChangeSpec := { name := "fnExactWithinStep", fn := fun _ => fun
  | [d1, d2] => { results := [.lit (.bool false)], args := [d1, d2] }
  | _ => none }
def FnExactWithinStepWrongFalsely : Prop := fnExactWithinStepRow.holds Try.pinned (OpenSpec.ofChange fnExactWithinStepWrong)

/-- 'laws.FnExactQuarterTurn': WHATEVER THE INPUT: true; the input reads as it did. -/
def fnExactQuarterTurnSpec : ChangeSpec := { name := "fnExactQuarterTurn", fn := fun _ => fun
  | [d1, d2] => { results := [.lit (.bool true)], args := [d1, d2] }
  | _ => none }
def fnExactQuarterTurnRow : OpenClaim := { program := "ythmcpemcmghelaa", sum := "cc9f98bab18da7a22b564afd49c8b7e4535c0e60a95b8a2d4458acbb16f87dae", func := "loop.example/g00939/laws.FnExactQuarterTurn", spec := "fnExactQuarterTurn", apart := false }
def FnExactQuarterTurnSaid : Prop := fnExactQuarterTurnRow.holds Try.pinned (OpenSpec.ofChange fnExactQuarterTurnSpec)

/-- ITS FALSE NEIGHBOUR: 'it returns false'. Refute it at one input. -/
def fnExactQuarterTurnWrong : ChangeSpec := { name := "fnExactQuarterTurn", fn := fun _ => fun
  | [d1, d2] => { results := [.lit (.bool false)], args := [d1, d2] }
  | _ => none }
def FnExactQuarterTurnWrongFalsely : Prop := fnExactQuarterTurnRow.holds Try.pinned (OpenSpec.ofChange fnExactQuarterTurnWrong)

/-- 'laws.FnExactReverseMove': WHATEVER THE INPUT: true; the input reads as it did. -/
def fnExactReverseMoveSpec : ChangeSpec := { name := "fnExactReverseMove", fn := fun _ => fun
  | [d] => { results := [.lit (.bool true)], args := [d] }
  | _ => none }
def fnExactReverseMoveRow : OpenClaim := { program := "ythmcpemcmghelaa", sum := "cc9f98bab18da7a22b564afd49c8b7e4535c0e60a95b8a2d4458acbb16f87dae", func := "loop.example/g00939/laws.FnExactReverseMove", spec := "fnExactReverseMove", apart := false }
def FnExactReverseMoveSaid : Prop := fnExactReverseMoveRow.holds Try.pinned (OpenSpec.ofChange fnExactReverseMoveSpec)

/-- ITS FALSE NEIGHBOUR: 'it returns false'. Refute it at one input. -/
def fnExactReverseMoveWrong : ChangeSpec := { name := "fnExactReverseMove", fn := fun _ => fun
  | [d] => { results := [.lit (.bool false)], args := [d] }
  | _ => none }
def FnExactReverseMoveWrongFalsely : Prop := fnExactReverseMoveRow.holds Try.pinned (OpenSpec.ofChange fnExactReverseMoveWrong)

/-- 'laws.FnExactRadiusOf': WHATEVER THE INPUT: true; the input reads as it did. -/
def fnExactRadiusOfSpec : ChangeSpec := { name := "fnExactRadiusOf", fn := fun _ => fun
  | [d1, d2] => { results := [.lit (.bool true)], args := [d1, d2] }
  | _ => none }
def fnExactRadiusOfRow : OpenClaim := { program := "ythmcpemcmghelaa", sum := "cc9f98bab18da7a22b564afd49c8b7e4535c0e60a95b8a2d4458acbb16f87dae", func := "loop.example/g00939/laws.FnExactRadiusOf", spec := "fnExactRadiusOf", apart := false }
def FnExactRadiusOfSaid : Prop := fnExactRadiusOfRow.holds Try.pinned (OpenSpec.ofChange fnExactRadiusOfSpec)

/-- ITS FALSE NEIGHBOUR: 'it returns false'. Refute it at one input. -/
def fnExactRadiusOfWrong : ChangeSpec := { name := "fnExactRadiusOf", fn := fun _ => fun
  | [d1, d2] => { results := [.lit (.bool false)], args := [d1, d2] }
  | _ => none }
def FnExactRadiusOfWrongFalsely : Prop := fnExactRadiusOfRow.holds Try.pinned (OpenSpec.ofChange fnExactRadiusOfWrong)

/-- 'laws.FnExactStepSquare': WHATEVER THE INPUT: true; the input reads as it did. -/
def fnExactStepSquareSpec : ChangeSpec := { name := "fnExactStepSquare", fn := fun _ => fun
  | [d] => { results := [.lit (.bool true)], args := [d] }
  | _ => none }
def fnExactStepSquareRow : OpenClaim := { program := "ythmcpemcmghelaa", sum := "cc9f98bab18da7a22b564afd49c8b7e4535c0e60a95b8a2d4458acbb16f87dae", func := "loop.example/g00939/laws.FnExactStepSquare", spec := "fnExactStepSquare", apart := false }
def FnExactStepSquareSaid : Prop := fnExactStepSquareRow.holds Try.pinned (OpenSpec.ofChange fnExactStepSquareSpec)

/-- ITS FALSE NEIGHBOUR: 'it returns false'. Refute it at one input. -/
def fnExactStepSquareWrong : ChangeSpec := { name := "fnExactStepSquare", fn := fun _ => fun
  | [d] => { results := [.lit (.bool false)], args := [d] }
  | _ => none }
def FnExactStepSquareWrongFalsely : Prop := fnExactStepSquareRow.holds Try.pinned (OpenSpec.ofChange fnExactStepSquareWrong)

/-- 'laws.FnExactRoundedAt': WHATEVER THE INPUT: true; the input reads as it did. -/
def fnExactRoundedAtSpec : ChangeSpec := { name := "fnExactRoundedAt", fn := fun _ => fun
  | [d1, d2] => { results := [.lit (.bool true)], args := [d1, d2] }
  | _ => none }
def fnExactRoundedAtRow : OpenClaim := { program := "ythmcpemcmghelaa", sum := "cc9f98bab18da7a22b564afd49c8b7e4535c0e60a95b8a2d4458acbb16f87dae", func := "loop.example/g00939/laws.FnExactRoundedAt", spec := "fnExactRoundedAt", apart := false }
def FnExactRoundedAtSaid : Prop := fnExactRoundedAtRow.holds Try.pinned (OpenSpec.ofChange fnExactRoundedAtSpec)

/-- ITS FALSE NEIGHBOUR: 'it returns false'. Refute it at one input. -/
def fnExactRoundedAtWrong : ChangeSpec := { name := "fnExactRoundedAt", fn := fun _ => fun
  | [d1, d2] => { results := [.lit (.bool false)], args := [d1, d2] }
  | _ => none }
def FnExactRoundedAtWrongFalsely : Prop := fnExactRoundedAtRow.holds Try.pinned (OpenSpec.ofChange fnExactRoundedAtWrong)

/-- 'laws.FnExactMiddleOfCircle': WHATEVER THE INPUT: true; the input reads as it did. -/
def fnExactMiddleOfCircleSpec : ChangeSpec := { name := "fnExactMiddleOfCircle", fn := fun _ => fun
  | [d1, d2, d3] => { results := [.lit (.bool true)], args := [d1, d2, d3] }
  | _ => none }
def fnExactMiddleOfCircleRow : OpenClaim := { program := "ythmcpemcmghelaa", sum := "cc9f98bab18da7a22b564afd49c8b7e4535c0e60a95b8a2d4458acbb16f87dae", func := "loop.example/g00939/laws.FnExactMiddleOfCircle", spec := "fnExactMiddleOfCircle", apart := false }
def FnExactMiddleOfCircleSaid : Prop := fnExactMiddleOfCircleRow.holds Try.pinned (OpenSpec.ofChange fnExactMiddleOfCircleSpec)

/-- ITS FALSE NEIGHBOUR: 'it returns false'. Refute it at one input. -/
def fnExactMiddleOfCircleWrong : ChangeSpec := { name := "fnExactMiddleOfCircle", fn := fun _ => fun
  | [d1, d2, d3] => { results := [.lit (.bool false)], args := [d1, d2, d3] }
  | _ => none }
def FnExactMiddleOfCircleWrongFalsely : Prop := fnExactMiddleOfCircleRow.holds Try.pinned (OpenSpec.ofChange fnExactMiddleOfCircleWrong)

/-- 'laws.FnExactOnArc': WHATEVER THE INPUT: true; the input reads as it did. -/
def fnExactOnArcSpec : ChangeSpec := { name := "fnExactOnArc", fn := fun _ => fun
  | [d1, d2, d3] => { results := [.lit (.bool true)], args := [d1, d2, d3] }
  | _ => none }
def fnExactOnArcRow : OpenClaim := { program := "ythmcpemcmghelaa", sum := "cc9f98bab18da7a22b564afd49c8b7e4535c0e60a95b8a2d4458acbb16f87dae", func := "loop.example/g00939/laws.FnExactOnArc", spec := "fnExactOnArc", apart := false }
def FnExactOnArcSaid : Prop := fnExactOnArcRow.holds Try.pinned (OpenSpec.ofChange fnExactOnArcSpec)

/-- ITS FALSE NEIGHBOUR: 'it returns false'. Refute it at one input. -/
def fnExactOnArcWrong : ChangeSpec := { name := "fnExactOnArc", fn := fun _ => fun
  | [d1, d2, d3] => { results := [.lit (.bool false)], args := [d1, d2, d3] }
  | _ => none }
def FnExactOnArcWrongFalsely : Prop := fnExactOnArcRow.holds Try.pinned (OpenSpec.ofChange fnExactOnArcWrong)

/-- 'laws.FnExactSplitMove': WHATEVER THE INPUT: true; the input reads as it did. -/
def fnExactSplitMoveSpec : ChangeSpec := { name := "fnExactSplitMove", fn := fun _ => fun
  | [d1, d2] => { results := [.lit (.bool true)], args := [d1, d2] }
  | _ => none }
def fnExactSplitMoveRow : OpenClaim := { program := "ythmcpemcmghelaa", sum := "cc9f98bab18da7a22b564afd49c8b7e4535c0e60a95b8a2d4458acbb16f87dae", func := "loop.example/g00939/laws.FnExactSplitMove", spec := "fnExactSplitMove", apart := false }
def FnExactSplitMoveSaid : Prop := fnExactSplitMoveRow.holds Try.pinned (OpenSpec.ofChange fnExactSplitMoveSpec)

/-- ITS FALSE NEIGHBOUR: 'it returns false'. Refute it at one input. -/
def fnExactSplitMoveWrong : ChangeSpec := { name := "fnExactSplitMove", fn := fun _ => fun
  | [d1, d2] => { results := [.lit (.bool false)], args := [d1, d2] }
  | _ => none }
def FnExactSplitMoveWrongFalsely : Prop := fnExactSplitMoveRow.holds Try.pinned (OpenSpec.ofChange fnExactSplitMoveWrong)

/- THE SECOND FORM. 'bulk': how many values and letters a reading holds, each counted each time it is reached (what is shared counts as often as it is met; a slice's spare places count too). A statement '..UptoSaid' is the law's where the arguments, and the package variables that the reading takes, are together of bulk at most 1048576: NARROWER than '..Said'. Prove '..Said' where nothing that the law and all that it calls make is longer than what came in: it says more and counts as full. Else prove '..UptoSaid'. A law counts once. -/
mutual
def uptoBulk {H : Type} : DataW H → Nat
  | .lit (.string bytes) => bytes.length + 1
  | .lit _ => 1
  | .nil => 1
  | .ptr d => uptoBulk d + 1
  | .slice elems spare => uptoBulkAll elems + uptoBulkAll spare + 1
  | .agg parts => uptoBulkAll parts + 1
  | .iface _ d => uptoBulk d + 1
  | .map entries => uptoBulkEntries entries + 1
  | .held _ => 1
def uptoBulkAll {H : Type} : List (DataW H) → Nat
  | [] => 0
  | d :: r => uptoBulk d + uptoBulkAll r
def uptoBulkEntries {H : Type} : List (Lit × DataW H) → Nat
  | [] => 0
  | x :: r => uptoBulkEntry x + uptoBulkEntries r
def uptoBulkEntry {H : Type} : Lit × DataW H → Nat
  | (.string bytes, d) => bytes.length + uptoBulk d + 1
  | (_, d) => uptoBulk d + 1
 end
def uptoSmall : (H : Type) → List (DataW H) → Bool := fun _ ds => decide (uptoBulkAll ds ≤ 1048576)
def OpenSpec.upto (s : _root_.Go.ChangeSpec) : _root_.Go.OpenSpec := { _root_.Go.OpenSpec.ofChange s with cond := some uptoSmall }

/-- 'laws.FnExactMoveSpot', WHERE WHAT IT READS IS OF BULK AT MOST 1048576: true; the input reads as it did. -/
def fnExactMoveSpotUptoRow : OpenClaim := { program := "ythmcpemcmghelaa", sum := "cc9f98bab18da7a22b564afd49c8b7e4535c0e60a95b8a2d4458acbb16f87dae", func := "loop.example/g00939/laws.FnExactMoveSpot", spec := "fnExactMoveSpot", apart := false, narrowed := true }
def FnExactMoveSpotUptoSaid : Prop := fnExactMoveSpotUptoRow.holds Try.pinned (OpenSpec.upto fnExactMoveSpotSpec)

/-- 'laws.FnExactLeastCounts', WHERE WHAT IT READS IS OF BULK AT MOST 1048576: true; the input reads as it did. -/
def fnExactLeastCountsUptoRow : OpenClaim := { program := "ythmcpemcmghelaa", sum := "cc9f98bab18da7a22b564afd49c8b7e4535c0e60a95b8a2d4458acbb16f87dae", func := "loop.example/g00939/laws.FnExactLeastCounts", spec := "fnExactLeastCounts", apart := false, narrowed := true }
def FnExactLeastCountsUptoSaid : Prop := fnExactLeastCountsUptoRow.holds Try.pinned (OpenSpec.upto fnExactLeastCountsSpec)

/-- 'laws.FnExactPlaceAt', WHERE WHAT IT READS IS OF BULK AT MOST 1048576: true; the input reads as it did. -/
def fnExactPlaceAtUptoRow : OpenClaim := { program := "ythmcpemcmghelaa", sum := "cc9f98bab18da7a22b564afd49c8b7e4535c0e60a95b8a2d4458acbb16f87dae", func := "loop.example/g00939/laws.FnExactPlaceAt", spec := "fnExactPlaceAt", apart := false, narrowed := true }
def FnExactPlaceAtUptoSaid : Prop := fnExactPlaceAtUptoRow.holds Try.pinned (OpenSpec.upto fnExactPlaceAtSpec)

/-- 'laws.FnExactWithinStep', WHERE WHAT IT READS IS OF BULK AT MOST 1048576: true; the input reads as it did. -/
def fnExactWithinStepUptoRow : OpenClaim := { program := "ythmcpemcmghelaa", sum := "cc9f98bab18da7a22b564afd49c8b7e4535c0e60a95b8a2d4458acbb16f87dae", func := "loop.example/g00939/laws.FnExactWithinStep", spec := "fnExactWithinStep", apart := false, narrowed := true }
def FnExactWithinStepUptoSaid : Prop := fnExactWithinStepUptoRow.holds Try.pinned (OpenSpec.upto fnExactWithinStepSpec)

/-- 'laws.FnExactQuarterTurn', WHERE WHAT IT READS IS OF BULK AT MOST 1048576: true; the input reads as it did. -/
def fnExactQuarterTurnUptoRow : OpenClaim := { program := "ythmcpemcmghelaa", sum := "cc9f98bab18da7a22b564afd49c8b7e4535c0e60a95b8a2d4458acbb16f87dae", func := "loop.example/g00939/laws.FnExactQuarterTurn", spec := "fnExactQuarterTurn", apart := false, narrowed := true }
def FnExactQuarterTurnUptoSaid : Prop := fnExactQuarterTurnUptoRow.holds Try.pinned (OpenSpec.upto fnExactQuarterTurnSpec)

/-- 'laws.FnExactReverseMove', WHERE WHAT IT READS IS OF BULK AT MOST 1048576: true; the input reads as it did. -/
def fnExactReverseMoveUptoRow : OpenClaim := { program := "ythmcpemcmghelaa", sum := "cc9f98bab18da7a22b564afd49c8b7e4535c0e60a95b8a2d4458acbb16f87dae", func := "loop.example/g00939/laws.FnExactReverseMove", spec := "fnExactReverseMove", apart := false, narrowed := true }
def FnExactReverseMoveUptoSaid : Prop := fnExactReverseMoveUptoRow.holds Try.pinned (OpenSpec.upto fnExactReverseMoveSpec)

/-- 'laws.FnExactRadiusOf', WHERE WHAT IT READS IS OF BULK AT MOST 1048576: true; the input reads as it did. -/
def fnExactRadiusOfUptoRow : OpenClaim := { program := "ythmcpemcmghelaa", sum := "cc9f98bab18da7a22b564afd49c8b7e4535c0e60a95b8a2d4458acbb16f87dae", func := "loop.example/g00939/laws.FnExactRadiusOf", spec := "fnExactRadiusOf", apart := false, narrowed := true }
def FnExactRadiusOfUptoSaid : Prop := fnExactRadiusOfUptoRow.holds Try.pinned (OpenSpec.upto fnExactRadiusOfSpec)

/-- 'laws.FnExactStepSquare', WHERE WHAT IT READS IS OF BULK AT MOST 1048576: true; the input reads as it did. -/
def fnExactStepSquareUptoRow : OpenClaim := { program := "ythmcpemcmghelaa", sum := "cc9f98bab18da7a22b564afd49c8b7e4535c0e60a95b8a2d4458acbb16f87dae", func := "loop.example/g00939/laws.FnExactStepSquare", spec := "fnExactStepSquare", apart := false, narrowed := true }
def FnExactStepSquareUptoSaid : Prop := fnExactStepSquareUptoRow.holds Try.pinned (OpenSpec.upto fnExactStepSquareSpec)

/-- 'laws.FnExactRoundedAt', WHERE WHAT IT READS IS OF BULK AT MOST 1048576: true; the input reads as it did. -/
def fnExactRoundedAtUptoRow : OpenClaim := { program := "ythmcpemcmghelaa", sum := "cc9f98bab18da7a22b564afd49c8b7e4535c0e60a95b8a2d4458acbb16f87dae", func := "loop.example/g00939/laws.FnExactRoundedAt", spec := "fnExactRoundedAt", apart := false, narrowed := true }
def FnExactRoundedAtUptoSaid : Prop := fnExactRoundedAtUptoRow.holds Try.pinned (OpenSpec.upto fnExactRoundedAtSpec)

/-- 'laws.FnExactMiddleOfCircle', WHERE WHAT IT READS IS OF BULK AT MOST 1048576: true; the input reads as it did. -/
def fnExactMiddleOfCircleUptoRow : OpenClaim := { program := "ythmcpemcmghelaa", sum := "cc9f98bab18da7a22b564afd49c8b7e4535c0e60a95b8a2d4458acbb16f87dae", func := "loop.example/g00939/laws.FnExactMiddleOfCircle", spec := "fnExactMiddleOfCircle", apart := false, narrowed := true }
def FnExactMiddleOfCircleUptoSaid : Prop := fnExactMiddleOfCircleUptoRow.holds Try.pinned (OpenSpec.upto fnExactMiddleOfCircleSpec)

/-- 'laws.FnExactOnArc', WHERE WHAT IT READS IS OF BULK AT MOST 1048576: true; the input reads as it did. -/
def fnExactOnArcUptoRow : OpenClaim := { program := "ythmcpemcmghelaa", sum := "cc9f98bab18da7a22b564afd49c8b7e4535c0e60a95b8a2d4458acbb16f87dae", func := "loop.example/g00939/laws.FnExactOnArc", spec := "fnExactOnArc", apart := false, narrowed := true }
def FnExactOnArcUptoSaid : Prop := fnExactOnArcUptoRow.holds Try.pinned (OpenSpec.upto fnExactOnArcSpec)

/-- 'laws.FnExactSplitMove', WHERE WHAT IT READS IS OF BULK AT MOST 1048576: true; the input reads as it did. -/
def fnExactSplitMoveUptoRow : OpenClaim := { program := "ythmcpemcmghelaa", sum := "cc9f98bab18da7a22b564afd49c8b7e4535c0e60a95b8a2d4458acbb16f87dae", func := "loop.example/g00939/laws.FnExactSplitMove", spec := "fnExactSplitMove", apart := false, narrowed := true }
def FnExactSplitMoveUptoSaid : Prop := fnExactSplitMoveUptoRow.holds Try.pinned (OpenSpec.upto fnExactSplitMoveSpec)

end Rows
end Go.Proofs.Ythmcpemcmghelaa
