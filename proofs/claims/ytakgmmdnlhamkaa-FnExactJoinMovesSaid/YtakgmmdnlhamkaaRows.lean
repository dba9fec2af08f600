/-
  No cell of these rows narrows 'for every input' (looked for: loops, veiled, ifaces, maps, wideKeys, modest, calm, conditions, laid).
  DERIVED. THE GIVEN ROWS OF THIS SEAT. 10 by the template 'for every input the law returns true; each argument reads behind the call as it read before'; 0 by the template 'total and deterministic' (their statements: YtakgmmdnlhamkaaTotals.lean).
  GIVEN WITH THE SEED: the statements are not yours to turn. If you find one false, say at which input.
  Laid BY PROGRAM, IN A SANDBOX (cutbox-rows.mjs): the forced cells as the released guide's own fill.sh prints them over the translation 3b29ebd1c8d9edac… (all of the seat's roots in one cut). By AI agents, Wed Nov 11 2026. No macro, syntax, notation, axiom, sorry.
-/
import Derived.Test.YtakgmmdnlhamkaaChecked
import GoSem.Claim
import GoSem.ClaimJoined
import GoSem.ClaimMapViews
import Derived.JoinedTies
import Derived.KernelRfl
namespace Go.Proofs.Ytakgmmdnlhamkaa
/- THE CELL 'sum', in the pinned program and in every row, IS THE sha256 OF THE DUMP (.gsa) THAT YtakgmmdnlhamkaaProg.lean LOADS. Nothing in Lean hashes anything: it is a label: what it is worth is what the hold of that sum in a sandbox is worth. -/
noncomputable def Try.pinned : Pinned := { name := "ytakgmmdnlhamkaa", sum := "3b29ebd1c8d9edac39c55947b7612131a51d90431196c0d8e2b7bb365c72df7e", checked := Try.checked }
namespace Rows
def none {H : Type} : Left H := { results := [], args := [] }

/-- 'laws.FnExactApartAt': WHATEVER THE INPUT: true; the input reads as it did. -/
def fnExactApartAtSpec : ChangeSpec := { name := "fnExactApartAt", fn := fun _ => fun
  | [d1, d2, d3] => { results := [.lit (.bool true)], args := [d1, d2, d3] }
  | _ => none }
def fnExactApartAtRow : OpenClaim := { program := "ytakgmmdnlhamkaa", sum := "3b29ebd1c8d9edac39c55947b7612131a51d90431196c0d8e2b7bb365c72df7e", func := "loop.example/g00939/laws.FnExactApartAt", spec := "fnExactApartAt", apart := false }
def FnExactApartAtSaid : Prop := fnExactApartAtRow.holds Try.pinned (OpenSpec.ofChange fnExactApartAtSpec)

/-- ITS FALSE NEIGHBOUR: 'it returns false'. Refute it at one input. -/
def fnExactApartAtWrong : ChangeSpec := { name := "fnExactApartAt", fn := fun _ => fun
  | [d1, d2, d3] => { results := [.lit (.bool false)], args := [d1, d2, d3] }
  | _ => none }
def FnExactApartAtWrongFalsely : Prop := fnExactApartAtRow.holds Try.pinned (OpenSpec.ofChange fnExactApartAtWrong)

/-- 'laws.FnExactWaysCross': WHATEVER THE INPUT: true; the input reads as it did. -/
def fnExactWaysCrossSpec : ChangeSpec := { name := "fnExactWaysCross", fn := fun _ => fun
  | [d1, d2] => { results := [.lit (.bool true)], args := [d1, d2] }
  | _ => none }
def fnExactWaysCrossRow : OpenClaim := { program := "ytakgmmdnlhamkaa", sum := "3b29ebd1c8d9edac39c55947b7612131a51d90431196c0d8e2b7bb365c72df7e", func := "loop.example/g00939/laws.FnExactWaysCross", spec := "fnExactWaysCross", apart := false }
def FnExactWaysCrossSaid : Prop := fnExactWaysCrossRow.holds Try.pinned (OpenSpec.ofChange fnExactWaysCrossSpec)

/-- ITS FALSE NEIGHBOUR: 'it returns false'. Refute it at one input. -/
def fnExactWaysCrossWrong : ChangeSpec := { name := "fnExactWaysCross", fn := fun _ => fun
  | [d1, d2] => { results := [.lit (.bool false)], args := [d1, d2] }
  | _ => none }
def FnExactWaysCrossWrongFalsely : Prop := fnExactWaysCrossRow.holds Try.pinned (OpenSpec.ofChange fnExactWaysCrossWrong)

/-- 'laws.FnExactWholeCounts': WHATEVER THE INPUT: true; the input reads as it did. -/
def fnExactWholeCountsSpec : ChangeSpec := { name := "fnExactWholeCounts", fn := fun _ => fun
  | [d] => { results := [.lit (.bool true)], args := [d] }
  | _ => none }
def fnExactWholeCountsRow : OpenClaim := { program := "ytakgmmdnlhamkaa", sum := "3b29ebd1c8d9edac39c55947b7612131a51d90431196c0d8e2b7bb365c72df7e", func := "loop.example/g00939/laws.FnExactWholeCounts", spec := "fnExactWholeCounts", apart := false }
def FnExactWholeCountsSaid : Prop := fnExactWholeCountsRow.holds Try.pinned (OpenSpec.ofChange fnExactWholeCountsSpec)

/-- ITS FALSE NEIGHBOUR: 'it returns false'. Refute it at one input. -/
def fnExactWholeCountsWrong : ChangeSpec := { name := "fnExactWholeCounts", fn := fun _ => fun
  | [d] => { results := [.lit (.bool false)], args := [d] }
  | _ => none }
def FnExactWholeCountsWrongFalsely : Prop := fnExactWholeCountsRow.holds Try.pinned (OpenSpec.ofChange fnExactWholeCountsWrong)

/-- 'laws.FnExactNearestOf': WHATEVER THE INPUT: true; the input reads as it did. -/
def fnExactNearestOfSpec : ChangeSpec := { name := "fnExactNearestOf", fn := fun _ => fun
  | [d1, d2] => { results := [.lit (.bool true)], args := [d1, d2] }
  | _ => none }
def fnExactNearestOfRow : OpenClaim := { program := "ytakgmmdnlhamkaa", sum := "3b29ebd1c8d9edac39c55947b7612131a51d90431196c0d8e2b7bb365c72df7e", func := "loop.example/g00939/laws.FnExactNearestOf", spec := "fnExactNearestOf", apart := false }
def FnExactNearestOfSaid : Prop := fnExactNearestOfRow.holds Try.pinned (OpenSpec.ofChange fnExactNearestOfSpec)

/-- ITS FALSE NEIGHBOUR: 'it returns false'. Refute it at one input. -/
def fnExactNearestOfWrong : ChangeSpec := { name := "fnExactNearestOf", fn := fun _ => fun
  | [d1, d2] => { results := [.lit (.bool false)], args := [d1, d2] }
  | _ => none }
def FnExactNearestOfWrongFalsely : Prop := fnExactNearestOfRow.holds Try.pinned (OpenSpec.ofChange fnExactNearestOfWrong)

/-- 'laws.FnExactLeastGap': WHATEVER THE INPUT: true; the input reads as it did. -/
def fnExactLeastGapSpec : ChangeSpec := { name := "fnExactLeastGap", fn := fun _ => fun
  | [d] => { results := [.lit (.bool true)], args := [d] }
  | _ => none }
def fnExactLeastGapRow : OpenClaim := { program := "ytakgmmdnlhamkaa", sum := "3b29ebd1c8d9edac39c55947b7612131a51d90431196c0d8e2b7bb365c72df7e", func := "loop.example/g00939/laws.FnExactLeastGap", spec := "fnExactLeastGap", apart := false }
def FnExactLeastGapSaid : Prop := fnExactLeastGapRow.holds Try.pinned (OpenSpec.ofChange fnExactLeastGapSpec)

/-- ITS FALSE NEIGHBOUR: 'it returns false'. Refute it at one input. -/
def fnExactLeastGapWrong : ChangeSpec := { name := "fnExactLeastGap", fn := fun _ => fun
  | [d] => { results := [.lit (.bool false)], args := [d] }
  | _ => none }
def FnExactLeastGapWrongFalsely : Prop := fnExactLeastGapRow.holds Try.pinned (OpenSpec.ofChange fnExactLeastGapWrong)

/-- 'laws.FnExactClosestTime': WHATEVER THE INPUT: true; the input reads as it did. -/
def fnExactClosestTimeSpec : ChangeSpec := { name := "fnExactClosestTime", fn := fun _ => fun
  | [d1, d2] => { results := [.lit (.bool true)], args := [d1, d2] }
  | _ => none }
def fnExactClosestTimeRow : OpenClaim := { program := "ytakgmmdnlhamkaa", sum := "3b29ebd1c8d9edac39c55947b7612131a51d90431196c0d8e2b7bb365c72df7e", func := "loop.example/g00939/laws.FnExactClosestTime", spec := "fnExactClosestTime", apart := false }
def FnExactClosestTimeSaid : Prop := fnExactClosestTimeRow.holds Try.pinned (OpenSpec.ofChange fnExactClosestTimeSpec)

/-- ITS FALSE NEIGHBOUR: 'it returns false'. Refute it at one input. -/
def fnExactClosestTimeWrong : ChangeSpec := { name := "fnExactClosestTime", fn := fun _ => fun
  | [d1, d2] => { results := [.lit (.bool false)], args := [d1, d2] }
  | _ => none }
def FnExactClosestTimeWrongFalsely : Prop := fnExactClosestTimeRow.holds Try.pinned (OpenSpec.ofChange fnExactClosestTimeWrong)

/-- 'laws.FnExactJoinMoves': WHATEVER THE INPUT: true; the input reads as it did. -/
def fnExactJoinMovesSpec : ChangeSpec := { name := "fnExactJoinMoves", fn := fun _ => fun
  | [d1, d2] => { results := [.lit (.bool true)], args := [d1, d2] }
  | _ => none }
def fnExactJoinMovesRow : OpenClaim := { program := "ytakgmmdnlhamkaa", sum := "3b29ebd1c8d9edac39c55947b7612131a51d90431196c0d8e2b7bb365c72df7e", func := "loop.example/g00939/laws.FnExactJoinMoves", spec := "fnExactJoinMoves", apart := false }
def FnExactJoinMovesSaid : Prop := fnExactJoinMovesRow.holds Try.pinned (OpenSpec.ofChange fnExactJoinMovesSpec)

/-- ITS FALSE NEIGHBOUR: 'it returns false'. Refute it at one input. -/
def fnExactJoinMovesWrong : ChangeSpec := { name := "fnExactJoinMoves", fn := fun _ => fun
  | [d1, d2] => { results := [.lit (.bool false)], args := [d1, d2] }
  | _ => none }
def FnExactJoinMovesWrongFalsely : Prop := fnExactJoinMovesRow.holds Try.pinned (OpenSpec.ofChange fnExactJoinMovesWrong)

/-- 'laws.FnExactCircleSpots': WHATEVER THE INPUT: true; the input reads as it did. -/
def fnExactCircleSpotsSpec : ChangeSpec := { name := "fnExactCircleSpots", fn := fun _ => fun
  | [d1, d2] => { results := [.lit (.bool true)], args := [d1, d2] }
  | _ => none }
def fnExactCircleSpotsRow : OpenClaim := { program := "ytakgmmdnlhamkaa", sum := "3b29ebd1c8d9edac39c55947b7612131a51d90431196c0d8e2b7bb365c72df7e", func := "loop.example/g00939/laws.FnExactCircleSpots", spec := "fnExactCircleSpots", apart := false }
def FnExactCircleSpotsSaid : Prop := fnExactCircleSpotsRow.holds Try.pinned (OpenSpec.ofChange fnExactCircleSpotsSpec)

/-- ITS FALSE NEIGHBOUR: 'it returns false'. Refute it at one input. -/
def fnExactCircleSpotsWrong : ChangeSpec := { name := "fnExactCircleSpots", fn := fun _ => fun
  | [d1, d2] => { results := [.lit (.bool false)], args := [d1, d2] }
  | _ => none }
def FnExactCircleSpotsWrongFalsely : Prop := fnExactCircleSpotsRow.holds Try.pinned (OpenSpec.ofChange fnExactCircleSpotsWrong)

/-- 'laws.FnExactSpotsWithin': WHATEVER THE INPUT: true; the input reads as it did. -/
def fnExactSpotsWithinSpec : ChangeSpec := { name := "fnExactSpotsWithin", fn := fun _ => fun
  | [d1, d2, d3] => { results := [.lit (.bool true)], args := [d1, d2, d3] }
  | _ => none }
def fnExactSpotsWithinRow : OpenClaim := { program := "ytakgmmdnlhamkaa", sum := "3b29ebd1c8d9edac39c55947b7612131a51d90431196c0d8e2b7bb365c72df7e", func := "loop.example/g00939/laws.FnExactSpotsWithin", spec := "fnExactSpotsWithin", apart := false }
def FnExactSpotsWithinSaid : Prop := fnExactSpotsWithinRow.holds Try.pinned (OpenSpec.ofChange fnExactSpotsWithinSpec)

/-- ITS FALSE NEIGHBOUR: 'it returns false'. Refute it at one input. -/
def fnExactSpotsWithinWrong : ChangeSpec := { name := "fnExactSpotsWithin", fn := fun _ => fun
  | [d1, d2, d3] => { results := [.lit (.bool false)], args := [d1, d2, d3] }
  | _ => none }
def FnExactSpotsWithinWrongFalsely : Prop := fnExactSpotsWithinRow.holds Try.pinned (OpenSpec.ofChange fnExactSpotsWithinWrong)

/-- 'laws.FnExactArcSpots': WHATEVER THE INPUT: true; the input reads as it did. -/
def fnExactArcSpotsSpec : ChangeSpec := { name := "fnExactArcSpots", fn := fun _ => fun
  | [d1, d2, d3, d4, d5] => { results := [.lit (.bool true)], args := [d1, d2, d3, d4, d5] }
  | _ => none }
def fnExactArcSpotsRow : OpenClaim := { program := "ytakgmmdnlhamkaa", sum := "3b29ebd1c8d9edac39c55947b7612131a51d90431196c0d8e2b7bb365c72df7e", func := "loop.example/g00939/laws.FnExactArcSpots", spec := "fnExactArcSpots", apart := false }
def FnExactArcSpotsSaid : Prop := fnExactArcSpotsRow.holds Try.pinned (OpenSpec.ofChange fnExactArcSpotsSpec)

/-- ITS FALSE NEIGHBOUR: 'it returns false'. Refute it at one input. -/
def fnExactArcSpotsWrong : ChangeSpec := { name := "fnExactArcSpots", fn := fun _ => fun
  | [d1, d2, d3, d4, d5] => { results := [.lit (.bool false)], args := [d1, d2, d3, d4, d5] }
  | _ => none }
def FnExactArcSpotsWrongFalsely : Prop := fnExactArcSpotsRow.holds Try.pinned (OpenSpec.ofChange fnExactArcSpotsWrong)

/- THE SECOND FORM. 'bulk': how many values and letters a reading holds, each counted each time it is reached (what is shared counts as often as it is met; a slice's spare places count too). A statement '..UptoSaid' is the law's where the arguments, and the package variables that the reading takes, are together of bulk at most 1048576: NARROWER than '..Said'. Prove '..Said' where nothing that the law and all that it calls make is longer than what came in: it says more and counts as full. Else prove '..UptoSaid'. A law counts once. -/
mutual
def uptoBulk {H : Type} : DataW H → Nat
  | .lit (.string bytes) => bytes.length + 1
  | .lit _ => 1
  | .nil => 1
  | .ptr d => uptoBulk d + 1
  | .slice elems spare => uptoBulkAll elems + uptoBulkAll spare + 1
  | .agg parts => uptoBulkAll parts + 1
  | .iface _ d => uptoBulk d + 1
  | .map entries => uptoBulkEntries entries + 1
  | .held _ => 1
def uptoBulkAll {H : Type} : List (DataW H) → Nat
  | [] => 0
  | d :: r => uptoBulk d + uptoBulkAll r
def uptoBulkEntries {H : Type} : List (Lit × DataW H) → Nat
  | [] => 0
  | x :: r => uptoBulkEntry x + uptoBulkEntries r
def uptoBulkEntry {H : Type} : Lit × DataW H → Nat
  | (.string bytes, d) => bytes.length + uptoBulk d + 1
  | (_, d) => uptoBulk d + 1
 end
def uptoSmall : (H : Type) → List (DataW H) → Bool := fun _ ds => decide (uptoBulkAll ds ≤ 1048576)
def OpenSpec.upto (s : _root_.Go.ChangeSpec) : _root_.Go.OpenSpec := { _root_.Go.OpenSpec.ofChange s with cond := some uptoSmall }

/-- 'laws.FnExactApartAt', WHERE WHAT IT READS IS OF BULK AT MOST 1048576: true; the input reads as it did. -/
def fnExactApartAtUptoRow : OpenClaim := { program := "ytakgmmdnlhamkaa", sum := "3b29ebd1c8d9edac39c55947b7612131a51d90431196c0d8e2b7bb365c72df7e", func := "loop.example/g00939/laws.FnExactApartAt", spec := "fnExactApartAt", apart := false, narrowed := true }
def FnExactApartAtUptoSaid : Prop := fnExactApartAtUptoRow.holds Try.pinned (OpenSpec.upto fnExactApartAtSpec)

/-- 'laws.FnExactWaysCross', WHERE WHAT IT READS IS OF BULK AT MOST 1048576: true; the input reads as it did. -/
def fnExactWaysCrossUptoRow : OpenClaim := { program := "ytakgmmdnlhamkaa", sum := "3b29ebd1c8d9edac39c55947b7612131a51d90431196c0d8e2b7bb365c72df7e", func := "loop.example/g00939/laws.FnExactWaysCross", spec := "fnExactWaysCross", apart := false, narrowed := true }
def FnExactWaysCrossUptoSaid : Prop := fnExactWaysCrossUptoRow.holds Try.pinned (OpenSpec.upto fnExactWaysCrossSpec)

/-- 'laws.FnExactWholeCounts', WHERE WHAT IT READS IS OF BULK AT MOST 1048576: true; the input reads as it did. -/
def fnExactWholeCountsUptoRow : OpenClaim := { program := "ytakgmmdnlhamkaa", sum := "3b29ebd1c8d9edac39c55947b7612131a51d90431196c0d8e2b7bb365c72df7e", func := "loop.example/g00939/laws.FnExactWholeCounts", spec := "fnExactWholeCounts", apart := false, narrowed := true }
def FnExactWholeCountsUptoSaid : Prop := fnExactWholeCountsUptoRow.holds Try.pinned (OpenSpec.upto fnExactWholeCountsSpec)

/-- 'laws.FnExactNearestOf', WHERE WHAT IT READS IS OF BULK AT MOST 1048576: true; the input reads as it did. -/
def fnExactNearestOfUptoRow : OpenClaim := { program := "ytakgmmdnlhamkaa", sum := "3b29ebd1c8d9edac39c55947b7612131a51d90431196c0d8e2b7bb365c72df7e", func := "loop.example/g00939/laws.FnExactNearestOf", spec := "fnExactNearestOf", apart := false, narrowed := true }
def FnExactNearestOfUptoSaid : Prop := fnExactNearestOfUptoRow.holds Try.pinned (OpenSpec.upto fnExactNearestOfSpec)

/-- 'laws.FnExactLeastGap', WHERE WHAT IT READS IS OF BULK AT MOST 1048576: true; the input reads as it did. -/
def fnExactLeastGapUptoRow : OpenClaim := { program := "ytakgmmdnlhamkaa", sum := "3b29ebd1c8d9edac39c55947b7612131a51d90431196c0d8e2b7bb365c72df7e", func := "loop.example/g00939/laws.FnExactLeastGap", spec := "fnExactLeastGap", apart := false, narrowed := true }
def FnExactLeastGapUptoSaid : Prop := fnExactLeastGapUptoRow.holds Try.pinned (OpenSpec.upto fnExactLeastGapSpec)

/-- 'laws.FnExactClosestTime', WHERE WHAT IT READS IS OF BULK AT MOST 1048576: true; the input reads as it did. -/
def fnExactClosestTimeUptoRow : OpenClaim := { program := "ytakgmmdnlhamkaa", sum := "3b29ebd1c8d9edac39c55947b7612131a51d90431196c0d8e2b7bb365c72df7e", func := "loop.example/g00939/laws.FnExactClosestTime", spec := "fnExactClosestTime", apart := false, narrowed := true }
def FnExactClosestTimeUptoSaid : Prop := fnExactClosestTimeUptoRow.holds Try.pinned (OpenSpec.upto fnExactClosestTimeSpec)

/-- 'laws.FnExactJoinMoves', WHERE WHAT IT READS IS OF BULK AT MOST 1048576: true; the input reads as it did. -/
def fnExactJoinMovesUptoRow : OpenClaim := { program := "ytakgmmdnlhamkaa", sum := "3b29ebd1c8d9edac39c55947b7612131a51d90431196c0d8e2b7bb365c72df7e", func := "loop.example/g00939/laws.FnExactJoinMoves", spec := "fnExactJoinMoves", apart := false, narrowed := true }
def FnExactJoinMovesUptoSaid : Prop := fnExactJoinMovesUptoRow.holds Try.pinned (OpenSpec.upto fnExactJoinMovesSpec)

/-- 'laws.FnExactCircleSpots', WHERE WHAT IT READS IS OF BULK AT MOST 1048576: true; the input reads as it did. -/
def fnExactCircleSpotsUptoRow : OpenClaim := { program := "ytakgmmdnlhamkaa", sum := "3b29ebd1c8d9edac39c55947b7612131a51d90431196c0d8e2b7bb365c72df7e", func := "loop.example/g00939/laws.FnExactCircleSpots", spec := "fnExactCircleSpots", apart := false, narrowed := true }
def FnExactCircleSpotsUptoSaid : Prop := fnExactCircleSpotsUptoRow.holds Try.pinned (OpenSpec.upto fnExactCircleSpotsSpec)

/-- 'laws.FnExactSpotsWithin', WHERE WHAT IT READS IS OF BULK AT MOST 1048576: true; the input reads as it did. -/
def fnExactSpotsWithinUptoRow : OpenClaim := { program := "ytakgmmdnlhamkaa", sum := "3b29ebd1c8d9edac39c55947b7612131a51d90431196c0d8e2b7bb365c72df7e", func := "loop.example/g00939/laws.FnExactSpotsWithin", spec := "fnExactSpotsWithin", apart := false, narrowed := true }
def FnExactSpotsWithinUptoSaid : Prop := fnExactSpotsWithinUptoRow.holds Try.pinned (OpenSpec.upto fnExactSpotsWithinSpec)

/-- 'laws.FnExactArcSpots', WHERE WHAT IT READS IS OF BULK AT MOST 1048576: true; the input reads as it did. -/
def fnExactArcSpotsUptoRow : OpenClaim := { program := "ytakgmmdnlhamkaa", sum := "3b29ebd1c8d9edac39c55947b7612131a51d90431196c0d8e2b7bb365c72df7e", func := "loop.example/g00939/laws.FnExactArcSpots", spec := "fnExactArcSpots", apart := false, narrowed := true }
def FnExactArcSpotsUptoSaid : Prop := fnExactArcSpotsUptoRow.holds Try.pinned (OpenSpec.upto fnExactArcSpotsSpec)

end Rows
end Go.Proofs.Ytakgmmdnlhamkaa
