/-
  No cell of these rows narrows 'for every input' (looked for: loops, veiled, ifaces, maps, wideKeys, modest, calm, conditions, laid).
  DERIVED. THE GIVEN ROWS OF THIS SEAT. 9 by the template 'for every input the law returns true; each argument reads behind the call as it read before'; 0 by the template 'total and deterministic' (their statements: YtnaghobpdncgfaaTotals.lean).
  GIVEN WITH THE SEED: the statements are not yours to turn. If you find one false, say at which input.
  Laid BY PROGRAM, IN A SANDBOX (cutbox-rows.mjs): the forced cells as the released guide's own fill.sh prints them over the translation 138b0a5e73217256… (all of the seat's roots in one cut). By AI agents, Wed Nov 11 2026. No macro, syntax, notation, axiom, sorry.
-/
import Derived.Test.YtnaghobpdncgfaaChecked
import GoSem.Claim
import GoSem.ClaimJoined
import GoSem.ClaimMapViews
import Derived.JoinedTies
import Derived.KernelRfl
namespace Go.Proofs.Ytnaghobpdncgfaa
/- THE CELL 'sum', in the pinned program and in every row, IS THE sha256 OF THE DUMP (.gsa) THAT YtnaghobpdncgfaaProg.lean LOADS. Nothing in Lean hashes anything: it is a label: what it is worth is what the hold of that sum in a sandbox is worth. -/
noncomputable def Try.pinned : Pinned := { name := "ytnaghobpdncgfaa", sum := "138b0a5e732172560018e5ec2399d71477470da75937b1e4794b124e68f99aeb", checked := Try.checked }
namespace Rows
def none {H : Type} : Left H := { results := [], args := [] }

/-- 'laws.FnExactIsMusic': WHATEVER THE INPUT: true; the input reads as it did. -/
def fnExactIsMusicSpec : ChangeSpec := { name := "fnExactIsMusic", fn := fun _ => fun
  | [d] => { results := [.lit (.bool true)], args := [d] }
  | _ => none }
def fnExactIsMusicRow : OpenClaim := { program := "ytnaghobpdncgfaa", sum := "138b0a5e732172560018e5ec2399d71477470da75937b1e4794b124e68f99aeb", func := "loop.example/g00939/laws.FnExactIsMusic", spec := "fnExactIsMusic", apart := false }
def FnExactIsMusicSaid : Prop := fnExactIsMusicRow.holds Try.pinned (OpenSpec.ofChange fnExactIsMusicSpec)

/-- ITS FALSE NEIGHBOUR: 'it returns false'. Refute it at one input. -/
def fnExactIsMusicWrong : ChangeSpec := { name := "fnExactIsMusic", fn := fun _ => fun
  | [d] => { results := [.lit (.bool false)], args := [d] }
  | _ => none }
def FnExactIsMusicWrongFalsely : Prop := fnExactIsMusicRow.holds Try.pinned (OpenSpec.ofChange fnExactIsMusicWrong)

/-- 'laws.FnExactFastestMeasure': WHATEVER THE INPUT: true; the input reads as it did. -/
def fnExactFastestMeasureSpec : ChangeSpec := { name := "fnExactFastestMeasure", fn := fun _ => fun
  | [d] => { results := [.lit (.bool true)], args := [d] }
  | _ => none }
def fnExactFastestMeasureRow : OpenClaim := { program := "ytnaghobpdncgfaa", sum := "138b0a5e732172560018e5ec2399d71477470da75937b1e4794b124e68f99aeb", func := "loop.example/g00939/laws.FnExactFastestMeasure", spec := "fnExactFastestMeasure", apart := false }
def FnExactFastestMeasureSaid : Prop := fnExactFastestMeasureRow.holds Try.pinned (OpenSpec.ofChange fnExactFastestMeasureSpec)

/-- ITS FALSE NEIGHBOUR: 'it returns false'. Refute it at one input. -/
def fnExactFastestMeasureWrong : ChangeSpec := { name := "fnExactFastestMeasure", fn := fun _ => fun
  | [d] => { results := [.lit (.bool false)], args := [d] }
  | _ => none }
def FnExactFastestMeasureWrongFalsely : Prop := fnExactFastestMeasureRow.holds Try.pinned (OpenSpec.ofChange fnExactFastestMeasureWrong)

/-- 'laws.FnExactCountsOf': WHATEVER THE INPUT: true; the input reads as it did. -/
def fnExactCountsOfSpec : ChangeSpec := { name := "fnExactCountsOf", fn := fun _ => fun
  | [d] => { results := [.lit (.bool true)], args := [d] }
  | _ => none }
def fnExactCountsOfRow : OpenClaim := { program := "ytnaghobpdncgfaa", sum := "138b0a5e732172560018e5ec2399d71477470da75937b1e4794b124e68f99aeb", func := "loop.example/g00939/laws.FnExactCountsOf", spec := "fnExactCountsOf", apart := false }
def FnExactCountsOfSaid : Prop := fnExactCountsOfRow.holds Try.pinned (OpenSpec.ofChange fnExactCountsOfSpec)

/-- ITS FALSE NEIGHBOUR: 'it returns false'. Refute it at one input. -/
def fnExactCountsOfWrong : ChangeSpec := { name := "fnExactCountsOf", fn := fun _ => fun
  | [d] => { results := [.lit (.bool false)], args := [d] }
  | _ => none }
def FnExactCountsOfWrongFalsely : Prop := fnExactCountsOfRow.holds Try.pinned (OpenSpec.ofChange fnExactCountsOfWrong)

/-- 'laws.FnExactMeasureAt': WHATEVER THE INPUT: true; the input reads as it did. -/
def fnExactMeasureAtSpec : ChangeSpec := { name := "fnExactMeasureAt", fn := fun _ => fun
  | [d1, d2] => { results := [.lit (.bool true)], args := [d1, d2] }
  | _ => none }
def fnExactMeasureAtRow : OpenClaim := { program := "ytnaghobpdncgfaa", sum := "138b0a5e732172560018e5ec2399d71477470da75937b1e4794b124e68f99aeb", func := "loop.example/g00939/laws.FnExactMeasureAt", spec := "fnExactMeasureAt", apart := false }
def FnExactMeasureAtSaid : Prop := fnExactMeasureAtRow.holds Try.pinned (OpenSpec.ofChange fnExactMeasureAtSpec)

/-- ITS FALSE NEIGHBOUR: 'it returns false'. Refute it at one input. -/
def fnExactMeasureAtWrong : ChangeSpec := { name := "fnExactMeasureAt", fn := fun _ => fun
  | [d1, d2] => { results := [.lit (.bool false)], args := [d1, d2] }
  | _ => none }
def FnExactMeasureAtWrongFalsely : Prop := fnExactMeasureAtRow.holds Try.pinned (OpenSpec.ofChange fnExactMeasureAtWrong)

/-- 'laws.FnExactWithTempo': WHATEVER THE INPUT: true; the input reads as it did. -/
def fnExactWithTempoSpec : ChangeSpec := { name := "fnExactWithTempo", fn := fun _ => fun
  | [d1, d2, d3, d4] => { results := [.lit (.bool true)], args := [d1, d2, d3, d4] }
  | _ => none }
def fnExactWithTempoRow : OpenClaim := { program := "ytnaghobpdncgfaa", sum := "138b0a5e732172560018e5ec2399d71477470da75937b1e4794b124e68f99aeb", func := "loop.example/g00939/laws.FnExactWithTempo", spec := "fnExactWithTempo", apart := false }
def FnExactWithTempoSaid : Prop := fnExactWithTempoRow.holds Try.pinned (OpenSpec.ofChange fnExactWithTempoSpec)

/-- ITS FALSE NEIGHBOUR: 'it returns false'. Refute it at one input. -/
def fnExactWithTempoWrong : ChangeSpec := { name := "fnExactWithTempo", fn := fun _ => fun
  | [d1, d2, d3, d4] => { results := [.lit (.bool false)], args := [d1, d2, d3, d4] }
  | _ => none }
def FnExactWithTempoWrongFalsely : Prop := fnExactWithTempoRow.holds Try.pinned (OpenSpec.ofChange fnExactWithTempoWrong)

/-- 'laws.FnExactLastsFrom': WHATEVER THE INPUT: true; the input reads as it did. -/
def fnExactLastsFromSpec : ChangeSpec := { name := "fnExactLastsFrom", fn := fun _ => fun
  | [d1, d2, d3] => { results := [.lit (.bool true)], args := [d1, d2, d3] }
  | _ => none }
def fnExactLastsFromRow : OpenClaim := { program := "ytnaghobpdncgfaa", sum := "138b0a5e732172560018e5ec2399d71477470da75937b1e4794b124e68f99aeb", func := "loop.example/g00939/laws.FnExactLastsFrom", spec := "fnExactLastsFrom", apart := false }
def FnExactLastsFromSaid : Prop := fnExactLastsFromRow.holds Try.pinned (OpenSpec.ofChange fnExactLastsFromSpec)

/-- ITS FALSE NEIGHBOUR: 'it returns false'. Refute it at one input. -/
def fnExactLastsFromWrong : ChangeSpec := { name := "fnExactLastsFrom", fn := fun _ => fun
  | [d1, d2, d3] => { results := [.lit (.bool false)], args := [d1, d2, d3] }
  | _ => none }
def FnExactLastsFromWrongFalsely : Prop := fnExactLastsFromRow.holds Try.pinned (OpenSpec.ofChange fnExactLastsFromWrong)

/-- 'laws.FnExactTimeOf': WHATEVER THE INPUT: true; the input reads as it did. -/
def fnExactTimeOfSpec : ChangeSpec := { name := "fnExactTimeOf", fn := fun _ => fun
  | [d1, d2] => { results := [.lit (.bool true)], args := [d1, d2] }
  | _ => none }
def fnExactTimeOfRow : OpenClaim := { program := "ytnaghobpdncgfaa", sum := "138b0a5e732172560018e5ec2399d71477470da75937b1e4794b124e68f99aeb", func := "loop.example/g00939/laws.FnExactTimeOf", spec := "fnExactTimeOf", apart := false }
def FnExactTimeOfSaid : Prop := fnExactTimeOfRow.holds Try.pinned (OpenSpec.ofChange fnExactTimeOfSpec)

/-- ITS FALSE NEIGHBOUR: 'it returns false'. Refute it at one input. -/
def fnExactTimeOfWrong : ChangeSpec := { name := "fnExactTimeOf", fn := fun _ => fun
  | [d1, d2] => { results := [.lit (.bool false)], args := [d1, d2] }
  | _ => none }
def FnExactTimeOfWrongFalsely : Prop := fnExactTimeOfRow.holds Try.pinned (OpenSpec.ofChange fnExactTimeOfWrong)

/-- 'laws.FnExactRepeatMeasures': WHATEVER THE INPUT: true; the input reads as it did. -/
def fnExactRepeatMeasuresSpec : ChangeSpec := { name := "fnExactRepeatMeasures", fn := fun _ => fun
  | [d1, d2, d3, d4] => { results := [.lit (.bool true)], args := [d1, d2, d3, d4] }
  | _ => none }
def fnExactRepeatMeasuresRow : OpenClaim := { program := "ytnaghobpdncgfaa", sum := "138b0a5e732172560018e5ec2399d71477470da75937b1e4794b124e68f99aeb", func := "loop.example/g00939/laws.FnExactRepeatMeasures", spec := "fnExactRepeatMeasures", apart := false }
def FnExactRepeatMeasuresSaid : Prop := fnExactRepeatMeasuresRow.holds Try.pinned (OpenSpec.ofChange fnExactRepeatMeasuresSpec)

/-- ITS FALSE NEIGHBOUR: 'it returns false'. Refute it at one input. -/
def fnExactRepeatMeasuresWrong : ChangeSpec := { name := "fnExactRepeatMeasures", fn := fun _ => fun
  | [d1, d2, d3, d4] => { results := [.lit (.bool false)], args := [d1, d2, d3, d4] }
  | _ => none }
def FnExactRepeatMeasuresWrongFalsely : Prop := fnExactRepeatMeasuresRow.holds Try.pinned (OpenSpec.ofChange fnExactRepeatMeasuresWrong)

/-- 'laws.FnExactCountAt': WHATEVER THE INPUT: true; the input reads as it did. -/
def fnExactCountAtSpec : ChangeSpec := { name := "fnExactCountAt", fn := fun _ => fun
  | [d1, d2] => { results := [.lit (.bool true)], args := [d1, d2] }
  | _ => none }
def fnExactCountAtRow : OpenClaim := { program := "ytnaghobpdncgfaa", sum := "138b0a5e732172560018e5ec2399d71477470da75937b1e4794b124e68f99aeb", func := "loop.example/g00939/laws.FnExactCountAt", spec := "fnExactCountAt", apart := false }
def FnExactCountAtSaid : Prop := fnExactCountAtRow.holds Try.pinned (OpenSpec.ofChange fnExactCountAtSpec)

/-- ITS FALSE NEIGHBOUR: 'it returns false'. Refute it at one input. -/
def fnExactCountAtWrong : ChangeSpec := { name := "fnExactCountAt", fn := fun _ => fun
  | [d1, d2] => { results := [.lit (.bool false)], args := [d1, d2] }
  | _ => none }
def FnExactCountAtWrongFalsely : Prop := fnExactCountAtRow.holds Try.pinned (OpenSpec.ofChange fnExactCountAtWrong)

/- THE SECOND FORM. 'bulk': how many values and letters a reading holds, each counted each time it is reached (what is shared counts as often as it is met; a slice's spare places count too). A statement '..UptoSaid' is the law's where the arguments, and the package variables that the reading takes, are together of bulk at most 1048576: NARROWER than '..Said'. Prove '..Said' where nothing that the law and all that it calls make is longer than what came in: it says more and counts as full. Else prove '..UptoSaid'. A law counts once. -/
mutual
def uptoBulk {H : Type} : DataW H → Nat
  | .lit (.string bytes) => bytes.length + 1
  | .lit _ => 1
  | .nil => 1
  | .ptr d => uptoBulk d + 1
  | .slice elems spare => uptoBulkAll elems + uptoBulkAll spare + 1
  | .agg parts => uptoBulkAll parts + 1
  | .iface _ d => uptoBulk d + 1
  | .map entries => uptoBulkEntries entries + 1
  | .held _ => 1
def uptoBulkAll {H : Type} : List (DataW H) → Nat
  | [] => 0
  | d :: r => uptoBulk d + uptoBulkAll r
def uptoBulkEntries {H : Type} : List (Lit × DataW H) → Nat
  | [] => 0
  | x :: r => uptoBulkEntry x + uptoBulkEntries r
def uptoBulkEntry {H : Type} : Lit × DataW H → Nat
  | (.string bytes, d) => bytes.length + uptoBulk d + 1
  | (_, d) => uptoBulk d + 1
 end
def uptoSmall : (H : Type) → List (DataW H) → Bool := fun _ ds => decide (uptoBulkAll ds ≤ 1048576)
def OpenSpec.upto (s : _root_.Go.ChangeSpec) : _root_.Go.OpenSpec := { _root_.Go.OpenSpec.ofChange s with cond := some uptoSmall }

/-- 'laws.FnExactIsMusic', WHERE WHAT IT READS IS OF BULK AT MOST 1048576: true; the input reads as it did. -/
def fnExactIsMusicUptoRow : OpenClaim := { program := "ytnaghobpdncgfaa", sum := "138b0a5e732172560018e5ec2399d71477470da75937b1e4794b124e68f99aeb", func := "loop.example/g00939/laws.FnExactIsMusic", spec := "fnExactIsMusic", apart := false, narrowed := true }
def FnExactIsMusicUptoSaid : Prop := fnExactIsMusicUptoRow.holds Try.pinned (OpenSpec.upto fnExactIsMusicSpec)

/-- 'laws.FnExactFastestMeasure', WHERE WHAT IT READS IS OF BULK AT MOST 1048576: true; the input reads as it did. -/
def fnExactFastestMeasureUptoRow : OpenClaim := { program := "ytnaghobpdncgfaa", sum := "138b0a5e732172560018e5ec2399d71477470da75937b1e4794b124e68f99aeb", func := "loop.example/g00939/laws.FnExactFastestMeasure", spec := "fnExactFastestMeasure", apart := false, narrowed := true }
def FnExactFastestMeasureUptoSaid : Prop := fnExactFastestMeasureUptoRow.holds Try.pinned (OpenSpec.upto fnExactFastestMeasureSpec)

/-- 'laws.FnExactCountsOf', WHERE WHAT IT READS IS OF BULK AT MOST 1048576: true; the input reads as it did. -/
def fnExactCountsOfUptoRow : OpenClaim := { program := "ytnaghobpdncgfaa", sum := "138b0a5e732172560018e5ec2399d71477470da75937b1e4794b124e68f99aeb", func := "loop.example/g00939/laws.FnExactCountsOf", spec := "fnExactCountsOf", apart := false, narrowed := true }
def FnExactCountsOfUptoSaid : Prop := fnExactCountsOfUptoRow.holds Try.pinned (OpenSpec.upto fnExactCountsOfSpec)

/-- 'laws.FnExactMeasureAt', WHERE WHAT IT READS IS OF BULK AT MOST 1048576: true; the input reads as it did. -/
def fnExactMeasureAtUptoRow : OpenClaim := { program := "ytnaghobpdncgfaa", sum := "138b0a5e732172560018e5ec2399d71477470da75937b1e4794b124e68f99aeb", func := "loop.example/g00939/laws.FnExactMeasureAt", spec := "fnExactMeasureAt", apart := false, narrowed := true }
def FnExactMeasureAtUptoSaid : Prop := fnExactMeasureAtUptoRow.holds Try.pinned (OpenSpec.upto fnExactMeasureAtSpec)

/-- 'laws.FnExactWithTempo', WHERE WHAT IT READS IS OF BULK AT MOST 1048576: true; the input reads as it did. -/
def fnExactWithTempoUptoRow : OpenClaim := { program := "ytnaghobpdncgfaa", sum := "138b0a5e732172560018e5ec2399d71477470da75937b1e4794b124e68f99aeb", func := "loop.example/g00939/laws.FnExactWithTempo", spec := "fnExactWithTempo", apart := false, narrowed := true }
def FnExactWithTempoUptoSaid : Prop := fnExactWithTempoUptoRow.holds Try.pinned (OpenSpec.upto fnExactWithTempoSpec)

/-- 'laws.FnExactLastsFrom', WHERE WHAT IT READS IS OF BULK AT MOST 1048576: true; the input reads as it did. -/
def fnExactLastsFromUptoRow : OpenClaim := { program := "ytnaghobpdncgfaa", sum := "138b0a5e732172560018e5ec2399d71477470da75937b1e4794b124e68f99aeb", func := "loop.example/g00939/laws.FnExactLastsFrom", spec := "fnExactLastsFrom", apart := false, narrowed := true }
def FnExactLastsFromUptoSaid : Prop := fnExactLastsFromUptoRow.holds Try.pinned (OpenSpec.upto fnExactLastsFromSpec)

/-- 'laws.FnExactTimeOf', WHERE WHAT IT READS IS OF BULK AT MOST 1048576: true; the input reads as it did. -/
def fnExactTimeOfUptoRow : OpenClaim := { program := "ytnaghobpdncgfaa", sum := "138b0a5e732172560018e5ec2399d71477470da75937b1e4794b124e68f99aeb", func := "loop.example/g00939/laws.FnExactTimeOf", spec := "fnExactTimeOf", apart := false, narrowed := true }
def FnExactTimeOfUptoSaid : Prop := fnExactTimeOfUptoRow.holds Try.pinned (OpenSpec.upto fnExactTimeOfSpec)

/-- 'laws.FnExactRepeatMeasures', WHERE WHAT IT READS IS OF BULK AT MOST 1048576: true; the input reads as it did. -/
def fnExactRepeatMeasuresUptoRow : OpenClaim := { program := "ytnaghobpdncgfaa", sum := "138b0a5e732172560018e5ec2399d71477470da75937b1e4794b124e68f99aeb", func := "loop.example/g00939/laws.FnExactRepeatMeasures", spec := "fnExactRepeatMeasures", apart := false, narrowed := true }
def FnExactRepeatMeasuresUptoSaid : Prop := fnExactRepeatMeasuresUptoRow.holds Try.pinned (OpenSpec.upto fnExactRepeatMeasuresSpec)

/-- 'laws.FnExactCountAt', WHERE WHAT IT READS IS OF BULK AT MOST 1048576: true; the input reads as it did. -/
def fnExactCountAtUptoRow : OpenClaim := { program := "ytnaghobpdncgfaa", sum := "138b0a5e732172560018e5ec2399d71477470da75937b1e4794b124e68f99aeb", func := "loop.example/g00939/laws.FnExactCountAt", spec := "fnExactCountAt", apart := false, narrowed := true }
def FnExactCountAtUptoSaid : Prop := fnExactCountAtUptoRow.holds Try.pinned (OpenSpec.upto fnExactCountAtSpec)

end Rows
end Go.Proofs.Ytnaghobpdncgfaa
