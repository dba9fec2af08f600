/- Contracts with letters: the readers of a spot. -/
import Derived.Test.YtgpjnffomheemaaDoorTxt3
import Derived.Test.YtgpjnffomheemaaDoorTxt8
namespace Go.Proofs.YtgpjnffomheemaaDoor
open Go.RowKit
set_option linter.unusedVariables false

theorem sParseSpot_eq (l : List UInt8) (x y : Int) (ok : Bool) (w : World) (hs : l.length ≤ 1048576) (h : mParse l = ((x, y), ok)) :
    Calls Tryd.prog 21 #[str l] w fun e w' => e = .returned (.tuple #[.agg #[.int .i64 x, .int .i64 y], .bool ok]) ∧ Below w.heap.size w w' := by
  have := sParseSpot_any l w hs
  rw [h] at this
  exact this
theorem iParseSpot_eq (l : List UInt8) (x y : Int) (ok : Bool) (w : World) (hs : l.length ≤ 1048576) (h : mParse l = ((x, y), ok)) :
    Calls Tryd.prog 15 #[str l] w fun e w' => e = .returned (.tuple #[.agg #[.int .i64 x, .int .i64 y], .bool ok]) ∧ Below w.heap.size w w' := by
  have := iParseSpot_any l w (by omega)
  rw [h] at this
  exact this

end Go.Proofs.YtgpjnffomheemaaDoor

