import Derived.Test.YtgpjnffomheemaaDoorTxt3
import Derived.Test.YtgpjnffomheemaaDoorJ9Txt8
import Derived.Test.YtgpjnffomheemaaDoorJ3Eqm
import Derived.Test.YtgpjnffomheemaaDoorJ11Rd2
import Derived.Test.YtgpjnffomheemaaDoorSpot

section
/- Contracts with letters: the readers of a spot. -/
namespace Go.Proofs.YtgpjnffomheemaaDoor
open Go.RowKit
set_option linter.unusedVariables false

theorem sParseSpot_eq (l : List UInt8) (x y : Int) (ok : Bool) (w : World) (hs : l.length ≤ 1048576) (h : mParse l = ((x, y), ok)) :
    Calls Tryd.prog 21 #[str l] w fun e w' => e = .returned (.tuple #[.agg #[.int .i64 x, .int .i64 y], .bool ok]) ∧ Below w.heap.size w w' := by
  have := sParseSpot_any l w hs
  rw [h] at this
  exact this
theorem iParseSpot_eq_ (l : List UInt8) (x y : Int) (ok : Bool) (w : World) (hs : l.length ≤ 1048576) (h : mParse l = ((x, y), ok)) :
    Calls Tryd.prog 15 #[str l] w fun e w' => e = .returned (.tuple #[.agg #[.int .i64 x, .int .i64 y], .bool ok]) ∧ Below w.heap.size w w' := by
  have := iParseSpot_any l w (by omega)
  rw [h] at this
  exact this

end Go.Proofs.YtgpjnffomheemaaDoor
end

section
/- Contracts with letters: what the law on moves calls. -/
namespace Go.Proofs.YtgpjnffomheemaaDoor
open Go.RowKit
set_option linter.unusedVariables false

theorem iPMove_eq (l : List UInt8) (x1 y1 x2 y2 n : Int) (ok : Bool) (w : World) (hml : ML w) (hs : l.length ≤ 1048576) (h : iPMove l = (((x1, y1), (x2, y2), n), ok)) :
    Calls Tryd.prog 28 #[str l] w fun e w' => e = .returned (.tuple #[.agg #[.int .i64 x1, .int .i64 y1, .int .i64 x2, .int .i64 y2, .int .i64 n], .bool ok]) ∧ Below w.heap.size w w' := by
  have := iPMove_any l w hml hs; rw [h] at this; exact this
theorem sPMove_eq (l : List UInt8) (x1 y1 x2 y2 n : Int) (ok : Bool) (w : World) (hs : l.length ≤ 1048576) (h : iPMove l = (((x1, y1), (x2, y2), n), ok)) :
    Calls Tryd.prog 37 #[str l] w fun e w' => e = .returned (.tuple #[.agg #[.int .i64 x1, .int .i64 y1, .int .i64 x2, .int .i64 y2, .int .i64 n], .bool ok]) ∧ Below w.heap.size w w' := by
  have := sPMove_any l w hs; rw [h] at this; exact this
theorem isMove_eq (a b c d k : Int) (ok : Bool) (w : World) (h : goodM a b c d k = ok) :
    Calls Tryd.prog 27 #[.agg #[.int .i64 a, .int .i64 b, .int .i64 c, .int .i64 d, .int .i64 k]] w fun e w' => e = .returned (.bool ok) ∧ Below w.heap.size w w' := by
  have := iIsMove_any a b c d k w; rw [h] at this; exact this
theorem iSquare_let (x y u v g : Int) (ok : Bool) (w : World) (h : mSquareOf x y u v = (g, ok)) :
    Calls Tryd.prog 16 #[.agg #[.int .i64 x, .int .i64 y], .agg #[.int .i64 u, .int .i64 v]] w fun e w' => e = .returned (.tuple #[.int .i64 g, .bool ok]) ∧ Below w.heap.size w w' := by
  have := iSquareOf_any x y u v w; rw [h] at this; exact this

end Go.Proofs.YtgpjnffomheemaaDoor
end
