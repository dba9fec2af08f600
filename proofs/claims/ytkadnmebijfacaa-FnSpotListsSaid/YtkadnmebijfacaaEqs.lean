/- Contracts with letters for what is returned. -/
import Derived.Test.YtkadnmebijfacaaCircs
import Derived.Test.YtkadnmebijfacaaCircle2
import Derived.Test.YtkadnmebijfacaaNear
import Derived.Test.YtkadnmebijfacaaBetween
namespace Go.Proofs.Ytkadnmebijfacaa
open Go.RowKit
set_option linter.unusedVariables false
set_option linter.unusedSimpArgs false

theorem iChord_eq (p00 p10 r0 : Int) (ok : Bool) (w : World) (h : mChord p00 p10 = (r0, ok)) :
    Calls Try.prog 66 #[.int .i64 p00, .int .i64 p10] w fun e w' => e = .returned (.tuple #[.int .i64 r0, .bool ok]) ∧ w = w' := by
  have := iChord_any p00 p10 w; rw [h] at this; exact this

theorem sChord_eq (p00 p10 r0 : Int) (ok : Bool) (w : World) (h : mChord p00 p10 = (r0, ok)) :
    Calls Try.prog 67 #[.int .i64 p00, .int .i64 p10] w fun e w' => e = .returned (.tuple #[.int .i64 r0, .bool ok]) ∧ w = w' := by
  have := sChord_any p00 p10 w; rw [h] at this; exact this

theorem iRadius_eq (p00 p01 p10 p11 r0 : Int) (ok : Bool) (w : World) (h : mRadius p00 p01 p10 p11 = (r0, ok)) :
    Calls Try.prog 57 #[.agg #[.int .i64 p00, .int .i64 p01], .agg #[.int .i64 p10, .int .i64 p11]] w fun e w' => e = .returned (.tuple #[.int .i64 r0, .bool ok]) ∧ Below w.heap.size w w' := by
  have := iRadius_any p00 p01 p10 p11 w; rw [h] at this; exact this

theorem sRadius_eq (p00 p01 p10 p11 r0 : Int) (ok : Bool) (w : World) (h : mRadius p00 p01 p10 p11 = (r0, ok)) :
    Calls Try.prog 58 #[.agg #[.int .i64 p00, .int .i64 p01], .agg #[.int .i64 p10, .int .i64 p11]] w fun e w' => e = .returned (.tuple #[.int .i64 r0, .bool ok]) ∧ Below w.heap.size w w' := by
  have := sRadius_any p00 p01 p10 p11 w; rw [h] at this; exact this

theorem iSquareOf_eq (p00 p01 p10 p11 r0 : Int) (ok : Bool) (w : World) (h : mSquareOf p00 p01 p10 p11 = (r0, ok)) :
    Calls Try.prog 12 #[.agg #[.int .i64 p00, .int .i64 p01], .agg #[.int .i64 p10, .int .i64 p11]] w fun e w' => e = .returned (.tuple #[.int .i64 r0, .bool ok]) ∧ Below w.heap.size w w' := by
  have := iSquareOf_any p00 p01 p10 p11 w; rw [h] at this; exact this

theorem sSquareOf_eq (p00 p01 p10 p11 r0 : Int) (ok : Bool) (w : World) (h : mSquareOf p00 p01 p10 p11 = (r0, ok)) :
    Calls Try.prog 13 #[.agg #[.int .i64 p00, .int .i64 p01], .agg #[.int .i64 p10, .int .i64 p11]] w fun e w' => e = .returned (.tuple #[.int .i64 r0, .bool ok]) ∧ Below w.heap.size w w' := by
  have := sSquareOf_any p00 p01 p10 p11 w; rw [h] at this; exact this

theorem iRootOf_eq (p00 r0 : Int) (ok : Bool) (w : World) (h : mRootOf p00 = (r0, ok)) :
    Calls Try.prog 42 #[.int .i64 p00] w fun e w' => e = .returned (.tuple #[.int .i64 r0, .bool ok]) ∧ w = w' := by
  have := iRootOf_any p00 w; rw [h] at this; exact this

theorem sRootOf_eq (p00 r0 : Int) (ok : Bool) (w : World) (h : mRootOf p00 = (r0, ok)) :
    Calls Try.prog 43 #[.int .i64 p00] w fun e w' => e = .returned (.tuple #[.int .i64 r0, .bool ok]) ∧ w = w' := by
  have := sRootOf_any p00 w; rw [h] at this; exact this

theorem iNearArc_eq (p00 p01 p10 p20 p21 p30 : Int) (ok ok1 : Bool) (w : World) (h : mNearArc p00 p01 p10 p20 p21 p30 = (ok, ok1)) :
    Calls Try.prog 54 #[.agg #[.int .i64 p00, .int .i64 p01], .int .i64 p10, .agg #[.int .i64 p20, .int .i64 p21], .int .i64 p30] w fun e w' => e = .returned (.tuple #[.bool ok, .bool ok1]) ∧ Below w.heap.size w w' := by
  have := iNearArc_any p00 p01 p10 p20 p21 p30 w; rw [h] at this; exact this

theorem sNearArc_eq (p00 p01 p10 p20 p21 p30 : Int) (ok ok1 : Bool) (w : World) (h : mNearArc p00 p01 p10 p20 p21 p30 = (ok, ok1)) :
    Calls Try.prog 55 #[.agg #[.int .i64 p00, .int .i64 p01], .int .i64 p10, .agg #[.int .i64 p20, .int .i64 p21], .int .i64 p30] w fun e w' => e = .returned (.tuple #[.bool ok, .bool ok1]) ∧ Below w.heap.size w w' := by
  have := sNearArc_any p00 p01 p10 p20 p21 p30 w; rw [h] at this; exact this

theorem iQuarter_eq (p00 p01 p10 p11 r0 r1 : Int) (ok : Bool) (w : World) (h : mQuarter p00 p01 p10 p11 = ((r0, r1), ok)) :
    Calls Try.prog 48 #[.agg #[.int .i64 p00, .int .i64 p01], .agg #[.int .i64 p10, .int .i64 p11]] w fun e w' => e = .returned (.tuple #[.agg #[.int .i64 r0, .int .i64 r1], .bool ok]) ∧ Below w.heap.size w w' := by
  have := iQuarter_any p00 p01 p10 p11 w; rw [h] at this; exact this

theorem sQuarter_eq (p00 p01 p10 p11 r0 r1 : Int) (ok : Bool) (w : World) (h : mQuarter p00 p01 p10 p11 = ((r0, r1), ok)) :
    Calls Try.prog 49 #[.agg #[.int .i64 p00, .int .i64 p01], .agg #[.int .i64 p10, .int .i64 p11]] w fun e w' => e = .returned (.tuple #[.agg #[.int .i64 r0, .int .i64 r1], .bool ok]) ∧ Below w.heap.size w w' := by
  have := sQuarter_any p00 p01 p10 p11 w; rw [h] at this; exact this

theorem iCircle_eq (p00 p01 p10 p11 p20 p21 r0 r1 : Int) (ok : Bool) (w : World) (h : mCircle p00 p01 p10 p11 p20 p21 = ((r0, r1), ok)) :
    Calls Try.prog 51 #[.agg #[.int .i64 p00, .int .i64 p01], .agg #[.int .i64 p10, .int .i64 p11], .agg #[.int .i64 p20, .int .i64 p21]] w fun e w' => e = .returned (.tuple #[.agg #[.int .i64 r0, .int .i64 r1], .bool ok]) ∧ Below w.heap.size w w' := by
  have := iCircle_any p00 p01 p10 p11 p20 p21 w; rw [h] at this; exact this

theorem sCircle_eq (p00 p01 p10 p11 p20 p21 r0 r1 : Int) (ok : Bool) (w : World) (h : mCircle p00 p01 p10 p11 p20 p21 = ((r0, r1), ok)) :
    Calls Try.prog 52 #[.agg #[.int .i64 p00, .int .i64 p01], .agg #[.int .i64 p10, .int .i64 p11], .agg #[.int .i64 p20, .int .i64 p21]] w fun e w' => e = .returned (.tuple #[.agg #[.int .i64 r0, .int .i64 r1], .bool ok]) ∧ Below w.heap.size w w' := by
  have := sCircle_any p00 p01 p10 p11 p20 p21 w; rw [h] at this; exact this

theorem iMiddle_eq (p00 p01 p10 p11 r0 r1 : Int) (ok : Bool) (w : World) (h : mMiddle p00 p01 p10 p11 = ((r0, r1), ok)) :
    Calls Try.prog 20 #[.agg #[.int .i64 p00, .int .i64 p01], .agg #[.int .i64 p10, .int .i64 p11]] w fun e w' => e = .returned (.tuple #[.agg #[.int .i64 r0, .int .i64 r1], .bool ok]) ∧ Below w.heap.size w w' := by
  have := iMiddle_any p00 p01 p10 p11 w; rw [h] at this; exact this

theorem sMiddle_eq (p00 p01 p10 p11 r0 r1 : Int) (ok : Bool) (w : World) (h : mMiddle p00 p01 p10 p11 = ((r0, r1), ok)) :
    Calls Try.prog 21 #[.agg #[.int .i64 p00, .int .i64 p01], .agg #[.int .i64 p10, .int .i64 p11]] w fun e w' => e = .returned (.tuple #[.agg #[.int .i64 r0, .int .i64 r1], .bool ok]) ∧ Below w.heap.size w w' := by
  have := sMiddle_any p00 p01 p10 p11 w; rw [h] at this; exact this

theorem iBetween_eq (p00 p01 p10 p11 p20 p21 : Int) (ok ok1 : Bool) (w : World) (h : mBetween p00 p01 p10 p11 p20 p21 = (ok, ok1)) :
    Calls Try.prog 22 #[.agg #[.int .i64 p00, .int .i64 p01], .agg #[.int .i64 p10, .int .i64 p11], .agg #[.int .i64 p20, .int .i64 p21]] w fun e w' => e = .returned (.tuple #[.bool ok, .bool ok1]) ∧ Below w.heap.size w w' := by
  have := iBetween_any p00 p01 p10 p11 p20 p21 w; rw [h] at this; exact this

theorem sBetween_eq (p00 p01 p10 p11 p20 p21 : Int) (ok ok1 : Bool) (w : World) (h : mBetween p00 p01 p10 p11 p20 p21 = (ok, ok1)) :
    Calls Try.prog 24 #[.agg #[.int .i64 p00, .int .i64 p01], .agg #[.int .i64 p10, .int .i64 p11], .agg #[.int .i64 p20, .int .i64 p21]] w fun e w' => e = .returned (.tuple #[.bool ok, .bool ok1]) ∧ Below w.heap.size w w' := by
  have := sBetween_any p00 p01 p10 p11 p20 p21 w; rw [h] at this; exact this

theorem iGap_eq (A : Option Addr) (n c : Nat) (l : List (Int × Int)) (g : Int) (ok : Bool) (w : World) (hp : Lst w A n l) (h : mLeastGap l = (g, ok)) :
    Calls Try.prog 69 #[.slice A n c] w fun e w' => e = .returned (.tuple #[.int .i64 g, .bool ok]) ∧ Below w.heap.size w w' := by
  have := iLeastGap_any A n c l w hp; rw [h] at this; exact this

theorem iNear_eq (x y : Int) (A : Option Addr) (n c : Nat) (l : List (Int × Int)) (g : Int) (ok : Bool) (w : World) (hp : Lst w A n l) (h : mNearest x y l = (g, ok)) :
    Calls Try.prog 10 #[.agg #[.int .i64 x, .int .i64 y], .slice A n c] w fun e w' => e = .returned (.tuple #[.int .i64 g, .bool ok]) ∧ Below w.heap.size w w' := by
  have := iNearest_any x y A n c l w hp; rw [h] at this; exact this

theorem sGap_eq (A : Option Addr) (n c : Nat) (l : List (Int × Int)) (g : Int) (ok : Bool) (w : World) (hp : Lst w A n l) (h : mLeastGap l = (g, ok)) :
    Calls Try.prog 70 #[.slice A n c] w fun e w' => e = .returned (.tuple #[.int .i64 g, .bool ok]) ∧ Below w.heap.size w w' := by
  have := sLeastGap_any A n c l w hp; rw [h] at this; exact this

theorem sNear_eq (x y : Int) (A : Option Addr) (n c : Nat) (l : List (Int × Int)) (g : Int) (ok : Bool) (w : World) (hp : Lst w A n l) (h : mNearest x y l = (g, ok)) :
    Calls Try.prog 11 #[.agg #[.int .i64 x, .int .i64 y], .slice A n c] w fun e w' => e = .returned (.tuple #[.int .i64 g, .bool ok]) ∧ Below w.heap.size w w' := by
  have := sNearest_any x y A n c l w hp; rw [h] at this; exact this

end Go.Proofs.Ytkadnmebijfacaa

