import Derived.Test.YtgpjnffomheemaaDoorJ1
import Derived.Test.YtgpjnffomheemaaDoorMoveStep
import Derived.Test.YtgpjnffomheemaaDoorJ2
import Derived.Test.YtgpjnffomheemaaDoorWhole
/- Contracts with letters for what is returned. -/
namespace Go.Proofs.YtgpjnffomheemaaDoor
open Go.RowKit
set_option linter.unusedVariables false
set_option linter.unusedSimpArgs false

theorem iPlaceAt_eq (p00 p01 p02 p03 p04 p10 r0 r1 : Int) (ok : Bool) (w : World) (h : mPlaceAt p00 p01 p02 p03 p04 p10 = (r0, r1, ok)) :
    Calls Tryd.prog 29 #[.agg #[.int .i64 p00, .int .i64 p01, .int .i64 p02, .int .i64 p03, .int .i64 p04], .int .i64 p10] w fun e w' => e = .returned (.tuple #[.int .i64 r0, .int .i64 r1, .bool ok]) ∧ Below w.heap.size w w' := by
  have := iPlaceAt_any p00 p01 p02 p03 p04 p10 w; rw [h] at this; exact this

theorem sPlaceAt_eq (p00 p01 p02 p03 p04 p10 r0 r1 : Int) (ok : Bool) (w : World) (h : mPlaceAt p00 p01 p02 p03 p04 p10 = (r0, r1, ok)) :
    Calls Tryd.prog 35 #[.agg #[.int .i64 p00, .int .i64 p01, .int .i64 p02, .int .i64 p03, .int .i64 p04], .int .i64 p10] w fun e w' => e = .returned (.tuple #[.int .i64 r0, .int .i64 r1, .bool ok]) ∧ Below w.heap.size w w' := by
  have := sPlaceAt_any p00 p01 p02 p03 p04 p10 w; rw [h] at this; exact this

theorem iStepSquare_eq (p00 p01 p02 p03 p04 r0 r1 : Int) (ok : Bool) (w : World) (h : mStepSquare p00 p01 p02 p03 p04 = (r0, r1, ok)) :
    Calls Tryd.prog 25 #[.agg #[.int .i64 p00, .int .i64 p01, .int .i64 p02, .int .i64 p03, .int .i64 p04]] w fun e w' => e = .returned (.tuple #[.int .i64 r0, .int .i64 r1, .bool ok]) ∧ Below w.heap.size w w' := by
  have := iStepSquare_any p00 p01 p02 p03 p04 w; rw [h] at this; exact this

theorem sStepSquare_eq (p00 p01 p02 p03 p04 r0 r1 : Int) (ok : Bool) (w : World) (h : mStepSquare p00 p01 p02 p03 p04 = (r0, r1, ok)) :
    Calls Tryd.prog 26 #[.agg #[.int .i64 p00, .int .i64 p01, .int .i64 p02, .int .i64 p03, .int .i64 p04]] w fun e w' => e = .returned (.tuple #[.int .i64 r0, .int .i64 r1, .bool ok]) ∧ Below w.heap.size w w' := by
  have := sStepSquare_any p00 p01 p02 p03 p04 w; rw [h] at this; exact this

theorem iWithinStep_eq (p00 p01 p02 p03 p04 p10 : Int) (ok ok1 : Bool) (w : World) (h : mWithinStep p00 p01 p02 p03 p04 p10 = (ok, ok1)) :
    Calls Tryd.prog 30 #[.agg #[.int .i64 p00, .int .i64 p01, .int .i64 p02, .int .i64 p03, .int .i64 p04], .int .i64 p10] w fun e w' => e = .returned (.tuple #[.bool ok, .bool ok1]) ∧ Below w.heap.size w w' := by
  have := iWithinStep_any p00 p01 p02 p03 p04 p10 w; rw [h] at this; exact this

theorem iLeastCounts_eq (p00 p01 p10 p11 p20 r0 : Int) (ok : Bool) (w : World) (h : mLeastCounts p00 p01 p10 p11 p20 = (r0, ok)) :
    Calls Tryd.prog 32 #[.agg #[.int .i64 p00, .int .i64 p01], .agg #[.int .i64 p10, .int .i64 p11], .int .i64 p20] w fun e w' => e = .returned (.tuple #[.int .i64 r0, .bool ok]) ∧ Below w.heap.size w w' := by
  have := iLeastCounts_any p00 p01 p10 p11 p20 w; rw [h] at this; exact this

theorem sLeastCounts_eq (p00 p01 p10 p11 p20 r0 : Int) (ok : Bool) (w : World) (h : mLeastCounts p00 p01 p10 p11 p20 = (r0, ok)) :
    Calls Tryd.prog 33 #[.agg #[.int .i64 p00, .int .i64 p01], .agg #[.int .i64 p10, .int .i64 p11], .int .i64 p20] w fun e w' => e = .returned (.tuple #[.int .i64 r0, .bool ok]) ∧ Below w.heap.size w w' := by
  have := sLeastCounts_any p00 p01 p10 p11 p20 w; rw [h] at this; exact this

theorem IRow.at {w : World} {b g n c j : Nat} {x : Int} {l : List Int} (h : IRow w b (.slice (some ⟨g, 0, none⟩) n c) l) (hj : l[j]? = some x) : Has w [(g, j, .int .i64 x)] := by
  obtain ⟨hl, he⟩ := List.getElem?_eq_some_iff.1 hj
  obtain ⟨A, c', hv, _, hrow⟩ := h.form
  obtain ⟨g', hA, _, _, _, hc⟩ := hrow (by omega)
  injection hv with e1 e2 e3
  subst hA
  injection e1 with e1
  injection e1 with e1
  subst e1
  have := hc j hl
  rwa [he] at this
theorem IRow.blk {w : World} {b n c : Nat} {A : Option Addr} {l : List Int} (h : IRow w b (.slice A n c) l) (hn : 0 < l.length) : ∃ g, A = some ⟨g, 0, none⟩ ∧ g < w.heap.size := by
  obtain ⟨A', c', hv, _, hrow⟩ := h.form
  obtain ⟨g', hA, _, hlt, _, _⟩ := hrow hn
  injection hv with e1 e2 e3
  exact ⟨g', by rw [e1, hA], hlt⟩

end Go.Proofs.YtgpjnffomheemaaDoor

