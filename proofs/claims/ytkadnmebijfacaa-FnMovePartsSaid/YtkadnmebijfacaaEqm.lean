/- Contracts with letters for what is returned. -/
import Derived.Test.YtkadnmebijfacaaJoin2
import Derived.Test.YtkadnmebijfacaaMoveStep
import Derived.Test.YtkadnmebijfacaaMoveRev
import Derived.Test.YtkadnmebijfacaaWhole
import Derived.Test.YtkadnmebijfacaaSame
namespace Go.Proofs.Ytkadnmebijfacaa
open Go.RowKit
set_option linter.unusedVariables false
set_option linter.unusedSimpArgs false

theorem iJoin_eq (p00 p01 p02 p03 p04 p10 p11 p12 p13 p14 r0 r1 r2 r3 r4 : Int) (ok : Bool) (w : World) (h : mJoin p00 p01 p02 p03 p04 p10 p11 p12 p13 p14 = ((r0, r1, r2, r3, r4), ok)) :
    Calls Try.prog 28 #[.agg #[.int .i64 p00, .int .i64 p01, .int .i64 p02, .int .i64 p03, .int .i64 p04], .agg #[.int .i64 p10, .int .i64 p11, .int .i64 p12, .int .i64 p13, .int .i64 p14]] w fun e w' => e = .returned (.tuple #[.agg #[.int .i64 r0, .int .i64 r1, .int .i64 r2, .int .i64 r3, .int .i64 r4], .bool ok]) ∧ Below w.heap.size w w' := by
  have := iJoin_any p00 p01 p02 p03 p04 p10 p11 p12 p13 p14 w; rw [h] at this; exact this

theorem sJoin_eq (p00 p01 p02 p03 p04 p10 p11 p12 p13 p14 r0 r1 r2 r3 r4 : Int) (ok : Bool) (w : World) (h : mJoin p00 p01 p02 p03 p04 p10 p11 p12 p13 p14 = ((r0, r1, r2, r3, r4), ok)) :
    Calls Try.prog 31 #[.agg #[.int .i64 p00, .int .i64 p01, .int .i64 p02, .int .i64 p03, .int .i64 p04], .agg #[.int .i64 p10, .int .i64 p11, .int .i64 p12, .int .i64 p13, .int .i64 p14]] w fun e w' => e = .returned (.tuple #[.agg #[.int .i64 r0, .int .i64 r1, .int .i64 r2, .int .i64 r3, .int .i64 r4], .bool ok]) ∧ Below w.heap.size w w' := by
  have := sJoin_any p00 p01 p02 p03 p04 p10 p11 p12 p13 p14 w; rw [h] at this; exact this

theorem sSplit_eq (p00 p01 p02 p03 p04 p10 r0 r1 r2 r3 r4 r5 r6 r7 r8 r9 : Int) (ok : Bool) (w : World) (h : mSplit p00 p01 p02 p03 p04 p10 = ((r0, r1, r2, r3, r4), (r5, r6, r7, r8, r9), ok)) :
    Calls Try.prog 27 #[.agg #[.int .i64 p00, .int .i64 p01, .int .i64 p02, .int .i64 p03, .int .i64 p04], .int .i64 p10] w fun e w' => e = .returned (.tuple #[.agg #[.int .i64 r0, .int .i64 r1, .int .i64 r2, .int .i64 r3, .int .i64 r4], .agg #[.int .i64 r5, .int .i64 r6, .int .i64 r7, .int .i64 r8, .int .i64 r9], .bool ok]) ∧ Below w.heap.size w w' := by
  have := sSplit_any p00 p01 p02 p03 p04 p10 w; rw [h] at this; exact this

theorem iRounded_eq (p00 p01 p02 p03 p04 p10 r0 r1 : Int) (ok : Bool) (w : World) (h : mRounded p00 p01 p02 p03 p04 p10 = ((r0, r1), ok)) :
    Calls Try.prog 33 #[.agg #[.int .i64 p00, .int .i64 p01, .int .i64 p02, .int .i64 p03, .int .i64 p04], .int .i64 p10] w fun e w' => e = .returned (.tuple #[.agg #[.int .i64 r0, .int .i64 r1], .bool ok]) ∧ Below w.heap.size w w' := by
  have := iRounded_any p00 p01 p02 p03 p04 p10 w; rw [h] at this; exact this

theorem sRounded_eq (p00 p01 p02 p03 p04 p10 r0 r1 : Int) (ok : Bool) (w : World) (h : mRounded p00 p01 p02 p03 p04 p10 = ((r0, r1), ok)) :
    Calls Try.prog 34 #[.agg #[.int .i64 p00, .int .i64 p01, .int .i64 p02, .int .i64 p03, .int .i64 p04], .int .i64 p10] w fun e w' => e = .returned (.tuple #[.agg #[.int .i64 r0, .int .i64 r1], .bool ok]) ∧ Below w.heap.size w w' := by
  have := sRounded_any p00 p01 p02 p03 p04 p10 w; rw [h] at this; exact this

theorem iPlaceAt_eq (p00 p01 p02 p03 p04 p10 r0 r1 : Int) (ok : Bool) (w : World) (h : mPlaceAt p00 p01 p02 p03 p04 p10 = (r0, r1, ok)) :
    Calls Try.prog 35 #[.agg #[.int .i64 p00, .int .i64 p01, .int .i64 p02, .int .i64 p03, .int .i64 p04], .int .i64 p10] w fun e w' => e = .returned (.tuple #[.int .i64 r0, .int .i64 r1, .bool ok]) ∧ Below w.heap.size w w' := by
  have := iPlaceAt_any p00 p01 p02 p03 p04 p10 w; rw [h] at this; exact this

theorem iReverse_eq (p00 p01 p02 p03 p04 r0 r1 r2 r3 r4 : Int) (ok : Bool) (w : World) (h : mReverse p00 p01 p02 p03 p04 = ((r0, r1, r2, r3, r4), ok)) :
    Calls Try.prog 39 #[.agg #[.int .i64 p00, .int .i64 p01, .int .i64 p02, .int .i64 p03, .int .i64 p04]] w fun e w' => e = .returned (.tuple #[.agg #[.int .i64 r0, .int .i64 r1, .int .i64 r2, .int .i64 r3, .int .i64 r4], .bool ok]) ∧ Below w.heap.size w w' := by
  have := iReverse_any p00 p01 p02 p03 p04 w; rw [h] at this; exact this

theorem sReverse_eq (p00 p01 p02 p03 p04 r0 r1 r2 r3 r4 : Int) (ok : Bool) (w : World) (h : mReverse p00 p01 p02 p03 p04 = ((r0, r1, r2, r3, r4), ok)) :
    Calls Try.prog 40 #[.agg #[.int .i64 p00, .int .i64 p01, .int .i64 p02, .int .i64 p03, .int .i64 p04]] w fun e w' => e = .returned (.tuple #[.agg #[.int .i64 r0, .int .i64 r1, .int .i64 r2, .int .i64 r3, .int .i64 r4], .bool ok]) ∧ Below w.heap.size w w' := by
  have := sReverse_any p00 p01 p02 p03 p04 w; rw [h] at this; exact this

theorem iStepSquare_eq (p00 p01 p02 p03 p04 r0 r1 : Int) (ok : Bool) (w : World) (h : mStepSquare p00 p01 p02 p03 p04 = (r0, r1, ok)) :
    Calls Try.prog 29 #[.agg #[.int .i64 p00, .int .i64 p01, .int .i64 p02, .int .i64 p03, .int .i64 p04]] w fun e w' => e = .returned (.tuple #[.int .i64 r0, .int .i64 r1, .bool ok]) ∧ Below w.heap.size w w' := by
  have := iStepSquare_any p00 p01 p02 p03 p04 w; rw [h] at this; exact this

theorem IRow.at {w : World} {b g n c j : Nat} {x : Int} {l : List Int} (h : IRow w b (.slice (some ⟨g, 0, none⟩) n c) l) (hj : l[j]? = some x) : Has w [(g, j, .int .i64 x)] := by
  obtain ⟨hl, he⟩ := List.getElem?_eq_some_iff.1 hj
  obtain ⟨A, c', hv, _, hrow⟩ := h.form
  obtain ⟨g', hA, _, _, _, hc⟩ := hrow (by omega)
  injection hv with e1 e2 e3
  subst hA
  injection e1 with e1
  injection e1 with e1
  subst e1
  have := hc j hl
  rwa [he] at this
theorem IRow.blk {w : World} {b n c : Nat} {A : Option Addr} {l : List Int} (h : IRow w b (.slice A n c) l) (hn : 0 < l.length) : ∃ g, A = some ⟨g, 0, none⟩ ∧ g < w.heap.size := by
  obtain ⟨A', c', hv, _, hrow⟩ := h.form
  obtain ⟨g', hA, _, hlt, _, _⟩ := hrow hn
  injection hv with e1 e2 e3
  exact ⟨g', by rw [e1, hA], hlt⟩

theorem iWhole_n (a b c d k : Int) (l : List Int) (n : Nat) (ok : Bool) (w : World) (h : mWhole a b c d k = (l, ok)) (hn : l.length = n) :
    Calls Try.prog 37 #[.agg #[.int .i64 a, .int .i64 b, .int .i64 c, .int .i64 d, .int .i64 k]] w fun e w' => ∃ A c, e = .returned (.tuple #[.slice A n c, .bool ok]) ∧ IRow w' w.heap.size (.slice A n c) l ∧ Below w.heap.size w w' := by
  subst hn
  have := iWhole_any a b c d k w
  rw [h] at this
  refine this.mono fun e w' ⟨v, h1, h2, h3⟩ => ?_
  obtain ⟨A, c, hv, _, _⟩ := h2.form
  subst hv
  exact ⟨A, c, h1, h2, h3⟩

theorem sWhole_n (a b c d k : Int) (l : List Int) (n : Nat) (ok : Bool) (w : World) (h : mWhole a b c d k = (l, ok)) (hn : l.length = n) :
    Calls Try.prog 38 #[.agg #[.int .i64 a, .int .i64 b, .int .i64 c, .int .i64 d, .int .i64 k]] w fun e w' => ∃ A c, e = .returned (.tuple #[.slice A n c, .bool ok]) ∧ IRow w' w.heap.size (.slice A n c) l ∧ Below w.heap.size w w' := by
  subst hn
  have := sWhole_any a b c d k w
  rw [h] at this
  refine this.mono fun e w' ⟨v, h1, h2, h3⟩ => ?_
  obtain ⟨A, c, hv, _, _⟩ := h2.form
  subst hv
  exact ⟨A, c, h1, h2, h3⟩

end Go.Proofs.Ytkadnmebijfacaa

