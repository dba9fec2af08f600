/- Contracts with letters for what is returned. -/
import Derived.Test.YtgpjnffomheemaaDoorSpot2
import Derived.Test.YtgpjnffomheemaaDoorWrt1
import Derived.Test.YtgpjnffomheemaaDoorTxt3
namespace Go.Proofs.YtgpjnffomheemaaDoor
open Go.RowKit
set_option linter.unusedVariables false
set_option linter.unusedSimpArgs false

theorem iSquareOf_eq (p00 p01 p10 p11 r0 : Int) (ok : Bool) (w : World) (h : mSquareOf p00 p01 p10 p11 = (r0, ok)) :
    Calls Tryd.prog 16 #[.agg #[.int .i64 p00, .int .i64 p01], .agg #[.int .i64 p10, .int .i64 p11]] w fun e w' => e = .returned (.tuple #[.int .i64 r0, .bool ok]) ∧ Below w.heap.size w w' := by
  have := iSquareOf_any p00 p01 p10 p11 w; rw [h] at this; exact this

theorem iMirror_eq (p00 p01 r0 r1 : Int) (ok : Bool) (w : World) (h : mMirror p00 p01 = ((r0, r1), ok)) :
    Calls Tryd.prog 10 #[.agg #[.int .i64 p00, .int .i64 p01]] w fun e w' => e = .returned (.tuple #[.agg #[.int .i64 r0, .int .i64 r1], .bool ok]) ∧ Below w.heap.size w w' := by
  have := iMirror_any p00 p01 w; rw [h] at this; exact this

theorem sMirror_eq (p00 p01 r0 r1 : Int) (ok : Bool) (w : World) (h : mMirror p00 p01 = ((r0, r1), ok)) :
    Calls Tryd.prog 11 #[.agg #[.int .i64 p00, .int .i64 p01]] w fun e w' => e = .returned (.tuple #[.agg #[.int .i64 r0, .int .i64 r1], .bool ok]) ∧ Below w.heap.size w w' := by
  have := sMirror_any p00 p01 w; rw [h] at this; exact this

theorem iNearStep_eq (p00 p01 r0 r1 : Int) (ok : Bool) (w : World) (h : mNearStep p00 p01 = ((r0, r1), ok)) :
    Calls Tryd.prog 12 #[.agg #[.int .i64 p00, .int .i64 p01]] w fun e w' => e = .returned (.tuple #[.agg #[.int .i64 r0, .int .i64 r1], .bool ok]) ∧ Below w.heap.size w w' := by
  have := iNearStep_any p00 p01 w; rw [h] at this; exact this

theorem sNearStep_eq (p00 p01 r0 r1 : Int) (ok : Bool) (w : World) (h : mNearStep p00 p01 = ((r0, r1), ok)) :
    Calls Tryd.prog 13 #[.agg #[.int .i64 p00, .int .i64 p01]] w fun e w' => e = .returned (.tuple #[.agg #[.int .i64 r0, .int .i64 r1], .bool ok]) ∧ Below w.heap.size w w' := by
  have := sNearStep_any p00 p01 w; rw [h] at this; exact this

theorem iMoveSpot_eq (p00 p01 p10 p20 r0 r1 : Int) (ok : Bool) (w : World) (h : mMoveSpot p00 p01 p10 p20 = ((r0, r1), ok)) :
    Calls Tryd.prog 18 #[.agg #[.int .i64 p00, .int .i64 p01], .int .i64 p10, .int .i64 p20] w fun e w' => e = .returned (.tuple #[.agg #[.int .i64 r0, .int .i64 r1], .bool ok]) ∧ Below w.heap.size w w' := by
  have := iMoveSpot_any p00 p01 p10 p20 w; rw [h] at this; exact this

theorem sMoveSpot_eq (p00 p01 p10 p20 r0 r1 : Int) (ok : Bool) (w : World) (h : mMoveSpot p00 p01 p10 p20 = ((r0, r1), ok)) :
    Calls Tryd.prog 19 #[.agg #[.int .i64 p00, .int .i64 p01], .int .i64 p10, .int .i64 p20] w fun e w' => e = .returned (.tuple #[.agg #[.int .i64 r0, .int .i64 r1], .bool ok]) ∧ Below w.heap.size w w' := by
  have := sMoveSpot_any p00 p01 p10 p20 w; rw [h] at this; exact this

theorem isSpot_eq (x y : Int) (ok : Bool) (w : World) (h : goodB x y = ok) :
    Calls Tryd.prog 14 #[.agg #[.int .i64 x, .int .i64 y]] w fun e w' => e = .returned (.bool ok) ∧ Below w.heap.size w w' := by
  have := iIsSpot_any x y w; rw [h] at this; exact this

theorem spots_let (a b : Int) : ∃ (t : List UInt8) (m1 m2 n1 n2 : Int) (ok : Bool), Hid (goodB a b = ok) ∧ Hid (mSpotText a b = (t, ok)) ∧ Hid (mMirror a b = ((m1, m2), ok)) ∧ Hid (mNearStep a b = ((n1, n2), ok)) := by
  rcases tf (goodB a b) with h | h
  · exact ⟨_, _, _, _, _, true, h, by show _ = _; rw [mSpotText, if_pos h], by show _ = _; rw [mMirror, if_pos h], by show _ = _; rw [mNearStep, if_pos h]⟩
  · exact ⟨[], 0, 0, 0, 0, false, h, by show _ = _; rw [mSpotText, if_neg (by rw [h]; decide)], by show _ = _; rw [mMirror, if_neg (by rw [h]; decide)], by show _ = _; rw [mNearStep, if_neg (by rw [h]; decide)]⟩
theorem sq_small {x y : Int} (h1 : -4 ≤ x) (h2 : x ≤ 4) (h3 : -4 ≤ y) (h4 : y ≤ 4) : 0 ≤ x * x + y * y ∧ x * x + y * y ≤ 32 := by
  have hx : 0 ≤ x * x ∧ x * x ≤ 16 := by
    rcases (by omega : x = -4 ∨ x = -3 ∨ x = -2 ∨ x = -1 ∨ x = 0 ∨ x = 1 ∨ x = 2 ∨ x = 3 ∨ x = 4) with h | h | h | h | h | h | h | h | h <;> subst h <;> decide
  have hy : 0 ≤ y * y ∧ y * y ≤ 16 := by
    rcases (by omega : y = -4 ∨ y = -3 ∨ y = -2 ∨ y = -1 ∨ y = 0 ∨ y = 1 ∨ y = 2 ∨ y = 3 ∨ y = 4) with h | h | h | h | h | h | h | h | h <;> subst h <;> decide
  omega
/-- what holds of a good spot -/
theorem spots_law {a b m1 m2 n1 n2 : Int} {t : List UInt8} (h : goodB a b = true) (ht : mSpotText a b = (t, true)) (hm : mMirror a b = ((m1, m2), true)) (hn : mNearStep a b = ((n1, n2), true)) :
    t.length ≤ 1000 ∧ mParse t = ((a, b), true) ∧ mMirror m1 m2 = ((a, b), true) ∧ (∃ far, mSquareOf a b n1 n2 = (far, true) ∧ 0 ≤ far ∧ far ≤ 32) ∧ n1.tmod 8 = 0 ∧ n2.tmod 8 = 0 ∧ n1 % 8 = 0 ∧ n2 % 8 = 0 := by
  have hg := h
  rw [goodB_iff] at hg
  rw [mSpotText, if_pos h] at ht
  rw [mMirror, if_pos h] at hm
  rw [mNearStep, if_pos h] at hn
  injection ht with ht _
  injection hm with hm _
  injection hn with hn _
  injection hm with e1 e2
  injection hn with e3 e4
  subst ht e1 e2
  obtain ⟨x, rfl⟩ : ∃ q : Nat, a = q := ⟨a.toNat, by omega⟩
  obtain ⟨y, rfl⟩ : ∃ q : Nat, b = q := ⟨b.toNat, by omega⟩
  have hn0 : 0 ≤ n1 ∧ n1 ≤ 1280 ∧ 0 ≤ n2 ∧ n2 ≤ 672 ∧ n1 % 8 = 0 ∧ n2 % 8 = 0 ∧ -4 ≤ (x : Int) - n1 ∧ (x : Int) - n1 ≤ 4 ∧ -4 ≤ (y : Int) - n2 ∧ (y : Int) - n2 ≤ 4 := by omega
  clear e3 e4
  obtain ⟨k1, k2, k3, k4, k5, k6, k7, k8, k9, k10⟩ := hn0
  have g2 : goodB (1280 - (x : Int)) (y : Int) = true := by rw [goodB_iff]; omega
  have g3 : goodB n1 n2 = true := by rw [goodB_iff]; omega
  simp only [Int.toNat_natCast]
  refine ⟨?_, mParse_text h, ?_, ⟨sq (x : Int) (y : Int) n1 n2, ?_, ?_⟩, ?_, ?_, k5, k6⟩
  · have h1 := partL_le (show x ≤ 1000000 by omega)
    have h2 := partL_le (show y ≤ 1000000 by omega)
    rw [textL]; simp; omega
  · rw [mMirror, if_pos g2, show (1280 : Int) - (1280 - (x : Int)) = x by omega]
  · rw [mSquareOf, if_pos (by rw [h, g3]; rfl)]
  · rw [sq]; exact sq_small k7 k8 k9 k10
  · rw [Int.tmod_eq_emod_of_nonneg k1]; exact k5
  · rw [Int.tmod_eq_emod_of_nonneg k3]; exact k6
theorem sq_le2000 {x : Int} (h1 : -2000 ≤ x) (h2 : x ≤ 2000) : 0 ≤ x * x ∧ x * x ≤ 4000000 := by
  have hn : x * x = ((x.natAbs * x.natAbs : Nat) : Int) := Int.natAbs_mul_self.symm
  have h3 : x.natAbs ≤ 2000 := by omega
  have := Nat.mul_le_mul h3 h3
  rw [hn]
  omega
/-- what holds of a moved spot -/
theorem moved_law {a b x y v1 v2 : Int} (h : mMoveSpot a b x y = ((v1, v2), true)) :
    -2000 ≤ x ∧ x ≤ 2000 ∧ -2000 ≤ y ∧ y ≤ 2000 ∧ mMoveSpot v1 v2 (-x) (-y) = ((a, b), true) ∧ mSquareOf a b v1 v2 = (x * x + y * y, true) ∧ 0 ≤ x * x ∧ x * x ≤ 4000000 ∧ 0 ≤ y * y ∧ y * y ≤ 4000000 := by
  unfold mMoveSpot at h
  split at h
  · rename_i hc
    simp only [Bool.and_eq_true] at hc
    obtain ⟨⟨hg, hx⟩, hy⟩ := hc
    rw [inB_iff] at hx hy
    unfold mIf at h
    split at h
    · rename_i hv
      injection h with h _
      injection h with e1 e2
      subst e1 e2
      have h1 := sq_le2000 hx.1 hx.2
      have h2 := sq_le2000 hy.1 hy.2
      refine ⟨hx.1, hx.2, hy.1, hy.2, ?_, ?_, h1.1, h1.2, h2.1, h2.2⟩
      · have c1 : inB (-x) (-2000) 2000 = true := by rw [inB_iff]; omega
        have c2 : inB (-y) (-2000) 2000 = true := by rw [inB_iff]; omega
        rw [mMoveSpot, hv, c1, c2, show a + x + -x = a by omega, show b + y + -y = b by omega, mIf, if_pos hg]; rfl
      · rw [mSquareOf, hg, hv]
        simp only [Bool.and_self, if_true, sq]
        rw [show a - (a + x) = -x by omega, show b - (b + y) = -y by omega, Int.neg_mul_neg, Int.neg_mul_neg]
    · injection h with _ h; cases h
  · injection h with _ h; cases h

end Go.Proofs.YtgpjnffomheemaaDoor

