/- Plain laws of roots, places of arcs, quarter turns and middles. -/
import Derived.Test.YtkadnmebijfacaaPCirc
import Derived.Test.YtkadnmebijfacaaCircle
namespace Go.Proofs.Ytkadnmebijfacaa
open Go.RowKit
set_option linter.unusedVariables false
set_option linter.unusedSimpArgs false

theorem root_law {n r : Int} (hm : mRootOf n = (r, true)) : 0 ≤ r ∧ r ≤ 3200 ∧ 0 ≤ r * r ∧ r * r ≤ n ∧ n ≤ 10000000 ∧ n < (r + 1) * (r + 1) ∧ (r + 1) * (r + 1) ≤ 20000000 := by
  unfold mRootOf at hm
  split at hm
  · rename_i hc
    rw [inB_iff] at hc
    injection hm with hk
    obtain ⟨a, b, c⟩ := iroot_spec n hc.1
    obtain ⟨d, e⟩ := iroot_le hc.1 hc.2
    rw [hk] at a b c d e
    have h2 := Int.mul_nonneg a a
    have e3 : (r + 1) * (r + 1) = r * r + r + r + 1 := by rw [Int.add_mul, Int.mul_add]; omega
    omega
  · injection hm with _ h0; cases h0
theorem radius_law {a b c d h : Int} (hm : mRadius a b c d = (h, true)) : mSquareOf a b c d = (sq a b c d, true) ∧ 0 ≤ h ∧ h ≤ 3200 ∧ 0 ≤ h * h ∧ h * h ≤ sq a b c d ∧ sq a b c d ≤ 10000000 ∧ sq a b c d < (h + 1) * (h + 1) ∧ (h + 1) * (h + 1) ≤ 20000000 := by
  unfold mRadius at hm
  split at hm
  · rename_i hc
    injection hm with hk
    have hg := hc
    rw [Bool.and_eq_true] at hg
    obtain ⟨s1, s2⟩ := sq_bd hg.1 hg.2
    refine ⟨by simp [mSquareOf, hg.1, hg.2], ?_⟩
    have := root_law (n := sq a b c d) (r := h) (by unfold mRootOf; rw [if_pos (by rw [inB_iff]; omega), hk])
    omega
  · injection hm with _ h0; cases h0
theorem onArc_law {m1 m2 r x a b : Int} (hm : mOnArc m1 m2 r x = ((a, b), true)) : goodB m1 m2 = true ∧ 1 ≤ r ∧ r ≤ 1400 ∧ -r ≤ x ∧ x ≤ r ∧ a = m1 + x ∧ m2 ≤ b ∧ goodB a b = true ∧ mNearArc m1 m2 r a b 1 = (true, true) := by
  unfold mOnArc at hm
  split at hm
  · rename_i hc
    rw [Bool.and_eq_true, Bool.and_eq_true, inB_iff, inB_iff] at hc
    obtain ⟨⟨g, r1, r2⟩, x1, x2⟩ := hc
    obtain ⟨e1, e2, g2⟩ := mIf_yes hm
    obtain ⟨b1, b2, b3, b4, b5, b6⟩ := arc_bd r1 r2 x1 x2
    obtain ⟨k1, k2, k3⟩ := iroot_spec _ b5
    rw [← e1, ← e2] at g2
    obtain ⟨k, hk⟩ : ∃ k, iroot (r * r - x * x) = k := ⟨_, rfl⟩
    rw [hk] at k1 k2 k3 e2
    subst e1 e2
    refine ⟨g, r1, r2, x1, x2, rfl, by omega, g2, ?_⟩
    unfold mNearArc
    rw [if_pos (by rw [Bool.and_eq_true, Bool.and_eq_true, Bool.and_eq_true, inB_iff, inB_iff]; exact ⟨⟨⟨g, r1, r2⟩, g2⟩, by omega, by omega⟩)]
    have hs : sq m1 m2 (m1 + x) (m2 + k) = x * x + k * k := by
      unfold sq
      rw [show m1 - (m1 + x) = -x by omega, show m2 - (m2 + k) = -k by omega, Int.neg_mul_neg, Int.neg_mul_neg]
    have e4 : (r - 1) * (r - 1) = r * r - r - r + 1 := by rw [Int.sub_mul, Int.mul_sub]; omega
    have e5 : (r + 1) * (r + 1) = r * r + r + r + 1 := by rw [Int.add_mul, Int.mul_add]; omega
    have e6 : (k + 1) * (k + 1) = k * k + k + k + 1 := by rw [Int.add_mul, Int.mul_add]; omega
    have hkr : k < r ∨ k * k = r * r := by
      rcases Int.lt_or_le k r with h | h
      · exact .inl h
      · right
        have := Int.mul_le_mul h h (by omega) k1
        omega
    rw [(inB_iff _ _ _).2 (by rw [hs]; rcases hkr with h | h <;> omega)]
  · injection hm with _ h0; cases h0
/-- where the spot b stands after i + 1 quarter turns about u -/
def turnAt (u1 u2 b1 b2 : Int) : Nat → Int × Int
  | 0 => (u1 - (b2 - u2), u2 + b1 - u1)
  | 1 => (u1 - (b1 - u1), u2 - (b2 - u2))
  | 2 => (u1 + (b2 - u2), u2 - (b1 - u1))
  | _ => (b1, b2)
theorem quarter_law {u1 u2 b1 b2 q1 q2 : Int} (hm : mQuarter u1 u2 b1 b2 = ((q1, q2), true)) : turnAt u1 u2 b1 b2 0 = (q1, q2) ∧ ∃ s, mSquareOf u1 u2 b1 b2 = (s, true) ∧ mSquareOf u1 u2 q1 q2 = (s, true) := by
  unfold mQuarter at hm
  split at hm
  · rename_i hc
    rw [Bool.and_eq_true] at hc
    obtain ⟨e1, e2, g⟩ := mIf_yes hm
    refine ⟨by rw [e1, e2]; rfl, sq u1 u2 b1 b2, by simp [mSquareOf, hc.1, hc.2], ?_⟩
    subst e1 e2
    simp only [mSquareOf, hc.1, g, Bool.and_self, if_true]
    have : sq u1 u2 (u1 - (b2 - u2)) (u2 + b1 - u1) = sq u1 u2 b1 b2 := by
      unfold sq
      rw [show u1 - (u1 - (b2 - u2)) = -(u2 - b2) by omega, show u2 - (u2 + b1 - u1) = u1 - b1 by omega, Int.neg_mul_neg]; omega
    rw [this]
  · injection hm with _ h0; cases h0
theorem turn_next {u1 u2 b1 b2 t1 t2 p1 p2 : Int} {i : Nat} (hi : i < 3) (ht : turnAt u1 u2 b1 b2 i = (t1, t2)) (hm : mQuarter u1 u2 t1 t2 = ((p1, p2), true)) : turnAt u1 u2 b1 b2 (i + 1) = (p1, p2) := by
  unfold mQuarter at hm
  split at hm
  · obtain ⟨e1, e2, g⟩ := mIf_yes hm
    have hc : i = 0 ∨ i = 1 ∨ i = 2 := by omega
    rcases hc with rfl | rfl | rfl <;> (simp only [turnAt, Prod.mk.injEq] at ht ⊢; omega)
  · injection hm with _ h0; cases h0
theorem mul_zero_ {a b : Int} (h : a * a + b * b = 0) : a = 0 ∧ b = 0 := by
  have h1 : 0 ≤ a * a := by rcases Int.le_total 0 a with h | h; exact Int.mul_nonneg h h; exact Int.mul_nonneg_of_nonpos_of_nonpos h h
  have h2 : 0 ≤ b * b := by rcases Int.le_total 0 b with h | h; exact Int.mul_nonneg h h; exact Int.mul_nonneg_of_nonpos_of_nonpos h h
  have e1 : a * a = 0 := by omega
  have e2 : b * b = 0 := by omega
  exact ⟨by rcases Int.mul_eq_zero.1 e1 with h | h <;> exact h, by rcases Int.mul_eq_zero.1 e2 with h | h <;> exact h⟩
/-- the way to the middle has told products with the ways to the other two -/
theorem circle_eq {bx b2 cx cy X Y D : Int} (hD : D = 2 * (bx * cy - b2 * cx)) (h0 : D ≠ 0) (hX : X * D = cy * (bx * bx + b2 * b2) - b2 * (cx * cx + cy * cy)) (hY : Y * D = bx * (cx * cx + cy * cy) - cx * (bx * bx + b2 * b2)) :
    2 * (X * bx + Y * b2) = bx * bx + b2 * b2 ∧ 2 * (X * cx + Y * cy) = cx * cx + cy * cy := by
  obtain ⟨B, hB⟩ : ∃ B, bx * bx + b2 * b2 = B := ⟨_, rfl⟩
  obtain ⟨C, hC⟩ : ∃ C, cx * cx + cy * cy = C := ⟨_, rfl⟩
  rw [hB, hC] at hX hY
  have k1 : D * (2 * (X * bx + Y * b2)) = D * B := by
    have e : D * (2 * (X * bx + Y * b2)) = 2 * ((X * D) * bx + (Y * D) * b2) := by
      rw [show (X * D) * bx = D * (X * bx) by rw [Int.mul_comm X D, Int.mul_assoc], show (Y * D) * b2 = D * (Y * b2) by rw [Int.mul_comm Y D, Int.mul_assoc], ← Int.mul_add, Int.mul_left_comm]
    rw [e, hX, hY, hD]
    simp only [Int.mul_sub, Int.sub_mul, Int.mul_add, Int.add_mul, Int.mul_assoc, Int.mul_comm, Int.mul_left_comm]
    omega
  have k2 : D * (2 * (X * cx + Y * cy)) = D * C := by
    have e : D * (2 * (X * cx + Y * cy)) = 2 * ((X * D) * cx + (Y * D) * cy) := by
      rw [show (X * D) * cx = D * (X * cx) by rw [Int.mul_comm X D, Int.mul_assoc], show (Y * D) * cy = D * (Y * cy) by rw [Int.mul_comm Y D, Int.mul_assoc], ← Int.mul_add, Int.mul_left_comm]
    rw [e, hX, hY, hD]
    simp only [Int.mul_sub, Int.sub_mul, Int.mul_add, Int.add_mul, Int.mul_assoc, Int.mul_comm, Int.mul_left_comm]
    omega
  exact ⟨by rw [hB]; exact Int.eq_of_mul_eq_mul_left h0 k1, by rw [hC]; exact Int.eq_of_mul_eq_mul_left h0 k2⟩
theorem sq_shift {X Y bx b2 : Int} (h : 2 * (X * bx + Y * b2) = bx * bx + b2 * b2) : (X - bx) * (X - bx) + (Y - b2) * (Y - b2) = X * X + Y * Y := by
  have e1 : (X - bx) * (X - bx) = X * X - 2 * (X * bx) + bx * bx := by rw [Int.sub_mul, Int.mul_sub, Int.mul_sub, Int.mul_comm bx X]; omega
  have e2 : (Y - b2) * (Y - b2) = Y * Y - 2 * (Y * b2) + b2 * b2 := by rw [Int.sub_mul, Int.mul_sub, Int.mul_sub, Int.mul_comm b2 Y]; omega
  omega
theorem circle_law {a1 a2 b1 b2 c1 c2 m1 m2 : Int} (hm : mCircle a1 a2 b1 b2 c1 c2 = ((m1, m2), true)) : ∃ s, mSquareOf m1 m2 a1 a2 = (s, true) ∧ mSquareOf m1 m2 b1 b2 = (s, true) ∧ mSquareOf m1 m2 c1 c2 = (s, true) ∧ s ≠ 0 := by
  unfold mCircle at hm
  split at hm
  · rename_i hc
    rw [Bool.and_eq_true, Bool.and_eq_true] at hc
    obtain ⟨⟨ga, gb⟩, gc⟩ := hc
    split at hm
    · injection hm with _ h0; cases h0
    · rename_i hd
      split at hm
      · rename_i hx
        obtain ⟨e1, e2, g⟩ := mIf_yes hm
        rw [← e1, ← e2] at g
        obtain ⟨X, hX⟩ := Int.dvd_of_tmod_eq_zero hx.1
        obtain ⟨Y, hY⟩ := Int.dvd_of_tmod_eq_zero hx.2
        obtain ⟨D, hD⟩ : ∃ D, 2 * crs a1 a2 b1 b2 c1 c2 = D := ⟨_, rfl⟩
        rw [hD] at hd hX hY e1 e2
        rw [hX, Int.mul_tdiv_cancel_left _ hd] at e1
        rw [hY, Int.mul_tdiv_cancel_left _ hd] at e2
        subst e1 e2
        obtain ⟨k1, k2⟩ := circle_eq (bx := b1 - a1) (b2 := b2 - a2) (cx := c1 - a1) (cy := c2 - a2) (X := X) (Y := Y) (D := D) (by rw [← hD]; rfl) hd (by rw [Int.mul_comm, ← hX]; rfl) (by rw [Int.mul_comm, ← hY]; rfl)
        have s1 := sq_shift k1
        have s2 := sq_shift k2
        have ea : sq (a1 + X) (a2 + Y) a1 a2 = X * X + Y * Y := by unfold sq; rw [show a1 + X - a1 = X by omega, show a2 + Y - a2 = Y by omega]
        have eb : sq (a1 + X) (a2 + Y) b1 b2 = X * X + Y * Y := by unfold sq; rw [← s1, show a1 + X - b1 = X - (b1 - a1) by omega, show a2 + Y - b2 = Y - (b2 - a2) by omega]
        have ec : sq (a1 + X) (a2 + Y) c1 c2 = X * X + Y * Y := by unfold sq; rw [← s2, show a1 + X - c1 = X - (c1 - a1) by omega, show a2 + Y - c2 = Y - (c2 - a2) by omega]
        refine ⟨X * X + Y * Y, by simp [mSquareOf, ga, g, ea], by simp [mSquareOf, gb, g, eb], by simp [mSquareOf, gc, g, ec], fun h0 => ?_⟩
        obtain ⟨z1, z2⟩ := mul_zero_ h0
        rw [h0] at s1
        obtain ⟨z3, z4⟩ := mul_zero_ s1
        apply hd
        rw [← hD]
        unfold crs
        rw [show b1 - a1 = 0 by omega, show b2 - a2 = 0 by omega]
        simp
      · injection hm with _ h0; cases h0
  · injection hm with _ h0; cases h0

end Go.Proofs.Ytkadnmebijfacaa

