/- Plain laws of lists of spots, of middles and of spots on a way. -/
import Derived.Test.YtkadnmebijfacaaSame
import Derived.Test.YtkadnmebijfacaaNear
import Derived.Test.YtkadnmebijfacaaWithin
import Derived.Test.YtkadnmebijfacaaBetween
namespace Go.Proofs.Ytkadnmebijfacaa
open Go.RowKit
set_option linter.unusedVariables false
set_option linter.unusedSimpArgs false

theorem sq_comm (x y u v : Int) : sq x y u v = sq u v x y := by
  unfold sq
  rw [show x - u = -(u - x) by omega, show y - v = -(v - y) by omega, Int.neg_mul_neg, Int.neg_mul_neg]
theorem nearTo_spec (x y : Int) (l : List (Int × Int)) : ∀ k, nearTo x y l k ≤ k - 1 ∧ ∀ j, j < k → sqL x y l (nearTo x y l k) ≤ sqL x y l j ∧ (sqL x y l j = sqL x y l (nearTo x y l k) → nearTo x y l k ≤ j)
  | 0 => ⟨Nat.le_refl _, fun j h => absurd h (by omega)⟩
  | k + 1 => by
    obtain ⟨h1, h2⟩ := nearTo_spec x y l k
    simp only [nearTo]
    split
    · rename_i hlt
      refine ⟨by omega, fun j hj => ?_⟩
      by_cases e : j = k
      · subst e; exact ⟨Int.le_refl _, fun _ => Nat.le_refl _⟩
      · have := h2 j (by omega); omega
    · rename_i hge
      refine ⟨by omega, fun j hj => ?_⟩
      by_cases e : j = k
      · subst e; exact ⟨by omega, fun _ => by omega⟩
      · exact h2 j (by omega)
theorem near_law {x y n : Int} {l : List (Int × Int)} (hm : mNearest x y l = (n, true)) : ∃ (N : Nat) (p q s : Int), n = N ∧ N < l.length ∧ l.length ≤ 40 ∧ l[N]? = some (p, q) ∧ mSquareOf x y p q = (s, true) ∧
    ∀ (i : Nat) (u v : Int), l[i]? = some (u, v) → ∃ t, mSquareOf u v x y = (t, true) ∧ s ≤ t ∧ (t = s → N ≤ i) := by
  unfold mNearest at hm
  split at hm
  · rename_i hc
    rw [Bool.and_eq_true, Bool.and_eq_true, decide_eq_true_eq] at hc
    obtain ⟨⟨g, hs⟩, hl⟩ := hc
    injection hm with hn
    obtain ⟨h1, h2⟩ := nearTo_spec x y l l.length
    have h1 : nearTo x y l l.length < l.length := by omega
    obtain ⟨p, q, hpq⟩ : ∃ p q, l[nearTo x y l l.length]? = some (p, q) := ⟨_, _, List.getElem?_eq_getElem h1⟩
    refine ⟨nearTo x y l l.length, p, q, sq x y p q, hn.symm, h1, spotsB_len hs, hpq, by simp [mSquareOf, g, spotsB_get hs hpq], fun i u v hi => ?_⟩
    obtain ⟨h3, h4⟩ := h2 i (List.getElem?_eq_some_iff.1 hi).1
    rw [sqL_of hpq, sqL_of hi] at h3 h4
    refine ⟨sq u v x y, by simp [mSquareOf, g, spotsB_get hs hi], by rw [sq_comm u v]; exact h3, fun e => h4 (by rw [sq_comm x y u v]; exact e)⟩
  · injection hm with _ h0; cases h0
theorem hasB_snoc (l : List Int) (k x : Int) : hasB (l ++ [k]) x = (hasB l x || x == k) := by
  rw [Bool.eq_iff_iff]; simp [hasB]
theorem withinTo_has (x y s : Int) (l : List (Int × Int)) : ∀ k (i : Nat), hasB (withinTo x y s l k) i = (decide (i < k) && decide (sq x y (l.getD i (0, 0)).1 (l.getD i (0, 0)).2 ≤ s))
  | 0, i => by simp [withinTo, hasB]
  | k + 1, i => by
    simp only [withinTo]
    split
    · rename_i hle
      rw [hasB_snoc, withinTo_has x y s l k i, Bool.eq_iff_iff]
      simp only [Bool.or_eq_true, Bool.and_eq_true, decide_eq_true_eq, beq_iff_eq]
      constructor
      · rintro (⟨h1, h2⟩ | h)
        · exact ⟨by omega, h2⟩
        · obtain rfl : i = k := by omega
          exact ⟨by omega, hle⟩
      · rintro ⟨h1, h2⟩
        by_cases e : i = k
        · right; omega
        · left; exact ⟨by omega, h2⟩
    · rename_i hle
      rw [withinTo_has x y s l k i, Bool.eq_iff_iff]
      simp only [Bool.and_eq_true, decide_eq_true_eq]
      constructor
      · rintro ⟨h1, h2⟩; exact ⟨by omega, h2⟩
      · rintro ⟨h1, h2⟩
        by_cases e : i = k
        · subst e; exact absurd h2 hle
        · exact ⟨by omega, h2⟩
theorem within_law {x y s : Int} {l : List (Int × Int)} {r : List Int} (hm : mWithin x y s l = (r, true)) : l.length ≤ 40 ∧
    ∀ (i : Nat) (u v : Int), l[i]? = some (u, v) → ∃ t, mSquareOf x y u v = (t, true) ∧ hasB r i = decide (t ≤ s) := by
  unfold mWithin at hm
  split at hm
  · rename_i hc
    rw [Bool.and_eq_true, Bool.and_eq_true] at hc
    obtain ⟨⟨g, hs⟩, _⟩ := hc
    injection hm with hr
    refine ⟨spotsB_len hs, fun i u v hi => ⟨sq x y u v, by simp [mSquareOf, g, spotsB_get hs hi], ?_⟩⟩
    rw [← hr, withinTo_has]
    have hl := (List.getElem?_eq_some_iff.1 hi).1
    rw [decide_eq_true hl, show l.getD i (0, 0) = (u, v) by simp only [List.getD, hi, Option.getD]]; simp
  · injection hm with _ h0; cases h0
theorem mid_same {x y u v m1 m2 s : Int} {o1 o2 : Bool} (h1 : mMiddle x y u v = ((m1, m2), o1)) (h2 : mSquareOf x y u v = (s, o2)) : o1 = o2 := by
  unfold mMiddle at h1
  unfold mSquareOf at h2
  split at h1
  · rename_i hc
    rw [if_pos hc] at h2
    injection h1 with _ a
    injection h2 with _ b
    rw [← a, ← b]
  · rename_i hc
    rw [if_neg hc] at h2
    injection h1 with _ a
    injection h2 with _ b
    rw [← a, ← b]
theorem mid_bd {x y u v m1 m2 s : Int} (h1 : mMiddle x y u v = ((m1, m2), true)) (h2 : mSquareOf x y u v = (s, true)) : 0 ≤ x ∧ x ≤ 1280 ∧ 0 ≤ y ∧ y ≤ 672 ∧ 0 ≤ u ∧ u ≤ 1280 ∧ 0 ≤ v ∧ v ≤ 672 ∧
    ((x + u) % 2 = 0 → (y + v) % 2 = 0 → ∃ p, mBetween x y u v m1 m2 = (true, true) ∧ mSquareOf x y m1 m2 = (p, true) ∧ mSquareOf m1 m2 u v = (p, true) ∧ 4 * p = s ∧ 0 ≤ p ∧ p ≤ 10000000) := by
  unfold mMiddle at h1
  unfold mSquareOf at h2
  split at h1
  · rename_i hc
    rw [if_pos hc] at h2
    rw [Bool.and_eq_true] at hc
    obtain ⟨g1, g2⟩ := hc
    obtain ⟨a1, a2, a3, a4⟩ := (goodB_iff _ _).1 g1
    obtain ⟨b1, b2, b3, b4⟩ := (goodB_iff _ _).1 g2
    refine ⟨a1, a2, a3, a4, b1, b2, b3, b4, fun e1 e2 => ?_⟩
    injection h1 with h1 _
    injection h1 with hm1 hm2
    injection h2 with hs _
    have k1 : u = 2 * m1 - x := by omega
    have k2 : v = 2 * m2 - y := by omega
    have gm : goodB m1 m2 = true := (goodB_iff _ _).2 ⟨by omega, by omega, by omega, by omega⟩
    have c0 : crs x y u v m1 m2 = 0 := by
      unfold crs
      rw [show u - x = 2 * (m1 - x) by omega, show v - y = 2 * (m2 - y) by omega, Int.mul_assoc, Int.mul_assoc, Int.mul_comm (m1 - x) (m2 - y)]; omega
    have r1 : (inB m1 x u || inB m1 u x) = true := by
      rw [Bool.or_eq_true, inB_iff, inB_iff]; omega
    have r2 : (inB m2 y v || inB m2 v y) = true := by
      rw [Bool.or_eq_true, inB_iff, inB_iff]; omega
    obtain ⟨s1, s2⟩ := sq_bd g1 gm
    refine ⟨sq x y m1 m2, ?_, by simp [mSquareOf, g1, gm], ?_, ?_, s1, by omega⟩
    · simp [mBetween, g1, g2, gm, onB, c0, r1, r2]
    · have : sq m1 m2 u v = sq x y m1 m2 := by
        unfold sq
        rw [show m1 - u = x - m1 by omega, show m2 - v = y - m2 by omega]
      simp [mSquareOf, g2, gm, this]
    · rw [← hs]
      unfold sq
      have e3 : x - u = 2 * (x - m1) := by omega
      have e4 : y - v = 2 * (y - m2) := by omega
      rw [e3, e4]
      have e5 : ∀ t : Int, 2 * t * (2 * t) = 4 * (t * t) := fun t => by rw [Int.mul_assoc, Int.mul_left_comm t 2 t]; omega
      rw [e5, e5]; omega
  · injection h1 with _ a; cases a
theorem between_comm (a1 a2 b1 b2 c1 c2 : Int) : mBetween b1 b2 a1 a2 c1 c2 = mBetween a1 a2 b1 b2 c1 c2 := by
  have hc : crs b1 b2 a1 a2 c1 c2 = -crs a1 a2 b1 b2 c1 c2 := by
    unfold crs
    simp only [Int.mul_sub, Int.sub_mul, Int.mul_comm]
    omega
  have h0 : (crs b1 b2 a1 a2 c1 c2 == 0) = (crs a1 a2 b1 b2 c1 c2 == 0) := by
    rw [hc, Bool.eq_iff_iff]; simp
  unfold mBetween onB
  rw [h0, Bool.and_comm (goodB b1 b2), Bool.or_comm (inB c1 b1 a1), Bool.or_comm (inB c2 b2 a2)]

end Go.Proofs.Ytkadnmebijfacaa

