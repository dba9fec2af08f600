/- Plain laws of circles, arcs, chords and gaps; contracts with letters for what they return. -/
import Derived.Test.YtkadnmebijfacaaCircs
import Derived.Test.YtkadnmebijfacaaNear
namespace Go.Proofs.Ytkadnmebijfacaa
open Go.RowKit
set_option linter.unusedVariables false
set_option linter.unusedSimpArgs false

theorem iroot_mono {a b : Int} (h0 : 0 ≤ a) (h : a ≤ b) : iroot a ≤ iroot b := by
  obtain ⟨a1, a2, a3⟩ := iroot_spec a h0
  obtain ⟨b1, b2, b3⟩ := iroot_spec b (by omega)
  rcases Int.lt_or_le (iroot b) (iroot a) with g | g
  · have := Int.mul_le_mul (show iroot b + 1 ≤ iroot a by omega) (show iroot b + 1 ≤ iroot a by omega) (by omega) (by omega)
    omega
  · exact g
theorem iroot_sq {r : Int} (h : 0 ≤ r) : iroot (r * r) = r := by
  have e : (r + 1) * (r + 1) = r * r + r + r + 1 := by rw [Int.add_mul, Int.mul_add]; omega
  exact iroot_eq (Int.mul_nonneg h h) h (Int.le_refl _) (by omega)
theorem iroot_ub {n m : Int} (h0 : 0 ≤ n) (hm : 0 ≤ m) (h : n ≤ m * m) : iroot n ≤ m := by
  have := iroot_mono h0 h
  rwa [iroot_sq hm] at this
theorem iroot_lb {n m : Int} (hm : 0 ≤ m) (h : m * m ≤ n) : m ≤ iroot n := by
  have := iroot_mono (Int.mul_nonneg hm hm) h
  rwa [iroot_sq hm] at this

theorem chord_law {r h k : Int} (hm : mChord r h = (k, true)) : 1 ≤ r ∧ r ≤ 1400 ∧ 0 ≤ h ∧ h ≤ r ∧ 0 ≤ k ∧ k ≤ 2 * r ∧ (h < r → ∃ k2, mChord r (h + 1) = (k2, true) ∧ k ≤ k2) := by
  unfold mChord at hm
  split at hm
  · rename_i hc
    rw [Bool.and_eq_true, inB_iff, inB_iff] at hc
    obtain ⟨⟨h1, h2⟩, h3, h4⟩ := hc
    injection hm with hk
    obtain ⟨b1, b2, b3, b4, b5, b6⟩ := chord_bd h1 h2 h3 h4
    obtain ⟨c1, c2, c3⟩ := iroot_spec _ b5
    have e : 2 * r * h - h * h = r * r - (r - h) * (r - h) := by rw [Int.sub_mul, Int.mul_sub, Int.mul_sub, Int.mul_comm h r, Int.mul_assoc]; omega
    have s := sqr_le (d := r - h) (m := r) (by omega) (by omega)
    have e4 : 2 * r * (2 * r) = 4 * (r * r) := by rw [Int.mul_assoc, Int.mul_left_comm r 2 r]; omega
    refine ⟨h1, h2, h3, h4, by omega, ?_, fun hlt => ?_⟩
    · rw [← hk]; exact iroot_ub b5 (by omega) (by omega)
    · refine ⟨iroot (4 * (2 * r * (h + 1) - (h + 1) * (h + 1))), ?_, ?_⟩
      · unfold mChord; rw [if_pos (by rw [Bool.and_eq_true, inB_iff, inB_iff]; omega)]
      · rw [← hk]
        refine iroot_mono b5 ?_
        have x1 : 2 * r * (h + 1) = 2 * r * h + 2 * r := by rw [Int.mul_add]; omega
        have x2 : (h + 1) * (h + 1) = h * h + h + h + 1 := by rw [Int.add_mul, Int.mul_add]; omega
        omega
  · injection hm with _ h0; cases h0

theorem gapTo_le (l : List (Int × Int)) : ∀ k j, j ≤ k → gapTo l k ≤ gapAt l j
  | 0, j, h => by obtain rfl : j = 0 := by omega
                  exact Int.le_refl _
  | k + 1, j, h => by
    by_cases e : j = k + 1
    · subst e; exact Int.min_le_right _ _
    · exact Int.le_trans (Int.min_le_left _ _) (gapTo_le l k j (by omega))
theorem gap_law {l : List (Int × Int)} {g : Int} (hm : mLeastGap l = (g, true)) : spotsB l = true ∧ 2 ≤ l.length ∧ l.length ≤ 40 ∧ ∀ j x y u v, l[j]? = some (x, y) → l[j + 1]? = some (u, v) → mSquareOf x y u v = (sq x y u v, true) ∧ g ≤ sq x y u v := by
  unfold mLeastGap at hm
  split at hm
  · rename_i hc
    rw [Bool.and_eq_true, decide_eq_true_eq] at hc
    injection hm with hk
    refine ⟨hc.1, hc.2, spotsB_len hc.1, fun j x y u v h1 h2 => ⟨?_, ?_⟩⟩
    · simp [mSquareOf, spotsB_get hc.1 h1, spotsB_get hc.1 h2]
    · have hj : j + 1 < l.length := (List.getElem?_eq_some_iff.1 h2).1
      have := gapTo_le l (l.length - 2) j (by omega)
      rw [gapAt_of h1 h2] at this
      omega
  · injection hm with _ h0; cases h0

theorem mIf_yes {x y p q : Int} (h : mIf x y = ((p, q), true)) : p = x ∧ q = y ∧ goodB x y = true := by
  unfold mIf at h
  split at h
  · rename_i hg; injection h with h1; injection h1 with h2 h3; exact ⟨h2.symm, h3.symm, hg⟩
  · injection h with _ h0; cases h0
theorem mOnArc_x {m1 m2 r x p q : Int} (h : mOnArc m1 m2 r x = ((p, q), true)) : p = m1 + x := by
  unfold mOnArc at h
  split at h
  · exact (mIf_yes h).1
  · injection h with _ h0; cases h0
theorem arcTo_get {m1 m2 r f t n : Int} : ∀ {k : Nat} {l : List (Int × Int)}, arcTo m1 m2 r f t n k = some l → ∀ j, j < k → ∃ x y, l[j]? = some (x, y) ∧ mOnArc m1 m2 r (arcX f t n j) = ((x, y), true)
  | 0, l, h, j, hj => absurd hj (by omega)
  | k + 1, l, h, j, hj => by
    simp only [arcTo] at h
    split at h
    · cases h
    · rename_i q hq
      split at h
      · rename_i hok
        cases h
        by_cases e : j = k
        · subst e
          refine ⟨(mOnArc m1 m2 r (arcX f t n j)).1.1, (mOnArc m1 m2 r (arcX f t n j)).1.2, ?_, ?_⟩
          · rw [List.getElem?_append_right (by rw [arcTo_len hq]; exact Nat.le_refl _), arcTo_len hq, Nat.sub_self]; rfl
          · rw [← hok]
        · obtain ⟨x, y, h1, h2⟩ := arcTo_get hq j (by omega)
          exact ⟨x, y, by rw [List.getElem?_append_left (by rw [arcTo_len hq]; omega)]; exact h1, h2⟩
      · cases h
theorem arcX_zero (f t n : Int) : arcX f t n (0 : Nat) = f := by simp [arcX]
theorem arcX_last {f t n : Int} {k : Nat} (hn : 2 ≤ n) (hk : (k : Int) = n - 1) : arcX f t n k = t := by
  unfold arcX
  rw [hk, Int.mul_ediv_cancel_left _ (by omega)]; omega
theorem arcX_up {f t n : Int} {k : Nat} (hn : 2 ≤ n) (h : f ≤ t) : arcX f t n k ≤ arcX f t n (k + 1 : Nat) := by
  unfold arcX
  have a : (k : Int) * (t - f) ≤ ((k + 1 : Nat) : Int) * (t - f) := Int.mul_le_mul_of_nonneg_right (by omega) (by omega)
  have := Int.ediv_le_ediv (show (0 : Int) < n - 1 by omega) a
  omega
theorem arcX_down {f t n : Int} {k : Nat} (hn : 2 ≤ n) (h : t ≤ f) : arcX f t n (k + 1 : Nat) ≤ arcX f t n k := by
  unfold arcX
  have a : ((k + 1 : Nat) : Int) * (t - f) ≤ (k : Int) * (t - f) := Int.mul_le_mul_of_nonpos_right (by omega) (by omega)
  have := Int.ediv_le_ediv (show (0 : Int) < n - 1 by omega) a
  omega
theorem arc_law {m1 m2 r f t n : Int} {l : List (Int × Int)} (hm : mArc m1 m2 r f t n = (l, true)) : ∃ N : Nat, n = N ∧ 2 ≤ N ∧ N ≤ 40 ∧ l.length = N ∧
    (∃ x y, l[0]? = some (x, y) ∧ mOnArc m1 m2 r f = ((x, y), true)) ∧ (∃ x y, l[N - 1]? = some (x, y) ∧ mOnArc m1 m2 r t = ((x, y), true)) ∧
    ∀ j, j + 1 < N → ∃ x y u v, l[j]? = some (x, y) ∧ l[j + 1]? = some (u, v) ∧ (f ≤ t → x ≤ u) ∧ (t ≤ f → u ≤ x) := by
  unfold mArc at hm
  split at hm
  · rename_i hb
    split at hm
    · rename_i q hq
      injection hm with h1
      subst h1
      unfold arcB at hb
      rw [Bool.and_eq_true, inB_iff (n := n)] at hb
      obtain ⟨_, n1, n2⟩ := hb
      obtain ⟨N, rfl⟩ : ∃ N : Nat, n = N := ⟨n.toNat, by omega⟩
      rw [Int.toNat_natCast] at hq
      refine ⟨N, rfl, by omega, by omega, arcTo_len hq, ?_, ?_, fun j hj => ?_⟩
      · have := arcTo_get hq 0 (by omega)
        rwa [arcX_zero] at this
      · have := arcTo_get hq (N - 1) (by omega)
        rwa [arcX_last n1 (by omega)] at this
      · obtain ⟨x, y, h1, h2⟩ := arcTo_get hq j (by omega)
        obtain ⟨u, v, h3, h4⟩ := arcTo_get hq (j + 1) (by omega)
        refine ⟨x, y, u, v, h1, h3, fun h => ?_, fun h => ?_⟩
        · have := arcX_up (k := j) n1 h; rw [mOnArc_x h2, mOnArc_x h4]; omega
        · have := arcX_down (k := j) n1 h; rw [mOnArc_x h2, mOnArc_x h4]; omega
    · injection hm with _ h0; cases h0
  · injection hm with _ h0; cases h0

theorem cirTo_len {m1 m2 r d : Int} : ∀ {j : Nat} {l : List (Int × Int)}, cirTo m1 m2 r d j = some l → l.length = j
  | 0, l, h => by simp [cirTo] at h; subst h; rfl
  | j + 1, l, h => by
    simp only [cirTo] at h
    split at h
    · cases h
    · rename_i q hq
      split at h
      · cases h; simp [cirTo_len hq]
      · cases h
theorem cirTo_get {m1 m2 r d : Int} : ∀ {k : Nat} {l : List (Int × Int)}, cirTo m1 m2 r d k = some l → ∀ j, j < k → l[j]? = some (m1 + wX r d j, m2 + wY r d j) ∧ goodB (m1 + wX r d j) (m2 + wY r d j) = true
  | 0, l, h, j, hj => absurd hj (by omega)
  | k + 1, l, h, j, hj => by
    simp only [cirTo] at h
    split at h
    · cases h
    · rename_i q hq
      split at h
      · rename_i hok
        cases h
        by_cases e : j = k
        · subst e
          exact ⟨by rw [List.getElem?_append_right (by rw [cirTo_len hq]; exact Nat.le_refl _), cirTo_len hq, Nat.sub_self]; rfl, hok⟩
        · obtain ⟨h1, h2⟩ := cirTo_get hq j (by omega)
          exact ⟨by rw [List.getElem?_append_left (by rw [cirTo_len hq]; omega)]; exact h1, h2⟩
      · cases h
/-- the root of twice the square of the root of half a square -/
theorem root_half {r d : Int} (h1 : 1 ≤ r) (hd : iroot (r * r / 2) = d) : 0 ≤ d ∧ 2 * (d * d) ≤ r * r ∧ r - 2 ≤ iroot (2 * (d * d)) ∧ iroot (2 * (d * d)) ≤ r := by
  have r0 : 0 ≤ r * r := Int.mul_nonneg (by omega) (by omega)
  obtain ⟨a, b, c⟩ := iroot_spec (r * r / 2) (by omega)
  rw [hd] at a b c
  have d2 : 0 ≤ d * d := Int.mul_nonneg a a
  have e1 : (d + 1) * (d + 1) = d * d + d + d + 1 := by rw [Int.add_mul, Int.mul_add]; omega
  refine ⟨a, by omega, ?_, iroot_ub (by omega) (by omega) (by omega)⟩
  by_cases hr : r ≤ 2
  · have := iroot_spec (2 * (d * d)) (by omega); omega
  · refine iroot_lb (by omega) ?_
    rcases Int.lt_or_le (2 * (d * d)) ((r - 2) * (r - 2)) with g | g
    · exfalso
      have e2 : r * r = (r - 2) * (r - 2) + 4 * (r - 2) + 4 := by
        rw [Int.sub_mul, Int.mul_sub]; omega
      have hds : d ≤ r - 2 := by
        rcases Int.lt_or_le (r - 2) d with g2 | g2
        · have := Int.mul_le_mul (show r - 2 ≤ d by omega) (show r - 2 ≤ d by omega) (by omega) (by omega)
          omega
        · exact g2
      omega
    · exact g
theorem wX_opp (r d : Int) : ∀ k, k < 8 → wX r d k + wX r d ((k + 4) % 8) = 0 := below8 (by simp [wX]; omega) (by simp [wX]; omega) (by simp [wX]) (by simp [wX]; omega) (by simp [wX]; omega) (by simp [wX]; omega) (by simp [wX]) (by simp [wX]; omega)
theorem wY_opp (r d : Int) : ∀ k, k < 8 → wY r d k + wY r d ((k + 4) % 8) = 0 := below8 (by simp [wY]) (by simp [wY]; omega) (by simp [wY]; omega) (by simp [wY]; omega) (by simp [wY]) (by simp [wY]; omega) (by simp [wY]; omega) (by simp [wY]; omega)
theorem wSq (r d : Int) : ∀ k, k < 8 → wX r d k * wX r d k + wY r d k * wY r d k = r * r ∨ wX r d k * wX r d k + wY r d k * wY r d k = 2 * (d * d) :=
  below8 (by simp only [wX, wY, Int.neg_mul_neg]; omega) (by simp only [wX, wY, Int.neg_mul_neg]; omega) (by simp only [wX, wY, Int.neg_mul_neg]; omega) (by simp only [wX, wY, Int.neg_mul_neg]; omega) (by simp only [wX, wY, Int.neg_mul_neg]; omega) (by simp only [wX, wY, Int.neg_mul_neg]; omega) (by simp only [wX, wY, Int.neg_mul_neg]; omega) (by simp only [wX, wY, Int.neg_mul_neg]; omega)
theorem circ_law {m1 m2 r : Int} {l : List (Int × Int)} (hm : mCirc m1 m2 r = (l, true)) : l.length = 8 ∧ goodB m1 m2 = true ∧ 1 ≤ r ∧ r ≤ 1400 ∧
    ∀ k, k < 8 → ∃ x y u v q, l[k]? = some (x, y) ∧ l[(k + 4) % 8]? = some (u, v) ∧ mRadius m1 m2 x y = (q, true) ∧ goodB x y = true ∧ goodB u v = true ∧ r - 2 ≤ q ∧ q ≤ r ∧ x + u = 2 * m1 ∧ y + v = 2 * m2 := by
  unfold mCirc at hm
  split at hm
  · rename_i hb
    split at hm
    · rename_i q hq
      injection hm with h1
      subst h1
      rw [Bool.and_eq_true, inB_iff] at hb
      obtain ⟨g, r1, r2⟩ := hb
      obtain ⟨d, hd⟩ : ∃ d, iroot (r * r / 2) = d := ⟨_, rfl⟩
      rw [hd] at hq
      obtain ⟨d0, d1, d2, d3⟩ := root_half r1 hd
      refine ⟨cirTo_len hq, g, r1, r2, fun k hk => ?_⟩
      obtain ⟨a1, a2⟩ := cirTo_get hq k hk
      obtain ⟨b1, b2⟩ := cirTo_get hq ((k + 4) % 8) (by omega)
      have ox := wX_opp r d k hk
      have oy := wY_opp r d k hk
      have hs : sq m1 m2 (m1 + wX r d k) (m2 + wY r d k) = wX r d k * wX r d k + wY r d k * wY r d k := by
        unfold sq
        rw [show m1 - (m1 + wX r d k) = -wX r d k by omega, show m2 - (m2 + wY r d k) = -wY r d k by omega, Int.neg_mul_neg, Int.neg_mul_neg]
      refine ⟨_, _, _, _, iroot (sq m1 m2 (m1 + wX r d k) (m2 + wY r d k)), a1, b1, by simp [mRadius, g, a2], a2, b2, ?_, ?_, by omega, by omega⟩
      · rw [hs]; rcases wSq r d k hk with e | e <;> rw [e]
        · rw [iroot_sq (by omega)]; omega
        · exact d2
      · rw [hs]; rcases wSq r d k hk with e | e <;> rw [e]
        · rw [iroot_sq (by omega)]; exact Int.le_refl _
        · exact d3
    · injection hm with _ h0; cases h0
  · injection hm with _ h0; cases h0

end Go.Proofs.Ytkadnmebijfacaa

