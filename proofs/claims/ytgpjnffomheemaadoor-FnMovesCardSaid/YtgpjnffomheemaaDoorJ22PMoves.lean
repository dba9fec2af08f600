import Derived.Test.YtgpjnffomheemaaDoorMoveStep
import Derived.Test.YtgpjnffomheemaaDoorMove2
import Derived.Test.YtgpjnffomheemaaDoorJ8PMvTxt
/- Moves, plain: what the law on moves leans on. -/
namespace Go.Proofs.YtgpjnffomheemaaDoor
open Go.RowKit
set_option linter.unusedVariables false
set_option linter.unusedSimpArgs false

theorem gcdI_dvd1 {x y : Int} (hx : 0 ≤ x) (hy : 1 ≤ y) : ∃ p q g : Int, 1 ≤ g ∧ 0 ≤ p ∧ 1 ≤ q ∧ x = p * g ∧ y = q * g ∧ x / gcdI x y = p ∧ y / gcdI x y = q := by
  obtain ⟨a, rfl⟩ : ∃ a : Nat, x = a := ⟨x.toNat, by omega⟩
  obtain ⟨b, rfl⟩ : ∃ b : Nat, y = b := ⟨y.toNat, by omega⟩
  have hg : 0 < Nat.gcd a b := Nat.gcd_pos_of_pos_right a (by omega)
  have e1 : a = a / Nat.gcd a b * Nat.gcd a b := (Nat.div_mul_cancel (Nat.gcd_dvd_left a b)).symm
  have e2 : b = b / Nat.gcd a b * Nat.gcd a b := (Nat.div_mul_cancel (Nat.gcd_dvd_right a b)).symm
  have hq : 0 < b / Nat.gcd a b := Nat.div_pos (Nat.le_of_dvd (by omega) (Nat.gcd_dvd_right a b)) hg
  refine ⟨((a / Nat.gcd a b : Nat) : Int), ((b / Nat.gcd a b : Nat) : Int), ((Nat.gcd a b : Nat) : Int), Int.ofNat_le.2 hg, Int.natCast_nonneg _, Int.ofNat_le.2 hq, ?_, ?_, ?_, ?_⟩
  · rw [← Int.natCast_mul, ← e1]
  · rw [← Int.natCast_mul, ← e2]
  · rw [gcdI, Int.toNat_natCast, Int.toNat_natCast, Int.natCast_ediv]
  · rw [gcdI, Int.toNat_natCast, Int.toNat_natCast, Int.natCast_ediv]
theorem sq_rng {a b c d : Int} (g1 : goodB a b = true) (g2 : goodB c d = true) : 0 ≤ sq a b c d ∧ sq a b c d ≤ 2089984 := by
  rw [goodB_iff] at g1 g2
  have h : ∀ x : Int, ∀ m : Nat, -(m : Int) ≤ x → x ≤ m → 0 ≤ x * x ∧ x * x ≤ ((m * m : Nat) : Int) := fun x m h1 h2 => by
    have hn : x * x = ((x.natAbs * x.natAbs : Nat) : Int) := Int.natAbs_mul_self.symm
    have h3 : x.natAbs ≤ m := by omega
    have := Nat.mul_le_mul h3 h3
    rw [hn]; omega
  have h1 := h (a - c) 1280 (by omega) (by omega)
  have h2 := h (b - d) 672 (by omega) (by omega)
  rw [sq]; omega
/-- what holds of a good move -/
theorem move_law {a b c d k p q : Int} (hg : goodM a b c d k = true) (hs : mStepSquare a b c d k = (p, q, true)) :
    mPlaceAt a b c d k 0 = (a * k, b * k, true) ∧ mPlaceAt a b c d k k = (c * k, d * k, true) ∧ mSquareOf a b c d = (sq a b c d, true) ∧ 1 ≤ k ∧ k ≤ 64 ∧ 0 ≤ a ∧ a ≤ 1280 ∧ 0 ≤ b ∧ b ≤ 1280 ∧ 0 ≤ c ∧ c ≤ 1280 ∧ 0 ≤ d ∧ d ≤ 1280 ∧
    1 ≤ q ∧ q ≤ 4096 ∧ 0 ≤ p ∧ p ≤ 2089984 ∧ p * k * k = sq a b c d * q ∧ 0 ≤ sq a b c d ∧ sq a b c d ≤ 2089984 ∧ (∀ s : Int, 1 ≤ s → s ≤ 24 → mWithinStep a b c d k s = (decide (p ≤ s * s * q), true)) := by
  have hg' := hg
  rw [goodM_iff] at hg'
  obtain ⟨g1, g2, k1, k2⟩ := hg'
  have r := sq_rng g1 g2
  have g1' := g1
  have g2' := g2
  rw [goodB_iff] at g1' g2'
  have hkk : 1 ≤ k * k ∧ k * k ≤ 4096 := by
    have hn : k * k = ((k.natAbs * k.natAbs : Nat) : Int) := Int.natAbs_mul_self.symm
    have h3 : k.natAbs ≤ 64 := by omega
    have h4 : 1 ≤ k.natAbs := by omega
    have h5 := Nat.mul_le_mul h3 h3
    have h6 := Nat.mul_le_mul h4 h4
    rw [hn]; omega
  obtain ⟨p', q', g, hg1, hp0, hq1, ex, ey, e1, e2⟩ := gcdI_dvd1 r.1 hkk.1
  rw [mStepSquare, if_pos hg, e1, e2] at hs
  injection hs with h1 hs
  injection hs with h2 _
  subst h1 h2
  have hpl : p' ≤ p' * g := by have := Int.mul_le_mul_of_nonneg_left hg1 hp0; omega
  have hql : q' ≤ q' * g := by have := Int.mul_le_mul_of_nonneg_left hg1 (show 0 ≤ q' by omega); omega
  refine ⟨?_, ?_, ?_, k1, k2, g1'.1, g1'.2.1, g1'.2.2.1, by omega, g2'.1, g2'.2.1, g2'.2.2.1, by omega, hq1, by omega, hp0, by omega, ?_, r.1, r.2, ?_⟩
  · rw [mPlaceAt, if_pos (by rw [hg, Bool.true_and, inB_iff]; omega), plc, plc]; simp
  · rw [mPlaceAt, if_pos (by rw [hg, Bool.true_and, inB_iff]; omega), plc, plc]
    rw [Int.mul_sub, Int.mul_sub, Int.mul_comm k c, Int.mul_comm k d, Int.mul_comm k a, Int.mul_comm k b]
    congr 1
    · omega
    · congr 1; omega
  · rw [mSquareOf, g1, g2]; rfl
  · rw [ex, Int.mul_assoc, ey, Int.mul_comm q' g, ← Int.mul_assoc]
  · intro s s1 s2
    have hin : inB s 1 24 = true := by rw [inB_iff]; omega
    rw [mWithinStep, hg, hin]
    simp only [Bool.and_self, if_true]
    congr 1
    rw [wsB, decide_eq_decide, Int.mul_assoc (s * s) k k, ey, ex, ← Int.mul_assoc]
    constructor
    · intro h; exact Int.le_of_mul_le_mul_right h (by omega)
    · intro h; exact Int.mul_le_mul_of_nonneg_right h (by omega)
theorem lc_law (Q s : Int) : ∀ (m : Nat) (n : Int), lcScan Q s m = (n, true) → m ≤ 64 → 65 - (m : Int) ≤ n ∧ n ≤ 64 ∧ wsB Q s n = true ∧ (∀ j : Int, 65 - (m : Int) ≤ j → j < n → wsB Q s j = false)
  | 0, n, h, _ => by rw [lcScan] at h; injection h with _ h; cases h
  | m + 1, n, h, hm => by
    rw [lcScan] at h
    split at h
    · rename_i hw
      injection h with h _
      subst h
      exact ⟨by omega, by omega, hw, fun j h1 h2 => by omega⟩
    · rename_i hw
      have ih := lc_law Q s m n h (by omega)
      refine ⟨by omega, ih.2.1, ih.2.2.1, fun j h1 h2 => ?_⟩
      by_cases e : j = 65 - ((m + 1 : Nat) : Int)
      · have e2 : j = 64 - (m : Int) := by omega
        rw [e2]
        simpa using hw
      · exact ih.2.2.2 j (by omega) h2
/-- what holds of the least counts -/
theorem least_law {a b c d s n : Int} (h : mLeastCounts a b c d s = (n, true)) : 1 ≤ n ∧ n ≤ 64 ∧ mWithinStep a b c d n s = (true, true) ∧ (1 < n → mWithinStep a b c d (n - 1) s = (false, true)) := by
  unfold mLeastCounts at h
  split at h
  · rename_i hc
    simp only [Bool.and_eq_true] at hc
    obtain ⟨⟨g1, g2⟩, hs⟩ := hc
    have hl := lc_law _ _ 64 n h (Nat.le_refl _)
    obtain ⟨h1, h2, h3, h4⟩ := hl
    have hg : ∀ j : Int, 1 ≤ j → j ≤ 64 → goodM a b c d j = true := fun j j1 j2 => by rw [goodM_iff]; exact ⟨g1, g2, j1, j2⟩
    refine ⟨by omega, h2, ?_, fun hn => ?_⟩
    · rw [mWithinStep, hg n (by omega) h2, hs, h3]; rfl
    · rw [mWithinStep, hg (n - 1) (by omega) (by omega), hs, h4 (n - 1) (by omega) (by omega)]; rfl
  · injection h with _ h; cases h
theorem moves_let (a b c d k : Int) : ∃ (t : List UInt8) (p q : Int) (ok : Bool), Hid (goodM a b c d k = ok) ∧ Hid (mMoveText a b c d k = (t, ok)) ∧ Hid (mStepSquare a b c d k = (p, q, ok)) := by
  rcases tf (goodM a b c d k) with h | h
  · exact ⟨_, _, _, true, h, by show _ = _; rw [mMoveText, if_pos h], by show _ = _; rw [mStepSquare, if_pos h]⟩
  · exact ⟨[], 0, 0, false, h, by show _ = _; rw [mMoveText, if_neg (by rw [h]; decide)], by show _ = _; rw [mStepSquare, if_neg (by rw [h]; decide)]⟩
theorem mtext_law {a b c d k : Int} {t : List UInt8} (hg : goodM a b c d k = true) (ht : mMoveText a b c d k = (t, true)) : t.length ≤ 1000 ∧ iPMove t = (((a, b), (c, d), k), true) := by
  rcases mMoveText_cases a b c d k with ⟨x1, y1, x2, y2, n, rfl, rfl, rfl, rfl, rfl, hg2, _, _, h1, h2, h3, h4, h5, hm⟩ | ⟨hg2, _⟩
  · rw [hm] at ht
    injection ht with ht _
    subst ht
    refine ⟨?_, iPMove_text hg2⟩
    have l1 := textL_le h1 h2
    have l2 := textL_le h3 h4
    have l3 := numL_le7 h5
    rw [moveL]; simp; omega
  · rw [hg] at hg2; cases hg2

end Go.Proofs.YtgpjnffomheemaaDoor

