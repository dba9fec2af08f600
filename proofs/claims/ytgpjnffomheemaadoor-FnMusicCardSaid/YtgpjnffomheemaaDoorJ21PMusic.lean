import Derived.Test.YtgpjnffomheemaaDoorJ3Music2
import Derived.Test.YtgpjnffomheemaaDoorJ20Wrt3
import Derived.Test.YtgpjnffomheemaaDoorJ19
/- Plain laws of music: the measure of a count, the fastest measure, rising times. -/
namespace Go.Proofs.YtgpjnffomheemaaDoor
open Go.RowKit
set_option linter.unusedVariables false
set_option linter.unusedSimpArgs false
set_option maxRecDepth 100000

theorem atL_law {l : List (Int × Int)} : ∀ (d j : Nat) (k : Int), j + d = l.length → 0 ≤ k → k < sumL (l.drop j) → ∃ x y, l[(atL (l.drop j) k).1 + j]? = some (x, y) ∧ 0 ≤ (atL (l.drop j) k).2 ∧ (atL (l.drop j) k).2 < x ∧ sumTo l ((atL (l.drop j) k).1 + j) + (atL (l.drop j) k).2 = sumTo l j + k
  | 0, j, k, h, h0, h1 => by
    rw [List.drop_eq_nil_of_le (by omega)] at h1
    simp only [sumL] at h1
    omega
  | d + 1, j, k, h, h0, h1 => by
    obtain ⟨⟨x, y⟩, hx⟩ : ∃ p, l[j]? = some p := ⟨_, List.getElem?_eq_getElem (show j < l.length by omega)⟩
    rw [sumL_drop hx] at h1
    rw [atL_drop hx]
    by_cases hc : x ≤ k
    · rw [if_pos hc]
      obtain ⟨u, v, a, b, c, e⟩ := atL_law (l := l) d (j + 1) (k - x) (by omega) (by omega) (by omega)
      have hs := sumTo_step hx
      refine ⟨u, v, ?_, b, c, ?_⟩
      · rw [show (atL (l.drop (j + 1)) (k - x)).1 + 1 + j = (atL (l.drop (j + 1)) (k - x)).1 + (j + 1) by omega]; exact a
      · show sumTo l ((atL (l.drop (j + 1)) (k - x)).1 + 1 + j) + (atL (l.drop (j + 1)) (k - x)).2 = _
        rw [show (atL (l.drop (j + 1)) (k - x)).1 + 1 + j = (atL (l.drop (j + 1)) (k - x)).1 + (j + 1) by omega, e, hs]; omega
    · rw [if_neg hc]
      exact ⟨x, y, by simpa using hx, h0, by show k < x; omega, by simp⟩
theorem measure_law {l : List (Int × Int)} {k i p : Int} (h : mMeasureAt l k = (i, p, true)) : ∃ (I : Nat) (x y : Int), i = I ∧ I < l.length ∧ l.length ≤ 40 ∧ l[I]? = some (x, y) ∧ 0 ≤ p ∧ p < x ∧ sumTo l I + p = k ∧ k ≤ 480 ∧ ∀ j, j ≤ l.length → 0 ≤ sumTo l j ∧ sumTo l j ≤ 480 := by
  unfold mMeasureAt at h
  split at h
  case isFalse => injection h with h1 h2; injection h2 with h2 h3; cases h3
  case isTrue hg =>
    rw [Bool.and_eq_true, inB_iff] at hg
    obtain ⟨hm, h0, h1⟩ := hg
    injection h with e1 e2
    injection e2 with e2 _
    have hb := sumL_bd hm
    have hn := musB_len hm
    obtain ⟨x, y, a, b, c, e⟩ := atL_law (l := l) l.length 0 k (by omega) h0 (by simpa using by omega)
    simp only [List.drop_zero, Nat.add_zero] at a b c e
    obtain ⟨hI, _⟩ := List.getElem?_eq_some_iff.1 a
    refine ⟨(atL l k).1, x, y, e1.symm, hI, by omega, a, by omega, by omega, ?_, by omega, fun j hj => ?_⟩
    · rw [← e2, e]; simp [sumTo]
    · have := sumTo_bd hm j hj; omega
theorem fast_law {l : List (Int × Int)} : ∀ k, 1 ≤ k → k ≤ l.length → ∃ x y, fastTo l k < k ∧ l[fastTo l k]? = some (x, y) ∧ ∀ (i : Nat) (u v : Int), i < k → l[i]? = some (u, v) → v ≤ y ∧ (v = y → fastTo l k ≤ i)
  | 0, h, _ => absurd h (by omega)
  | 1, _, h => by
    obtain ⟨⟨x, y⟩, hx⟩ : ∃ p, l[0]? = some p := ⟨_, List.getElem?_eq_getElem (show 0 < l.length by omega)⟩
    have e : fastTo l 1 = 0 := fastTo_no (m := 0) rfl hx hx (by omega)
    rw [e]
    refine ⟨x, y, by omega, hx, fun i u v hi hu => ?_⟩
    obtain rfl : i = 0 := by omega
    rw [hx] at hu
    injection hu with hu; injection hu with h1 h2
    omega
  | k + 2, _, h => by
    obtain ⟨x, y, a, b, c⟩ := fast_law (l := l) (k + 1) (by omega) (by omega)
    obtain ⟨⟨p, q⟩, hp⟩ : ∃ p, l[k + 1]? = some p := ⟨_, List.getElem?_eq_getElem (show k + 1 < l.length by omega)⟩
    by_cases hc : y < q
    · have e := fastTo_yes rfl hp b hc
      rw [show k + 2 = k + 1 + 1 from rfl, e]
      refine ⟨p, q, by omega, hp, fun i u v hi hu => ?_⟩
      by_cases hik : i = k + 1
      · subst hik
        rw [hp] at hu
        injection hu with hu; injection hu with h1 h2
        omega
      · have := c i u v (by omega) hu
        omega
    · have e := fastTo_no rfl hp b hc
      rw [show k + 2 = k + 1 + 1 from rfl, e]
      refine ⟨x, y, by omega, b, fun i u v hi hu => ?_⟩
      by_cases hik : i = k + 1
      · subst hik
        rw [hp] at hu
        injection hu with hu; injection hu with h1 h2
        omega
      · exact c i u v (by omega) hu
theorem quo_lt {a b y : Int} (h0 : 0 ≤ a) (hab : a + 60000 ≤ b) (h1 : 40 ≤ y) (h2 : y ≤ 220) : a / y < b / y := by
  have e : (a + y * 1) / y = a / y + 1 := Int.add_mul_ediv_left a 1 (by omega)
  have : (a + y * 1) / y ≤ b / y := Int.ediv_le_ediv (by omega) (by omega)
  omega
theorem timeL_lt : ∀ (l : List (Int × Int)) (k : Int), (∀ p ∈ l, meB p.1 p.2 = true) → 0 ≤ k → k < sumL l → timeL l k < timeL l (k + 1)
  | [], k, _, h0, h1 => by simp only [sumL] at h1; omega
  | p :: r, k, h, hk, hs => by
    have hp := (meB_iff _ _).1 (h p (by simp))
    have hr : ∀ q ∈ r, meB q.1 q.2 = true := fun q hq => h q (by simp [hq])
    simp only [timeL]
    simp only [sumL] at hs
    by_cases h1 : k + 1 < p.1
    · rw [if_pos h1, if_pos (by omega)]
      exact quo_lt (by omega) (by omega) (by omega) (by omega)
    · by_cases h2 : k < p.1
      · rw [if_pos h2, if_neg h1]
        have e : k + 1 - p.1 = 0 := by omega
        rw [e]
        have a := (timeL_rng r 0 hr (Int.le_refl _)).1
        have b : 60000 * k / p.2 < 60000 * p.1 / p.2 := quo_lt (by omega) (by omega) (by omega) (by omega)
        omega
      · rw [if_neg h2, if_neg h1]
        have := timeL_lt r (k - p.1) hr (by omega) (by omega)
        rw [show k + 1 - p.1 = k - p.1 + 1 by omega]
        omega
theorem time_law {l : List (Int × Int)} (hm : musB l = true) {j : Int} (h0 : 0 ≤ j) (h1 : j ≤ sumL l) : ∃ a, mTimeOf l j = (a, true) ∧ 0 ≤ a ∧ ∀ b, mTimeOf l (j + 1) = (b, true) → a < b := by
  refine ⟨timeL l j, ?_, (timeL_bd hm h0).1, fun b hb => ?_⟩
  · unfold mTimeOf; rw [if_pos (by rw [Bool.and_eq_true, inB_iff]; exact ⟨hm, h0, h1⟩)]
  · unfold mTimeOf at hb
    split at hb
    case isFalse => injection hb with _ hb; cases hb
    case isTrue hg =>
      rw [Bool.and_eq_true, inB_iff] at hg
      injection hb with hb _
      rw [← hb]
      exact timeL_lt l j (musB_mem hm) h0 (by omega)
def MusLaw (l : List (Int × Int)) (ok : Bool) (t : List UInt8) (k f : Int) : Prop :=
  ok = true → t.length ≤ 640 ∧ iPMus t = (l, true) ∧ 0 ≤ k ∧ k ≤ 480 ∧ (∀ j : Int, 0 ≤ j → j ≤ k → ∃ a, mTimeOf l j = (a, true) ∧ 0 ≤ a ∧ ∀ b, mTimeOf l (j + 1) = (b, true) → a < b) ∧
      ∃ (F : Nat) (x y : Int), f = F ∧ F < l.length ∧ l[F]? = some (x, y) ∧ ∀ (i : Nat) (u v : Int), l[i]? = some (u, v) → v ≤ y ∧ (v = y → F ≤ i)
/-- what the law asks of one music's text, counts and fastest measure, with one letter for 'it is music' -/
theorem music_law (l : List (Int × Int)) : ∃ (ok : Bool) (t : List UInt8) (k f : Int), musB l = ok ∧ mMusicText l = (t, ok) ∧ mCountsOf l = (k, ok) ∧ mFastest l = (f, ok) ∧ MusLaw l ok t k f := by
  rcases tf (musB l) with h | h
  · have hn := musB_len h
    obtain ⟨x, y, a, b, c⟩ := fast_law (l := l) l.length (by omega) (Nat.le_refl _)
    have hs := sumTo_all l
    have hb := sumL_bd h
    refine ⟨true, musL l, sumTo l l.length, (fastTo l l.length : Int), h, by simp [mMusicText, h], by simp [mCountsOf, h], by simp [mFastest, h], fun _ => ⟨musL_le h, iPMus_text h, by omega, by omega, fun j h0 h1 => time_law h h0 (by omega), fastTo l l.length, x, y, rfl, a, b, fun i u v hu => ?_⟩⟩
    obtain ⟨hi, _⟩ := List.getElem?_eq_some_iff.1 hu
    exact c i u v hi hu
  · exact ⟨false, [], 0, 0, h, by simp [mMusicText, h], by simp [mCountsOf, h], by simp [mFastest, h], fun e => by cases e⟩

end Go.Proofs.YtgpjnffomheemaaDoor

