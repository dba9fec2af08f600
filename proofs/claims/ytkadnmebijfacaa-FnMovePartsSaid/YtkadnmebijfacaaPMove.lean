/- Plain laws of moves: split ones are joined again, steps are the same, rounded places are near, whole counts turn round. -/
import Derived.Test.YtkadnmebijfacaaJoin
import Derived.Test.YtkadnmebijfacaaMoveStep
import Derived.Test.YtkadnmebijfacaaMoveRev
import Derived.Test.YtkadnmebijfacaaWhole
namespace Go.Proofs.Ytkadnmebijfacaa
open Go.RowKit
set_option linter.unusedVariables false
set_option linter.unusedSimpArgs false

/-- two fractions of one value have one form in lowest terms -/
theorem lowest_nat {A N B K : Nat} (hN : 0 < N) (hK : 0 < K) (h : A * K = B * N) : A / A.gcd N = B / B.gcd K ∧ N / A.gcd N = K / B.gcd K := by
  have g1 : 0 < A.gcd N := Nat.gcd_pos_of_pos_right _ hN
  have g2 : 0 < B.gcd K := Nat.gcd_pos_of_pos_right _ hK
  have c1 := Nat.coprime_div_gcd_div_gcd g1
  have c2 := Nat.coprime_div_gcd_div_gcd g2
  obtain ⟨a, ha⟩ : ∃ a, A / A.gcd N = a := ⟨_, rfl⟩
  obtain ⟨n, hn⟩ : ∃ n, N / A.gcd N = n := ⟨_, rfl⟩
  obtain ⟨b, hb⟩ : ∃ b, B / B.gcd K = b := ⟨_, rfl⟩
  obtain ⟨k, hk⟩ : ∃ k, K / B.gcd K = k := ⟨_, rfl⟩
  have eA : A = A.gcd N * a := by rw [← ha]; exact (Nat.mul_div_cancel' (Nat.gcd_dvd_left _ _)).symm
  have eN : N = A.gcd N * n := by rw [← hn]; exact (Nat.mul_div_cancel' (Nat.gcd_dvd_right _ _)).symm
  have eB : B = B.gcd K * b := by rw [← hb]; exact (Nat.mul_div_cancel' (Nat.gcd_dvd_left _ _)).symm
  have eK : K = B.gcd K * k := by rw [← hk]; exact (Nat.mul_div_cancel' (Nat.gcd_dvd_right _ _)).symm
  rw [ha, hn] at c1
  rw [hb, hk] at c2
  rw [ha, hn, hb, hk]
  have e : a * k = b * n := by
    have e1 : (A.gcd N * B.gcd K) * (a * k) = (A.gcd N * B.gcd K) * (b * n) := by
      calc (A.gcd N * B.gcd K) * (a * k) = (A.gcd N * a) * (B.gcd K * k) := by ac_rfl
        _ = A * K := by rw [← eA, ← eK]
        _ = B * N := h
        _ = (B.gcd K * b) * (A.gcd N * n) := by rw [← eB, ← eN]
        _ = (A.gcd N * B.gcd K) * (b * n) := by ac_rfl
    exact Nat.eq_of_mul_eq_mul_left (Nat.mul_pos g1 g2) e1
  have d1 : n ∣ k := c1.symm.dvd_of_dvd_mul_left (by rw [e]; exact Nat.dvd_mul_left _ _)
  have d2 : k ∣ n := c2.symm.dvd_of_dvd_mul_left (by rw [← e]; exact Nat.dvd_mul_left _ _)
  have hnk : n = k := Nat.dvd_antisymm d1 d2
  have hk0 : 0 < k := by
    rcases Nat.eq_zero_or_pos k with h0 | h0
    · rw [h0, Nat.mul_zero] at eK; omega
    · exact h0
  refine ⟨?_, hnk⟩
  rw [hnk] at e
  exact Nat.eq_of_mul_eq_mul_right hk0 e
theorem lowest_int {A N B K : Int} (hA : 0 ≤ A) (hB : 0 ≤ B) (hN : 0 < N) (hK : 0 < K) (h : A * K = B * N) : A / gcdI A N = B / gcdI B K ∧ N / gcdI A N = K / gcdI B K := by
  obtain ⟨a, rfl⟩ := Int.eq_ofNat_of_zero_le hA
  obtain ⟨b, rfl⟩ := Int.eq_ofNat_of_zero_le hB
  obtain ⟨n, rfl⟩ := Int.eq_ofNat_of_zero_le (show 0 ≤ N by omega)
  obtain ⟨k, rfl⟩ := Int.eq_ofNat_of_zero_le (show 0 ≤ K by omega)
  have := lowest_nat (A := a) (N := n) (B := b) (K := k) (by omega) (by omega) (by exact_mod_cast h)
  unfold gcdI
  simp only [Int.toNat_natCast]
  exact ⟨by rw [← Int.natCast_ediv, ← Int.natCast_ediv, this.1], by rw [← Int.natCast_ediv, ← Int.natCast_ediv, this.2]⟩
theorem rnd_whole {x u k n : Int} (hk : 1 ≤ k) (h : plc x u k n % k = 0) : k * rnd x u k n = plc x u k n := by
  obtain ⟨t, ht⟩ := Int.dvd_of_emod_eq_zero h
  have : rnd x u k n = t := by
    unfold rnd
    rw [ht, show 2 * (k * t) + k = k + 2 * k * t by rw [Int.mul_assoc]; omega, Int.add_mul_ediv_left _ _ (by omega), Int.ediv_eq_zero_of_lt (by omega) (by omega)]; omega
  rw [this, ht]
theorem rnd_good {x u k n : Int} (hk : 1 ≤ k) (hk2 : k ≤ 64) (h : plc x u k n % k = 0) (h0 : 0 ≤ n) (hn : n ≤ k) {M : Int} (hx0 : 0 ≤ x) (hx : x ≤ M) (hu0 : 0 ≤ u) (hu : u ≤ M) : 0 ≤ rnd x u k n ∧ rnd x u k n ≤ M := by
  have e := rnd_whole hk h
  rw [plc_eq] at e
  have a1 := Int.mul_nonneg hx0 (show 0 ≤ k - n by omega)
  have a2 := Int.mul_nonneg h0 hu0
  have b1 := Int.mul_le_mul_of_nonneg_right hx (show 0 ≤ k - n by omega)
  have b2 := Int.mul_le_mul_of_nonneg_left hu h0
  have e2 : M * (k - n) + n * M = k * M := by rw [Int.mul_comm n M, ← Int.mul_add, show k - n + n = k by omega, Int.mul_comm]
  constructor
  · rcases Int.lt_or_le (rnd x u k n) 0 with g | g
    · have := Int.mul_lt_mul_of_pos_left g (show 0 < k by omega)
      omega
    · exact g
  · exact Int.le_of_mul_le_mul_left (by rw [e]; omega) (show 0 < k by omega)
theorem part_sq {a b c d k n : Int} (hk : 1 ≤ k) (h1 : plc a c k n % k = 0) (h2 : plc b d k n % k = 0) : sq a b (rnd a c k n) (rnd b d k n) * (k * k) = sq a b c d * (n * n) := by
  have e1 := rnd_whole hk h1
  have e2 := rnd_whole hk h2
  unfold plc at e1 e2
  have k1 : k * (a - rnd a c k n) = n * (a - c) := by rw [Int.mul_sub, e1, Int.mul_sub, Int.mul_sub, Int.mul_comm k a]; omega
  have k2 : k * (b - rnd b d k n) = n * (b - d) := by rw [Int.mul_sub, e2, Int.mul_sub, Int.mul_sub, Int.mul_comm k b]; omega
  have sqm : ∀ s t : Int, (s * t) * (s * t) = (t * t) * (s * s) := fun s t => by simp only [Int.mul_assoc, Int.mul_comm, Int.mul_left_comm]
  unfold sq
  rw [Int.add_mul, Int.add_mul, ← sqm k, ← sqm k, ← sqm n, ← sqm n, k1, k2]
theorem split_law {a b c d k n p1 p2 p3 p4 p5 q1 q2 q3 q4 q5 : Int} (hm : mSplit a b c d k n = ((p1, p2, p3, p4, p5), (q1, q2, q3, q4, q5), true)) :
    mJoin p1 p2 p3 p4 p5 q1 q2 q3 q4 q5 = ((a, b, c, d, k), true) ∧ p5 + q5 = k ∧ p3 = q1 ∧ p4 = q2 ∧ 1 ≤ p5 ∧ p5 ≤ 64 ∧ 1 ≤ q5 ∧ q5 ≤ 64 ∧ 1 ≤ k ∧ k ≤ 64 ∧ ∃ u v, mStepSquare p1 p2 p3 p4 p5 = (u, v, true) ∧ mStepSquare a b c d k = (u, v, true) := by
  unfold mSplit at hm
  split at hm
  · rename_i hc
    rw [Bool.and_eq_true, Bool.and_eq_true, inB_iff] at hc
    obtain ⟨⟨hg, n1, n2⟩, hw⟩ := hc
    simp only [Prod.mk.injEq, and_true] at hm
    obtain ⟨⟨rfl, rfl, rfl, rfl, rfl⟩, rfl, rfl, rfl, rfl, rfl⟩ := hm
    obtain ⟨g1, g2, k1, k2⟩ := (goodM_iff _ _ _ _ _).1 hg
    obtain ⟨x1, x2, x3, x4⟩ := (goodB_iff _ _).1 g1
    obtain ⟨y1, y2, y3, y4⟩ := (goodB_iff _ _).1 g2
    have hw0 := hw
    unfold wholeB at hw0
    rw [Bool.and_eq_true, beq_iff_eq, beq_iff_eq] at hw0
    obtain ⟨r1, r2⟩ := rnd_good k1 k2 hw0.1 (by omega) (by omega) x1 x2 y1 y2
    obtain ⟨r3, r4⟩ := rnd_good k1 k2 hw0.2 (by omega) (by omega) x3 x4 y3 y4
    have gr : goodB (rnd a c k n) (rnd b d k n) = true := (goodB_iff _ _).2 ⟨r1, r2, r3, r4⟩
    have gp : goodM a b (rnd a c k n) (rnd b d k n) n = true := (goodM_iff _ _ _ _ _).2 ⟨g1, gr, by omega, by omega⟩
    have gq : goodM (rnd a c k n) (rnd b d k n) c d (k - n) = true := (goodM_iff _ _ _ _ _).2 ⟨gr, g2, by omega, by omega⟩
    refine ⟨?_, by omega, rfl, rfl, by omega, by omega, by omega, by omega, by omega, by omega, ?_⟩
    · rw [mJoin_yes]
      · rw [show n + (k - n) = k by omega]
      · unfold joinB
        rw [show n + (k - n) = k by omega]
        simp [gp, gq, hg, hw]
    · refine ⟨_, _, by unfold mStepSquare; rw [if_pos gp], ?_⟩
      unfold mStepSquare
      rw [if_pos hg]
      obtain ⟨s1, _⟩ := sq_bd g1 gr
      obtain ⟨s2, _⟩ := sq_bd g1 g2
      have hl := lowest_int (A := sq a b (rnd a c k n) (rnd b d k n)) (N := n * n) (B := sq a b c d) (K := k * k) s1 s2 (Int.mul_pos (by omega) (by omega)) (Int.mul_pos (by omega) (by omega)) (part_sq k1 hw0.1 hw0.2)
      rw [hl.1, hl.2]
  · simp at hm
theorem join_law {a1 a2 a3 a4 a5 b1 b2 b3 b4 b5 j1 j2 j3 j4 j5 : Int} (hm : mJoin a1 a2 a3 a4 a5 b1 b2 b3 b4 b5 = ((j1, j2, j3, j4, j5), true)) : mSplit j1 j2 j3 j4 j5 a5 = ((a1, a2, a3, a4, a5), (b1, b2, b3, b4, b5), true) := by
  unfold mJoin at hm
  split at hm
  · rename_i hc
    simp only [Prod.mk.injEq, and_true] at hm
    obtain ⟨rfl, rfl, rfl, rfl, rfl⟩ := hm
    unfold joinB at hc
    simp only [Bool.and_eq_true, beq_iff_eq] at hc
    obtain ⟨⟨⟨⟨⟨ga, gb⟩, gm⟩, e1, e2⟩, hw⟩, r1, r2⟩ := hc
    obtain ⟨_, _, ka, _⟩ := (goodM_iff _ _ _ _ _).1 ga
    obtain ⟨_, _, kb, _⟩ := (goodM_iff _ _ _ _ _).1 gb
    unfold mSplit
    rw [if_pos (by rw [Bool.and_eq_true, Bool.and_eq_true, inB_iff]; exact ⟨⟨gm, by omega, by omega⟩, hw⟩), r1, r2, e1, e2, show a5 + b5 - a5 = b5 by omega]
  · simp at hm
theorem rounded_law {a b c d k n r1 r2 : Int} (hm : mRounded a b c d k n = ((r1, r2), true)) : ∃ x y, mPlaceAt a b c d k n = (x, y, true) ∧ 1 ≤ k ∧ k ≤ 64 ∧ 0 ≤ x ∧ x ≤ 163840 ∧ 0 ≤ y ∧ y ≤ 163840 ∧
    0 ≤ r1 * k ∧ r1 * k ≤ 400000 ∧ 0 ≤ r2 * k ∧ r2 * k ≤ 400000 ∧ 2 * (r1 * k - x) ≤ k ∧ 2 * (x - r1 * k) < k ∧ 2 * (r2 * k - y) ≤ k ∧ 2 * (y - r2 * k) < k := by
  unfold mRounded at hm
  split at hm
  · rename_i hc
    simp only [Prod.mk.injEq, and_true] at hm
    obtain ⟨rfl, rfl⟩ := hm
    refine ⟨plc a c k n, plc b d k n, by unfold mPlaceAt; rw [if_pos hc], ?_⟩
    rw [Bool.and_eq_true, inB_iff] at hc
    obtain ⟨hg, n1, n2⟩ := hc
    obtain ⟨g1, g2, k1, k2⟩ := (goodM_iff _ _ _ _ _).1 hg
    obtain ⟨x1, x2, x3, x4⟩ := (goodB_iff _ _).1 g1
    obtain ⟨y1, y2, y3, y4⟩ := (goodB_iff _ _).1 g2
    obtain ⟨u1, u2⟩ := plc_rng (x := a) (u := c) x1 x2 y1 y2 k1 k2 n1 n2
    obtain ⟨v1, v2⟩ := plc_rng (x := b) (u := d) x3 (by omega) y3 (by omega) k1 k2 n1 n2
    have key : ∀ p : Int, 2 * ((2 * p + k) / (2 * k) * k - p) ≤ k ∧ 2 * (p - (2 * p + k) / (2 * k) * k) < k := fun p => by
      have h1 := Int.ediv_mul_le (2 * p + k) (show 2 * k ≠ 0 by omega)
      have h2 := Int.lt_ediv_add_one_mul_self (2 * p + k) (show 0 < 2 * k by omega)
      have e : (2 * p + k) / (2 * k) * (2 * k) = 2 * ((2 * p + k) / (2 * k) * k) := by rw [Int.mul_left_comm]
      have e2 : ((2 * p + k) / (2 * k) + 1) * (2 * k) = 2 * ((2 * p + k) / (2 * k) * k) + 2 * k := by rw [Int.add_mul, e]; omega
      omega
    have z : ∀ p : Int, 0 ≤ p → 0 ≤ (2 * p + k) / (2 * k) * k := fun p hp => Int.mul_nonneg (Int.ediv_nonneg (by omega) (by omega)) (by omega)
    have a1 := key (plc a c k n)
    have a2 := key (plc b d k n)
    have a3 := z (plc a c k n) u1
    have a4 := z (plc b d k n) v1
    unfold rnd
    refine ⟨by omega, by omega, by omega, by omega, by omega, by omega, by omega, by omega, by omega, by omega, by omega, by omega, by omega, by omega⟩
  · simp at hm
theorem wholeTo_filter (a b c d k : Int) : ∀ m, wholeTo a b c d k m = ((List.range m).filter fun j : Nat => wholeB a b c d k (j : Int)).map fun j : Nat => (j : Int)
  | 0 => rfl
  | m + 1 => by
    rw [List.range_succ, List.filter_append, List.map_append, ← wholeTo_filter a b c d k m]
    simp only [wholeTo]
    split <;> rename_i h <;> simp [h]
theorem whole_rev {a b c d k : Int} {K : Nat} (hk : k = K) {j : Nat} (hj : j ≤ K) : wholeB c d a b k j = wholeB a b c d k (K - j : Nat) := by
  have e : ∀ x u : Int, plc u x k j = plc x u k (K - j : Nat) := fun x u => by
    rw [show ((K - j : Nat) : Int) = k - j by omega]
    unfold plc
    rw [Int.sub_mul, Int.mul_sub, Int.mul_sub, Int.mul_sub, Int.mul_comm u k, Int.mul_comm x k]; omega
  unfold wholeB
  rw [e, e]
theorem range_rev (K : Nat) : (List.range (K + 1)).reverse = (List.range (K + 1)).map fun j => K - j := by
  rw [List.range_eq_range', List.reverse_range', ← List.range_eq_range']
  refine List.map_congr_left fun j hj => ?_
  omega
theorem wholeTo_rev {a b c d k : Int} {K : Nat} (hk : k = K) : wholeTo c d a b k (K + 1) = ((wholeTo a b c d k (K + 1)).map fun x => k - x).reverse := by
  rw [wholeTo_filter, wholeTo_filter, ← List.map_reverse, ← List.map_reverse, ← List.filter_reverse, range_rev, List.filter_map, List.map_map, List.map_map]
  have e1 : (List.range (K + 1)).filter (fun j : Nat => wholeB c d a b k (j : Int)) = (List.range (K + 1)).filter ((fun j : Nat => wholeB a b c d k (j : Int)) ∘ fun j => K - j) := by
    refine List.filter_congr fun j hj => ?_
    have := List.mem_range.1 hj
    exact whole_rev hk (by omega)
  rw [e1]
  refine List.map_congr_left fun j hj => ?_
  have := List.mem_range.1 (List.mem_filter.1 hj).1
  simp only [Function.comp]
  omega
theorem wholeTo_mono (a b c d k : Int) (m : Nat) : ∀ i, (wholeTo a b c d k m).length ≤ (wholeTo a b c d k (m + i)).length
  | 0 => Nat.le_refl _
  | i + 1 => by
    have := wholeTo_mono a b c d k m i
    rw [← Nat.add_assoc]
    simp only [wholeTo]
    split
    · simp; omega
    · exact this
theorem whole_law {a b c d k t1 t2 t3 t4 t5 : Int} {l : List Int} {o1 o2 : Bool} (h1 : mWhole a b c d k = (l, o1)) (h2 : mReverse a b c d k = ((t1, t2, t3, t4, t5), o2)) : o1 = o2 ∧ (o1 = true → 2 ≤ l.length ∧ l.length ≤ 65 ∧ 1 ≤ k ∧ k ≤ 64 ∧ ∃ r, mWhole t1 t2 t3 t4 t5 = (r, true) ∧ r.length = l.length ∧
    ∀ (i : Nat) (x : Int), l[i]? = some x → r[l.length - 1 - i]? = some (k - x) ∧ 0 ≤ x ∧ x ≤ 64) := by
  unfold mWhole at h1
  unfold mReverse at h2
  split at h1
  · rename_i hg
    rw [if_pos hg] at h2
    simp only [Prod.mk.injEq] at h1 h2
    obtain ⟨hl, rfl⟩ := h1
    obtain ⟨⟨rfl, rfl, rfl, rfl, rfl⟩, rfl⟩ := h2
    refine ⟨rfl, fun _ => ?_⟩
    obtain ⟨g1, g2, k1, k2⟩ := (goodM_iff _ _ _ _ _).1 hg
    obtain ⟨K, hK⟩ : ∃ K : Nat, k = K := ⟨k.toNat, by omega⟩
    rw [show (k + 1).toNat = K + 1 by omega] at hl
    have hr : goodM c d a b k = true := (goodM_iff _ _ _ _ _).2 ⟨g2, g1, k1, k2⟩
    have hrev := wholeTo_rev (a := a) (b := b) (c := c) (d := d) hK
    have w0 : wholeB a b c d k (0 : Nat) = true := by simp [wholeB, plc]
    have wK : wholeB a b c d k (K : Nat) = true := by
      rw [← hK]
      have : ∀ x u : Int, plc x u k k % k = 0 := fun x u => by
        unfold plc; rw [Int.mul_comm x k, ← Int.mul_add]; exact Int.mul_emod_right _ _
      simp [wholeB, this]
    have len1 := wholeTo_len a b c d k (K + 1)
    have l1 : 1 ≤ (wholeTo a b c d k K).length := by
      have := wholeTo_mono a b c d k 1 (K - 1)
      rw [show 1 + (K - 1) = K by omega] at this
      have e : wholeTo a b c d k 1 = [((0 : Nat) : Int)] := by rw [show (1 : Nat) = 0 + 1 from rfl, wholeTo_yes w0]; rfl
      rw [e] at this
      simpa using this
    have l2 : (wholeTo a b c d k (K + 1)).length = (wholeTo a b c d k K).length + 1 := by rw [wholeTo_yes wK]; simp
    rw [hl] at hrev len1 l2
    refine ⟨by omega, by omega, k1, k2, ((l.map fun x => k - x).reverse), ?_, by simp, fun i x hi => ?_⟩
    · unfold mWhole
      rw [if_pos hr, show (k + 1).toNat = K + 1 by omega, hrev]
    · have hil := (List.getElem?_eq_some_iff.1 hi).1
      refine ⟨?_, ?_⟩
      · rw [List.getElem?_reverse (by simp; omega), List.length_map, show l.length - 1 - (l.length - 1 - i) = i by omega, List.getElem?_map, hi]; rfl
      · have hm := List.mem_of_getElem? hi
        rw [← hl, wholeTo_filter] at hm
        obtain ⟨j, hj, rfl⟩ := List.mem_map.1 hm
        have := List.mem_range.1 (List.mem_filter.1 hj).1
        omega
  · rename_i hg
    rw [if_neg hg] at h2
    simp only [Prod.mk.injEq] at h1 h2
    refine ⟨by rw [← h1.2, ← h2.2], fun h => ?_⟩
    rw [← h1.2] at h
    cases h

end Go.Proofs.Ytkadnmebijfacaa

