/- Contracts of the divisions and of the fractions in lowest terms, of the program and of the reference. -/
import Derived.Test.YtbiipbfdgkfenaaDoorBase2
import Derived.Test.YtbiipbfdgkfenaaDoorSpot
import Derived.LoopTactic
import Derived.Deep.QuietTactic
import Derived.BigQuiet
namespace Go.Proofs.YtbiipbfdgkfenaaDoor
open Go.RowKit
set_option linter.unusedVariables false
set_option linter.unusedSimpArgs false

def gcdI (x y : Int) : Int := (Nat.gcd x.toNat y.toNat : Int)
theorem gcdI_step {x y : Int} (hx : 0 ≤ x) (hy : 0 < y) : gcdI x y = gcdI y (x % y) := by
  obtain ⟨m, rfl⟩ := Int.eq_ofNat_of_zero_le hx
  obtain ⟨n, rfl⟩ := Int.eq_ofNat_of_zero_le (show 0 ≤ y by omega)
  unfold gcdI
  rw [← Int.natCast_emod, Int.toNat_natCast, Int.toNat_natCast, Int.toNat_natCast, Nat.gcd_comm m n, Nat.gcd_rec, Nat.gcd_comm]
theorem gcdI_zero {x : Int} (hx : 0 ≤ x) : gcdI x 0 = x := by
  obtain ⟨m, rfl⟩ := Int.eq_ofNat_of_zero_le hx
  simp [gcdI]
theorem gcdI_pos {a b : Int} (hb : 1 ≤ b) : 1 ≤ gcdI a b := by
  have h : 0 < Nat.gcd a.toNat b.toNat := Nat.gcd_pos_of_pos_right _ (by omega)
  unfold gcdI; omega
theorem gcdI_dvd (a b : Int) (hb : 1 ≤ b) : gcdI a b ≤ b := by
  have h := Nat.gcd_le_right a.toNat (show 0 < b.toNat by omega)
  unfold gcdI; omega
def GcdEq (a b x y : Int) : Prop := gcdI x y = gcdI a b
theorem emod_bd {x y : Int} (hy : 0 < y) : 0 ≤ x % y ∧ x % y < y := ⟨Int.emod_nonneg _ (by omega), Int.emod_lt_of_pos _ hy⟩

theorem tdiv_neg_ {a b : Int} (ha : a < 0) (hb : 1 ≤ b) :
    a ≤ a.tdiv b ∧ a.tdiv b ≤ 0 ∧ -b < a.tmod b ∧ a.tmod b ≤ 0 ∧ (a.tmod b < 0 → a / b = a.tdiv b - 1) ∧ (0 ≤ a.tmod b → a / b = a.tdiv b) := by
  have e1 : a.tdiv b = -((-a) / b) := by
    rw [show a = -(-a) by omega, Int.neg_tdiv, Int.tdiv_eq_ediv_of_nonneg (by omega)]; simp
  have e2 : a.tmod b = -((-a) % b) := by
    rw [show a = -(-a) by omega, Int.neg_tmod, Int.tmod_eq_emod_of_nonneg (by omega)]; simp
  have h1 := Int.emod_nonneg (-a) (show b ≠ 0 by omega)
  have h2 := Int.emod_lt_of_pos (-a) (show 0 < b by omega)
  have h3 := Int.mul_ediv_add_emod (-a) b
  have h4 : 0 ≤ (-a) / b := Int.ediv_nonneg (by omega) (by omega)
  have h5 : (-a) / b ≤ -a := Int.ediv_le_self _ (by omega)
  rw [e1, e2]
  refine ⟨by omega, by omega, by omega, by omega, fun h => ?_, fun h => ?_⟩
  · have := ((Int.ediv_emod_unique (a := a) (b := b) (r := b - (-a) % b) (q := -((-a) / b) - 1) (by omega)).2 ⟨by rw [Int.mul_sub, Int.mul_neg]; omega, by omega, by omega⟩).1
    exact this
  · have := ((Int.ediv_emod_unique (a := a) (b := b) (r := 0) (q := -((-a) / b)) (by omega)).2 ⟨by rw [Int.mul_neg]; omega, by omega, by omega⟩).1
    exact this

end Go.Proofs.YtbiipbfdgkfenaaDoor

