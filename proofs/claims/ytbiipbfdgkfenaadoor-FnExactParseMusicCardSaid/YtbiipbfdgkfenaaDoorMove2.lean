/- Contracts of the places of a move, of the program and of the reference. -/
import Derived.Test.YtbiipbfdgkfenaaDoorMove
import Derived.Test.YtbiipbfdgkfenaaDoorGcd
import Derived.Test.YtbiipbfdgkfenaaDoorBetween
import Derived.Deep.RegionHeld3
import Derived.Deep.DeepCutAuto
namespace Go.Proofs.YtbiipbfdgkfenaaDoor
open Go.RowKit
set_option linter.unusedVariables false
set_option linter.unusedSimpArgs false
set_option maxRecDepth 100000

def plc (x u k n : Int) : Int := x * k + n * (u - x)
theorem plc_eq (x u k n : Int) : plc x u k n = x * (k - n) + n * u := by
  unfold plc; rw [Int.mul_sub, Int.mul_sub, Int.mul_comm n x]; omega
theorem plc_bd {x u k n : Int} (hx0 : 0 ≤ x) (hx : x ≤ 1280) (hu0 : 0 ≤ u) (hu : u ≤ 1280) (hk : 1 ≤ k) (hk2 : k ≤ 64) (hn0 : 0 ≤ n) (hn : n ≤ k) :
    0 ≤ x * k ∧ x * k ≤ 81920 ∧ -81920 ≤ n * (u - x) ∧ n * (u - x) ≤ 81920 ∧ 0 ≤ x * k + n * (u - x) ∧ x * k + n * (u - x) ≤ 163840 := by
  have e := plc_eq x u k n
  have a1 := mul_bd (a := x) (b := k) (A := 1280) (B := 64) (by omega) (by omega) (by omega) (by omega)
  have a2 := mul_bd (a := n) (b := u - x) (A := 64) (B := 1280) (by omega) (by omega) (by omega) (by omega)
  have a3 : 0 ≤ x * k := Int.mul_nonneg (by omega) (by omega)
  have a4 : 0 ≤ x * (k - n) := Int.mul_nonneg (by omega) (by omega)
  have a5 : 0 ≤ n * u := Int.mul_nonneg (by omega) (by omega)
  unfold plc at e
  omega
def mPlaceAt (a b c d k n : Int) : Int × Int × Bool := if goodM a b c d k && inB n 0 k then (plc a c k n, plc b d k n, true) else (0, 0, false)

/-- the rounded spot after a count -/
def rnd (x u k n : Int) : Int := (2 * plc x u k n + k) / (2 * k)
theorem plc_rng {x u k n : Int} (hx0 : 0 ≤ x) (hx : x ≤ 1280) (hu0 : 0 ≤ u) (hu : u ≤ 1280) (hk : 1 ≤ k) (hk2 : k ≤ 64) (hn0 : 0 ≤ n) (hn : n ≤ k) : 0 ≤ plc x u k n ∧ plc x u k n ≤ 163840 := by
  have := plc_bd hx0 hx hu0 hu hk hk2 hn0 hn
  unfold plc; omega

theorem tdiv_le {x d B : Int} (h1 : -B ≤ x) (h2 : x ≤ B) : -B ≤ x.tdiv d ∧ x.tdiv d ≤ B := by
  have h : (x.tdiv d).natAbs ≤ x.natAbs := by rw [Int.natAbs_tdiv x d]; exact Nat.div_le_self x.natAbs d.natAbs
  omega

def mRounded (a b c d k n : Int) : (Int × Int) × Bool := if goodM a b c d k && inB n 0 k then ((rnd a c k n, rnd b d k n), true) else ((0, 0), false)

end Go.Proofs.YtbiipbfdgkfenaaDoor

