/- Contracts of the functions on spots, of the program and of the reference; each pair comes to one plain function. -/
import Derived.Test.YtbiipbfdgkfenaaDoorBase
namespace Go.Proofs.YtbiipbfdgkfenaaDoor
open Go.RowKit
set_option linter.unusedVariables false
set_option linter.unusedSimpArgs false

theorem inB_iff (n lo hi : Int) : inB n lo hi = true ↔ lo ≤ n ∧ n ≤ hi := by simp [inB]
theorem goodB_iff (x y : Int) : goodB x y = true ↔ 0 ≤ x ∧ x ≤ 1280 ∧ 0 ≤ y ∧ y ≤ 672 := by simp [goodB, inB_iff]; omega
/-- the square of a difference that lies in a range -/
theorem sqr_le {d m : Int} (h1 : -m ≤ d) (h2 : d ≤ m) : 0 ≤ d * d ∧ d * d ≤ m * m := by
  constructor
  · rcases Int.le_total 0 d with h | h
    · exact Int.mul_nonneg h h
    · have := Int.mul_nonneg (show 0 ≤ -d by omega) (show 0 ≤ -d by omega); rwa [Int.neg_mul_neg] at this
  · rcases Int.le_total 0 d with h | h
    · exact Int.mul_le_mul h2 h2 h (by omega)
    · have := Int.mul_le_mul (show -d ≤ m by omega) (show -d ≤ m by omega) (show 0 ≤ -d by omega) (by omega); rwa [Int.neg_mul_neg] at this
def sq (x y u v : Int) : Int := (x - u) * (x - u) + (y - v) * (y - v)
theorem sq_bd {x y u v : Int} (h : goodB x y = true) (h' : goodB u v = true) : 0 ≤ sq x y u v ∧ sq x y u v ≤ 2089984 := by
  rw [goodB_iff] at h h'
  have h1 := sqr_le (d := x - u) (m := 1280) (by omega) (by omega)
  have h2 := sqr_le (d := y - v) (m := 672) (by omega) (by omega)
  unfold sq; omega

def mSquareOf (x y u v : Int) : Int × Bool := if goodB x y && goodB u v then (sq x y u v, true) else (0, false)

def mMirror (x y : Int) : (Int × Int) × Bool := if goodB x y then ((1280 - x, y), true) else ((0, 0), false)

def mMiddle (x y u v : Int) : (Int × Int) × Bool := if goodB x y && goodB u v then (((x + u) / 2, (y + v) / 2), true) else ((0, 0), false)

def mNearStep (x y : Int) : (Int × Int) × Bool := if goodB x y then (((x + 4) / 8 * 8, (y + 4) / 8 * 8), true) else ((0, 0), false)

theorem eqSpot_same (x y : Int) (w : World) :
    Calls Tryd.prog 47 #[.agg #[.int .i64 x, .int .i64 y], .agg #[.int .i64 x, .int .i64 y]] w fun e w' => e = .returned (.bool true) ∧ Below w.heap.size w w' := by
  go_enter Tryd.func47, Tryd.ntmps47
  go_wp2
  go_ret
  exact ⟨rfl, (by (first | with_reducible exact Below.refl _ _ | with_reducible assumption | (repeat (with_reducible first | exact Below.refl _ _ | assumption | refine Below.drew ?_ | refine Below.alloc ?_ (by first | omega | (simp <;> omega)) _ | refine Below.setCell ?_ (by first | omega | (simp <;> omega)) _ | refine below_drewN ?_ _))))⟩

end Go.Proofs.YtbiipbfdgkfenaaDoor

