/- Contracts of BetweenSpots and of the cross product, of the program and of the reference. -/
import Derived.Test.YtgpjnffomheemaaDoorSpot
import Derived.Deep.QuietTactic
import Derived.BigQuiet
namespace Go.Proofs.YtgpjnffomheemaaDoor
open Go.RowKit
set_option linter.unusedVariables false
set_option linter.unusedSimpArgs false

theorem mul_bd {a b A B : Int} (h1 : -A ≤ a) (h2 : a ≤ A) (h3 : -B ≤ b) (h4 : b ≤ B) : -(A * B) ≤ a * b ∧ a * b ≤ A * B := by
  have hA : 0 ≤ A := by omega
  have hB : 0 ≤ B := by omega
  rcases Int.le_total 0 a with ha | ha <;> rcases Int.le_total 0 b with hb | hb
  · have p := Int.mul_nonneg ha hb
    have q := Int.mul_le_mul h2 h4 hb hA
    have r := Int.mul_nonneg hA hB
    omega
  · have p := Int.mul_nonneg ha (show 0 ≤ -b by omega)
    have q := Int.mul_le_mul h2 (show -b ≤ B by omega) (show 0 ≤ -b by omega) hA
    have r := Int.mul_nonneg hA hB
    rw [Int.mul_neg] at p q
    omega
  · have p := Int.mul_nonneg (show 0 ≤ -a by omega) hb
    have q := Int.mul_le_mul (show -a ≤ A by omega) h4 hb hA
    have r := Int.mul_nonneg hA hB
    rw [Int.neg_mul] at p q
    omega
  · have p := Int.mul_nonneg (show 0 ≤ -a by omega) (show 0 ≤ -b by omega)
    have q := Int.mul_le_mul (show -a ≤ A by omega) (show -b ≤ B by omega) (show 0 ≤ -b by omega) hA
    have r := Int.mul_nonneg hA hB
    rw [Int.neg_mul_neg] at p q
    omega
def crs (a1 a2 b1 b2 c1 c2 : Int) : Int := (b1 - a1) * (c2 - a2) - (b2 - a2) * (c1 - a1)
theorem crs_bd {a1 a2 b1 b2 c1 c2 : Int} (ha : goodB a1 a2 = true) (hb : goodB b1 b2 = true) (hc : goodB c1 c2 = true) :
    -860160 ≤ (b1 - a1) * (c2 - a2) ∧ (b1 - a1) * (c2 - a2) ≤ 860160 ∧ -860160 ≤ (b2 - a2) * (c1 - a1) ∧ (b2 - a2) * (c1 - a1) ≤ 860160 := by
  rw [goodB_iff] at ha hb hc
  have p := mul_bd (a := b1 - a1) (b := c2 - a2) (A := 1280) (B := 672) (by omega) (by omega) (by omega) (by omega)
  have q := mul_bd (a := b2 - a2) (b := c1 - a1) (A := 672) (B := 1280) (by omega) (by omega) (by omega) (by omega)
  omega
theorem inB_gt {n lo hi : Int} (h : hi < lo) : inB n lo hi = false := by simp [inB]; omega
theorem inB_mm (n a b : Int) : inB n (min a b) (max a b) = (inB n a b || inB n b a) := by
  rw [Bool.eq_iff_iff]; simp [inB]; omega
def onB (a1 a2 b1 b2 c1 c2 : Int) : Bool := crs a1 a2 b1 b2 c1 c2 == 0 && (inB c1 a1 b1 || inB c1 b1 a1) && (inB c2 a2 b2 || inB c2 b2 a2)
def mBetween (a1 a2 b1 b2 c1 c2 : Int) : Bool × Bool := if goodB a1 a2 && goodB b1 b2 && goodB c1 c2 then (onB a1 a2 b1 b2 c1 c2, true) else (false, false)

theorem l1Least_any (a b : Int) (w : World) :
    Calls Tryd.prog 118 #[.int .i64 a, .int .i64 b] w fun e w' => e = .returned (.int .i64 (min a b)) ∧ w = w' := by
  by_cases h : a < b
  · go_enter Tryd.func118, Tryd.ntmps118
    go_wp2
    go_ret
    exact ⟨by rw [Int.min_eq_left (by omega)]; rfl, rfl⟩
  · go_enter Tryd.func118, Tryd.ntmps118
    go_wp2
    go_ret
    exact ⟨by rw [Int.min_eq_right (by omega)]; rfl, rfl⟩

theorem l1Most_any (a b : Int) (w : World) :
    Calls Tryd.prog 89 #[.int .i64 a, .int .i64 b] w fun e w' => e = .returned (.int .i64 (max a b)) ∧ w = w' := by
  by_cases h : a > b
  · go_enter Tryd.func89, Tryd.ntmps89
    go_wp2
    go_ret
    exact ⟨by rw [Int.max_eq_left (by omega)]; rfl, rfl⟩
  · go_enter Tryd.func89, Tryd.ntmps89
    go_wp2
    go_ret
    exact ⟨by rw [Int.max_eq_right (by omega)]; rfl, rfl⟩

theorem quietL {P : Program} {f : FuncId} {args : Array Value} {w : World} {v : Value} (h : Calls P f args w fun e w' => e = .returned v ∧ w = w') : Calls P f args w fun e w' => e = .returned v ∧ w' = w :=
  h.mono fun _ _ ⟨a, b⟩ => ⟨a, b.symm⟩

end Go.Proofs.YtgpjnffomheemaaDoor

