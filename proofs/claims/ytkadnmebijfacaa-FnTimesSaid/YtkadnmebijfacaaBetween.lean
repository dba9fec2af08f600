/- Contracts of BetweenSpots and of the cross product, of the program and of the reference. -/
import Derived.Test.YtkadnmebijfacaaSpot
import Derived.Deep.QuietTactic
import Derived.BigQuiet
namespace Go.Proofs.Ytkadnmebijfacaa
open Go.RowKit
set_option linter.unusedVariables false
set_option linter.unusedSimpArgs false

theorem mul_bd {a b A B : Int} (h1 : -A ≤ a) (h2 : a ≤ A) (h3 : -B ≤ b) (h4 : b ≤ B) : -(A * B) ≤ a * b ∧ a * b ≤ A * B := by
  have hA : 0 ≤ A := by omega
  have hB : 0 ≤ B := by omega
  rcases Int.le_total 0 a with ha | ha <;> rcases Int.le_total 0 b with hb | hb
  · have p := Int.mul_nonneg ha hb
    have q := Int.mul_le_mul h2 h4 hb hA
    have r := Int.mul_nonneg hA hB
    omega
  · have p := Int.mul_nonneg ha (show 0 ≤ -b by omega)
    have q := Int.mul_le_mul h2 (show -b ≤ B by omega) (show 0 ≤ -b by omega) hA
    have r := Int.mul_nonneg hA hB
    rw [Int.mul_neg] at p q
    omega
  · have p := Int.mul_nonneg (show 0 ≤ -a by omega) hb
    have q := Int.mul_le_mul (show -a ≤ A by omega) h4 hb hA
    have r := Int.mul_nonneg hA hB
    rw [Int.neg_mul] at p q
    omega
  · have p := Int.mul_nonneg (show 0 ≤ -a by omega) (show 0 ≤ -b by omega)
    have q := Int.mul_le_mul (show -a ≤ A by omega) (show -b ≤ B by omega) (show 0 ≤ -b by omega) hA
    have r := Int.mul_nonneg hA hB
    rw [Int.neg_mul_neg] at p q
    omega
def crs (a1 a2 b1 b2 c1 c2 : Int) : Int := (b1 - a1) * (c2 - a2) - (b2 - a2) * (c1 - a1)
theorem crs_bd {a1 a2 b1 b2 c1 c2 : Int} (ha : goodB a1 a2 = true) (hb : goodB b1 b2 = true) (hc : goodB c1 c2 = true) :
    -860160 ≤ (b1 - a1) * (c2 - a2) ∧ (b1 - a1) * (c2 - a2) ≤ 860160 ∧ -860160 ≤ (b2 - a2) * (c1 - a1) ∧ (b2 - a2) * (c1 - a1) ≤ 860160 := by
  rw [goodB_iff] at ha hb hc
  have p := mul_bd (a := b1 - a1) (b := c2 - a2) (A := 1280) (B := 672) (by omega) (by omega) (by omega) (by omega)
  have q := mul_bd (a := b2 - a2) (b := c1 - a1) (A := 672) (B := 1280) (by omega) (by omega) (by omega) (by omega)
  omega
theorem inB_gt {n lo hi : Int} (h : hi < lo) : inB n lo hi = false := by simp [inB]; omega
theorem inB_mm (n a b : Int) : inB n (min a b) (max a b) = (inB n a b || inB n b a) := by
  rw [Bool.eq_iff_iff]; simp [inB]; omega
def onB (a1 a2 b1 b2 c1 c2 : Int) : Bool := crs a1 a2 b1 b2 c1 c2 == 0 && (inB c1 a1 b1 || inB c1 b1 a1) && (inB c2 a2 b2 || inB c2 b2 a2)
def mBetween (a1 a2 b1 b2 c1 c2 : Int) : Bool × Bool := if goodB a1 a2 && goodB b1 b2 && goodB c1 c2 then (onB a1 a2 b1 b2 c1 c2, true) else (false, false)

theorem crossOf_any (a1 a2 b1 b2 c1 c2 : Int) (w : World) (ha : goodB a1 a2 = true) (hb : goodB b1 b2 = true) (hc : goodB c1 c2 = true) :
    Calls Try.prog 130 #[.agg #[.int .i64 a1, .int .i64 a2], .agg #[.int .i64 b1, .int .i64 b2], .agg #[.int .i64 c1, .int .i64 c2]] w fun e w' => e = .returned (.int .i64 (crs a1 a2 b1 b2 c1 c2)) ∧ Below w.heap.size w w' := by
  obtain ⟨p1, p2, p3, p4⟩ := crs_bd ha hb hc
  obtain ⟨x1, x2, x3, x4⟩ := (goodB_iff _ _).1 ha
  obtain ⟨y1, y2, y3, y4⟩ := (goodB_iff _ _).1 hb
  obtain ⟨z1, z2, z3, z4⟩ := (goodB_iff _ _).1 hc
  clear ha hb hc
  go_enter Try.func130, Try.ntmps130
  go_wp2
  go_ret
  exact ⟨by simp [crs], (by (first | with_reducible exact Below.refl _ _ | with_reducible assumption | (repeat (with_reducible first | exact Below.refl _ _ | assumption | refine Below.drew ?_ | refine Below.alloc ?_ (by first | omega | (simp <;> omega)) _ | refine Below.setCell ?_ (by first | omega | (simp <;> omega)) _ | refine below_drewN ?_ _))))⟩

theorem l1Least_any (a b : Int) (w : World) :
    Calls Try.prog 104 #[.int .i64 a, .int .i64 b] w fun e w' => e = .returned (.int .i64 (min a b)) ∧ w = w' := by
  by_cases h : a < b
  · go_enter Try.func104, Try.ntmps104
    go_wp2
    go_ret
    exact ⟨by rw [Int.min_eq_left (by omega)]; rfl, rfl⟩
  · go_enter Try.func104, Try.ntmps104
    go_wp2
    go_ret
    exact ⟨by rw [Int.min_eq_right (by omega)]; rfl, rfl⟩

theorem l1Most_any (a b : Int) (w : World) :
    Calls Try.prog 109 #[.int .i64 a, .int .i64 b] w fun e w' => e = .returned (.int .i64 (max a b)) ∧ w = w' := by
  by_cases h : a > b
  · go_enter Try.func109, Try.ntmps109
    go_wp2
    go_ret
    exact ⟨by rw [Int.max_eq_left (by omega)]; rfl, rfl⟩
  · go_enter Try.func109, Try.ntmps109
    go_wp2
    go_ret
    exact ⟨by rw [Int.max_eq_right (by omega)]; rfl, rfl⟩

set_option maxHeartbeats 1000000 in
theorem onWay_any (a1 a2 b1 b2 c1 c2 : Int) (w : World) (ha : goodB a1 a2 = true) (hb : goodB b1 b2 = true) (hc : goodB c1 c2 = true) :
    Calls Try.prog 108 #[.agg #[.int .i64 a1, .int .i64 a2], .agg #[.int .i64 b1, .int .i64 b2], .agg #[.int .i64 c1, .int .i64 c2]] w fun e w' => e = .returned (.bool (onB a1 a2 b1 b2 c1 c2)) ∧ Below w.heap.size w w' := by
  rcases tf (crs a1 a2 b1 b2 c1 c2 == 0) with h1 | h1
  · rcases Int.lt_trichotomy a1 b1 with e | rfl | e <;> rcases Int.lt_trichotomy a2 b2 with f | rfl | f
    all_goals
      go_enter Try.func108, Try.ntmps108
      go_wp2_with (first | (go_at_call 130; refine (crossOf_any _ _ _ _ _ _ _ ha hb hc).mono ?_; rintro e w' ⟨rfl, hb⟩; have hz : w.heap.size ≤ w'.heap.size := (by have := hb.size; first | omega | (simp at this; omega)); have hB : Below w.heap.size w w' := (by refine Below.trans ?_ (hb.mono (by first | omega | (simp <;> omega))); (first | with_reducible exact Below.refl _ _ | with_reducible assumption | (repeat (with_reducible first | exact Below.refl _ _ | assumption | refine Below.drew ?_ | refine Below.alloc ?_ (by first | omega | (simp <;> omega)) _ | refine Below.setCell ?_ (by first | omega | (simp <;> omega)) _ | refine below_drewN ?_ _)))); have hh := Has.below (by (repeat (with_reducible first | assumption | apply Has.alloc5 | apply Has.alloc2 | apply Has.alloc1 | apply Has.alloc3 | apply Has.drew | apply Has.drewN | apply Has.set_ | apply Has.allocx | exact Has.nil _))) hb; (try simp only [World.size_alloc, World.size_setCell, World.size_drew, World.heap_drewN] at hh); have hq := hh; simp only [Has, upd, World.size_alloc, World.size_setCell, World.size_drew, World.heap_drewN, and_true, true_and, ite_true, ite_false, and_self, Nat.add_right_cancel_iff, Nat.add_eq_left, Nat.left_eq_add, reduceCtorEq, Nat.reduceEqDiff, if_true, if_false] at hq; have hs := hb.size; (try simp only [World.size_alloc, World.size_setCell, World.size_drew, World.heap_drewN] at hs); clear hb) | (go_at_call 105; refine (within_any _ _ _ _).mono ?_; rintro e w' ⟨rfl, rfl⟩))
      all_goals
        go_ret
        exact ⟨by simp [onB, h1, inB_gt, *], (by (first | with_reducible exact Below.refl _ _ | with_reducible assumption | (repeat (with_reducible first | exact Below.refl _ _ | assumption | refine Below.drew ?_ | refine Below.alloc ?_ (by first | omega | (simp <;> omega)) _ | refine Below.setCell ?_ (by first | omega | (simp <;> omega)) _ | refine below_drewN ?_ _))))⟩
  · go_enter Try.func108, Try.ntmps108
    go_wp2_with (first | (go_at_call 130; refine (crossOf_any _ _ _ _ _ _ _ ha hb hc).mono ?_; rintro e w' ⟨rfl, hb⟩; have hz : w.heap.size ≤ w'.heap.size := (by have := hb.size; first | omega | (simp at this; omega)); have hB : Below w.heap.size w w' := (by refine Below.trans ?_ (hb.mono (by first | omega | (simp <;> omega))); (first | with_reducible exact Below.refl _ _ | with_reducible assumption | (repeat (with_reducible first | exact Below.refl _ _ | assumption | refine Below.drew ?_ | refine Below.alloc ?_ (by first | omega | (simp <;> omega)) _ | refine Below.setCell ?_ (by first | omega | (simp <;> omega)) _ | refine below_drewN ?_ _)))); have hh := Has.below (by (repeat (with_reducible first | assumption | apply Has.alloc5 | apply Has.alloc2 | apply Has.alloc1 | apply Has.alloc3 | apply Has.drew | apply Has.drewN | apply Has.set_ | apply Has.allocx | exact Has.nil _))) hb; (try simp only [World.size_alloc, World.size_setCell, World.size_drew, World.heap_drewN] at hh); have hq := hh; simp only [Has, upd, World.size_alloc, World.size_setCell, World.size_drew, World.heap_drewN, and_true, true_and, ite_true, ite_false, and_self, Nat.add_right_cancel_iff, Nat.add_eq_left, Nat.left_eq_add, reduceCtorEq, Nat.reduceEqDiff, if_true, if_false] at hq; have hs := hb.size; (try simp only [World.size_alloc, World.size_setCell, World.size_drew, World.heap_drewN] at hs); clear hb) | (go_at_call 105; refine (within_any _ _ _ _).mono ?_; rintro e w' ⟨rfl, rfl⟩))
    go_ret
    exact ⟨by simp [onB, h1], (by (first | with_reducible exact Below.refl _ _ | with_reducible assumption | (repeat (with_reducible first | exact Below.refl _ _ | assumption | refine Below.drew ?_ | refine Below.alloc ?_ (by first | omega | (simp <;> omega)) _ | refine Below.setCell ?_ (by first | omega | (simp <;> omega)) _ | refine below_drewN ?_ _))))⟩

set_option maxHeartbeats 1000000 in
theorem iBetween_any (a1 a2 b1 b2 c1 c2 : Int) (w : World) :
    Calls Try.prog 22 #[.agg #[.int .i64 a1, .int .i64 a2], .agg #[.int .i64 b1, .int .i64 b2], .agg #[.int .i64 c1, .int .i64 c2]] w fun e w' => e = .returned (.tuple #[.bool (mBetween a1 a2 b1 b2 c1 c2).1, .bool (mBetween a1 a2 b1 b2 c1 c2).2]) ∧ Below w.heap.size w w' := by
  rcases tf (goodB a1 a2) with ha | ha
  · rcases tf (goodB b1 b2) with hb | hb
    · rcases tf (goodB c1 c2) with hc | hc
      · go_enter Try.func22, Try.ntmps22
        go_wp2_with (first | (go_at_call 94; refine (iIsSpot_any _ _ _).mono ?_; rintro e w' ⟨rfl, hb⟩; have hz : w.heap.size ≤ w'.heap.size := (by have := hb.size; first | omega | (simp at this; omega)); have hB : Below w.heap.size w w' := (by refine Below.trans ?_ (hb.mono (by first | omega | (simp <;> omega))); (first | with_reducible exact Below.refl _ _ | with_reducible assumption | (repeat (with_reducible first | exact Below.refl _ _ | assumption | refine Below.drew ?_ | refine Below.alloc ?_ (by first | omega | (simp <;> omega)) _ | refine Below.setCell ?_ (by first | omega | (simp <;> omega)) _ | refine below_drewN ?_ _)))); have hh := Has.below (by (repeat (with_reducible first | assumption | apply Has.alloc5 | apply Has.alloc2 | apply Has.alloc1 | apply Has.alloc3 | apply Has.drew | apply Has.drewN | apply Has.set_ | apply Has.allocx | exact Has.nil _))) hb; (try simp only [World.size_alloc, World.size_setCell, World.size_drew, World.heap_drewN] at hh); have hq := hh; simp only [Has, upd, World.size_alloc, World.size_setCell, World.size_drew, World.heap_drewN, and_true, true_and, ite_true, ite_false, and_self, Nat.add_right_cancel_iff, Nat.add_eq_left, Nat.left_eq_add, reduceCtorEq, Nat.reduceEqDiff, if_true, if_false] at hq; have hs := hb.size; (try simp only [World.size_alloc, World.size_setCell, World.size_drew, World.heap_drewN] at hs); clear hb) | (go_at_call 108; refine (onWay_any _ _ _ _ _ _ _ ha hb hc).mono ?_; rintro e w' ⟨rfl, hb⟩; have hz : w.heap.size ≤ w'.heap.size := (by have := hb.size; first | omega | (simp at this; omega)); have hB : Below w.heap.size w w' := (by refine Below.trans ?_ (hb.mono (by first | omega | (simp <;> omega))); (first | with_reducible exact Below.refl _ _ | with_reducible assumption | (repeat (with_reducible first | exact Below.refl _ _ | assumption | refine Below.drew ?_ | refine Below.alloc ?_ (by first | omega | (simp <;> omega)) _ | refine Below.setCell ?_ (by first | omega | (simp <;> omega)) _ | refine below_drewN ?_ _)))); have hh := Has.below (by (repeat (with_reducible first | assumption | apply Has.alloc5 | apply Has.alloc2 | apply Has.alloc1 | apply Has.alloc3 | apply Has.drew | apply Has.drewN | apply Has.set_ | apply Has.allocx | exact Has.nil _))) hb; (try simp only [World.size_alloc, World.size_setCell, World.size_drew, World.heap_drewN] at hh); have hq := hh; simp only [Has, upd, World.size_alloc, World.size_setCell, World.size_drew, World.heap_drewN, and_true, true_and, ite_true, ite_false, and_self, Nat.add_right_cancel_iff, Nat.add_eq_left, Nat.left_eq_add, reduceCtorEq, Nat.reduceEqDiff, if_true, if_false] at hq; have hs := hb.size; (try simp only [World.size_alloc, World.size_setCell, World.size_drew, World.heap_drewN] at hs); clear hb))
        go_ret2
        exact ⟨by simp [mBetween, ha, hb, hc], (by (first | with_reducible exact Below.refl _ _ | with_reducible assumption | (repeat (with_reducible first | exact Below.refl _ _ | assumption | refine Below.drew ?_ | refine Below.alloc ?_ (by first | omega | (simp <;> omega)) _ | refine Below.setCell ?_ (by first | omega | (simp <;> omega)) _ | refine below_drewN ?_ _))))⟩
      · go_enter Try.func22, Try.ntmps22
        go_wp2_with (first | (go_at_call 94; refine (iIsSpot_any _ _ _).mono ?_; rintro e w' ⟨rfl, hb⟩; have hz : w.heap.size ≤ w'.heap.size := (by have := hb.size; first | omega | (simp at this; omega)); have hB : Below w.heap.size w w' := (by refine Below.trans ?_ (hb.mono (by first | omega | (simp <;> omega))); (first | with_reducible exact Below.refl _ _ | with_reducible assumption | (repeat (with_reducible first | exact Below.refl _ _ | assumption | refine Below.drew ?_ | refine Below.alloc ?_ (by first | omega | (simp <;> omega)) _ | refine Below.setCell ?_ (by first | omega | (simp <;> omega)) _ | refine below_drewN ?_ _)))); have hh := Has.below (by (repeat (with_reducible first | assumption | apply Has.alloc5 | apply Has.alloc2 | apply Has.alloc1 | apply Has.alloc3 | apply Has.drew | apply Has.drewN | apply Has.set_ | apply Has.allocx | exact Has.nil _))) hb; (try simp only [World.size_alloc, World.size_setCell, World.size_drew, World.heap_drewN] at hh); have hq := hh; simp only [Has, upd, World.size_alloc, World.size_setCell, World.size_drew, World.heap_drewN, and_true, true_and, ite_true, ite_false, and_self, Nat.add_right_cancel_iff, Nat.add_eq_left, Nat.left_eq_add, reduceCtorEq, Nat.reduceEqDiff, if_true, if_false] at hq; have hs := hb.size; (try simp only [World.size_alloc, World.size_setCell, World.size_drew, World.heap_drewN] at hs); clear hb))
        go_ret2
        exact ⟨by simp [mBetween, ha, hb, hc], (by (first | with_reducible exact Below.refl _ _ | with_reducible assumption | (repeat (with_reducible first | exact Below.refl _ _ | assumption | refine Below.drew ?_ | refine Below.alloc ?_ (by first | omega | (simp <;> omega)) _ | refine Below.setCell ?_ (by first | omega | (simp <;> omega)) _ | refine below_drewN ?_ _))))⟩
    · go_enter Try.func22, Try.ntmps22
      go_wp2_with (first | (go_at_call 94; refine (iIsSpot_any _ _ _).mono ?_; rintro e w' ⟨rfl, hb⟩; have hz : w.heap.size ≤ w'.heap.size := (by have := hb.size; first | omega | (simp at this; omega)); have hB : Below w.heap.size w w' := (by refine Below.trans ?_ (hb.mono (by first | omega | (simp <;> omega))); (first | with_reducible exact Below.refl _ _ | with_reducible assumption | (repeat (with_reducible first | exact Below.refl _ _ | assumption | refine Below.drew ?_ | refine Below.alloc ?_ (by first | omega | (simp <;> omega)) _ | refine Below.setCell ?_ (by first | omega | (simp <;> omega)) _ | refine below_drewN ?_ _)))); have hh := Has.below (by (repeat (with_reducible first | assumption | apply Has.alloc5 | apply Has.alloc2 | apply Has.alloc1 | apply Has.alloc3 | apply Has.drew | apply Has.drewN | apply Has.set_ | apply Has.allocx | exact Has.nil _))) hb; (try simp only [World.size_alloc, World.size_setCell, World.size_drew, World.heap_drewN] at hh); have hq := hh; simp only [Has, upd, World.size_alloc, World.size_setCell, World.size_drew, World.heap_drewN, and_true, true_and, ite_true, ite_false, and_self, Nat.add_right_cancel_iff, Nat.add_eq_left, Nat.left_eq_add, reduceCtorEq, Nat.reduceEqDiff, if_true, if_false] at hq; have hs := hb.size; (try simp only [World.size_alloc, World.size_setCell, World.size_drew, World.heap_drewN] at hs); clear hb))
      go_ret2
      exact ⟨by simp [mBetween, ha, hb], (by (first | with_reducible exact Below.refl _ _ | with_reducible assumption | (repeat (with_reducible first | exact Below.refl _ _ | assumption | refine Below.drew ?_ | refine Below.alloc ?_ (by first | omega | (simp <;> omega)) _ | refine Below.setCell ?_ (by first | omega | (simp <;> omega)) _ | refine below_drewN ?_ _))))⟩
  · go_enter Try.func22, Try.ntmps22
    go_wp2_with (first | (go_at_call 94; refine (iIsSpot_any _ _ _).mono ?_; rintro e w' ⟨rfl, hb⟩; have hz : w.heap.size ≤ w'.heap.size := (by have := hb.size; first | omega | (simp at this; omega)); have hB : Below w.heap.size w w' := (by refine Below.trans ?_ (hb.mono (by first | omega | (simp <;> omega))); (first | with_reducible exact Below.refl _ _ | with_reducible assumption | (repeat (with_reducible first | exact Below.refl _ _ | assumption | refine Below.drew ?_ | refine Below.alloc ?_ (by first | omega | (simp <;> omega)) _ | refine Below.setCell ?_ (by first | omega | (simp <;> omega)) _ | refine below_drewN ?_ _)))); have hh := Has.below (by (repeat (with_reducible first | assumption | apply Has.alloc5 | apply Has.alloc2 | apply Has.alloc1 | apply Has.alloc3 | apply Has.drew | apply Has.drewN | apply Has.set_ | apply Has.allocx | exact Has.nil _))) hb; (try simp only [World.size_alloc, World.size_setCell, World.size_drew, World.heap_drewN] at hh); have hq := hh; simp only [Has, upd, World.size_alloc, World.size_setCell, World.size_drew, World.heap_drewN, and_true, true_and, ite_true, ite_false, and_self, Nat.add_right_cancel_iff, Nat.add_eq_left, Nat.left_eq_add, reduceCtorEq, Nat.reduceEqDiff, if_true, if_false] at hq; have hs := hb.size; (try simp only [World.size_alloc, World.size_setCell, World.size_drew, World.heap_drewN] at hs); clear hb))
    go_ret2
    exact ⟨by simp [mBetween, ha], (by (first | with_reducible exact Below.refl _ _ | with_reducible assumption | (repeat (with_reducible first | exact Below.refl _ _ | assumption | refine Below.drew ?_ | refine Below.alloc ?_ (by first | omega | (simp <;> omega)) _ | refine Below.setCell ?_ (by first | omega | (simp <;> omega)) _ | refine below_drewN ?_ _))))⟩

theorem quietL {P : Program} {f : FuncId} {args : Array Value} {w : World} {v : Value} (h : Calls P f args w fun e w' => e = .returned v ∧ w = w') : Calls P f args w fun e w' => e = .returned v ∧ w' = w :=
  h.mono fun _ _ ⟨a, b⟩ => ⟨a, b.symm⟩

set_option maxHeartbeats 1000000 in
theorem sBetween_any (a1 a2 b1 b2 c1 c2 : Int) (w : World) :
    Calls Try.prog 24 #[.agg #[.int .i64 a1, .int .i64 a2], .agg #[.int .i64 b1, .int .i64 b2], .agg #[.int .i64 c1, .int .i64 c2]] w fun e w' => e = .returned (.tuple #[.bool (mBetween a1 a2 b1 b2 c1 c2).1, .bool (mBetween a1 a2 b1 b2 c1 c2).2]) ∧ Below w.heap.size w w' := by
  rcases tf (goodB a1 a2 && goodB b1 b2) with hab | hab
  · have hab' := hab
    rw [Bool.and_eq_true] at hab'
    obtain ⟨ha, hb⟩ := hab'
    rcases tf (goodB c1 c2) with hc | hc
    · obtain ⟨p1, p2, p3, p4⟩ := crs_bd ha hb hc
      obtain ⟨x1, x2, x3, x4⟩ := (goodB_iff _ _).1 ha
      obtain ⟨y1, y2, y3, y4⟩ := (goodB_iff _ _).1 hb
      obtain ⟨z1, z2, z3, z4⟩ := (goodB_iff _ _).1 hc
      have HM : Hid (mBetween a1 a2 b1 b2 c1 c2 = (onB a1 a2 b1 b2 c1 c2, true)) := by show _ = _; simp [mBetween, ha, hb, hc]
      rcases tf ((b1 - a1) * (c2 - a2) - (b2 - a2) * (c1 - a1) == 0) with h1 | h1
      · rcases tf (inB c1 (min a1 b1) (max a1 b1)) with h2 | h2
        all_goals
          go_enter Try.func24, Try.ntmps24
          go_wp2_with (first | (go_at_call 100; refine (stTwo_any _ _ _ _ _).mono ?_; rintro e w' ⟨rfl, hb⟩; have hz : w.heap.size ≤ w'.heap.size := (by have := hb.size; first | omega | (simp at this; omega)); have hB : Below w.heap.size w w' := (by refine Below.trans ?_ (hb.mono (by first | omega | (simp <;> omega))); (first | with_reducible exact Below.refl _ _ | with_reducible assumption | (repeat (with_reducible first | exact Below.refl _ _ | assumption | refine Below.drew ?_ | refine Below.alloc ?_ (by first | omega | (simp <;> omega)) _ | refine Below.setCell ?_ (by first | omega | (simp <;> omega)) _ | refine below_drewN ?_ _)))); have hh := Has.below (by (repeat (with_reducible first | assumption | apply Has.alloc5 | apply Has.alloc2 | apply Has.alloc1 | apply Has.alloc3 | apply Has.drew | apply Has.drewN | apply Has.set_ | apply Has.allocx | exact Has.nil _))) hb; (try simp only [World.size_alloc, World.size_setCell, World.size_drew, World.heap_drewN] at hh); have hq := hh; simp only [Has, upd, World.size_alloc, World.size_setCell, World.size_drew, World.heap_drewN, and_true, true_and, ite_true, ite_false, and_self, Nat.add_right_cancel_iff, Nat.add_eq_left, Nat.left_eq_add, reduceCtorEq, Nat.reduceEqDiff, if_true, if_false] at hq; have hs := hb.size; (try simp only [World.size_alloc, World.size_setCell, World.size_drew, World.heap_drewN] at hs); clear hb) | (go_at_call 97; refine (stGood_any _ _ _).mono ?_; rintro e w' ⟨rfl, hb⟩; have hz : w.heap.size ≤ w'.heap.size := (by have := hb.size; first | omega | (simp at this; omega)); have hB : Below w.heap.size w w' := (by refine Below.trans ?_ (hb.mono (by first | omega | (simp <;> omega))); (first | with_reducible exact Below.refl _ _ | with_reducible assumption | (repeat (with_reducible first | exact Below.refl _ _ | assumption | refine Below.drew ?_ | refine Below.alloc ?_ (by first | omega | (simp <;> omega)) _ | refine Below.setCell ?_ (by first | omega | (simp <;> omega)) _ | refine below_drewN ?_ _)))); have hh := Has.below (by (repeat (with_reducible first | assumption | apply Has.alloc5 | apply Has.alloc2 | apply Has.alloc1 | apply Has.alloc3 | apply Has.drew | apply Has.drewN | apply Has.set_ | apply Has.allocx | exact Has.nil _))) hb; (try simp only [World.size_alloc, World.size_setCell, World.size_drew, World.heap_drewN] at hh); have hq := hh; simp only [Has, upd, World.size_alloc, World.size_setCell, World.size_drew, World.heap_drewN, and_true, true_and, ite_true, ite_false, and_self, Nat.add_right_cancel_iff, Nat.add_eq_left, Nat.left_eq_add, reduceCtorEq, Nat.reduceEqDiff, if_true, if_false] at hq; have hs := hb.size; (try simp only [World.size_alloc, World.size_setCell, World.size_drew, World.heap_drewN] at hs); clear hb))
          go_quiet (first | ((go_at_call 104; exact Calls.quiet_of_same (quietL (l1Least_any _ _ _)))) | ((go_at_call 109; exact Calls.quiet_of_same (quietL (l1Most_any _ _ _)))) | ((go_at_call 106; exact Calls.quiet_of_same (quietL (l1In_any _ _ _ _)))))
          go_wp2
          go_ret2
          exact ⟨by rw [HM.out]; simp only [inB_mm] at *; simp [onB, crs, h1, h2], (by (first | with_reducible exact Below.refl _ _ | with_reducible assumption | (repeat (with_reducible first | exact Below.refl _ _ | assumption | refine Below.drew ?_ | refine Below.alloc ?_ (by first | omega | (simp <;> omega)) _ | refine Below.setCell ?_ (by first | omega | (simp <;> omega)) _ | refine below_drewN ?_ _))))⟩
      · go_enter Try.func24, Try.ntmps24
        go_wp2_with (first | (go_at_call 100; refine (stTwo_any _ _ _ _ _).mono ?_; rintro e w' ⟨rfl, hb⟩; have hz : w.heap.size ≤ w'.heap.size := (by have := hb.size; first | omega | (simp at this; omega)); have hB : Below w.heap.size w w' := (by refine Below.trans ?_ (hb.mono (by first | omega | (simp <;> omega))); (first | with_reducible exact Below.refl _ _ | with_reducible assumption | (repeat (with_reducible first | exact Below.refl _ _ | assumption | refine Below.drew ?_ | refine Below.alloc ?_ (by first | omega | (simp <;> omega)) _ | refine Below.setCell ?_ (by first | omega | (simp <;> omega)) _ | refine below_drewN ?_ _)))); have hh := Has.below (by (repeat (with_reducible first | assumption | apply Has.alloc5 | apply Has.alloc2 | apply Has.alloc1 | apply Has.alloc3 | apply Has.drew | apply Has.drewN | apply Has.set_ | apply Has.allocx | exact Has.nil _))) hb; (try simp only [World.size_alloc, World.size_setCell, World.size_drew, World.heap_drewN] at hh); have hq := hh; simp only [Has, upd, World.size_alloc, World.size_setCell, World.size_drew, World.heap_drewN, and_true, true_and, ite_true, ite_false, and_self, Nat.add_right_cancel_iff, Nat.add_eq_left, Nat.left_eq_add, reduceCtorEq, Nat.reduceEqDiff, if_true, if_false] at hq; have hs := hb.size; (try simp only [World.size_alloc, World.size_setCell, World.size_drew, World.heap_drewN] at hs); clear hb) | (go_at_call 97; refine (stGood_any _ _ _).mono ?_; rintro e w' ⟨rfl, hb⟩; have hz : w.heap.size ≤ w'.heap.size := (by have := hb.size; first | omega | (simp at this; omega)); have hB : Below w.heap.size w w' := (by refine Below.trans ?_ (hb.mono (by first | omega | (simp <;> omega))); (first | with_reducible exact Below.refl _ _ | with_reducible assumption | (repeat (with_reducible first | exact Below.refl _ _ | assumption | refine Below.drew ?_ | refine Below.alloc ?_ (by first | omega | (simp <;> omega)) _ | refine Below.setCell ?_ (by first | omega | (simp <;> omega)) _ | refine below_drewN ?_ _)))); have hh := Has.below (by (repeat (with_reducible first | assumption | apply Has.alloc5 | apply Has.alloc2 | apply Has.alloc1 | apply Has.alloc3 | apply Has.drew | apply Has.drewN | apply Has.set_ | apply Has.allocx | exact Has.nil _))) hb; (try simp only [World.size_alloc, World.size_setCell, World.size_drew, World.heap_drewN] at hh); have hq := hh; simp only [Has, upd, World.size_alloc, World.size_setCell, World.size_drew, World.heap_drewN, and_true, true_and, ite_true, ite_false, and_self, Nat.add_right_cancel_iff, Nat.add_eq_left, Nat.left_eq_add, reduceCtorEq, Nat.reduceEqDiff, if_true, if_false] at hq; have hs := hb.size; (try simp only [World.size_alloc, World.size_setCell, World.size_drew, World.heap_drewN] at hs); clear hb))
        go_quiet (fail)
        go_wp2
        go_ret2
        exact ⟨by rw [HM.out]; simp [onB, crs, h1], (by (first | with_reducible exact Below.refl _ _ | with_reducible assumption | (repeat (with_reducible first | exact Below.refl _ _ | assumption | refine Below.drew ?_ | refine Below.alloc ?_ (by first | omega | (simp <;> omega)) _ | refine Below.setCell ?_ (by first | omega | (simp <;> omega)) _ | refine below_drewN ?_ _))))⟩
    · go_enter Try.func24, Try.ntmps24
      go_wp2_with (first | (go_at_call 100; refine (stTwo_any _ _ _ _ _).mono ?_; rintro e w' ⟨rfl, hb⟩; have hz : w.heap.size ≤ w'.heap.size := (by have := hb.size; first | omega | (simp at this; omega)); have hB : Below w.heap.size w w' := (by refine Below.trans ?_ (hb.mono (by first | omega | (simp <;> omega))); (first | with_reducible exact Below.refl _ _ | with_reducible assumption | (repeat (with_reducible first | exact Below.refl _ _ | assumption | refine Below.drew ?_ | refine Below.alloc ?_ (by first | omega | (simp <;> omega)) _ | refine Below.setCell ?_ (by first | omega | (simp <;> omega)) _ | refine below_drewN ?_ _)))); have hh := Has.below (by (repeat (with_reducible first | assumption | apply Has.alloc5 | apply Has.alloc2 | apply Has.alloc1 | apply Has.alloc3 | apply Has.drew | apply Has.drewN | apply Has.set_ | apply Has.allocx | exact Has.nil _))) hb; (try simp only [World.size_alloc, World.size_setCell, World.size_drew, World.heap_drewN] at hh); have hq := hh; simp only [Has, upd, World.size_alloc, World.size_setCell, World.size_drew, World.heap_drewN, and_true, true_and, ite_true, ite_false, and_self, Nat.add_right_cancel_iff, Nat.add_eq_left, Nat.left_eq_add, reduceCtorEq, Nat.reduceEqDiff, if_true, if_false] at hq; have hs := hb.size; (try simp only [World.size_alloc, World.size_setCell, World.size_drew, World.heap_drewN] at hs); clear hb) | (go_at_call 97; refine (stGood_any _ _ _).mono ?_; rintro e w' ⟨rfl, hb⟩; have hz : w.heap.size ≤ w'.heap.size := (by have := hb.size; first | omega | (simp at this; omega)); have hB : Below w.heap.size w w' := (by refine Below.trans ?_ (hb.mono (by first | omega | (simp <;> omega))); (first | with_reducible exact Below.refl _ _ | with_reducible assumption | (repeat (with_reducible first | exact Below.refl _ _ | assumption | refine Below.drew ?_ | refine Below.alloc ?_ (by first | omega | (simp <;> omega)) _ | refine Below.setCell ?_ (by first | omega | (simp <;> omega)) _ | refine below_drewN ?_ _)))); have hh := Has.below (by (repeat (with_reducible first | assumption | apply Has.alloc5 | apply Has.alloc2 | apply Has.alloc1 | apply Has.alloc3 | apply Has.drew | apply Has.drewN | apply Has.set_ | apply Has.allocx | exact Has.nil _))) hb; (try simp only [World.size_alloc, World.size_setCell, World.size_drew, World.heap_drewN] at hh); have hq := hh; simp only [Has, upd, World.size_alloc, World.size_setCell, World.size_drew, World.heap_drewN, and_true, true_and, ite_true, ite_false, and_self, Nat.add_right_cancel_iff, Nat.add_eq_left, Nat.left_eq_add, reduceCtorEq, Nat.reduceEqDiff, if_true, if_false] at hq; have hs := hb.size; (try simp only [World.size_alloc, World.size_setCell, World.size_drew, World.heap_drewN] at hs); clear hb))
      go_ret2
      exact ⟨by simp [mBetween, hc], (by (first | with_reducible exact Below.refl _ _ | with_reducible assumption | (repeat (with_reducible first | exact Below.refl _ _ | assumption | refine Below.drew ?_ | refine Below.alloc ?_ (by first | omega | (simp <;> omega)) _ | refine Below.setCell ?_ (by first | omega | (simp <;> omega)) _ | refine below_drewN ?_ _))))⟩
  · go_enter Try.func24, Try.ntmps24
    go_wp2_with (first | (go_at_call 100; refine (stTwo_any _ _ _ _ _).mono ?_; rintro e w' ⟨rfl, hb⟩; have hz : w.heap.size ≤ w'.heap.size := (by have := hb.size; first | omega | (simp at this; omega)); have hB : Below w.heap.size w w' := (by refine Below.trans ?_ (hb.mono (by first | omega | (simp <;> omega))); (first | with_reducible exact Below.refl _ _ | with_reducible assumption | (repeat (with_reducible first | exact Below.refl _ _ | assumption | refine Below.drew ?_ | refine Below.alloc ?_ (by first | omega | (simp <;> omega)) _ | refine Below.setCell ?_ (by first | omega | (simp <;> omega)) _ | refine below_drewN ?_ _)))); have hh := Has.below (by (repeat (with_reducible first | assumption | apply Has.alloc5 | apply Has.alloc2 | apply Has.alloc1 | apply Has.alloc3 | apply Has.drew | apply Has.drewN | apply Has.set_ | apply Has.allocx | exact Has.nil _))) hb; (try simp only [World.size_alloc, World.size_setCell, World.size_drew, World.heap_drewN] at hh); have hq := hh; simp only [Has, upd, World.size_alloc, World.size_setCell, World.size_drew, World.heap_drewN, and_true, true_and, ite_true, ite_false, and_self, Nat.add_right_cancel_iff, Nat.add_eq_left, Nat.left_eq_add, reduceCtorEq, Nat.reduceEqDiff, if_true, if_false] at hq; have hs := hb.size; (try simp only [World.size_alloc, World.size_setCell, World.size_drew, World.heap_drewN] at hs); clear hb))
    go_ret2
    exact ⟨by simp [mBetween, hab], (by (first | with_reducible exact Below.refl _ _ | with_reducible assumption | (repeat (with_reducible first | exact Below.refl _ _ | assumption | refine Below.drew ?_ | refine Below.alloc ?_ (by first | omega | (simp <;> omega)) _ | refine Below.setCell ?_ (by first | omega | (simp <;> omega)) _ | refine below_drewN ?_ _))))⟩

end Go.Proofs.Ytkadnmebijfacaa

