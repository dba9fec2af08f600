/- Contracts of the places of a move, of the program and of the reference. -/
import Derived.Test.YtgpjnffomheemaaDoorMove
import Derived.Test.YtgpjnffomheemaaDoorGcd
import Derived.Test.YtgpjnffomheemaaDoorBetween
import Derived.Deep.RegionHeld3
import Derived.Deep.DeepCutAuto
namespace Go.Proofs.YtgpjnffomheemaaDoor
open Go.RowKit
set_option linter.unusedVariables false
set_option linter.unusedSimpArgs false
set_option maxRecDepth 100000

def plc (x u k n : Int) : Int := x * k + n * (u - x)
theorem plc_eq (x u k n : Int) : plc x u k n = x * (k - n) + n * u := by
  unfold plc; rw [Int.mul_sub, Int.mul_sub, Int.mul_comm n x]; omega
theorem plc_bd {x u k n : Int} (hx0 : 0 ≤ x) (hx : x ≤ 1280) (hu0 : 0 ≤ u) (hu : u ≤ 1280) (hk : 1 ≤ k) (hk2 : k ≤ 64) (hn0 : 0 ≤ n) (hn : n ≤ k) :
    0 ≤ x * k ∧ x * k ≤ 81920 ∧ -81920 ≤ n * (u - x) ∧ n * (u - x) ≤ 81920 ∧ 0 ≤ x * k + n * (u - x) ∧ x * k + n * (u - x) ≤ 163840 := by
  have e := plc_eq x u k n
  have a1 := mul_bd (a := x) (b := k) (A := 1280) (B := 64) (by omega) (by omega) (by omega) (by omega)
  have a2 := mul_bd (a := n) (b := u - x) (A := 64) (B := 1280) (by omega) (by omega) (by omega) (by omega)
  have a3 : 0 ≤ x * k := Int.mul_nonneg (by omega) (by omega)
  have a4 : 0 ≤ x * (k - n) := Int.mul_nonneg (by omega) (by omega)
  have a5 : 0 ≤ n * u := Int.mul_nonneg (by omega) (by omega)
  unfold plc at e
  omega
def mPlaceAt (a b c d k n : Int) : Int × Int × Bool := if goodM a b c d k && inB n 0 k then (plc a c k n, plc b d k n, true) else (0, 0, false)

set_option maxHeartbeats 1000000 in
theorem placeAt_any (a b c d k n : Int) (w : World) (hg : goodM a b c d k = true) (hn0 : 0 ≤ n) (hn : n ≤ k) :
    Calls Tryd.prog 82 #[.agg #[.int .i64 a, .int .i64 b, .int .i64 c, .int .i64 d, .int .i64 k], .int .i64 n] w fun e w' => e = .returned (.tuple #[.int .i64 (plc a c k n), .int .i64 (plc b d k n)]) ∧ Below w.heap.size w w' := by
  obtain ⟨g1, g2, k1, k2⟩ := (goodM_iff _ _ _ _ _).1 hg
  obtain ⟨p1, p2, p3, p4⟩ := (goodB_iff _ _).1 g1
  obtain ⟨q1, q2, q3, q4⟩ := (goodB_iff _ _).1 g2
  obtain ⟨x1, x2, x3, x4, x5, x6⟩ := plc_bd p1 p2 q1 q2 k1 k2 hn0 hn
  obtain ⟨y1, y2, y3, y4, y5, y6⟩ := plc_bd (x := b) (u := d) p3 (by omega) q3 (by omega) k1 k2 hn0 hn
  clear hg g1 g2
  go_enter Tryd.func82, Tryd.ntmps82
  go_wp2
  go_quiet (fail)
  go_wp2
  go_ret2
  exact ⟨by simp [plc, IntWalk.i64_in, *], (by (first | with_reducible exact Below.refl _ _ | with_reducible assumption | (repeat (with_reducible first | exact Below.refl _ _ | assumption | refine Below.drew ?_ | refine Below.alloc ?_ (by first | omega | (simp <;> omega)) _ | refine Below.setCell ?_ (by first | omega | (simp <;> omega)) _ | refine below_drewN ?_ _))))⟩

set_option maxHeartbeats 1000000 in
theorem mvAt_any (a b c d k n : Int) (w : World) (hg : goodM a b c d k = true) (hn0 : 0 ≤ n) (hn : n ≤ k) :
    Calls Tryd.prog 91 #[.agg #[.int .i64 a, .int .i64 b, .int .i64 c, .int .i64 d, .int .i64 k], .int .i64 n] w fun e w' => e = .returned (.tuple #[.int .i64 (plc a c k n), .int .i64 (plc b d k n)]) ∧ Below w.heap.size w w' := by
  obtain ⟨g1, g2, k1, k2⟩ := (goodM_iff _ _ _ _ _).1 hg
  obtain ⟨p1, p2, p3, p4⟩ := (goodB_iff _ _).1 g1
  obtain ⟨q1, q2, q3, q4⟩ := (goodB_iff _ _).1 g2
  obtain ⟨x1, x2, x3, x4, x5, x6⟩ := plc_bd p1 p2 q1 q2 k1 k2 hn0 hn
  obtain ⟨y1, y2, y3, y4, y5, y6⟩ := plc_bd (x := b) (u := d) p3 (by omega) q3 (by omega) k1 k2 hn0 hn
  clear hg g1 g2
  have cx : (c - a) * n = n * (c - a) := Int.mul_comm _ _
  have cy : (d - b) * n = n * (d - b) := Int.mul_comm _ _
  rw [← cx] at x3 x4 x5 x6
  rw [← cy] at y3 y4 y5 y6
  have CX := Lib.hid cx
  have CY := Lib.hid cy
  clear cx cy
  go_enter Tryd.func91, Tryd.ntmps91
  go_wp2
  go_quiet (fail)
  go_wp2
  go_ret2
  exact ⟨by simp [plc, IntWalk.i64_in, ← CX.out, ← CY.out, *], (by (first | with_reducible exact Below.refl _ _ | with_reducible assumption | (repeat (with_reducible first | exact Below.refl _ _ | assumption | refine Below.drew ?_ | refine Below.alloc ?_ (by first | omega | (simp <;> omega)) _ | refine Below.setCell ?_ (by first | omega | (simp <;> omega)) _ | refine below_drewN ?_ _))))⟩

set_option maxHeartbeats 1000000 in
theorem iPlaceAt_any (a b c d k n : Int) (w : World) :
    Calls Tryd.prog 29 #[.agg #[.int .i64 a, .int .i64 b, .int .i64 c, .int .i64 d, .int .i64 k], .int .i64 n] w fun e w' => e = .returned (.tuple #[.int .i64 (mPlaceAt a b c d k n).1, .int .i64 (mPlaceAt a b c d k n).2.1, .bool (mPlaceAt a b c d k n).2.2]) ∧ Below w.heap.size w w' := by
  rcases tf (goodM a b c d k) with h1 | h1
  · rcases tf (inB n 0 k) with h2 | h2
    · obtain ⟨n1, n2⟩ := (inB_iff _ _ _).1 h2
      go_enter Tryd.func29, Tryd.ntmps29
      go_wp2_with (first | (go_at_call 27; refine (iIsMove_any _ _ _ _ _ _).mono ?_; rintro e w' ⟨rfl, hb⟩; have hz : w.heap.size + 1 ≤ w'.heap.size := (by have := hb.size; first | omega | (simp at this; omega)); have hB : Below w.heap.size w w' := (by refine Below.trans ?_ (hb.mono (by first | omega | (simp <;> omega))); (first | with_reducible exact Below.refl _ _ | with_reducible assumption | (repeat (with_reducible first | exact Below.refl _ _ | assumption | refine Below.drew ?_ | refine Below.alloc ?_ (by first | omega | (simp <;> omega)) _ | refine Below.setCell ?_ (by first | omega | (simp <;> omega)) _ | refine below_drewN ?_ _)))); have hh := Has.below (by (repeat (with_reducible first | assumption | apply Has.alloc5 | apply Has.alloc2 | apply Has.alloc1 | apply Has.alloc3 | apply Has.drew | apply Has.drewN | apply Has.set_ | apply Has.allocx | exact Has.nil _))) hb; (try simp only [World.size_alloc, World.size_setCell, World.size_drew, World.heap_drewN] at hh); have hq := hh; simp only [Has, upd, World.size_alloc, World.size_setCell, World.size_drew, World.heap_drewN, and_true, true_and, ite_true, ite_false, and_self, Nat.add_right_cancel_iff, Nat.add_eq_left, Nat.left_eq_add, reduceCtorEq, Nat.reduceEqDiff, if_true, if_false] at hq; have hs := hb.size; (try simp only [World.size_alloc, World.size_setCell, World.size_drew, World.heap_drewN] at hs); have hn0 : w.heap.size ≠ w'.heap.size := (by omega); have hm0 : w'.heap.size ≠ w.heap.size := (by omega); clear hb) | (go_at_call 60; refine (within_any _ _ _ _).mono ?_; rintro e w' ⟨rfl, rfl⟩) | (go_at_call 82; refine (placeAt_any _ _ _ _ _ _ _ h1 n1 n2).mono ?_; rintro e w' ⟨rfl, hb⟩; have hz : w.heap.size + 1 ≤ w'.heap.size := (by have := hb.size; first | omega | (simp at this; omega)); have hB : Below w.heap.size w w' := (by refine Below.trans ?_ (hb.mono (by first | omega | (simp <;> omega))); (first | with_reducible exact Below.refl _ _ | with_reducible assumption | (repeat (with_reducible first | exact Below.refl _ _ | assumption | refine Below.drew ?_ | refine Below.alloc ?_ (by first | omega | (simp <;> omega)) _ | refine Below.setCell ?_ (by first | omega | (simp <;> omega)) _ | refine below_drewN ?_ _)))); have hh := Has.below (by (repeat (with_reducible first | assumption | apply Has.alloc5 | apply Has.alloc2 | apply Has.alloc1 | apply Has.alloc3 | apply Has.drew | apply Has.drewN | apply Has.set_ | apply Has.allocx | exact Has.nil _))) hb; (try simp only [World.size_alloc, World.size_setCell, World.size_drew, World.heap_drewN] at hh); have hq := hh; simp only [Has, upd, World.size_alloc, World.size_setCell, World.size_drew, World.heap_drewN, and_true, true_and, ite_true, ite_false, and_self, Nat.add_right_cancel_iff, Nat.add_eq_left, Nat.left_eq_add, reduceCtorEq, Nat.reduceEqDiff, if_true, if_false] at hq; have hs := hb.size; (try simp only [World.size_alloc, World.size_setCell, World.size_drew, World.heap_drewN] at hs); have hn0 : w.heap.size ≠ w'.heap.size := (by omega); have hm0 : w'.heap.size ≠ w.heap.size := (by omega); clear hb))
      go_ret3
      exact ⟨by simp [mPlaceAt, h1, h2], (by (first | with_reducible exact Below.refl _ _ | with_reducible assumption | (repeat (with_reducible first | exact Below.refl _ _ | assumption | refine Below.drew ?_ | refine Below.alloc ?_ (by first | omega | (simp <;> omega)) _ | refine Below.setCell ?_ (by first | omega | (simp <;> omega)) _ | refine below_drewN ?_ _))))⟩
    · go_enter Tryd.func29, Tryd.ntmps29
      go_wp2_with (first | (go_at_call 27; refine (iIsMove_any _ _ _ _ _ _).mono ?_; rintro e w' ⟨rfl, hb⟩; have hz : w.heap.size + 1 ≤ w'.heap.size := (by have := hb.size; first | omega | (simp at this; omega)); have hB : Below w.heap.size w w' := (by refine Below.trans ?_ (hb.mono (by first | omega | (simp <;> omega))); (first | with_reducible exact Below.refl _ _ | with_reducible assumption | (repeat (with_reducible first | exact Below.refl _ _ | assumption | refine Below.drew ?_ | refine Below.alloc ?_ (by first | omega | (simp <;> omega)) _ | refine Below.setCell ?_ (by first | omega | (simp <;> omega)) _ | refine below_drewN ?_ _)))); have hh := Has.below (by (repeat (with_reducible first | assumption | apply Has.alloc5 | apply Has.alloc2 | apply Has.alloc1 | apply Has.alloc3 | apply Has.drew | apply Has.drewN | apply Has.set_ | apply Has.allocx | exact Has.nil _))) hb; (try simp only [World.size_alloc, World.size_setCell, World.size_drew, World.heap_drewN] at hh); have hq := hh; simp only [Has, upd, World.size_alloc, World.size_setCell, World.size_drew, World.heap_drewN, and_true, true_and, ite_true, ite_false, and_self, Nat.add_right_cancel_iff, Nat.add_eq_left, Nat.left_eq_add, reduceCtorEq, Nat.reduceEqDiff, if_true, if_false] at hq; have hs := hb.size; (try simp only [World.size_alloc, World.size_setCell, World.size_drew, World.heap_drewN] at hs); have hn0 : w.heap.size ≠ w'.heap.size := (by omega); have hm0 : w'.heap.size ≠ w.heap.size := (by omega); clear hb) | (go_at_call 60; refine (within_any _ _ _ _).mono ?_; rintro e w' ⟨rfl, rfl⟩))
      go_ret3
      exact ⟨by simp [mPlaceAt, h2], (by (first | with_reducible exact Below.refl _ _ | with_reducible assumption | (repeat (with_reducible first | exact Below.refl _ _ | assumption | refine Below.drew ?_ | refine Below.alloc ?_ (by first | omega | (simp <;> omega)) _ | refine Below.setCell ?_ (by first | omega | (simp <;> omega)) _ | refine below_drewN ?_ _))))⟩
  · go_enter Tryd.func29, Tryd.ntmps29
    go_wp2_with (first | (go_at_call 27; refine (iIsMove_any _ _ _ _ _ _).mono ?_; rintro e w' ⟨rfl, hb⟩; have hz : w.heap.size + 1 ≤ w'.heap.size := (by have := hb.size; first | omega | (simp at this; omega)); have hB : Below w.heap.size w w' := (by refine Below.trans ?_ (hb.mono (by first | omega | (simp <;> omega))); (first | with_reducible exact Below.refl _ _ | with_reducible assumption | (repeat (with_reducible first | exact Below.refl _ _ | assumption | refine Below.drew ?_ | refine Below.alloc ?_ (by first | omega | (simp <;> omega)) _ | refine Below.setCell ?_ (by first | omega | (simp <;> omega)) _ | refine below_drewN ?_ _)))); have hh := Has.below (by (repeat (with_reducible first | assumption | apply Has.alloc5 | apply Has.alloc2 | apply Has.alloc1 | apply Has.alloc3 | apply Has.drew | apply Has.drewN | apply Has.set_ | apply Has.allocx | exact Has.nil _))) hb; (try simp only [World.size_alloc, World.size_setCell, World.size_drew, World.heap_drewN] at hh); have hq := hh; simp only [Has, upd, World.size_alloc, World.size_setCell, World.size_drew, World.heap_drewN, and_true, true_and, ite_true, ite_false, and_self, Nat.add_right_cancel_iff, Nat.add_eq_left, Nat.left_eq_add, reduceCtorEq, Nat.reduceEqDiff, if_true, if_false] at hq; have hs := hb.size; (try simp only [World.size_alloc, World.size_setCell, World.size_drew, World.heap_drewN] at hs); have hn0 : w.heap.size ≠ w'.heap.size := (by omega); have hm0 : w'.heap.size ≠ w.heap.size := (by omega); clear hb) | (go_at_call 60; refine (within_any _ _ _ _).mono ?_; rintro e w' ⟨rfl, rfl⟩))
    go_ret3
    exact ⟨by simp [mPlaceAt, h1], (by (first | with_reducible exact Below.refl _ _ | with_reducible assumption | (repeat (with_reducible first | exact Below.refl _ _ | assumption | refine Below.drew ?_ | refine Below.alloc ?_ (by first | omega | (simp <;> omega)) _ | refine Below.setCell ?_ (by first | omega | (simp <;> omega)) _ | refine below_drewN ?_ _))))⟩

theorem mvHas_any (a b c d k n : Int) (w : World) :
    Calls Tryd.prog 90 #[.agg #[.int .i64 a, .int .i64 b, .int .i64 c, .int .i64 d, .int .i64 k], .int .i64 n] w fun e w' => e = .returned (.bool (goodM a b c d k && inB n 0 k)) ∧ Below w.heap.size w w' := by
  rcases tf (goodM a b c d k) with h | h
  all_goals
    go_enter Tryd.func90, Tryd.ntmps90
    go_wp2_with (first | (go_at_call 75; refine (mvGood_any _ _ _ _ _ _).mono ?_; rintro e w' ⟨rfl, hb⟩; have hz : w.heap.size + 1 ≤ w'.heap.size := (by have := hb.size; first | omega | (simp at this; omega)); have hB : Below w.heap.size w w' := (by refine Below.trans ?_ (hb.mono (by first | omega | (simp <;> omega))); (first | with_reducible exact Below.refl _ _ | with_reducible assumption | (repeat (with_reducible first | exact Below.refl _ _ | assumption | refine Below.drew ?_ | refine Below.alloc ?_ (by first | omega | (simp <;> omega)) _ | refine Below.setCell ?_ (by first | omega | (simp <;> omega)) _ | refine below_drewN ?_ _)))); have hh := Has.below (by (repeat (with_reducible first | assumption | apply Has.alloc5 | apply Has.alloc2 | apply Has.alloc1 | apply Has.alloc3 | apply Has.drew | apply Has.drewN | apply Has.set_ | apply Has.allocx | exact Has.nil _))) hb; (try simp only [World.size_alloc, World.size_setCell, World.size_drew, World.heap_drewN] at hh); have hq := hh; simp only [Has, upd, World.size_alloc, World.size_setCell, World.size_drew, World.heap_drewN, and_true, true_and, ite_true, ite_false, and_self, Nat.add_right_cancel_iff, Nat.add_eq_left, Nat.left_eq_add, reduceCtorEq, Nat.reduceEqDiff, if_true, if_false] at hq; have hs := hb.size; (try simp only [World.size_alloc, World.size_setCell, World.size_drew, World.heap_drewN] at hs); have hn0 : w.heap.size ≠ w'.heap.size := (by omega); have hm0 : w'.heap.size ≠ w.heap.size := (by omega); clear hb) | (go_at_call 67; refine (l1In_any _ _ _ _).mono ?_; rintro e w' ⟨rfl, rfl⟩))
    go_ret
    exact ⟨by simp [h], (by (first | with_reducible exact Below.refl _ _ | with_reducible assumption | (repeat (with_reducible first | exact Below.refl _ _ | assumption | refine Below.drew ?_ | refine Below.alloc ?_ (by first | omega | (simp <;> omega)) _ | refine Below.setCell ?_ (by first | omega | (simp <;> omega)) _ | refine below_drewN ?_ _))))⟩

set_option maxHeartbeats 1000000 in
theorem sPlaceAt_any (a b c d k n : Int) (w : World) :
    Calls Tryd.prog 35 #[.agg #[.int .i64 a, .int .i64 b, .int .i64 c, .int .i64 d, .int .i64 k], .int .i64 n] w fun e w' => e = .returned (.tuple #[.int .i64 (mPlaceAt a b c d k n).1, .int .i64 (mPlaceAt a b c d k n).2.1, .bool (mPlaceAt a b c d k n).2.2]) ∧ Below w.heap.size w w' := by
  rcases tf (goodM a b c d k && inB n 0 k) with h | h
  · have h' := h
    rw [Bool.and_eq_true] at h'
    obtain ⟨h1, h2⟩ := h'
    obtain ⟨n1, n2⟩ := (inB_iff _ _ _).1 h2
    go_enter Tryd.func35, Tryd.ntmps35
    go_wp2_with (first | (go_at_call 90; refine (mvHas_any _ _ _ _ _ _ _).mono ?_; rintro e w' ⟨rfl, hb⟩; have hz : w.heap.size + 1 ≤ w'.heap.size := (by have := hb.size; first | omega | (simp at this; omega)); have hB : Below w.heap.size w w' := (by refine Below.trans ?_ (hb.mono (by first | omega | (simp <;> omega))); (first | with_reducible exact Below.refl _ _ | with_reducible assumption | (repeat (with_reducible first | exact Below.refl _ _ | assumption | refine Below.drew ?_ | refine Below.alloc ?_ (by first | omega | (simp <;> omega)) _ | refine Below.setCell ?_ (by first | omega | (simp <;> omega)) _ | refine below_drewN ?_ _)))); have hh := Has.below (by (repeat (with_reducible first | assumption | apply Has.alloc5 | apply Has.alloc2 | apply Has.alloc1 | apply Has.alloc3 | apply Has.drew | apply Has.drewN | apply Has.set_ | apply Has.allocx | exact Has.nil _))) hb; (try simp only [World.size_alloc, World.size_setCell, World.size_drew, World.heap_drewN] at hh); have hq := hh; simp only [Has, upd, World.size_alloc, World.size_setCell, World.size_drew, World.heap_drewN, and_true, true_and, ite_true, ite_false, and_self, Nat.add_right_cancel_iff, Nat.add_eq_left, Nat.left_eq_add, reduceCtorEq, Nat.reduceEqDiff, if_true, if_false] at hq; have hs := hb.size; (try simp only [World.size_alloc, World.size_setCell, World.size_drew, World.heap_drewN] at hs); have hn0 : w.heap.size ≠ w'.heap.size := (by omega); have hm0 : w'.heap.size ≠ w.heap.size := (by omega); clear hb) | (go_at_call 91; refine (mvAt_any _ _ _ _ _ _ _ h1 n1 n2).mono ?_; rintro e w' ⟨rfl, hb⟩; have hz : w.heap.size + 1 ≤ w'.heap.size := (by have := hb.size; first | omega | (simp at this; omega)); have hB : Below w.heap.size w w' := (by refine Below.trans ?_ (hb.mono (by first | omega | (simp <;> omega))); (first | with_reducible exact Below.refl _ _ | with_reducible assumption | (repeat (with_reducible first | exact Below.refl _ _ | assumption | refine Below.drew ?_ | refine Below.alloc ?_ (by first | omega | (simp <;> omega)) _ | refine Below.setCell ?_ (by first | omega | (simp <;> omega)) _ | refine below_drewN ?_ _)))); have hh := Has.below (by (repeat (with_reducible first | assumption | apply Has.alloc5 | apply Has.alloc2 | apply Has.alloc1 | apply Has.alloc3 | apply Has.drew | apply Has.drewN | apply Has.set_ | apply Has.allocx | exact Has.nil _))) hb; (try simp only [World.size_alloc, World.size_setCell, World.size_drew, World.heap_drewN] at hh); have hq := hh; simp only [Has, upd, World.size_alloc, World.size_setCell, World.size_drew, World.heap_drewN, and_true, true_and, ite_true, ite_false, and_self, Nat.add_right_cancel_iff, Nat.add_eq_left, Nat.left_eq_add, reduceCtorEq, Nat.reduceEqDiff, if_true, if_false] at hq; have hs := hb.size; (try simp only [World.size_alloc, World.size_setCell, World.size_drew, World.heap_drewN] at hs); have hn0 : w.heap.size ≠ w'.heap.size := (by omega); have hm0 : w'.heap.size ≠ w.heap.size := (by omega); clear hb))
    go_ret3
    exact ⟨by simp [mPlaceAt, h1, h2], (by (first | with_reducible exact Below.refl _ _ | with_reducible assumption | (repeat (with_reducible first | exact Below.refl _ _ | assumption | refine Below.drew ?_ | refine Below.alloc ?_ (by first | omega | (simp <;> omega)) _ | refine Below.setCell ?_ (by first | omega | (simp <;> omega)) _ | refine below_drewN ?_ _))))⟩
  · go_enter Tryd.func35, Tryd.ntmps35
    go_wp2_with (first | (go_at_call 90; refine (mvHas_any _ _ _ _ _ _ _).mono ?_; rintro e w' ⟨rfl, hb⟩; have hz : w.heap.size + 1 ≤ w'.heap.size := (by have := hb.size; first | omega | (simp at this; omega)); have hB : Below w.heap.size w w' := (by refine Below.trans ?_ (hb.mono (by first | omega | (simp <;> omega))); (first | with_reducible exact Below.refl _ _ | with_reducible assumption | (repeat (with_reducible first | exact Below.refl _ _ | assumption | refine Below.drew ?_ | refine Below.alloc ?_ (by first | omega | (simp <;> omega)) _ | refine Below.setCell ?_ (by first | omega | (simp <;> omega)) _ | refine below_drewN ?_ _)))); have hh := Has.below (by (repeat (with_reducible first | assumption | apply Has.alloc5 | apply Has.alloc2 | apply Has.alloc1 | apply Has.alloc3 | apply Has.drew | apply Has.drewN | apply Has.set_ | apply Has.allocx | exact Has.nil _))) hb; (try simp only [World.size_alloc, World.size_setCell, World.size_drew, World.heap_drewN] at hh); have hq := hh; simp only [Has, upd, World.size_alloc, World.size_setCell, World.size_drew, World.heap_drewN, and_true, true_and, ite_true, ite_false, and_self, Nat.add_right_cancel_iff, Nat.add_eq_left, Nat.left_eq_add, reduceCtorEq, Nat.reduceEqDiff, if_true, if_false] at hq; have hs := hb.size; (try simp only [World.size_alloc, World.size_setCell, World.size_drew, World.heap_drewN] at hs); have hn0 : w.heap.size ≠ w'.heap.size := (by omega); have hm0 : w'.heap.size ≠ w.heap.size := (by omega); clear hb))
    go_ret3
    exact ⟨by simp [mPlaceAt, h], (by (first | with_reducible exact Below.refl _ _ | with_reducible assumption | (repeat (with_reducible first | exact Below.refl _ _ | assumption | refine Below.drew ?_ | refine Below.alloc ?_ (by first | omega | (simp <;> omega)) _ | refine Below.setCell ?_ (by first | omega | (simp <;> omega)) _ | refine below_drewN ?_ _))))⟩

/-- the rounded spot after a count -/
def rnd (x u k n : Int) : Int := (2 * plc x u k n + k) / (2 * k)
theorem plc_rng {x u k n : Int} (hx0 : 0 ≤ x) (hx : x ≤ 1280) (hu0 : 0 ≤ u) (hu : u ≤ 1280) (hk : 1 ≤ k) (hk2 : k ≤ 64) (hn0 : 0 ≤ n) (hn : n ≤ k) : 0 ≤ plc x u k n ∧ plc x u k n ≤ 163840 := by
  have := plc_bd hx0 hx hu0 hu hk hk2 hn0 hn
  unfold plc; omega

theorem tdiv_le {x d B : Int} (h1 : -B ≤ x) (h2 : x ≤ B) : -B ≤ x.tdiv d ∧ x.tdiv d ≤ B := by
  have h : (x.tdiv d).natAbs ≤ x.natAbs := by rw [Int.natAbs_tdiv x d]; exact Nat.div_le_self x.natAbs d.natAbs
  omega

def mRounded (a b c d k n : Int) : (Int × Int) × Bool := if goodM a b c d k && inB n 0 k then ((rnd a c k n, rnd b d k n), true) else ((0, 0), false)

end Go.Proofs.YtgpjnffomheemaaDoor

