/- Contracts of the places of a move, of the program and of the reference. -/
import Derived.Test.YtakgmmdnlhamkaaMove
import Derived.Test.YtakgmmdnlhamkaaGcd
import Derived.Test.YtakgmmdnlhamkaaBetween
import Derived.Deep.RegionHeld3
import Derived.Deep.DeepCutAuto
namespace Go.Proofs.Ytakgmmdnlhamkaa
open Go.RowKit
set_option linter.unusedVariables false
set_option linter.unusedSimpArgs false
set_option maxRecDepth 100000

def plc (x u k n : Int) : Int := x * k + n * (u - x)
theorem plc_eq (x u k n : Int) : plc x u k n = x * (k - n) + n * u := by
  unfold plc; rw [Int.mul_sub, Int.mul_sub, Int.mul_comm n x]; omega
theorem plc_bd {x u k n : Int} (hx0 : 0 ≤ x) (hx : x ≤ 1280) (hu0 : 0 ≤ u) (hu : u ≤ 1280) (hk : 1 ≤ k) (hk2 : k ≤ 64) (hn0 : 0 ≤ n) (hn : n ≤ k) :
    0 ≤ x * k ∧ x * k ≤ 81920 ∧ -81920 ≤ n * (u - x) ∧ n * (u - x) ≤ 81920 ∧ 0 ≤ x * k + n * (u - x) ∧ x * k + n * (u - x) ≤ 163840 := by
  have e := plc_eq x u k n
  have a1 := mul_bd (a := x) (b := k) (A := 1280) (B := 64) (by omega) (by omega) (by omega) (by omega)
  have a2 := mul_bd (a := n) (b := u - x) (A := 64) (B := 1280) (by omega) (by omega) (by omega) (by omega)
  have a3 : 0 ≤ x * k := Int.mul_nonneg (by omega) (by omega)
  have a4 : 0 ≤ x * (k - n) := Int.mul_nonneg (by omega) (by omega)
  have a5 : 0 ≤ n * u := Int.mul_nonneg (by omega) (by omega)
  unfold plc at e
  omega
def mPlaceAt (a b c d k n : Int) : Int × Int × Bool := if goodM a b c d k && inB n 0 k then (plc a c k n, plc b d k n, true) else (0, 0, false)

set_option maxHeartbeats 1000000 in
theorem placeAt_any (a b c d k n : Int) (w : World) (hg : goodM a b c d k = true) (hn0 : 0 ≤ n) (hn : n ≤ k) :
    Calls Try.prog 50 #[.agg #[.int .i64 a, .int .i64 b, .int .i64 c, .int .i64 d, .int .i64 k], .int .i64 n] w fun e w' => e = .returned (.tuple #[.int .i64 (plc a c k n), .int .i64 (plc b d k n)]) ∧ Below w.heap.size w w' := by
  obtain ⟨g1, g2, k1, k2⟩ := (goodM_iff _ _ _ _ _).1 hg
  obtain ⟨p1, p2, p3, p4⟩ := (goodB_iff _ _).1 g1
  obtain ⟨q1, q2, q3, q4⟩ := (goodB_iff _ _).1 g2
  obtain ⟨x1, x2, x3, x4, x5, x6⟩ := plc_bd p1 p2 q1 q2 k1 k2 hn0 hn
  obtain ⟨y1, y2, y3, y4, y5, y6⟩ := plc_bd (x := b) (u := d) p3 (by omega) q3 (by omega) k1 k2 hn0 hn
  clear hg g1 g2
  go_enter Try.func50, Try.ntmps50
  go_wp2
  go_quiet (fail)
  go_wp2
  go_ret2
  exact ⟨by simp [plc, IntWalk.i64_in, *], (by (first | with_reducible exact Below.refl _ _ | with_reducible assumption | (repeat (with_reducible first | exact Below.refl _ _ | assumption | refine Below.drew ?_ | refine Below.alloc ?_ (by first | omega | (simp <;> omega)) _ | refine Below.setCell ?_ (by first | omega | (simp <;> omega)) _ | refine below_drewN ?_ _))))⟩

set_option maxHeartbeats 1000000 in
theorem mvAt_any (a b c d k n : Int) (w : World) (hg : goodM a b c d k = true) (hn0 : 0 ≤ n) (hn : n ≤ k) :
    Calls Try.prog 46 #[.agg #[.int .i64 a, .int .i64 b, .int .i64 c, .int .i64 d, .int .i64 k], .int .i64 n] w fun e w' => e = .returned (.tuple #[.int .i64 (plc a c k n), .int .i64 (plc b d k n)]) ∧ Below w.heap.size w w' := by
  obtain ⟨g1, g2, k1, k2⟩ := (goodM_iff _ _ _ _ _).1 hg
  obtain ⟨p1, p2, p3, p4⟩ := (goodB_iff _ _).1 g1
  obtain ⟨q1, q2, q3, q4⟩ := (goodB_iff _ _).1 g2
  obtain ⟨x1, x2, x3, x4, x5, x6⟩ := plc_bd p1 p2 q1 q2 k1 k2 hn0 hn
  obtain ⟨y1, y2, y3, y4, y5, y6⟩ := plc_bd (x := b) (u := d) p3 (by omega) q3 (by omega) k1 k2 hn0 hn
  clear hg g1 g2
  have cx : (c - a) * n = n * (c - a) := Int.mul_comm _ _
  have cy : (d - b) * n = n * (d - b) := Int.mul_comm _ _
  rw [← cx] at x3 x4 x5 x6
  rw [← cy] at y3 y4 y5 y6
  have CX := Lib.hid cx
  have CY := Lib.hid cy
  clear cx cy
  go_enter Try.func46, Try.ntmps46
  go_wp2
  go_quiet (fail)
  go_wp2
  go_ret2
  exact ⟨by simp [plc, IntWalk.i64_in, ← CX.out, ← CY.out, *], (by (first | with_reducible exact Below.refl _ _ | with_reducible assumption | (repeat (with_reducible first | exact Below.refl _ _ | assumption | refine Below.drew ?_ | refine Below.alloc ?_ (by first | omega | (simp <;> omega)) _ | refine Below.setCell ?_ (by first | omega | (simp <;> omega)) _ | refine below_drewN ?_ _))))⟩

/-- the rounded spot after a count -/
def rnd (x u k n : Int) : Int := (2 * plc x u k n + k) / (2 * k)
theorem plc_rng {x u k n : Int} (hx0 : 0 ≤ x) (hx : x ≤ 1280) (hu0 : 0 ≤ u) (hu : u ≤ 1280) (hk : 1 ≤ k) (hk2 : k ≤ 64) (hn0 : 0 ≤ n) (hn : n ≤ k) : 0 ≤ plc x u k n ∧ plc x u k n ≤ 163840 := by
  have := plc_bd hx0 hx hu0 hu hk hk2 hn0 hn
  unfold plc; omega

set_option maxHeartbeats 2000000 in
theorem roundedAt_any (a b c d k n : Int) (w : World) (hg : goodM a b c d k = true) (hn0 : 0 ≤ n) (hn : n ≤ k) :
    Calls Try.prog 87 #[.agg #[.int .i64 a, .int .i64 b, .int .i64 c, .int .i64 d, .int .i64 k], .int .i64 n] w fun e w' => e = .returned (.agg #[.int .i64 (rnd a c k n), .int .i64 (rnd b d k n)]) ∧ Below w.heap.size w w' := by
  obtain ⟨g1, g2, k1, k2⟩ := (goodM_iff _ _ _ _ _).1 hg
  obtain ⟨p1, p2, p3, p4⟩ := (goodB_iff _ _).1 g1
  obtain ⟨q1, q2, q3, q4⟩ := (goodB_iff _ _).1 g2
  obtain ⟨x1, x2⟩ := plc_rng (x := a) (u := c) p1 p2 q1 q2 k1 k2 hn0 hn
  obtain ⟨y1, y2⟩ := plc_rng (x := b) (u := d) p3 (by omega) q3 (by omega) k1 k2 hn0 hn
  have e1 : w.heap.size ≠ w.heap.size + 1 := by omega
  have e2 : w.heap.size + 1 ≠ w.heap.size := by omega
  go_enter Try.func87, Try.ntmps87
  go_wp2_with (first | (go_at_call 50; refine (placeAt_any _ _ _ _ _ _ _ hg hn0 hn).mono ?_; rintro e w' ⟨rfl, hb⟩; have hz : w.heap.size + 2 ≤ w'.heap.size := (by have := hb.size; first | omega | (simp at this; omega)); have hB : Below w.heap.size w w' := (by refine Below.trans ?_ (hb.mono (by first | omega | (simp <;> omega))); (first | with_reducible exact Below.refl _ _ | with_reducible assumption | (repeat (with_reducible first | exact Below.refl _ _ | assumption | refine Below.drew ?_ | refine Below.alloc ?_ (by first | omega | (simp <;> omega)) _ | refine Below.setCell ?_ (by first | omega | (simp <;> omega)) _ | refine below_drewN ?_ _)))); have hh := Has.below (by (repeat (with_reducible first | assumption | apply Has.alloc5 | apply Has.alloc2 | apply Has.alloc1 | apply Has.alloc3 | apply Has.drew | apply Has.drewN | apply Has.set_ | apply Has.allocx | exact Has.nil _))) hb; (try simp only [World.size_alloc, World.size_setCell, World.size_drew, World.heap_drewN] at hh); have hq := hh; simp only [Has, upd, World.size_alloc, World.size_setCell, World.size_drew, World.heap_drewN, and_true, true_and, ite_true, ite_false, and_self, Nat.add_right_cancel_iff, Nat.add_eq_left, Nat.left_eq_add, reduceCtorEq, Nat.reduceEqDiff, if_true, if_false] at hq; have hs := hb.size; (try simp only [World.size_alloc, World.size_setCell, World.size_drew, World.heap_drewN] at hs); have hn1 : w.heap.size + 1 ≠ w'.heap.size := (by omega); have hm1 : w'.heap.size ≠ w.heap.size + 1 := (by omega); have hn0 : w.heap.size ≠ w'.heap.size := (by omega); have hm0 : w'.heap.size ≠ w.heap.size := (by omega); clear hb))
  go_region_held3 (fun w' => w'.cell? ⟨w.heap.size, 0, none⟩ = some (.int .i64 a) ∧ w'.cell? ⟨w.heap.size, 1, none⟩ = some (.int .i64 b) ∧ w'.cell? ⟨w.heap.size, 2, none⟩ = some (.int .i64 c) ∧ w'.cell? ⟨w.heap.size, 3, none⟩ = some (.int .i64 d) ∧ w'.cell? ⟨w.heap.size, 4, none⟩ = some (.int .i64 k)) (first | (go_keep; done) | ((repeat' apply And.intro) <;> (apply Has.get; (focus (repeat (with_reducible first | assumption | apply Has.alloc5 | apply Has.alloc2 | apply Has.alloc1 | apply Has.alloc3 | apply Has.drew | apply Has.drewN | apply Has.set_ | apply Has.allocx | exact Has.nil _))); simp [upd, *]))) (first | (go_at_call 88; refine (roundDiv_any _ _ _ (by omega) (by omega) (by omega) (by omega)).mono ?_; rintro e w' ⟨rfl, rfl⟩))
  all_goals
    go_wp2
    refine ret_has (v := .agg #[.int .i64 ((2 * plc a c k n + k) / (2 * k)), .int .i64 ((2 * plc b d k n + k) / (2 * k))]) (m := [(w.heap.size + 1, 0, .int .i64 ((2 * plc a c k n + k) / (2 * k))), (w.heap.size + 1, 1, .int .i64 ((2 * plc b d k n + k) / (2 * k)))]) (by apply Has.weak; (focus (repeat (with_reducible first | assumption | apply Has.alloc5 | apply Has.alloc2 | apply Has.alloc1 | apply Has.alloc3 | apply Has.drew | apply Has.drewN | apply Has.set_ | apply Has.allocx | exact Has.nil _))); simp [upd, *]) ?_ rfl ⟨rfl, (by (first | with_reducible exact Below.refl _ _ | with_reducible assumption | (repeat (with_reducible first | exact Below.refl _ _ | assumption | refine Below.drew ?_ | refine Below.alloc ?_ (by first | omega | (simp <;> omega)) _ | refine Below.setCell ?_ (by first | omega | (simp <;> omega)) _ | refine below_drewN ?_ _))))⟩
    intro W' hW'
    simp only [Has] at hW'
    simp [results, Try.results87, go_sem, hW']

theorem tdiv_le {x d B : Int} (h1 : -B ≤ x) (h2 : x ≤ B) : -B ≤ x.tdiv d ∧ x.tdiv d ≤ B := by
  have h : (x.tdiv d).natAbs ≤ x.natAbs := by rw [Int.natAbs_tdiv x d]; exact Nat.div_le_self x.natAbs d.natAbs
  omega

set_option maxHeartbeats 2000000 in
theorem mvRound_any (a b c d k n : Int) (w : World) (hg : goodM a b c d k = true) (hn0 : 0 ≤ n) (hn : n ≤ k) :
    Calls Try.prog 72 #[.agg #[.int .i64 a, .int .i64 b, .int .i64 c, .int .i64 d, .int .i64 k], .int .i64 n] w fun e w' => e = .returned (.agg #[.int .i64 (rnd a c k n), .int .i64 (rnd b d k n)]) ∧ Below w.heap.size w w' := by
  obtain ⟨g1, g2, k1, k2⟩ := (goodM_iff _ _ _ _ _).1 hg
  obtain ⟨p1, p2, p3, p4⟩ := (goodB_iff _ _).1 g1
  obtain ⟨q1, q2, q3, q4⟩ := (goodB_iff _ _).1 g2
  obtain ⟨x1, x2⟩ := plc_rng (x := a) (u := c) p1 p2 q1 q2 k1 k2 hn0 hn
  obtain ⟨y1, y2⟩ := plc_rng (x := b) (u := d) p3 (by omega) q3 (by omega) k1 k2 hn0 hn
  have e1 : w.heap.size ≠ w.heap.size + 1 := by omega
  have e2 : w.heap.size + 1 ≠ w.heap.size := by omega
  have z0 : ((2 * k) == 0) = false := by simp; omega
  have z1 : ¬ (2 * k = 0) := by omega
  have z2 : ¬ (k = 0) := by omega
  have w1 : IntKind.i64.wrap (2 * plc a c k n) = 2 * plc a c k n := IntWalk.i64_in _ (by omega)
  have w2 : IntKind.i64.wrap (2 * plc b d k n) = 2 * plc b d k n := IntWalk.i64_in _ (by omega)
  have w3 : IntKind.i64.wrap (2 * plc a c k n + k) = 2 * plc a c k n + k := IntWalk.i64_in _ (by omega)
  have w4 : IntKind.i64.wrap (2 * plc b d k n + k) = 2 * plc b d k n + k := IntWalk.i64_in _ (by omega)
  have w5 : IntKind.i64.wrap (2 * k) = 2 * k := IntWalk.i64_in _ (by omega)
  have w6 : (2 * plc a c k n + k).tdiv (2 * k) = (2 * plc a c k n + k) / (2 * k) := Int.tdiv_eq_ediv_of_nonneg (by omega)
  have w7 : (2 * plc b d k n + k).tdiv (2 * k) = (2 * plc b d k n + k) / (2 * k) := Int.tdiv_eq_ediv_of_nonneg (by omega)
  have v1 := tdiv_le (x := 2 * plc a c k n + k) (d := 2 * k) (B := 1000000) (by omega) (by omega)
  have v2 := tdiv_le (x := 2 * plc b d k n + k) (d := 2 * k) (B := 1000000) (by omega) (by omega)
  rw [w6] at v1
  rw [w7] at v2
  have w8 : IntKind.i64.wrap ((2 * plc a c k n + k) / (2 * k)) = (2 * plc a c k n + k) / (2 * k) := IntWalk.i64_in _ (by omega)
  have w9 : IntKind.i64.wrap ((2 * plc b d k n + k) / (2 * k)) = (2 * plc b d k n + k) / (2 * k) := IntWalk.i64_in _ (by omega)
  go_enter Try.func72, Try.ntmps72
  go_wp2_with (first | (go_at_call 46; refine (mvAt_any _ _ _ _ _ _ _ hg hn0 hn).mono ?_; rintro e w' ⟨rfl, hb⟩; have hz : w.heap.size + 2 ≤ w'.heap.size := (by have := hb.size; first | omega | (simp at this; omega)); have hB : Below w.heap.size w w' := (by refine Below.trans ?_ (hb.mono (by first | omega | (simp <;> omega))); (first | with_reducible exact Below.refl _ _ | with_reducible assumption | (repeat (with_reducible first | exact Below.refl _ _ | assumption | refine Below.drew ?_ | refine Below.alloc ?_ (by first | omega | (simp <;> omega)) _ | refine Below.setCell ?_ (by first | omega | (simp <;> omega)) _ | refine below_drewN ?_ _)))); have hh := Has.below (by (repeat (with_reducible first | assumption | apply Has.alloc5 | apply Has.alloc2 | apply Has.alloc1 | apply Has.alloc3 | apply Has.drew | apply Has.drewN | apply Has.set_ | apply Has.allocx | exact Has.nil _))) hb; (try simp only [World.size_alloc, World.size_setCell, World.size_drew, World.heap_drewN] at hh); have hq := hh; simp only [Has, upd, World.size_alloc, World.size_setCell, World.size_drew, World.heap_drewN, and_true, true_and, ite_true, ite_false, and_self, Nat.add_right_cancel_iff, Nat.add_eq_left, Nat.left_eq_add, reduceCtorEq, Nat.reduceEqDiff, if_true, if_false] at hq; have hs := hb.size; (try simp only [World.size_alloc, World.size_setCell, World.size_drew, World.heap_drewN] at hs); have hn1 : w.heap.size + 1 ≠ w'.heap.size := (by omega); have hm1 : w'.heap.size ≠ w.heap.size + 1 := (by omega); have hn0 : w.heap.size ≠ w'.heap.size := (by omega); have hm0 : w'.heap.size ≠ w.heap.size := (by omega); clear hb))
  go_region_held3 (fun w' => w'.cell? ⟨w.heap.size, 0, none⟩ = some (.int .i64 a) ∧ w'.cell? ⟨w.heap.size, 1, none⟩ = some (.int .i64 b) ∧ w'.cell? ⟨w.heap.size, 2, none⟩ = some (.int .i64 c) ∧ w'.cell? ⟨w.heap.size, 3, none⟩ = some (.int .i64 d) ∧ w'.cell? ⟨w.heap.size, 4, none⟩ = some (.int .i64 k)) (first | (go_keep; done) | ((repeat' apply And.intro) <;> (apply Has.get; (focus (repeat (with_reducible first | assumption | apply Has.alloc5 | apply Has.alloc2 | apply Has.alloc1 | apply Has.alloc3 | apply Has.drew | apply Has.drewN | apply Has.set_ | apply Has.allocx | exact Has.nil _))); simp [upd, *]))) (first | fail)
  all_goals
    go_wp2
    refine ret_has (v := .agg #[.int .i64 ((2 * plc a c k n + k) / (2 * k)), .int .i64 ((2 * plc b d k n + k) / (2 * k))]) (m := [(w.heap.size + 1, 0, .int .i64 ((2 * plc a c k n + k) / (2 * k))), (w.heap.size + 1, 1, .int .i64 ((2 * plc b d k n + k) / (2 * k)))]) (by apply Has.weak; (focus (repeat (with_reducible first | assumption | apply Has.alloc5 | apply Has.alloc2 | apply Has.alloc1 | apply Has.alloc3 | apply Has.drew | apply Has.drewN | apply Has.set_ | apply Has.allocx | exact Has.nil _))); simp [upd, *]) ?_ rfl ⟨rfl, (by (first | with_reducible exact Below.refl _ _ | with_reducible assumption | (repeat (with_reducible first | exact Below.refl _ _ | assumption | refine Below.drew ?_ | refine Below.alloc ?_ (by first | omega | (simp <;> omega)) _ | refine Below.setCell ?_ (by first | omega | (simp <;> omega)) _ | refine below_drewN ?_ _))))⟩
    intro W' hW'
    simp only [Has] at hW'
    simp [results, Try.results72, go_sem, hW']

def mRounded (a b c d k n : Int) : (Int × Int) × Bool := if goodM a b c d k && inB n 0 k then ((rnd a c k n, rnd b d k n), true) else ((0, 0), false)

end Go.Proofs.Ytakgmmdnlhamkaa

