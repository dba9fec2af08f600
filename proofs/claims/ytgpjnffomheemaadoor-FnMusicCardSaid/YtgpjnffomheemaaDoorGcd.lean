/- Contracts of the divisions and of the fractions in lowest terms, of the program and of the reference. -/
import Derived.Test.YtgpjnffomheemaaDoorBase2
import Derived.Test.YtgpjnffomheemaaDoorSpot
import Derived.LoopTactic
import Derived.Deep.QuietTactic
import Derived.BigQuiet
namespace Go.Proofs.YtgpjnffomheemaaDoor
open Go.RowKit
set_option linter.unusedVariables false
set_option linter.unusedSimpArgs false

def gcdI (x y : Int) : Int := (Nat.gcd x.toNat y.toNat : Int)
theorem gcdI_step {x y : Int} (hx : 0 ≤ x) (hy : 0 < y) : gcdI x y = gcdI y (x % y) := by
  obtain ⟨m, rfl⟩ := Int.eq_ofNat_of_zero_le hx
  obtain ⟨n, rfl⟩ := Int.eq_ofNat_of_zero_le (show 0 ≤ y by omega)
  unfold gcdI
  rw [← Int.natCast_emod, Int.toNat_natCast, Int.toNat_natCast, Int.toNat_natCast, Nat.gcd_comm m n, Nat.gcd_rec, Nat.gcd_comm]
theorem gcdI_zero {x : Int} (hx : 0 ≤ x) : gcdI x 0 = x := by
  obtain ⟨m, rfl⟩ := Int.eq_ofNat_of_zero_le hx
  simp [gcdI]
theorem gcdI_pos {a b : Int} (hb : 1 ≤ b) : 1 ≤ gcdI a b := by
  have h : 0 < Nat.gcd a.toNat b.toNat := Nat.gcd_pos_of_pos_right _ (by omega)
  unfold gcdI; omega
theorem gcdI_dvd (a b : Int) (hb : 1 ≤ b) : gcdI a b ≤ b := by
  have h := Nat.gcd_le_right a.toNat (show 0 < b.toNat by omega)
  unfold gcdI; omega
def GcdEq (a b x y : Int) : Prop := gcdI x y = gcdI a b
theorem emod_bd {x y : Int} (hy : 0 < y) : 0 ≤ x % y ∧ x % y < y := ⟨Int.emod_nonneg _ (by omega), Int.emod_lt_of_pos _ hy⟩

theorem tdiv_neg_ {a b : Int} (ha : a < 0) (hb : 1 ≤ b) :
    a ≤ a.tdiv b ∧ a.tdiv b ≤ 0 ∧ -b < a.tmod b ∧ a.tmod b ≤ 0 ∧ (a.tmod b < 0 → a / b = a.tdiv b - 1) ∧ (0 ≤ a.tmod b → a / b = a.tdiv b) := by
  have e1 : a.tdiv b = -((-a) / b) := by
    rw [show a = -(-a) by omega, Int.neg_tdiv, Int.tdiv_eq_ediv_of_nonneg (by omega)]; simp
  have e2 : a.tmod b = -((-a) % b) := by
    rw [show a = -(-a) by omega, Int.neg_tmod, Int.tmod_eq_emod_of_nonneg (by omega)]; simp
  have h1 := Int.emod_nonneg (-a) (show b ≠ 0 by omega)
  have h2 := Int.emod_lt_of_pos (-a) (show 0 < b by omega)
  have h3 := Int.mul_ediv_add_emod (-a) b
  have h4 : 0 ≤ (-a) / b := Int.ediv_nonneg (by omega) (by omega)
  have h5 : (-a) / b ≤ -a := Int.ediv_le_self _ (by omega)
  rw [e1, e2]
  refine ⟨by omega, by omega, by omega, by omega, fun h => ?_, fun h => ?_⟩
  · have := ((Int.ediv_emod_unique (a := a) (b := b) (r := b - (-a) % b) (q := -((-a) / b) - 1) (by omega)).2 ⟨by rw [Int.mul_sub, Int.mul_neg]; omega, by omega, by omega⟩).1
    exact this
  · have := ((Int.ediv_emod_unique (a := a) (b := b) (r := 0) (q := -((-a) / b)) (by omega)).2 ⟨by rw [Int.mul_neg]; omega, by omega, by omega⟩).1
    exact this

set_option maxHeartbeats 1000000 in
theorem gcdOf_any (a b : Int) (w : World) (h1 : 0 ≤ a) (h2 : a ≤ 1000000000000000) (h3 : 1 ≤ b) (h4 : b ≤ 1000000000000000) :
    Calls Tryd.prog 115 #[.int .i64 a, .int .i64 b] w fun e w' => e = .returned (.int .i64 (gcdI a b)) ∧ Below w.heap.size w w' := by
  go_enter Tryd.func115, Tryd.ntmps115
  go_wp2
  go_loopw [0, 1] (fun s t wr => ∃ x y : Int, 0 ≤ x ∧ x ≤ 1000000000000000 ∧ 0 ≤ y ∧ y ≤ 1000000000000000 ∧ s = .int .i64 x ∧ t = .int .i64 y ∧ Hid (GcdEq a b x y) ∧ Below w.heap.size w wr) (fun _ t _ => (intOf t).toNat)
  case atStart => exact ⟨a, b, by omega, by omega, by omega, by omega, rfl, rfl, Lib.hid (show gcdI a b = gcdI a b from rfl), Below.refl _ _⟩
  case round =>
    obtain ⟨x, y, x1, x2, y1, y2, rfl, rfl, HE, hB⟩ := hrel
    by_cases hy : y = 0
    · subst hy
      go_wp2
      go_ret
      exact ⟨by rw [← HE.out, gcdI_zero x1]; rfl, (by (first | with_reducible exact Below.refl _ _ | with_reducible assumption | (repeat (with_reducible first | exact Below.refl _ _ | assumption | refine Below.drew ?_ | refine Below.alloc ?_ (by first | omega | (simp <;> omega)) _ | refine Below.setCell ?_ (by first | omega | (simp <;> omega)) _ | refine below_drewN ?_ _))))⟩
    · obtain ⟨m1, m2⟩ := emod_bd (x := x) (y := y) (by omega)
      have hz : (y != 0) = true := by simpa using hy
      have hy0 : 0 < y := by omega
      clear hy
      go_wp2
      go_quiet (fail)
      go_wp2
      go_roundw
      case rel => exact ⟨y, x % y, by omega, by omega, by omega, by omega, rfl, rfl, Lib.hid (show gcdI y (x % y) = gcdI a b from (gcdI_step x1 hy0).symm.trans HE.out), (by (first | with_reducible exact Below.refl _ _ | with_reducible assumption | (repeat (with_reducible first | exact Below.refl _ _ | assumption | refine Below.drew ?_ | refine Below.alloc ?_ (by first | omega | (simp <;> omega)) _ | refine Below.setCell ?_ (by first | omega | (simp <;> omega)) _ | refine below_drewN ?_ _))))⟩
      case measure => simp [intOf]; omega

set_option maxHeartbeats 1000000 in
theorem lowestTerms_any (a b : Int) (w : World) (h1 : 0 ≤ a) (h2 : a ≤ 1000000000000000) (h3 : 1 ≤ b) (h4 : b ≤ 1000000000000000) :
    Calls Tryd.prog 77 #[.int .i64 a, .int .i64 b] w fun e w' => e = .returned (.tuple #[.int .i64 (a / gcdI a b), .int .i64 (b / gcdI a b)]) ∧ Below w.heap.size w w' := by
  have hg := gcdI_pos (a := a) h3
  go_enter Tryd.func77, Tryd.ntmps77
  go_wp2_with (go_at_call 115; refine (gcdOf_any _ _ _ h1 h2 h3 h4).mono ?_; rintro e w' ⟨rfl, hb⟩; have hz : w.heap.size ≤ w'.heap.size := (by have := hb.size; first | omega | (simp at this; omega)); have hB : Below w.heap.size w w' := (by refine Below.trans ?_ (hb.mono (by first | omega | (simp <;> omega))); (first | with_reducible exact Below.refl _ _ | with_reducible assumption | (repeat (with_reducible first | exact Below.refl _ _ | assumption | refine Below.drew ?_ | refine Below.alloc ?_ (by first | omega | (simp <;> omega)) _ | refine Below.setCell ?_ (by first | omega | (simp <;> omega)) _ | refine below_drewN ?_ _)))); have hh := Has.below (by (repeat (with_reducible first | assumption | apply Has.alloc5 | apply Has.alloc2 | apply Has.alloc1 | apply Has.alloc3 | apply Has.drew | apply Has.drewN | apply Has.set_ | apply Has.allocx | exact Has.nil _))) hb; (try simp only [World.size_alloc, World.size_setCell, World.size_drew, World.heap_drewN] at hh); have hq := hh; simp only [Has, upd, World.size_alloc, World.size_setCell, World.size_drew, World.heap_drewN, and_true, true_and, ite_true, ite_false, and_self, Nat.add_right_cancel_iff, Nat.add_eq_left, Nat.left_eq_add, reduceCtorEq, Nat.reduceEqDiff, if_true, if_false] at hq; have hs := hb.size; (try simp only [World.size_alloc, World.size_setCell, World.size_drew, World.heap_drewN] at hs); clear hb)
  go_quiet (fail)
  go_wp2
  go_ret2
  exact ⟨rfl, (by (first | with_reducible exact Below.refl _ _ | with_reducible assumption | (repeat (with_reducible first | exact Below.refl _ _ | assumption | refine Below.drew ?_ | refine Below.alloc ?_ (by first | omega | (simp <;> omega)) _ | refine Below.setCell ?_ (by first | omega | (simp <;> omega)) _ | refine below_drewN ?_ _))))⟩

theorem l1Abs_any (n : Int) (w : World) (h : 0 ≤ n) (h2 : n ≤ 1000000000000000) :
    Calls Tryd.prog 116 #[.int .i64 n] w fun e w' => e = .returned (.int .i64 n) ∧ w = w' := by
  by_cases hn : n > -n
  · go_enter Tryd.func116, Tryd.ntmps116
    go_wp2_with go_in
    go_ret
    exact ⟨rfl, rfl⟩
  · obtain rfl : n = 0 := by omega
    go_enter Tryd.func116, Tryd.ntmps116
    go_wp2_with go_in
    go_ret
    exact ⟨rfl, rfl⟩

set_option maxHeartbeats 1000000 in
theorem mvPart_any (a b : Int) (w : World) (h1 : 0 ≤ a) (h2 : a ≤ 1000000000000000) (h3 : 1 ≤ b) (h4 : b ≤ 1000000000000000) :
    Calls Tryd.prog 78 #[.int .i64 a, .int .i64 b] w fun e w' => e = .returned (.tuple #[.int .i64 (a / gcdI a b), .int .i64 (b / gcdI a b)]) ∧ Below w.heap.size w w' := by
  have hg := gcdI_pos (a := a) h3
  go_enter Tryd.func78, Tryd.ntmps78
  go_wp2_with (go_at_call 116; refine (l1Abs_any _ _ h1 h2).mono ?_; rintro e w' ⟨rfl, rfl⟩)
  go_loop [6, 7] (fun s t => ∃ x y : Int, 0 ≤ x ∧ x ≤ 1000000000000000 ∧ 0 ≤ y ∧ y ≤ 1000000000000000 ∧ s = .int .i64 x ∧ t = .int .i64 y ∧ Hid (GcdEq a b x y)) (fun _ t => (intOf t).toNat)
  case atStart => exact ⟨a, b, by omega, by omega, by omega, by omega, rfl, rfl, Lib.hid (show gcdI a b = gcdI a b from rfl)⟩
  case round =>
    obtain ⟨x, y, x1, x2, y1, y2, rfl, rfl, HE⟩ := hrel
    by_cases hy : 0 < y
    · obtain ⟨m1, m2⟩ := emod_bd (x := x) (y := y) hy
      go_wp2
      go_round
      case rel => exact ⟨y, x % y, by omega, by omega, by omega, by omega, rfl, rfl, Lib.hid (show gcdI y (x % y) = gcdI a b from (gcdI_step x1 hy).symm.trans HE.out)⟩
      case measure => simp [intOf]; omega
    · obtain rfl : y = 0 := by omega
      have hx : gcdI a b = x := by rw [← HE.out, gcdI_zero x1]
      have hx1 : 1 ≤ x := by omega
      have HX := Lib.hid hx
      clear hx hg
      go_wp2
      go_quiet (fail)
      go_wp2
      go_ret2
      exact ⟨by rw [HX.out]; rfl, (by (first | with_reducible exact Below.refl _ _ | with_reducible assumption | (repeat (with_reducible first | exact Below.refl _ _ | assumption | refine Below.drew ?_ | refine Below.alloc ?_ (by first | omega | (simp <;> omega)) _ | refine Below.setCell ?_ (by first | omega | (simp <;> omega)) _ | refine below_drewN ?_ _))))⟩

end Go.Proofs.YtgpjnffomheemaaDoor

