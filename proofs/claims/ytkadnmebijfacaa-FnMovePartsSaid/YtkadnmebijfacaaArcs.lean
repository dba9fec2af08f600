/- Contracts of ArcSpots, of the program and of the reference. -/
import Derived.Test.YtkadnmebijfacaaSpotRow3
import Derived.Test.YtkadnmebijfacaaArc2
import Derived.Test.YtkadnmebijfacaaGcd
import Derived.Maps.AppendAt
import Derived.Deep.AppendLies
import Derived.Deep.RegionHeld3
import Derived.Deep.DeepCutAuto
namespace Go.Proofs.Ytkadnmebijfacaa
open Go.RowKit
set_option linter.unusedVariables false
set_option linter.unusedSimpArgs false
set_option maxRecDepth 100000

/-- a list of spots in new memory, and a bool -/
def RetSpots (w : World) (l : List (Int × Int)) (ok : Bool) (e : Ending) (w' : World) : Prop := ∃ A c, e = .returned (.tuple #[.slice A l.length c, .bool ok]) ∧ SRow w' w.heap.size (.slice A l.length c) l ∧ Below w.heap.size w w'
theorem RetSpots.nil (w : World) {w' : World} (hb : Below w.heap.size w w') : RetSpots w [] false (.returned (.tuple #[.slice none 0 0, .bool false])) w' :=
  ⟨none, 0, rfl, ⟨by simp, World.ownsRow_nil _ _ _ _⟩, hb⟩
theorem SRow.ret {w w' : World} {b : Nat} {v : Value} {l : List (Int × Int)} {ok : Bool} (h : SRow w' b v l) (hb : w.heap.size ≤ b) (hB : Below w.heap.size w w') : RetSpots w l ok (.returned (.tuple #[v, .bool ok])) w' := by
  obtain ⟨A, c, rfl, _⟩ := h.lst
  exact ⟨A, c, rfl, h.more hb, hB⟩
theorem two_new (w : World) (x y : Value) (t : TypeId) : ∀ j u, [x, y][j]? = some u → (w.alloc (.cells #[x, y] t)).cell? ((⟨w.heap.size, 0, none⟩ : Addr).add j) = some u :=
  fun j u hu => World.news_of_block (heap_alloc_new w _) j u (by simpa using hu)
theorem two_cells (x y : Int) : ∀ u ∈ [Value.int .i64 x, Value.int .i64 y], u.oneCell' = true := by
  intro u hu; simp at hu; rcases hu with rfl | rfl <;> rfl
theorem SRow.nil (w : World) (base : Nat) : SRow w base (.slice none 0 0) [] := ⟨by simp, World.ownsRow_nil _ _ _ _⟩
theorem quo_abs {a b : Int} (h1 : 1 ≤ b) (h2 : -1000000 ≤ a) (h3 : a ≤ 1000000) : -1000000 ≤ a / b ∧ a / b ≤ 1000000 := by
  refine ⟨?_, ?_⟩
  · rw [Int.le_ediv_iff_mul_le (by omega)]
    have := Int.mul_le_mul_of_nonneg_left h1 (show (0 : Int) ≤ 1000000 by omega)
    omega
  · have : a / b < 1000001 := by
      rw [Int.ediv_lt_iff_lt_mul (by omega)]
      have := Int.mul_le_mul_of_nonneg_left h1 (show (0 : Int) ≤ 1000001 by omega)
      omega
    omega
theorem mul_abs {j d : Int} (h0 : 0 ≤ j) (h1 : j ≤ 40) (h2 : -2800 ≤ d) (h3 : d ≤ 2800) : -112000 ≤ j * d ∧ j * d ≤ 112000 := by
  refine ⟨?_, ?_⟩
  · have a := Int.mul_le_mul_of_nonneg_left h2 h0
    have b : 40 * 2800 ≥ j * 2800 := by omega
    omega
  · have a := Int.mul_le_mul_of_nonneg_left h3 h0
    omega

theorem iOnArc_eq (m1 m2 r x a b : Int) (ok : Bool) (w : World) (h : mOnArc m1 m2 r x = ((a, b), ok)) :
    Calls Try.prog 45 #[.agg #[.int .i64 m1, .int .i64 m2], .int .i64 r, .int .i64 x] w fun e w' => e = .returned (.tuple #[.agg #[.int .i64 a, .int .i64 b], .bool ok]) ∧ Below w.heap.size w w' := by
  have := iOnArc_any m1 m2 r x w; rw [h] at this; exact this

theorem sOnArc_eq (m1 m2 r x a b : Int) (ok : Bool) (w : World) (h : mOnArc m1 m2 r x = ((a, b), ok)) :
    Calls Try.prog 46 #[.agg #[.int .i64 m1, .int .i64 m2], .int .i64 r, .int .i64 x] w fun e w' => e = .returned (.tuple #[.agg #[.int .i64 a, .int .i64 b], .bool ok]) ∧ Below w.heap.size w w' := by
  have := sOnArc_any m1 m2 r x w; rw [h] at this; exact this

def arcX (f t n j : Int) : Int := f + j * (t - f) / (n - 1)
def arcTo (m1 m2 r f t n : Int) : Nat → Option (List (Int × Int))
  | 0 => some []
  | j + 1 => match arcTo m1 m2 r f t n j with
    | none => none
    | some l => if (mOnArc m1 m2 r (arcX f t n j)).2 then some (l ++ [(mOnArc m1 m2 r (arcX f t n j)).1]) else none
theorem arcTo_yes {m1 m2 r f t n : Int} {j : Nat} {l : List (Int × Int)} (h : arcTo m1 m2 r f t n j = some l) (h' : (mOnArc m1 m2 r (arcX f t n j)).2 = true) : arcTo m1 m2 r f t n (j + 1) = some (l ++ [(mOnArc m1 m2 r (arcX f t n j)).1]) := by
  simp [arcTo, h, h']
theorem arcTo_no {m1 m2 r f t n : Int} {j : Nat} (h' : (mOnArc m1 m2 r (arcX f t n j)).2 = false) : arcTo m1 m2 r f t n (j + 1) = none := by
  simp only [arcTo]; split <;> simp [h']
theorem arcTo_none {m1 m2 r f t n : Int} {j : Nat} (h : arcTo m1 m2 r f t n j = none) : ∀ k, j ≤ k → arcTo m1 m2 r f t n k = none
  | 0, hk => by obtain rfl : j = 0 := by omega
                exact h
  | k + 1, hk => by
    by_cases e : j = k + 1
    · subst e; exact h
    · have := arcTo_none h k (by omega); simp [arcTo, this]
theorem arcTo_len {m1 m2 r f t n : Int} : ∀ {j : Nat} {l : List (Int × Int)}, arcTo m1 m2 r f t n j = some l → l.length = j
  | 0, l, h => by simp [arcTo] at h; subst h; rfl
  | j + 1, l, h => by
    simp only [arcTo] at h
    split at h
    · cases h
    · rename_i q hq
      split at h
      · cases h; simp [arcTo_len hq]
      · cases h
def arcB (m1 m2 r f t n : Int) : Bool := goodB m1 m2 && inB r 1 1400 && inB f (-r) r && inB t (-r) r && inB n 2 40
def mArc (m1 m2 r f t n : Int) : List (Int × Int) × Bool := if arcB m1 m2 r f t n then (match arcTo m1 m2 r f t n n.toNat with | some l => (l, true) | none => ([], false)) else ([], false)
theorem mArc_bad {m1 m2 r f t n : Int} (h : arcB m1 m2 r f t n = false) : mArc m1 m2 r f t n = ([], false) := by simp [mArc, h]
theorem mArc_stop {m1 m2 r f t n : Int} {j : Nat} (h : (mOnArc m1 m2 r (arcX f t n j)).2 = false) (hj : (j : Int) < n) : mArc m1 m2 r f t n = ([], false) := by
  have := arcTo_none (arcTo_no (f := f) (t := t) (n := n) h) n.toNat (by omega)
  simp [mArc, this]
theorem mArc_all {m1 m2 r f t n : Int} {l : List (Int × Int)} (hb : arcB m1 m2 r f t n = true) (h : arcTo m1 m2 r f t n n.toNat = some l) : mArc m1 m2 r f t n = (l, true) := by
  simp [mArc, hb, h]

theorem arFloor_any (a b : Int) (w : World) (h1 : -1000000000000 ≤ a) (h2 : a ≤ 1000000000000) (h3 : 1 ≤ b) (h4 : b ≤ 1000000000000) :
    Calls Try.prog 132 #[.int .i64 a, .int .i64 b] w fun e w' => e = .returned (.int .i64 (a / b)) ∧ w = w' := by
  by_cases h : 0 ≤ a
  · obtain ⟨m1, m2⟩ := emod_bd (x := a) (y := b) (by omega)
    go_enter Try.func132, Try.ntmps132
    go_wp2
    go_ret
    exact ⟨rfl, rfl⟩
  · obtain ⟨t1, t2, t3, t4, t5, t6⟩ := tdiv_neg_ (a := a) (b := b) (by omega) h3
    have H5 := Lib.hid t5
    have H6 := Lib.hid t6
    clear t5 t6
    by_cases hm : a.tmod b < 0
    · go_enter Try.func132, Try.ntmps132
      go_wp2
      go_ret
      exact ⟨by rw [H5.out hm]; rfl, rfl⟩
    · go_enter Try.func132, Try.ntmps132
      go_wp2
      go_ret
      exact ⟨by rw [H6.out (by omega)]; rfl, rfl⟩

set_option maxHeartbeats 8000000 in
theorem iArc_any (m1 m2 r f t n : Int) (l : List (Int × Int)) (ok : Bool) (w : World) (hm : mArc m1 m2 r f t n = (l, ok)) :
    Calls Try.prog 63 #[.agg #[.int .i64 m1, .int .i64 m2], .int .i64 r, .int .i64 f, .int .i64 t, .int .i64 n] w (RetSpots w l ok) := by
  have HM := Lib.hid hm
  clear hm
  rcases tf (goodB m1 m2) with h1 | h1
  rotate_left
  · obtain ⟨rfl, rfl⟩ : l = [] ∧ ok = false := by have := HM.out.symm.trans (mArc_bad (by simp [arcB, h1])); injection this with a b; exact ⟨a, b⟩
    go_enter Try.func63, Try.ntmps63
    go_wp2_with (first | (go_at_call 94; refine (iIsSpot_any _ _ _).mono ?_; rintro e w' ⟨rfl, hb⟩; have hz : w.heap.size + 1 ≤ w'.heap.size := (by have := hb.size; first | omega | (simp at this; omega)); have hB : Below w.heap.size w w' := (by refine Below.trans ?_ (hb.mono (by first | omega | (simp <;> omega))); (first | with_reducible exact Below.refl _ _ | with_reducible assumption | (repeat (with_reducible first | exact Below.refl _ _ | assumption | refine Below.drew ?_ | refine Below.alloc ?_ (by first | omega | (simp <;> omega)) _ | refine Below.setCell ?_ (by first | omega | (simp <;> omega)) _ | refine below_drewN ?_ _)))); have hh := Has.below (by (repeat (with_reducible first | assumption | apply Has.alloc5 | apply Has.alloc2 | apply Has.alloc1 | apply Has.alloc3 | apply Has.drew | apply Has.drewN | apply Has.set_ | apply Has.allocx | exact Has.nil _))) hb; (try simp only [World.size_alloc, World.size_setCell, World.size_drew, World.heap_drewN] at hh); have hq := hh; simp only [Has, upd, World.size_alloc, World.size_setCell, World.size_drew, World.heap_drewN, and_true, true_and, ite_true, ite_false, and_self, Nat.add_right_cancel_iff, Nat.add_eq_left, Nat.left_eq_add, reduceCtorEq, Nat.reduceEqDiff, if_true, if_false] at hq; have hs := hb.size; (try simp only [World.size_alloc, World.size_setCell, World.size_drew, World.heap_drewN] at hs); have hn0 : w.heap.size ≠ w'.heap.size := (by omega); have hm0 : w'.heap.size ≠ w.heap.size := (by omega); clear hb) | (go_at_call 126; refine (isRadius_any _ _).mono ?_; rintro e w' ⟨rfl, rfl⟩) | (go_at_call 105; refine (within_any _ _ _ _).mono ?_; rintro e w' ⟨rfl, rfl⟩))
    go_ret2
    exact RetSpots.nil w (by (first | with_reducible exact Below.refl _ _ | with_reducible assumption | (repeat (with_reducible first | exact Below.refl _ _ | assumption | refine Below.drew ?_ | refine Below.alloc ?_ (by first | omega | (simp <;> omega)) _ | refine Below.setCell ?_ (by first | omega | (simp <;> omega)) _ | refine below_drewN ?_ _))))
  rcases tf (inB r 1 1400) with h2 | h2
  rotate_left
  · obtain ⟨rfl, rfl⟩ : l = [] ∧ ok = false := by have := HM.out.symm.trans (mArc_bad (by simp [arcB, h2])); injection this with a b; exact ⟨a, b⟩
    go_enter Try.func63, Try.ntmps63
    go_wp2_with (first | (go_at_call 94; refine (iIsSpot_any _ _ _).mono ?_; rintro e w' ⟨rfl, hb⟩; have hz : w.heap.size + 1 ≤ w'.heap.size := (by have := hb.size; first | omega | (simp at this; omega)); have hB : Below w.heap.size w w' := (by refine Below.trans ?_ (hb.mono (by first | omega | (simp <;> omega))); (first | with_reducible exact Below.refl _ _ | with_reducible assumption | (repeat (with_reducible first | exact Below.refl _ _ | assumption | refine Below.drew ?_ | refine Below.alloc ?_ (by first | omega | (simp <;> omega)) _ | refine Below.setCell ?_ (by first | omega | (simp <;> omega)) _ | refine below_drewN ?_ _)))); have hh := Has.below (by (repeat (with_reducible first | assumption | apply Has.alloc5 | apply Has.alloc2 | apply Has.alloc1 | apply Has.alloc3 | apply Has.drew | apply Has.drewN | apply Has.set_ | apply Has.allocx | exact Has.nil _))) hb; (try simp only [World.size_alloc, World.size_setCell, World.size_drew, World.heap_drewN] at hh); have hq := hh; simp only [Has, upd, World.size_alloc, World.size_setCell, World.size_drew, World.heap_drewN, and_true, true_and, ite_true, ite_false, and_self, Nat.add_right_cancel_iff, Nat.add_eq_left, Nat.left_eq_add, reduceCtorEq, Nat.reduceEqDiff, if_true, if_false] at hq; have hs := hb.size; (try simp only [World.size_alloc, World.size_setCell, World.size_drew, World.heap_drewN] at hs); have hn0 : w.heap.size ≠ w'.heap.size := (by omega); have hm0 : w'.heap.size ≠ w.heap.size := (by omega); clear hb) | (go_at_call 126; refine (isRadius_any _ _).mono ?_; rintro e w' ⟨rfl, rfl⟩) | (go_at_call 105; refine (within_any _ _ _ _).mono ?_; rintro e w' ⟨rfl, rfl⟩))
    go_ret2
    exact RetSpots.nil w (by (first | with_reducible exact Below.refl _ _ | with_reducible assumption | (repeat (with_reducible first | exact Below.refl _ _ | assumption | refine Below.drew ?_ | refine Below.alloc ?_ (by first | omega | (simp <;> omega)) _ | refine Below.setCell ?_ (by first | omega | (simp <;> omega)) _ | refine below_drewN ?_ _))))
  obtain ⟨r1, r2⟩ := (inB_iff _ _ _).1 h2
  have r3 : IntKind.i64.wrap (-r) = -r := IntWalk.i64_in _ (by omega)
  rcases tf (inB f (-r) r) with h3 | h3
  rotate_left
  · obtain ⟨rfl, rfl⟩ : l = [] ∧ ok = false := by have := HM.out.symm.trans (mArc_bad (by simp [arcB, h3])); injection this with a b; exact ⟨a, b⟩
    go_enter Try.func63, Try.ntmps63
    go_wp2_with (first | (go_at_call 94; refine (iIsSpot_any _ _ _).mono ?_; rintro e w' ⟨rfl, hb⟩; have hz : w.heap.size + 1 ≤ w'.heap.size := (by have := hb.size; first | omega | (simp at this; omega)); have hB : Below w.heap.size w w' := (by refine Below.trans ?_ (hb.mono (by first | omega | (simp <;> omega))); (first | with_reducible exact Below.refl _ _ | with_reducible assumption | (repeat (with_reducible first | exact Below.refl _ _ | assumption | refine Below.drew ?_ | refine Below.alloc ?_ (by first | omega | (simp <;> omega)) _ | refine Below.setCell ?_ (by first | omega | (simp <;> omega)) _ | refine below_drewN ?_ _)))); have hh := Has.below (by (repeat (with_reducible first | assumption | apply Has.alloc5 | apply Has.alloc2 | apply Has.alloc1 | apply Has.alloc3 | apply Has.drew | apply Has.drewN | apply Has.set_ | apply Has.allocx | exact Has.nil _))) hb; (try simp only [World.size_alloc, World.size_setCell, World.size_drew, World.heap_drewN] at hh); have hq := hh; simp only [Has, upd, World.size_alloc, World.size_setCell, World.size_drew, World.heap_drewN, and_true, true_and, ite_true, ite_false, and_self, Nat.add_right_cancel_iff, Nat.add_eq_left, Nat.left_eq_add, reduceCtorEq, Nat.reduceEqDiff, if_true, if_false] at hq; have hs := hb.size; (try simp only [World.size_alloc, World.size_setCell, World.size_drew, World.heap_drewN] at hs); have hn0 : w.heap.size ≠ w'.heap.size := (by omega); have hm0 : w'.heap.size ≠ w.heap.size := (by omega); clear hb) | (go_at_call 126; refine (isRadius_any _ _).mono ?_; rintro e w' ⟨rfl, rfl⟩) | (go_at_call 105; refine (within_any _ _ _ _).mono ?_; rintro e w' ⟨rfl, rfl⟩))
    go_ret2
    exact RetSpots.nil w (by (first | with_reducible exact Below.refl _ _ | with_reducible assumption | (repeat (with_reducible first | exact Below.refl _ _ | assumption | refine Below.drew ?_ | refine Below.alloc ?_ (by first | omega | (simp <;> omega)) _ | refine Below.setCell ?_ (by first | omega | (simp <;> omega)) _ | refine below_drewN ?_ _))))
  rcases tf (inB t (-r) r) with h4 | h4
  rotate_left
  · obtain ⟨rfl, rfl⟩ : l = [] ∧ ok = false := by have := HM.out.symm.trans (mArc_bad (by simp [arcB, h4])); injection this with a b; exact ⟨a, b⟩
    go_enter Try.func63, Try.ntmps63
    go_wp2_with (first | (go_at_call 94; refine (iIsSpot_any _ _ _).mono ?_; rintro e w' ⟨rfl, hb⟩; have hz : w.heap.size + 1 ≤ w'.heap.size := (by have := hb.size; first | omega | (simp at this; omega)); have hB : Below w.heap.size w w' := (by refine Below.trans ?_ (hb.mono (by first | omega | (simp <;> omega))); (first | with_reducible exact Below.refl _ _ | with_reducible assumption | (repeat (with_reducible first | exact Below.refl _ _ | assumption | refine Below.drew ?_ | refine Below.alloc ?_ (by first | omega | (simp <;> omega)) _ | refine Below.setCell ?_ (by first | omega | (simp <;> omega)) _ | refine below_drewN ?_ _)))); have hh := Has.below (by (repeat (with_reducible first | assumption | apply Has.alloc5 | apply Has.alloc2 | apply Has.alloc1 | apply Has.alloc3 | apply Has.drew | apply Has.drewN | apply Has.set_ | apply Has.allocx | exact Has.nil _))) hb; (try simp only [World.size_alloc, World.size_setCell, World.size_drew, World.heap_drewN] at hh); have hq := hh; simp only [Has, upd, World.size_alloc, World.size_setCell, World.size_drew, World.heap_drewN, and_true, true_and, ite_true, ite_false, and_self, Nat.add_right_cancel_iff, Nat.add_eq_left, Nat.left_eq_add, reduceCtorEq, Nat.reduceEqDiff, if_true, if_false] at hq; have hs := hb.size; (try simp only [World.size_alloc, World.size_setCell, World.size_drew, World.heap_drewN] at hs); have hn0 : w.heap.size ≠ w'.heap.size := (by omega); have hm0 : w'.heap.size ≠ w.heap.size := (by omega); clear hb) | (go_at_call 126; refine (isRadius_any _ _).mono ?_; rintro e w' ⟨rfl, rfl⟩) | (go_at_call 105; refine (within_any _ _ _ _).mono ?_; rintro e w' ⟨rfl, rfl⟩))
    go_ret2
    exact RetSpots.nil w (by (first | with_reducible exact Below.refl _ _ | with_reducible assumption | (repeat (with_reducible first | exact Below.refl _ _ | assumption | refine Below.drew ?_ | refine Below.alloc ?_ (by first | omega | (simp <;> omega)) _ | refine Below.setCell ?_ (by first | omega | (simp <;> omega)) _ | refine below_drewN ?_ _))))
  rcases tf (inB n 2 40) with h5 | h5
  rotate_left
  · obtain ⟨rfl, rfl⟩ : l = [] ∧ ok = false := by have := HM.out.symm.trans (mArc_bad (by simp [arcB, h5])); injection this with a b; exact ⟨a, b⟩
    go_enter Try.func63, Try.ntmps63
    go_wp2_with (first | (go_at_call 94; refine (iIsSpot_any _ _ _).mono ?_; rintro e w' ⟨rfl, hb⟩; have hz : w.heap.size + 1 ≤ w'.heap.size := (by have := hb.size; first | omega | (simp at this; omega)); have hB : Below w.heap.size w w' := (by refine Below.trans ?_ (hb.mono (by first | omega | (simp <;> omega))); (first | with_reducible exact Below.refl _ _ | with_reducible assumption | (repeat (with_reducible first | exact Below.refl _ _ | assumption | refine Below.drew ?_ | refine Below.alloc ?_ (by first | omega | (simp <;> omega)) _ | refine Below.setCell ?_ (by first | omega | (simp <;> omega)) _ | refine below_drewN ?_ _)))); have hh := Has.below (by (repeat (with_reducible first | assumption | apply Has.alloc5 | apply Has.alloc2 | apply Has.alloc1 | apply Has.alloc3 | apply Has.drew | apply Has.drewN | apply Has.set_ | apply Has.allocx | exact Has.nil _))) hb; (try simp only [World.size_alloc, World.size_setCell, World.size_drew, World.heap_drewN] at hh); have hq := hh; simp only [Has, upd, World.size_alloc, World.size_setCell, World.size_drew, World.heap_drewN, and_true, true_and, ite_true, ite_false, and_self, Nat.add_right_cancel_iff, Nat.add_eq_left, Nat.left_eq_add, reduceCtorEq, Nat.reduceEqDiff, if_true, if_false] at hq; have hs := hb.size; (try simp only [World.size_alloc, World.size_setCell, World.size_drew, World.heap_drewN] at hs); have hn0 : w.heap.size ≠ w'.heap.size := (by omega); have hm0 : w'.heap.size ≠ w.heap.size := (by omega); clear hb) | (go_at_call 126; refine (isRadius_any _ _).mono ?_; rintro e w' ⟨rfl, rfl⟩) | (go_at_call 105; refine (within_any _ _ _ _).mono ?_; rintro e w' ⟨rfl, rfl⟩))
    go_ret2
    exact RetSpots.nil w (by (first | with_reducible exact Below.refl _ _ | with_reducible assumption | (repeat (with_reducible first | exact Below.refl _ _ | assumption | refine Below.drew ?_ | refine Below.alloc ?_ (by first | omega | (simp <;> omega)) _ | refine Below.setCell ?_ (by first | omega | (simp <;> omega)) _ | refine below_drewN ?_ _))))
  obtain ⟨r1, r2⟩ := (inB_iff _ _ _).1 h2
  obtain ⟨f1, f2⟩ := (inB_iff _ _ _).1 h3
  obtain ⟨t1, t2⟩ := (inB_iff _ _ _).1 h4
  obtain ⟨n1, n2⟩ := (inB_iff _ _ _).1 h5
  have HB := Lib.hid (show arcB m1 m2 r f t n = true by simp [arcB, h1, h2, h3, h4, h5])
  obtain ⟨i0, hi0, hz0, hz1, hz2⟩ := info_parts infoSpot
  have HI := Lib.hid hi0
  have HZ0 := Lib.hid hz0
  have HZ1 := Lib.hid hz1
  have HZ2 := Lib.hid hz2
  clear hi0 hz0 hz1 hz2
  go_enter Try.func63, Try.ntmps63
  go_wp2_with (first | (go_at_call 94; refine (iIsSpot_any _ _ _).mono ?_; rintro e w' ⟨rfl, hb⟩; have hz : w.heap.size + 1 ≤ w'.heap.size := (by have := hb.size; first | omega | (simp at this; omega)); have hB : Below w.heap.size w w' := (by refine Below.trans ?_ (hb.mono (by first | omega | (simp <;> omega))); (first | with_reducible exact Below.refl _ _ | with_reducible assumption | (repeat (with_reducible first | exact Below.refl _ _ | assumption | refine Below.drew ?_ | refine Below.alloc ?_ (by first | omega | (simp <;> omega)) _ | refine Below.setCell ?_ (by first | omega | (simp <;> omega)) _ | refine below_drewN ?_ _)))); have hh := Has.below (by (repeat (with_reducible first | assumption | apply Has.alloc5 | apply Has.alloc2 | apply Has.alloc1 | apply Has.alloc3 | apply Has.drew | apply Has.drewN | apply Has.set_ | apply Has.allocx | exact Has.nil _))) hb; (try simp only [World.size_alloc, World.size_setCell, World.size_drew, World.heap_drewN] at hh); have hq := hh; simp only [Has, upd, World.size_alloc, World.size_setCell, World.size_drew, World.heap_drewN, and_true, true_and, ite_true, ite_false, and_self, Nat.add_right_cancel_iff, Nat.add_eq_left, Nat.left_eq_add, reduceCtorEq, Nat.reduceEqDiff, if_true, if_false] at hq; have hs := hb.size; (try simp only [World.size_alloc, World.size_setCell, World.size_drew, World.heap_drewN] at hs); have hn0 : w.heap.size ≠ w'.heap.size := (by omega); have hm0 : w'.heap.size ≠ w.heap.size := (by omega); clear hb) | (go_at_call 126; refine (isRadius_any _ _).mono ?_; rintro e w' ⟨rfl, rfl⟩) | (go_at_call 105; refine (within_any _ _ _ _).mono ?_; rintro e w' ⟨rfl, rfl⟩))
  go_loopw [12, 13] (fun s1 s2 wr => ∃ (j : Nat) (q : List (Int × Int)), (j : Int) ≤ n ∧ q.length = j ∧ s2 = .int .i64 j ∧ Hid (arcTo m1 m2 r f t n j = some q) ∧ SRow wr (w.heap.size + 1) s1 q ∧ w.heap.size + 1 ≤ wr.heap.size ∧ Below w.heap.size w wr ∧ Has wr [(w.heap.size, 0, .int .i64 m1), (w.heap.size, 1, .int .i64 m2)]) (fun _ v _ => (n - intOf v).toNat)
  case atStart => exact ⟨0, [], by omega, rfl, rfl, Lib.hid rfl, ⟨by simp, by first | exact World.ownsRow_made _ _ _ (by first | omega | (simp <;> omega)) (by simp [maxLen]) rfl | exact World.ownsRow_lit _ _ _ (by first | omega | (simp <;> omega)) (by simp [maxLen]) rfl⟩, (by first | omega | (simp <;> omega)), (by (first | with_reducible exact Below.refl _ _ | with_reducible assumption | (repeat (with_reducible first | exact Below.refl _ _ | assumption | refine Below.drew ?_ | refine Below.alloc ?_ (by first | omega | (simp <;> omega)) _ | refine Below.setCell ?_ (by first | omega | (simp <;> omega)) _ | refine below_drewN ?_ _)))), (by apply Has.weak; (focus (repeat (with_reducible first | assumption | apply Has.alloc5 | apply Has.alloc2 | apply Has.alloc1 | apply Has.alloc3 | apply Has.drew | apply Has.drewN | apply Has.set_ | apply Has.allocx | exact Has.nil _))); simp [upd, *])⟩
  case round =>
    obtain ⟨j, q, hj, hql, rfl, HA, hS, hz1, hB, hh⟩ := hrel
    have hq := hh
    simp only [Has, and_true] at hq
    have hwr := hB.size
    have HQ := Lib.hid hql
    clear hql
    by_cases hlt : (j : Int) < n
    · obtain ⟨a1, a2⟩ := mul_abs (j := j) (d := t - f) (by omega) (by omega) (by omega) (by omega)
      obtain ⟨b1, b2⟩ := quo_abs (a := (j : Int) * (t - f)) (b := n - 1) (by omega) (by omega) (by omega)
      have u1 : IntKind.i64.wrap (t - f) = t - f := IntWalk.i64_in _ (by omega)
      have u2 : IntKind.i64.wrap ((j : Int) * (t - f)) = (j : Int) * (t - f) := IntWalk.i64_in _ (by omega)
      have u3 : IntKind.i64.wrap (n - 1) = n - 1 := IntWalk.i64_in _ (by omega)
      have u4 : IntKind.i64.wrap (f + (j : Int) * (t - f) / (n - 1)) = f + (j : Int) * (t - f) / (n - 1) := IntWalk.i64_in _ (by omega)
      have v1 : w.heap.size ≠ wr.heap.size := by omega
      have v2 : wr.heap.size ≠ w.heap.size := by omega
      obtain ⟨x, y, b, hp⟩ : ∃ x y b, mOnArc m1 m2 r (f + (j : Int) * (t - f) / (n - 1)) = ((x, y), b) := ⟨_, _, _, rfl⟩
      have HP := Lib.hid hp
      have HP2 : Hid (mOnArc m1 m2 r (arcX f t n j) = ((x, y), b)) := hp
      clear hp
      go_upto_region 7 with fail
      go_cut [14, 15] (fun s3 s4 wx => ∃ g : Nat, s3 = .pointer (some ⟨g, 0, none⟩) ∧ s4 = .bool b ∧ wr.heap.size ≤ g ∧ g + 1 ≤ wx.heap.size ∧ Below w.heap.size w wx ∧ Below wr.heap.size wr wx ∧ Has wx [(w.heap.size, 0, .int .i64 m1), (w.heap.size, 1, .int .i64 m2), (g, 0, .int .i64 x), (g, 1, .int .i64 y)])
      case first =>
        go_region_held3 (fun w' => w'.cell? ⟨w.heap.size, 0, none⟩ = some (.int .i64 m1) ∧ w'.cell? ⟨w.heap.size, 1, none⟩ = some (.int .i64 m2)) (first | (go_keep; done) | ((repeat' apply And.intro) <;> (apply Has.get; (focus (repeat (with_reducible first | assumption | apply Has.alloc5 | apply Has.alloc2 | apply Has.alloc1 | apply Has.alloc3 | apply Has.drew | apply Has.drewN | apply Has.set_ | apply Has.allocx | exact Has.nil _))); simp [upd, *]))) (first | (go_at_call 131; refine (floorDiv_any _ _ _ (by omega) (by omega) (by omega) (by omega)).mono ?_; rintro e w' ⟨rfl, rfl⟩) | (go_at_call 45; refine (iOnArc_eq _ _ _ _ _ _ _ _ HP.out).mono ?_; rintro e w' ⟨rfl, hb⟩; have hz : w.heap.size + 1 ≤ w'.heap.size := (by have := hb.size; first | omega | (simp at this; omega)); have hB : Below w.heap.size w w' := (by refine Below.trans ?_ (hb.mono (by first | omega | (simp <;> omega))); (first | with_reducible exact Below.refl _ _ | with_reducible assumption | (repeat (with_reducible first | exact Below.refl _ _ | assumption | refine Below.drew ?_ | refine Below.alloc ?_ (by first | omega | (simp <;> omega)) _ | refine Below.setCell ?_ (by first | omega | (simp <;> omega)) _ | refine below_drewN ?_ _)))); have hh := Has.below (by (repeat (with_reducible first | assumption | apply Has.alloc5 | apply Has.alloc2 | apply Has.alloc1 | apply Has.alloc3 | apply Has.drew | apply Has.drewN | apply Has.set_ | apply Has.allocx | exact Has.nil _))) hb; (try simp only [World.size_alloc, World.size_setCell, World.size_drew, World.heap_drewN] at hh); have hq := hh; simp only [Has, upd, World.size_alloc, World.size_setCell, World.size_drew, World.heap_drewN, and_true, true_and, ite_true, ite_false, and_self, Nat.add_right_cancel_iff, Nat.add_eq_left, Nat.left_eq_add, reduceCtorEq, Nat.reduceEqDiff, if_true, if_false] at hq; have hs := hb.size; (try simp only [World.size_alloc, World.size_setCell, World.size_drew, World.heap_drewN] at hs); have hn0 : w.heap.size ≠ w'.heap.size := (by omega); have hm0 : w'.heap.size ≠ w.heap.size := (by omega); have hR : Below wr.heap.size wr w' := (Below.trans (by (first | with_reducible exact Below.refl _ _ | with_reducible assumption | (repeat (with_reducible first | exact Below.refl _ _ | assumption | refine Below.drew ?_ | refine Below.alloc ?_ (by first | omega | (simp <;> omega)) _ | refine Below.setCell ?_ (by first | omega | (simp <;> omega)) _ | refine below_drewN ?_ _)))) (hb.mono (by first | omega | (simp <;> omega)))); clear hb))
        all_goals (go_wp2_with fail; go_meet; exact ⟨_, rfl, rfl, (by first | omega | (simp <;> omega)), (by first | omega | (simp <;> omega)), (by (first | with_reducible exact Below.refl _ _ | with_reducible assumption | (repeat (with_reducible first | exact Below.refl _ _ | assumption | refine Below.drew ?_ | refine Below.alloc ?_ (by first | omega | (simp <;> omega)) _ | refine Below.setCell ?_ (by first | omega | (simp <;> omega)) _ | refine below_drewN ?_ _)))), (by (first | with_reducible exact Below.refl _ _ | with_reducible assumption | (repeat (with_reducible first | exact Below.refl _ _ | assumption | refine Below.drew ?_ | refine Below.alloc ?_ (by first | omega | (simp <;> omega)) _ | refine Below.setCell ?_ (by first | omega | (simp <;> omega)) _ | refine below_drewN ?_ _)))), (by apply Has.weak; (focus (repeat (with_reducible first | assumption | apply Has.alloc5 | apply Has.alloc2 | apply Has.alloc1 | apply Has.alloc3 | apply Has.drew | apply Has.drewN | apply Has.set_ | apply Has.allocx | exact Has.nil _))); simp [upd, *])⟩)
      case rest =>
        obtain ⟨g, rfl, rfl, hg, hg2, hB, hR, hh⟩ := hcut
        have hS := SRow.below hS hR (Nat.le_refl _)
        have hq := hh
        simp only [Has, and_true] at hq
        have n1' : w.heap.size ≠ g := by omega
        have n2' : g ≠ w.heap.size := by omega
        have hz2 : w.heap.size + 1 ≤ wc.heap.size := by omega
        clear u1 u2 u3 u4
        cases b
        · obtain ⟨rfl, rfl⟩ : l = [] ∧ ok = false := by have := HM.out.symm.trans (mArc_stop (by rw [HP2.out]) hlt); injection this with a b; exact ⟨a, b⟩
          go_wp2_with fail
          go_ret2
          exact RetSpots.nil w hB
        · go_wp2_with (first
            | (at_builtin
               refine wpList_append_own _ rfl _ _ 26 rfl (w.heap.size + 1) 25 i0 (.agg #[.int .i64 0, .int .i64 0]) 2 16 Try.underlying26 HI.out HZ0.out HZ1.out HZ2.out rfl (by decide) _ _ _ rfl (hS.2.alloc _) ⟨wc.heap.size, 0, none⟩ 1 1 [.int .i64 x, .int .i64 y] rfl rfl (two_new _ _ _ _) (two_cells _ _) ?c3 ?c4 ?c5 ?_
               case c3 => have := HQ.out; simp only [maxLen]; omega
               case c4 => have := HQ.out; omega
               case c5 => simp; omega
               intro v' w2 hown' hgrow _
               have hI3 := SRow.snoc (p := (x, y)) (by have := HQ.out; omega) hown'
               have hlow := World.ownsRow.lt hS.2
               have hB2 : Below w.heap.size w w2 := Below.grown (Below.alloc hB (by first | omega | (simp <;> omega)) _) hgrow (by first | omega | (simp <;> omega)) (fun r hr => by have := (hlow r hr).1; omega)
               have hhb : Has wc [(w.heap.size, 0, .int .i64 m1), (w.heap.size, 1, .int .i64 m2)] := Has.weak hh (by simp)
               have hh2 : Has w2 [(w.heap.size, 0, .int .i64 m1), (w.heap.size, 1, .int .i64 m2)] := Has.grown (Has.allocx hhb) hgrow (fun e he hr => by
                 have := (hlow _ hr.symm).1
                 simp at he
                 rcases he with rfl | rfl <;> (have h9 : w.heap.size + 1 ≤ w.heap.size := this; omega))
               have hz3 : w.heap.size + 1 ≤ w2.heap.size := by have := hgrow.size; simp at this; omega
               have HA2 : Hid (arcTo m1 m2 r f t n (j + 1) = some (q ++ [(x, y)])) := by show _ = _; rw [arcTo_yes HA.out (by rw [HP2.out]), HP2.out]
               clear hown' hgrow hlow hB hq hh hS hhb hR))
          go_roundw
          case rel => exact ⟨j + 1, q ++ [(x, y)], by omega, by have := HQ.out; simp; omega, by go_num, HA2, hI3, hz3, hB2, hh2⟩
          case measure => simp [intOf]; omega
    · obtain ⟨rfl, rfl⟩ : l = q ∧ ok = true := by
        have := HM.out.symm.trans (mArc_all HB.out (by rw [show n.toNat = j by omega]; exact HA.out)); injection this with a b; exact ⟨a, b⟩
      go_wp2
      go_ret2
      exact hS.ret (by omega) hB

set_option maxHeartbeats 8000000 in
theorem sArc_any (m1 m2 r f t n : Int) (l : List (Int × Int)) (ok : Bool) (w : World) (hm : mArc m1 m2 r f t n = (l, ok)) :
    Calls Try.prog 64 #[.agg #[.int .i64 m1, .int .i64 m2], .int .i64 r, .int .i64 f, .int .i64 t, .int .i64 n] w (RetSpots w l ok) := by
  have HM := Lib.hid hm
  clear hm
  rcases tf (goodB m1 m2) with h1 | h1
  rotate_left
  · obtain ⟨rfl, rfl⟩ : l = [] ∧ ok = false := by have := HM.out.symm.trans (mArc_bad (by simp [arcB, h1])); injection this with a b; exact ⟨a, b⟩
    go_enter Try.func64, Try.ntmps64
    go_wp2_with (first | (go_at_call 127; refine (arGood_any _ _ _ _).mono ?_; rintro e w' ⟨rfl, hb⟩; have hz : w.heap.size + 1 ≤ w'.heap.size := (by have := hb.size; first | omega | (simp at this; omega)); have hB : Below w.heap.size w w' := (by refine Below.trans ?_ (hb.mono (by first | omega | (simp <;> omega))); (first | with_reducible exact Below.refl _ _ | with_reducible assumption | (repeat (with_reducible first | exact Below.refl _ _ | assumption | refine Below.drew ?_ | refine Below.alloc ?_ (by first | omega | (simp <;> omega)) _ | refine Below.setCell ?_ (by first | omega | (simp <;> omega)) _ | refine below_drewN ?_ _)))); have hh := Has.below (by (repeat (with_reducible first | assumption | apply Has.alloc5 | apply Has.alloc2 | apply Has.alloc1 | apply Has.alloc3 | apply Has.drew | apply Has.drewN | apply Has.set_ | apply Has.allocx | exact Has.nil _))) hb; (try simp only [World.size_alloc, World.size_setCell, World.size_drew, World.heap_drewN] at hh); have hq := hh; simp only [Has, upd, World.size_alloc, World.size_setCell, World.size_drew, World.heap_drewN, and_true, true_and, ite_true, ite_false, and_self, Nat.add_right_cancel_iff, Nat.add_eq_left, Nat.left_eq_add, reduceCtorEq, Nat.reduceEqDiff, if_true, if_false] at hq; have hs := hb.size; (try simp only [World.size_alloc, World.size_setCell, World.size_drew, World.heap_drewN] at hs); have hn0 : w.heap.size ≠ w'.heap.size := (by omega); have hm0 : w'.heap.size ≠ w.heap.size := (by omega); clear hb) | (go_at_call 106; refine (l1In_any _ _ _ _).mono ?_; rintro e w' ⟨rfl, rfl⟩))
    go_ret2
    exact RetSpots.nil w (by (first | with_reducible exact Below.refl _ _ | with_reducible assumption | (repeat (with_reducible first | exact Below.refl _ _ | assumption | refine Below.drew ?_ | refine Below.alloc ?_ (by first | omega | (simp <;> omega)) _ | refine Below.setCell ?_ (by first | omega | (simp <;> omega)) _ | refine below_drewN ?_ _))))
  rcases tf (inB r 1 1400) with h2 | h2
  rotate_left
  · obtain ⟨rfl, rfl⟩ : l = [] ∧ ok = false := by have := HM.out.symm.trans (mArc_bad (by simp [arcB, h2])); injection this with a b; exact ⟨a, b⟩
    go_enter Try.func64, Try.ntmps64
    go_wp2_with (first | (go_at_call 127; refine (arGood_any _ _ _ _).mono ?_; rintro e w' ⟨rfl, hb⟩; have hz : w.heap.size + 1 ≤ w'.heap.size := (by have := hb.size; first | omega | (simp at this; omega)); have hB : Below w.heap.size w w' := (by refine Below.trans ?_ (hb.mono (by first | omega | (simp <;> omega))); (first | with_reducible exact Below.refl _ _ | with_reducible assumption | (repeat (with_reducible first | exact Below.refl _ _ | assumption | refine Below.drew ?_ | refine Below.alloc ?_ (by first | omega | (simp <;> omega)) _ | refine Below.setCell ?_ (by first | omega | (simp <;> omega)) _ | refine below_drewN ?_ _)))); have hh := Has.below (by (repeat (with_reducible first | assumption | apply Has.alloc5 | apply Has.alloc2 | apply Has.alloc1 | apply Has.alloc3 | apply Has.drew | apply Has.drewN | apply Has.set_ | apply Has.allocx | exact Has.nil _))) hb; (try simp only [World.size_alloc, World.size_setCell, World.size_drew, World.heap_drewN] at hh); have hq := hh; simp only [Has, upd, World.size_alloc, World.size_setCell, World.size_drew, World.heap_drewN, and_true, true_and, ite_true, ite_false, and_self, Nat.add_right_cancel_iff, Nat.add_eq_left, Nat.left_eq_add, reduceCtorEq, Nat.reduceEqDiff, if_true, if_false] at hq; have hs := hb.size; (try simp only [World.size_alloc, World.size_setCell, World.size_drew, World.heap_drewN] at hs); have hn0 : w.heap.size ≠ w'.heap.size := (by omega); have hm0 : w'.heap.size ≠ w.heap.size := (by omega); clear hb) | (go_at_call 106; refine (l1In_any _ _ _ _).mono ?_; rintro e w' ⟨rfl, rfl⟩))
    go_ret2
    exact RetSpots.nil w (by (first | with_reducible exact Below.refl _ _ | with_reducible assumption | (repeat (with_reducible first | exact Below.refl _ _ | assumption | refine Below.drew ?_ | refine Below.alloc ?_ (by first | omega | (simp <;> omega)) _ | refine Below.setCell ?_ (by first | omega | (simp <;> omega)) _ | refine below_drewN ?_ _))))
  obtain ⟨r1, r2⟩ := (inB_iff _ _ _).1 h2
  have r3 : IntKind.i64.wrap (-r) = -r := IntWalk.i64_in _ (by omega)
  rcases tf (inB f (-r) r) with h3 | h3
  rotate_left
  · obtain ⟨rfl, rfl⟩ : l = [] ∧ ok = false := by have := HM.out.symm.trans (mArc_bad (by simp [arcB, h3])); injection this with a b; exact ⟨a, b⟩
    go_enter Try.func64, Try.ntmps64
    go_wp2_with (first | (go_at_call 127; refine (arGood_any _ _ _ _).mono ?_; rintro e w' ⟨rfl, hb⟩; have hz : w.heap.size + 1 ≤ w'.heap.size := (by have := hb.size; first | omega | (simp at this; omega)); have hB : Below w.heap.size w w' := (by refine Below.trans ?_ (hb.mono (by first | omega | (simp <;> omega))); (first | with_reducible exact Below.refl _ _ | with_reducible assumption | (repeat (with_reducible first | exact Below.refl _ _ | assumption | refine Below.drew ?_ | refine Below.alloc ?_ (by first | omega | (simp <;> omega)) _ | refine Below.setCell ?_ (by first | omega | (simp <;> omega)) _ | refine below_drewN ?_ _)))); have hh := Has.below (by (repeat (with_reducible first | assumption | apply Has.alloc5 | apply Has.alloc2 | apply Has.alloc1 | apply Has.alloc3 | apply Has.drew | apply Has.drewN | apply Has.set_ | apply Has.allocx | exact Has.nil _))) hb; (try simp only [World.size_alloc, World.size_setCell, World.size_drew, World.heap_drewN] at hh); have hq := hh; simp only [Has, upd, World.size_alloc, World.size_setCell, World.size_drew, World.heap_drewN, and_true, true_and, ite_true, ite_false, and_self, Nat.add_right_cancel_iff, Nat.add_eq_left, Nat.left_eq_add, reduceCtorEq, Nat.reduceEqDiff, if_true, if_false] at hq; have hs := hb.size; (try simp only [World.size_alloc, World.size_setCell, World.size_drew, World.heap_drewN] at hs); have hn0 : w.heap.size ≠ w'.heap.size := (by omega); have hm0 : w'.heap.size ≠ w.heap.size := (by omega); clear hb) | (go_at_call 106; refine (l1In_any _ _ _ _).mono ?_; rintro e w' ⟨rfl, rfl⟩))
    go_ret2
    exact RetSpots.nil w (by (first | with_reducible exact Below.refl _ _ | with_reducible assumption | (repeat (with_reducible first | exact Below.refl _ _ | assumption | refine Below.drew ?_ | refine Below.alloc ?_ (by first | omega | (simp <;> omega)) _ | refine Below.setCell ?_ (by first | omega | (simp <;> omega)) _ | refine below_drewN ?_ _))))
  rcases tf (inB t (-r) r) with h4 | h4
  rotate_left
  · obtain ⟨rfl, rfl⟩ : l = [] ∧ ok = false := by have := HM.out.symm.trans (mArc_bad (by simp [arcB, h4])); injection this with a b; exact ⟨a, b⟩
    go_enter Try.func64, Try.ntmps64
    go_wp2_with (first | (go_at_call 127; refine (arGood_any _ _ _ _).mono ?_; rintro e w' ⟨rfl, hb⟩; have hz : w.heap.size + 1 ≤ w'.heap.size := (by have := hb.size; first | omega | (simp at this; omega)); have hB : Below w.heap.size w w' := (by refine Below.trans ?_ (hb.mono (by first | omega | (simp <;> omega))); (first | with_reducible exact Below.refl _ _ | with_reducible assumption | (repeat (with_reducible first | exact Below.refl _ _ | assumption | refine Below.drew ?_ | refine Below.alloc ?_ (by first | omega | (simp <;> omega)) _ | refine Below.setCell ?_ (by first | omega | (simp <;> omega)) _ | refine below_drewN ?_ _)))); have hh := Has.below (by (repeat (with_reducible first | assumption | apply Has.alloc5 | apply Has.alloc2 | apply Has.alloc1 | apply Has.alloc3 | apply Has.drew | apply Has.drewN | apply Has.set_ | apply Has.allocx | exact Has.nil _))) hb; (try simp only [World.size_alloc, World.size_setCell, World.size_drew, World.heap_drewN] at hh); have hq := hh; simp only [Has, upd, World.size_alloc, World.size_setCell, World.size_drew, World.heap_drewN, and_true, true_and, ite_true, ite_false, and_self, Nat.add_right_cancel_iff, Nat.add_eq_left, Nat.left_eq_add, reduceCtorEq, Nat.reduceEqDiff, if_true, if_false] at hq; have hs := hb.size; (try simp only [World.size_alloc, World.size_setCell, World.size_drew, World.heap_drewN] at hs); have hn0 : w.heap.size ≠ w'.heap.size := (by omega); have hm0 : w'.heap.size ≠ w.heap.size := (by omega); clear hb) | (go_at_call 106; refine (l1In_any _ _ _ _).mono ?_; rintro e w' ⟨rfl, rfl⟩))
    go_ret2
    exact RetSpots.nil w (by (first | with_reducible exact Below.refl _ _ | with_reducible assumption | (repeat (with_reducible first | exact Below.refl _ _ | assumption | refine Below.drew ?_ | refine Below.alloc ?_ (by first | omega | (simp <;> omega)) _ | refine Below.setCell ?_ (by first | omega | (simp <;> omega)) _ | refine below_drewN ?_ _))))
  rcases tf (inB n 2 40) with h5 | h5
  rotate_left
  · obtain ⟨rfl, rfl⟩ : l = [] ∧ ok = false := by have := HM.out.symm.trans (mArc_bad (by simp [arcB, h5])); injection this with a b; exact ⟨a, b⟩
    go_enter Try.func64, Try.ntmps64
    go_wp2_with (first | (go_at_call 127; refine (arGood_any _ _ _ _).mono ?_; rintro e w' ⟨rfl, hb⟩; have hz : w.heap.size + 1 ≤ w'.heap.size := (by have := hb.size; first | omega | (simp at this; omega)); have hB : Below w.heap.size w w' := (by refine Below.trans ?_ (hb.mono (by first | omega | (simp <;> omega))); (first | with_reducible exact Below.refl _ _ | with_reducible assumption | (repeat (with_reducible first | exact Below.refl _ _ | assumption | refine Below.drew ?_ | refine Below.alloc ?_ (by first | omega | (simp <;> omega)) _ | refine Below.setCell ?_ (by first | omega | (simp <;> omega)) _ | refine below_drewN ?_ _)))); have hh := Has.below (by (repeat (with_reducible first | assumption | apply Has.alloc5 | apply Has.alloc2 | apply Has.alloc1 | apply Has.alloc3 | apply Has.drew | apply Has.drewN | apply Has.set_ | apply Has.allocx | exact Has.nil _))) hb; (try simp only [World.size_alloc, World.size_setCell, World.size_drew, World.heap_drewN] at hh); have hq := hh; simp only [Has, upd, World.size_alloc, World.size_setCell, World.size_drew, World.heap_drewN, and_true, true_and, ite_true, ite_false, and_self, Nat.add_right_cancel_iff, Nat.add_eq_left, Nat.left_eq_add, reduceCtorEq, Nat.reduceEqDiff, if_true, if_false] at hq; have hs := hb.size; (try simp only [World.size_alloc, World.size_setCell, World.size_drew, World.heap_drewN] at hs); have hn0 : w.heap.size ≠ w'.heap.size := (by omega); have hm0 : w'.heap.size ≠ w.heap.size := (by omega); clear hb) | (go_at_call 106; refine (l1In_any _ _ _ _).mono ?_; rintro e w' ⟨rfl, rfl⟩))
    go_ret2
    exact RetSpots.nil w (by (first | with_reducible exact Below.refl _ _ | with_reducible assumption | (repeat (with_reducible first | exact Below.refl _ _ | assumption | refine Below.drew ?_ | refine Below.alloc ?_ (by first | omega | (simp <;> omega)) _ | refine Below.setCell ?_ (by first | omega | (simp <;> omega)) _ | refine below_drewN ?_ _))))
  obtain ⟨r1, r2⟩ := (inB_iff _ _ _).1 h2
  obtain ⟨f1, f2⟩ := (inB_iff _ _ _).1 h3
  obtain ⟨t1, t2⟩ := (inB_iff _ _ _).1 h4
  obtain ⟨n1, n2⟩ := (inB_iff _ _ _).1 h5
  have HB := Lib.hid (show arcB m1 m2 r f t n = true by simp [arcB, h1, h2, h3, h4, h5])
  obtain ⟨i0, hi0, hz0, hz1, hz2⟩ := info_parts infoSpot
  have HI := Lib.hid hi0
  have HZ0 := Lib.hid hz0
  have HZ1 := Lib.hid hz1
  have HZ2 := Lib.hid hz2
  clear hi0 hz0 hz1 hz2
  go_enter Try.func64, Try.ntmps64
  go_wp2_with (first | (go_at_call 127; refine (arGood_any _ _ _ _).mono ?_; rintro e w' ⟨rfl, hb⟩; have hz : w.heap.size + 1 ≤ w'.heap.size := (by have := hb.size; first | omega | (simp at this; omega)); have hB : Below w.heap.size w w' := (by refine Below.trans ?_ (hb.mono (by first | omega | (simp <;> omega))); (first | with_reducible exact Below.refl _ _ | with_reducible assumption | (repeat (with_reducible first | exact Below.refl _ _ | assumption | refine Below.drew ?_ | refine Below.alloc ?_ (by first | omega | (simp <;> omega)) _ | refine Below.setCell ?_ (by first | omega | (simp <;> omega)) _ | refine below_drewN ?_ _)))); have hh := Has.below (by (repeat (with_reducible first | assumption | apply Has.alloc5 | apply Has.alloc2 | apply Has.alloc1 | apply Has.alloc3 | apply Has.drew | apply Has.drewN | apply Has.set_ | apply Has.allocx | exact Has.nil _))) hb; (try simp only [World.size_alloc, World.size_setCell, World.size_drew, World.heap_drewN] at hh); have hq := hh; simp only [Has, upd, World.size_alloc, World.size_setCell, World.size_drew, World.heap_drewN, and_true, true_and, ite_true, ite_false, and_self, Nat.add_right_cancel_iff, Nat.add_eq_left, Nat.left_eq_add, reduceCtorEq, Nat.reduceEqDiff, if_true, if_false] at hq; have hs := hb.size; (try simp only [World.size_alloc, World.size_setCell, World.size_drew, World.heap_drewN] at hs); have hn0 : w.heap.size ≠ w'.heap.size := (by omega); have hm0 : w'.heap.size ≠ w.heap.size := (by omega); clear hb) | (go_at_call 106; refine (l1In_any _ _ _ _).mono ?_; rintro e w' ⟨rfl, rfl⟩))
  go_loopw [12, 13] (fun s1 s2 wr => ∃ (j : Nat) (q : List (Int × Int)), (j : Int) ≤ n ∧ q.length = j ∧ s2 = .int .i64 j ∧ Hid (arcTo m1 m2 r f t n j = some q) ∧ SRow wr (w.heap.size + 1) s1 q ∧ w.heap.size + 1 ≤ wr.heap.size ∧ Below w.heap.size w wr ∧ Has wr [(w.heap.size, 0, .int .i64 m1), (w.heap.size, 1, .int .i64 m2)]) (fun _ v _ => (n - intOf v).toNat)
  case atStart => exact ⟨0, [], by omega, rfl, rfl, Lib.hid rfl, SRow.nil _ _, (by first | omega | (simp <;> omega)), (by (first | with_reducible exact Below.refl _ _ | with_reducible assumption | (repeat (with_reducible first | exact Below.refl _ _ | assumption | refine Below.drew ?_ | refine Below.alloc ?_ (by first | omega | (simp <;> omega)) _ | refine Below.setCell ?_ (by first | omega | (simp <;> omega)) _ | refine below_drewN ?_ _)))), (by apply Has.weak; (focus (repeat (with_reducible first | assumption | apply Has.alloc5 | apply Has.alloc2 | apply Has.alloc1 | apply Has.alloc3 | apply Has.drew | apply Has.drewN | apply Has.set_ | apply Has.allocx | exact Has.nil _))); simp [upd, *])⟩
  case round =>
    obtain ⟨j, q, hj, hql, rfl, HA, hS, hz1, hB, hh⟩ := hrel
    have hq := hh
    simp only [Has, and_true] at hq
    have hwr := hB.size
    have HQ := Lib.hid hql
    clear hql
    by_cases hlt : (j : Int) < n
    · obtain ⟨a1, a2⟩ := mul_abs (j := j) (d := t - f) (by omega) (by omega) (by omega) (by omega)
      obtain ⟨b1, b2⟩ := quo_abs (a := (j : Int) * (t - f)) (b := n - 1) (by omega) (by omega) (by omega)
      have u1 : IntKind.i64.wrap (t - f) = t - f := IntWalk.i64_in _ (by omega)
      have u2 : IntKind.i64.wrap ((j : Int) * (t - f)) = (j : Int) * (t - f) := IntWalk.i64_in _ (by omega)
      have u3 : IntKind.i64.wrap (n - 1) = n - 1 := IntWalk.i64_in _ (by omega)
      have u4 : IntKind.i64.wrap (f + (j : Int) * (t - f) / (n - 1)) = f + (j : Int) * (t - f) / (n - 1) := IntWalk.i64_in _ (by omega)
      have v1 : w.heap.size ≠ wr.heap.size := by omega
      have v2 : wr.heap.size ≠ w.heap.size := by omega
      obtain ⟨x, y, b, hp⟩ : ∃ x y b, mOnArc m1 m2 r (f + (j : Int) * (t - f) / (n - 1)) = ((x, y), b) := ⟨_, _, _, rfl⟩
      have HP := Lib.hid hp
      have HP2 : Hid (mOnArc m1 m2 r (arcX f t n j) = ((x, y), b)) := hp
      clear hp
      go_upto_region 7 with fail
      go_cut [14, 15] (fun s3 s4 wx => ∃ g : Nat, s3 = .pointer (some ⟨g, 0, none⟩) ∧ s4 = .bool b ∧ wr.heap.size ≤ g ∧ g + 1 ≤ wx.heap.size ∧ Below w.heap.size w wx ∧ Below wr.heap.size wr wx ∧ Has wx [(w.heap.size, 0, .int .i64 m1), (w.heap.size, 1, .int .i64 m2), (g, 0, .int .i64 x), (g, 1, .int .i64 y)])
      case first =>
        go_region_held3 (fun w' => w'.cell? ⟨w.heap.size, 0, none⟩ = some (.int .i64 m1) ∧ w'.cell? ⟨w.heap.size, 1, none⟩ = some (.int .i64 m2)) (first | (go_keep; done) | ((repeat' apply And.intro) <;> (apply Has.get; (focus (repeat (with_reducible first | assumption | apply Has.alloc5 | apply Has.alloc2 | apply Has.alloc1 | apply Has.alloc3 | apply Has.drew | apply Has.drewN | apply Has.set_ | apply Has.allocx | exact Has.nil _))); simp [upd, *]))) (first | (go_at_call 132; refine (arFloor_any _ _ _ (by omega) (by omega) (by omega) (by omega)).mono ?_; rintro e w' ⟨rfl, rfl⟩) | (go_at_call 46; refine (sOnArc_eq _ _ _ _ _ _ _ _ HP.out).mono ?_; rintro e w' ⟨rfl, hb⟩; have hz : w.heap.size + 1 ≤ w'.heap.size := (by have := hb.size; first | omega | (simp at this; omega)); have hB : Below w.heap.size w w' := (by refine Below.trans ?_ (hb.mono (by first | omega | (simp <;> omega))); (first | with_reducible exact Below.refl _ _ | with_reducible assumption | (repeat (with_reducible first | exact Below.refl _ _ | assumption | refine Below.drew ?_ | refine Below.alloc ?_ (by first | omega | (simp <;> omega)) _ | refine Below.setCell ?_ (by first | omega | (simp <;> omega)) _ | refine below_drewN ?_ _)))); have hh := Has.below (by (repeat (with_reducible first | assumption | apply Has.alloc5 | apply Has.alloc2 | apply Has.alloc1 | apply Has.alloc3 | apply Has.drew | apply Has.drewN | apply Has.set_ | apply Has.allocx | exact Has.nil _))) hb; (try simp only [World.size_alloc, World.size_setCell, World.size_drew, World.heap_drewN] at hh); have hq := hh; simp only [Has, upd, World.size_alloc, World.size_setCell, World.size_drew, World.heap_drewN, and_true, true_and, ite_true, ite_false, and_self, Nat.add_right_cancel_iff, Nat.add_eq_left, Nat.left_eq_add, reduceCtorEq, Nat.reduceEqDiff, if_true, if_false] at hq; have hs := hb.size; (try simp only [World.size_alloc, World.size_setCell, World.size_drew, World.heap_drewN] at hs); have hn0 : w.heap.size ≠ w'.heap.size := (by omega); have hm0 : w'.heap.size ≠ w.heap.size := (by omega); have hR : Below wr.heap.size wr w' := (Below.trans (by (first | with_reducible exact Below.refl _ _ | with_reducible assumption | (repeat (with_reducible first | exact Below.refl _ _ | assumption | refine Below.drew ?_ | refine Below.alloc ?_ (by first | omega | (simp <;> omega)) _ | refine Below.setCell ?_ (by first | omega | (simp <;> omega)) _ | refine below_drewN ?_ _)))) (hb.mono (by first | omega | (simp <;> omega)))); clear hb))
        all_goals (go_wp2_with fail; go_meet; exact ⟨_, rfl, rfl, (by first | omega | (simp <;> omega)), (by first | omega | (simp <;> omega)), (by (first | with_reducible exact Below.refl _ _ | with_reducible assumption | (repeat (with_reducible first | exact Below.refl _ _ | assumption | refine Below.drew ?_ | refine Below.alloc ?_ (by first | omega | (simp <;> omega)) _ | refine Below.setCell ?_ (by first | omega | (simp <;> omega)) _ | refine below_drewN ?_ _)))), (by (first | with_reducible exact Below.refl _ _ | with_reducible assumption | (repeat (with_reducible first | exact Below.refl _ _ | assumption | refine Below.drew ?_ | refine Below.alloc ?_ (by first | omega | (simp <;> omega)) _ | refine Below.setCell ?_ (by first | omega | (simp <;> omega)) _ | refine below_drewN ?_ _)))), (by apply Has.weak; (focus (repeat (with_reducible first | assumption | apply Has.alloc5 | apply Has.alloc2 | apply Has.alloc1 | apply Has.alloc3 | apply Has.drew | apply Has.drewN | apply Has.set_ | apply Has.allocx | exact Has.nil _))); simp [upd, *])⟩)
      case rest =>
        obtain ⟨g, rfl, rfl, hg, hg2, hB, hR, hh⟩ := hcut
        have hS := SRow.below hS hR (Nat.le_refl _)
        have hq := hh
        simp only [Has, and_true] at hq
        have n1' : w.heap.size ≠ g := by omega
        have n2' : g ≠ w.heap.size := by omega
        have hz2 : w.heap.size + 1 ≤ wc.heap.size := by omega
        clear u1 u2 u3 u4
        cases b
        · obtain ⟨rfl, rfl⟩ : l = [] ∧ ok = false := by have := HM.out.symm.trans (mArc_stop (by rw [HP2.out]) hlt); injection this with a b; exact ⟨a, b⟩
          go_wp2_with fail
          go_ret2
          exact RetSpots.nil w hB
        · go_wp2_with (first
            | (at_builtin
               refine wpList_append_own _ rfl _ _ 26 rfl (w.heap.size + 1) 25 i0 (.agg #[.int .i64 0, .int .i64 0]) 2 16 Try.underlying26 HI.out HZ0.out HZ1.out HZ2.out rfl (by decide) _ _ _ rfl (hS.2.alloc _) ⟨wc.heap.size, 0, none⟩ 1 1 [.int .i64 x, .int .i64 y] rfl rfl (two_new _ _ _ _) (two_cells _ _) ?c3 ?c4 ?c5 ?_
               case c3 => have := HQ.out; simp only [maxLen]; omega
               case c4 => have := HQ.out; omega
               case c5 => simp; omega
               intro v' w2 hown' hgrow _
               have hI3 := SRow.snoc (p := (x, y)) (by have := HQ.out; omega) hown'
               have hlow := World.ownsRow.lt hS.2
               have hB2 : Below w.heap.size w w2 := Below.grown (Below.alloc hB (by first | omega | (simp <;> omega)) _) hgrow (by first | omega | (simp <;> omega)) (fun r hr => by have := (hlow r hr).1; omega)
               have hhb : Has wc [(w.heap.size, 0, .int .i64 m1), (w.heap.size, 1, .int .i64 m2)] := Has.weak hh (by simp)
               have hh2 : Has w2 [(w.heap.size, 0, .int .i64 m1), (w.heap.size, 1, .int .i64 m2)] := Has.grown (Has.allocx hhb) hgrow (fun e he hr => by
                 have := (hlow _ hr.symm).1
                 simp at he
                 rcases he with rfl | rfl <;> (have h9 : w.heap.size + 1 ≤ w.heap.size := this; omega))
               have hz3 : w.heap.size + 1 ≤ w2.heap.size := by have := hgrow.size; simp at this; omega
               have HA2 : Hid (arcTo m1 m2 r f t n (j + 1) = some (q ++ [(x, y)])) := by show _ = _; rw [arcTo_yes HA.out (by rw [HP2.out]), HP2.out]
               clear hown' hgrow hlow hB hq hh hS hhb hR))
          go_roundw
          case rel => exact ⟨j + 1, q ++ [(x, y)], by omega, by have := HQ.out; simp; omega, by go_num, HA2, hI3, hz3, hB2, hh2⟩
          case measure => simp [intOf]; omega
    · obtain ⟨rfl, rfl⟩ : l = q ∧ ok = true := by
        have := HM.out.symm.trans (mArc_all HB.out (by rw [show n.toNat = j by omega]; exact HA.out)); injection this with a b; exact ⟨a, b⟩
      go_wp2
      go_ret2
      exact hS.ret (by omega) hB

end Go.Proofs.Ytkadnmebijfacaa

