/- Contracts of the functions on roots, arcs and chords, of the program and of the reference. -/
import Derived.Test.YtkadnmebijfacaaSpot
import Derived.LoopTactic
namespace Go.Proofs.Ytkadnmebijfacaa
open Go.RowKit
set_option linter.unusedVariables false
set_option linter.unusedSimpArgs false

/-- the greatest whole number whose square is at most n -/
def irootN : Nat → Nat
  | 0 => 0
  | n + 1 => if (irootN n + 1) * (irootN n + 1) ≤ n + 1 then irootN n + 1 else irootN n
theorem irootN_spec (n : Nat) : irootN n * irootN n ≤ n ∧ n < (irootN n + 1) * (irootN n + 1) := by
  induction n with
  | zero => simp [irootN]
  | succ n ih =>
    obtain ⟨h1, h2⟩ := ih
    simp only [irootN]
    split
    · rename_i h
      refine ⟨h, ?_⟩
      have : (irootN n + 1 + 1) * (irootN n + 1 + 1) = (irootN n + 1) * (irootN n + 1) + 2 * (irootN n + 1) + 1 := by rw [Nat.add_mul, Nat.mul_add]; omega
      omega
    · rename_i h
      exact ⟨by omega, by omega⟩
def iroot (n : Int) : Int := (irootN n.toNat : Int)
theorem iroot_spec (n : Int) (h : 0 ≤ n) : 0 ≤ iroot n ∧ iroot n * iroot n ≤ n ∧ n < (iroot n + 1) * (iroot n + 1) := by
  have := irootN_spec n.toNat
  unfold iroot
  refine ⟨by omega, ?_, ?_⟩
  · have h1 : ((irootN n.toNat * irootN n.toNat : Nat) : Int) ≤ n := by omega
    simpa using h1
  · have h1 : n < (((irootN n.toNat + 1) * (irootN n.toNat + 1) : Nat) : Int) := by omega
    simpa using h1
theorem iroot_eq {n r : Int} (h : 0 ≤ n) (h0 : 0 ≤ r) (h1 : r * r ≤ n) (h2 : n < (r + 1) * (r + 1)) : iroot n = r := by
  obtain ⟨a, b, c⟩ := iroot_spec n h
  rcases Int.lt_trichotomy (iroot n) r with hlt | heq | hgt
  · have : (iroot n + 1) * (iroot n + 1) ≤ r * r := Int.mul_le_mul (by omega) (by omega) (by omega) (by omega)
    omega
  · exact heq
  · have : (r + 1) * (r + 1) ≤ iroot n * iroot n := Int.mul_le_mul (by omega) (by omega) (by omega) (by omega)
    omega
/-- what a binary search knows -/
def RootIn (n lo hi : Int) : Prop := lo * lo ≤ n ∧ n < (hi + 1) * (hi + 1)
theorem rootIn_start {n : Int} (h0 : 0 ≤ n) (h : n ≤ 10000000) : RootIn n 0 4000 := ⟨by omega, by omega⟩
theorem rootIn_end {n lo hi : Int} (hn : 0 ≤ n) (h : RootIn n lo hi) (h0 : 0 ≤ lo) (hle : lo ≤ hi) (hge : hi ≤ lo) : iroot n = lo := by
  obtain rfl : lo = hi := by omega
  exact iroot_eq hn h0 h.1 h.2
theorem rootIn_low {n lo hi m : Int} (h : RootIn n lo hi) (hm : m * m ≤ n) : RootIn n m hi := ⟨hm, h.2⟩
theorem rootIn_high {n lo hi m : Int} (h : RootIn n lo hi) (hm : n < m * m) : RootIn n lo (m - 1) := ⟨h.1, by rw [show m - 1 + 1 = m by omega]; exact hm⟩
theorem mid_sq {lo hi : Int} (h0 : 0 ≤ lo) (h1 : lo < hi) (h2 : hi ≤ 4000) : 0 ≤ (lo + hi + 1) / 2 * ((lo + hi + 1) / 2) ∧ (lo + hi + 1) / 2 * ((lo + hi + 1) / 2) ≤ 16000000 := by
  have := sqr_le (d := (lo + hi + 1) / 2) (m := 4000) (by omega) (by omega)
  exact ⟨this.1, by omega⟩

set_option maxHeartbeats 400000 in
theorem rootOf_any (n : Int) (w : World) (h0 : 0 ≤ n) (h1 : n ≤ 10000000) :
    Calls Try.prog 122 #[.int .i64 n] w fun e w' => e = .returned (.int .i64 (iroot n)) ∧ w = w' := by
  have H := Lib.hid (rootIn_start h0 h1)
  go_enter Try.func122, Try.ntmps122
  go_wp2
  go_loop [3, 4] (fun l h => ∃ lo hi : Int, 0 ≤ lo ∧ lo ≤ hi ∧ hi ≤ 4000 ∧ l = .int .i64 lo ∧ h = .int .i64 hi ∧ Hid (RootIn n lo hi)) (fun l h => (intOf h - intOf l).toNat)
  case atStart => exact ⟨0, 4000, by omega, by omega, by omega, rfl, rfl, H⟩
  case round =>
    obtain ⟨lo, hi, a0, a1, a2, rfl, rfl, HR⟩ := hrel
    by_cases hlt : lo < hi
    · obtain ⟨s0, s1⟩ := mid_sq a0 hlt a2
      by_cases hm : (lo + hi + 1) / 2 * ((lo + hi + 1) / 2) ≤ n
      · go_wp2
        go_round
        case rel => exact ⟨_, hi, by omega, by omega, by omega, rfl, rfl, Lib.hid (rootIn_low HR.out hm)⟩
        case measure => simp [intOf]; omega
      · go_wp2
        go_round
        case rel => exact ⟨lo, _, by omega, by omega, by omega, rfl, rfl, Lib.hid (rootIn_high HR.out (by omega))⟩
        case measure => simp [intOf]; omega
    · go_wp2
      go_ret
      exact ⟨by rw [rootIn_end h0 HR.out a0 a1 (by omega)]; rfl, rfl⟩

set_option maxHeartbeats 400000 in
theorem arRoot_any (n : Int) (w : World) (h0 : 0 ≤ n) (h1 : n ≤ 10000000) :
    Calls Try.prog 123 #[.int .i64 n] w fun e w' => e = .returned (.int .i64 (iroot n)) ∧ w = w' := by
  have H := Lib.hid (rootIn_start h0 h1)
  go_enter Try.func123, Try.ntmps123
  go_wp2
  go_loop [3, 4] (fun l h => ∃ lo hi : Int, 0 ≤ lo ∧ lo ≤ hi ∧ hi ≤ 4000 ∧ l = .int .i64 lo ∧ h = .int .i64 hi ∧ Hid (RootIn n lo hi)) (fun l h => (intOf h - intOf l).toNat)
  case atStart => exact ⟨0, 4000, by omega, by omega, by omega, rfl, rfl, H⟩
  case round =>
    obtain ⟨lo, hi, a0, a1, a2, rfl, rfl, HR⟩ := hrel
    by_cases hlt : lo < hi
    · obtain ⟨s0, s1⟩ := mid_sq a0 hlt a2
      by_cases hm : (lo + hi + 1) / 2 * ((lo + hi + 1) / 2) ≤ n
      · go_wp2
        go_round
        case rel => exact ⟨_, hi, by omega, by omega, by omega, rfl, rfl, Lib.hid (rootIn_low HR.out hm)⟩
        case measure => simp [intOf]; omega
      · go_wp2
        go_round
        case rel => exact ⟨lo, _, by omega, by omega, by omega, rfl, rfl, Lib.hid (rootIn_high HR.out (by omega))⟩
        case measure => simp [intOf]; omega
    · go_wp2
      go_ret
      exact ⟨by rw [rootIn_end h0 HR.out a0 a1 (by omega)]; rfl, rfl⟩

def mRootOf (n : Int) : Int × Bool := if inB n 0 10000000 then (iroot n, true) else (0, false)

theorem iRootOf_any (n : Int) (w : World) :
    Calls Try.prog 42 #[.int .i64 n] w fun e w' => e = .returned (.tuple #[.int .i64 (mRootOf n).1, .bool (mRootOf n).2]) ∧ w = w' := by
  rcases tf (inB n 0 10000000) with hx | hx
  · obtain ⟨a1, a2⟩ := (inB_iff _ _ _).1 hx
    go_enter Try.func42, Try.ntmps42
    go_wp2_with (first | (go_at_call 105; refine (within_any _ _ _ _).mono ?_; rintro e w' ⟨rfl, rfl⟩) | (go_at_call 122; refine (rootOf_any _ _ a1 a2).mono ?_; rintro e w' ⟨rfl, rfl⟩))
    go_ret2
    exact ⟨by simp [mRootOf, hx], rfl⟩
  · go_enter Try.func42, Try.ntmps42
    go_wp2_with (go_at_call 105; refine (within_any _ _ _ _).mono ?_; rintro e w' ⟨rfl, rfl⟩)
    go_ret2
    exact ⟨by simp [mRootOf, hx], rfl⟩

theorem sRootOf_any (n : Int) (w : World) :
    Calls Try.prog 43 #[.int .i64 n] w fun e w' => e = .returned (.tuple #[.int .i64 (mRootOf n).1, .bool (mRootOf n).2]) ∧ w = w' := by
  rcases tf (inB n 0 10000000) with hx | hx
  · obtain ⟨a1, a2⟩ := (inB_iff _ _ _).1 hx
    go_enter Try.func43, Try.ntmps43
    go_wp2_with (first | (go_at_call 106; refine (l1In_any _ _ _ _).mono ?_; rintro e w' ⟨rfl, rfl⟩) | (go_at_call 123; refine (arRoot_any _ _ a1 a2).mono ?_; rintro e w' ⟨rfl, rfl⟩))
    go_ret2
    exact ⟨by simp [mRootOf, hx], rfl⟩
  · go_enter Try.func43, Try.ntmps43
    go_wp2_with (go_at_call 106; refine (l1In_any _ _ _ _).mono ?_; rintro e w' ⟨rfl, rfl⟩)
    go_ret2
    exact ⟨by simp [mRootOf, hx], rfl⟩

theorem isRadius_any (r : Int) (w : World) :
    Calls Try.prog 126 #[.int .i64 r] w fun e w' => e = .returned (.bool (inB r 1 1400)) ∧ w = w' := by
  go_enter Try.func126, Try.ntmps126
  go_wp2_with (go_at_call 105; refine (within_any _ _ _ _).mono ?_; rintro e w' ⟨rfl, rfl⟩)
  go_ret
  exact ⟨rfl, rfl⟩

theorem arGood_any (x y r : Int) (w : World) :
    Calls Try.prog 127 #[.agg #[.int .i64 x, .int .i64 y], .int .i64 r] w fun e w' => e = .returned (.bool (goodB x y && inB r 1 1400)) ∧ Below w.heap.size w w' := by
  rcases tf (goodB x y) with hx | hx
  all_goals
    go_enter Try.func127, Try.ntmps127
    go_wp2_with (first | (go_at_call 97; refine (stGood_any _ _ _).mono ?_; rintro e w' ⟨rfl, hb⟩; have hz : w.heap.size ≤ w'.heap.size := (by have := hb.size; first | omega | (simp at this; omega)); have hB : Below w.heap.size w w' := (by refine Below.trans ?_ (hb.mono (by first | omega | (simp <;> omega))); (first | with_reducible exact Below.refl _ _ | with_reducible assumption | (repeat (with_reducible first | exact Below.refl _ _ | assumption | refine Below.drew ?_ | refine Below.alloc ?_ (by first | omega | (simp <;> omega)) _ | refine Below.setCell ?_ (by first | omega | (simp <;> omega)) _ | refine below_drewN ?_ _)))); have hh := Has.below (by (repeat (with_reducible first | assumption | apply Has.alloc5 | apply Has.alloc2 | apply Has.alloc1 | apply Has.alloc3 | apply Has.drew | apply Has.drewN | apply Has.set_ | apply Has.allocx | exact Has.nil _))) hb; (try simp only [World.size_alloc, World.size_setCell, World.size_drew, World.heap_drewN] at hh); have hq := hh; simp only [Has, upd, World.size_alloc, World.size_setCell, World.size_drew, World.heap_drewN, and_true, true_and, ite_true, ite_false, and_self, Nat.add_right_cancel_iff, Nat.add_eq_left, Nat.left_eq_add, reduceCtorEq, Nat.reduceEqDiff, if_true, if_false] at hq; have hs := hb.size; (try simp only [World.size_alloc, World.size_setCell, World.size_drew, World.heap_drewN] at hs); clear hb) | (go_at_call 106; refine (l1In_any _ _ _ _).mono ?_; rintro e w' ⟨rfl, rfl⟩))
    go_ret
    exact ⟨by simp [hx], (by (first | with_reducible exact Below.refl _ _ | with_reducible assumption | (repeat (with_reducible first | exact Below.refl _ _ | assumption | refine Below.drew ?_ | refine Below.alloc ?_ (by first | omega | (simp <;> omega)) _ | refine Below.setCell ?_ (by first | omega | (simp <;> omega)) _ | refine below_drewN ?_ _))))⟩

def mChord (r h : Int) : Int × Bool := if inB r 1 1400 && inB h 0 r then (iroot (4 * (2 * r * h - h * h)), true) else (0, false)
theorem chord_bd {r h : Int} (h1 : 1 ≤ r) (h2 : r ≤ 1400) (h3 : 0 ≤ h) (h4 : h ≤ r) : 0 ≤ 2 * r * h ∧ 2 * r * h ≤ 3920000 ∧ 0 ≤ h * h ∧ h * h ≤ 1960000 ∧ 0 ≤ 4 * (2 * r * h - h * h) ∧ 4 * (2 * r * h - h * h) ≤ 10000000 := by
  have e : 2 * r * h - h * h = r * r - (r - h) * (r - h) := by rw [Int.sub_mul, Int.mul_sub, Int.mul_sub, Int.mul_comm h r, Int.mul_assoc]; omega
  have a := sqr_le (d := r) (m := 1400) (by omega) (by omega)
  have b := sqr_le (d := r - h) (m := r) (by omega) (by omega)
  have c := sqr_le (d := h) (m := 1400) (by omega) (by omega)
  have d : 0 ≤ r * h := Int.mul_nonneg (by omega) (by omega)
  have d' : r * h ≤ 1400 * 1400 := Int.mul_le_mul (by omega) (by omega) (by omega) (by omega)
  rw [Int.mul_assoc] at *
  omega

theorem iChord_any (r h : Int) (w : World) :
    Calls Try.prog 66 #[.int .i64 r, .int .i64 h] w fun e w' => e = .returned (.tuple #[.int .i64 (mChord r h).1, .bool (mChord r h).2]) ∧ w = w' := by
  rcases tf (inB r 1 1400) with hx | hx <;> rcases tf (inB h 0 r) with hy | hy
  · obtain ⟨a1, a2⟩ := (inB_iff _ _ _).1 hx
    obtain ⟨b1, b2⟩ := (inB_iff _ _ _).1 hy
    obtain ⟨c1, c2, c3, c4, c5, c6⟩ := chord_bd a1 a2 b1 b2
    go_enter Try.func66, Try.ntmps66
    go_wp2_with (first | (go_at_call 126; refine (isRadius_any _ _).mono ?_; rintro e w' ⟨rfl, rfl⟩) | (go_at_call 105; refine (within_any _ _ _ _).mono ?_; rintro e w' ⟨rfl, rfl⟩) | (go_at_call 122; refine (rootOf_any _ _ c5 c6).mono ?_; rintro e w' ⟨rfl, rfl⟩))
    go_ret2
    exact ⟨by simp [mChord, hx, hy], rfl⟩
  all_goals
    go_enter Try.func66, Try.ntmps66
    go_wp2_with (first | (go_at_call 126; refine (isRadius_any _ _).mono ?_; rintro e w' ⟨rfl, rfl⟩) | (go_at_call 105; refine (within_any _ _ _ _).mono ?_; rintro e w' ⟨rfl, rfl⟩))
    go_ret2
    exact ⟨by simp [mChord, hx, hy], rfl⟩

theorem sChord_any (r h : Int) (w : World) :
    Calls Try.prog 67 #[.int .i64 r, .int .i64 h] w fun e w' => e = .returned (.tuple #[.int .i64 (mChord r h).1, .bool (mChord r h).2]) ∧ w = w' := by
  rcases tf (inB r 1 1400) with hx | hx <;> rcases tf (inB h 0 r) with hy | hy
  · obtain ⟨a1, a2⟩ := (inB_iff _ _ _).1 hx
    obtain ⟨b1, b2⟩ := (inB_iff _ _ _).1 hy
    obtain ⟨c1, c2, c3, c4, c5, c6⟩ := chord_bd a1 a2 b1 b2
    go_enter Try.func67, Try.ntmps67
    go_wp2_with (first | (go_at_call 106; refine (l1In_any _ _ _ _).mono ?_; rintro e w' ⟨rfl, rfl⟩) | (go_at_call 123; refine (arRoot_any _ _ c5 c6).mono ?_; rintro e w' ⟨rfl, rfl⟩))
    go_ret2
    exact ⟨by simp [mChord, hx, hy], rfl⟩
  all_goals
    go_enter Try.func67, Try.ntmps67
    go_wp2_with (go_at_call 106; refine (l1In_any _ _ _ _).mono ?_; rintro e w' ⟨rfl, rfl⟩)
    go_ret2
    exact ⟨by simp [mChord, hx, hy], rfl⟩

def mNearArc (x y r u v s : Int) : Bool × Bool := if goodB x y && inB r 1 1400 && goodB u v && inB s 0 r then (inB (sq x y u v) ((r - s) * (r - s)) ((r + s) * (r + s)), true) else (false, false)
theorem near_bd {r s : Int} (h1 : 1 ≤ r) (h2 : r ≤ 1400) (h3 : 0 ≤ s) (h4 : s ≤ r) : 0 ≤ (r - s) * (r - s) ∧ (r - s) * (r - s) ≤ 7840000 ∧ 0 ≤ (r + s) * (r + s) ∧ (r + s) * (r + s) ≤ 7840000 := by
  have a := sqr_le (d := r - s) (m := 2800) (by omega) (by omega)
  have b := sqr_le (d := r + s) (m := 2800) (by omega) (by omega)
  omega

theorem iNearArc_any (x y r u v s : Int) (w : World) :
    Calls Try.prog 54 #[.agg #[.int .i64 x, .int .i64 y], .int .i64 r, .agg #[.int .i64 u, .int .i64 v], .int .i64 s] w fun e w' => e = .returned (.tuple #[.bool (mNearArc x y r u v s).1, .bool (mNearArc x y r u v s).2]) ∧ Below w.heap.size w w' := by
  rcases tf (goodB x y) with h1 | h1
  · rcases tf (inB r 1 1400) with h2 | h2
    · rcases tf (goodB u v) with h3 | h3
      · rcases tf (inB s 0 r) with h4 | h4
        · obtain ⟨a1, a2⟩ := (inB_iff _ _ _).1 h2
          obtain ⟨b1, b2⟩ := (inB_iff _ _ _).1 h4
          obtain ⟨c1, c2, c3, c4⟩ := near_bd a1 a2 b1 b2
          go_enter Try.func54, Try.ntmps54
          go_wp2_with (first | (go_at_call 94; refine (iIsSpot_any _ _ _).mono ?_; rintro e w' ⟨rfl, hb⟩; have hz : w.heap.size ≤ w'.heap.size := (by have := hb.size; first | omega | (simp at this; omega)); have hB : Below w.heap.size w w' := (by refine Below.trans ?_ (hb.mono (by first | omega | (simp <;> omega))); (first | with_reducible exact Below.refl _ _ | with_reducible assumption | (repeat (with_reducible first | exact Below.refl _ _ | assumption | refine Below.drew ?_ | refine Below.alloc ?_ (by first | omega | (simp <;> omega)) _ | refine Below.setCell ?_ (by first | omega | (simp <;> omega)) _ | refine below_drewN ?_ _)))); have hh := Has.below (by (repeat (with_reducible first | assumption | apply Has.alloc5 | apply Has.alloc2 | apply Has.alloc1 | apply Has.alloc3 | apply Has.drew | apply Has.drewN | apply Has.set_ | apply Has.allocx | exact Has.nil _))) hb; (try simp only [World.size_alloc, World.size_setCell, World.size_drew, World.heap_drewN] at hh); have hq := hh; simp only [Has, upd, World.size_alloc, World.size_setCell, World.size_drew, World.heap_drewN, and_true, true_and, ite_true, ite_false, and_self, Nat.add_right_cancel_iff, Nat.add_eq_left, Nat.left_eq_add, reduceCtorEq, Nat.reduceEqDiff, if_true, if_false] at hq; have hs := hb.size; (try simp only [World.size_alloc, World.size_setCell, World.size_drew, World.heap_drewN] at hs); clear hb) | (go_at_call 126; refine (isRadius_any _ _).mono ?_; rintro e w' ⟨rfl, rfl⟩) | (go_at_call 105; refine (within_any _ _ _ _).mono ?_; rintro e w' ⟨rfl, rfl⟩) | (go_at_call 96; refine (squareOf_any _ _ _ _ _ h1 h3).mono ?_; rintro e w' ⟨rfl, hb⟩; have hz : w.heap.size ≤ w'.heap.size := (by have := hb.size; first | omega | (simp at this; omega)); have hB : Below w.heap.size w w' := (by refine Below.trans ?_ (hb.mono (by first | omega | (simp <;> omega))); (first | with_reducible exact Below.refl _ _ | with_reducible assumption | (repeat (with_reducible first | exact Below.refl _ _ | assumption | refine Below.drew ?_ | refine Below.alloc ?_ (by first | omega | (simp <;> omega)) _ | refine Below.setCell ?_ (by first | omega | (simp <;> omega)) _ | refine below_drewN ?_ _)))); have hh := Has.below (by (repeat (with_reducible first | assumption | apply Has.alloc5 | apply Has.alloc2 | apply Has.alloc1 | apply Has.alloc3 | apply Has.drew | apply Has.drewN | apply Has.set_ | apply Has.allocx | exact Has.nil _))) hb; (try simp only [World.size_alloc, World.size_setCell, World.size_drew, World.heap_drewN] at hh); have hq := hh; simp only [Has, upd, World.size_alloc, World.size_setCell, World.size_drew, World.heap_drewN, and_true, true_and, ite_true, ite_false, and_self, Nat.add_right_cancel_iff, Nat.add_eq_left, Nat.left_eq_add, reduceCtorEq, Nat.reduceEqDiff, if_true, if_false] at hq; have hs := hb.size; (try simp only [World.size_alloc, World.size_setCell, World.size_drew, World.heap_drewN] at hs); clear hb))
          go_ret2
          exact ⟨by simp [mNearArc, h1, h2, h3, h4], (by (first | with_reducible exact Below.refl _ _ | with_reducible assumption | (repeat (with_reducible first | exact Below.refl _ _ | assumption | refine Below.drew ?_ | refine Below.alloc ?_ (by first | omega | (simp <;> omega)) _ | refine Below.setCell ?_ (by first | omega | (simp <;> omega)) _ | refine below_drewN ?_ _))))⟩
        · go_enter Try.func54, Try.ntmps54
          go_wp2_with (first | (go_at_call 94; refine (iIsSpot_any _ _ _).mono ?_; rintro e w' ⟨rfl, hb⟩; have hz : w.heap.size ≤ w'.heap.size := (by have := hb.size; first | omega | (simp at this; omega)); have hB : Below w.heap.size w w' := (by refine Below.trans ?_ (hb.mono (by first | omega | (simp <;> omega))); (first | with_reducible exact Below.refl _ _ | with_reducible assumption | (repeat (with_reducible first | exact Below.refl _ _ | assumption | refine Below.drew ?_ | refine Below.alloc ?_ (by first | omega | (simp <;> omega)) _ | refine Below.setCell ?_ (by first | omega | (simp <;> omega)) _ | refine below_drewN ?_ _)))); have hh := Has.below (by (repeat (with_reducible first | assumption | apply Has.alloc5 | apply Has.alloc2 | apply Has.alloc1 | apply Has.alloc3 | apply Has.drew | apply Has.drewN | apply Has.set_ | apply Has.allocx | exact Has.nil _))) hb; (try simp only [World.size_alloc, World.size_setCell, World.size_drew, World.heap_drewN] at hh); have hq := hh; simp only [Has, upd, World.size_alloc, World.size_setCell, World.size_drew, World.heap_drewN, and_true, true_and, ite_true, ite_false, and_self, Nat.add_right_cancel_iff, Nat.add_eq_left, Nat.left_eq_add, reduceCtorEq, Nat.reduceEqDiff, if_true, if_false] at hq; have hs := hb.size; (try simp only [World.size_alloc, World.size_setCell, World.size_drew, World.heap_drewN] at hs); clear hb) | (go_at_call 126; refine (isRadius_any _ _).mono ?_; rintro e w' ⟨rfl, rfl⟩) | (go_at_call 105; refine (within_any _ _ _ _).mono ?_; rintro e w' ⟨rfl, rfl⟩))
          go_ret2
          exact ⟨by simp [mNearArc, h1, h2, h3, h4], (by (first | with_reducible exact Below.refl _ _ | with_reducible assumption | (repeat (with_reducible first | exact Below.refl _ _ | assumption | refine Below.drew ?_ | refine Below.alloc ?_ (by first | omega | (simp <;> omega)) _ | refine Below.setCell ?_ (by first | omega | (simp <;> omega)) _ | refine below_drewN ?_ _))))⟩
      · go_enter Try.func54, Try.ntmps54
        go_wp2_with (first | (go_at_call 94; refine (iIsSpot_any _ _ _).mono ?_; rintro e w' ⟨rfl, hb⟩; have hz : w.heap.size ≤ w'.heap.size := (by have := hb.size; first | omega | (simp at this; omega)); have hB : Below w.heap.size w w' := (by refine Below.trans ?_ (hb.mono (by first | omega | (simp <;> omega))); (first | with_reducible exact Below.refl _ _ | with_reducible assumption | (repeat (with_reducible first | exact Below.refl _ _ | assumption | refine Below.drew ?_ | refine Below.alloc ?_ (by first | omega | (simp <;> omega)) _ | refine Below.setCell ?_ (by first | omega | (simp <;> omega)) _ | refine below_drewN ?_ _)))); have hh := Has.below (by (repeat (with_reducible first | assumption | apply Has.alloc5 | apply Has.alloc2 | apply Has.alloc1 | apply Has.alloc3 | apply Has.drew | apply Has.drewN | apply Has.set_ | apply Has.allocx | exact Has.nil _))) hb; (try simp only [World.size_alloc, World.size_setCell, World.size_drew, World.heap_drewN] at hh); have hq := hh; simp only [Has, upd, World.size_alloc, World.size_setCell, World.size_drew, World.heap_drewN, and_true, true_and, ite_true, ite_false, and_self, Nat.add_right_cancel_iff, Nat.add_eq_left, Nat.left_eq_add, reduceCtorEq, Nat.reduceEqDiff, if_true, if_false] at hq; have hs := hb.size; (try simp only [World.size_alloc, World.size_setCell, World.size_drew, World.heap_drewN] at hs); clear hb) | (go_at_call 126; refine (isRadius_any _ _).mono ?_; rintro e w' ⟨rfl, rfl⟩))
        go_ret2
        exact ⟨by simp [mNearArc, h1, h2, h3], (by (first | with_reducible exact Below.refl _ _ | with_reducible assumption | (repeat (with_reducible first | exact Below.refl _ _ | assumption | refine Below.drew ?_ | refine Below.alloc ?_ (by first | omega | (simp <;> omega)) _ | refine Below.setCell ?_ (by first | omega | (simp <;> omega)) _ | refine below_drewN ?_ _))))⟩
    · go_enter Try.func54, Try.ntmps54
      go_wp2_with (first | (go_at_call 94; refine (iIsSpot_any _ _ _).mono ?_; rintro e w' ⟨rfl, hb⟩; have hz : w.heap.size ≤ w'.heap.size := (by have := hb.size; first | omega | (simp at this; omega)); have hB : Below w.heap.size w w' := (by refine Below.trans ?_ (hb.mono (by first | omega | (simp <;> omega))); (first | with_reducible exact Below.refl _ _ | with_reducible assumption | (repeat (with_reducible first | exact Below.refl _ _ | assumption | refine Below.drew ?_ | refine Below.alloc ?_ (by first | omega | (simp <;> omega)) _ | refine Below.setCell ?_ (by first | omega | (simp <;> omega)) _ | refine below_drewN ?_ _)))); have hh := Has.below (by (repeat (with_reducible first | assumption | apply Has.alloc5 | apply Has.alloc2 | apply Has.alloc1 | apply Has.alloc3 | apply Has.drew | apply Has.drewN | apply Has.set_ | apply Has.allocx | exact Has.nil _))) hb; (try simp only [World.size_alloc, World.size_setCell, World.size_drew, World.heap_drewN] at hh); have hq := hh; simp only [Has, upd, World.size_alloc, World.size_setCell, World.size_drew, World.heap_drewN, and_true, true_and, ite_true, ite_false, and_self, Nat.add_right_cancel_iff, Nat.add_eq_left, Nat.left_eq_add, reduceCtorEq, Nat.reduceEqDiff, if_true, if_false] at hq; have hs := hb.size; (try simp only [World.size_alloc, World.size_setCell, World.size_drew, World.heap_drewN] at hs); clear hb) | (go_at_call 126; refine (isRadius_any _ _).mono ?_; rintro e w' ⟨rfl, rfl⟩))
      go_ret2
      exact ⟨by simp [mNearArc, h1, h2], (by (first | with_reducible exact Below.refl _ _ | with_reducible assumption | (repeat (with_reducible first | exact Below.refl _ _ | assumption | refine Below.drew ?_ | refine Below.alloc ?_ (by first | omega | (simp <;> omega)) _ | refine Below.setCell ?_ (by first | omega | (simp <;> omega)) _ | refine below_drewN ?_ _))))⟩
  · go_enter Try.func54, Try.ntmps54
    go_wp2_with (first | (go_at_call 94; refine (iIsSpot_any _ _ _).mono ?_; rintro e w' ⟨rfl, hb⟩; have hz : w.heap.size ≤ w'.heap.size := (by have := hb.size; first | omega | (simp at this; omega)); have hB : Below w.heap.size w w' := (by refine Below.trans ?_ (hb.mono (by first | omega | (simp <;> omega))); (first | with_reducible exact Below.refl _ _ | with_reducible assumption | (repeat (with_reducible first | exact Below.refl _ _ | assumption | refine Below.drew ?_ | refine Below.alloc ?_ (by first | omega | (simp <;> omega)) _ | refine Below.setCell ?_ (by first | omega | (simp <;> omega)) _ | refine below_drewN ?_ _)))); have hh := Has.below (by (repeat (with_reducible first | assumption | apply Has.alloc5 | apply Has.alloc2 | apply Has.alloc1 | apply Has.alloc3 | apply Has.drew | apply Has.drewN | apply Has.set_ | apply Has.allocx | exact Has.nil _))) hb; (try simp only [World.size_alloc, World.size_setCell, World.size_drew, World.heap_drewN] at hh); have hq := hh; simp only [Has, upd, World.size_alloc, World.size_setCell, World.size_drew, World.heap_drewN, and_true, true_and, ite_true, ite_false, and_self, Nat.add_right_cancel_iff, Nat.add_eq_left, Nat.left_eq_add, reduceCtorEq, Nat.reduceEqDiff, if_true, if_false] at hq; have hs := hb.size; (try simp only [World.size_alloc, World.size_setCell, World.size_drew, World.heap_drewN] at hs); clear hb) | (go_at_call 126; refine (isRadius_any _ _).mono ?_; rintro e w' ⟨rfl, rfl⟩))
    go_ret2
    exact ⟨by simp [mNearArc, h1], (by (first | with_reducible exact Below.refl _ _ | with_reducible assumption | (repeat (with_reducible first | exact Below.refl _ _ | assumption | refine Below.drew ?_ | refine Below.alloc ?_ (by first | omega | (simp <;> omega)) _ | refine Below.setCell ?_ (by first | omega | (simp <;> omega)) _ | refine below_drewN ?_ _))))⟩

theorem sNearArc_any (x y r u v s : Int) (w : World) :
    Calls Try.prog 55 #[.agg #[.int .i64 x, .int .i64 y], .int .i64 r, .agg #[.int .i64 u, .int .i64 v], .int .i64 s] w fun e w' => e = .returned (.tuple #[.bool (mNearArc x y r u v s).1, .bool (mNearArc x y r u v s).2]) ∧ Below w.heap.size w w' := by
  rcases tf (goodB x y && inB r 1 1400) with h1 | h1
  · rcases tf (goodB u v) with h3 | h3
    · rcases tf (inB s 0 r) with h4 | h4
      · have h12 := h1
        rw [Bool.and_eq_true] at h12
        obtain ⟨g1, g2⟩ := h12
        obtain ⟨a1, a2⟩ := (inB_iff _ _ _).1 g2
        obtain ⟨b1, b2⟩ := (inB_iff _ _ _).1 h4
        obtain ⟨c1, c2, c3, c4⟩ := near_bd a1 a2 b1 b2
        go_enter Try.func55, Try.ntmps55
        go_wp2_with (first | (go_at_call 127; refine (arGood_any _ _ _ _).mono ?_; rintro e w' ⟨rfl, hb⟩; have hz : w.heap.size ≤ w'.heap.size := (by have := hb.size; first | omega | (simp at this; omega)); have hB : Below w.heap.size w w' := (by refine Below.trans ?_ (hb.mono (by first | omega | (simp <;> omega))); (first | with_reducible exact Below.refl _ _ | with_reducible assumption | (repeat (with_reducible first | exact Below.refl _ _ | assumption | refine Below.drew ?_ | refine Below.alloc ?_ (by first | omega | (simp <;> omega)) _ | refine Below.setCell ?_ (by first | omega | (simp <;> omega)) _ | refine below_drewN ?_ _)))); have hh := Has.below (by (repeat (with_reducible first | assumption | apply Has.alloc5 | apply Has.alloc2 | apply Has.alloc1 | apply Has.alloc3 | apply Has.drew | apply Has.drewN | apply Has.set_ | apply Has.allocx | exact Has.nil _))) hb; (try simp only [World.size_alloc, World.size_setCell, World.size_drew, World.heap_drewN] at hh); have hq := hh; simp only [Has, upd, World.size_alloc, World.size_setCell, World.size_drew, World.heap_drewN, and_true, true_and, ite_true, ite_false, and_self, Nat.add_right_cancel_iff, Nat.add_eq_left, Nat.left_eq_add, reduceCtorEq, Nat.reduceEqDiff, if_true, if_false] at hq; have hs := hb.size; (try simp only [World.size_alloc, World.size_setCell, World.size_drew, World.heap_drewN] at hs); clear hb) | (go_at_call 97; refine (stGood_any _ _ _).mono ?_; rintro e w' ⟨rfl, hb⟩; have hz : w.heap.size ≤ w'.heap.size := (by have := hb.size; first | omega | (simp at this; omega)); have hB : Below w.heap.size w w' := (by refine Below.trans ?_ (hb.mono (by first | omega | (simp <;> omega))); (first | with_reducible exact Below.refl _ _ | with_reducible assumption | (repeat (with_reducible first | exact Below.refl _ _ | assumption | refine Below.drew ?_ | refine Below.alloc ?_ (by first | omega | (simp <;> omega)) _ | refine Below.setCell ?_ (by first | omega | (simp <;> omega)) _ | refine below_drewN ?_ _)))); have hh := Has.below (by (repeat (with_reducible first | assumption | apply Has.alloc5 | apply Has.alloc2 | apply Has.alloc1 | apply Has.alloc3 | apply Has.drew | apply Has.drewN | apply Has.set_ | apply Has.allocx | exact Has.nil _))) hb; (try simp only [World.size_alloc, World.size_setCell, World.size_drew, World.heap_drewN] at hh); have hq := hh; simp only [Has, upd, World.size_alloc, World.size_setCell, World.size_drew, World.heap_drewN, and_true, true_and, ite_true, ite_false, and_self, Nat.add_right_cancel_iff, Nat.add_eq_left, Nat.left_eq_add, reduceCtorEq, Nat.reduceEqDiff, if_true, if_false] at hq; have hs := hb.size; (try simp only [World.size_alloc, World.size_setCell, World.size_drew, World.heap_drewN] at hs); clear hb) | (go_at_call 106; refine (l1In_any _ _ _ _).mono ?_; rintro e w' ⟨rfl, rfl⟩) | (go_at_call 99; refine (stSquare_any _ _ _ _ _ g1 h3).mono ?_; rintro e w' ⟨rfl, hb⟩; have hz : w.heap.size ≤ w'.heap.size := (by have := hb.size; first | omega | (simp at this; omega)); have hB : Below w.heap.size w w' := (by refine Below.trans ?_ (hb.mono (by first | omega | (simp <;> omega))); (first | with_reducible exact Below.refl _ _ | with_reducible assumption | (repeat (with_reducible first | exact Below.refl _ _ | assumption | refine Below.drew ?_ | refine Below.alloc ?_ (by first | omega | (simp <;> omega)) _ | refine Below.setCell ?_ (by first | omega | (simp <;> omega)) _ | refine below_drewN ?_ _)))); have hh := Has.below (by (repeat (with_reducible first | assumption | apply Has.alloc5 | apply Has.alloc2 | apply Has.alloc1 | apply Has.alloc3 | apply Has.drew | apply Has.drewN | apply Has.set_ | apply Has.allocx | exact Has.nil _))) hb; (try simp only [World.size_alloc, World.size_setCell, World.size_drew, World.heap_drewN] at hh); have hq := hh; simp only [Has, upd, World.size_alloc, World.size_setCell, World.size_drew, World.heap_drewN, and_true, true_and, ite_true, ite_false, and_self, Nat.add_right_cancel_iff, Nat.add_eq_left, Nat.left_eq_add, reduceCtorEq, Nat.reduceEqDiff, if_true, if_false] at hq; have hs := hb.size; (try simp only [World.size_alloc, World.size_setCell, World.size_drew, World.heap_drewN] at hs); clear hb))
        go_ret2
        exact ⟨by simp [mNearArc, g1, g2, h3, h4], (by (first | with_reducible exact Below.refl _ _ | with_reducible assumption | (repeat (with_reducible first | exact Below.refl _ _ | assumption | refine Below.drew ?_ | refine Below.alloc ?_ (by first | omega | (simp <;> omega)) _ | refine Below.setCell ?_ (by first | omega | (simp <;> omega)) _ | refine below_drewN ?_ _))))⟩
      · go_enter Try.func55, Try.ntmps55
        go_wp2_with (first | (go_at_call 127; refine (arGood_any _ _ _ _).mono ?_; rintro e w' ⟨rfl, hb⟩; have hz : w.heap.size ≤ w'.heap.size := (by have := hb.size; first | omega | (simp at this; omega)); have hB : Below w.heap.size w w' := (by refine Below.trans ?_ (hb.mono (by first | omega | (simp <;> omega))); (first | with_reducible exact Below.refl _ _ | with_reducible assumption | (repeat (with_reducible first | exact Below.refl _ _ | assumption | refine Below.drew ?_ | refine Below.alloc ?_ (by first | omega | (simp <;> omega)) _ | refine Below.setCell ?_ (by first | omega | (simp <;> omega)) _ | refine below_drewN ?_ _)))); have hh := Has.below (by (repeat (with_reducible first | assumption | apply Has.alloc5 | apply Has.alloc2 | apply Has.alloc1 | apply Has.alloc3 | apply Has.drew | apply Has.drewN | apply Has.set_ | apply Has.allocx | exact Has.nil _))) hb; (try simp only [World.size_alloc, World.size_setCell, World.size_drew, World.heap_drewN] at hh); have hq := hh; simp only [Has, upd, World.size_alloc, World.size_setCell, World.size_drew, World.heap_drewN, and_true, true_and, ite_true, ite_false, and_self, Nat.add_right_cancel_iff, Nat.add_eq_left, Nat.left_eq_add, reduceCtorEq, Nat.reduceEqDiff, if_true, if_false] at hq; have hs := hb.size; (try simp only [World.size_alloc, World.size_setCell, World.size_drew, World.heap_drewN] at hs); clear hb) | (go_at_call 97; refine (stGood_any _ _ _).mono ?_; rintro e w' ⟨rfl, hb⟩; have hz : w.heap.size ≤ w'.heap.size := (by have := hb.size; first | omega | (simp at this; omega)); have hB : Below w.heap.size w w' := (by refine Below.trans ?_ (hb.mono (by first | omega | (simp <;> omega))); (first | with_reducible exact Below.refl _ _ | with_reducible assumption | (repeat (with_reducible first | exact Below.refl _ _ | assumption | refine Below.drew ?_ | refine Below.alloc ?_ (by first | omega | (simp <;> omega)) _ | refine Below.setCell ?_ (by first | omega | (simp <;> omega)) _ | refine below_drewN ?_ _)))); have hh := Has.below (by (repeat (with_reducible first | assumption | apply Has.alloc5 | apply Has.alloc2 | apply Has.alloc1 | apply Has.alloc3 | apply Has.drew | apply Has.drewN | apply Has.set_ | apply Has.allocx | exact Has.nil _))) hb; (try simp only [World.size_alloc, World.size_setCell, World.size_drew, World.heap_drewN] at hh); have hq := hh; simp only [Has, upd, World.size_alloc, World.size_setCell, World.size_drew, World.heap_drewN, and_true, true_and, ite_true, ite_false, and_self, Nat.add_right_cancel_iff, Nat.add_eq_left, Nat.left_eq_add, reduceCtorEq, Nat.reduceEqDiff, if_true, if_false] at hq; have hs := hb.size; (try simp only [World.size_alloc, World.size_setCell, World.size_drew, World.heap_drewN] at hs); clear hb) | (go_at_call 106; refine (l1In_any _ _ _ _).mono ?_; rintro e w' ⟨rfl, rfl⟩))
        go_ret2
        exact ⟨by simp [mNearArc, h3, h4], (by (first | with_reducible exact Below.refl _ _ | with_reducible assumption | (repeat (with_reducible first | exact Below.refl _ _ | assumption | refine Below.drew ?_ | refine Below.alloc ?_ (by first | omega | (simp <;> omega)) _ | refine Below.setCell ?_ (by first | omega | (simp <;> omega)) _ | refine below_drewN ?_ _))))⟩
    · go_enter Try.func55, Try.ntmps55
      go_wp2_with (first | (go_at_call 127; refine (arGood_any _ _ _ _).mono ?_; rintro e w' ⟨rfl, hb⟩; have hz : w.heap.size ≤ w'.heap.size := (by have := hb.size; first | omega | (simp at this; omega)); have hB : Below w.heap.size w w' := (by refine Below.trans ?_ (hb.mono (by first | omega | (simp <;> omega))); (first | with_reducible exact Below.refl _ _ | with_reducible assumption | (repeat (with_reducible first | exact Below.refl _ _ | assumption | refine Below.drew ?_ | refine Below.alloc ?_ (by first | omega | (simp <;> omega)) _ | refine Below.setCell ?_ (by first | omega | (simp <;> omega)) _ | refine below_drewN ?_ _)))); have hh := Has.below (by (repeat (with_reducible first | assumption | apply Has.alloc5 | apply Has.alloc2 | apply Has.alloc1 | apply Has.alloc3 | apply Has.drew | apply Has.drewN | apply Has.set_ | apply Has.allocx | exact Has.nil _))) hb; (try simp only [World.size_alloc, World.size_setCell, World.size_drew, World.heap_drewN] at hh); have hq := hh; simp only [Has, upd, World.size_alloc, World.size_setCell, World.size_drew, World.heap_drewN, and_true, true_and, ite_true, ite_false, and_self, Nat.add_right_cancel_iff, Nat.add_eq_left, Nat.left_eq_add, reduceCtorEq, Nat.reduceEqDiff, if_true, if_false] at hq; have hs := hb.size; (try simp only [World.size_alloc, World.size_setCell, World.size_drew, World.heap_drewN] at hs); clear hb) | (go_at_call 97; refine (stGood_any _ _ _).mono ?_; rintro e w' ⟨rfl, hb⟩; have hz : w.heap.size ≤ w'.heap.size := (by have := hb.size; first | omega | (simp at this; omega)); have hB : Below w.heap.size w w' := (by refine Below.trans ?_ (hb.mono (by first | omega | (simp <;> omega))); (first | with_reducible exact Below.refl _ _ | with_reducible assumption | (repeat (with_reducible first | exact Below.refl _ _ | assumption | refine Below.drew ?_ | refine Below.alloc ?_ (by first | omega | (simp <;> omega)) _ | refine Below.setCell ?_ (by first | omega | (simp <;> omega)) _ | refine below_drewN ?_ _)))); have hh := Has.below (by (repeat (with_reducible first | assumption | apply Has.alloc5 | apply Has.alloc2 | apply Has.alloc1 | apply Has.alloc3 | apply Has.drew | apply Has.drewN | apply Has.set_ | apply Has.allocx | exact Has.nil _))) hb; (try simp only [World.size_alloc, World.size_setCell, World.size_drew, World.heap_drewN] at hh); have hq := hh; simp only [Has, upd, World.size_alloc, World.size_setCell, World.size_drew, World.heap_drewN, and_true, true_and, ite_true, ite_false, and_self, Nat.add_right_cancel_iff, Nat.add_eq_left, Nat.left_eq_add, reduceCtorEq, Nat.reduceEqDiff, if_true, if_false] at hq; have hs := hb.size; (try simp only [World.size_alloc, World.size_setCell, World.size_drew, World.heap_drewN] at hs); clear hb) | (go_at_call 106; refine (l1In_any _ _ _ _).mono ?_; rintro e w' ⟨rfl, rfl⟩))
      go_ret2
      exact ⟨by simp [mNearArc, h3], (by (first | with_reducible exact Below.refl _ _ | with_reducible assumption | (repeat (with_reducible first | exact Below.refl _ _ | assumption | refine Below.drew ?_ | refine Below.alloc ?_ (by first | omega | (simp <;> omega)) _ | refine Below.setCell ?_ (by first | omega | (simp <;> omega)) _ | refine below_drewN ?_ _))))⟩
  · go_enter Try.func55, Try.ntmps55
    go_wp2_with (first | (go_at_call 127; refine (arGood_any _ _ _ _).mono ?_; rintro e w' ⟨rfl, hb⟩; have hz : w.heap.size ≤ w'.heap.size := (by have := hb.size; first | omega | (simp at this; omega)); have hB : Below w.heap.size w w' := (by refine Below.trans ?_ (hb.mono (by first | omega | (simp <;> omega))); (first | with_reducible exact Below.refl _ _ | with_reducible assumption | (repeat (with_reducible first | exact Below.refl _ _ | assumption | refine Below.drew ?_ | refine Below.alloc ?_ (by first | omega | (simp <;> omega)) _ | refine Below.setCell ?_ (by first | omega | (simp <;> omega)) _ | refine below_drewN ?_ _)))); have hh := Has.below (by (repeat (with_reducible first | assumption | apply Has.alloc5 | apply Has.alloc2 | apply Has.alloc1 | apply Has.alloc3 | apply Has.drew | apply Has.drewN | apply Has.set_ | apply Has.allocx | exact Has.nil _))) hb; (try simp only [World.size_alloc, World.size_setCell, World.size_drew, World.heap_drewN] at hh); have hq := hh; simp only [Has, upd, World.size_alloc, World.size_setCell, World.size_drew, World.heap_drewN, and_true, true_and, ite_true, ite_false, and_self, Nat.add_right_cancel_iff, Nat.add_eq_left, Nat.left_eq_add, reduceCtorEq, Nat.reduceEqDiff, if_true, if_false] at hq; have hs := hb.size; (try simp only [World.size_alloc, World.size_setCell, World.size_drew, World.heap_drewN] at hs); clear hb) | (go_at_call 97; refine (stGood_any _ _ _).mono ?_; rintro e w' ⟨rfl, hb⟩; have hz : w.heap.size ≤ w'.heap.size := (by have := hb.size; first | omega | (simp at this; omega)); have hB : Below w.heap.size w w' := (by refine Below.trans ?_ (hb.mono (by first | omega | (simp <;> omega))); (first | with_reducible exact Below.refl _ _ | with_reducible assumption | (repeat (with_reducible first | exact Below.refl _ _ | assumption | refine Below.drew ?_ | refine Below.alloc ?_ (by first | omega | (simp <;> omega)) _ | refine Below.setCell ?_ (by first | omega | (simp <;> omega)) _ | refine below_drewN ?_ _)))); have hh := Has.below (by (repeat (with_reducible first | assumption | apply Has.alloc5 | apply Has.alloc2 | apply Has.alloc1 | apply Has.alloc3 | apply Has.drew | apply Has.drewN | apply Has.set_ | apply Has.allocx | exact Has.nil _))) hb; (try simp only [World.size_alloc, World.size_setCell, World.size_drew, World.heap_drewN] at hh); have hq := hh; simp only [Has, upd, World.size_alloc, World.size_setCell, World.size_drew, World.heap_drewN, and_true, true_and, ite_true, ite_false, and_self, Nat.add_right_cancel_iff, Nat.add_eq_left, Nat.left_eq_add, reduceCtorEq, Nat.reduceEqDiff, if_true, if_false] at hq; have hs := hb.size; (try simp only [World.size_alloc, World.size_setCell, World.size_drew, World.heap_drewN] at hs); clear hb) | (go_at_call 106; refine (l1In_any _ _ _ _).mono ?_; rintro e w' ⟨rfl, rfl⟩))
    go_ret2
    exact ⟨by simp [mNearArc, h1], (by (first | with_reducible exact Below.refl _ _ | with_reducible assumption | (repeat (with_reducible first | exact Below.refl _ _ | assumption | refine Below.drew ?_ | refine Below.alloc ?_ (by first | omega | (simp <;> omega)) _ | refine Below.setCell ?_ (by first | omega | (simp <;> omega)) _ | refine below_drewN ?_ _))))⟩

end Go.Proofs.Ytkadnmebijfacaa

