/- Contracts of the functions on roots, arcs and chords, of the program and of the reference. -/
import Derived.Test.YtakgmmdnlhamkaaSpot
import Derived.LoopTactic
namespace Go.Proofs.Ytakgmmdnlhamkaa
open Go.RowKit
set_option linter.unusedVariables false
set_option linter.unusedSimpArgs false

/-- the greatest whole number whose square is at most n -/
def irootN : Nat → Nat
  | 0 => 0
  | n + 1 => if (irootN n + 1) * (irootN n + 1) ≤ n + 1 then irootN n + 1 else irootN n
theorem irootN_spec (n : Nat) : irootN n * irootN n ≤ n ∧ n < (irootN n + 1) * (irootN n + 1) := by
  induction n with
  | zero => simp [irootN]
  | succ n ih =>
    obtain ⟨h1, h2⟩ := ih
    simp only [irootN]
    split
    · rename_i h
      refine ⟨h, ?_⟩
      have : (irootN n + 1 + 1) * (irootN n + 1 + 1) = (irootN n + 1) * (irootN n + 1) + 2 * (irootN n + 1) + 1 := by rw [Nat.add_mul, Nat.mul_add]; omega
      omega
    · rename_i h
      exact ⟨by omega, by omega⟩
def iroot (n : Int) : Int := (irootN n.toNat : Int)
theorem iroot_spec (n : Int) (h : 0 ≤ n) : 0 ≤ iroot n ∧ iroot n * iroot n ≤ n ∧ n < (iroot n + 1) * (iroot n + 1) := by
  have := irootN_spec n.toNat
  unfold iroot
  refine ⟨by omega, ?_, ?_⟩
  · have h1 : ((irootN n.toNat * irootN n.toNat : Nat) : Int) ≤ n := by omega
    simpa using h1
  · have h1 : n < (((irootN n.toNat + 1) * (irootN n.toNat + 1) : Nat) : Int) := by omega
    simpa using h1
theorem iroot_eq {n r : Int} (h : 0 ≤ n) (h0 : 0 ≤ r) (h1 : r * r ≤ n) (h2 : n < (r + 1) * (r + 1)) : iroot n = r := by
  obtain ⟨a, b, c⟩ := iroot_spec n h
  rcases Int.lt_trichotomy (iroot n) r with hlt | heq | hgt
  · have : (iroot n + 1) * (iroot n + 1) ≤ r * r := Int.mul_le_mul (by omega) (by omega) (by omega) (by omega)
    omega
  · exact heq
  · have : (r + 1) * (r + 1) ≤ iroot n * iroot n := Int.mul_le_mul (by omega) (by omega) (by omega) (by omega)
    omega
/-- what a binary search knows -/
def RootIn (n lo hi : Int) : Prop := lo * lo ≤ n ∧ n < (hi + 1) * (hi + 1)
theorem rootIn_start {n : Int} (h0 : 0 ≤ n) (h : n ≤ 10000000) : RootIn n 0 4000 := ⟨by omega, by omega⟩
theorem rootIn_end {n lo hi : Int} (hn : 0 ≤ n) (h : RootIn n lo hi) (h0 : 0 ≤ lo) (hle : lo ≤ hi) (hge : hi ≤ lo) : iroot n = lo := by
  obtain rfl : lo = hi := by omega
  exact iroot_eq hn h0 h.1 h.2
theorem rootIn_low {n lo hi m : Int} (h : RootIn n lo hi) (hm : m * m ≤ n) : RootIn n m hi := ⟨hm, h.2⟩
theorem rootIn_high {n lo hi m : Int} (h : RootIn n lo hi) (hm : n < m * m) : RootIn n lo (m - 1) := ⟨h.1, by rw [show m - 1 + 1 = m by omega]; exact hm⟩
theorem mid_sq {lo hi : Int} (h0 : 0 ≤ lo) (h1 : lo < hi) (h2 : hi ≤ 4000) : 0 ≤ (lo + hi + 1) / 2 * ((lo + hi + 1) / 2) ∧ (lo + hi + 1) / 2 * ((lo + hi + 1) / 2) ≤ 16000000 := by
  have := sqr_le (d := (lo + hi + 1) / 2) (m := 4000) (by omega) (by omega)
  exact ⟨this.1, by omega⟩

set_option maxHeartbeats 400000 in
theorem rootOf_any (n : Int) (w : World) (h0 : 0 ≤ n) (h1 : n ≤ 10000000) :
    Calls Try.prog 78 #[.int .i64 n] w fun e w' => e = .returned (.int .i64 (iroot n)) ∧ w = w' := by
  have H := Lib.hid (rootIn_start h0 h1)
  go_enter Try.func78, Try.ntmps78
  go_wp2
  go_loop [3, 4] (fun l h => ∃ lo hi : Int, 0 ≤ lo ∧ lo ≤ hi ∧ hi ≤ 4000 ∧ l = .int .i64 lo ∧ h = .int .i64 hi ∧ Hid (RootIn n lo hi)) (fun l h => (intOf h - intOf l).toNat)
  case atStart => exact ⟨0, 4000, by omega, by omega, by omega, rfl, rfl, H⟩
  case round =>
    obtain ⟨lo, hi, a0, a1, a2, rfl, rfl, HR⟩ := hrel
    by_cases hlt : lo < hi
    · obtain ⟨s0, s1⟩ := mid_sq a0 hlt a2
      by_cases hm : (lo + hi + 1) / 2 * ((lo + hi + 1) / 2) ≤ n
      · go_wp2
        go_round
        case rel => exact ⟨_, hi, by omega, by omega, by omega, rfl, rfl, Lib.hid (rootIn_low HR.out hm)⟩
        case measure => simp [intOf]; omega
      · go_wp2
        go_round
        case rel => exact ⟨lo, _, by omega, by omega, by omega, rfl, rfl, Lib.hid (rootIn_high HR.out (by omega))⟩
        case measure => simp [intOf]; omega
    · go_wp2
      go_ret
      exact ⟨by rw [rootIn_end h0 HR.out a0 a1 (by omega)]; rfl, rfl⟩

set_option maxHeartbeats 400000 in
theorem arRoot_any (n : Int) (w : World) (h0 : 0 ≤ n) (h1 : n ≤ 10000000) :
    Calls Try.prog 75 #[.int .i64 n] w fun e w' => e = .returned (.int .i64 (iroot n)) ∧ w = w' := by
  have H := Lib.hid (rootIn_start h0 h1)
  go_enter Try.func75, Try.ntmps75
  go_wp2
  go_loop [3, 4] (fun l h => ∃ lo hi : Int, 0 ≤ lo ∧ lo ≤ hi ∧ hi ≤ 4000 ∧ l = .int .i64 lo ∧ h = .int .i64 hi ∧ Hid (RootIn n lo hi)) (fun l h => (intOf h - intOf l).toNat)
  case atStart => exact ⟨0, 4000, by omega, by omega, by omega, rfl, rfl, H⟩
  case round =>
    obtain ⟨lo, hi, a0, a1, a2, rfl, rfl, HR⟩ := hrel
    by_cases hlt : lo < hi
    · obtain ⟨s0, s1⟩ := mid_sq a0 hlt a2
      by_cases hm : (lo + hi + 1) / 2 * ((lo + hi + 1) / 2) ≤ n
      · go_wp2
        go_round
        case rel => exact ⟨_, hi, by omega, by omega, by omega, rfl, rfl, Lib.hid (rootIn_low HR.out hm)⟩
        case measure => simp [intOf]; omega
      · go_wp2
        go_round
        case rel => exact ⟨lo, _, by omega, by omega, by omega, rfl, rfl, Lib.hid (rootIn_high HR.out (by omega))⟩
        case measure => simp [intOf]; omega
    · go_wp2
      go_ret
      exact ⟨by rw [rootIn_end h0 HR.out a0 a1 (by omega)]; rfl, rfl⟩

def mRootOf (n : Int) : Int × Bool := if inB n 0 10000000 then (iroot n, true) else (0, false)

theorem isRadius_any (r : Int) (w : World) :
    Calls Try.prog 77 #[.int .i64 r] w fun e w' => e = .returned (.bool (inB r 1 1400)) ∧ w = w' := by
  go_enter Try.func77, Try.ntmps77
  go_wp2_with (go_at_call 49; refine (within_any _ _ _ _).mono ?_; rintro e w' ⟨rfl, rfl⟩)
  go_ret
  exact ⟨rfl, rfl⟩

theorem arGood_any (x y r : Int) (w : World) :
    Calls Try.prog 74 #[.agg #[.int .i64 x, .int .i64 y], .int .i64 r] w fun e w' => e = .returned (.bool (goodB x y && inB r 1 1400)) ∧ Below w.heap.size w w' := by
  rcases tf (goodB x y) with hx | hx
  all_goals
    go_enter Try.func74, Try.ntmps74
    go_wp2_with (first | (go_at_call 61; refine (stGood_any _ _ _).mono ?_; rintro e w' ⟨rfl, hb⟩; have hz : w.heap.size ≤ w'.heap.size := (by have := hb.size; first | omega | (simp at this; omega)); have hB : Below w.heap.size w w' := (by refine Below.trans ?_ (hb.mono (by first | omega | (simp <;> omega))); (first | with_reducible exact Below.refl _ _ | with_reducible assumption | (repeat (with_reducible first | exact Below.refl _ _ | assumption | refine Below.drew ?_ | refine Below.alloc ?_ (by first | omega | (simp <;> omega)) _ | refine Below.setCell ?_ (by first | omega | (simp <;> omega)) _ | refine below_drewN ?_ _)))); have hh := Has.below (by (repeat (with_reducible first | assumption | apply Has.alloc5 | apply Has.alloc2 | apply Has.alloc1 | apply Has.alloc3 | apply Has.drew | apply Has.drewN | apply Has.set_ | apply Has.allocx | exact Has.nil _))) hb; (try simp only [World.size_alloc, World.size_setCell, World.size_drew, World.heap_drewN] at hh); have hq := hh; simp only [Has, upd, World.size_alloc, World.size_setCell, World.size_drew, World.heap_drewN, and_true, true_and, ite_true, ite_false, and_self, Nat.add_right_cancel_iff, Nat.add_eq_left, Nat.left_eq_add, reduceCtorEq, Nat.reduceEqDiff, if_true, if_false] at hq; have hs := hb.size; (try simp only [World.size_alloc, World.size_setCell, World.size_drew, World.heap_drewN] at hs); clear hb) | (go_at_call 45; refine (l1In_any _ _ _ _).mono ?_; rintro e w' ⟨rfl, rfl⟩))
    go_ret
    exact ⟨by simp [hx], (by (first | with_reducible exact Below.refl _ _ | with_reducible assumption | (repeat (with_reducible first | exact Below.refl _ _ | assumption | refine Below.drew ?_ | refine Below.alloc ?_ (by first | omega | (simp <;> omega)) _ | refine Below.setCell ?_ (by first | omega | (simp <;> omega)) _ | refine below_drewN ?_ _))))⟩

def mChord (r h : Int) : Int × Bool := if inB r 1 1400 && inB h 0 r then (iroot (4 * (2 * r * h - h * h)), true) else (0, false)
theorem chord_bd {r h : Int} (h1 : 1 ≤ r) (h2 : r ≤ 1400) (h3 : 0 ≤ h) (h4 : h ≤ r) : 0 ≤ 2 * r * h ∧ 2 * r * h ≤ 3920000 ∧ 0 ≤ h * h ∧ h * h ≤ 1960000 ∧ 0 ≤ 4 * (2 * r * h - h * h) ∧ 4 * (2 * r * h - h * h) ≤ 10000000 := by
  have e : 2 * r * h - h * h = r * r - (r - h) * (r - h) := by rw [Int.sub_mul, Int.mul_sub, Int.mul_sub, Int.mul_comm h r, Int.mul_assoc]; omega
  have a := sqr_le (d := r) (m := 1400) (by omega) (by omega)
  have b := sqr_le (d := r - h) (m := r) (by omega) (by omega)
  have c := sqr_le (d := h) (m := 1400) (by omega) (by omega)
  have d : 0 ≤ r * h := Int.mul_nonneg (by omega) (by omega)
  have d' : r * h ≤ 1400 * 1400 := Int.mul_le_mul (by omega) (by omega) (by omega) (by omega)
  rw [Int.mul_assoc] at *
  omega

def mNearArc (x y r u v s : Int) : Bool × Bool := if goodB x y && inB r 1 1400 && goodB u v && inB s 0 r then (inB (sq x y u v) ((r - s) * (r - s)) ((r + s) * (r + s)), true) else (false, false)
theorem near_bd {r s : Int} (h1 : 1 ≤ r) (h2 : r ≤ 1400) (h3 : 0 ≤ s) (h4 : s ≤ r) : 0 ≤ (r - s) * (r - s) ∧ (r - s) * (r - s) ≤ 7840000 ∧ 0 ≤ (r + s) * (r + s) ∧ (r + s) * (r + s) ≤ 7840000 := by
  have a := sqr_le (d := r - s) (m := 2800) (by omega) (by omega)
  have b := sqr_le (d := r + s) (m := 2800) (by omega) (by omega)
  omega

end Go.Proofs.Ytakgmmdnlhamkaa

