import Derived.Test.YtgpjnffomheemaaDoorSpot
import Derived.LoopTactic
import Derived.Test.YtgpjnffomheemaaDoorSpot2
import Derived.Deep.RegionHeld3
import Derived.Deep.DeepCutAuto

section
/- Contracts of the functions on roots, arcs and chords, of the program and of the reference. -/
namespace Go.Proofs.YtgpjnffomheemaaDoor
open Go.RowKit
set_option linter.unusedVariables false
set_option linter.unusedSimpArgs false

/-- the greatest whole number whose square is at most n -/
def irootN : Nat → Nat
  | 0 => 0
  | n + 1 => if (irootN n + 1) * (irootN n + 1) ≤ n + 1 then irootN n + 1 else irootN n
theorem irootN_spec (n : Nat) : irootN n * irootN n ≤ n ∧ n < (irootN n + 1) * (irootN n + 1) := by
  induction n with
  | zero => simp [irootN]
  | succ n ih =>
    obtain ⟨h1, h2⟩ := ih
    simp only [irootN]
    split
    · rename_i h
      refine ⟨h, ?_⟩
      have : (irootN n + 1 + 1) * (irootN n + 1 + 1) = (irootN n + 1) * (irootN n + 1) + 2 * (irootN n + 1) + 1 := by rw [Nat.add_mul, Nat.mul_add]; omega
      omega
    · rename_i h
      exact ⟨by omega, by omega⟩
def iroot (n : Int) : Int := (irootN n.toNat : Int)
theorem iroot_spec (n : Int) (h : 0 ≤ n) : 0 ≤ iroot n ∧ iroot n * iroot n ≤ n ∧ n < (iroot n + 1) * (iroot n + 1) := by
  have := irootN_spec n.toNat
  unfold iroot
  refine ⟨by omega, ?_, ?_⟩
  · have h1 : ((irootN n.toNat * irootN n.toNat : Nat) : Int) ≤ n := by omega
    simpa using h1
  · have h1 : n < (((irootN n.toNat + 1) * (irootN n.toNat + 1) : Nat) : Int) := by omega
    simpa using h1
theorem iroot_eq {n r : Int} (h : 0 ≤ n) (h0 : 0 ≤ r) (h1 : r * r ≤ n) (h2 : n < (r + 1) * (r + 1)) : iroot n = r := by
  obtain ⟨a, b, c⟩ := iroot_spec n h
  rcases Int.lt_trichotomy (iroot n) r with hlt | heq | hgt
  · have : (iroot n + 1) * (iroot n + 1) ≤ r * r := Int.mul_le_mul (by omega) (by omega) (by omega) (by omega)
    omega
  · exact heq
  · have : (r + 1) * (r + 1) ≤ iroot n * iroot n := Int.mul_le_mul (by omega) (by omega) (by omega) (by omega)
    omega
/-- what a binary search knows -/
def RootIn (n lo hi : Int) : Prop := lo * lo ≤ n ∧ n < (hi + 1) * (hi + 1)
theorem rootIn_start {n : Int} (h0 : 0 ≤ n) (h : n ≤ 10000000) : RootIn n 0 4000 := ⟨by omega, by omega⟩
theorem rootIn_end {n lo hi : Int} (hn : 0 ≤ n) (h : RootIn n lo hi) (h0 : 0 ≤ lo) (hle : lo ≤ hi) (hge : hi ≤ lo) : iroot n = lo := by
  obtain rfl : lo = hi := by omega
  exact iroot_eq hn h0 h.1 h.2
theorem rootIn_low {n lo hi m : Int} (h : RootIn n lo hi) (hm : m * m ≤ n) : RootIn n m hi := ⟨hm, h.2⟩
theorem rootIn_high {n lo hi m : Int} (h : RootIn n lo hi) (hm : n < m * m) : RootIn n lo (m - 1) := ⟨h.1, by rw [show m - 1 + 1 = m by omega]; exact hm⟩
theorem mid_sq {lo hi : Int} (h0 : 0 ≤ lo) (h1 : lo < hi) (h2 : hi ≤ 4000) : 0 ≤ (lo + hi + 1) / 2 * ((lo + hi + 1) / 2) ∧ (lo + hi + 1) / 2 * ((lo + hi + 1) / 2) ≤ 16000000 := by
  have := sqr_le (d := (lo + hi + 1) / 2) (m := 4000) (by omega) (by omega)
  exact ⟨this.1, by omega⟩

def mRootOf (n : Int) : Int × Bool := if inB n 0 10000000 then (iroot n, true) else (0, false)

def mChord (r h : Int) : Int × Bool := if inB r 1 1400 && inB h 0 r then (iroot (4 * (2 * r * h - h * h)), true) else (0, false)
theorem chord_bd {r h : Int} (h1 : 1 ≤ r) (h2 : r ≤ 1400) (h3 : 0 ≤ h) (h4 : h ≤ r) : 0 ≤ 2 * r * h ∧ 2 * r * h ≤ 3920000 ∧ 0 ≤ h * h ∧ h * h ≤ 1960000 ∧ 0 ≤ 4 * (2 * r * h - h * h) ∧ 4 * (2 * r * h - h * h) ≤ 10000000 := by
  have e : 2 * r * h - h * h = r * r - (r - h) * (r - h) := by rw [Int.sub_mul, Int.mul_sub, Int.mul_sub, Int.mul_comm h r, Int.mul_assoc]; omega
  have a := sqr_le (d := r) (m := 1400) (by omega) (by omega)
  have b := sqr_le (d := r - h) (m := r) (by omega) (by omega)
  have c := sqr_le (d := h) (m := 1400) (by omega) (by omega)
  have d : 0 ≤ r * h := Int.mul_nonneg (by omega) (by omega)
  have d' : r * h ≤ 1400 * 1400 := Int.mul_le_mul (by omega) (by omega) (by omega) (by omega)
  rw [Int.mul_assoc] at *
  omega

def mNearArc (x y r u v s : Int) : Bool × Bool := if goodB x y && inB r 1 1400 && goodB u v && inB s 0 r then (inB (sq x y u v) ((r - s) * (r - s)) ((r + s) * (r + s)), true) else (false, false)
theorem near_bd {r s : Int} (h1 : 1 ≤ r) (h2 : r ≤ 1400) (h3 : 0 ≤ s) (h4 : s ≤ r) : 0 ≤ (r - s) * (r - s) ∧ (r - s) * (r - s) ≤ 7840000 ∧ 0 ≤ (r + s) * (r + s) ∧ (r + s) * (r + s) ≤ 7840000 := by
  have a := sqr_le (d := r - s) (m := 2800) (by omega) (by omega)
  have b := sqr_le (d := r + s) (m := 2800) (by omega) (by omega)
  omega

end Go.Proofs.YtgpjnffomheemaaDoor
end

section
/- Contracts of QuarterTurn, RadiusOf and OnArc, of the program and of the reference. -/
namespace Go.Proofs.YtgpjnffomheemaaDoor
open Go.RowKit
set_option linter.unusedVariables false
set_option linter.unusedSimpArgs false
set_option maxRecDepth 100000

def mRadius (m1 m2 a1 a2 : Int) : Int × Bool := if goodB m1 m2 && goodB a1 a2 then (iroot (sq m1 m2 a1 a2), true) else (0, false)

theorem iSquareOf_yes (x y u v : Int) (w : World) (h : goodB x y = true) (h' : goodB u v = true) :
    Calls Tryd.prog 16 #[.agg #[.int .i64 x, .int .i64 y], .agg #[.int .i64 u, .int .i64 v]] w fun e w' => e = .returned (.tuple #[.int .i64 (sq x y u v), .bool true]) ∧ Below w.heap.size w w' := by
  have := iSquareOf_any x y u v w
  simpa [mSquareOf, h, h'] using this

theorem iSquareOf_no (x y u v : Int) (w : World) (h : (goodB x y && goodB u v) = false) :
    Calls Tryd.prog 16 #[.agg #[.int .i64 x, .int .i64 y], .agg #[.int .i64 u, .int .i64 v]] w fun e w' => e = .returned (.tuple #[.int .i64 0, .bool false]) ∧ Below w.heap.size w w' := by
  have := iSquareOf_any x y u v w
  have e : mSquareOf x y u v = (0, false) := by unfold mSquareOf; rw [h]; rfl
  rw [e] at this
  exact this

def mQuarter (m1 m2 a1 a2 : Int) : (Int × Int) × Bool := if goodB m1 m2 && goodB a1 a2 then mIf (m1 - (a2 - m2)) (m2 + a1 - m1) else ((0, 0), false)

theorem arc_bd {r x : Int} (h1 : 1 ≤ r) (h2 : r ≤ 1400) (h3 : -r ≤ x) (h4 : x ≤ r) : 0 ≤ r * r ∧ r * r ≤ 1960000 ∧ 0 ≤ x * x ∧ x * x ≤ 1960000 ∧ 0 ≤ r * r - x * x ∧ r * r - x * x ≤ 10000000 := by
  have a := sqr_le (d := r) (m := 1400) (by omega) (by omega)
  have b := sqr_le (d := x) (m := r) h3 h4
  omega
theorem iroot_le {n : Int} (h : 0 ≤ n) (h2 : n ≤ 10000000) : 0 ≤ iroot n ∧ iroot n ≤ 3200 := by
  obtain ⟨a, b, c⟩ := iroot_spec n h
  refine ⟨a, ?_⟩
  rcases Int.lt_or_le 3200 (iroot n) with g | g
  · have := Int.mul_le_mul (show (3201 : Int) ≤ iroot n by omega) (show (3201 : Int) ≤ iroot n by omega) (by omega) (by omega)
    omega
  · exact g
def mOnArc (m1 m2 r x : Int) : (Int × Int) × Bool := if goodB m1 m2 && inB r 1 1400 && inB x (-r) r then mIf (m1 + x) (m2 + iroot (r * r - x * x)) else ((0, 0), false)

end Go.Proofs.YtgpjnffomheemaaDoor
end
