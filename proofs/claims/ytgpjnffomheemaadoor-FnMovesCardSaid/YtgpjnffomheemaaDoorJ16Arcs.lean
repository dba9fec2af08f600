import Derived.Test.YtgpjnffomheemaaDoorJ14
import Derived.Test.YtgpjnffomheemaaDoorJ15
import Derived.Test.YtgpjnffomheemaaDoorGcd
import Derived.Maps.AppendAt
import Derived.Deep.AppendLies
import Derived.Deep.RegionHeld3
import Derived.Deep.DeepCutAuto
/- Contracts of ArcSpots, of the program and of the reference. -/
namespace Go.Proofs.YtgpjnffomheemaaDoor
open Go.RowKit
set_option linter.unusedVariables false
set_option linter.unusedSimpArgs false
set_option maxRecDepth 100000

/-- a list of spots in new memory, and a bool -/
def RetSpots (w : World) (l : List (Int × Int)) (ok : Bool) (e : Ending) (w' : World) : Prop := ∃ A c, e = .returned (.tuple #[.slice A l.length c, .bool ok]) ∧ SRow w' w.heap.size (.slice A l.length c) l ∧ Below w.heap.size w w'
theorem RetSpots.nil (w : World) {w' : World} (hb : Below w.heap.size w w') : RetSpots w [] false (.returned (.tuple #[.slice none 0 0, .bool false])) w' :=
  ⟨none, 0, rfl, ⟨by simp, World.ownsRow_nil _ _ _ _⟩, hb⟩
theorem SRow.ret {w w' : World} {b : Nat} {v : Value} {l : List (Int × Int)} {ok : Bool} (h : SRow w' b v l) (hb : w.heap.size ≤ b) (hB : Below w.heap.size w w') : RetSpots w l ok (.returned (.tuple #[v, .bool ok])) w' := by
  obtain ⟨A, c, rfl, _⟩ := h.lst
  exact ⟨A, c, rfl, h.more hb, hB⟩
theorem two_new (w : World) (x y : Value) (t : TypeId) : ∀ j u, [x, y][j]? = some u → (w.alloc (.cells #[x, y] t)).cell? ((⟨w.heap.size, 0, none⟩ : Addr).add j) = some u :=
  fun j u hu => World.news_of_block (heap_alloc_new w _) j u (by simpa using hu)
theorem two_cells (x y : Int) : ∀ u ∈ [Value.int .i64 x, Value.int .i64 y], u.oneCell' = true := by
  intro u hu; simp at hu; rcases hu with rfl | rfl <;> rfl
theorem SRow.nil (w : World) (base : Nat) : SRow w base (.slice none 0 0) [] := ⟨by simp, World.ownsRow_nil _ _ _ _⟩
theorem quo_abs {a b : Int} (h1 : 1 ≤ b) (h2 : -1000000 ≤ a) (h3 : a ≤ 1000000) : -1000000 ≤ a / b ∧ a / b ≤ 1000000 := by
  refine ⟨?_, ?_⟩
  · rw [Int.le_ediv_iff_mul_le (by omega)]
    have := Int.mul_le_mul_of_nonneg_left h1 (show (0 : Int) ≤ 1000000 by omega)
    omega
  · have : a / b < 1000001 := by
      rw [Int.ediv_lt_iff_lt_mul (by omega)]
      have := Int.mul_le_mul_of_nonneg_left h1 (show (0 : Int) ≤ 1000001 by omega)
      omega
    omega
theorem mul_abs {j d : Int} (h0 : 0 ≤ j) (h1 : j ≤ 40) (h2 : -2800 ≤ d) (h3 : d ≤ 2800) : -112000 ≤ j * d ∧ j * d ≤ 112000 := by
  refine ⟨?_, ?_⟩
  · have a := Int.mul_le_mul_of_nonneg_left h2 h0
    have b : 40 * 2800 ≥ j * 2800 := by omega
    omega
  · have a := Int.mul_le_mul_of_nonneg_left h3 h0
    omega

def arcX (f t n j : Int) : Int := f + j * (t - f) / (n - 1)
def arcTo (m1 m2 r f t n : Int) : Nat → Option (List (Int × Int))
  | 0 => some []
  | j + 1 => match arcTo m1 m2 r f t n j with
    | none => none
    | some l => if (mOnArc m1 m2 r (arcX f t n j)).2 then some (l ++ [(mOnArc m1 m2 r (arcX f t n j)).1]) else none
theorem arcTo_yes {m1 m2 r f t n : Int} {j : Nat} {l : List (Int × Int)} (h : arcTo m1 m2 r f t n j = some l) (h' : (mOnArc m1 m2 r (arcX f t n j)).2 = true) : arcTo m1 m2 r f t n (j + 1) = some (l ++ [(mOnArc m1 m2 r (arcX f t n j)).1]) := by
  simp [arcTo, h, h']
theorem arcTo_no {m1 m2 r f t n : Int} {j : Nat} (h' : (mOnArc m1 m2 r (arcX f t n j)).2 = false) : arcTo m1 m2 r f t n (j + 1) = none := by
  simp only [arcTo]; split <;> simp [h']
theorem arcTo_none {m1 m2 r f t n : Int} {j : Nat} (h : arcTo m1 m2 r f t n j = none) : ∀ k, j ≤ k → arcTo m1 m2 r f t n k = none
  | 0, hk => by obtain rfl : j = 0 := by omega
                exact h
  | k + 1, hk => by
    by_cases e : j = k + 1
    · subst e; exact h
    · have := arcTo_none h k (by omega); simp [arcTo, this]
theorem arcTo_len {m1 m2 r f t n : Int} : ∀ {j : Nat} {l : List (Int × Int)}, arcTo m1 m2 r f t n j = some l → l.length = j
  | 0, l, h => by simp [arcTo] at h; subst h; rfl
  | j + 1, l, h => by
    simp only [arcTo] at h
    split at h
    · cases h
    · rename_i q hq
      split at h
      · cases h; simp [arcTo_len hq]
      · cases h
def arcB (m1 m2 r f t n : Int) : Bool := goodB m1 m2 && inB r 1 1400 && inB f (-r) r && inB t (-r) r && inB n 2 40
def mArc (m1 m2 r f t n : Int) : List (Int × Int) × Bool := if arcB m1 m2 r f t n then (match arcTo m1 m2 r f t n n.toNat with | some l => (l, true) | none => ([], false)) else ([], false)
theorem mArc_bad {m1 m2 r f t n : Int} (h : arcB m1 m2 r f t n = false) : mArc m1 m2 r f t n = ([], false) := by simp [mArc, h]
theorem mArc_stop {m1 m2 r f t n : Int} {j : Nat} (h : (mOnArc m1 m2 r (arcX f t n j)).2 = false) (hj : (j : Int) < n) : mArc m1 m2 r f t n = ([], false) := by
  have := arcTo_none (arcTo_no (f := f) (t := t) (n := n) h) n.toNat (by omega)
  simp [mArc, this]
theorem mArc_all {m1 m2 r f t n : Int} {l : List (Int × Int)} (hb : arcB m1 m2 r f t n = true) (h : arcTo m1 m2 r f t n n.toNat = some l) : mArc m1 m2 r f t n = (l, true) := by
  simp [mArc, hb, h]

end Go.Proofs.YtgpjnffomheemaaDoor

