/- The statements' marking of a row of spots. -/
import Derived.Test.YtkadnmebijfacaaWithin
import Derived.Maps.AppendAt
namespace Go.Proofs.Ytkadnmebijfacaa
open Go.RowKit
set_option linter.unusedVariables false
set_option linter.unusedSimpArgs false
set_option maxRecDepth 100000

def marks2 (n : Nat) : List (Int × Int) := List.map (fun i : Nat => (2 * (i : Int) + 1, 2 * (i : Int) + 1 + 1)) (List.range n)
theorem marks2_len (n : Nat) : (marks2 n).length = n := by simp [marks2]
theorem marks2_get (n i : Nat) (h : i < (marks2 n).length) : (marks2 n)[i] = (2 * (i : Int) + 1, 2 * (i : Int) + 1 + 1) := by simp [marks2]
theorem RowTo.weak0 {w : World} {g n k : Nat} {l : List (Int × Int)} (h : RowTo w g n k l) : RowTo w g n 0 (marks2 n) :=
  ⟨h.1, marks2_len n, h.2.2.1, fun i hi hk => absurd hk (by omega)⟩
theorem RowTo.cells {w : World} {g n k : Nat} {l : List (Int × Int)} (h : RowTo w g n k l) {j : Nat} (hj : j < n) : ∃ u u', Has w [(g, j * 2, u), (g, j * 2 + 1, u')] := by
  obtain ⟨⟨v, hv⟩, hf⟩ := h.2.2.1 (j * 2) (by omega)
  obtain ⟨⟨v', hv'⟩, hf'⟩ := h.2.2.1 (j * 2 + 1) (by omega)
  exact ⟨v, v', ⟨hv, hf⟩, ⟨hv', hf'⟩, trivial⟩
theorem grown_set1 (w : World) (g i : Nat) (v : Value) : w.grownBy (w.setCell ⟨g, i, none⟩ v) (some g) :=
  ⟨rfl, rfl, rfl, by simp [World.setCell], fun k _ hk => Below.heap_setCell w ⟨g, i, none⟩ v k (fun e => hk (by rw [e]))⟩
theorem grown_set2 (w : World) (g i j : Nat) (v v' : Value) : w.grownBy ((w.setCell ⟨g, i, none⟩ v).setCell ⟨g, j, none⟩ v') (some g) :=
  World.grownBy.trans (grown_set1 w g i v) (grown_set1 _ g j v')

end Go.Proofs.Ytkadnmebijfacaa

