/- Slices of ints of the call's own: comparison, marking and holding, as the statements do it. -/
import Derived.Test.YtgpjnffomheemaaDoorLists
import Derived.Laws.OwnMore
import Derived.Laws.AppendOwn
import Derived.OwnWalk
import Derived.Deep.QuietTactic
import Derived.BigQuiet
namespace Go.Proofs.YtgpjnffomheemaaDoor
open Go.RowKit
set_option linter.unusedVariables false
set_option linter.unusedSimpArgs false
set_option maxRecDepth 100000

/-- a row of ints of the call's own, from block base on -/
def IRow (w : World) (base : Nat) (v : Value) (l : List Int) : Prop := l.length ≤ 1048576 ∧ w.ownsRow base 3 1 v l.length (l.map (Value.int .i64))
theorem IRow.below {w w' : World} {base : Nat} {v : Value} {l : List Int} (h : IRow w base v l) {B : Nat} (hb : Below B w w') (hB : w.heap.size ≤ B) : IRow w' base v l := by
  refine ⟨h.1, h.2.1, ?_⟩
  rcases h.2.2 with h0 | ⟨g, cap, cur, hv, hbg, hh, h1, h2, h3, h4⟩
  · exact .inl h0
  · have hlt : g < w.heap.size := by
      rcases Nat.lt_or_ge g w.heap.size with hlt | hge
      · exact hlt
      · rw [Array.getElem?_eq_none hge] at hh; cases hh
    exact .inr ⟨g, cap, cur, hv, hbg, (hb.block g (by omega)).trans hh, h1, h2, h3, h4⟩
theorem IRow.form {w : World} {base : Nat} {v : Value} {l : List Int} (h : IRow w base v l) : ∃ A c, v = .slice A l.length c ∧ (l.length ≤ c ∧ c ≤ maxLen) ∧ (0 < l.length → ∃ g, A = some ⟨g, 0, none⟩ ∧ base ≤ g ∧ g < w.heap.size ∧ v.ownBlock = some g ∧
    ∀ j (hj : j < l.length), Has w [(g, j, .int .i64 l[j])]) := by
  rcases h.2.2 with ⟨rfl, h0⟩ | ⟨g, cap, cur, rfl, hbg, hh, h1, h2, h3, h4⟩
  · exact ⟨none, 0, by rw [h0], ⟨by omega, by simp [maxLen]⟩, fun hl => absurd hl (by omega)⟩
  · refine ⟨_, cap, rfl, ⟨h1, h2⟩, fun hl => ⟨g, rfl, hbg, ?_, rfl, fun j hj => ⟨⟨?_, ?_⟩, trivial⟩⟩⟩
    · rcases Nat.lt_or_ge g w.heap.size with hlt | hge
      · exact hlt
      · rw [Array.getElem?_eq_none hge] at hh; cases hh
    · have := World.ownsRow.cellAt h.2 j (by omega)
      rw [this]
      simp [hj]
    · exact World.ownsRow.frozenAt h.2 j
theorem IRow.ne_ {w w1 : World} {b b1 : Nat} {v v1 : Value} {l l1 : List Int} (h : IRow w b v l) (h1 : IRow w1 b1 v1 l1) (hw : w.heap.size ≤ b1) : v.ownBlock = none ∨ v.ownBlock ≠ v1.ownBlock := by
  rcases hv : v.ownBlock with _ | k
  · exact .inl rfl
  · right
    intro e
    have a := World.ownsRow.lt h.2 k hv
    have c := World.ownsRow.lt h1.2 k e.symm
    omega
theorem IRow.kept {w w' : World} {base : Nat} {v : Value} {l : List Int} {row : Option Nat} (h : IRow w base v l) (hg : w.grownBy w' row) (hne : v.ownBlock = none ∨ v.ownBlock ≠ row) : IRow w' base v l := ⟨h.1, World.ownsRow.kept h.2 hg hne⟩
def marks (n : Nat) : List Int := List.map (fun i : Nat => (i : Int) + 1) (List.range n)

theorem ownBlock_some {g : Nat} {n c : Nat} : (Value.slice (some ⟨g, 0, none⟩) n c).ownBlock = some g := rfl
/-- a row that is a block of ints at g, place by place -/
def MarkTo (w0 w : World) (cap g n k : Nat) : Prop := g < w0.heap.size ∧ w0.grownBy w (some g) ∧ (∃ cur, w.heap[g]? = some (.cells cur 3 (0, 0)) ∧ n ≤ cap ∧ cap ≤ maxLen ∧ cur.size = cap ∧ ∀ j, j < k → cur[j]? = some (.int .i64 ((j : Int) + 1)))
theorem MarkTo.has {w0 w : World} {cap g n k j : Nat} (h : MarkTo w0 w cap g n k) (hj : j < n) : ∃ u, Has w [(g, j, u)] := by
  obtain ⟨h1, h2, cur, hh, h3, h4, h5, h6⟩ := h
  have hjc : j < cur.size := by omega
  refine ⟨cur[j], ⟨?_, ?_⟩, trivial⟩
  · rw [cell_of_row _ _ _ _ _ (0, 0) hh]; exact Array.getElem?_eq_getElem hjc
  · unfold World.frozen?; rw [hh]; simp
theorem MarkTo.step {w0 w : World} {cap g n k : Nat} (h : MarkTo w0 w cap g n k) (hk : k < n) : MarkTo w0 (w.setCell ⟨g, k, none⟩ (.int .i64 ((k : Int) + 1))) cap g n (k + 1) := by
  obtain ⟨h1, h2, cur, hh, h3, h4, h5, h6⟩ := h
  refine ⟨h1, ⟨h2.os, h2.tape, h2.output, by simpa [World.setCell] using h2.size, fun i hi hne => (Below.heap_setCell w _ _ i (fun e => hne (by rw [e]))).trans (h2.block i hi hne)⟩, cur.setIfInBounds k (.int .i64 ((k : Int) + 1)), ?_, h3, h4, by simpa using h5, fun j hj => ?_⟩
  · simp [World.setCell, Array.getElem?_modify, hh]
  · by_cases e : j = k
    · subst e; rw [Array.getElem?_setIfInBounds_self_of_lt (by omega)]
    · rw [Array.getElem?_setIfInBounds_ne (by omega)]; exact h6 j (by omega)

def RetMark (w : World) (b : Nat) (v : Value) (n : Nat) (e : Ending) (w' : World) : Prop :=
  e = .returned (.int .i64 ((n : Int) + 1)) ∧ IRow w' b v (marks n) ∧ w.grownBy w' v.ownBlock

end Go.Proofs.YtgpjnffomheemaaDoor

