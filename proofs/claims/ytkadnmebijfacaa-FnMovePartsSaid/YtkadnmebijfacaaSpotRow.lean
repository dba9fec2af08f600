/- Rows of spots of the call's own, that append makes: cells, comparison, holding. -/
import Derived.Test.YtkadnmebijfacaaMarkSpot
namespace Go.Proofs.Ytkadnmebijfacaa
open Go.RowKit
set_option linter.unusedVariables false
set_option linter.unusedSimpArgs false
set_option maxRecDepth 100000

def flat2 (l : List (Int × Int)) : List Value := l.flatMap fun p => [.int .i64 p.1, .int .i64 p.2]
theorem flat2_len : ∀ l : List (Int × Int), (flat2 l).length = l.length * 2
  | [] => rfl
  | p :: l => by simp [flat2] at *; have := flat2_len l; simp [flat2] at this; omega
theorem flat2_snoc (l : List (Int × Int)) (p : Int × Int) : flat2 (l ++ [p]) = flat2 l ++ [.int .i64 p.1, .int .i64 p.2] := by simp [flat2]
theorem flat2_get : ∀ (l : List (Int × Int)) (k : Nat) (h : k < l.length), (flat2 l)[k * 2]? = some (.int .i64 l[k].1) ∧ (flat2 l)[k * 2 + 1]? = some (.int .i64 l[k].2)
  | p :: l, 0, _ => by simp [flat2]
  | p :: l, k + 1, h => by
    have := flat2_get l k (by simpa using h)
    have e1 : (k + 1) * 2 = k * 2 + 2 := by omega
    rw [e1]
    simpa [flat2] using this

/-- a row of spots of the call's own, from block base on -/
def SRow (w : World) (base : Nat) (v : Value) (l : List (Int × Int)) : Prop := l.length ≤ 1048576 ∧ w.ownsRow base 25 2 v l.length (flat2 l)
theorem SRow.below {w w' : World} {base : Nat} {v : Value} {l : List (Int × Int)} (h : SRow w base v l) {B : Nat} (hb : Below B w w') (hB : w.heap.size ≤ B) : SRow w' base v l := by
  refine ⟨h.1, h.2.1, ?_⟩
  rcases h.2.2 with h0 | ⟨g, cap, cur, hv, hbg, hh, h1, h2, h3, h4⟩
  · exact .inl h0
  · have hlt : g < w.heap.size := by
      rcases Nat.lt_or_ge g w.heap.size with hlt | hge
      · exact hlt
      · rw [Array.getElem?_eq_none hge] at hh; cases hh
    exact .inr ⟨g, cap, cur, hv, hbg, (hb.block g (by omega)).trans hh, h1, h2, h3, h4⟩
theorem SRow.more {w : World} {b b' : Nat} {v : Value} {l : List (Int × Int)} (h : SRow w b v l) (hb : b' ≤ b) : SRow w b' v l := by
  refine ⟨h.1, h.2.1, ?_⟩
  rcases h.2.2 with h0 | ⟨g, cap, cur, hv, hbg, r⟩
  · exact .inl h0
  · exact .inr ⟨g, cap, cur, hv, by omega, r⟩
theorem SRow.snoc {w : World} {base : Nat} {v : Value} {l : List (Int × Int)} {p : Int × Int} (hl : l.length < 1048576) (h : w.ownsRow base 25 2 v (l.length + 1) (flat2 l ++ [.int .i64 p.1, .int .i64 p.2])) : SRow w base v (l ++ [p]) :=
  ⟨by simp; omega, by rw [flat2_snoc]; simpa using h⟩
theorem SRow.kept {w w' : World} {base : Nat} {v : Value} {l : List (Int × Int)} {row : Option Nat} (h : SRow w base v l) (hg : w.grownBy w' row) (hne : v.ownBlock = none ∨ v.ownBlock ≠ row) : SRow w' base v l := ⟨h.1, World.ownsRow.kept h.2 hg hne⟩
/-- it reads as a list -/
theorem SRow.lst {w : World} {base : Nat} {v : Value} {l : List (Int × Int)} (h : SRow w base v l) : ∃ A c, v = .slice A l.length c ∧ (l.length ≤ c ∧ c ≤ maxLen) ∧ Lst w A l.length l ∧ (0 < l.length → ∃ g, A = some ⟨g, 0, none⟩ ∧ base ≤ g ∧ g < w.heap.size ∧ v.ownBlock = some g) := by
  rcases h.2.2 with ⟨rfl, h0⟩ | ⟨g, cap, cur, rfl, hbg, hh, h1, h2, h3, h4⟩
  · exact ⟨none, 0, by rw [h0], ⟨by omega, by simp [maxLen]⟩, ⟨rfl, h.1, fun hl => absurd hl (by omega)⟩, fun hl => absurd hl (by omega)⟩
  · have hlt : g < w.heap.size := by
      rcases Nat.lt_or_ge g w.heap.size with hlt | hge
      · exact hlt
      · rw [Array.getElem?_eq_none hge] at hh; cases hh
    refine ⟨_, cap, rfl, ⟨h1, h2⟩, ⟨rfl, h.1, fun hl => ⟨g, rfl, hlt, fun i hi => ⟨⟨?_, World.ownsRow.frozenAt h.2 _⟩, ⟨?_, World.ownsRow.frozenAt h.2 _⟩⟩⟩⟩, fun hl => ⟨g, rfl, hbg, hlt, rfl⟩⟩
    · rw [World.ownsRow.cellAt h.2 (i * 2) (by omega)]; exact (flat2_get l i hi).1
    · rw [World.ownsRow.cellAt h.2 (i * 2 + 1) (by omega)]; exact (flat2_get l i hi).2

end Go.Proofs.Ytkadnmebijfacaa

