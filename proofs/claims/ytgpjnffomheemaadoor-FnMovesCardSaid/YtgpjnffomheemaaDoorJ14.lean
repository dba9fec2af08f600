import Derived.Test.YtgpjnffomheemaaDoorJ2
import Derived.Maps.AppendAt

section
/- The statements' marking of a row of spots. -/
namespace Go.Proofs.YtgpjnffomheemaaDoor
open Go.RowKit
set_option linter.unusedVariables false
set_option linter.unusedSimpArgs false
set_option maxRecDepth 100000

def marks2 (n : Nat) : List (Int × Int) := List.map (fun i : Nat => (2 * (i : Int) + 1, 2 * (i : Int) + 1 + 1)) (List.range n)
theorem marks2_len (n : Nat) : (marks2 n).length = n := by simp [marks2]
theorem marks2_get (n i : Nat) (h : i < (marks2 n).length) : (marks2 n)[i] = (2 * (i : Int) + 1, 2 * (i : Int) + 1 + 1) := by simp [marks2]
theorem RowTo.weak0 {w : World} {g n k : Nat} {l : List (Int × Int)} (h : RowTo w g n k l) : RowTo w g n 0 (marks2 n) :=
  ⟨h.1, marks2_len n, h.2.2.1, fun i hi hk => absurd hk (by omega)⟩
theorem RowTo.cells {w : World} {g n k : Nat} {l : List (Int × Int)} (h : RowTo w g n k l) {j : Nat} (hj : j < n) : ∃ u u', Has w [(g, j * 2, u), (g, j * 2 + 1, u')] := by
  obtain ⟨⟨v, hv⟩, hf⟩ := h.2.2.1 (j * 2) (by omega)
  obtain ⟨⟨v', hv'⟩, hf'⟩ := h.2.2.1 (j * 2 + 1) (by omega)
  exact ⟨v, v', ⟨hv, hf⟩, ⟨hv', hf'⟩, trivial⟩
theorem grown_set1 (w : World) (g i : Nat) (v : Value) : w.grownBy (w.setCell ⟨g, i, none⟩ v) (some g) :=
  ⟨rfl, rfl, rfl, by simp [World.setCell], fun k _ hk => Below.heap_setCell w ⟨g, i, none⟩ v k (fun e => hk (by rw [e]))⟩
theorem grown_set2 (w : World) (g i j : Nat) (v v' : Value) : w.grownBy ((w.setCell ⟨g, i, none⟩ v).setCell ⟨g, j, none⟩ v') (some g) :=
  World.grownBy.trans (grown_set1 w g i v) (grown_set1 _ g j v')

end Go.Proofs.YtgpjnffomheemaaDoor
end

section
/- Rows of spots of the call's own, that append makes: cells, comparison, holding. -/
namespace Go.Proofs.YtgpjnffomheemaaDoor
open Go.RowKit
set_option linter.unusedVariables false
set_option linter.unusedSimpArgs false
set_option maxRecDepth 100000

def flat2 (l : List (Int × Int)) : List Value := l.flatMap fun p => [.int .i64 p.1, .int .i64 p.2]
theorem flat2_len : ∀ l : List (Int × Int), (flat2 l).length = l.length * 2
  | [] => rfl
  | p :: l => by simp [flat2] at *; have := flat2_len l; simp [flat2] at this; omega
theorem flat2_snoc (l : List (Int × Int)) (p : Int × Int) : flat2 (l ++ [p]) = flat2 l ++ [.int .i64 p.1, .int .i64 p.2] := by simp [flat2]
theorem flat2_get : ∀ (l : List (Int × Int)) (k : Nat) (h : k < l.length), (flat2 l)[k * 2]? = some (.int .i64 l[k].1) ∧ (flat2 l)[k * 2 + 1]? = some (.int .i64 l[k].2)
  | p :: l, 0, _ => by simp [flat2]
  | p :: l, k + 1, h => by
    have := flat2_get l k (by simpa using h)
    have e1 : (k + 1) * 2 = k * 2 + 2 := by omega
    rw [e1]
    simpa [flat2] using this

/-- a row of spots of the call's own, from block base on -/
def SRow (w : World) (base : Nat) (v : Value) (l : List (Int × Int)) : Prop := l.length ≤ 1048576 ∧ w.ownsRow base 25 2 v l.length (flat2 l)
theorem SRow.below {w w' : World} {base : Nat} {v : Value} {l : List (Int × Int)} (h : SRow w base v l) {B : Nat} (hb : Below B w w') (hB : w.heap.size ≤ B) : SRow w' base v l := by
  refine ⟨h.1, h.2.1, ?_⟩
  rcases h.2.2 with h0 | ⟨g, cap, cur, hv, hbg, hh, h1, h2, h3, h4⟩
  · exact .inl h0
  · have hlt : g < w.heap.size := by
      rcases Nat.lt_or_ge g w.heap.size with hlt | hge
      · exact hlt
      · rw [Array.getElem?_eq_none hge] at hh; cases hh
    exact .inr ⟨g, cap, cur, hv, hbg, (hb.block g (by omega)).trans hh, h1, h2, h3, h4⟩
theorem SRow.more {w : World} {b b' : Nat} {v : Value} {l : List (Int × Int)} (h : SRow w b v l) (hb : b' ≤ b) : SRow w b' v l := by
  refine ⟨h.1, h.2.1, ?_⟩
  rcases h.2.2 with h0 | ⟨g, cap, cur, hv, hbg, r⟩
  · exact .inl h0
  · exact .inr ⟨g, cap, cur, hv, by omega, r⟩
theorem SRow.snoc {w : World} {base : Nat} {v : Value} {l : List (Int × Int)} {p : Int × Int} (hl : l.length < 1048576) (h : w.ownsRow base 25 2 v (l.length + 1) (flat2 l ++ [.int .i64 p.1, .int .i64 p.2])) : SRow w base v (l ++ [p]) :=
  ⟨by simp; omega, by rw [flat2_snoc]; simpa using h⟩
theorem SRow.kept {w w' : World} {base : Nat} {v : Value} {l : List (Int × Int)} {row : Option Nat} (h : SRow w base v l) (hg : w.grownBy w' row) (hne : v.ownBlock = none ∨ v.ownBlock ≠ row) : SRow w' base v l := ⟨h.1, World.ownsRow.kept h.2 hg hne⟩
/-- it reads as a list -/
theorem SRow.lst {w : World} {base : Nat} {v : Value} {l : List (Int × Int)} (h : SRow w base v l) : ∃ A c, v = .slice A l.length c ∧ (l.length ≤ c ∧ c ≤ maxLen) ∧ Lst w A l.length l ∧ (0 < l.length → ∃ g, A = some ⟨g, 0, none⟩ ∧ base ≤ g ∧ g < w.heap.size ∧ v.ownBlock = some g) := by
  rcases h.2.2 with ⟨rfl, h0⟩ | ⟨g, cap, cur, rfl, hbg, hh, h1, h2, h3, h4⟩
  · exact ⟨none, 0, by rw [h0], ⟨by omega, by simp [maxLen]⟩, ⟨rfl, h.1, fun hl => absurd hl (by omega)⟩, fun hl => absurd hl (by omega)⟩
  · have hlt : g < w.heap.size := by
      rcases Nat.lt_or_ge g w.heap.size with hlt | hge
      · exact hlt
      · rw [Array.getElem?_eq_none hge] at hh; cases hh
    refine ⟨_, cap, rfl, ⟨h1, h2⟩, ⟨rfl, h.1, fun hl => ⟨g, rfl, hlt, fun i hi => ⟨⟨?_, World.ownsRow.frozenAt h.2 _⟩, ⟨?_, World.ownsRow.frozenAt h.2 _⟩⟩⟩⟩, fun hl => ⟨g, rfl, hbg, hlt, rfl⟩⟩
    · rw [World.ownsRow.cellAt h.2 (i * 2) (by omega)]; exact (flat2_get l i hi).1
    · rw [World.ownsRow.cellAt h.2 (i * 2 + 1) (by omega)]; exact (flat2_get l i hi).2

end Go.Proofs.YtgpjnffomheemaaDoor
end

section
/- Marking and holding of rows of spots that append made. -/
namespace Go.Proofs.YtgpjnffomheemaaDoor
open Go.RowKit
set_option linter.unusedVariables false
set_option linter.unusedSimpArgs false
set_option maxRecDepth 100000

def Blk (w : World) (g cap : Nat) : Prop := ∃ cur, w.heap[g]? = some (.cells cur 25 (0, 0)) ∧ cur.size = cap * 2
theorem Blk.set {w : World} {g cap i : Nat} {v : Value} (h : Blk w g cap) : Blk (w.setCell ⟨g, i, none⟩ v) g cap := by
  obtain ⟨cur, hh, hs⟩ := h
  exact ⟨cur.setIfInBounds i v, by simp [World.setCell, Array.getElem?_modify, hh], by simpa using hs⟩
theorem srow_of {w : World} {g n cap base : Nat} {l : List (Int × Int)} (hr : RowTo w g n n l) (hb : Blk w g cap) (h1 : n ≤ cap) (h2 : cap ≤ maxLen) (h3 : base ≤ g) (h4 : n ≤ 1048576) :
    SRow w base (.slice (some ⟨g, 0, none⟩) n cap) l := by
  obtain ⟨cur, hh, hs⟩ := hb
  have hl := hr.2.1
  subst hl
  refine ⟨h4, flat2_len l, .inr ⟨g, cap, cur, rfl, h3, hh, h1, h2, hs, ?_⟩⟩
  apply List.ext_getElem?
  intro i
  rw [List.getElem?_take]
  by_cases hi : i < l.length * 2
  · rw [if_pos hi, Array.getElem?_toList]
    have hc : ∀ j, w.cell? ⟨g, j, none⟩ = cur[j]? := fun j => cell_of_row _ _ _ _ _ (0, 0) hh
    have hk : i / 2 < l.length := by omega
    have a := hr.2.2.2 (i / 2) hk hk
    have f := flat2_get l (i / 2) hk
    rcases Nat.mod_two_eq_zero_or_one i with e | e
    · have e1 : i / 2 * 2 = i := by omega
      rw [e1] at a f
      rw [← hc, a.1, f.1]
    · have e1 : i / 2 * 2 + 1 = i := by omega
      rw [e1] at a f
      rw [← hc, a.2, f.2]
  · rw [if_neg hi, List.getElem?_eq_none (by rw [flat2_len]; omega)]

theorem SRow.rowTo {w : World} {base g n cap : Nat} {l : List (Int × Int)} (h : SRow w base (.slice (some ⟨g, 0, none⟩) n cap) l) (hl : l.length = n) (h0 : 0 < n) : RowTo w g n n l ∧ Blk w g cap ∧ base ≤ g := by
  subst hl
  obtain ⟨A, c, hv, hc, hL, hg⟩ := h.lst
  obtain ⟨g', hA, hb', hlt, _⟩ := hg h0
  injection hv with e1 e2 e3
  subst e1
  cases hA
  obtain ⟨g2, hA2, _, hcells⟩ := hL.2.2 h0
  cases hA2
  refine ⟨⟨hlt, rfl, fun j hj => ⟨?_, World.ownsRow.frozenAt h.2 j⟩, fun i hi _ => ⟨(hcells i hi).1.1, (hcells i hi).2.1⟩⟩, ?_, hb'⟩
  · rw [World.ownsRow.cellAt h.2 j (by omega)]
    exact ⟨_, List.getElem?_eq_getElem (by rw [flat2_len]; omega)⟩
  · rcases h.2.2 with ⟨hv0, _⟩ | ⟨g3, cap3, cur, hv3, _, hh, _, _, hs, _⟩
    · cases hv0
    · injection hv3 with f1 f2 f3
      cases f1
      subst f3
      exact ⟨cur, hh, hs⟩

end Go.Proofs.YtgpjnffomheemaaDoor
end

section
/- Marking and holding of rows of spots that append made: the walks. -/
namespace Go.Proofs.YtgpjnffomheemaaDoor
open Go.RowKit
set_option linter.unusedVariables false
set_option linter.unusedSimpArgs false
set_option maxRecDepth 100000

end Go.Proofs.YtgpjnffomheemaaDoor
end
