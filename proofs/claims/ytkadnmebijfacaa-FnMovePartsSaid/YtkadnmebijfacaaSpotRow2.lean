/- Marking and holding of rows of spots that append made. -/
import Derived.Test.YtkadnmebijfacaaSpotRow
namespace Go.Proofs.Ytkadnmebijfacaa
open Go.RowKit
set_option linter.unusedVariables false
set_option linter.unusedSimpArgs false
set_option maxRecDepth 100000

def Blk (w : World) (g cap : Nat) : Prop := ∃ cur, w.heap[g]? = some (.cells cur 25 (0, 0)) ∧ cur.size = cap * 2
theorem Blk.set {w : World} {g cap i : Nat} {v : Value} (h : Blk w g cap) : Blk (w.setCell ⟨g, i, none⟩ v) g cap := by
  obtain ⟨cur, hh, hs⟩ := h
  exact ⟨cur.setIfInBounds i v, by simp [World.setCell, Array.getElem?_modify, hh], by simpa using hs⟩
theorem srow_of {w : World} {g n cap base : Nat} {l : List (Int × Int)} (hr : RowTo w g n n l) (hb : Blk w g cap) (h1 : n ≤ cap) (h2 : cap ≤ maxLen) (h3 : base ≤ g) (h4 : n ≤ 1048576) :
    SRow w base (.slice (some ⟨g, 0, none⟩) n cap) l := by
  obtain ⟨cur, hh, hs⟩ := hb
  have hl := hr.2.1
  subst hl
  refine ⟨h4, flat2_len l, .inr ⟨g, cap, cur, rfl, h3, hh, h1, h2, hs, ?_⟩⟩
  apply List.ext_getElem?
  intro i
  rw [List.getElem?_take]
  by_cases hi : i < l.length * 2
  · rw [if_pos hi, Array.getElem?_toList]
    have hc : ∀ j, w.cell? ⟨g, j, none⟩ = cur[j]? := fun j => cell_of_row _ _ _ _ _ (0, 0) hh
    have hk : i / 2 < l.length := by omega
    have a := hr.2.2.2 (i / 2) hk hk
    have f := flat2_get l (i / 2) hk
    rcases Nat.mod_two_eq_zero_or_one i with e | e
    · have e1 : i / 2 * 2 = i := by omega
      rw [e1] at a f
      rw [← hc, a.1, f.1]
    · have e1 : i / 2 * 2 + 1 = i := by omega
      rw [e1] at a f
      rw [← hc, a.2, f.2]
  · rw [if_neg hi, List.getElem?_eq_none (by rw [flat2_len]; omega)]

theorem SRow.rowTo {w : World} {base g n cap : Nat} {l : List (Int × Int)} (h : SRow w base (.slice (some ⟨g, 0, none⟩) n cap) l) (hl : l.length = n) (h0 : 0 < n) : RowTo w g n n l ∧ Blk w g cap ∧ base ≤ g := by
  subst hl
  obtain ⟨A, c, hv, hc, hL, hg⟩ := h.lst
  obtain ⟨g', hA, hb', hlt, _⟩ := hg h0
  injection hv with e1 e2 e3
  subst e1
  cases hA
  obtain ⟨g2, hA2, _, hcells⟩ := hL.2.2 h0
  cases hA2
  refine ⟨⟨hlt, rfl, fun j hj => ⟨?_, World.ownsRow.frozenAt h.2 j⟩, fun i hi _ => ⟨(hcells i hi).1.1, (hcells i hi).2.1⟩⟩, ?_, hb'⟩
  · rw [World.ownsRow.cellAt h.2 j (by omega)]
    exact ⟨_, List.getElem?_eq_getElem (by rw [flat2_len]; omega)⟩
  · rcases h.2.2 with ⟨hv0, _⟩ | ⟨g3, cap3, cur, hv3, _, hh, _, _, hs, _⟩
    · cases hv0
    · injection hv3 with f1 f2 f3
      cases f1
      subst f3
      exact ⟨cur, hh, hs⟩

end Go.Proofs.Ytkadnmebijfacaa

