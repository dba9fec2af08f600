/- Slices of pairs of ints: how they read, what is kept of them; the copies, sizes and comparisons of the statements. -/
import Derived.Test.YtgpjnffomheemaaDoorSpot
import Derived.Test.YtgpjnffomheemaaDoorBase2
import Derived.Test.YtgpjnffomheemaaDoorOpen
import Derived.LoopTactic
import Derived.Laws.MakeOwn
import Derived.Deep.RegionHeld3
import Derived.Deep.DeepCutAuto
namespace Go.Proofs.YtgpjnffomheemaaDoor
open Go.RowKit
set_option linter.unusedVariables false
set_option linter.unusedSimpArgs false
set_option maxRecDepth 100000

/-- a row of pairs of the call's own at block g: its cells are known from index 0 to k, all cells may be written -/
def RowTo (w : World) (g n k : Nat) (l : List (Int × Int)) : Prop :=
  g < w.heap.size ∧ l.length = n ∧ (∀ j, j < 2 * n → (∃ v, w.cell? ⟨g, j, none⟩ = some v) ∧ w.frozen? ⟨g, j, none⟩ = false) ∧
    ∀ i (h : i < l.length), i < k → w.cell? ⟨g, i * 2, none⟩ = some (.int .i64 l[i].1) ∧ w.cell? ⟨g, i * 2 + 1, none⟩ = some (.int .i64 l[i].2)
theorem Pairs.below {w w' : World} {B n c : Nat} {A : Option Addr} {l : List (Int × Int)} (h : Pairs w B A n c l) (hb : Below B w w') : Pairs w' B A n c l :=
  ⟨h.1, h.2.1, h.2.2.1, fun hn => by
    obtain ⟨b, off, rfl, hlt, hc⟩ := h.2.2.2 hn
    exact ⟨b, off, rfl, hlt, fun i hi => ⟨(hb.cell (p := ⟨b, _, none⟩) hlt).trans (hc i hi).1, (hb.cell (p := ⟨b, _, none⟩) hlt).trans (hc i hi).2⟩⟩⟩
theorem Pairs.more {w : World} {B B' n c : Nat} {A : Option Addr} {l : List (Int × Int)} (h : Pairs w B A n c l) (hB : B ≤ B') : Pairs w B' A n c l :=
  ⟨h.1, h.2.1, h.2.2.1, fun hn => by
    obtain ⟨b, off, rfl, hlt, hc⟩ := h.2.2.2 hn
    exact ⟨b, off, rfl, by omega, hc⟩⟩
theorem RowTo.below {w w' : World} {g n k : Nat} {l : List (Int × Int)} (h : RowTo w g n k l) {B : Nat} (hb : Below B w w') (hB : g < B) : RowTo w' g n k l := by
  obtain ⟨h1, h2, h3, h4⟩ := h
  refine ⟨Nat.lt_of_lt_of_le h1 hb.size, h2, fun j hj => ?_, fun i hi hik => ?_⟩
  · obtain ⟨⟨v, hv⟩, hf⟩ := h3 j hj
    exact ⟨⟨v, (hb.cell (p := ⟨g, j, none⟩) hB).trans hv⟩, (hb.frozen (p := ⟨g, j, none⟩) hB).trans hf⟩
  · exact ⟨(hb.cell (p := ⟨g, _, none⟩) hB).trans (h4 i hi hik).1, (hb.cell (p := ⟨g, _, none⟩) hB).trans (h4 i hi hik).2⟩
theorem RowTo.pairs {w : World} {g n : Nat} {l : List (Int × Int)} (h : RowTo w g n n l) (hn : n ≤ maxLen) : Pairs w w.heap.size (some ⟨g, 0, none⟩) n n l :=
  ⟨h.2.1, Nat.le_refl _, hn, fun _ => ⟨g, 0, rfl, h.1, fun i hi => by
    have := h.2.2.2 i hi (by have := h.2.1; omega)
    simpa using this⟩⟩
theorem madeCells_get (z : Array Value) (n j : Nat) (h : j < n) : (madeCells z n)[j]? = some (z[j % z.size]!) := by
  unfold madeCells
  simp [Array.getElem?_map, h]

theorem rowTo_start (w : World) {n : Nat} {l : List (Int × Int)} (E : TypeId) (hl : l.length = n) : RowTo (w.alloc (.cells (madeCells #[.int .i64 0, .int .i64 0] (n * 2)) E)) w.heap.size n 0 l := by
  refine ⟨by simp, hl, fun j hj => ?_, fun i hi h => absurd h (by omega)⟩
  have hg := heap_alloc_new w (.cells (madeCells #[.int .i64 0, .int .i64 0] (n * 2)) E)
  refine ⟨⟨_, (cell_of_row _ _ j _ _ (0, 0) hg).trans (madeCells_get _ _ j (by omega))⟩, ?_⟩
  unfold World.frozen?
  rw [hg]
  simp

theorem rowTo_set {w : World} {g n k : Nat} {l : List (Int × Int)} {x y : Int} (h : RowTo w g n k l) (hk : k < l.length) (hx : l[k].1 = x) (hy : l[k].2 = y) :
    RowTo ((w.setCell ⟨g, k * 2, none⟩ (.int .i64 x)).setCell ⟨g, k * 2 + 1, none⟩ (.int .i64 y)) g n (k + 1) l := by
  subst hx hy
  obtain ⟨h1, h2, h3, h4⟩ := h
  have e1 : ∀ j, j ≠ k * 2 → (w.setCell ⟨g, k * 2, none⟩ (.int .i64 l[k].1)).cell? ⟨g, j, none⟩ = w.cell? ⟨g, j, none⟩ := fun j hj => World.cell?_setCell_other _ _ _ _ (by intro he; injection he; omega)
  have e2 : ∀ j, j ≠ k * 2 + 1 → ((w.setCell ⟨g, k * 2, none⟩ (.int .i64 l[k].1)).setCell ⟨g, k * 2 + 1, none⟩ (.int .i64 l[k].2)).cell? ⟨g, j, none⟩ = (w.setCell ⟨g, k * 2, none⟩ (.int .i64 l[k].1)).cell? ⟨g, j, none⟩ := fun j hj => World.cell?_setCell_other _ _ _ _ (by intro he; injection he; omega)
  have a1 : (w.setCell ⟨g, k * 2, none⟩ (.int .i64 l[k].1)).cell? ⟨g, k * 2, none⟩ = some (.int .i64 l[k].1) := by
    obtain ⟨⟨v, hv⟩, _⟩ := h3 (k * 2) (by omega)
    exact World.cell?_setCell_same _ _ _ hv
  have a2 : ((w.setCell ⟨g, k * 2, none⟩ (.int .i64 l[k].1)).setCell ⟨g, k * 2 + 1, none⟩ (.int .i64 l[k].2)).cell? ⟨g, k * 2 + 1, none⟩ = some (.int .i64 l[k].2) := by
    obtain ⟨⟨v, hv⟩, _⟩ := h3 (k * 2 + 1) (by omega)
    exact World.cell?_setCell_same _ _ _ ((e1 (k * 2 + 1) (by omega)).trans hv)
  refine ⟨by simpa using h1, h2, fun j hj => ⟨?_, by simpa using (h3 j hj).2⟩, fun i hi hik => ?_⟩
  · by_cases j1 : j = k * 2 + 1
    · subst j1; exact ⟨_, a2⟩
    · by_cases j0 : j = k * 2
      · subst j0; exact ⟨_, (e2 _ (by omega)).trans a1⟩
      · obtain ⟨⟨v, hv⟩, _⟩ := h3 j hj
        exact ⟨v, ((e2 j j1).trans (e1 j j0)).trans hv⟩
  · by_cases hi2 : i = k
    · subst hi2; exact ⟨(e2 _ (by omega)).trans a1, a2⟩
    · exact ⟨((e2 _ (by omega)).trans (e1 _ (by omega))).trans (h4 i hi (by omega)).1, ((e2 _ (by omega)).trans (e1 _ (by omega))).trans (h4 i hi (by omega)).2⟩

def RetRow (w : World) (n : Nat) (l : List (Int × Int)) (e : Ending) (w' : World) : Prop :=
  ∃ g, e = .returned (.slice (some ⟨g, 0, none⟩) n n) ∧ w.heap.size ≤ g ∧ RowTo w' g n n l ∧ Below w.heap.size w w'

theorem infoSpot : (Tryd.prog.info? 25).map (fun i => (i.zero, i.size, i.bytes)) = some (some (.agg #[.int .i64 0, .int .i64 0]), 2, 16) := by kernel_rfl

end Go.Proofs.YtgpjnffomheemaaDoor

