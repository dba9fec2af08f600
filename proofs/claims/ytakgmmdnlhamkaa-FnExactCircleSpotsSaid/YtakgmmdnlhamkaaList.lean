/- Slices of pairs of ints: how they read, what is kept of them; the copies, sizes and comparisons of the statements. -/
import Derived.Test.YtakgmmdnlhamkaaSpot
import Derived.Test.YtakgmmdnlhamkaaBase2
import Derived.Test.YtakgmmdnlhamkaaOpen
import Derived.LoopTactic
import Derived.Laws.MakeOwn
import Derived.Deep.RegionHeld3
import Derived.Deep.DeepCutAuto
namespace Go.Proofs.Ytakgmmdnlhamkaa
open Go.RowKit
set_option linter.unusedVariables false
set_option linter.unusedSimpArgs false
set_option maxRecDepth 100000

/-- a row of pairs of the call's own at block g: its cells are known from index 0 to k, all cells may be written -/
def RowTo (w : World) (g n k : Nat) (l : List (Int × Int)) : Prop :=
  g < w.heap.size ∧ l.length = n ∧ (∀ j, j < 2 * n → (∃ v, w.cell? ⟨g, j, none⟩ = some v) ∧ w.frozen? ⟨g, j, none⟩ = false) ∧
    ∀ i (h : i < l.length), i < k → w.cell? ⟨g, i * 2, none⟩ = some (.int .i64 l[i].1) ∧ w.cell? ⟨g, i * 2 + 1, none⟩ = some (.int .i64 l[i].2)
theorem Pairs.below {w w' : World} {B n c : Nat} {A : Option Addr} {l : List (Int × Int)} (h : Pairs w B A n c l) (hb : Below B w w') : Pairs w' B A n c l :=
  ⟨h.1, h.2.1, h.2.2.1, fun hn => by
    obtain ⟨b, off, rfl, hlt, hc⟩ := h.2.2.2 hn
    exact ⟨b, off, rfl, hlt, fun i hi => ⟨(hb.cell (p := ⟨b, _, none⟩) hlt).trans (hc i hi).1, (hb.cell (p := ⟨b, _, none⟩) hlt).trans (hc i hi).2⟩⟩⟩
theorem Pairs.more {w : World} {B B' n c : Nat} {A : Option Addr} {l : List (Int × Int)} (h : Pairs w B A n c l) (hB : B ≤ B') : Pairs w B' A n c l :=
  ⟨h.1, h.2.1, h.2.2.1, fun hn => by
    obtain ⟨b, off, rfl, hlt, hc⟩ := h.2.2.2 hn
    exact ⟨b, off, rfl, by omega, hc⟩⟩
theorem RowTo.below {w w' : World} {g n k : Nat} {l : List (Int × Int)} (h : RowTo w g n k l) {B : Nat} (hb : Below B w w') (hB : g < B) : RowTo w' g n k l := by
  obtain ⟨h1, h2, h3, h4⟩ := h
  refine ⟨Nat.lt_of_lt_of_le h1 hb.size, h2, fun j hj => ?_, fun i hi hik => ?_⟩
  · obtain ⟨⟨v, hv⟩, hf⟩ := h3 j hj
    exact ⟨⟨v, (hb.cell (p := ⟨g, j, none⟩) hB).trans hv⟩, (hb.frozen (p := ⟨g, j, none⟩) hB).trans hf⟩
  · exact ⟨(hb.cell (p := ⟨g, _, none⟩) hB).trans (h4 i hi hik).1, (hb.cell (p := ⟨g, _, none⟩) hB).trans (h4 i hi hik).2⟩
theorem RowTo.pairs {w : World} {g n : Nat} {l : List (Int × Int)} (h : RowTo w g n n l) (hn : n ≤ maxLen) : Pairs w w.heap.size (some ⟨g, 0, none⟩) n n l :=
  ⟨h.2.1, Nat.le_refl _, hn, fun _ => ⟨g, 0, rfl, h.1, fun i hi => by
    have := h.2.2.2 i hi (by have := h.2.1; omega)
    simpa using this⟩⟩
theorem madeCells_get (z : Array Value) (n j : Nat) (h : j < n) : (madeCells z n)[j]? = some (z[j % z.size]!) := by
  unfold madeCells
  simp [Array.getElem?_map, h]

theorem szSpotS_big (A : Option Addr) (n c : Nat) (w : World) (h : 1048576 < n) (h2 : n ≤ 9223372036854775807) :
    Calls Try.prog 23 #[.slice A n c, .int .i64 1048576] w fun e w' => e = .returned (.int .i64 (-1)) ∧ w = w' := by
  go_enter Try.func23, Try.ntmps23
  go_wp2
  go_ret
  exact ⟨rfl, rfl⟩

theorem szSpotS_ok (A : Option Addr) (n c : Nat) (w : World) (h : n ≤ 1048576) :
    Calls Try.prog 23 #[.slice A n c, .int .i64 1048576] w fun e w' => e = .returned (.int .i64 (1048576 - n)) ∧ w = w' := by
  go_enter Try.func23, Try.ntmps23
  go_wp2
  go_ret
  exact ⟨rfl, rfl⟩

theorem rowTo_start (w : World) {n : Nat} {l : List (Int × Int)} (E : TypeId) (hl : l.length = n) : RowTo (w.alloc (.cells (madeCells #[.int .i64 0, .int .i64 0] (n * 2)) E)) w.heap.size n 0 l := by
  refine ⟨by simp, hl, fun j hj => ?_, fun i hi h => absurd h (by omega)⟩
  have hg := heap_alloc_new w (.cells (madeCells #[.int .i64 0, .int .i64 0] (n * 2)) E)
  refine ⟨⟨_, (cell_of_row _ _ j _ _ (0, 0) hg).trans (madeCells_get _ _ j (by omega))⟩, ?_⟩
  unfold World.frozen?
  rw [hg]
  simp

theorem rowTo_set {w : World} {g n k : Nat} {l : List (Int × Int)} {x y : Int} (h : RowTo w g n k l) (hk : k < l.length) (hx : l[k].1 = x) (hy : l[k].2 = y) :
    RowTo ((w.setCell ⟨g, k * 2, none⟩ (.int .i64 x)).setCell ⟨g, k * 2 + 1, none⟩ (.int .i64 y)) g n (k + 1) l := by
  subst hx hy
  obtain ⟨h1, h2, h3, h4⟩ := h
  have e1 : ∀ j, j ≠ k * 2 → (w.setCell ⟨g, k * 2, none⟩ (.int .i64 l[k].1)).cell? ⟨g, j, none⟩ = w.cell? ⟨g, j, none⟩ := fun j hj => World.cell?_setCell_other _ _ _ _ (by intro he; injection he; omega)
  have e2 : ∀ j, j ≠ k * 2 + 1 → ((w.setCell ⟨g, k * 2, none⟩ (.int .i64 l[k].1)).setCell ⟨g, k * 2 + 1, none⟩ (.int .i64 l[k].2)).cell? ⟨g, j, none⟩ = (w.setCell ⟨g, k * 2, none⟩ (.int .i64 l[k].1)).cell? ⟨g, j, none⟩ := fun j hj => World.cell?_setCell_other _ _ _ _ (by intro he; injection he; omega)
  have a1 : (w.setCell ⟨g, k * 2, none⟩ (.int .i64 l[k].1)).cell? ⟨g, k * 2, none⟩ = some (.int .i64 l[k].1) := by
    obtain ⟨⟨v, hv⟩, _⟩ := h3 (k * 2) (by omega)
    exact World.cell?_setCell_same _ _ _ hv
  have a2 : ((w.setCell ⟨g, k * 2, none⟩ (.int .i64 l[k].1)).setCell ⟨g, k * 2 + 1, none⟩ (.int .i64 l[k].2)).cell? ⟨g, k * 2 + 1, none⟩ = some (.int .i64 l[k].2) := by
    obtain ⟨⟨v, hv⟩, _⟩ := h3 (k * 2 + 1) (by omega)
    exact World.cell?_setCell_same _ _ _ ((e1 (k * 2 + 1) (by omega)).trans hv)
  refine ⟨by simpa using h1, h2, fun j hj => ⟨?_, by simpa using (h3 j hj).2⟩, fun i hi hik => ?_⟩
  · by_cases j1 : j = k * 2 + 1
    · subst j1; exact ⟨_, a2⟩
    · by_cases j0 : j = k * 2
      · subst j0; exact ⟨_, (e2 _ (by omega)).trans a1⟩
      · obtain ⟨⟨v, hv⟩, _⟩ := h3 j hj
        exact ⟨v, ((e2 j j1).trans (e1 j j0)).trans hv⟩
  · by_cases hi2 : i = k
    · subst hi2; exact ⟨(e2 _ (by omega)).trans a1, a2⟩
    · exact ⟨((e2 _ (by omega)).trans (e1 _ (by omega))).trans (h4 i hi (by omega)).1, ((e2 _ (by omega)).trans (e1 _ (by omega))).trans (h4 i hi (by omega)).2⟩

def RetRow (w : World) (n : Nat) (l : List (Int × Int)) (e : Ending) (w' : World) : Prop :=
  ∃ g, e = .returned (.slice (some ⟨g, 0, none⟩) n n) ∧ w.heap.size ≤ g ∧ RowTo w' g n n l ∧ Below w.heap.size w w'

theorem infoSpot : (Try.prog.info? 28).map (fun i => (i.zero, i.size, i.bytes)) = some (some (.agg #[.int .i64 0, .int .i64 0]), 2, 16) := by kernel_rfl

set_option maxHeartbeats 1000000 in
theorem toSpotS_any (A : Option Addr) (n c : Nat) (l : List (Int × Int)) (w : World) (hp : Pairs w w.heap.size A n c l) (hn : n ≤ 1048576) :
    Calls Try.prog 26 #[.slice A n c] w (RetRow w n l) := by
  obtain ⟨i0, hi0, hz0, hz1, hz2⟩ := info_parts infoSpot
  have hmk : ∀ W : World, (Instr.makeSlice 47 (.int .i64 (n : Int)) (.int .i64 (n : Int))).run Try.prog W = .ok (.slice (some ⟨W.heap.size, 0, none⟩) n n) (W.alloc (.cells (madeCells #[.int .i64 0, .int .i64 0] (n * 2)) 28)) := by
    intro W
    have := run_make (P := Try.prog) W 47 28 i0 _ Try.underlying47 hi0 hz0 .i64 .i64 n n (by omega) (Int.le_refl _) (by rw [hz2]; omega) (by omega)
    simp only [Int.toNat_natCast, hz1] at this
    exact this
  clear i0 hi0 hz0 hz1 hz2
  go_enter Try.func26, Try.ntmps26
  go_wp2
  go_loopw [4] (fun v wr => ∃ k : Nat, k ≤ n ∧ v = .int .i64 k ∧ RowTo wr w.heap.size n k l ∧ Below w.heap.size w wr) (fun v _ => n - (intOf v).toNat)
  case atStart => exact ⟨0, by omega, rfl, rowTo_start _ _ hp.1, (by (first | with_reducible exact Below.refl _ _ | with_reducible assumption | (repeat (with_reducible first | exact Below.refl _ _ | assumption | refine Below.drew ?_ | refine Below.alloc ?_ (by first | omega | (simp <;> omega)) _ | refine Below.setCell ?_ (by first | omega | (simp <;> omega)) _ | refine below_drewN ?_ _))))⟩
  case round =>
    obtain ⟨k, hk, rfl, hrow, hB⟩ := hrel
    by_cases hlt : k < n
    · have hkl : k < l.length := by have := hp.1; omega
      obtain ⟨b, off, rfl, hbB, hc⟩ := (hp.below hB).2.2.2 (by omega)
      obtain ⟨s1, s2⟩ := hc k hkl
      obtain ⟨x, hx⟩ : ∃ x, l[k].1 = x := ⟨_, rfl⟩
      obtain ⟨y, hy⟩ : ∃ y, l[k].2 = y := ⟨_, rfl⟩
      rw [hx] at s1
      rw [hy] at s2
      have HX := Lib.hid hx
      have HY := Lib.hid hy
      clear hx hy hc
      obtain ⟨⟨v1, d1⟩, f1⟩ := hrow.2.2.1 (k * 2) (by omega)
      obtain ⟨⟨v2, d2⟩, f2⟩ := hrow.2.2.1 (k * 2 + 1) (by omega)
      have hh : Has wr [(w.heap.size, k * 2, v1), (w.heap.size, k * 2 + 1, v2)] := ⟨⟨d1, f1⟩, ⟨d2, f2⟩, trivial⟩
      have hwr : w.heap.size < wr.heap.size := hrow.1
      clear d1 d2 f1 f2
      go_wp2_with (go_at_call 25; refine (toSpot_any _ _ _).mono ?_; rintro e w' ⟨rfl, hb⟩; have hz : w.heap.size ≤ w'.heap.size := (by have := hb.size; first | omega | (simp at this; omega)); have hB : Below w.heap.size w w' := (by refine Below.trans ?_ (hb.mono (by first | omega | (simp <;> omega))); (first | with_reducible exact Below.refl _ _ | with_reducible assumption | (repeat (with_reducible first | exact Below.refl _ _ | assumption | refine Below.drew ?_ | refine Below.alloc ?_ (by first | omega | (simp <;> omega)) _ | refine Below.setCell ?_ (by first | omega | (simp <;> omega)) _ | refine below_drewN ?_ _)))); have hh := Has.below (by (repeat (with_reducible first | assumption | apply Has.alloc5 | apply Has.alloc2 | apply Has.alloc1 | apply Has.alloc3 | apply Has.drew | apply Has.drewN | apply Has.set_ | apply Has.allocx | exact Has.nil _))) hb; (try simp only [World.size_alloc, World.size_setCell, World.size_drew, World.heap_drewN] at hh); have hq := hh; simp only [Has, upd, World.size_alloc, World.size_setCell, World.size_drew, World.heap_drewN, and_true, true_and, ite_true, ite_false, and_self, Nat.add_right_cancel_iff, Nat.add_eq_left, Nat.left_eq_add, reduceCtorEq, Nat.reduceEqDiff, if_true, if_false] at hq; have hs := hb.size; (try simp only [World.size_alloc, World.size_setCell, World.size_drew, World.heap_drewN] at hs); have HBl := Lib.hid hb; clear hb)
      go_roundw
      case rel => exact ⟨k + 1, by omega, by go_num, rowTo_set (hrow.below HBl.out hwr) hkl HX.out HY.out, (by (first | with_reducible exact Below.refl _ _ | with_reducible assumption | (repeat (with_reducible first | exact Below.refl _ _ | assumption | refine Below.drew ?_ | refine Below.alloc ?_ (by first | omega | (simp <;> omega)) _ | refine Below.setCell ?_ (by first | omega | (simp <;> omega)) _ | refine below_drewN ?_ _))))⟩
      case measure => simp [intOf]; omega
    · obtain rfl : k = n := by omega
      go_wp2_with fail
      go_ret
      exact ⟨w.heap.size, rfl, Nat.le_refl _, hrow, hB⟩

end Go.Proofs.Ytakgmmdnlhamkaa

