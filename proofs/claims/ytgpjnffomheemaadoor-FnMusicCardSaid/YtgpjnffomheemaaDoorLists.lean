/- Lists of spots: validity and comparison, of the program, of the reference and of the statements. -/
import Derived.Test.YtgpjnffomheemaaDoorList
namespace Go.Proofs.YtgpjnffomheemaaDoor
open Go.RowKit
set_option linter.unusedVariables false
set_option linter.unusedSimpArgs false
set_option maxRecDepth 100000

/-- a slice that reads as a list of pairs, in a block of its own -/
def Lst (w : World) (A : Option Addr) (n : Nat) (l : List (Int × Int)) : Prop :=
  l.length = n ∧ n ≤ 1048576 ∧ (0 < n → ∃ g, A = some ⟨g, 0, none⟩ ∧ g < w.heap.size ∧ ∀ i (h : i < l.length),
    (w.cell? ⟨g, i * 2, none⟩ = some (.int .i64 l[i].1) ∧ w.frozen? ⟨g, i * 2, none⟩ = false) ∧ (w.cell? ⟨g, i * 2 + 1, none⟩ = some (.int .i64 l[i].2) ∧ w.frozen? ⟨g, i * 2 + 1, none⟩ = false))
theorem Lst.below {w w' : World} {n : Nat} {A : Option Addr} {l : List (Int × Int)} (h : Lst w A n l) {B : Nat} (hb : Below B w w') (hB : w.heap.size ≤ B) : Lst w' A n l :=
  ⟨h.1, h.2.1, fun hn => by
    obtain ⟨g, rfl, hlt, hc⟩ := h.2.2 hn
    have hg : g < B := by omega
    exact ⟨g, rfl, Nat.lt_of_lt_of_le hlt hb.size, fun i hi => ⟨⟨(hb.cell (p := ⟨g, _, none⟩) hg).trans (hc i hi).1.1, (hb.frozen (p := ⟨g, _, none⟩) hg).trans (hc i hi).1.2⟩, ⟨(hb.cell (p := ⟨g, _, none⟩) hg).trans (hc i hi).2.1, (hb.frozen (p := ⟨g, _, none⟩) hg).trans (hc i hi).2.2⟩⟩⟩⟩
theorem Lst.has {w : World} {n k : Nat} {A : Option Addr} {l : List (Int × Int)} (h : Lst w A n l) (hk : k < n) : ∃ g x y, A = some ⟨g, 0, none⟩ ∧ g < w.heap.size ∧ l[k]? = some (x, y) ∧ Has w [(g, k * 2, .int .i64 x), (g, k * 2 + 1, .int .i64 y)] := by
  obtain ⟨g, rfl, hlt, hc⟩ := h.2.2 (by omega)
  have hkl : k < l.length := by have := h.1; omega
  exact ⟨g, _, _, rfl, hlt, List.getElem?_eq_getElem hkl, (hc k hkl).1, (hc k hkl).2, trivial⟩
theorem RowTo.lst {w : World} {g n : Nat} {l : List (Int × Int)} (h : RowTo w g n n l) (hn : n ≤ 1048576) : Lst w (some ⟨g, 0, none⟩) n l :=
  ⟨h.2.1, hn, fun _ => ⟨g, rfl, h.1, fun i hi => by
    have hin : i < n := by have := h.2.1; omega
    exact ⟨⟨(h.2.2.2 i hi hin).1, (h.2.2.1 (i * 2) (by omega)).2⟩, ⟨(h.2.2.2 i hi hin).2, (h.2.2.1 (i * 2 + 1) (by omega)).2⟩⟩⟩⟩
theorem Has.app {w : World} {m l : List (Nat × Nat × Value)} (h : Has w m) (h' : Has w l) : Has w (m ++ l) := (Has_iff w _).2 fun e he => by
  rcases List.mem_append.1 he with h1 | h1
  · exact (Has_iff w m).1 h e h1
  · exact (Has_iff w l).1 h' e h1

/-- the first k spots of a list are valid -/
def goodTo (l : List (Int × Int)) (k : Nat) : Prop := ∀ i x y, i < k → l[i]? = some (x, y) → goodB x y = true
def spotsB (l : List (Int × Int)) : Bool := decide (l.length ≤ 40) && l.all fun p => goodB p.1 p.2
theorem goodTo_zero (l : List (Int × Int)) : goodTo l 0 := fun i x y h => absurd h (by omega)
theorem goodTo_step {l : List (Int × Int)} {k : Nat} {x y : Int} (h : goodTo l k) (hk : l[k]? = some (x, y)) (hg : goodB x y = true) : goodTo l (k + 1) := by
  intro i a b hi he
  by_cases hik : i = k
  · subst hik; rw [hk] at he; cases he; exact hg
  · exact h i a b (by omega) he
theorem spotsB_all {l : List (Int × Int)} (h : goodTo l l.length) : spotsB l = decide (l.length ≤ 40) := by
  have : (l.all fun p => goodB p.1 p.2) = true := by
    rw [List.all_eq_true]
    intro p hp
    obtain ⟨i, hi, rfl⟩ := List.getElem_of_mem hp
    exact h i _ _ hi (List.getElem?_eq_getElem hi)
  simp [spotsB, this]
theorem spotsB_bad {l : List (Int × Int)} {k : Nat} {x y : Int} (hk : l[k]? = some (x, y)) (hg : goodB x y = false) : spotsB l = false := by
  have : (l.all fun p => goodB p.1 p.2) = false := by
    rw [List.all_eq_false]
    exact ⟨(x, y), List.mem_of_getElem? hk, by simp [hg]⟩
  simp [spotsB, this]
theorem spotsB_long {l : List (Int × Int)} (h : 40 < l.length) : spotsB l = false := by
  simp [spotsB]; intro h'; omega
theorem spotsB_get {l : List (Int × Int)} (h : spotsB l = true) {k : Nat} {x y : Int} (hk : l[k]? = some (x, y)) : goodB x y = true := by
  unfold spotsB at h
  rw [Bool.and_eq_true, List.all_eq_true] at h
  exact h.2 (x, y) (List.mem_of_getElem? hk)
theorem spotsB_len {l : List (Int × Int)} (h : spotsB l = true) : l.length ≤ 40 := by
  unfold spotsB at h
  rw [Bool.and_eq_true] at h
  simpa using h.1

end Go.Proofs.YtgpjnffomheemaaDoor

