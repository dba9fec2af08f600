import Derived.Test.YtgpjnffomheemaaDoorDraw1
import Derived.Test.YtgpjnffomheemaaDoorJ16Arcs

section
/- Drawn lists of spots. -/
namespace Go.Proofs.YtgpjnffomheemaaDoor
open Go.RowKit
set_option linter.unusedVariables false
set_option linter.unusedSimpArgs false
set_option maxRecDepth 100000

/-- a list of spots in new memory, and the cursor moved on -/
def RetCurL (w : World) (b K : Nat) (e : Ending) (w' : World) : Prop := ∃ A c l, e = .returned (.slice A l.length c) ∧ l.length ≤ 41 ∧ SRow w' w.heap.size (.slice A l.length c) l ∧ Grow w b w' ∧ Cur w' b K
theorem SRow.grow {w w' : World} {b base : Nat} {v : Value} {l : List (Int × Int)} (h : SRow w base v l) (hg : Grow w b w') (hb : b < base) : SRow w' base v l :=
  SRow.kept h hg (by
    rcases hv : v.ownBlock with _ | k
    · exact .inl rfl
    · right; intro e; injection e with e; have := (World.ownsRow.lt h.2 k hv).1; omega)
theorem Grow.ofGrown {a w w' : World} {b : Nat} {row : Option Nat} (h : Grow a b w) (hg : w.grownBy w' row) (hr : ∀ r, row = some r → a.heap.size ≤ r) : Grow a b w' := by
  refine ⟨hg.os.trans h.os, hg.tape.trans h.tape, hg.output.trans h.output, Nat.le_trans (Grow.size h) hg.size, fun i hi hne => ?_⟩
  have hs := Grow.size h
  rw [← h.block i hi hne]
  exact hg.block i (by omega) (by intro e; have := hr i e.symm; omega)
theorem Cur.grown {w w' : World} {b K : Nat} {row : Option Nat} (h : Cur w b K) (hg : w.grownBy w' row) (hr : ∀ r, row = some r → b < r) : Cur w' b K :=
  h.same (fun i hi => hg.block i (by have := h.lt; omega) (by intro e; have := hr i e.symm; omega))
theorem ownsRow_grow {w w' : World} {b base n : Nat} {v : Value} {xs : List Value} (h : w.ownsRow base 25 2 v n xs) (hg : Grow w b w') (hb : b < base) : w'.ownsRow base 25 2 v n xs :=
  World.ownsRow.kept h hg (by
    rcases hv : v.ownBlock with _ | k
    · exact .inl rfl
    · right; intro e; injection e with e; have := (World.ownsRow.lt h k hv).1; omega)
theorem rowTo_put {w : World} {g n k : Nat} {l : List (Int × Int)} {x y : Int} (h : RowTo w g n n l) (hk : k < n) :
    RowTo ((w.setCell ⟨g, k * 2, none⟩ (.int .i64 x)).setCell ⟨g, k * 2 + 1, none⟩ (.int .i64 y)) g n n (l.set k (x, y)) := by
  have hl := h.2.1
  have h0 : RowTo w g n k (l.set k (x, y)) := ⟨h.1, by simpa using hl, h.2.2.1, fun i hi hik => by
    have hi' : i < l.length := by simpa using hi
    have := h.2.2.2 i hi' (by omega)
    rw [List.getElem_set_ne (by omega)]
    exact this⟩
  have h1 := rowTo_set (x := x) (y := y) h0 (by simp; omega) (by simp) (by simp)
  refine ⟨h1.1, h1.2.1, h1.2.2.1, fun i hi hin => ?_⟩
  have hi' : i < l.length := by simpa using hi
  by_cases e : i ≤ k
  · exact h1.2.2.2 i hi (by omega)
  · have c := h.2.2.2 i hi' hin
    rw [List.getElem_set_ne (by omega)]
    have e1 : ∀ j v v', j ≠ k * 2 → j ≠ k * 2 + 1 → ((w.setCell ⟨g, k * 2, none⟩ v).setCell ⟨g, k * 2 + 1, none⟩ v').cell? ⟨g, j, none⟩ = w.cell? ⟨g, j, none⟩ := fun j v v' a1 a2 =>
      (World.cell?_setCell_other _ _ _ _ (by intro he; injection he; omega)).trans (World.cell?_setCell_other _ _ _ _ (by intro he; injection he; omega))
    rw [e1 _ _ _ (by omega) (by omega), e1 _ _ _ (by omega) (by omega)]
    exact c

end Go.Proofs.YtgpjnffomheemaaDoor
end

section
/- Drawn radii and middles. -/
namespace Go.Proofs.YtgpjnffomheemaaDoor
open Go.RowKit
set_option linter.unusedVariables false
set_option linter.unusedSimpArgs false
set_option maxRecDepth 100000

end Go.Proofs.YtgpjnffomheemaaDoor
end

section
/- The draws of spots. -/
namespace Go.Proofs.YtgpjnffomheemaaDoor
open Go.RowKit
set_option linter.unusedVariables false
set_option linter.unusedSimpArgs false
set_option maxRecDepth 100000

theorem Cur.start {W : World} {B n c : Nat} {A : Option Addr} {l : List Int} (t : TypeId) (hB : Bytes W B A n c l) (hf : BytesFit l) (hn : n ≤ 9223372036854775807) (hle : B ≤ W.heap.size) : Cur (W.alloc (.cells #[.slice A n c, .int .i64 0, .int .u64 0] t)) W.heap.size 0 :=
  ⟨A, n, c, l, 0, 0, Nat.le_refl _, hn, by simpa using Has.alloc3 (t := t) (a := .slice A n c) (b := .int .i64 0) (c := .int .u64 0) (Has.nil W),
    ⟨hB.1, hB.2.1, hB.2.2.1, fun h0 => by
      obtain ⟨g, off, rfl, hlt, hc⟩ := hB.2.2.2 h0
      exact ⟨g, off, rfl, by omega, fun i hi => (((Below.refl W.heap.size W).alloc (Nat.le_refl _) _).cell (p := ⟨g, _, none⟩) (show g < W.heap.size by omega)).trans (hc i hi)⟩⟩, hf⟩
/-- two spots, drawn -/
def RetDraw2 (w : World) (e : Ending) (w' : World) : Prop := ∃ x y u v : Int, e = .returned (.tuple #[.agg #[.int .i64 x, .int .i64 y], .agg #[.int .i64 u, .int .i64 v]]) ∧ Below w.heap.size w w'

end Go.Proofs.YtgpjnffomheemaaDoor
end
