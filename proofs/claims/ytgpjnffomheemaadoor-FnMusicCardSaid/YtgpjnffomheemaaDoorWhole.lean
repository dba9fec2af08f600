/- Contracts of WholeCounts, of the program and of the reference. -/
import Derived.Test.YtgpjnffomheemaaDoorInts
import Derived.Test.YtgpjnffomheemaaDoorMove2
import Derived.Maps.AppendAt
namespace Go.Proofs.YtgpjnffomheemaaDoor
open Go.RowKit
set_option linter.unusedVariables false
set_option linter.unusedSimpArgs false
set_option maxRecDepth 100000

theorem Has.grown {w w' : World} {m : List (Nat × Nat × Value)} {row : Option Nat} (h : Has w m) (hg : w.grownBy w' row) (hne : ∀ e ∈ m, some e.1 ≠ row) : Has w' m := (Has_iff w' m).2 fun e he => by
  have := (Has_iff w m).1 h e he
  have hb := hg.block e.1 (cell_lt this.1) (hne e he)
  exact ⟨(World.cell?_of_block (w := w) (w' := w') (a := ⟨e.1, e.2.1, none⟩) hb).trans this.1, (World.frozen?_of_block (w := w) (w' := w') (a := ⟨e.1, e.2.1, none⟩) hb).trans this.2⟩
theorem IRow.snoc {w : World} {base : Nat} {v : Value} {l : List Int} {x : Int} (hl : l.length < 1048576) (h : w.ownsRow base 3 1 v (l.length + 1) (l.map (Value.int .i64) ++ [.int .i64 x])) : IRow w base v (l ++ [x]) :=
  ⟨by simp; omega, by simpa using h⟩
theorem IRow.more {w : World} {b b' : Nat} {v : Value} {l : List Int} (h : IRow w b v l) (hb : b' ≤ b) : IRow w b' v l := by
  refine ⟨h.1, h.2.1, ?_⟩
  rcases h.2.2 with h0 | ⟨g, cap, cur, hv, hbg, r⟩
  · exact .inl h0
  · exact .inr ⟨g, cap, cur, hv, by omega, r⟩
theorem infoInt : (Tryd.prog.info? 3).map (fun i => (i.zero, i.size, i.bytes)) = some (some (.int .i64 0), 1, 8) := by kernel_rfl
/-- a list of ints in new memory, and a bool -/
def RetInts (w : World) (l : List Int) (ok : Bool) (e : Ending) (w' : World) : Prop := ∃ v, e = .returned (.tuple #[v, .bool ok]) ∧ IRow w' w.heap.size v l ∧ Below w.heap.size w w'

def wholeB (a b c d k n : Int) : Bool := plc a c k n % k == 0 && plc b d k n % k == 0
def wholeTo (a b c d k : Int) : Nat → List Int
  | 0 => []
  | j + 1 => if wholeB a b c d k j then wholeTo a b c d k j ++ [(j : Int)] else wholeTo a b c d k j
theorem wholeTo_len (a b c d k : Int) : ∀ j, (wholeTo a b c d k j).length ≤ j
  | 0 => by simp [wholeTo]
  | j + 1 => by
    have := wholeTo_len a b c d k j
    simp only [wholeTo]; split
    · simp; omega
    · omega
theorem wholeTo_yes {a b c d k : Int} {j : Nat} (h : wholeB a b c d k j = true) : wholeTo a b c d k (j + 1) = wholeTo a b c d k j ++ [(j : Int)] := by simp only [wholeTo]; rw [if_pos h]
theorem wholeTo_no {a b c d k : Int} {j : Nat} (h : wholeB a b c d k j = false) : wholeTo a b c d k (j + 1) = wholeTo a b c d k j := by simp only [wholeTo]; rw [if_neg (by simp [h])]
def mWhole (a b c d k : Int) : List Int × Bool := if goodM a b c d k then (wholeTo a b c d k (k + 1).toNat, true) else ([], false)

end Go.Proofs.YtgpjnffomheemaaDoor

