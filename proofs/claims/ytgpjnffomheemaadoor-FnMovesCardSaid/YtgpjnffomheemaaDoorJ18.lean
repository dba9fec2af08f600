import Derived.Test.YtgpjnffomheemaaDoorJ17
import Derived.Test.YtgpjnffomheemaaDoorJ13Stops0

section
/- The draws of arcs and circles. -/
namespace Go.Proofs.YtgpjnffomheemaaDoor
open Go.RowKit
set_option linter.unusedVariables false
set_option linter.unusedSimpArgs false
set_option maxRecDepth 100000

theorem Cur.begin {w W : World} {n c : Nat} {A : Option Addr} {l : List Int} (t : TypeId) (hB : Bytes w w.heap.size A n c l) (hf : BytesFit l) (hn : n ≤ 9223372036854775807) (hW : Below w.heap.size w W) : Cur (W.alloc (.cells #[.slice A n c, .int .i64 0, .int .u64 0] t)) W.heap.size 0 :=
  Cur.start t (hB.same (fun i hi => hW.block i hi)) hf hn hW.size
theorem IntsAt.newAt {w : World} {cs : Array Value} {t : TypeId} {m g : Nat} (hg : g = w.heap.size) (h : allInts cs.toList = true) (hm : cs.size = m) : IntsAt (w.alloc (.cells cs t)) g m := by subst hg; exact IntsAt.new h hm
/-- an int, drawn -/
def RetDI (w : World) (e : Ending) (w' : World) : Prop := ∃ k0 : Int, e = .returned (.int .i64 k0) ∧ Below w.heap.size w w'
/-- two ints, drawn -/
def RetDII (w : World) (e : Ending) (w' : World) : Prop := ∃ k0 k1 : Int, e = .returned (.tuple #[.int .i64 k0, .int .i64 k1]) ∧ Below w.heap.size w w'
/-- a spot and two ints, drawn -/
def RetDSII (w : World) (e : Ending) (w' : World) : Prop := ∃ x0 y0 k1 k2 : Int, e = .returned (.tuple #[.agg #[.int .i64 x0, .int .i64 y0], .int .i64 k1, .int .i64 k2]) ∧ Below w.heap.size w w'
/-- a spot and an int, drawn -/
def RetDSI (w : World) (e : Ending) (w' : World) : Prop := ∃ x0 y0 k1 : Int, e = .returned (.tuple #[.agg #[.int .i64 x0, .int .i64 y0], .int .i64 k1]) ∧ Below w.heap.size w w'
/-- a spot, an int, a spot, an int, drawn -/
def RetDSISI (w : World) (e : Ending) (w' : World) : Prop := ∃ x0 y0 k1 x2 y2 k3 : Int, e = .returned (.tuple #[.agg #[.int .i64 x0, .int .i64 y0], .int .i64 k1, .agg #[.int .i64 x2, .int .i64 y2], .int .i64 k3]) ∧ Below w.heap.size w w'
/-- a spot and four ints, drawn -/
def RetDSIIII (w : World) (e : Ending) (w' : World) : Prop := ∃ x0 y0 k1 k2 k3 k4 : Int, e = .returned (.tuple #[.agg #[.int .i64 x0, .int .i64 y0], .int .i64 k1, .int .i64 k2, .int .i64 k3, .int .i64 k4]) ∧ Below w.heap.size w w'
/-- three spots, drawn -/
def RetDSSS (w : World) (e : Ending) (w' : World) : Prop := ∃ x0 y0 x1 y1 x2 y2 : Int, e = .returned (.tuple #[.agg #[.int .i64 x0, .int .i64 y0], .agg #[.int .i64 x1, .int .i64 y1], .agg #[.int .i64 x2, .int .i64 y2]]) ∧ Below w.heap.size w w'

/-- a list of spots in new memory, drawn -/
def RetDL (w : World) (e : Ending) (w' : World) : Prop := ∃ A c l, e = .returned (.slice A l.length c) ∧ l.length ≤ 41 ∧ SRow w' w.heap.size (.slice A l.length c) l ∧ Below w.heap.size w w'

end Go.Proofs.YtgpjnffomheemaaDoor
end

section
/- The draws of arcs whose regions draw their order. -/
namespace Go.Proofs.YtgpjnffomheemaaDoor
open Go.RowKit
set_option linter.unusedVariables false
set_option linter.unusedSimpArgs false
set_option maxRecDepth 100000

theorem Calls.cur {P : Program} {f : FuncId} {args : Array Value} {w : World} {b K : Nat} {R : Ending → Prop} (h : Calls P f args w fun e w' => R e ∧ Below w.heap.size w w') (hC : Cur w b K) : Calls P f args w fun e w' => R e ∧ Grow w b w' ∧ Cur w' b K :=
  h.mono fun _ _ ⟨h1, h2⟩ => ⟨h1, Grow.ofBelow h2, hC.below h2 hC.lt⟩

end Go.Proofs.YtgpjnffomheemaaDoor
end

section
/- A list of spots of the call's own reads as a list. -/
namespace Go.Proofs.YtgpjnffomheemaaDoor
open Go.RowKit
theorem SRow.toL {w : World} {b c : Nat} {A : Option Addr} {l : List (Int × Int)} (h : SRow w b (.slice A l.length c) l) : Lst w A l.length l := by
  obtain ⟨A', c', hv, _, hL, _⟩ := h.lst
  injection hv with e
  subst e
  exact hL

end Go.Proofs.YtgpjnffomheemaaDoor
end
