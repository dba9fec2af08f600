/- More on the cursor. -/
import Derived.Test.YtgpjnffomheemaaDoorCur
namespace Go.Proofs.YtgpjnffomheemaaDoor
open Go.RowKit
set_option linter.unusedVariables false
set_option linter.unusedSimpArgs false
set_option maxRecDepth 100000

theorem Grow.ofGrown {a w w' : World} {b : Nat} {row : Option Nat} (h : Grow a b w) (hg : w.grownBy w' row) (hr : ∀ r, row = some r → a.heap.size ≤ r) : Grow a b w' := by
  refine ⟨hg.os.trans h.os, hg.tape.trans h.tape, hg.output.trans h.output, Nat.le_trans (Grow.size h) hg.size, fun i hi hne => ?_⟩
  have hs := Grow.size h
  rw [← h.block i hi hne]
  exact hg.block i (by omega) (by intro e; have := hr i e.symm; omega)
theorem Cur.grown {w w' : World} {b K : Nat} {row : Option Nat} (h : Cur w b K) (hg : w.grownBy w' row) (hr : ∀ r, row = some r → b < r) : Cur w' b K :=
  h.same (fun i hi => hg.block i (by have := h.lt; omega) (by intro e; have := hr i e.symm; omega))
theorem Cur.start {W : World} {B n c : Nat} {A : Option Addr} {l : List Int} (t : TypeId) (hB : Bytes W B A n c l) (hf : BytesFit l) (hn : n ≤ 9223372036854775807) (hle : B ≤ W.heap.size) : Cur (W.alloc (.cells #[.slice A n c, .int .i64 0, .int .u64 0] t)) W.heap.size 0 :=
  ⟨A, n, c, l, 0, 0, Nat.le_refl _, hn, by simpa using Has.alloc3 (t := t) (a := .slice A n c) (b := .int .i64 0) (c := .int .u64 0) (Has.nil W),
    ⟨hB.1, hB.2.1, hB.2.2.1, fun h0 => by
      obtain ⟨g, off, rfl, hlt, hc⟩ := hB.2.2.2 h0
      exact ⟨g, off, rfl, by omega, fun i hi => (((Below.refl W.heap.size W).alloc (Nat.le_refl _) _).cell (p := ⟨g, _, none⟩) (show g < W.heap.size by omega)).trans (hc i hi)⟩⟩, hf⟩
theorem Cur.begin {w W : World} {n c : Nat} {A : Option Addr} {l : List Int} (t : TypeId) (hB : Bytes w w.heap.size A n c l) (hf : BytesFit l) (hn : n ≤ 9223372036854775807) (hW : Below w.heap.size w W) : Cur (W.alloc (.cells #[.slice A n c, .int .i64 0, .int .u64 0] t)) W.heap.size 0 :=
  Cur.start t (hB.same (fun i hi => hW.block i hi)) hf hn hW.size
theorem IntsAt.newAt {w : World} {cs : Array Value} {t : TypeId} {m g : Nat} (hg : g = w.heap.size) (h : allInts cs.toList = true) (hm : cs.size = m) : IntsAt (w.alloc (.cells cs t)) g m := by subst hg; exact IntsAt.new h hm
theorem Calls.cur {P : Program} {f : FuncId} {args : Array Value} {w : World} {b K : Nat} {R : Ending → Prop} (h : Calls P f args w fun e w' => R e ∧ Below w.heap.size w w') (hC : Cur w b K) : Calls P f args w fun e w' => R e ∧ Grow w b w' ∧ Cur w' b K :=
  h.mono fun _ _ ⟨h1, h2⟩ => ⟨h1, Grow.ofBelow h2, hC.below h2 hC.lt⟩
theorem Calls.curE {P : Program} {f : FuncId} {args : Array Value} {w : World} {b K : Nat} {R : Ending → Prop} (h : Calls P f args w fun e w' => R e ∧ w = w') (hC : Cur w b K) : Calls P f args w fun e w' => R e ∧ Grow w b w' ∧ Cur w' b K :=
  h.mono fun _ _ ⟨h1, h2⟩ => h2 ▸ ⟨h1, Grow.refl _ _, hC⟩

end Go.Proofs.YtgpjnffomheemaaDoor

