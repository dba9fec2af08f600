import Derived.Test.YtgpjnffomheemaaDoorMove3
import Derived.Test.YtgpjnffomheemaaDoorBase
import Derived.Deep.RegionHeld3

section
/- Contracts of JoinMoves, of the program and of the reference. -/
namespace Go.Proofs.YtgpjnffomheemaaDoor
open Go.RowKit
set_option linter.unusedVariables false
set_option linter.unusedSimpArgs false
set_option maxRecDepth 100000

def joinB (a1 a2 a3 a4 a5 b1 b2 b3 b4 b5 : Int) : Bool := goodM a1 a2 a3 a4 a5 && goodM b1 b2 b3 b4 b5 && goodM a1 a2 b3 b4 (a5 + b5) && (a3 == b1 && a4 == b2) && wholeB a1 a2 b3 b4 (a5 + b5) a5 && (rnd a1 b3 (a5 + b5) a5 == a3 && rnd a2 b4 (a5 + b5) a5 == a4)
def mJoin (a1 a2 a3 a4 a5 b1 b2 b3 b4 b5 : Int) : (Int × Int × Int × Int × Int) × Bool := if joinB a1 a2 a3 a4 a5 b1 b2 b3 b4 b5 then ((a1, a2, b3, b4, a5 + b5), true) else ((0, 0, 0, 0, 0), false)
theorem mJoin_no {a1 a2 a3 a4 a5 b1 b2 b3 b4 b5 : Int} (h : joinB a1 a2 a3 a4 a5 b1 b2 b3 b4 b5 = false) : mJoin a1 a2 a3 a4 a5 b1 b2 b3 b4 b5 = ((0, 0, 0, 0, 0), false) := by simp [mJoin, h]
theorem mJoin_yes {a1 a2 a3 a4 a5 b1 b2 b3 b4 b5 : Int} (h : joinB a1 a2 a3 a4 a5 b1 b2 b3 b4 b5 = true) : mJoin a1 a2 a3 a4 a5 b1 b2 b3 b4 b5 = ((a1, a2, b3, b4, a5 + b5), true) := by simp [mJoin, h]

end Go.Proofs.YtgpjnffomheemaaDoor
end

section
/- A step of a drawn region by hand: an operation that yields, and one that its guard leaves out. -/
namespace Go.Proofs.YtgpjnffomheemaaDoor
open Go.RowKit
set_option linter.unusedVariables false

theorem take_d {P : Program} {ops : Array Oper} {Q : Exit → Act → World → Prop} {md : Region.Mode} {S : World → Prop} {i : Nat} {oi : Oper} (dst : Option Tmp) {v : Value} {fuel : Nat} {listed : Array Bool} {a : Act} {w : World} (hi : ops[i]? = some oi) (hd : oi.dst = dst)
    (hs : Region.noSelect ops = true) (hf : Region.free md ops listed i = true) (hr : (Region.ready md ops listed).contains i = true)
    (hQ : ∀ c a w, Q (.panic c) (a.put dst v) w → Q (.panic c) a w) (hw : Region.wanted oi (yielded ops a.tmps) = true) (hS : S w)
    (h : wpAnyH P md ops Q S fuel (listed.setIfInBounds i true) (a.put dst v) w) (hy : ∀ w, S w → (execOp a.eval oi).run P w = .ok (.value v) w) : wpAnyH P md ops Q S (fuel + 1) listed a w := by
  subst hd; exact wpAnyH_take hi hs hf hr hQ (Or.inl ⟨hw, hy⟩) hS h

theorem skip_d {P : Program} {ops : Array Oper} {Q : Exit → Act → World → Prop} {md : Region.Mode} {S : World → Prop} {i : Nat} {oi : Oper} (dst : Option Tmp) {fuel : Nat} {listed : Array Bool} {a : Act} {w : World} (hi : ops[i]? = some oi) (hd : oi.dst = dst)
    (hs : Region.noSelect ops = true) (hf : Region.free md ops listed i = true) (hr : (Region.ready md ops listed).contains i = true)
    (hQ : ∀ c a w, Q (.panic c) (a.put dst undef) w → Q (.panic c) a w) (hw : Region.wanted oi (yielded ops a.tmps) = false) (hS : S w)
    (h : wpAnyH P md ops Q S fuel (listed.setIfInBounds i true) (a.put dst undef) w) : wpAnyH P md ops Q S (fuel + 1) listed a w := by
  subst hd; exact wpAnyH_take hi hs hf hr hQ (Or.inr ⟨hw, rfl⟩) hS h

end Go.Proofs.YtgpjnffomheemaaDoor
end

section
/- Contract of the reference's JoinMoves. -/
namespace Go.Proofs.YtgpjnffomheemaaDoor
open Go.RowKit
set_option linter.unusedVariables false
set_option linter.unusedSimpArgs false
set_option maxRecDepth 100000

end Go.Proofs.YtgpjnffomheemaaDoor
end
