/- FnExactRootOf: the walk of the statement: the two functions come to one and the same result. -/
import Derived.Test.YtaaccldphlljpaaArc
import Derived.Deep.RegionHeld3
import Derived.Deep.DeepCutAuto
namespace Go.Proofs.Ytaaccldphlljpaa
open Go.RowKit
set_option linter.unusedVariables false
set_option linter.unusedSimpArgs false
set_option maxRecDepth 100000

set_option maxHeartbeats 2000000 in
theorem walk_FnExactRootOf (n : Int) (w : World) (wf0 : (Lit.int .i64 n).wf = true) :
    Calls Try.prog 12 #[.int .i64 n] w fun e w' => e = .returned (.bool true) ∧ Below w.heap.size w w' := by
  clear wf0
  go_enter Try.func12, Try.ntmps12
  go_wp2_with (first | (go_at_call 34; refine (sRootOf_any _ _).mono ?_; rintro e w' ⟨rfl, rfl⟩) | (go_at_call 35; refine (iRootOf_any _ _).mono ?_; rintro e w' ⟨rfl, rfl⟩))
  (go_ret; exact ⟨rfl, (by (first | exact Below.refl _ _ | assumption | (repeat (first | exact Below.refl _ _ | assumption | refine Below.drew ?_ | refine Below.alloc ?_ (by first | omega | (simp <;> omega)) _ | refine Below.setCell ?_ (by first | omega | (simp <;> omega)) _ | refine below_drewN ?_ _))))⟩)

end Go.Proofs.Ytaaccldphlljpaa

