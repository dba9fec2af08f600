/- FnExactTempoFor: the walk of the statement: the two functions come to one and the same result. -/
import Derived.Test.YtaaccldphlljpaaTempo
import Derived.Deep.RegionHeld3
import Derived.Deep.DeepCutAuto
namespace Go.Proofs.Ytaaccldphlljpaa
open Go.RowKit
set_option linter.unusedVariables false
set_option linter.unusedSimpArgs false
set_option maxRecDepth 100000

set_option maxHeartbeats 2000000 in
theorem walk_FnExactTempoFor (c t : Int) (w : World) (wf0 : (Lit.int .i64 c).wf = true) (wf1 : (Lit.int .i64 t).wf = true) :
    Calls Try.prog 6 #[.int .i64 c, .int .i64 t] w fun e w' => e = .returned (.bool true) ∧ Below w.heap.size w w' := by
  clear wf0 wf1
  go_enter Try.func6, Try.ntmps6
  go_wp2_with (first | (go_at_call 21; refine (sTempo_any _ _ _).mono ?_; rintro e w' ⟨rfl, rfl⟩) | (go_at_call 22; refine (iTempo_any _ _ _).mono ?_; rintro e w' ⟨rfl, rfl⟩))
  (go_ret; exact ⟨rfl, (by (first | exact Below.refl _ _ | assumption | (repeat (first | exact Below.refl _ _ | assumption | refine Below.drew ?_ | refine Below.alloc ?_ (by first | omega | (simp <;> omega)) _ | refine Below.setCell ?_ (by first | omega | (simp <;> omega)) _ | refine below_drewN ?_ _))))⟩)

end Go.Proofs.Ytaaccldphlljpaa

