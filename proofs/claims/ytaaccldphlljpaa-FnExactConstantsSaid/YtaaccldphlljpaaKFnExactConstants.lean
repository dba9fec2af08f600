/- FnExactConstants: the walk of the statement: each constant is compared with its value. No condition. -/
import Derived.Test.YtaaccldphlljpaaBase
namespace Go.Proofs.Ytaaccldphlljpaa
open Go.RowKit

set_option maxRecDepth 100000 in
theorem walk_FnExactConstants (w : World) :
    Calls Try.prog 3 #[] w fun e w' => e = .returned (.bool true) ∧ Below w.heap.size w w' := by
  go_enter Try.func3, Try.ntmps3
  go_wp2
  go_ret
  exact ⟨rfl, Below.refl _ _⟩

end Go.Proofs.Ytaaccldphlljpaa

