/- Contracts of SplitMove, of the program and of the reference. -/
import Derived.Test.YtgpjnffomheemaaDoorMove2
import Derived.Test.YtgpjnffomheemaaDoorWhole
import Derived.Test.YtgpjnffomheemaaDoorBase2
namespace Go.Proofs.YtgpjnffomheemaaDoor
open Go.RowKit
set_option linter.unusedVariables false
set_option linter.unusedSimpArgs false
set_option maxRecDepth 100000

def mSplit (a b c d k n : Int) : (Int × Int × Int × Int × Int) × (Int × Int × Int × Int × Int) × Bool :=
  if goodM a b c d k && inB n 1 (k - 1) && wholeB a b c d k n then ((a, b, rnd a c k n, rnd b d k n, n), (rnd a c k n, rnd b d k n, c, d, k - n), true) else ((0, 0, 0, 0, 0), (0, 0, 0, 0, 0), false)

end Go.Proofs.YtgpjnffomheemaaDoor

