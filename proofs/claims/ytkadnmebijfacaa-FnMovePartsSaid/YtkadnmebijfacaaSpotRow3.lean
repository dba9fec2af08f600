/- Marking and holding of rows of spots that append made: the walks. -/
import Derived.Test.YtkadnmebijfacaaSpotRow2
namespace Go.Proofs.Ytkadnmebijfacaa
open Go.RowKit
set_option linter.unusedVariables false
set_option linter.unusedSimpArgs false
set_option maxRecDepth 100000

end Go.Proofs.Ytkadnmebijfacaa

