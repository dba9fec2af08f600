/- Contracts of SpotsWithin, of the program and of the reference. -/
import Derived.Test.YtgpjnffomheemaaDoorWhole
namespace Go.Proofs.YtgpjnffomheemaaDoor
open Go.RowKit
set_option linter.unusedVariables false
set_option linter.unusedSimpArgs false
set_option maxRecDepth 100000

def withinTo (x y s : Int) (l : List (Int × Int)) : Nat → List Int
  | 0 => []
  | j + 1 => if sq x y (l.getD j (0, 0)).1 (l.getD j (0, 0)).2 ≤ s then withinTo x y s l j ++ [(j : Int)] else withinTo x y s l j
theorem withinTo_yes {x y s p q : Int} {l : List (Int × Int)} {j : Nat} (hk : l[j]? = some (p, q)) (h : sq x y p q ≤ s) : withinTo x y s l (j + 1) = withinTo x y s l j ++ [(j : Int)] := by
  simp [withinTo, List.getD, hk, h]
theorem withinTo_no {x y s p q : Int} {l : List (Int × Int)} {j : Nat} (hk : l[j]? = some (p, q)) (h : ¬ sq x y p q ≤ s) : withinTo x y s l (j + 1) = withinTo x y s l j := by
  simp [withinTo, List.getD, hk, h]
def mWithin (x y s : Int) (l : List (Int × Int)) : List Int × Bool := if goodB x y && spotsB l && inB s 0 3000000 then (withinTo x y s l l.length, true) else ([], false)

end Go.Proofs.YtgpjnffomheemaaDoor

