/- A list of spots of the call's own reads as a list. -/
import Derived.Test.YtkadnmebijfacaaStops0
import Derived.Test.YtkadnmebijfacaaDraw6
namespace Go.Proofs.Ytkadnmebijfacaa
open Go.RowKit
theorem SRow.toL {w : World} {b c : Nat} {A : Option Addr} {l : List (Int × Int)} (h : SRow w b (.slice A l.length c) l) : Lst w A l.length l := by
  obtain ⟨A', c', hv, _, hL, _⟩ := h.lst
  injection hv with e
  subst e
  exact hL

end Go.Proofs.Ytkadnmebijfacaa

