/- A result that lies in cells of the call's own is read off what is known of them. -/
import Derived.Test.YtgpjnffomheemaaDoorBase
namespace Go.Proofs.YtgpjnffomheemaaDoor
open Go.RowKit
set_option linter.unusedVariables false

theorem ret_has {P : Program} {f : Func} {R : Ending → World → Prop} {a : Act} {W : World} {v : Value} {m : List (Nat × Nat × Value)} (hh : Has W m) (hr : ∀ W', Has W' m → (results f a.tmps).run P W' = .ok v W') (hd : a.defers = [])
    (hR : R (.returned v) W) : bodyPost P f R .ret a W := bodyPost_ret (hr W hh) hd hR

end Go.Proofs.YtgpjnffomheemaaDoor

