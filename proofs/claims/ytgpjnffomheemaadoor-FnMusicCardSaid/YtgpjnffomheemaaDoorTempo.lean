/- Contracts of TempoFor, of the program and of the reference. -/
import Derived.Test.YtgpjnffomheemaaDoorSpot
import Derived.LoopTactic
namespace Go.Proofs.YtgpjnffomheemaaDoor
open Go.RowKit
set_option linter.unusedVariables false
set_option linter.unusedSimpArgs false

def tempoScan (c t : Int) : Nat → Int × Bool
  | 0 => (0, false)
  | n + 1 => if t ≤ 60000 * c / ((n : Int) + 40) then ((n : Int) + 40, true) else tempoScan c t n
theorem tempoScan_step (c t i : Int) (h : 40 ≤ i) : tempoScan c t (i - 39).toNat = if t ≤ 60000 * c / i then (i, true) else tempoScan c t (i - 1 - 39).toNat := by
  obtain ⟨n, hn⟩ : ∃ n : Nat, i = (n : Int) + 40 := ⟨(i - 40).toNat, by omega⟩
  subst hn
  rw [show ((n : Int) + 40 - 39).toNat = n + 1 by omega, show ((n : Int) + 40 - 1 - 39).toNat = n by omega]
  rfl
def mTempo (c t : Int) : Int × Bool := if inB c 1 12 && inB t 0 20000 then tempoScan c t 181 else (0, false)
def TempoEq (c t i : Int) : Prop := tempoScan c t 181 = tempoScan c t (i - 39).toNat

theorem muLasts_any (c t : Int) (w : World) (h0 : 0 ≤ c) (h1 : c ≤ 100000) (h2 : 1 ≤ t) :
    Calls Tryd.prog 123 #[.int .i64 c, .int .i64 t] w fun e w' => e = .returned (.int .i64 (60000 * c / t)) ∧ w = w' := by
  go_enter Tryd.func123, Tryd.ntmps123
  go_wp2
  go_ret
  exact ⟨rfl, rfl⟩

end Go.Proofs.YtgpjnffomheemaaDoor

