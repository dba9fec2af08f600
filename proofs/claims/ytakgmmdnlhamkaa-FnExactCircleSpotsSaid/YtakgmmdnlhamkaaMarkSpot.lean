/- The statements' marking of a row of spots. -/
import Derived.Test.YtakgmmdnlhamkaaWithin
import Derived.Maps.AppendAt
namespace Go.Proofs.Ytakgmmdnlhamkaa
open Go.RowKit
set_option linter.unusedVariables false
set_option linter.unusedSimpArgs false
set_option maxRecDepth 100000

def marks2 (n : Nat) : List (Int × Int) := List.map (fun i : Nat => (2 * (i : Int) + 1, 2 * (i : Int) + 1 + 1)) (List.range n)
theorem marks2_len (n : Nat) : (marks2 n).length = n := by simp [marks2]
theorem marks2_get (n i : Nat) (h : i < (marks2 n).length) : (marks2 n)[i] = (2 * (i : Int) + 1, 2 * (i : Int) + 1 + 1) := by simp [marks2]
theorem RowTo.weak0 {w : World} {g n k : Nat} {l : List (Int × Int)} (h : RowTo w g n k l) : RowTo w g n 0 (marks2 n) :=
  ⟨h.1, marks2_len n, h.2.2.1, fun i hi hk => absurd hk (by omega)⟩
theorem RowTo.cells {w : World} {g n k : Nat} {l : List (Int × Int)} (h : RowTo w g n k l) {j : Nat} (hj : j < n) : ∃ u u', Has w [(g, j * 2, u), (g, j * 2 + 1, u')] := by
  obtain ⟨⟨v, hv⟩, hf⟩ := h.2.2.1 (j * 2) (by omega)
  obtain ⟨⟨v', hv'⟩, hf'⟩ := h.2.2.1 (j * 2 + 1) (by omega)
  exact ⟨v, v', ⟨hv, hf⟩, ⟨hv', hf'⟩, trivial⟩
theorem grown_set1 (w : World) (g i : Nat) (v : Value) : w.grownBy (w.setCell ⟨g, i, none⟩ v) (some g) :=
  ⟨rfl, rfl, rfl, by simp [World.setCell], fun k _ hk => Below.heap_setCell w ⟨g, i, none⟩ v k (fun e => hk (by rw [e]))⟩
theorem grown_set2 (w : World) (g i j : Nat) (v v' : Value) : w.grownBy ((w.setCell ⟨g, i, none⟩ v).setCell ⟨g, j, none⟩ v') (some g) :=
  World.grownBy.trans (grown_set1 w g i v) (grown_set1 _ g j v')

set_option maxHeartbeats 2000000 in
theorem markSpotS_any (g n c : Nat) (l : List (Int × Int)) (w : World) (hp : RowTo w g n n l) (hn : n ≤ 1048576) :
    Calls Try.prog 38 #[.slice (some ⟨g, 0, none⟩) n c, .int .i64 1] w fun e w' => e = .returned (.int .i64 (2 * (n : Int) + 1)) ∧ RowTo w' g n n (marks2 n) ∧ w.grownBy w' (some g) := by
  have HR := hp.weak0
  clear hp
  go_enter Try.func38, Try.ntmps38
  go_wp2
  go_loopw [1, 5] (fun s1 s5 wr => ∃ k : Nat, k ≤ n ∧ s5 = .int .i64 k ∧ s1 = .int .i64 (2 * (k : Int) + 1) ∧ RowTo wr g n k (marks2 n) ∧ w.grownBy wr (some g)) (fun _ v _ => n - (intOf v).toNat)
  case atStart => exact ⟨0, by omega, rfl, rfl, HR, World.grownBy.refl _ _⟩
  case round =>
    obtain ⟨k, hk, rfl, rfl, HK, HG⟩ := hrel
    by_cases hlt : k < n
    · obtain ⟨u, u', hq⟩ := HK.cells hlt
      simp only [Has, and_true] at hq
      have hkl : k < (marks2 n).length := by rw [marks2_len]; exact hlt
      go_wp2
      go_roundw
      case rel => exact ⟨k + 1, by omega, by go_num, by go_num, rowTo_set HK hkl (by rw [marks2_get]) (by rw [marks2_get]), HG.trans (grown_set2 _ _ _ _ _ _)⟩
      case measure => simp [intOf]; omega
    · obtain rfl : k = n := by omega
      go_wp2
      go_ret
      exact ⟨rfl, HK, HG⟩

end Go.Proofs.Ytakgmmdnlhamkaa

