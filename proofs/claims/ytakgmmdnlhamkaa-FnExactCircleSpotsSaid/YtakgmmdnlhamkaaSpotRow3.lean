/- Marking and holding of rows of spots that append made: the walks. -/
import Derived.Test.YtakgmmdnlhamkaaSpotRow2
namespace Go.Proofs.Ytakgmmdnlhamkaa
open Go.RowKit
set_option linter.unusedVariables false
set_option linter.unusedSimpArgs false
set_option maxRecDepth 100000

set_option maxHeartbeats 2000000 in
theorem markSpotR_any (v : Value) (b : Nat) (l : List (Int × Int)) (w : World) (hp : SRow w b v l) :
    Calls Try.prog 38 #[v, .int .i64 1] w fun e w' => e = .returned (.int .i64 (2 * (l.length : Int) + 1)) ∧ SRow w' b v (marks2 l.length) ∧ w.grownBy w' v.ownBlock := by
  have hn := hp.1
  obtain ⟨A, cap, rfl, ⟨hc1, hc2⟩, _, hg0⟩ := hp.lst
  obtain ⟨n, hnl⟩ : ∃ n, l.length = n := ⟨_, rfl⟩
  rcases Nat.eq_zero_or_pos n with h0 | h0
  · have hl : l = [] := List.length_eq_zero_iff.1 (by omega)
    subst hl
    clear hnl
    simp only [List.length_nil] at *
    go_enter Try.func38, Try.ntmps38
    go_wp2
    go_loop [1, 5] (fun s1 s5 => s1 = .int .i64 1 ∧ s5 = .int .i64 0) (fun _ _ => 0)
    case atStart => exact ⟨rfl, rfl⟩
    case round =>
      obtain ⟨rfl, rfl⟩ := hrel
      go_wp2
      go_ret
      exact ⟨rfl, by simpa [marks2] using hp, World.grownBy.refl _ _⟩
  · obtain ⟨g, rfl, hbg, hgl, hob⟩ := hg0 (by omega)
    rw [hnl] at hp hn hc1 ⊢
    obtain ⟨hr, hbk, _⟩ := hp.rowTo hnl h0
    have HR := hr.weak0
    clear hr hp hg0 hnl hob
    go_enter Try.func38, Try.ntmps38
    go_wp2
    go_loopw [1, 5] (fun s1 s5 wr => ∃ k : Nat, k ≤ n ∧ s5 = .int .i64 k ∧ s1 = .int .i64 (2 * (k : Int) + 1) ∧ RowTo wr g n k (marks2 n) ∧ Blk wr g cap ∧ w.grownBy wr (some g)) (fun _ v _ => n - (intOf v).toNat)
    case atStart => exact ⟨0, by omega, rfl, rfl, HR, hbk, World.grownBy.refl _ _⟩
    case round =>
      obtain ⟨k, hk, rfl, rfl, HK, HB, HG⟩ := hrel
      by_cases hlt : k < n
      · obtain ⟨u, u', hq⟩ := HK.cells hlt
        simp only [Has, and_true] at hq
        have hkl : k < (marks2 n).length := by rw [marks2_len]; exact hlt
        go_wp2
        go_roundw
        case rel => exact ⟨k + 1, by omega, by go_num, by go_num, rowTo_set HK hkl (by rw [marks2_get]) (by rw [marks2_get]), HB.set.set, HG.trans (grown_set2 _ _ _ _ _ _)⟩
        case measure => simp [intOf]; omega
      · obtain rfl : k = n := by omega
        go_wp2
        go_ret
        exact ⟨rfl, by have := srow_of HK HB hc1 hc2 hbg hn; simpa [marks2_len] using this, HG⟩

set_option maxHeartbeats 2000000 in
theorem heldSpotS_marks (A : Option Addr) (n c : Nat) (w : World) (hp : Lst w A n (marks2 n)) :
    Calls Try.prog 39 #[.slice A n c, .int .i64 1] w fun e w' => e = .returned (.int .i64 (2 * (n : Int) + 1)) ∧ w = w' := by
  have hn := hp.2.1
  go_enter Try.func39, Try.ntmps39
  go_wp2
  go_loop [1, 5] (fun s1 s5 => ∃ k : Nat, k ≤ n ∧ s5 = .int .i64 k ∧ s1 = .int .i64 (2 * (k : Int) + 1)) (fun _ v => n - (intOf v).toNat)
  case atStart => exact ⟨0, by omega, rfl, rfl⟩
  case round =>
    obtain ⟨k, hk, rfl, rfl⟩ := hrel
    by_cases hlt : k < n
    · obtain ⟨g, x, y, rfl, hgl, hx, hq⟩ := Lst.has hp hlt
      rw [List.getElem?_eq_getElem (by rw [marks2_len]; exact hlt), marks2_get] at hx
      cases hx
      simp only [Has, and_true] at hq
      go_wp2
      go_round
      case rel => exact ⟨k + 1, by omega, by go_num, by go_num⟩
      case measure => simp [intOf]; omega
    · obtain rfl : k = n := by omega
      go_wp2
      go_ret
      exact ⟨rfl, rfl⟩

end Go.Proofs.Ytakgmmdnlhamkaa

