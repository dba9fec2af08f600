/- Contracts of TempoFor, of the program and of the reference. -/
import Derived.Test.YtkadnmebijfacaaSpot
import Derived.LoopTactic
namespace Go.Proofs.Ytkadnmebijfacaa
open Go.RowKit
set_option linter.unusedVariables false
set_option linter.unusedSimpArgs false

def tempoScan (c t : Int) : Nat → Int × Bool
  | 0 => (0, false)
  | n + 1 => if t ≤ 60000 * c / ((n : Int) + 40) then ((n : Int) + 40, true) else tempoScan c t n
theorem tempoScan_step (c t i : Int) (h : 40 ≤ i) : tempoScan c t (i - 39).toNat = if t ≤ 60000 * c / i then (i, true) else tempoScan c t (i - 1 - 39).toNat := by
  obtain ⟨n, hn⟩ : ∃ n : Nat, i = (n : Int) + 40 := ⟨(i - 40).toNat, by omega⟩
  subst hn
  rw [show ((n : Int) + 40 - 39).toNat = n + 1 by omega, show ((n : Int) + 40 - 1 - 39).toNat = n by omega]
  rfl
def mTempo (c t : Int) : Int × Bool := if inB c 1 12 && inB t 0 20000 then tempoScan c t 181 else (0, false)
def TempoEq (c t i : Int) : Prop := tempoScan c t 181 = tempoScan c t (i - 39).toNat

theorem muLasts_any (c t : Int) (w : World) (h0 : 0 ≤ c) (h1 : c ≤ 100000) (h2 : 1 ≤ t) :
    Calls Try.prog 144 #[.int .i64 c, .int .i64 t] w fun e w' => e = .returned (.int .i64 (60000 * c / t)) ∧ w = w' := by
  go_enter Try.func144, Try.ntmps144
  go_wp2
  go_ret
  exact ⟨rfl, rfl⟩

set_option maxHeartbeats 400000 in
theorem iTempo_any (c t : Int) (w : World) :
    Calls Try.prog 85 #[.int .i64 c, .int .i64 t] w fun e w' => e = .returned (.tuple #[.int .i64 (mTempo c t).1, .bool (mTempo c t).2]) ∧ w = w' := by
  rcases tf (inB c 1 12) with hx | hx <;> rcases tf (inB t 0 20000) with hy | hy
  · obtain ⟨a1, a2⟩ := (inB_iff _ _ _).1 hx
    obtain ⟨b1, b2⟩ := (inB_iff _ _ _).1 hy
    have HM : Hid (mTempo c t = tempoScan c t 181) := by show _ = _; simp [mTempo, hx, hy]
    go_enter Try.func85, Try.ntmps85
    go_wp2_with (go_at_call 105; refine (within_any _ _ _ _).mono ?_; rintro e w' ⟨rfl, rfl⟩)
    go_loop [6] (fun s => ∃ i : Int, 39 ≤ i ∧ i ≤ 220 ∧ s = .int .i64 i ∧ Hid (TempoEq c t i)) (fun s => (intOf s).toNat)
    case atStart => exact ⟨220, by omega, by omega, rfl, Lib.hid (show tempoScan c t 181 = _ from rfl)⟩
    case round =>
      obtain ⟨i, i1, i2, rfl, HE⟩ := hrel
      by_cases hi : 40 ≤ i
      · by_cases hd : t ≤ 60000 * c / i
        · go_wp2
          go_ret2
          exact ⟨by rw [HM.out, HE.out, tempoScan_step c t i hi, if_pos hd]; rfl, rfl⟩
        · go_wp2
          go_round
          case rel => exact ⟨i - 1, by omega, by omega, rfl, Lib.hid (show TempoEq c t (i - 1) from HE.out.trans ((tempoScan_step c t i hi).trans (if_neg (by omega))))⟩
          case measure => simp [intOf]; omega
      · go_wp2
        go_ret2
        exact ⟨by rw [HM.out, HE.out, show (i - 39).toNat = 0 by omega]; rfl, rfl⟩
  all_goals
    go_enter Try.func85, Try.ntmps85
    go_wp2_with (go_at_call 105; refine (within_any _ _ _ _).mono ?_; rintro e w' ⟨rfl, rfl⟩)
    go_ret2
    exact ⟨by simp [mTempo, hx, hy], rfl⟩

set_option maxHeartbeats 400000 in
theorem sTempo_any (c t : Int) (w : World) :
    Calls Try.prog 86 #[.int .i64 c, .int .i64 t] w fun e w' => e = .returned (.tuple #[.int .i64 (mTempo c t).1, .bool (mTempo c t).2]) ∧ w = w' := by
  rcases tf (inB c 1 12) with hx | hx <;> rcases tf (inB t 0 20000) with hy | hy
  · obtain ⟨a1, a2⟩ := (inB_iff _ _ _).1 hx
    obtain ⟨b1, b2⟩ := (inB_iff _ _ _).1 hy
    have HM : Hid (mTempo c t = tempoScan c t 181) := by show _ = _; simp [mTempo, hx, hy]
    go_enter Try.func86, Try.ntmps86
    go_wp2_with (go_at_call 106; refine (l1In_any _ _ _ _).mono ?_; rintro e w' ⟨rfl, rfl⟩)
    go_loop [6] (fun s => ∃ i : Int, 39 ≤ i ∧ i ≤ 220 ∧ s = .int .i64 i ∧ Hid (TempoEq c t i)) (fun s => (intOf s).toNat)
    case atStart => exact ⟨220, by omega, by omega, rfl, Lib.hid (show tempoScan c t 181 = _ from rfl)⟩
    case round =>
      obtain ⟨i, i1, i2, rfl, HE⟩ := hrel
      by_cases hi : 40 ≤ i
      · by_cases hd : t ≤ 60000 * c / i
        · go_wp2_with (go_at_call 144; refine (muLasts_any _ _ _ (by omega) (by omega) (by omega)).mono ?_; rintro e w' ⟨rfl, rfl⟩)
          go_ret2
          exact ⟨by rw [HM.out, HE.out, tempoScan_step c t i hi, if_pos hd]; rfl, rfl⟩
        · go_wp2_with (go_at_call 144; refine (muLasts_any _ _ _ (by omega) (by omega) (by omega)).mono ?_; rintro e w' ⟨rfl, rfl⟩)
          go_round
          case rel => exact ⟨i - 1, by omega, by omega, rfl, Lib.hid (show TempoEq c t (i - 1) from HE.out.trans ((tempoScan_step c t i hi).trans (if_neg (by omega))))⟩
          case measure => simp [intOf]; omega
      · go_wp2
        go_ret2
        exact ⟨by rw [HM.out, HE.out, show (i - 39).toNat = 0 by omega]; rfl, rfl⟩
  all_goals
    go_enter Try.func86, Try.ntmps86
    go_wp2_with (go_at_call 106; refine (l1In_any _ _ _ _).mono ?_; rintro e w' ⟨rfl, rfl⟩)
    go_ret2
    exact ⟨by simp [mTempo, hx, hy], rfl⟩

end Go.Proofs.Ytkadnmebijfacaa

