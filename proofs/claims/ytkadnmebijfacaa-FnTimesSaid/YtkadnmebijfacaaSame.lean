/- The laws' own comparisons: two lists that read alike. -/
import Derived.Test.YtkadnmebijfacaaWhole
import Derived.Test.YtkadnmebijfacaaWithin
import Derived.Test.YtkadnmebijfacaaMList
import Derived.Deep.QuietTactic
import Derived.BigQuiet
namespace Go.Proofs.Ytkadnmebijfacaa
open Go.RowKit
set_option linter.unusedVariables false
set_option linter.unusedSimpArgs false
set_option maxRecDepth 100000

set_option maxHeartbeats 2000000 in
theorem qSpots_same (A A' : Option Addr) (n c c' : Nat) (l : List (Int × Int)) (w : World) (hp : Lst w A n l) (hp' : Lst w A' n l) :
    Calls Try.prog 71 #[.slice A n c, .slice A' n c'] w fun e w' => e = .returned (.bool true) ∧ Below w.heap.size w w' := by
  have HL := Lib.hid hp.1
  have hn := hp.2.1
  go_enter Try.func71, Try.ntmps71
  go_wp2
  go_loopw [5, 13] (fun s v wr => ∃ k : Nat, k ≤ n ∧ v = .int .i64 k ∧ Below w.heap.size w wr) (fun _ v _ => n - (intOf v).toNat)
  case atStart => exact ⟨0, by omega, rfl, (by (first | with_reducible exact Below.refl _ _ | with_reducible assumption | (repeat (with_reducible first | exact Below.refl _ _ | assumption | refine Below.drew ?_ | refine Below.alloc ?_ (by first | omega | (simp <;> omega)) _ | refine Below.setCell ?_ (by first | omega | (simp <;> omega)) _ | refine below_drewN ?_ _))))⟩
  case round =>
    obtain ⟨k, hk, rfl, hB⟩ := hrel
    by_cases hlt : k < n
    · obtain ⟨g, x, y, rfl, hgl, hx, hh1⟩ := Lst.has (Lst.below hp hB (Nat.le_refl _)) hlt
      obtain ⟨g', x', y', rfl, hgl', hx', hh2⟩ := Lst.has (Lst.below hp' hB (Nat.le_refl _)) hlt
      rw [hx] at hx'
      cases hx'
      clear hx
      have hh := Has.app hh1 hh2
      simp only [List.cons_append, List.nil_append] at hh
      clear hh1 hh2
      have hq := hh
      simp only [Has, and_true] at hq
      have hwr := hB.size
      have hk1 : (k : Int) < n := by omega
      go_wp2_with fail
      go_quiet (fail)
      go_wp2_with fail
      go_roundw
      case rel => exact ⟨k + 1, by omega, by go_num, (by (first | with_reducible exact Below.refl _ _ | with_reducible assumption | (repeat (with_reducible first | exact Below.refl _ _ | assumption | refine Below.drew ?_ | refine Below.alloc ?_ (by first | omega | (simp <;> omega)) _ | refine Below.setCell ?_ (by first | omega | (simp <;> omega)) _ | refine below_drewN ?_ _))))⟩
      case measure => simp [intOf]; omega
    · obtain rfl : k = n := by omega
      go_wp2
      go_ret
      exact ⟨rfl, (by (first | with_reducible exact Below.refl _ _ | with_reducible assumption | (repeat (with_reducible first | exact Below.refl _ _ | assumption | refine Below.drew ?_ | refine Below.alloc ?_ (by first | omega | (simp <;> omega)) _ | refine Below.setCell ?_ (by first | omega | (simp <;> omega)) _ | refine below_drewN ?_ _))))⟩

set_option maxHeartbeats 2000000 in
theorem qMusic_same (A A' : Option Addr) (n c c' : Nat) (l : List (Int × Int)) (w : World) (hp : Lst w A n l) (hp' : Lst w A' n l) :
    Calls Try.prog 90 #[.slice A n c, .slice A' n c'] w fun e w' => e = .returned (.bool true) ∧ Below w.heap.size w w' := by
  have HL := Lib.hid hp.1
  have hn := hp.2.1
  go_enter Try.func90, Try.ntmps90
  go_wp2
  go_loopw [5, 13] (fun s v wr => ∃ k : Nat, k ≤ n ∧ v = .int .i64 k ∧ Below w.heap.size w wr) (fun _ v _ => n - (intOf v).toNat)
  case atStart => exact ⟨0, by omega, rfl, (by (first | with_reducible exact Below.refl _ _ | with_reducible assumption | (repeat (with_reducible first | exact Below.refl _ _ | assumption | refine Below.drew ?_ | refine Below.alloc ?_ (by first | omega | (simp <;> omega)) _ | refine Below.setCell ?_ (by first | omega | (simp <;> omega)) _ | refine below_drewN ?_ _))))⟩
  case round =>
    obtain ⟨k, hk, rfl, hB⟩ := hrel
    by_cases hlt : k < n
    · obtain ⟨g, x, y, rfl, hgl, hx, hh1⟩ := Lst.has (Lst.below hp hB (Nat.le_refl _)) hlt
      obtain ⟨g', x', y', rfl, hgl', hx', hh2⟩ := Lst.has (Lst.below hp' hB (Nat.le_refl _)) hlt
      rw [hx] at hx'
      cases hx'
      clear hx
      have hh := Has.app hh1 hh2
      simp only [List.cons_append, List.nil_append] at hh
      clear hh1 hh2
      have hq := hh
      simp only [Has, and_true] at hq
      have hwr := hB.size
      have hk1 : (k : Int) < n := by omega
      go_wp2_with fail
      go_quiet (fail)
      go_wp2_with fail
      go_roundw
      case rel => exact ⟨k + 1, by omega, by go_num, (by (first | with_reducible exact Below.refl _ _ | with_reducible assumption | (repeat (with_reducible first | exact Below.refl _ _ | assumption | refine Below.drew ?_ | refine Below.alloc ?_ (by first | omega | (simp <;> omega)) _ | refine Below.setCell ?_ (by first | omega | (simp <;> omega)) _ | refine below_drewN ?_ _))))⟩
      case measure => simp [intOf]; omega
    · obtain rfl : k = n := by omega
      go_wp2
      go_ret
      exact ⟨rfl, (by (first | with_reducible exact Below.refl _ _ | with_reducible assumption | (repeat (with_reducible first | exact Below.refl _ _ | assumption | refine Below.drew ?_ | refine Below.alloc ?_ (by first | omega | (simp <;> omega)) _ | refine Below.setCell ?_ (by first | omega | (simp <;> omega)) _ | refine below_drewN ?_ _))))⟩

set_option maxHeartbeats 2000000 in
theorem sameInts_same (v v' : Value) (b b' : Nat) (l : List Int) (w : World) (hp : IRow w b v l) (hp' : IRow w b' v' l) :
    Calls Try.prog 17 #[v, v'] w fun e w' => e = .returned (.bool true) ∧ Below w.heap.size w w' := by
  obtain ⟨A, c, rfl, hc, hrow⟩ := hp.form
  obtain ⟨A', c', rfl, hc', hrow'⟩ := hp'.form
  have hn := hp.1
  obtain ⟨n, hnl⟩ : ∃ n, l.length = n := ⟨_, rfl⟩
  have HL := Lib.hid hnl
  rw [hnl] at hn ⊢
  clear hc hc' hnl hrow hrow'
  go_enter Try.func17, Try.ntmps17
  go_wp2
  go_loopw [5, 13] (fun s v wr => ∃ k : Nat, k ≤ n ∧ v = .int .i64 k ∧ Below w.heap.size w wr) (fun _ v _ => n - (intOf v).toNat)
  case atStart => exact ⟨0, by omega, rfl, (by (first | with_reducible exact Below.refl _ _ | with_reducible assumption | (repeat (with_reducible first | exact Below.refl _ _ | assumption | refine Below.drew ?_ | refine Below.alloc ?_ (by first | omega | (simp <;> omega)) _ | refine Below.setCell ?_ (by first | omega | (simp <;> omega)) _ | refine below_drewN ?_ _))))⟩
  case round =>
    obtain ⟨k, hk, rfl, hB⟩ := hrel
    by_cases hlt : k < n
    · obtain ⟨A1, c1, hv1, _, hr1⟩ := (hp.below hB (Nat.le_refl _)).form
      obtain ⟨A2, c2, hv2, _, hr2⟩ := (hp'.below hB (Nat.le_refl _)).form
      obtain ⟨g, hA, _, hgl, _, hcell⟩ := hr1 (by have := HL.out; omega)
      obtain ⟨g', hA', _, hgl', _, hcell'⟩ := hr2 (by have := HL.out; omega)
      obtain ⟨x, hx⟩ : ∃ x, l[k]'(by have := HL.out; omega) = x := ⟨_, rfl⟩
      have q1 := hcell k (by have := HL.out; omega)
      have q2 := hcell' k (by have := HL.out; omega)
      rw [hx] at q1 q2
      clear hcell hcell' hx hr1 hr2
      subst hA hA'
      injection hv1 with e1 e2 e3
      injection hv2 with e4 e5 e6
      subst e1 e4
      clear e2 e3 e5 e6
      simp only [Has, and_true] at q1 q2
      have hk1 : (k : Int) < n := by omega
      go_wp2_with fail
      go_quiet (fail)
      go_wp2_with fail
      go_roundw
      case rel => exact ⟨k + 1, by omega, by go_num, (by (first | with_reducible exact Below.refl _ _ | with_reducible assumption | (repeat (with_reducible first | exact Below.refl _ _ | assumption | refine Below.drew ?_ | refine Below.alloc ?_ (by first | omega | (simp <;> omega)) _ | refine Below.setCell ?_ (by first | omega | (simp <;> omega)) _ | refine below_drewN ?_ _))))⟩
      case measure => simp [intOf]; omega
    · obtain rfl : k = n := by omega
      go_wp2
      go_ret
      exact ⟨rfl, (by (first | with_reducible exact Below.refl _ _ | with_reducible assumption | (repeat (with_reducible first | exact Below.refl _ _ | assumption | refine Below.drew ?_ | refine Below.alloc ?_ (by first | omega | (simp <;> omega)) _ | refine Below.setCell ?_ (by first | omega | (simp <;> omega)) _ | refine below_drewN ?_ _))))⟩

def hasB (l : List Int) (x : Int) : Bool := l.contains x
theorem contains_take {l : List Int} {k : Nat} {x y : Int} (h : l[k]? = some y) : (l.take (k + 1)).contains x = ((l.take k).contains x || x == y) := by
  obtain ⟨hk, he⟩ := List.getElem?_eq_some_iff.1 h
  rw [List.take_succ_eq_append_getElem hk, he]
  rw [Bool.eq_iff_iff]; simp

set_option maxHeartbeats 2000000 in
theorem pIn_any (v : Value) (b : Nat) (l : List Int) (x : Int) (w : World) (hp : IRow w b v l) :
    Calls Try.prog 18 #[v, .int .i64 x] w fun e w' => e = .returned (.bool (hasB l x)) ∧ w = w' := by
  obtain ⟨A, c, rfl, hc, hrow⟩ := hp.form
  have hn := hp.1
  obtain ⟨n, hnl⟩ : ∃ n, l.length = n := ⟨_, rfl⟩
  have HL := Lib.hid hnl
  rw [hnl] at hn ⊢
  clear hc hnl
  go_enter Try.func18, Try.ntmps18
  go_wp2
  go_loop [6, 9] (fun s v => ∃ k : Nat, k ≤ n ∧ v = .int .i64 k ∧ Hid ((l.take k).contains x = false)) (fun _ v => n - (intOf v).toNat)
  case atStart => exact ⟨0, by omega, rfl, Lib.hid (by simp)⟩
  case round =>
    obtain ⟨k, hk, rfl, HC⟩ := hrel
    by_cases hlt : k < n
    · obtain ⟨g, rfl, _, hgl, _, hcell⟩ := hrow (by have := HL.out; omega)
      obtain ⟨y, hy⟩ : ∃ y, l[k]'(by have := HL.out; omega) = y := ⟨_, rfl⟩
      have q1 := hcell k (by have := HL.out; omega)
      rw [hy] at q1
      have HY := Lib.hid (show l[k]? = some y by rw [List.getElem?_eq_getElem (by have := HL.out; omega), hy])
      clear hcell hy hrow
      simp only [Has, and_true] at q1
      have hk1 : (k : Int) < n := by omega
      by_cases he : y = x
      · subst he
        have HE := Lib.hid (show hasB l y = true by unfold hasB; simpa using List.mem_of_getElem? HY.out)
        go_wp2_with fail
        go_ret
        exact ⟨by rw [HE.out]; rfl, rfl⟩
      · have HC2 := Lib.hid (show (l.take (k + 1)).contains x = false by rw [contains_take HY.out, HC.out]; simp; omega)
        go_wp2_with fail
        go_round
        case rel => exact ⟨k + 1, by omega, by go_num, HC2⟩
        case measure => simp [intOf]; omega
    · obtain rfl : k = n := by omega
      have HE := Lib.hid (show hasB l x = false by unfold hasB; have := HC.out; rwa [List.take_of_length_le (by have := HL.out; omega)] at this)
      go_wp2
      go_ret
      exact ⟨by rw [HE.out]; rfl, rfl⟩

theorem big_any (A A' : Option Addr) (n c n' c' : Nat) (w : World) (h1 : n ≤ 9223372036854775807) (h2 : n' ≤ 9223372036854775807) :
    Calls Try.prog 8 #[.slice A n c, .slice A' n' c'] w fun e w' => e = .returned (.bool (decide (1048576 < n + n'))) ∧ w = w' := by
  by_cases hn : 1048576 < n
  · have hd : decide (1048576 < n + n') = true := by simp; omega
    rw [hd]
    clear hd
    have hn' : (1048576 : Int) < n := by omega
    go_enter Try.func8, Try.ntmps8
    go_wp2
    go_ret
    exact ⟨rfl, rfl⟩
  · by_cases hs : 1048576 < n + n'
    · have hd : decide (1048576 < n + n') = true := by simp; omega
      rw [hd]
      clear hd
      have hn' : ¬ (1048576 : Int) < n := by omega
      have hs' : (1048576 : Int) - n < n' := by omega
      go_enter Try.func8, Try.ntmps8
      go_wp2
      go_ret
      exact ⟨rfl, rfl⟩
    · have hd : decide (1048576 < n + n') = false := by simp; omega
      rw [hd]
      clear hd
      have hn' : ¬ (1048576 : Int) < n := by omega
      have hs' : ¬ (1048576 : Int) - n < n' := by omega
      go_enter Try.func8, Try.ntmps8
      go_wp2
      go_ret
      exact ⟨rfl, rfl⟩

end Go.Proofs.Ytkadnmebijfacaa

