import Derived.Test.YtgpjnffomheemaaDoorJ2Music
import Derived.Test.YtgpjnffomheemaaDoorTempo
/- Contracts of MeasureAt, TimeOf, LastsFrom and CountAt, of the program and of the reference. -/
namespace Go.Proofs.YtgpjnffomheemaaDoor
open Go.RowKit
set_option linter.unusedVariables false
set_option linter.unusedSimpArgs false
set_option maxRecDepth 100000

def sumL : List (Int × Int) → Int
  | [] => 0
  | p :: r => p.1 + sumL r
def timeL : List (Int × Int) → Int → Int
  | [], _ => 0
  | p :: r, k => if k < p.1 then 60000 * k / p.2 else 60000 * p.1 / p.2 + timeL r (k - p.1)
def atL : List (Int × Int) → Int → Nat × Int
  | [], k => (0, k)
  | p :: r, k => if p.1 ≤ k then ((atL r (k - p.1)).1 + 1, (atL r (k - p.1)).2) else (0, k)
theorem drop_cons_ {l : List (Int × Int)} {j : Nat} {x y : Int} (h : l[j]? = some (x, y)) : l.drop j = (x, y) :: l.drop (j + 1) := by
  obtain ⟨hj, he⟩ := List.getElem?_eq_some_iff.1 h
  rw [List.drop_eq_getElem_cons hj, he]
theorem sumTo_drop (l : List (Int × Int)) : ∀ k, k ≤ l.length → sumTo l k + sumL (l.drop k) = sumL l
  | 0, _ => by simp [sumTo]
  | k + 1, h => by
    have ih := sumTo_drop l k (by omega)
    have hk : l[k]? = some (l[k].1, l[k].2) := List.getElem?_eq_getElem (by omega)
    rw [drop_cons_ hk] at ih
    rw [sumTo_step hk]
    simp only [sumL] at ih
    omega
theorem sumTo_all (l : List (Int × Int)) : sumTo l l.length = sumL l := by
  have := sumTo_drop l l.length (Nat.le_refl _)
  simpa [sumL] using this
theorem sumTo_bd {l : List (Int × Int)} (hm : musB l = true) : ∀ k, k ≤ l.length → 0 ≤ sumTo l k ∧ sumTo l k ≤ 12 * k
  | 0, _ => by simp [sumTo]
  | k + 1, h => by
    have ih := sumTo_bd hm k (by omega)
    have hk : l[k]? = some (l[k].1, l[k].2) := List.getElem?_eq_getElem (by omega)
    have := (meB_iff _ _).1 (musB_get hm hk)
    rw [sumTo_step hk]
    omega
theorem sumL_bd {l : List (Int × Int)} (hm : musB l = true) : 0 ≤ sumL l ∧ sumL l ≤ 480 := by
  have := sumTo_bd hm l.length (Nat.le_refl _)
  rw [sumTo_all] at this
  have := musB_len hm
  omega
theorem quo_bd {a y : Int} (h0 : 0 ≤ a) (h1 : a ≤ 720000) (h2 : 40 ≤ y) : 0 ≤ a / y ∧ a / y ≤ 18000 := by
  refine ⟨Int.ediv_nonneg h0 (by omega), ?_⟩
  have : a / y < 18001 := Int.ediv_lt_of_lt_mul (by omega) (by omega)
  omega
theorem timeL_drop {l : List (Int × Int)} {j : Nat} {x y : Int} (h : l[j]? = some (x, y)) (k : Int) : timeL (l.drop j) k = if k < x then 60000 * k / y else 60000 * x / y + timeL (l.drop (j + 1)) (k - x) := by
  rw [drop_cons_ h]; rfl
theorem atL_drop {l : List (Int × Int)} {j : Nat} {x y : Int} (h : l[j]? = some (x, y)) (k : Int) : atL (l.drop j) k = if x ≤ k then ((atL (l.drop (j + 1)) (k - x)).1 + 1, (atL (l.drop (j + 1)) (k - x)).2) else (0, k) := by
  rw [drop_cons_ h]; rfl
theorem sumL_drop {l : List (Int × Int)} {j : Nat} {x y : Int} (h : l[j]? = some (x, y)) : sumL (l.drop j) = x + sumL (l.drop (j + 1)) := by
  rw [drop_cons_ h]; rfl
theorem timeL_rng : ∀ (l : List (Int × Int)) (k : Int), (∀ p ∈ l, meB p.1 p.2 = true) → 0 ≤ k → 0 ≤ timeL l k ∧ timeL l k ≤ 18000 * l.length
  | [], k, _, _ => by simp [timeL]
  | p :: r, k, h, hk => by
    have hp := (meB_iff _ _).1 (h p (by simp))
    have ih := timeL_rng r (k - p.1) (fun q hq => h q (by simp [hq]))
    simp only [timeL, List.length_cons]
    split
    · have := quo_bd (a := 60000 * k) (y := p.2) (by omega) (by omega) (by omega)
      omega
    · have := quo_bd (a := 60000 * p.1) (y := p.2) (by omega) (by omega) (by omega)
      have := ih (by omega)
      omega
theorem timeL_mono : ∀ (l : List (Int × Int)) (k : Int), (∀ p ∈ l, meB p.1 p.2 = true) → 0 ≤ k → timeL l k ≤ timeL l (k + 1)
  | [], k, _, _ => by simp [timeL]
  | p :: r, k, h, hk => by
    have hp := (meB_iff _ _).1 (h p (by simp))
    have hr : ∀ q ∈ r, meB q.1 q.2 = true := fun q hq => h q (by simp [hq])
    simp only [timeL]
    by_cases h1 : k + 1 < p.1
    · rw [if_pos h1, if_pos (by omega)]
      exact Int.ediv_le_ediv (by omega) (by omega)
    · by_cases h2 : k < p.1
      · rw [if_pos h2, if_neg h1]
        have e : k + 1 - p.1 = 0 := by omega
        rw [e]
        have a := (timeL_rng r 0 hr (Int.le_refl _)).1
        have b : 60000 * k / p.2 ≤ 60000 * p.1 / p.2 := Int.ediv_le_ediv (by omega) (by omega)
        omega
      · rw [if_neg h2, if_neg h1]
        have := timeL_mono r (k - p.1) hr (by omega)
        rw [show k + 1 - p.1 = k - p.1 + 1 by omega]
        omega
theorem timeL_le (l : List (Int × Int)) (h : ∀ p ∈ l, meB p.1 p.2 = true) (a : Int) (ha : 0 ≤ a) : ∀ d : Nat, timeL l a ≤ timeL l (a + d)
  | 0 => by simp
  | d + 1 => by
    have i := timeL_le l h a ha d
    have j := timeL_mono l (a + d) h (by omega)
    rw [show a + ((d + 1 : Nat) : Int) = a + d + 1 by omega]
    omega
theorem musB_mem {l : List (Int × Int)} (h : musB l = true) : ∀ p ∈ l, meB p.1 p.2 = true := by
  unfold musB at h
  rw [Bool.and_eq_true, List.all_eq_true] at h
  exact h.2
theorem timeL_bd {l : List (Int × Int)} (h : musB l = true) {k : Int} (hk : 0 ≤ k) : 0 ≤ timeL l k ∧ timeL l k ≤ 720000 := by
  have a := timeL_rng l k (musB_mem h) hk
  have b := musB_len h
  omega
theorem timeL_le' {l : List (Int × Int)} (h : musB l = true) {a b : Int} (ha : 0 ≤ a) (hab : a ≤ b) : timeL l a ≤ timeL l b := by
  have := timeL_le l (musB_mem h) a ha (b - a).toNat
  rwa [show a + ((b - a).toNat : Int) = b by omega] at this
theorem timeL_zero {l : List (Int × Int)} (h : musB l = true) : timeL l 0 = 0 := by
  cases l with
  | nil => rfl
  | cons p r =>
    have hp := (meB_iff _ _).1 (musB_mem h p (by simp))
    simp only [timeL]
    rw [if_pos (by omega)]
    simp
def TimeEq (l : List (Int × Int)) (k0 acc k : Int) (j : Nat) : Prop := acc + timeL (l.drop j) k = timeL l k0

set_option maxHeartbeats 2000000 in
theorem timeOf_any (A : Option Addr) (n c : Nat) (l : List (Int × Int)) (k0 : Int) (w : World) (hp : Lst w A n l) (hm : musB l = true) (hk0 : 0 ≤ k0) (hk1 : k0 ≤ 1000) :
    Calls Tryd.prog 106 #[.slice A n c, .int .i64 k0] w fun e w' => e = .returned (.int .i64 (timeL l k0)) ∧ Below w.heap.size w w' := by
  have HL := Lib.hid hp.1
  have hn := hp.2.1
  have hn40 : n ≤ 40 := by have := (musB_len hm).2; have := HL.out; omega
  go_enter Tryd.func106, Tryd.ntmps106
  go_wp2
  go_loopw [1, 5, 10] (fun s1 s5 s10 wr => ∃ (j : Nat) (acc k : Int), j ≤ n ∧ s1 = .int .i64 k ∧ s5 = .int .i64 acc ∧ s10 = .int .i64 j ∧ 0 ≤ k ∧ k ≤ 1000 ∧ 0 ≤ acc ∧ acc ≤ 18000 * j ∧ Hid (TimeEq l k0 acc k j) ∧ Below w.heap.size w wr) (fun _ _ v _ => n - (intOf v).toNat)
  case atStart => exact ⟨0, 0, k0, by omega, rfl, rfl, rfl, by omega, by omega, by omega, by omega, Lib.hid (show 0 + timeL (l.drop 0) k0 = timeL l k0 by simp), (by (first | with_reducible exact Below.refl _ _ | with_reducible assumption | (repeat (with_reducible first | exact Below.refl _ _ | assumption | refine Below.drew ?_ | refine Below.alloc ?_ (by first | omega | (simp <;> omega)) _ | refine Below.setCell ?_ (by first | omega | (simp <;> omega)) _ | refine below_drewN ?_ _))))⟩
  case round =>
    obtain ⟨j, acc, k, hj, rfl, rfl, rfl, k1, k2, a1, a2, HT, hB⟩ := hrel
    by_cases hlt : j < n
    · have hpw := hp.below hB (Nat.le_refl _)
      obtain ⟨g, x, y, rfl, hgl, hx, hh⟩ := hpw.has hlt
      have HX := Lib.hid hx
      clear hx hpw
      have hq := hh
      simp only [Has, and_true] at hq
      have hne1 : g ≠ wr.heap.size := by omega
      have hne2 : wr.heap.size ≠ g := by omega
      have hwr := hB.size
      obtain ⟨b1, b2, b3, b4⟩ := (meB_iff _ _).1 (musB_get hm HX.out)
      by_cases hc : k < x
      · obtain ⟨d1, d2⟩ := quo_bd (a := 60000 * k) (y := y) (by omega) (by omega) (by omega)
        have HF : Hid (acc + 60000 * k / y = timeL l k0) := by
          have e := HT.out
          unfold TimeEq at e
          rw [timeL_drop HX.out, if_pos hc] at e
          exact e
        go_wp2_with fail
        go_ret
        exact ⟨by first | (rw [← HF.out]; done) | (rw [← HF.out]; rfl), (by (first | with_reducible exact Below.refl _ _ | with_reducible assumption | (repeat (with_reducible first | exact Below.refl _ _ | assumption | refine Below.drew ?_ | refine Below.alloc ?_ (by first | omega | (simp <;> omega)) _ | refine Below.setCell ?_ (by first | omega | (simp <;> omega)) _ | refine below_drewN ?_ _))))⟩
      · obtain ⟨d1, d2⟩ := quo_bd (a := 60000 * x) (y := y) (by omega) (by omega) (by omega)
        have HF : Hid (TimeEq l k0 (acc + 60000 * x / y) (k - x) (j + 1)) := by
          have e := HT.out
          unfold TimeEq at e
          rw [timeL_drop HX.out, if_neg hc] at e
          show _ + _ = _
          omega
        go_wp2_with fail
        go_roundw
        case rel => exact ⟨j + 1, _, _, by omega, rfl, rfl, by go_num, by omega, by omega, by omega, by omega, HF, (by (first | with_reducible exact Below.refl _ _ | with_reducible assumption | (repeat (with_reducible first | exact Below.refl _ _ | assumption | refine Below.drew ?_ | refine Below.alloc ?_ (by first | omega | (simp <;> omega)) _ | refine Below.setCell ?_ (by first | omega | (simp <;> omega)) _ | refine below_drewN ?_ _))))⟩
        case measure => simp [intOf]; omega
    · obtain rfl : j = n := by omega
      have HF : Hid (acc = timeL l k0) := by
        have e := HT.out
        unfold TimeEq at e
        rw [List.drop_eq_nil_of_le (by have := HL.out; omega)] at e
        exact Lib.hid (by simpa [timeL] using e)
      go_wp2
      go_ret
      exact ⟨by first | (rw [← HF.out]; done) | (rw [← HF.out]; rfl), (by (first | with_reducible exact Below.refl _ _ | with_reducible assumption | (repeat (with_reducible first | exact Below.refl _ _ | assumption | refine Below.drew ?_ | refine Below.alloc ?_ (by first | omega | (simp <;> omega)) _ | refine Below.setCell ?_ (by first | omega | (simp <;> omega)) _ | refine below_drewN ?_ _))))⟩

set_option maxHeartbeats 2000000 in
theorem muTime_any (A : Option Addr) (n c : Nat) (l : List (Int × Int)) (k0 : Int) (w : World) (hp : Lst w A n l) (hm : musB l = true) (hk0 : 0 ≤ k0) (hk1 : k0 ≤ 1000) :
    Calls Tryd.prog 108 #[.slice A n c, .int .i64 k0] w fun e w' => e = .returned (.int .i64 (timeL l k0)) ∧ Below w.heap.size w w' := by
  have HL := Lib.hid hp.1
  have hn := hp.2.1
  have hn40 : n ≤ 40 := by have := (musB_len hm).2; have := HL.out; omega
  go_enter Tryd.func108, Tryd.ntmps108
  go_wp2
  go_loopw [1, 5, 10] (fun s1 s5 s10 wr => ∃ (j : Nat) (acc k : Int), j ≤ n ∧ s1 = .int .i64 k ∧ s5 = .int .i64 acc ∧ s10 = .int .i64 j ∧ 0 ≤ k ∧ k ≤ 1000 ∧ 0 ≤ acc ∧ acc ≤ 18000 * j ∧ Hid (TimeEq l k0 acc k j) ∧ Below w.heap.size w wr) (fun _ _ v _ => n - (intOf v).toNat)
  case atStart => exact ⟨0, 0, k0, by omega, rfl, rfl, rfl, by omega, by omega, by omega, by omega, Lib.hid (show 0 + timeL (l.drop 0) k0 = timeL l k0 by simp), (by (first | with_reducible exact Below.refl _ _ | with_reducible assumption | (repeat (with_reducible first | exact Below.refl _ _ | assumption | refine Below.drew ?_ | refine Below.alloc ?_ (by first | omega | (simp <;> omega)) _ | refine Below.setCell ?_ (by first | omega | (simp <;> omega)) _ | refine below_drewN ?_ _))))⟩
  case round =>
    obtain ⟨j, acc, k, hj, rfl, rfl, rfl, k1, k2, a1, a2, HT, hB⟩ := hrel
    by_cases hlt : j < n
    · have hpw := hp.below hB (Nat.le_refl _)
      obtain ⟨g, x, y, rfl, hgl, hx, hh⟩ := hpw.has hlt
      have HX := Lib.hid hx
      clear hx hpw
      have hq := hh
      simp only [Has, and_true] at hq
      have hne1 : g ≠ wr.heap.size := by omega
      have hne2 : wr.heap.size ≠ g := by omega
      have hwr := hB.size
      obtain ⟨b1, b2, b3, b4⟩ := (meB_iff _ _).1 (musB_get hm HX.out)
      by_cases hc : k < x
      · obtain ⟨d1, d2⟩ := quo_bd (a := 60000 * k) (y := y) (by omega) (by omega) (by omega)
        have HF : Hid (acc + 60000 * k / y = timeL l k0) := by
          have e := HT.out
          unfold TimeEq at e
          rw [timeL_drop HX.out, if_pos hc] at e
          exact e
        go_wp2_with (go_at_call 123; refine (muLasts_any _ _ _ (by omega) (by omega) (by omega)).mono ?_; rintro e w' ⟨rfl, rfl⟩)
        go_ret
        exact ⟨by first | (rw [← HF.out]; done) | (rw [← HF.out]; rfl), (by (first | with_reducible exact Below.refl _ _ | with_reducible assumption | (repeat (with_reducible first | exact Below.refl _ _ | assumption | refine Below.drew ?_ | refine Below.alloc ?_ (by first | omega | (simp <;> omega)) _ | refine Below.setCell ?_ (by first | omega | (simp <;> omega)) _ | refine below_drewN ?_ _))))⟩
      · obtain ⟨d1, d2⟩ := quo_bd (a := 60000 * x) (y := y) (by omega) (by omega) (by omega)
        have HF : Hid (TimeEq l k0 (acc + 60000 * x / y) (k - x) (j + 1)) := by
          have e := HT.out
          unfold TimeEq at e
          rw [timeL_drop HX.out, if_neg hc] at e
          show _ + _ = _
          omega
        go_wp2_with (go_at_call 123; refine (muLasts_any _ _ _ (by omega) (by omega) (by omega)).mono ?_; rintro e w' ⟨rfl, rfl⟩)
        go_roundw
        case rel => exact ⟨j + 1, _, _, by omega, rfl, rfl, by go_num, by omega, by omega, by omega, by omega, HF, (by (first | with_reducible exact Below.refl _ _ | with_reducible assumption | (repeat (with_reducible first | exact Below.refl _ _ | assumption | refine Below.drew ?_ | refine Below.alloc ?_ (by first | omega | (simp <;> omega)) _ | refine Below.setCell ?_ (by first | omega | (simp <;> omega)) _ | refine below_drewN ?_ _))))⟩
        case measure => simp [intOf]; omega
    · obtain rfl : j = n := by omega
      have HF : Hid (acc = timeL l k0) := by
        have e := HT.out
        unfold TimeEq at e
        rw [List.drop_eq_nil_of_le (by have := HL.out; omega)] at e
        exact Lib.hid (by simpa [timeL] using e)
      go_wp2
      go_ret
      exact ⟨by first | (rw [← HF.out]; done) | (rw [← HF.out]; rfl), (by (first | with_reducible exact Below.refl _ _ | with_reducible assumption | (repeat (with_reducible first | exact Below.refl _ _ | assumption | refine Below.drew ?_ | refine Below.alloc ?_ (by first | omega | (simp <;> omega)) _ | refine Below.setCell ?_ (by first | omega | (simp <;> omega)) _ | refine below_drewN ?_ _))))⟩

def mMeasureAt (l : List (Int × Int)) (k : Int) : Int × Int × Bool := if musB l && inB k 0 (sumL l - 1) then (((atL l k).1 : Int), (atL l k).2, true) else (0, 0, false)
def AtEq (l : List (Int × Int)) (k0 k : Int) (j : Nat) : Prop := atL l k0 = ((atL (l.drop j) k).1 + j, (atL (l.drop j) k).2) ∧ k < sumL (l.drop j)
theorem atEq_lt {l : List (Int × Int)} {k0 k : Int} {j : Nat} (h : AtEq l k0 k j) (hk : 0 ≤ k) : j < l.length := by
  rcases Nat.lt_or_ge j l.length with h1 | h1
  · exact h1
  · have := h.2
    rw [List.drop_eq_nil_of_le h1] at this
    simp only [sumL] at this
    omega
theorem atEq_step {l : List (Int × Int)} {k0 k x y : Int} {j : Nat} (h : AtEq l k0 k j) (hx : l[j]? = some (x, y)) (hc : x ≤ k) : AtEq l k0 (k - x) (j + 1) := by
  obtain ⟨h1, h2⟩ := h
  rw [atL_drop hx, if_pos hc] at h1
  rw [sumL_drop hx] at h2
  exact ⟨by rw [h1]; simp; omega, by omega⟩
theorem atEq_end {l : List (Int × Int)} {k0 k x y : Int} {j : Nat} (h : AtEq l k0 k j) (hx : l[j]? = some (x, y)) (hc : ¬ x ≤ k) : atL l k0 = (j, k) := by
  obtain ⟨h1, h2⟩ := h
  rw [atL_drop hx, if_neg hc] at h1
  simpa using h1

theorem muHas_any (A : Option Addr) (n c : Nat) (l : List (Int × Int)) (k : Int) (w : World) (hp : Lst w A n l) :
    Calls Tryd.prog 103 #[.slice A n c, .int .i64 k] w fun e w' => e = .returned (.bool (musB l && inB k 0 (sumL l - 1))) ∧ Below w.heap.size w w' := by
  have HL := Lib.hid hp.1
  rcases tf (musB l) with hm | hm
  · have HS : Hid (sumTo l n = sumL l) := by show _ = _; rw [← sumTo_all, HL.out]
    have hs := sumL_bd hm
    have hs1 : 0 ≤ sumTo l n := by rw [HS.out]; omega
    have hs2 : sumTo l n ≤ 480 := by rw [HS.out]; omega
    go_enter Tryd.func103, Tryd.ntmps103
    go_wp2_with (first | (go_at_call 97; refine (muGood_any _ _ _ _ _ hp).mono ?_; rintro e w' ⟨rfl, hb⟩; have hz : w.heap.size ≤ w'.heap.size := (by have := hb.size; first | omega | (simp at this; omega)); have hB : Below w.heap.size w w' := (by refine Below.trans ?_ (hb.mono (by first | omega | (simp <;> omega))); (first | with_reducible exact Below.refl _ _ | with_reducible assumption | (repeat (with_reducible first | exact Below.refl _ _ | assumption | refine Below.drew ?_ | refine Below.alloc ?_ (by first | omega | (simp <;> omega)) _ | refine Below.setCell ?_ (by first | omega | (simp <;> omega)) _ | refine below_drewN ?_ _)))); have hh := Has.below (by (repeat (with_reducible first | assumption | apply Has.alloc5 | apply Has.alloc2 | apply Has.alloc1 | apply Has.alloc3 | apply Has.drew | apply Has.drewN | apply Has.set_ | apply Has.allocx | exact Has.nil _))) hb; (try simp only [World.size_alloc, World.size_setCell, World.size_drew, World.heap_drewN] at hh); have hq := hh; simp only [Has, upd, World.size_alloc, World.size_setCell, World.size_drew, World.heap_drewN, and_true, true_and, ite_true, ite_false, and_self, Nat.add_right_cancel_iff, Nat.add_eq_left, Nat.left_eq_add, reduceCtorEq, Nat.reduceEqDiff, if_true, if_false] at hq; have hs := hb.size; (try simp only [World.size_alloc, World.size_setCell, World.size_drew, World.heap_drewN] at hs); clear hb) | (go_at_call 100; refine (muCounts_any _ _ _ _ _ (hp.below hB (Nat.le_refl _)) hm).mono ?_; rintro e w' ⟨rfl, hb⟩; have hz : w.heap.size ≤ w'.heap.size := (by have := hb.size; first | omega | (simp at this; omega)); have hB : Below w.heap.size w w' := (by refine Below.trans ?_ (hb.mono (by first | omega | (simp <;> omega))); (first | with_reducible exact Below.refl _ _ | with_reducible assumption | (repeat (with_reducible first | exact Below.refl _ _ | assumption | refine Below.drew ?_ | refine Below.alloc ?_ (by first | omega | (simp <;> omega)) _ | refine Below.setCell ?_ (by first | omega | (simp <;> omega)) _ | refine below_drewN ?_ _)))); have hh := Has.below (by (repeat (with_reducible first | assumption | apply Has.alloc5 | apply Has.alloc2 | apply Has.alloc1 | apply Has.alloc3 | apply Has.drew | apply Has.drewN | apply Has.set_ | apply Has.allocx | exact Has.nil _))) hb; (try simp only [World.size_alloc, World.size_setCell, World.size_drew, World.heap_drewN] at hh); have hq := hh; simp only [Has, upd, World.size_alloc, World.size_setCell, World.size_drew, World.heap_drewN, and_true, true_and, ite_true, ite_false, and_self, Nat.add_right_cancel_iff, Nat.add_eq_left, Nat.left_eq_add, reduceCtorEq, Nat.reduceEqDiff, if_true, if_false] at hq; have hs := hb.size; (try simp only [World.size_alloc, World.size_setCell, World.size_drew, World.heap_drewN] at hs); clear hb) | (go_at_call 67; refine (l1In_any _ _ _ _).mono ?_; rintro e w' ⟨rfl, rfl⟩))
    go_ret
    exact ⟨by simp [hm, ← HS.out], (by (first | with_reducible exact Below.refl _ _ | with_reducible assumption | (repeat (with_reducible first | exact Below.refl _ _ | assumption | refine Below.drew ?_ | refine Below.alloc ?_ (by first | omega | (simp <;> omega)) _ | refine Below.setCell ?_ (by first | omega | (simp <;> omega)) _ | refine below_drewN ?_ _))))⟩
  · go_enter Tryd.func103, Tryd.ntmps103
    go_wp2_with (first | (go_at_call 97; refine (muGood_any _ _ _ _ _ hp).mono ?_; rintro e w' ⟨rfl, hb⟩; have hz : w.heap.size ≤ w'.heap.size := (by have := hb.size; first | omega | (simp at this; omega)); have hB : Below w.heap.size w w' := (by refine Below.trans ?_ (hb.mono (by first | omega | (simp <;> omega))); (first | with_reducible exact Below.refl _ _ | with_reducible assumption | (repeat (with_reducible first | exact Below.refl _ _ | assumption | refine Below.drew ?_ | refine Below.alloc ?_ (by first | omega | (simp <;> omega)) _ | refine Below.setCell ?_ (by first | omega | (simp <;> omega)) _ | refine below_drewN ?_ _)))); have hh := Has.below (by (repeat (with_reducible first | assumption | apply Has.alloc5 | apply Has.alloc2 | apply Has.alloc1 | apply Has.alloc3 | apply Has.drew | apply Has.drewN | apply Has.set_ | apply Has.allocx | exact Has.nil _))) hb; (try simp only [World.size_alloc, World.size_setCell, World.size_drew, World.heap_drewN] at hh); have hq := hh; simp only [Has, upd, World.size_alloc, World.size_setCell, World.size_drew, World.heap_drewN, and_true, true_and, ite_true, ite_false, and_self, Nat.add_right_cancel_iff, Nat.add_eq_left, Nat.left_eq_add, reduceCtorEq, Nat.reduceEqDiff, if_true, if_false] at hq; have hs := hb.size; (try simp only [World.size_alloc, World.size_setCell, World.size_drew, World.heap_drewN] at hs); clear hb))
    go_ret
    exact ⟨by simp [hm], (by (first | with_reducible exact Below.refl _ _ | with_reducible assumption | (repeat (with_reducible first | exact Below.refl _ _ | assumption | refine Below.drew ?_ | refine Below.alloc ?_ (by first | omega | (simp <;> omega)) _ | refine Below.setCell ?_ (by first | omega | (simp <;> omega)) _ | refine below_drewN ?_ _))))⟩

theorem muUpTo_any (A : Option Addr) (n c : Nat) (l : List (Int × Int)) (k : Int) (w : World) (hp : Lst w A n l) :
    Calls Tryd.prog 107 #[.slice A n c, .int .i64 k] w fun e w' => e = .returned (.bool (musB l && inB k 0 (sumL l))) ∧ Below w.heap.size w w' := by
  have HL := Lib.hid hp.1
  rcases tf (musB l) with hm | hm
  · have HS : Hid (sumTo l n = sumL l) := by show _ = _; rw [← sumTo_all, HL.out]
    go_enter Tryd.func107, Tryd.ntmps107
    go_wp2_with (first | (go_at_call 97; refine (muGood_any _ _ _ _ _ hp).mono ?_; rintro e w' ⟨rfl, hb⟩; have hz : w.heap.size ≤ w'.heap.size := (by have := hb.size; first | omega | (simp at this; omega)); have hB : Below w.heap.size w w' := (by refine Below.trans ?_ (hb.mono (by first | omega | (simp <;> omega))); (first | with_reducible exact Below.refl _ _ | with_reducible assumption | (repeat (with_reducible first | exact Below.refl _ _ | assumption | refine Below.drew ?_ | refine Below.alloc ?_ (by first | omega | (simp <;> omega)) _ | refine Below.setCell ?_ (by first | omega | (simp <;> omega)) _ | refine below_drewN ?_ _)))); have hh := Has.below (by (repeat (with_reducible first | assumption | apply Has.alloc5 | apply Has.alloc2 | apply Has.alloc1 | apply Has.alloc3 | apply Has.drew | apply Has.drewN | apply Has.set_ | apply Has.allocx | exact Has.nil _))) hb; (try simp only [World.size_alloc, World.size_setCell, World.size_drew, World.heap_drewN] at hh); have hq := hh; simp only [Has, upd, World.size_alloc, World.size_setCell, World.size_drew, World.heap_drewN, and_true, true_and, ite_true, ite_false, and_self, Nat.add_right_cancel_iff, Nat.add_eq_left, Nat.left_eq_add, reduceCtorEq, Nat.reduceEqDiff, if_true, if_false] at hq; have hs := hb.size; (try simp only [World.size_alloc, World.size_setCell, World.size_drew, World.heap_drewN] at hs); clear hb) | (go_at_call 100; refine (muCounts_any _ _ _ _ _ (hp.below hB (Nat.le_refl _)) hm).mono ?_; rintro e w' ⟨rfl, hb⟩; have hz : w.heap.size ≤ w'.heap.size := (by have := hb.size; first | omega | (simp at this; omega)); have hB : Below w.heap.size w w' := (by refine Below.trans ?_ (hb.mono (by first | omega | (simp <;> omega))); (first | with_reducible exact Below.refl _ _ | with_reducible assumption | (repeat (with_reducible first | exact Below.refl _ _ | assumption | refine Below.drew ?_ | refine Below.alloc ?_ (by first | omega | (simp <;> omega)) _ | refine Below.setCell ?_ (by first | omega | (simp <;> omega)) _ | refine below_drewN ?_ _)))); have hh := Has.below (by (repeat (with_reducible first | assumption | apply Has.alloc5 | apply Has.alloc2 | apply Has.alloc1 | apply Has.alloc3 | apply Has.drew | apply Has.drewN | apply Has.set_ | apply Has.allocx | exact Has.nil _))) hb; (try simp only [World.size_alloc, World.size_setCell, World.size_drew, World.heap_drewN] at hh); have hq := hh; simp only [Has, upd, World.size_alloc, World.size_setCell, World.size_drew, World.heap_drewN, and_true, true_and, ite_true, ite_false, and_self, Nat.add_right_cancel_iff, Nat.add_eq_left, Nat.left_eq_add, reduceCtorEq, Nat.reduceEqDiff, if_true, if_false] at hq; have hs := hb.size; (try simp only [World.size_alloc, World.size_setCell, World.size_drew, World.heap_drewN] at hs); clear hb) | (go_at_call 67; refine (l1In_any _ _ _ _).mono ?_; rintro e w' ⟨rfl, rfl⟩))
    go_ret
    exact ⟨by simp [hm, ← HS.out], (by (first | with_reducible exact Below.refl _ _ | with_reducible assumption | (repeat (with_reducible first | exact Below.refl _ _ | assumption | refine Below.drew ?_ | refine Below.alloc ?_ (by first | omega | (simp <;> omega)) _ | refine Below.setCell ?_ (by first | omega | (simp <;> omega)) _ | refine below_drewN ?_ _))))⟩
  · go_enter Tryd.func107, Tryd.ntmps107
    go_wp2_with (first | (go_at_call 97; refine (muGood_any _ _ _ _ _ hp).mono ?_; rintro e w' ⟨rfl, hb⟩; have hz : w.heap.size ≤ w'.heap.size := (by have := hb.size; first | omega | (simp at this; omega)); have hB : Below w.heap.size w w' := (by refine Below.trans ?_ (hb.mono (by first | omega | (simp <;> omega))); (first | with_reducible exact Below.refl _ _ | with_reducible assumption | (repeat (with_reducible first | exact Below.refl _ _ | assumption | refine Below.drew ?_ | refine Below.alloc ?_ (by first | omega | (simp <;> omega)) _ | refine Below.setCell ?_ (by first | omega | (simp <;> omega)) _ | refine below_drewN ?_ _)))); have hh := Has.below (by (repeat (with_reducible first | assumption | apply Has.alloc5 | apply Has.alloc2 | apply Has.alloc1 | apply Has.alloc3 | apply Has.drew | apply Has.drewN | apply Has.set_ | apply Has.allocx | exact Has.nil _))) hb; (try simp only [World.size_alloc, World.size_setCell, World.size_drew, World.heap_drewN] at hh); have hq := hh; simp only [Has, upd, World.size_alloc, World.size_setCell, World.size_drew, World.heap_drewN, and_true, true_and, ite_true, ite_false, and_self, Nat.add_right_cancel_iff, Nat.add_eq_left, Nat.left_eq_add, reduceCtorEq, Nat.reduceEqDiff, if_true, if_false] at hq; have hs := hb.size; (try simp only [World.size_alloc, World.size_setCell, World.size_drew, World.heap_drewN] at hs); clear hb))
    go_ret
    exact ⟨by simp [hm], (by (first | with_reducible exact Below.refl _ _ | with_reducible assumption | (repeat (with_reducible first | exact Below.refl _ _ | assumption | refine Below.drew ?_ | refine Below.alloc ?_ (by first | omega | (simp <;> omega)) _ | refine Below.setCell ?_ (by first | omega | (simp <;> omega)) _ | refine below_drewN ?_ _))))⟩

set_option maxHeartbeats 2000000 in
theorem muAt_any (A : Option Addr) (n c : Nat) (l : List (Int × Int)) (k0 : Int) (w : World) (hp : Lst w A n l) (hm : musB l = true) (hk0 : 0 ≤ k0) (hk1 : k0 ≤ 1000) (hks : k0 < sumL l) :
    Calls Tryd.prog 104 #[.slice A n c, .int .i64 k0] w fun e w' => e = .returned (.tuple #[.int .i64 ((atL l k0).1 : Int), .int .i64 (atL l k0).2]) ∧ Below w.heap.size w w' := by
  have HL := Lib.hid hp.1
  have hn := hp.2.1
  have hn0 : 0 < n := by have := (musB_len hm).1; have := HL.out; omega
  go_enter Tryd.func104, Tryd.ntmps104
  go_wp2
  go_loopw [1, 6] (fun s1 s7 wr => ∃ (j : Nat) (k : Int), j < n ∧ s1 = .int .i64 k ∧ s7 = .int .i64 j ∧ 0 ≤ k ∧ k ≤ 1000 ∧ Hid (AtEq l k0 k j) ∧ Below w.heap.size w wr) (fun _ v _ => n - (intOf v).toNat)
  case atStart => exact ⟨0, k0, by omega, rfl, rfl, by omega, by omega, Lib.hid ⟨by simp, by simpa using hks⟩, (by (first | with_reducible exact Below.refl _ _ | with_reducible assumption | (repeat (with_reducible first | exact Below.refl _ _ | assumption | refine Below.drew ?_ | refine Below.alloc ?_ (by first | omega | (simp <;> omega)) _ | refine Below.setCell ?_ (by first | omega | (simp <;> omega)) _ | refine below_drewN ?_ _))))⟩
  case round =>
    obtain ⟨j, k, hlt, rfl, rfl, k1, k2, HA, hB⟩ := hrel
    have hpw := hp.below hB (Nat.le_refl _)
    obtain ⟨g, x, y, rfl, hgl, hx, hh⟩ := hpw.has hlt
    have HX := Lib.hid hx
    clear hx hpw
    have hq := hh
    simp only [Has, and_true] at hq
    have hwr := hB.size
    obtain ⟨b1, b2, b3, b4⟩ := (meB_iff _ _).1 (musB_get hm HX.out)
    by_cases hc : x ≤ k
    · have HF := Lib.hid (atEq_step HA.out HX.out hc)
      have hjl : j + 1 < n := by have := atEq_lt HF.out (by omega); have := HL.out; omega
      go_wp2
      go_roundw
      case rel => exact ⟨j + 1, k - x, by omega, rfl, by go_num, by omega, by omega, HF, (by (first | with_reducible exact Below.refl _ _ | with_reducible assumption | (repeat (with_reducible first | exact Below.refl _ _ | assumption | refine Below.drew ?_ | refine Below.alloc ?_ (by first | omega | (simp <;> omega)) _ | refine Below.setCell ?_ (by first | omega | (simp <;> omega)) _ | refine below_drewN ?_ _))))⟩
      case measure => simp [intOf]; omega
    · have HF := Lib.hid (atEq_end HA.out HX.out hc)
      go_wp2
      go_ret2
      exact ⟨by rw [HF.out]; rfl, (by (first | with_reducible exact Below.refl _ _ | with_reducible assumption | (repeat (with_reducible first | exact Below.refl _ _ | assumption | refine Below.drew ?_ | refine Below.alloc ?_ (by first | omega | (simp <;> omega)) _ | refine Below.setCell ?_ (by first | omega | (simp <;> omega)) _ | refine below_drewN ?_ _))))⟩

set_option maxHeartbeats 2000000 in
theorem sMeasureAt_any (A : Option Addr) (n c : Nat) (l : List (Int × Int)) (k0 : Int) (w : World) (hp : Lst w A n l) :
    Calls Tryd.prog 47 #[.slice A n c, .int .i64 k0] w fun e w' => e = .returned (.tuple #[.int .i64 (mMeasureAt l k0).1, .int .i64 (mMeasureAt l k0).2.1, .bool (mMeasureAt l k0).2.2]) ∧ Below w.heap.size w w' := by
  rcases tf (musB l && inB k0 0 (sumL l - 1)) with h | h
  · have h' := h
    rw [Bool.and_eq_true, inB_iff] at h'
    obtain ⟨h1, h2, h3⟩ := h'
    have h4 : inB k0 0 (sumL l - 1) = true := (inB_iff _ _ _).2 ⟨h2, h3⟩
    have hb := sumL_bd h1
    go_enter Tryd.func47, Tryd.ntmps47
    go_wp2_with (first | (go_at_call 103; refine (muHas_any _ _ _ _ _ _ hp).mono ?_; rintro e w' ⟨rfl, hb⟩; have hz : w.heap.size ≤ w'.heap.size := (by have := hb.size; first | omega | (simp at this; omega)); have hB : Below w.heap.size w w' := (by refine Below.trans ?_ (hb.mono (by first | omega | (simp <;> omega))); (first | with_reducible exact Below.refl _ _ | with_reducible assumption | (repeat (with_reducible first | exact Below.refl _ _ | assumption | refine Below.drew ?_ | refine Below.alloc ?_ (by first | omega | (simp <;> omega)) _ | refine Below.setCell ?_ (by first | omega | (simp <;> omega)) _ | refine below_drewN ?_ _)))); have hh := Has.below (by (repeat (with_reducible first | assumption | apply Has.alloc5 | apply Has.alloc2 | apply Has.alloc1 | apply Has.alloc3 | apply Has.drew | apply Has.drewN | apply Has.set_ | apply Has.allocx | exact Has.nil _))) hb; (try simp only [World.size_alloc, World.size_setCell, World.size_drew, World.heap_drewN] at hh); have hq := hh; simp only [Has, upd, World.size_alloc, World.size_setCell, World.size_drew, World.heap_drewN, and_true, true_and, ite_true, ite_false, and_self, Nat.add_right_cancel_iff, Nat.add_eq_left, Nat.left_eq_add, reduceCtorEq, Nat.reduceEqDiff, if_true, if_false] at hq; have hs := hb.size; (try simp only [World.size_alloc, World.size_setCell, World.size_drew, World.heap_drewN] at hs); clear hb) | (go_at_call 104; refine (muAt_any _ _ _ _ _ _ (hp.below hB (Nat.le_refl _)) h1 h2 (by omega) (by omega)).mono ?_; rintro e w' ⟨rfl, hb⟩; have hz : w.heap.size ≤ w'.heap.size := (by have := hb.size; first | omega | (simp at this; omega)); have hB : Below w.heap.size w w' := (by refine Below.trans ?_ (hb.mono (by first | omega | (simp <;> omega))); (first | with_reducible exact Below.refl _ _ | with_reducible assumption | (repeat (with_reducible first | exact Below.refl _ _ | assumption | refine Below.drew ?_ | refine Below.alloc ?_ (by first | omega | (simp <;> omega)) _ | refine Below.setCell ?_ (by first | omega | (simp <;> omega)) _ | refine below_drewN ?_ _)))); have hh := Has.below (by (repeat (with_reducible first | assumption | apply Has.alloc5 | apply Has.alloc2 | apply Has.alloc1 | apply Has.alloc3 | apply Has.drew | apply Has.drewN | apply Has.set_ | apply Has.allocx | exact Has.nil _))) hb; (try simp only [World.size_alloc, World.size_setCell, World.size_drew, World.heap_drewN] at hh); have hq := hh; simp only [Has, upd, World.size_alloc, World.size_setCell, World.size_drew, World.heap_drewN, and_true, true_and, ite_true, ite_false, and_self, Nat.add_right_cancel_iff, Nat.add_eq_left, Nat.left_eq_add, reduceCtorEq, Nat.reduceEqDiff, if_true, if_false] at hq; have hs := hb.size; (try simp only [World.size_alloc, World.size_setCell, World.size_drew, World.heap_drewN] at hs); clear hb))
    go_ret3
    exact ⟨by simp [mMeasureAt, h], (by (first | with_reducible exact Below.refl _ _ | with_reducible assumption | (repeat (with_reducible first | exact Below.refl _ _ | assumption | refine Below.drew ?_ | refine Below.alloc ?_ (by first | omega | (simp <;> omega)) _ | refine Below.setCell ?_ (by first | omega | (simp <;> omega)) _ | refine below_drewN ?_ _))))⟩
  · go_enter Tryd.func47, Tryd.ntmps47
    go_wp2_with (first | (go_at_call 103; refine (muHas_any _ _ _ _ _ _ hp).mono ?_; rintro e w' ⟨rfl, hb⟩; have hz : w.heap.size ≤ w'.heap.size := (by have := hb.size; first | omega | (simp at this; omega)); have hB : Below w.heap.size w w' := (by refine Below.trans ?_ (hb.mono (by first | omega | (simp <;> omega))); (first | with_reducible exact Below.refl _ _ | with_reducible assumption | (repeat (with_reducible first | exact Below.refl _ _ | assumption | refine Below.drew ?_ | refine Below.alloc ?_ (by first | omega | (simp <;> omega)) _ | refine Below.setCell ?_ (by first | omega | (simp <;> omega)) _ | refine below_drewN ?_ _)))); have hh := Has.below (by (repeat (with_reducible first | assumption | apply Has.alloc5 | apply Has.alloc2 | apply Has.alloc1 | apply Has.alloc3 | apply Has.drew | apply Has.drewN | apply Has.set_ | apply Has.allocx | exact Has.nil _))) hb; (try simp only [World.size_alloc, World.size_setCell, World.size_drew, World.heap_drewN] at hh); have hq := hh; simp only [Has, upd, World.size_alloc, World.size_setCell, World.size_drew, World.heap_drewN, and_true, true_and, ite_true, ite_false, and_self, Nat.add_right_cancel_iff, Nat.add_eq_left, Nat.left_eq_add, reduceCtorEq, Nat.reduceEqDiff, if_true, if_false] at hq; have hs := hb.size; (try simp only [World.size_alloc, World.size_setCell, World.size_drew, World.heap_drewN] at hs); clear hb))
    go_ret3
    exact ⟨by simp [mMeasureAt, h], (by (first | with_reducible exact Below.refl _ _ | with_reducible assumption | (repeat (with_reducible first | exact Below.refl _ _ | assumption | refine Below.drew ?_ | refine Below.alloc ?_ (by first | omega | (simp <;> omega)) _ | refine Below.setCell ?_ (by first | omega | (simp <;> omega)) _ | refine below_drewN ?_ _))))⟩

set_option maxHeartbeats 2000000 in
theorem iMeasureAt_any (A : Option Addr) (n c : Nat) (l : List (Int × Int)) (k0 : Int) (w : World) (hp : Lst w A n l) :
    Calls Tryd.prog 46 #[.slice A n c, .int .i64 k0] w fun e w' => e = .returned (.tuple #[.int .i64 (mMeasureAt l k0).1, .int .i64 (mMeasureAt l k0).2.1, .bool (mMeasureAt l k0).2.2]) ∧ Below w.heap.size w w' := by
  have HL := Lib.hid hp.1
  have hn := hp.2.1
  rcases tf (musB l) with hm | hm
  · have HS : Hid (sumTo l n = sumL l) := by show _ = _; rw [← sumTo_all, HL.out]
    have hs := sumL_bd hm
    have hs1 : 0 ≤ sumTo l n := by rw [HS.out]; omega
    have hs2 : sumTo l n ≤ 480 := by rw [HS.out]; omega
    have hn0 : 0 < n := by have := (musB_len hm).1; have := HL.out; omega
    clear hs
    rcases tf (inB k0 0 (sumTo l n - 1)) with h2 | h2
    · obtain ⟨hk0, hk1⟩ := (inB_iff _ _ _).1 h2
      have HM : Hid (mMeasureAt l k0 = (((atL l k0).1 : Int), (atL l k0).2, true)) := by
        have := h2
        rw [HS.out] at this
        show _ = _
        simp [mMeasureAt, hm, this]
      have hks : k0 < sumL l := by rw [← HS.out]; omega
      go_enter Tryd.func46, Tryd.ntmps46
      go_wp2_with (first | (go_at_call 52; refine (iIsMusic_any _ _ _ _ _ hp).mono ?_; rintro e w' ⟨rfl, hb⟩; have hz : w.heap.size ≤ w'.heap.size := (by have := hb.size; first | omega | (simp at this; omega)); have hB : Below w.heap.size w w' := (by refine Below.trans ?_ (hb.mono (by first | omega | (simp <;> omega))); (first | with_reducible exact Below.refl _ _ | with_reducible assumption | (repeat (with_reducible first | exact Below.refl _ _ | assumption | refine Below.drew ?_ | refine Below.alloc ?_ (by first | omega | (simp <;> omega)) _ | refine Below.setCell ?_ (by first | omega | (simp <;> omega)) _ | refine below_drewN ?_ _)))); have hh := Has.below (by (repeat (with_reducible first | assumption | apply Has.alloc5 | apply Has.alloc2 | apply Has.alloc1 | apply Has.alloc3 | apply Has.drew | apply Has.drewN | apply Has.set_ | apply Has.allocx | exact Has.nil _))) hb; (try simp only [World.size_alloc, World.size_setCell, World.size_drew, World.heap_drewN] at hh); have hq := hh; simp only [Has, upd, World.size_alloc, World.size_setCell, World.size_drew, World.heap_drewN, and_true, true_and, ite_true, ite_false, and_self, Nat.add_right_cancel_iff, Nat.add_eq_left, Nat.left_eq_add, reduceCtorEq, Nat.reduceEqDiff, if_true, if_false] at hq; have hs := hb.size; (try simp only [World.size_alloc, World.size_setCell, World.size_drew, World.heap_drewN] at hs); clear hb) | (go_at_call 99; refine (icountsOf_any _ _ _ _ _ (hp.below hB (Nat.le_refl _)) hm).mono ?_; rintro e w' ⟨rfl, hb⟩; have hz : w.heap.size ≤ w'.heap.size := (by have := hb.size; first | omega | (simp at this; omega)); have hB : Below w.heap.size w w' := (by refine Below.trans ?_ (hb.mono (by first | omega | (simp <;> omega))); (first | with_reducible exact Below.refl _ _ | with_reducible assumption | (repeat (with_reducible first | exact Below.refl _ _ | assumption | refine Below.drew ?_ | refine Below.alloc ?_ (by first | omega | (simp <;> omega)) _ | refine Below.setCell ?_ (by first | omega | (simp <;> omega)) _ | refine below_drewN ?_ _)))); have hh := Has.below (by (repeat (with_reducible first | assumption | apply Has.alloc5 | apply Has.alloc2 | apply Has.alloc1 | apply Has.alloc3 | apply Has.drew | apply Has.drewN | apply Has.set_ | apply Has.allocx | exact Has.nil _))) hb; (try simp only [World.size_alloc, World.size_setCell, World.size_drew, World.heap_drewN] at hh); have hq := hh; simp only [Has, upd, World.size_alloc, World.size_setCell, World.size_drew, World.heap_drewN, and_true, true_and, ite_true, ite_false, and_self, Nat.add_right_cancel_iff, Nat.add_eq_left, Nat.left_eq_add, reduceCtorEq, Nat.reduceEqDiff, if_true, if_false] at hq; have hs := hb.size; (try simp only [World.size_alloc, World.size_setCell, World.size_drew, World.heap_drewN] at hs); clear hb) | (go_at_call 60; refine (within_any _ _ _ _).mono ?_; rintro e w' ⟨rfl, rfl⟩))
      go_loopw [1, 7] (fun s1 s7 wr => ∃ (j : Nat) (k : Int), j < n ∧ s1 = .int .i64 k ∧ s7 = .int .i64 j ∧ 0 ≤ k ∧ k ≤ 1000 ∧ Hid (AtEq l k0 k j) ∧ Below w.heap.size w wr) (fun _ v _ => n - (intOf v).toNat)
      case atStart => exact ⟨0, k0, by omega, rfl, rfl, by omega, by omega, Lib.hid ⟨by simp, by simpa using hks⟩, (by (first | with_reducible exact Below.refl _ _ | with_reducible assumption | (repeat (with_reducible first | exact Below.refl _ _ | assumption | refine Below.drew ?_ | refine Below.alloc ?_ (by first | omega | (simp <;> omega)) _ | refine Below.setCell ?_ (by first | omega | (simp <;> omega)) _ | refine below_drewN ?_ _))))⟩
      case round =>
        obtain ⟨j, k, hlt, rfl, rfl, k1, k2, HA, hB⟩ := hrel
        have hpw := hp.below hB (Nat.le_refl _)
        obtain ⟨g, x, y, rfl, hgl, hx, hh⟩ := hpw.has hlt
        have HX := Lib.hid hx
        clear hx hpw
        have hq := hh
        simp only [Has, and_true] at hq
        have hwr := hB.size
        obtain ⟨b1, b2, b3, b4⟩ := (meB_iff _ _).1 (musB_get hm HX.out)
        by_cases hc : x ≤ k
        · have HF := Lib.hid (atEq_step HA.out HX.out hc)
          have hjl : j + 1 < n := by have := atEq_lt HF.out (by omega); have := HL.out; omega
          go_wp2
          go_roundw
          case rel => exact ⟨j + 1, k - x, by omega, rfl, by go_num, by omega, by omega, HF, (by (first | with_reducible exact Below.refl _ _ | with_reducible assumption | (repeat (with_reducible first | exact Below.refl _ _ | assumption | refine Below.drew ?_ | refine Below.alloc ?_ (by first | omega | (simp <;> omega)) _ | refine Below.setCell ?_ (by first | omega | (simp <;> omega)) _ | refine below_drewN ?_ _))))⟩
          case measure => simp [intOf]; omega
        · have HF := Lib.hid (atEq_end HA.out HX.out hc)
          go_wp2
          go_ret3
          exact ⟨by rw [HM.out, HF.out]; rfl, (by (first | with_reducible exact Below.refl _ _ | with_reducible assumption | (repeat (with_reducible first | exact Below.refl _ _ | assumption | refine Below.drew ?_ | refine Below.alloc ?_ (by first | omega | (simp <;> omega)) _ | refine Below.setCell ?_ (by first | omega | (simp <;> omega)) _ | refine below_drewN ?_ _))))⟩

    · go_enter Tryd.func46, Tryd.ntmps46
      go_wp2_with (first | (go_at_call 52; refine (iIsMusic_any _ _ _ _ _ hp).mono ?_; rintro e w' ⟨rfl, hb⟩; have hz : w.heap.size ≤ w'.heap.size := (by have := hb.size; first | omega | (simp at this; omega)); have hB : Below w.heap.size w w' := (by refine Below.trans ?_ (hb.mono (by first | omega | (simp <;> omega))); (first | with_reducible exact Below.refl _ _ | with_reducible assumption | (repeat (with_reducible first | exact Below.refl _ _ | assumption | refine Below.drew ?_ | refine Below.alloc ?_ (by first | omega | (simp <;> omega)) _ | refine Below.setCell ?_ (by first | omega | (simp <;> omega)) _ | refine below_drewN ?_ _)))); have hh := Has.below (by (repeat (with_reducible first | assumption | apply Has.alloc5 | apply Has.alloc2 | apply Has.alloc1 | apply Has.alloc3 | apply Has.drew | apply Has.drewN | apply Has.set_ | apply Has.allocx | exact Has.nil _))) hb; (try simp only [World.size_alloc, World.size_setCell, World.size_drew, World.heap_drewN] at hh); have hq := hh; simp only [Has, upd, World.size_alloc, World.size_setCell, World.size_drew, World.heap_drewN, and_true, true_and, ite_true, ite_false, and_self, Nat.add_right_cancel_iff, Nat.add_eq_left, Nat.left_eq_add, reduceCtorEq, Nat.reduceEqDiff, if_true, if_false] at hq; have hs := hb.size; (try simp only [World.size_alloc, World.size_setCell, World.size_drew, World.heap_drewN] at hs); clear hb) | (go_at_call 99; refine (icountsOf_any _ _ _ _ _ (hp.below hB (Nat.le_refl _)) hm).mono ?_; rintro e w' ⟨rfl, hb⟩; have hz : w.heap.size ≤ w'.heap.size := (by have := hb.size; first | omega | (simp at this; omega)); have hB : Below w.heap.size w w' := (by refine Below.trans ?_ (hb.mono (by first | omega | (simp <;> omega))); (first | with_reducible exact Below.refl _ _ | with_reducible assumption | (repeat (with_reducible first | exact Below.refl _ _ | assumption | refine Below.drew ?_ | refine Below.alloc ?_ (by first | omega | (simp <;> omega)) _ | refine Below.setCell ?_ (by first | omega | (simp <;> omega)) _ | refine below_drewN ?_ _)))); have hh := Has.below (by (repeat (with_reducible first | assumption | apply Has.alloc5 | apply Has.alloc2 | apply Has.alloc1 | apply Has.alloc3 | apply Has.drew | apply Has.drewN | apply Has.set_ | apply Has.allocx | exact Has.nil _))) hb; (try simp only [World.size_alloc, World.size_setCell, World.size_drew, World.heap_drewN] at hh); have hq := hh; simp only [Has, upd, World.size_alloc, World.size_setCell, World.size_drew, World.heap_drewN, and_true, true_and, ite_true, ite_false, and_self, Nat.add_right_cancel_iff, Nat.add_eq_left, Nat.left_eq_add, reduceCtorEq, Nat.reduceEqDiff, if_true, if_false] at hq; have hs := hb.size; (try simp only [World.size_alloc, World.size_setCell, World.size_drew, World.heap_drewN] at hs); clear hb) | (go_at_call 60; refine (within_any _ _ _ _).mono ?_; rintro e w' ⟨rfl, rfl⟩))
      go_ret3
      exact ⟨by rw [HS.out] at h2; simp [mMeasureAt, h2], (by (first | with_reducible exact Below.refl _ _ | with_reducible assumption | (repeat (with_reducible first | exact Below.refl _ _ | assumption | refine Below.drew ?_ | refine Below.alloc ?_ (by first | omega | (simp <;> omega)) _ | refine Below.setCell ?_ (by first | omega | (simp <;> omega)) _ | refine below_drewN ?_ _))))⟩
  · go_enter Tryd.func46, Tryd.ntmps46
    go_wp2_with (first | (go_at_call 52; refine (iIsMusic_any _ _ _ _ _ hp).mono ?_; rintro e w' ⟨rfl, hb⟩; have hz : w.heap.size ≤ w'.heap.size := (by have := hb.size; first | omega | (simp at this; omega)); have hB : Below w.heap.size w w' := (by refine Below.trans ?_ (hb.mono (by first | omega | (simp <;> omega))); (first | with_reducible exact Below.refl _ _ | with_reducible assumption | (repeat (with_reducible first | exact Below.refl _ _ | assumption | refine Below.drew ?_ | refine Below.alloc ?_ (by first | omega | (simp <;> omega)) _ | refine Below.setCell ?_ (by first | omega | (simp <;> omega)) _ | refine below_drewN ?_ _)))); have hh := Has.below (by (repeat (with_reducible first | assumption | apply Has.alloc5 | apply Has.alloc2 | apply Has.alloc1 | apply Has.alloc3 | apply Has.drew | apply Has.drewN | apply Has.set_ | apply Has.allocx | exact Has.nil _))) hb; (try simp only [World.size_alloc, World.size_setCell, World.size_drew, World.heap_drewN] at hh); have hq := hh; simp only [Has, upd, World.size_alloc, World.size_setCell, World.size_drew, World.heap_drewN, and_true, true_and, ite_true, ite_false, and_self, Nat.add_right_cancel_iff, Nat.add_eq_left, Nat.left_eq_add, reduceCtorEq, Nat.reduceEqDiff, if_true, if_false] at hq; have hs := hb.size; (try simp only [World.size_alloc, World.size_setCell, World.size_drew, World.heap_drewN] at hs); clear hb))
    go_ret3
    exact ⟨by simp [mMeasureAt, hm], (by (first | with_reducible exact Below.refl _ _ | with_reducible assumption | (repeat (with_reducible first | exact Below.refl _ _ | assumption | refine Below.drew ?_ | refine Below.alloc ?_ (by first | omega | (simp <;> omega)) _ | refine Below.setCell ?_ (by first | omega | (simp <;> omega)) _ | refine below_drewN ?_ _))))⟩

def mTimeOf (l : List (Int × Int)) (k : Int) : Int × Bool := if musB l && inB k 0 (sumL l) then (timeL l k, true) else (0, false)

set_option maxHeartbeats 2000000 in
theorem sTimeOf_any (A : Option Addr) (n c : Nat) (l : List (Int × Int)) (k0 : Int) (w : World) (hp : Lst w A n l) :
    Calls Tryd.prog 54 #[.slice A n c, .int .i64 k0] w fun e w' => e = .returned (.tuple #[.int .i64 (mTimeOf l k0).1, .bool (mTimeOf l k0).2]) ∧ Below w.heap.size w w' := by
  rcases tf (musB l && inB k0 0 (sumL l)) with h | h
  · have h' := h
    rw [Bool.and_eq_true, inB_iff] at h'
    obtain ⟨h1, h2, h3⟩ := h'
    have h4 : inB k0 0 (sumL l) = true := (inB_iff _ _ _).2 ⟨h2, h3⟩
    have hb := sumL_bd h1
    go_enter Tryd.func54, Tryd.ntmps54
    go_wp2_with (first | (go_at_call 107; refine (muUpTo_any _ _ _ _ _ _ hp).mono ?_; rintro e w' ⟨rfl, hb⟩; have hz : w.heap.size ≤ w'.heap.size := (by have := hb.size; first | omega | (simp at this; omega)); have hB : Below w.heap.size w w' := (by refine Below.trans ?_ (hb.mono (by first | omega | (simp <;> omega))); (first | with_reducible exact Below.refl _ _ | with_reducible assumption | (repeat (with_reducible first | exact Below.refl _ _ | assumption | refine Below.drew ?_ | refine Below.alloc ?_ (by first | omega | (simp <;> omega)) _ | refine Below.setCell ?_ (by first | omega | (simp <;> omega)) _ | refine below_drewN ?_ _)))); have hh := Has.below (by (repeat (with_reducible first | assumption | apply Has.alloc5 | apply Has.alloc2 | apply Has.alloc1 | apply Has.alloc3 | apply Has.drew | apply Has.drewN | apply Has.set_ | apply Has.allocx | exact Has.nil _))) hb; (try simp only [World.size_alloc, World.size_setCell, World.size_drew, World.heap_drewN] at hh); have hq := hh; simp only [Has, upd, World.size_alloc, World.size_setCell, World.size_drew, World.heap_drewN, and_true, true_and, ite_true, ite_false, and_self, Nat.add_right_cancel_iff, Nat.add_eq_left, Nat.left_eq_add, reduceCtorEq, Nat.reduceEqDiff, if_true, if_false] at hq; have hs := hb.size; (try simp only [World.size_alloc, World.size_setCell, World.size_drew, World.heap_drewN] at hs); clear hb) | (go_at_call 108; refine (muTime_any _ _ _ _ _ _ (hp.below hB (Nat.le_refl _)) h1 h2 (by omega)).mono ?_; rintro e w' ⟨rfl, hb⟩; have hz : w.heap.size ≤ w'.heap.size := (by have := hb.size; first | omega | (simp at this; omega)); have hB : Below w.heap.size w w' := (by refine Below.trans ?_ (hb.mono (by first | omega | (simp <;> omega))); (first | with_reducible exact Below.refl _ _ | with_reducible assumption | (repeat (with_reducible first | exact Below.refl _ _ | assumption | refine Below.drew ?_ | refine Below.alloc ?_ (by first | omega | (simp <;> omega)) _ | refine Below.setCell ?_ (by first | omega | (simp <;> omega)) _ | refine below_drewN ?_ _)))); have hh := Has.below (by (repeat (with_reducible first | assumption | apply Has.alloc5 | apply Has.alloc2 | apply Has.alloc1 | apply Has.alloc3 | apply Has.drew | apply Has.drewN | apply Has.set_ | apply Has.allocx | exact Has.nil _))) hb; (try simp only [World.size_alloc, World.size_setCell, World.size_drew, World.heap_drewN] at hh); have hq := hh; simp only [Has, upd, World.size_alloc, World.size_setCell, World.size_drew, World.heap_drewN, and_true, true_and, ite_true, ite_false, and_self, Nat.add_right_cancel_iff, Nat.add_eq_left, Nat.left_eq_add, reduceCtorEq, Nat.reduceEqDiff, if_true, if_false] at hq; have hs := hb.size; (try simp only [World.size_alloc, World.size_setCell, World.size_drew, World.heap_drewN] at hs); clear hb))
    go_ret2
    exact ⟨by simp [mTimeOf, h], (by (first | with_reducible exact Below.refl _ _ | with_reducible assumption | (repeat (with_reducible first | exact Below.refl _ _ | assumption | refine Below.drew ?_ | refine Below.alloc ?_ (by first | omega | (simp <;> omega)) _ | refine Below.setCell ?_ (by first | omega | (simp <;> omega)) _ | refine below_drewN ?_ _))))⟩
  · go_enter Tryd.func54, Tryd.ntmps54
    go_wp2_with (first | (go_at_call 107; refine (muUpTo_any _ _ _ _ _ _ hp).mono ?_; rintro e w' ⟨rfl, hb⟩; have hz : w.heap.size ≤ w'.heap.size := (by have := hb.size; first | omega | (simp at this; omega)); have hB : Below w.heap.size w w' := (by refine Below.trans ?_ (hb.mono (by first | omega | (simp <;> omega))); (first | with_reducible exact Below.refl _ _ | with_reducible assumption | (repeat (with_reducible first | exact Below.refl _ _ | assumption | refine Below.drew ?_ | refine Below.alloc ?_ (by first | omega | (simp <;> omega)) _ | refine Below.setCell ?_ (by first | omega | (simp <;> omega)) _ | refine below_drewN ?_ _)))); have hh := Has.below (by (repeat (with_reducible first | assumption | apply Has.alloc5 | apply Has.alloc2 | apply Has.alloc1 | apply Has.alloc3 | apply Has.drew | apply Has.drewN | apply Has.set_ | apply Has.allocx | exact Has.nil _))) hb; (try simp only [World.size_alloc, World.size_setCell, World.size_drew, World.heap_drewN] at hh); have hq := hh; simp only [Has, upd, World.size_alloc, World.size_setCell, World.size_drew, World.heap_drewN, and_true, true_and, ite_true, ite_false, and_self, Nat.add_right_cancel_iff, Nat.add_eq_left, Nat.left_eq_add, reduceCtorEq, Nat.reduceEqDiff, if_true, if_false] at hq; have hs := hb.size; (try simp only [World.size_alloc, World.size_setCell, World.size_drew, World.heap_drewN] at hs); clear hb))
    go_ret2
    exact ⟨by simp [mTimeOf, h], (by (first | with_reducible exact Below.refl _ _ | with_reducible assumption | (repeat (with_reducible first | exact Below.refl _ _ | assumption | refine Below.drew ?_ | refine Below.alloc ?_ (by first | omega | (simp <;> omega)) _ | refine Below.setCell ?_ (by first | omega | (simp <;> omega)) _ | refine below_drewN ?_ _))))⟩

set_option maxHeartbeats 2000000 in
theorem iTimeOf_any (A : Option Addr) (n c : Nat) (l : List (Int × Int)) (k0 : Int) (w : World) (hp : Lst w A n l) :
    Calls Tryd.prog 53 #[.slice A n c, .int .i64 k0] w fun e w' => e = .returned (.tuple #[.int .i64 (mTimeOf l k0).1, .bool (mTimeOf l k0).2]) ∧ Below w.heap.size w w' := by
  have HL := Lib.hid hp.1
  rcases tf (musB l) with hm | hm
  · have HS : Hid (sumTo l n = sumL l) := by show _ = _; rw [← sumTo_all, HL.out]
    have hs := sumL_bd hm
    have hs2 : sumTo l n ≤ 480 := by rw [HS.out]; omega
    rcases tf (inB k0 0 (sumTo l n)) with h2 | h2
    · obtain ⟨hk0, hk1⟩ := (inB_iff _ _ _).1 h2
      go_enter Tryd.func53, Tryd.ntmps53
      go_wp2_with (first | (go_at_call 52; refine (iIsMusic_any _ _ _ _ _ hp).mono ?_; rintro e w' ⟨rfl, hb⟩; have hz : w.heap.size ≤ w'.heap.size := (by have := hb.size; first | omega | (simp at this; omega)); have hB : Below w.heap.size w w' := (by refine Below.trans ?_ (hb.mono (by first | omega | (simp <;> omega))); (first | with_reducible exact Below.refl _ _ | with_reducible assumption | (repeat (with_reducible first | exact Below.refl _ _ | assumption | refine Below.drew ?_ | refine Below.alloc ?_ (by first | omega | (simp <;> omega)) _ | refine Below.setCell ?_ (by first | omega | (simp <;> omega)) _ | refine below_drewN ?_ _)))); have hh := Has.below (by (repeat (with_reducible first | assumption | apply Has.alloc5 | apply Has.alloc2 | apply Has.alloc1 | apply Has.alloc3 | apply Has.drew | apply Has.drewN | apply Has.set_ | apply Has.allocx | exact Has.nil _))) hb; (try simp only [World.size_alloc, World.size_setCell, World.size_drew, World.heap_drewN] at hh); have hq := hh; simp only [Has, upd, World.size_alloc, World.size_setCell, World.size_drew, World.heap_drewN, and_true, true_and, ite_true, ite_false, and_self, Nat.add_right_cancel_iff, Nat.add_eq_left, Nat.left_eq_add, reduceCtorEq, Nat.reduceEqDiff, if_true, if_false] at hq; have hs := hb.size; (try simp only [World.size_alloc, World.size_setCell, World.size_drew, World.heap_drewN] at hs); clear hb) | (go_at_call 99; refine (icountsOf_any _ _ _ _ _ (hp.below hB (Nat.le_refl _)) hm).mono ?_; rintro e w' ⟨rfl, hb⟩; have hz : w.heap.size ≤ w'.heap.size := (by have := hb.size; first | omega | (simp at this; omega)); have hB : Below w.heap.size w w' := (by refine Below.trans ?_ (hb.mono (by first | omega | (simp <;> omega))); (first | with_reducible exact Below.refl _ _ | with_reducible assumption | (repeat (with_reducible first | exact Below.refl _ _ | assumption | refine Below.drew ?_ | refine Below.alloc ?_ (by first | omega | (simp <;> omega)) _ | refine Below.setCell ?_ (by first | omega | (simp <;> omega)) _ | refine below_drewN ?_ _)))); have hh := Has.below (by (repeat (with_reducible first | assumption | apply Has.alloc5 | apply Has.alloc2 | apply Has.alloc1 | apply Has.alloc3 | apply Has.drew | apply Has.drewN | apply Has.set_ | apply Has.allocx | exact Has.nil _))) hb; (try simp only [World.size_alloc, World.size_setCell, World.size_drew, World.heap_drewN] at hh); have hq := hh; simp only [Has, upd, World.size_alloc, World.size_setCell, World.size_drew, World.heap_drewN, and_true, true_and, ite_true, ite_false, and_self, Nat.add_right_cancel_iff, Nat.add_eq_left, Nat.left_eq_add, reduceCtorEq, Nat.reduceEqDiff, if_true, if_false] at hq; have hs := hb.size; (try simp only [World.size_alloc, World.size_setCell, World.size_drew, World.heap_drewN] at hs); clear hb) | (go_at_call 60; refine (within_any _ _ _ _).mono ?_; rintro e w' ⟨rfl, rfl⟩) | (go_at_call 106; refine (timeOf_any _ _ _ _ _ _ (hp.below hB (Nat.le_refl _)) hm hk0 (by omega)).mono ?_; rintro e w' ⟨rfl, hb⟩; have hz : w.heap.size ≤ w'.heap.size := (by have := hb.size; first | omega | (simp at this; omega)); have hB : Below w.heap.size w w' := (by refine Below.trans ?_ (hb.mono (by first | omega | (simp <;> omega))); (first | with_reducible exact Below.refl _ _ | with_reducible assumption | (repeat (with_reducible first | exact Below.refl _ _ | assumption | refine Below.drew ?_ | refine Below.alloc ?_ (by first | omega | (simp <;> omega)) _ | refine Below.setCell ?_ (by first | omega | (simp <;> omega)) _ | refine below_drewN ?_ _)))); have hh := Has.below (by (repeat (with_reducible first | assumption | apply Has.alloc5 | apply Has.alloc2 | apply Has.alloc1 | apply Has.alloc3 | apply Has.drew | apply Has.drewN | apply Has.set_ | apply Has.allocx | exact Has.nil _))) hb; (try simp only [World.size_alloc, World.size_setCell, World.size_drew, World.heap_drewN] at hh); have hq := hh; simp only [Has, upd, World.size_alloc, World.size_setCell, World.size_drew, World.heap_drewN, and_true, true_and, ite_true, ite_false, and_self, Nat.add_right_cancel_iff, Nat.add_eq_left, Nat.left_eq_add, reduceCtorEq, Nat.reduceEqDiff, if_true, if_false] at hq; have hs := hb.size; (try simp only [World.size_alloc, World.size_setCell, World.size_drew, World.heap_drewN] at hs); clear hb))
      go_ret2
      exact ⟨by rw [HS.out] at h2; simp [mTimeOf, hm, h2], (by (first | with_reducible exact Below.refl _ _ | with_reducible assumption | (repeat (with_reducible first | exact Below.refl _ _ | assumption | refine Below.drew ?_ | refine Below.alloc ?_ (by first | omega | (simp <;> omega)) _ | refine Below.setCell ?_ (by first | omega | (simp <;> omega)) _ | refine below_drewN ?_ _))))⟩
    · go_enter Tryd.func53, Tryd.ntmps53
      go_wp2_with (first | (go_at_call 52; refine (iIsMusic_any _ _ _ _ _ hp).mono ?_; rintro e w' ⟨rfl, hb⟩; have hz : w.heap.size ≤ w'.heap.size := (by have := hb.size; first | omega | (simp at this; omega)); have hB : Below w.heap.size w w' := (by refine Below.trans ?_ (hb.mono (by first | omega | (simp <;> omega))); (first | with_reducible exact Below.refl _ _ | with_reducible assumption | (repeat (with_reducible first | exact Below.refl _ _ | assumption | refine Below.drew ?_ | refine Below.alloc ?_ (by first | omega | (simp <;> omega)) _ | refine Below.setCell ?_ (by first | omega | (simp <;> omega)) _ | refine below_drewN ?_ _)))); have hh := Has.below (by (repeat (with_reducible first | assumption | apply Has.alloc5 | apply Has.alloc2 | apply Has.alloc1 | apply Has.alloc3 | apply Has.drew | apply Has.drewN | apply Has.set_ | apply Has.allocx | exact Has.nil _))) hb; (try simp only [World.size_alloc, World.size_setCell, World.size_drew, World.heap_drewN] at hh); have hq := hh; simp only [Has, upd, World.size_alloc, World.size_setCell, World.size_drew, World.heap_drewN, and_true, true_and, ite_true, ite_false, and_self, Nat.add_right_cancel_iff, Nat.add_eq_left, Nat.left_eq_add, reduceCtorEq, Nat.reduceEqDiff, if_true, if_false] at hq; have hs := hb.size; (try simp only [World.size_alloc, World.size_setCell, World.size_drew, World.heap_drewN] at hs); clear hb) | (go_at_call 99; refine (icountsOf_any _ _ _ _ _ (hp.below hB (Nat.le_refl _)) hm).mono ?_; rintro e w' ⟨rfl, hb⟩; have hz : w.heap.size ≤ w'.heap.size := (by have := hb.size; first | omega | (simp at this; omega)); have hB : Below w.heap.size w w' := (by refine Below.trans ?_ (hb.mono (by first | omega | (simp <;> omega))); (first | with_reducible exact Below.refl _ _ | with_reducible assumption | (repeat (with_reducible first | exact Below.refl _ _ | assumption | refine Below.drew ?_ | refine Below.alloc ?_ (by first | omega | (simp <;> omega)) _ | refine Below.setCell ?_ (by first | omega | (simp <;> omega)) _ | refine below_drewN ?_ _)))); have hh := Has.below (by (repeat (with_reducible first | assumption | apply Has.alloc5 | apply Has.alloc2 | apply Has.alloc1 | apply Has.alloc3 | apply Has.drew | apply Has.drewN | apply Has.set_ | apply Has.allocx | exact Has.nil _))) hb; (try simp only [World.size_alloc, World.size_setCell, World.size_drew, World.heap_drewN] at hh); have hq := hh; simp only [Has, upd, World.size_alloc, World.size_setCell, World.size_drew, World.heap_drewN, and_true, true_and, ite_true, ite_false, and_self, Nat.add_right_cancel_iff, Nat.add_eq_left, Nat.left_eq_add, reduceCtorEq, Nat.reduceEqDiff, if_true, if_false] at hq; have hs := hb.size; (try simp only [World.size_alloc, World.size_setCell, World.size_drew, World.heap_drewN] at hs); clear hb) | (go_at_call 60; refine (within_any _ _ _ _).mono ?_; rintro e w' ⟨rfl, rfl⟩))
      go_ret2
      exact ⟨by rw [HS.out] at h2; simp [mTimeOf, h2], (by (first | with_reducible exact Below.refl _ _ | with_reducible assumption | (repeat (with_reducible first | exact Below.refl _ _ | assumption | refine Below.drew ?_ | refine Below.alloc ?_ (by first | omega | (simp <;> omega)) _ | refine Below.setCell ?_ (by first | omega | (simp <;> omega)) _ | refine below_drewN ?_ _))))⟩
  · go_enter Tryd.func53, Tryd.ntmps53
    go_wp2_with (first | (go_at_call 52; refine (iIsMusic_any _ _ _ _ _ hp).mono ?_; rintro e w' ⟨rfl, hb⟩; have hz : w.heap.size ≤ w'.heap.size := (by have := hb.size; first | omega | (simp at this; omega)); have hB : Below w.heap.size w w' := (by refine Below.trans ?_ (hb.mono (by first | omega | (simp <;> omega))); (first | with_reducible exact Below.refl _ _ | with_reducible assumption | (repeat (with_reducible first | exact Below.refl _ _ | assumption | refine Below.drew ?_ | refine Below.alloc ?_ (by first | omega | (simp <;> omega)) _ | refine Below.setCell ?_ (by first | omega | (simp <;> omega)) _ | refine below_drewN ?_ _)))); have hh := Has.below (by (repeat (with_reducible first | assumption | apply Has.alloc5 | apply Has.alloc2 | apply Has.alloc1 | apply Has.alloc3 | apply Has.drew | apply Has.drewN | apply Has.set_ | apply Has.allocx | exact Has.nil _))) hb; (try simp only [World.size_alloc, World.size_setCell, World.size_drew, World.heap_drewN] at hh); have hq := hh; simp only [Has, upd, World.size_alloc, World.size_setCell, World.size_drew, World.heap_drewN, and_true, true_and, ite_true, ite_false, and_self, Nat.add_right_cancel_iff, Nat.add_eq_left, Nat.left_eq_add, reduceCtorEq, Nat.reduceEqDiff, if_true, if_false] at hq; have hs := hb.size; (try simp only [World.size_alloc, World.size_setCell, World.size_drew, World.heap_drewN] at hs); clear hb))
    go_ret2
    exact ⟨by simp [mTimeOf, hm], (by (first | with_reducible exact Below.refl _ _ | with_reducible assumption | (repeat (with_reducible first | exact Below.refl _ _ | assumption | refine Below.drew ?_ | refine Below.alloc ?_ (by first | omega | (simp <;> omega)) _ | refine Below.setCell ?_ (by first | omega | (simp <;> omega)) _ | refine below_drewN ?_ _))))⟩

end Go.Proofs.YtgpjnffomheemaaDoor

