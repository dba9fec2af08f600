import Derived.Test.YtgpjnffomheemaaDoorLists
import Derived.Test.YtgpjnffomheemaaDoorJ1
/- Contracts of IsMusic, CountsOf and FastestMeasure, of the program and of the reference. -/
namespace Go.Proofs.YtgpjnffomheemaaDoor
open Go.RowKit
set_option linter.unusedVariables false
set_option linter.unusedSimpArgs false
set_option maxRecDepth 100000

def meB (c t : Int) : Bool := inB c 1 12 && inB t 40 220
theorem meB_iff (c t : Int) : meB c t = true ↔ 1 ≤ c ∧ c ≤ 12 ∧ 40 ≤ t ∧ t ≤ 220 := by simp [meB, inB_iff, and_assoc]
def musTo (l : List (Int × Int)) (k : Nat) : Prop := ∀ i x y, i < k → l[i]? = some (x, y) → meB x y = true
def musB (l : List (Int × Int)) : Bool := inB l.length 1 40 && l.all fun p => meB p.1 p.2
theorem musTo_zero (l : List (Int × Int)) : musTo l 0 := fun i x y h => absurd h (by omega)
theorem musTo_step {l : List (Int × Int)} {k : Nat} {x y : Int} (h : musTo l k) (hk : l[k]? = some (x, y)) (hg : meB x y = true) : musTo l (k + 1) := by
  intro i a b hi he
  by_cases hik : i = k
  · subst hik; rw [hk] at he; cases he; exact hg
  · exact h i a b (by omega) he
theorem musB_all {l : List (Int × Int)} (h : musTo l l.length) : musB l = inB l.length 1 40 := by
  have : (l.all fun p => meB p.1 p.2) = true := by
    rw [List.all_eq_true]
    intro p hp
    obtain ⟨i, hi, rfl⟩ := List.getElem_of_mem hp
    exact h i _ _ hi (List.getElem?_eq_getElem hi)
  simp [musB, this]
theorem musB_bad {l : List (Int × Int)} {k : Nat} {x y : Int} (hk : l[k]? = some (x, y)) (hg : meB x y = false) : musB l = false := by
  have : (l.all fun p => meB p.1 p.2) = false := by
    rw [List.all_eq_false]
    exact ⟨(x, y), List.mem_of_getElem? hk, by simp [hg]⟩
  simp [musB, this]
theorem musB_get {l : List (Int × Int)} (h : musB l = true) {k : Nat} {x y : Int} (hk : l[k]? = some (x, y)) : meB x y = true := by
  unfold musB at h
  rw [Bool.and_eq_true, List.all_eq_true] at h
  exact h.2 (x, y) (List.mem_of_getElem? hk)
theorem musB_len {l : List (Int × Int)} (h : musB l = true) : 1 ≤ l.length ∧ l.length ≤ 40 := by
  unfold musB at h
  rw [Bool.and_eq_true, inB_iff] at h
  omega
/-- the sum of the counts of the first k measures -/
def sumTo (l : List (Int × Int)) : Nat → Int
  | 0 => 0
  | k + 1 => sumTo l k + (l.getD k (0, 0)).1
theorem sumTo_step {l : List (Int × Int)} {k : Nat} {x y : Int} (hk : l[k]? = some (x, y)) : sumTo l (k + 1) = sumTo l k + x := by
  simp [sumTo, List.getD, hk]
def mCountsOf (l : List (Int × Int)) : Int × Bool := if musB l then (sumTo l l.length, true) else (0, false)
def fastTo (l : List (Int × Int)) : Nat → Nat
  | 0 => 0
  | k + 1 => if (l.getD (fastTo l k) (0, 0)).2 < (l.getD k (0, 0)).2 then k else fastTo l k
theorem fastTo_yes {p q r s : Int} {l : List (Int × Int)} {k m : Nat} (hm : fastTo l k = m) (hk : l[k]? = some (p, q)) (h2 : l[m]? = some (r, s)) (h : s < q) : fastTo l (k + 1) = k := by
  simp only [fastTo, hm]; simp [List.getD, hk, h2, h]
theorem fastTo_no {p q r s : Int} {l : List (Int × Int)} {k m : Nat} (hm : fastTo l k = m) (hk : l[k]? = some (p, q)) (h2 : l[m]? = some (r, s)) (h : ¬ s < q) : fastTo l (k + 1) = m := by
  simp only [fastTo, hm]; simp [List.getD, hk, h2, h]
def mFastest (l : List (Int × Int)) : Int × Bool := if musB l then ((fastTo l l.length : Int), true) else (0, false)

theorem muMeasure_any (c t : Int) (w : World) :
    Calls Tryd.prog 122 #[.agg #[.int .i64 c, .int .i64 t]] w fun e w' => e = .returned (.bool (meB c t)) ∧ Below w.heap.size w w' := by
  rcases tf (inB c 1 12) with h | h
  all_goals
    go_enter Tryd.func122, Tryd.ntmps122
    go_wp2_with (go_at_call 67; refine (l1In_any _ _ _ _).mono ?_; rintro e w' ⟨rfl, rfl⟩)
    go_ret
    exact ⟨by simp [meB, h], (by (first | with_reducible exact Below.refl _ _ | with_reducible assumption | (repeat (with_reducible first | exact Below.refl _ _ | assumption | refine Below.drew ?_ | refine Below.alloc ?_ (by first | omega | (simp <;> omega)) _ | refine Below.setCell ?_ (by first | omega | (simp <;> omega)) _ | refine below_drewN ?_ _))))⟩

set_option maxHeartbeats 2000000 in
theorem muGood_any (A : Option Addr) (n c : Nat) (l : List (Int × Int)) (w : World) (hp : Lst w A n l) :
    Calls Tryd.prog 97 #[.slice A n c] w fun e w' => e = .returned (.bool (musB l)) ∧ Below w.heap.size w w' := by
  have HL := Lib.hid hp.1
  have hn := hp.2.1
  go_enter Tryd.func97, Tryd.ntmps97
  go_wp2
  go_loopw [7] (fun v wr => ∃ k : Nat, k ≤ n ∧ v = .int .i64 k ∧ Hid (musTo l k) ∧ Below w.heap.size w wr) (fun v _ => n - (intOf v).toNat)
  case atStart => exact ⟨0, by omega, rfl, Lib.hid (musTo_zero l), (by (first | with_reducible exact Below.refl _ _ | with_reducible assumption | (repeat (with_reducible first | exact Below.refl _ _ | assumption | refine Below.drew ?_ | refine Below.alloc ?_ (by first | omega | (simp <;> omega)) _ | refine Below.setCell ?_ (by first | omega | (simp <;> omega)) _ | refine below_drewN ?_ _))))⟩
  case round =>
    obtain ⟨k, hk, rfl, HG, hB⟩ := hrel
    by_cases hlt : k < n
    · have hpw := hp.below hB (Nat.le_refl _)
      obtain ⟨g, x, y, rfl, hgl, hx, hh⟩ := hpw.has hlt
      have HX := Lib.hid hx
      clear hx hpw
      have hq := hh
      simp only [Has, and_true] at hq
      have hne1 : g ≠ wr.heap.size := by omega
      have hne2 : wr.heap.size ≠ g := by omega
      have hwr := hB.size
      rcases tf (meB x y) with h | h
      · go_wp2_with (go_at_call 122; refine (muMeasure_any _ _ _).mono ?_; rintro e w' ⟨rfl, hb⟩; have hz : w.heap.size ≤ w'.heap.size := (by have := hb.size; first | omega | (simp at this; omega)); have hB : Below w.heap.size w w' := (by refine Below.trans ?_ (hb.mono (by first | omega | (simp <;> omega))); (first | with_reducible exact Below.refl _ _ | with_reducible assumption | (repeat (with_reducible first | exact Below.refl _ _ | assumption | refine Below.drew ?_ | refine Below.alloc ?_ (by first | omega | (simp <;> omega)) _ | refine Below.setCell ?_ (by first | omega | (simp <;> omega)) _ | refine below_drewN ?_ _)))); have hh := Has.below (by (repeat (with_reducible first | assumption | apply Has.alloc5 | apply Has.alloc2 | apply Has.alloc1 | apply Has.alloc3 | apply Has.drew | apply Has.drewN | apply Has.set_ | apply Has.allocx | exact Has.nil _))) hb; (try simp only [World.size_alloc, World.size_setCell, World.size_drew, World.heap_drewN] at hh); have hq := hh; simp only [Has, upd, World.size_alloc, World.size_setCell, World.size_drew, World.heap_drewN, and_true, true_and, ite_true, ite_false, and_self, Nat.add_right_cancel_iff, Nat.add_eq_left, Nat.left_eq_add, reduceCtorEq, Nat.reduceEqDiff, if_true, if_false] at hq; have hs := hb.size; (try simp only [World.size_alloc, World.size_setCell, World.size_drew, World.heap_drewN] at hs); clear hb)
        go_roundw
        case rel => exact ⟨k + 1, by omega, by go_num, Lib.hid (musTo_step HG.out HX.out h), (by (first | with_reducible exact Below.refl _ _ | with_reducible assumption | (repeat (with_reducible first | exact Below.refl _ _ | assumption | refine Below.drew ?_ | refine Below.alloc ?_ (by first | omega | (simp <;> omega)) _ | refine Below.setCell ?_ (by first | omega | (simp <;> omega)) _ | refine below_drewN ?_ _))))⟩
        case measure => simp [intOf]; omega
      · go_wp2_with (go_at_call 122; refine (muMeasure_any _ _ _).mono ?_; rintro e w' ⟨rfl, hb⟩; have hz : w.heap.size ≤ w'.heap.size := (by have := hb.size; first | omega | (simp at this; omega)); have hB : Below w.heap.size w w' := (by refine Below.trans ?_ (hb.mono (by first | omega | (simp <;> omega))); (first | with_reducible exact Below.refl _ _ | with_reducible assumption | (repeat (with_reducible first | exact Below.refl _ _ | assumption | refine Below.drew ?_ | refine Below.alloc ?_ (by first | omega | (simp <;> omega)) _ | refine Below.setCell ?_ (by first | omega | (simp <;> omega)) _ | refine below_drewN ?_ _)))); have hh := Has.below (by (repeat (with_reducible first | assumption | apply Has.alloc5 | apply Has.alloc2 | apply Has.alloc1 | apply Has.alloc3 | apply Has.drew | apply Has.drewN | apply Has.set_ | apply Has.allocx | exact Has.nil _))) hb; (try simp only [World.size_alloc, World.size_setCell, World.size_drew, World.heap_drewN] at hh); have hq := hh; simp only [Has, upd, World.size_alloc, World.size_setCell, World.size_drew, World.heap_drewN, and_true, true_and, ite_true, ite_false, and_self, Nat.add_right_cancel_iff, Nat.add_eq_left, Nat.left_eq_add, reduceCtorEq, Nat.reduceEqDiff, if_true, if_false] at hq; have hs := hb.size; (try simp only [World.size_alloc, World.size_setCell, World.size_drew, World.heap_drewN] at hs); clear hb)
        go_ret
        exact ⟨by rw [musB_bad HX.out h]; rfl, (by (first | with_reducible exact Below.refl _ _ | with_reducible assumption | (repeat (with_reducible first | exact Below.refl _ _ | assumption | refine Below.drew ?_ | refine Below.alloc ?_ (by first | omega | (simp <;> omega)) _ | refine Below.setCell ?_ (by first | omega | (simp <;> omega)) _ | refine below_drewN ?_ _))))⟩
    · obtain rfl : k = n := by omega
      go_wp2_with (go_at_call 67; refine (l1In_any _ _ _ _).mono ?_; rintro e w' ⟨rfl, rfl⟩)
      go_ret
      exact ⟨by rw [musB_all (by rw [HL.out]; exact HG.out), HL.out]; rfl, (by (first | with_reducible exact Below.refl _ _ | with_reducible assumption | (repeat (with_reducible first | exact Below.refl _ _ | assumption | refine Below.drew ?_ | refine Below.alloc ?_ (by first | omega | (simp <;> omega)) _ | refine Below.setCell ?_ (by first | omega | (simp <;> omega)) _ | refine below_drewN ?_ _))))⟩

set_option maxHeartbeats 2000000 in
theorem iIsMusic_any (A : Option Addr) (n c : Nat) (l : List (Int × Int)) (w : World) (hp : Lst w A n l) :
    Calls Tryd.prog 52 #[.slice A n c] w fun e w' => e = .returned (.bool (musB l)) ∧ Below w.heap.size w w' := by
  have HL := Lib.hid hp.1
  have hn := hp.2.1
  go_enter Tryd.func52, Tryd.ntmps52
  go_wp2
  go_loopw [7] (fun v wr => ∃ k : Nat, k ≤ n ∧ v = .int .i64 k ∧ Hid (musTo l k) ∧ Below w.heap.size w wr) (fun v _ => n - (intOf v).toNat)
  case atStart => exact ⟨0, by omega, rfl, Lib.hid (musTo_zero l), (by (first | with_reducible exact Below.refl _ _ | with_reducible assumption | (repeat (with_reducible first | exact Below.refl _ _ | assumption | refine Below.drew ?_ | refine Below.alloc ?_ (by first | omega | (simp <;> omega)) _ | refine Below.setCell ?_ (by first | omega | (simp <;> omega)) _ | refine below_drewN ?_ _))))⟩
  case round =>
    obtain ⟨k, hk, rfl, HG, hB⟩ := hrel
    by_cases hlt : k < n
    · have hpw := hp.below hB (Nat.le_refl _)
      obtain ⟨g, x, y, rfl, hgl, hx, hh⟩ := hpw.has hlt
      have HX := Lib.hid hx
      clear hx hpw
      have hq := hh
      simp only [Has, and_true] at hq
      have hne1 : g ≠ wr.heap.size := by omega
      have hne2 : wr.heap.size ≠ g := by omega
      have hwr := hB.size
      rcases tf (inB x 1 12) with h1 | h1
      · rcases tf (inB y 40 220) with h2 | h2
        · have h : meB x y = true := by simp [meB, h1, h2]
          have H := Lib.hid h
          clear h
          go_wp2_with (go_at_call 60; refine (within_any _ _ _ _).mono ?_; rintro e w' ⟨rfl, rfl⟩)
          go_roundw
          case rel => exact ⟨k + 1, by omega, by go_num, Lib.hid (musTo_step HG.out HX.out H.out), (by (first | with_reducible exact Below.refl _ _ | with_reducible assumption | (repeat (with_reducible first | exact Below.refl _ _ | assumption | refine Below.drew ?_ | refine Below.alloc ?_ (by first | omega | (simp <;> omega)) _ | refine Below.setCell ?_ (by first | omega | (simp <;> omega)) _ | refine below_drewN ?_ _))))⟩
          case measure => simp [intOf]; omega
        · have h : meB x y = false := by simp [meB, h2]
          have H := Lib.hid h
          clear h
          go_wp2_with (go_at_call 60; refine (within_any _ _ _ _).mono ?_; rintro e w' ⟨rfl, rfl⟩)
          go_ret
          exact ⟨by rw [musB_bad HX.out H.out]; rfl, (by (first | with_reducible exact Below.refl _ _ | with_reducible assumption | (repeat (with_reducible first | exact Below.refl _ _ | assumption | refine Below.drew ?_ | refine Below.alloc ?_ (by first | omega | (simp <;> omega)) _ | refine Below.setCell ?_ (by first | omega | (simp <;> omega)) _ | refine below_drewN ?_ _))))⟩
      · have h : meB x y = false := by simp [meB, h1]
        have H := Lib.hid h
        clear h
        go_wp2_with (go_at_call 60; refine (within_any _ _ _ _).mono ?_; rintro e w' ⟨rfl, rfl⟩)
        go_ret
        exact ⟨by rw [musB_bad HX.out H.out]; rfl, (by (first | with_reducible exact Below.refl _ _ | with_reducible assumption | (repeat (with_reducible first | exact Below.refl _ _ | assumption | refine Below.drew ?_ | refine Below.alloc ?_ (by first | omega | (simp <;> omega)) _ | refine Below.setCell ?_ (by first | omega | (simp <;> omega)) _ | refine below_drewN ?_ _))))⟩
    · obtain rfl : k = n := by omega
      go_wp2_with (go_at_call 60; refine (within_any _ _ _ _).mono ?_; rintro e w' ⟨rfl, rfl⟩)
      go_ret
      exact ⟨by rw [musB_all (by rw [HL.out]; exact HG.out), HL.out]; rfl, (by (first | with_reducible exact Below.refl _ _ | with_reducible assumption | (repeat (with_reducible first | exact Below.refl _ _ | assumption | refine Below.drew ?_ | refine Below.alloc ?_ (by first | omega | (simp <;> omega)) _ | refine Below.setCell ?_ (by first | omega | (simp <;> omega)) _ | refine below_drewN ?_ _))))⟩

set_option maxHeartbeats 2000000 in
theorem icountsOf_any (A : Option Addr) (n c : Nat) (l : List (Int × Int)) (w : World) (hp : Lst w A n l) (hm : musB l = true) :
    Calls Tryd.prog 99 #[.slice A n c] w fun e w' => e = .returned (.int .i64 (sumTo l n)) ∧ Below w.heap.size w w' := by
  have HL := Lib.hid hp.1
  have hn := hp.2.1
  have hn40 : n ≤ 40 := by have := (musB_len hm).2; have := HL.out; omega
  go_enter Tryd.func99, Tryd.ntmps99
  go_wp2
  go_loopw [3, 8] (fun s v wr => ∃ (k : Nat) (t : Int), k ≤ n ∧ s = .int .i64 t ∧ v = .int .i64 k ∧ 0 ≤ t ∧ t ≤ 12 * k ∧ Hid (sumTo l k = t) ∧ Below w.heap.size w wr) (fun _ v _ => n - (intOf v).toNat)
  case atStart => exact ⟨0, 0, by omega, rfl, rfl, by omega, by omega, Lib.hid rfl, (by (first | with_reducible exact Below.refl _ _ | with_reducible assumption | (repeat (with_reducible first | exact Below.refl _ _ | assumption | refine Below.drew ?_ | refine Below.alloc ?_ (by first | omega | (simp <;> omega)) _ | refine Below.setCell ?_ (by first | omega | (simp <;> omega)) _ | refine below_drewN ?_ _))))⟩
  case round =>
    obtain ⟨k, t, hk, rfl, rfl, ht1, ht2, HT, hB⟩ := hrel
    by_cases hlt : k < n
    · have hpw := hp.below hB (Nat.le_refl _)
      obtain ⟨g, x, y, rfl, hgl, hx, hh⟩ := hpw.has hlt
      have HX := Lib.hid hx
      clear hx hpw
      have hq := hh
      simp only [Has, and_true] at hq
      have hne1 : g ≠ wr.heap.size := by omega
      have hne2 : wr.heap.size ≠ g := by omega
      have hwr := hB.size
      obtain ⟨b1, b2, b3, b4⟩ := (meB_iff _ _).1 (musB_get hm HX.out)
      go_wp2
      go_roundw
      case rel => exact ⟨k + 1, t + x, by omega, rfl, by go_num, by omega, by omega, Lib.hid (by rw [sumTo_step HX.out, HT.out]), (by (first | with_reducible exact Below.refl _ _ | with_reducible assumption | (repeat (with_reducible first | exact Below.refl _ _ | assumption | refine Below.drew ?_ | refine Below.alloc ?_ (by first | omega | (simp <;> omega)) _ | refine Below.setCell ?_ (by first | omega | (simp <;> omega)) _ | refine below_drewN ?_ _))))⟩
      case measure => simp [intOf]; omega
    · obtain rfl : k = n := by omega
      go_wp2
      go_ret
      exact ⟨by rw [HT.out]; rfl, (by (first | with_reducible exact Below.refl _ _ | with_reducible assumption | (repeat (with_reducible first | exact Below.refl _ _ | assumption | refine Below.drew ?_ | refine Below.alloc ?_ (by first | omega | (simp <;> omega)) _ | refine Below.setCell ?_ (by first | omega | (simp <;> omega)) _ | refine below_drewN ?_ _))))⟩

set_option maxHeartbeats 2000000 in
theorem muCounts_any (A : Option Addr) (n c : Nat) (l : List (Int × Int)) (w : World) (hp : Lst w A n l) (hm : musB l = true) :
    Calls Tryd.prog 100 #[.slice A n c] w fun e w' => e = .returned (.int .i64 (sumTo l n)) ∧ Below w.heap.size w w' := by
  have HL := Lib.hid hp.1
  have hn := hp.2.1
  have hn40 : n ≤ 40 := by have := (musB_len hm).2; have := HL.out; omega
  go_enter Tryd.func100, Tryd.ntmps100
  go_wp2
  go_loopw [3, 8] (fun s v wr => ∃ (k : Nat) (t : Int), k ≤ n ∧ s = .int .i64 t ∧ v = .int .i64 k ∧ 0 ≤ t ∧ t ≤ 12 * k ∧ Hid (sumTo l k = t) ∧ Below w.heap.size w wr) (fun _ v _ => n - (intOf v).toNat)
  case atStart => exact ⟨0, 0, by omega, rfl, rfl, by omega, by omega, Lib.hid rfl, (by (first | with_reducible exact Below.refl _ _ | with_reducible assumption | (repeat (with_reducible first | exact Below.refl _ _ | assumption | refine Below.drew ?_ | refine Below.alloc ?_ (by first | omega | (simp <;> omega)) _ | refine Below.setCell ?_ (by first | omega | (simp <;> omega)) _ | refine below_drewN ?_ _))))⟩
  case round =>
    obtain ⟨k, t, hk, rfl, rfl, ht1, ht2, HT, hB⟩ := hrel
    by_cases hlt : k < n
    · have hpw := hp.below hB (Nat.le_refl _)
      obtain ⟨g, x, y, rfl, hgl, hx, hh⟩ := hpw.has hlt
      have HX := Lib.hid hx
      clear hx hpw
      have hq := hh
      simp only [Has, and_true] at hq
      have hne1 : g ≠ wr.heap.size := by omega
      have hne2 : wr.heap.size ≠ g := by omega
      have hwr := hB.size
      obtain ⟨b1, b2, b3, b4⟩ := (meB_iff _ _).1 (musB_get hm HX.out)
      go_wp2
      go_roundw
      case rel => exact ⟨k + 1, t + x, by omega, rfl, by go_num, by omega, by omega, Lib.hid (by rw [sumTo_step HX.out, HT.out]), (by (first | with_reducible exact Below.refl _ _ | with_reducible assumption | (repeat (with_reducible first | exact Below.refl _ _ | assumption | refine Below.drew ?_ | refine Below.alloc ?_ (by first | omega | (simp <;> omega)) _ | refine Below.setCell ?_ (by first | omega | (simp <;> omega)) _ | refine below_drewN ?_ _))))⟩
      case measure => simp [intOf]; omega
    · obtain rfl : k = n := by omega
      go_wp2
      go_ret
      exact ⟨by rw [HT.out]; rfl, (by (first | with_reducible exact Below.refl _ _ | with_reducible assumption | (repeat (with_reducible first | exact Below.refl _ _ | assumption | refine Below.drew ?_ | refine Below.alloc ?_ (by first | omega | (simp <;> omega)) _ | refine Below.setCell ?_ (by first | omega | (simp <;> omega)) _ | refine below_drewN ?_ _))))⟩

theorem iCountsOf_any (A : Option Addr) (n c : Nat) (l : List (Int × Int)) (w : World) (hp : Lst w A n l) :
    Calls Tryd.prog 41 #[.slice A n c] w fun e w' => e = .returned (.tuple #[.int .i64 (mCountsOf l).1, .bool (mCountsOf l).2]) ∧ Below w.heap.size w w' := by
  have HL := Lib.hid hp.1
  rcases tf (musB l) with h | h
  · go_enter Tryd.func41, Tryd.ntmps41
    go_wp2_with (first | (go_at_call 52; refine (iIsMusic_any _ _ _ _ _ hp).mono ?_; rintro e w' ⟨rfl, hb⟩; have hz : w.heap.size ≤ w'.heap.size := (by have := hb.size; first | omega | (simp at this; omega)); have hB : Below w.heap.size w w' := (by refine Below.trans ?_ (hb.mono (by first | omega | (simp <;> omega))); (first | with_reducible exact Below.refl _ _ | with_reducible assumption | (repeat (with_reducible first | exact Below.refl _ _ | assumption | refine Below.drew ?_ | refine Below.alloc ?_ (by first | omega | (simp <;> omega)) _ | refine Below.setCell ?_ (by first | omega | (simp <;> omega)) _ | refine below_drewN ?_ _)))); have hh := Has.below (by (repeat (with_reducible first | assumption | apply Has.alloc5 | apply Has.alloc2 | apply Has.alloc1 | apply Has.alloc3 | apply Has.drew | apply Has.drewN | apply Has.set_ | apply Has.allocx | exact Has.nil _))) hb; (try simp only [World.size_alloc, World.size_setCell, World.size_drew, World.heap_drewN] at hh); have hq := hh; simp only [Has, upd, World.size_alloc, World.size_setCell, World.size_drew, World.heap_drewN, and_true, true_and, ite_true, ite_false, and_self, Nat.add_right_cancel_iff, Nat.add_eq_left, Nat.left_eq_add, reduceCtorEq, Nat.reduceEqDiff, if_true, if_false] at hq; have hs := hb.size; (try simp only [World.size_alloc, World.size_setCell, World.size_drew, World.heap_drewN] at hs); clear hb) | (go_at_call 99; refine (icountsOf_any _ _ _ _ _ (hp.below hB (Nat.le_refl _)) h).mono ?_; rintro e w' ⟨rfl, hb⟩; have hz : w.heap.size ≤ w'.heap.size := (by have := hb.size; first | omega | (simp at this; omega)); have hB : Below w.heap.size w w' := (by refine Below.trans ?_ (hb.mono (by first | omega | (simp <;> omega))); (first | with_reducible exact Below.refl _ _ | with_reducible assumption | (repeat (with_reducible first | exact Below.refl _ _ | assumption | refine Below.drew ?_ | refine Below.alloc ?_ (by first | omega | (simp <;> omega)) _ | refine Below.setCell ?_ (by first | omega | (simp <;> omega)) _ | refine below_drewN ?_ _)))); have hh := Has.below (by (repeat (with_reducible first | assumption | apply Has.alloc5 | apply Has.alloc2 | apply Has.alloc1 | apply Has.alloc3 | apply Has.drew | apply Has.drewN | apply Has.set_ | apply Has.allocx | exact Has.nil _))) hb; (try simp only [World.size_alloc, World.size_setCell, World.size_drew, World.heap_drewN] at hh); have hq := hh; simp only [Has, upd, World.size_alloc, World.size_setCell, World.size_drew, World.heap_drewN, and_true, true_and, ite_true, ite_false, and_self, Nat.add_right_cancel_iff, Nat.add_eq_left, Nat.left_eq_add, reduceCtorEq, Nat.reduceEqDiff, if_true, if_false] at hq; have hs := hb.size; (try simp only [World.size_alloc, World.size_setCell, World.size_drew, World.heap_drewN] at hs); clear hb))
    go_ret2
    exact ⟨by simp [mCountsOf, h, HL.out], (by (first | with_reducible exact Below.refl _ _ | with_reducible assumption | (repeat (with_reducible first | exact Below.refl _ _ | assumption | refine Below.drew ?_ | refine Below.alloc ?_ (by first | omega | (simp <;> omega)) _ | refine Below.setCell ?_ (by first | omega | (simp <;> omega)) _ | refine below_drewN ?_ _))))⟩
  · go_enter Tryd.func41, Tryd.ntmps41
    go_wp2_with (first | (go_at_call 52; refine (iIsMusic_any _ _ _ _ _ hp).mono ?_; rintro e w' ⟨rfl, hb⟩; have hz : w.heap.size ≤ w'.heap.size := (by have := hb.size; first | omega | (simp at this; omega)); have hB : Below w.heap.size w w' := (by refine Below.trans ?_ (hb.mono (by first | omega | (simp <;> omega))); (first | with_reducible exact Below.refl _ _ | with_reducible assumption | (repeat (with_reducible first | exact Below.refl _ _ | assumption | refine Below.drew ?_ | refine Below.alloc ?_ (by first | omega | (simp <;> omega)) _ | refine Below.setCell ?_ (by first | omega | (simp <;> omega)) _ | refine below_drewN ?_ _)))); have hh := Has.below (by (repeat (with_reducible first | assumption | apply Has.alloc5 | apply Has.alloc2 | apply Has.alloc1 | apply Has.alloc3 | apply Has.drew | apply Has.drewN | apply Has.set_ | apply Has.allocx | exact Has.nil _))) hb; (try simp only [World.size_alloc, World.size_setCell, World.size_drew, World.heap_drewN] at hh); have hq := hh; simp only [Has, upd, World.size_alloc, World.size_setCell, World.size_drew, World.heap_drewN, and_true, true_and, ite_true, ite_false, and_self, Nat.add_right_cancel_iff, Nat.add_eq_left, Nat.left_eq_add, reduceCtorEq, Nat.reduceEqDiff, if_true, if_false] at hq; have hs := hb.size; (try simp only [World.size_alloc, World.size_setCell, World.size_drew, World.heap_drewN] at hs); clear hb))
    go_ret2
    exact ⟨by simp [mCountsOf, h], (by (first | with_reducible exact Below.refl _ _ | with_reducible assumption | (repeat (with_reducible first | exact Below.refl _ _ | assumption | refine Below.drew ?_ | refine Below.alloc ?_ (by first | omega | (simp <;> omega)) _ | refine Below.setCell ?_ (by first | omega | (simp <;> omega)) _ | refine below_drewN ?_ _))))⟩

theorem sCountsOf_any (A : Option Addr) (n c : Nat) (l : List (Int × Int)) (w : World) (hp : Lst w A n l) :
    Calls Tryd.prog 42 #[.slice A n c] w fun e w' => e = .returned (.tuple #[.int .i64 (mCountsOf l).1, .bool (mCountsOf l).2]) ∧ Below w.heap.size w w' := by
  have HL := Lib.hid hp.1
  rcases tf (musB l) with h | h
  · go_enter Tryd.func42, Tryd.ntmps42
    go_wp2_with (first | (go_at_call 97; refine (muGood_any _ _ _ _ _ hp).mono ?_; rintro e w' ⟨rfl, hb⟩; have hz : w.heap.size ≤ w'.heap.size := (by have := hb.size; first | omega | (simp at this; omega)); have hB : Below w.heap.size w w' := (by refine Below.trans ?_ (hb.mono (by first | omega | (simp <;> omega))); (first | with_reducible exact Below.refl _ _ | with_reducible assumption | (repeat (with_reducible first | exact Below.refl _ _ | assumption | refine Below.drew ?_ | refine Below.alloc ?_ (by first | omega | (simp <;> omega)) _ | refine Below.setCell ?_ (by first | omega | (simp <;> omega)) _ | refine below_drewN ?_ _)))); have hh := Has.below (by (repeat (with_reducible first | assumption | apply Has.alloc5 | apply Has.alloc2 | apply Has.alloc1 | apply Has.alloc3 | apply Has.drew | apply Has.drewN | apply Has.set_ | apply Has.allocx | exact Has.nil _))) hb; (try simp only [World.size_alloc, World.size_setCell, World.size_drew, World.heap_drewN] at hh); have hq := hh; simp only [Has, upd, World.size_alloc, World.size_setCell, World.size_drew, World.heap_drewN, and_true, true_and, ite_true, ite_false, and_self, Nat.add_right_cancel_iff, Nat.add_eq_left, Nat.left_eq_add, reduceCtorEq, Nat.reduceEqDiff, if_true, if_false] at hq; have hs := hb.size; (try simp only [World.size_alloc, World.size_setCell, World.size_drew, World.heap_drewN] at hs); clear hb) | (go_at_call 100; refine (muCounts_any _ _ _ _ _ (hp.below hB (Nat.le_refl _)) h).mono ?_; rintro e w' ⟨rfl, hb⟩; have hz : w.heap.size ≤ w'.heap.size := (by have := hb.size; first | omega | (simp at this; omega)); have hB : Below w.heap.size w w' := (by refine Below.trans ?_ (hb.mono (by first | omega | (simp <;> omega))); (first | with_reducible exact Below.refl _ _ | with_reducible assumption | (repeat (with_reducible first | exact Below.refl _ _ | assumption | refine Below.drew ?_ | refine Below.alloc ?_ (by first | omega | (simp <;> omega)) _ | refine Below.setCell ?_ (by first | omega | (simp <;> omega)) _ | refine below_drewN ?_ _)))); have hh := Has.below (by (repeat (with_reducible first | assumption | apply Has.alloc5 | apply Has.alloc2 | apply Has.alloc1 | apply Has.alloc3 | apply Has.drew | apply Has.drewN | apply Has.set_ | apply Has.allocx | exact Has.nil _))) hb; (try simp only [World.size_alloc, World.size_setCell, World.size_drew, World.heap_drewN] at hh); have hq := hh; simp only [Has, upd, World.size_alloc, World.size_setCell, World.size_drew, World.heap_drewN, and_true, true_and, ite_true, ite_false, and_self, Nat.add_right_cancel_iff, Nat.add_eq_left, Nat.left_eq_add, reduceCtorEq, Nat.reduceEqDiff, if_true, if_false] at hq; have hs := hb.size; (try simp only [World.size_alloc, World.size_setCell, World.size_drew, World.heap_drewN] at hs); clear hb))
    go_ret2
    exact ⟨by simp [mCountsOf, h, HL.out], (by (first | with_reducible exact Below.refl _ _ | with_reducible assumption | (repeat (with_reducible first | exact Below.refl _ _ | assumption | refine Below.drew ?_ | refine Below.alloc ?_ (by first | omega | (simp <;> omega)) _ | refine Below.setCell ?_ (by first | omega | (simp <;> omega)) _ | refine below_drewN ?_ _))))⟩
  · go_enter Tryd.func42, Tryd.ntmps42
    go_wp2_with (first | (go_at_call 97; refine (muGood_any _ _ _ _ _ hp).mono ?_; rintro e w' ⟨rfl, hb⟩; have hz : w.heap.size ≤ w'.heap.size := (by have := hb.size; first | omega | (simp at this; omega)); have hB : Below w.heap.size w w' := (by refine Below.trans ?_ (hb.mono (by first | omega | (simp <;> omega))); (first | with_reducible exact Below.refl _ _ | with_reducible assumption | (repeat (with_reducible first | exact Below.refl _ _ | assumption | refine Below.drew ?_ | refine Below.alloc ?_ (by first | omega | (simp <;> omega)) _ | refine Below.setCell ?_ (by first | omega | (simp <;> omega)) _ | refine below_drewN ?_ _)))); have hh := Has.below (by (repeat (with_reducible first | assumption | apply Has.alloc5 | apply Has.alloc2 | apply Has.alloc1 | apply Has.alloc3 | apply Has.drew | apply Has.drewN | apply Has.set_ | apply Has.allocx | exact Has.nil _))) hb; (try simp only [World.size_alloc, World.size_setCell, World.size_drew, World.heap_drewN] at hh); have hq := hh; simp only [Has, upd, World.size_alloc, World.size_setCell, World.size_drew, World.heap_drewN, and_true, true_and, ite_true, ite_false, and_self, Nat.add_right_cancel_iff, Nat.add_eq_left, Nat.left_eq_add, reduceCtorEq, Nat.reduceEqDiff, if_true, if_false] at hq; have hs := hb.size; (try simp only [World.size_alloc, World.size_setCell, World.size_drew, World.heap_drewN] at hs); clear hb))
    go_ret2
    exact ⟨by simp [mCountsOf, h], (by (first | with_reducible exact Below.refl _ _ | with_reducible assumption | (repeat (with_reducible first | exact Below.refl _ _ | assumption | refine Below.drew ?_ | refine Below.alloc ?_ (by first | omega | (simp <;> omega)) _ | refine Below.setCell ?_ (by first | omega | (simp <;> omega)) _ | refine below_drewN ?_ _))))⟩

set_option maxHeartbeats 2000000 in
theorem iFastest_any (A : Option Addr) (n c : Nat) (l : List (Int × Int)) (w : World) (hp : Lst w A n l) :
    Calls Tryd.prog 43 #[.slice A n c] w fun e w' => e = .returned (.tuple #[.int .i64 (mFastest l).1, .bool (mFastest l).2]) ∧ Below w.heap.size w w' := by
  have HL := Lib.hid hp.1
  have hn := hp.2.1
  rcases tf (musB l) with h | h
  · have h3 : 0 < n := by have := (musB_len h).1; have := HL.out; omega
    have HM : Hid (mFastest l = ((fastTo l n : Int), true)) := by
      show _ = _
      have := HL.out
      simp [mFastest, h, this]
    go_enter Tryd.func43, Tryd.ntmps43
    go_wp2_with (first | (go_at_call 52; refine (iIsMusic_any _ _ _ _ _ hp).mono ?_; rintro e w' ⟨rfl, hb⟩; have hz : w.heap.size ≤ w'.heap.size := (by have := hb.size; first | omega | (simp at this; omega)); have hB : Below w.heap.size w w' := (by refine Below.trans ?_ (hb.mono (by first | omega | (simp <;> omega))); (first | with_reducible exact Below.refl _ _ | with_reducible assumption | (repeat (with_reducible first | exact Below.refl _ _ | assumption | refine Below.drew ?_ | refine Below.alloc ?_ (by first | omega | (simp <;> omega)) _ | refine Below.setCell ?_ (by first | omega | (simp <;> omega)) _ | refine below_drewN ?_ _)))); have hh := Has.below (by (repeat (with_reducible first | assumption | apply Has.alloc5 | apply Has.alloc2 | apply Has.alloc1 | apply Has.alloc3 | apply Has.drew | apply Has.drewN | apply Has.set_ | apply Has.allocx | exact Has.nil _))) hb; (try simp only [World.size_alloc, World.size_setCell, World.size_drew, World.heap_drewN] at hh); have hq := hh; simp only [Has, upd, World.size_alloc, World.size_setCell, World.size_drew, World.heap_drewN, and_true, true_and, ite_true, ite_false, and_self, Nat.add_right_cancel_iff, Nat.add_eq_left, Nat.left_eq_add, reduceCtorEq, Nat.reduceEqDiff, if_true, if_false] at hq; have hs := hb.size; (try simp only [World.size_alloc, World.size_setCell, World.size_drew, World.heap_drewN] at hs); clear hb))
    go_loopw [4, 12] (fun s6 s24 wr => ∃ k m : Nat, k ≤ n ∧ m < n ∧ s6 = .int .i64 m ∧ s24 = .int .i64 k ∧ Hid (fastTo l k = m) ∧ Below w.heap.size w wr) (fun _ v _ => n - (intOf v).toNat)
    case atStart => exact ⟨0, 0, by omega, h3, rfl, rfl, Lib.hid rfl, (by (first | with_reducible exact Below.refl _ _ | with_reducible assumption | (repeat (with_reducible first | exact Below.refl _ _ | assumption | refine Below.drew ?_ | refine Below.alloc ?_ (by first | omega | (simp <;> omega)) _ | refine Below.setCell ?_ (by first | omega | (simp <;> omega)) _ | refine below_drewN ?_ _))))⟩
    case round =>
      obtain ⟨k, m, hk, hm, rfl, rfl, HN, hB⟩ := hrel
      by_cases hlt : k < n
      · have hpw := hp.below hB (Nat.le_refl _)
        obtain ⟨g, p, q, rfl, hgl, hxk, hh1⟩ := hpw.has hlt
        obtain ⟨g', r, s, hA, _, hxm, hh2⟩ := hpw.has hm
        cases hA
        have HXK := Lib.hid hxk
        have HXM := Lib.hid hxm
        clear hxk hxm hpw
        have hh := Has.app hh1 hh2
        simp only [List.cons_append, List.nil_append] at hh
        clear hh1 hh2
        have hq := hh
        simp only [Has, and_true] at hq
        have u1 : g ≠ wr.heap.size := by omega
        have u2 : wr.heap.size ≠ g := by omega
        have u5 : (m : Int) < n := by omega
        have hwr := hB.size
        by_cases hc : s < q
        · have HC := Lib.hid hc
          have hc1 : decide (s < q) = true := by simpa using hc
          go_wp2_with fail
          (try (go_region_held3 (fun w' => w'.cell? ⟨wr.heap.size, 0, none⟩ = some (.int .i64 p) ∧ w'.cell? ⟨wr.heap.size, 1, none⟩ = some (.int .i64 q) ∧ w'.cell? ⟨g, m * 2, none⟩ = some (.int .i64 r) ∧ w'.cell? ⟨g, m * 2 + 1, none⟩ = some (.int .i64 s)) (first | (go_keep; done) | ((repeat' apply And.intro) <;> (apply Has.get; (focus (repeat (with_reducible first | assumption | apply Has.alloc5 | apply Has.alloc2 | apply Has.alloc1 | apply Has.alloc3 | apply Has.drew | apply Has.drewN | apply Has.set_ | apply Has.allocx | exact Has.nil _))); simp [upd, *]))) (first | fail); go_wp2_with fail))
          go_roundw
          case rel => exact ⟨k + 1, k, by omega, by omega, rfl, by go_num, Lib.hid (fastTo_yes HN.out HXK.out HXM.out HC.out), (by (first | with_reducible exact Below.refl _ _ | with_reducible assumption | (repeat (with_reducible first | exact Below.refl _ _ | assumption | refine Below.drew ?_ | refine Below.alloc ?_ (by first | omega | (simp <;> omega)) _ | refine Below.setCell ?_ (by first | omega | (simp <;> omega)) _ | refine below_drewN ?_ _))))⟩
          case measure => simp [intOf]; omega
        · have HC := Lib.hid hc
          have hc1 : decide (s < q) = false := by simpa using hc
          go_wp2_with fail
          (try (go_region_held3 (fun w' => w'.cell? ⟨wr.heap.size, 0, none⟩ = some (.int .i64 p) ∧ w'.cell? ⟨wr.heap.size, 1, none⟩ = some (.int .i64 q) ∧ w'.cell? ⟨g, m * 2, none⟩ = some (.int .i64 r) ∧ w'.cell? ⟨g, m * 2 + 1, none⟩ = some (.int .i64 s)) (first | (go_keep; done) | ((repeat' apply And.intro) <;> (apply Has.get; (focus (repeat (with_reducible first | assumption | apply Has.alloc5 | apply Has.alloc2 | apply Has.alloc1 | apply Has.alloc3 | apply Has.drew | apply Has.drewN | apply Has.set_ | apply Has.allocx | exact Has.nil _))); simp [upd, *]))) (first | fail); go_wp2_with fail))
          go_roundw
          case rel => exact ⟨k + 1, m, by omega, by omega, rfl, by go_num, Lib.hid (fastTo_no HN.out HXK.out HXM.out (by have := HC.out; omega)), (by (first | with_reducible exact Below.refl _ _ | with_reducible assumption | (repeat (with_reducible first | exact Below.refl _ _ | assumption | refine Below.drew ?_ | refine Below.alloc ?_ (by first | omega | (simp <;> omega)) _ | refine Below.setCell ?_ (by first | omega | (simp <;> omega)) _ | refine below_drewN ?_ _))))⟩
          case measure => simp [intOf]; omega
      · obtain rfl : k = n := by omega
        go_wp2
        go_ret2
        exact ⟨by rw [HM.out, HN.out]; rfl, (by (first | with_reducible exact Below.refl _ _ | with_reducible assumption | (repeat (with_reducible first | exact Below.refl _ _ | assumption | refine Below.drew ?_ | refine Below.alloc ?_ (by first | omega | (simp <;> omega)) _ | refine Below.setCell ?_ (by first | omega | (simp <;> omega)) _ | refine below_drewN ?_ _))))⟩
  · go_enter Tryd.func43, Tryd.ntmps43
    go_wp2_with (first | (go_at_call 52; refine (iIsMusic_any _ _ _ _ _ hp).mono ?_; rintro e w' ⟨rfl, hb⟩; have hz : w.heap.size ≤ w'.heap.size := (by have := hb.size; first | omega | (simp at this; omega)); have hB : Below w.heap.size w w' := (by refine Below.trans ?_ (hb.mono (by first | omega | (simp <;> omega))); (first | with_reducible exact Below.refl _ _ | with_reducible assumption | (repeat (with_reducible first | exact Below.refl _ _ | assumption | refine Below.drew ?_ | refine Below.alloc ?_ (by first | omega | (simp <;> omega)) _ | refine Below.setCell ?_ (by first | omega | (simp <;> omega)) _ | refine below_drewN ?_ _)))); have hh := Has.below (by (repeat (with_reducible first | assumption | apply Has.alloc5 | apply Has.alloc2 | apply Has.alloc1 | apply Has.alloc3 | apply Has.drew | apply Has.drewN | apply Has.set_ | apply Has.allocx | exact Has.nil _))) hb; (try simp only [World.size_alloc, World.size_setCell, World.size_drew, World.heap_drewN] at hh); have hq := hh; simp only [Has, upd, World.size_alloc, World.size_setCell, World.size_drew, World.heap_drewN, and_true, true_and, ite_true, ite_false, and_self, Nat.add_right_cancel_iff, Nat.add_eq_left, Nat.left_eq_add, reduceCtorEq, Nat.reduceEqDiff, if_true, if_false] at hq; have hs := hb.size; (try simp only [World.size_alloc, World.size_setCell, World.size_drew, World.heap_drewN] at hs); clear hb))
    go_ret2
    exact ⟨by simp [mFastest, h], (by (first | with_reducible exact Below.refl _ _ | with_reducible assumption | (repeat (with_reducible first | exact Below.refl _ _ | assumption | refine Below.drew ?_ | refine Below.alloc ?_ (by first | omega | (simp <;> omega)) _ | refine Below.setCell ?_ (by first | omega | (simp <;> omega)) _ | refine below_drewN ?_ _))))⟩

set_option maxHeartbeats 2000000 in
theorem sFastest_any (A : Option Addr) (n c : Nat) (l : List (Int × Int)) (w : World) (hp : Lst w A n l) :
    Calls Tryd.prog 44 #[.slice A n c] w fun e w' => e = .returned (.tuple #[.int .i64 (mFastest l).1, .bool (mFastest l).2]) ∧ Below w.heap.size w w' := by
  have HL := Lib.hid hp.1
  have hn := hp.2.1
  rcases tf (musB l) with h | h
  · have h3 : 0 < n := by have := (musB_len h).1; have := HL.out; omega
    have HM : Hid (mFastest l = ((fastTo l n : Int), true)) := by
      show _ = _
      have := HL.out
      simp [mFastest, h, this]
    go_enter Tryd.func44, Tryd.ntmps44
    go_wp2_with (first | (go_at_call 97; refine (muGood_any _ _ _ _ _ hp).mono ?_; rintro e w' ⟨rfl, hb⟩; have hz : w.heap.size ≤ w'.heap.size := (by have := hb.size; first | omega | (simp at this; omega)); have hB : Below w.heap.size w w' := (by refine Below.trans ?_ (hb.mono (by first | omega | (simp <;> omega))); (first | with_reducible exact Below.refl _ _ | with_reducible assumption | (repeat (with_reducible first | exact Below.refl _ _ | assumption | refine Below.drew ?_ | refine Below.alloc ?_ (by first | omega | (simp <;> omega)) _ | refine Below.setCell ?_ (by first | omega | (simp <;> omega)) _ | refine below_drewN ?_ _)))); have hh := Has.below (by (repeat (with_reducible first | assumption | apply Has.alloc5 | apply Has.alloc2 | apply Has.alloc1 | apply Has.alloc3 | apply Has.drew | apply Has.drewN | apply Has.set_ | apply Has.allocx | exact Has.nil _))) hb; (try simp only [World.size_alloc, World.size_setCell, World.size_drew, World.heap_drewN] at hh); have hq := hh; simp only [Has, upd, World.size_alloc, World.size_setCell, World.size_drew, World.heap_drewN, and_true, true_and, ite_true, ite_false, and_self, Nat.add_right_cancel_iff, Nat.add_eq_left, Nat.left_eq_add, reduceCtorEq, Nat.reduceEqDiff, if_true, if_false] at hq; have hs := hb.size; (try simp only [World.size_alloc, World.size_setCell, World.size_drew, World.heap_drewN] at hs); clear hb))
    go_loopw [4, 12] (fun s6 s24 wr => ∃ k m : Nat, k ≤ n ∧ m < n ∧ s6 = .int .i64 m ∧ s24 = .int .i64 k ∧ Hid (fastTo l k = m) ∧ Below w.heap.size w wr) (fun _ v _ => n - (intOf v).toNat)
    case atStart => exact ⟨0, 0, by omega, h3, rfl, rfl, Lib.hid rfl, (by (first | with_reducible exact Below.refl _ _ | with_reducible assumption | (repeat (with_reducible first | exact Below.refl _ _ | assumption | refine Below.drew ?_ | refine Below.alloc ?_ (by first | omega | (simp <;> omega)) _ | refine Below.setCell ?_ (by first | omega | (simp <;> omega)) _ | refine below_drewN ?_ _))))⟩
    case round =>
      obtain ⟨k, m, hk, hm, rfl, rfl, HN, hB⟩ := hrel
      by_cases hlt : k < n
      · have hpw := hp.below hB (Nat.le_refl _)
        obtain ⟨g, p, q, rfl, hgl, hxk, hh1⟩ := hpw.has hlt
        obtain ⟨g', r, s, hA, _, hxm, hh2⟩ := hpw.has hm
        cases hA
        have HXK := Lib.hid hxk
        have HXM := Lib.hid hxm
        clear hxk hxm hpw
        have hh := Has.app hh1 hh2
        simp only [List.cons_append, List.nil_append] at hh
        clear hh1 hh2
        have hq := hh
        simp only [Has, and_true] at hq
        have u1 : g ≠ wr.heap.size := by omega
        have u2 : wr.heap.size ≠ g := by omega
        have u5 : (m : Int) < n := by omega
        have hwr := hB.size
        by_cases hc : s < q
        · have HC := Lib.hid hc
          have hc1 : decide (s < q) = true := by simpa using hc
          go_wp2_with fail
          (try (go_region_held3 (fun w' => w'.cell? ⟨wr.heap.size, 0, none⟩ = some (.int .i64 p) ∧ w'.cell? ⟨wr.heap.size, 1, none⟩ = some (.int .i64 q) ∧ w'.cell? ⟨g, m * 2, none⟩ = some (.int .i64 r) ∧ w'.cell? ⟨g, m * 2 + 1, none⟩ = some (.int .i64 s)) (first | (go_keep; done) | ((repeat' apply And.intro) <;> (apply Has.get; (focus (repeat (with_reducible first | assumption | apply Has.alloc5 | apply Has.alloc2 | apply Has.alloc1 | apply Has.alloc3 | apply Has.drew | apply Has.drewN | apply Has.set_ | apply Has.allocx | exact Has.nil _))); simp [upd, *]))) (first | fail); go_wp2_with fail))
          go_roundw
          case rel => exact ⟨k + 1, k, by omega, by omega, rfl, by go_num, Lib.hid (fastTo_yes HN.out HXK.out HXM.out HC.out), (by (first | with_reducible exact Below.refl _ _ | with_reducible assumption | (repeat (with_reducible first | exact Below.refl _ _ | assumption | refine Below.drew ?_ | refine Below.alloc ?_ (by first | omega | (simp <;> omega)) _ | refine Below.setCell ?_ (by first | omega | (simp <;> omega)) _ | refine below_drewN ?_ _))))⟩
          case measure => simp [intOf]; omega
        · have HC := Lib.hid hc
          have hc1 : decide (s < q) = false := by simpa using hc
          go_wp2_with fail
          (try (go_region_held3 (fun w' => w'.cell? ⟨wr.heap.size, 0, none⟩ = some (.int .i64 p) ∧ w'.cell? ⟨wr.heap.size, 1, none⟩ = some (.int .i64 q) ∧ w'.cell? ⟨g, m * 2, none⟩ = some (.int .i64 r) ∧ w'.cell? ⟨g, m * 2 + 1, none⟩ = some (.int .i64 s)) (first | (go_keep; done) | ((repeat' apply And.intro) <;> (apply Has.get; (focus (repeat (with_reducible first | assumption | apply Has.alloc5 | apply Has.alloc2 | apply Has.alloc1 | apply Has.alloc3 | apply Has.drew | apply Has.drewN | apply Has.set_ | apply Has.allocx | exact Has.nil _))); simp [upd, *]))) (first | fail); go_wp2_with fail))
          go_roundw
          case rel => exact ⟨k + 1, m, by omega, by omega, rfl, by go_num, Lib.hid (fastTo_no HN.out HXK.out HXM.out (by have := HC.out; omega)), (by (first | with_reducible exact Below.refl _ _ | with_reducible assumption | (repeat (with_reducible first | exact Below.refl _ _ | assumption | refine Below.drew ?_ | refine Below.alloc ?_ (by first | omega | (simp <;> omega)) _ | refine Below.setCell ?_ (by first | omega | (simp <;> omega)) _ | refine below_drewN ?_ _))))⟩
          case measure => simp [intOf]; omega
      · obtain rfl : k = n := by omega
        go_wp2
        go_ret2
        exact ⟨by rw [HM.out, HN.out]; rfl, (by (first | with_reducible exact Below.refl _ _ | with_reducible assumption | (repeat (with_reducible first | exact Below.refl _ _ | assumption | refine Below.drew ?_ | refine Below.alloc ?_ (by first | omega | (simp <;> omega)) _ | refine Below.setCell ?_ (by first | omega | (simp <;> omega)) _ | refine below_drewN ?_ _))))⟩
  · go_enter Tryd.func44, Tryd.ntmps44
    go_wp2_with (first | (go_at_call 97; refine (muGood_any _ _ _ _ _ hp).mono ?_; rintro e w' ⟨rfl, hb⟩; have hz : w.heap.size ≤ w'.heap.size := (by have := hb.size; first | omega | (simp at this; omega)); have hB : Below w.heap.size w w' := (by refine Below.trans ?_ (hb.mono (by first | omega | (simp <;> omega))); (first | with_reducible exact Below.refl _ _ | with_reducible assumption | (repeat (with_reducible first | exact Below.refl _ _ | assumption | refine Below.drew ?_ | refine Below.alloc ?_ (by first | omega | (simp <;> omega)) _ | refine Below.setCell ?_ (by first | omega | (simp <;> omega)) _ | refine below_drewN ?_ _)))); have hh := Has.below (by (repeat (with_reducible first | assumption | apply Has.alloc5 | apply Has.alloc2 | apply Has.alloc1 | apply Has.alloc3 | apply Has.drew | apply Has.drewN | apply Has.set_ | apply Has.allocx | exact Has.nil _))) hb; (try simp only [World.size_alloc, World.size_setCell, World.size_drew, World.heap_drewN] at hh); have hq := hh; simp only [Has, upd, World.size_alloc, World.size_setCell, World.size_drew, World.heap_drewN, and_true, true_and, ite_true, ite_false, and_self, Nat.add_right_cancel_iff, Nat.add_eq_left, Nat.left_eq_add, reduceCtorEq, Nat.reduceEqDiff, if_true, if_false] at hq; have hs := hb.size; (try simp only [World.size_alloc, World.size_setCell, World.size_drew, World.heap_drewN] at hs); clear hb))
    go_ret2
    exact ⟨by simp [mFastest, h], (by (first | with_reducible exact Below.refl _ _ | with_reducible assumption | (repeat (with_reducible first | exact Below.refl _ _ | assumption | refine Below.drew ?_ | refine Below.alloc ?_ (by first | omega | (simp <;> omega)) _ | refine Below.setCell ?_ (by first | omega | (simp <;> omega)) _ | refine below_drewN ?_ _))))⟩

end Go.Proofs.YtgpjnffomheemaaDoor

