/- Contracts of IsMusic, CountsOf and FastestMeasure, of the program and of the reference. -/
import Derived.Test.YtbiipbfdgkfenaaDoorMList
namespace Go.Proofs.YtbiipbfdgkfenaaDoor
open Go.RowKit
set_option linter.unusedVariables false
set_option linter.unusedSimpArgs false
set_option maxRecDepth 100000

def meB (c t : Int) : Bool := inB c 1 12 && inB t 40 220
theorem meB_iff (c t : Int) : meB c t = true ↔ 1 ≤ c ∧ c ≤ 12 ∧ 40 ≤ t ∧ t ≤ 220 := by simp [meB, inB_iff, and_assoc]
def musTo (l : List (Int × Int)) (k : Nat) : Prop := ∀ i x y, i < k → l[i]? = some (x, y) → meB x y = true
def musB (l : List (Int × Int)) : Bool := inB l.length 1 40 && l.all fun p => meB p.1 p.2
theorem musTo_zero (l : List (Int × Int)) : musTo l 0 := fun i x y h => absurd h (by omega)
theorem musTo_step {l : List (Int × Int)} {k : Nat} {x y : Int} (h : musTo l k) (hk : l[k]? = some (x, y)) (hg : meB x y = true) : musTo l (k + 1) := by
  intro i a b hi he
  by_cases hik : i = k
  · subst hik; rw [hk] at he; cases he; exact hg
  · exact h i a b (by omega) he
theorem musB_all {l : List (Int × Int)} (h : musTo l l.length) : musB l = inB l.length 1 40 := by
  have : (l.all fun p => meB p.1 p.2) = true := by
    rw [List.all_eq_true]
    intro p hp
    obtain ⟨i, hi, rfl⟩ := List.getElem_of_mem hp
    exact h i _ _ hi (List.getElem?_eq_getElem hi)
  simp [musB, this]
theorem musB_bad {l : List (Int × Int)} {k : Nat} {x y : Int} (hk : l[k]? = some (x, y)) (hg : meB x y = false) : musB l = false := by
  have : (l.all fun p => meB p.1 p.2) = false := by
    rw [List.all_eq_false]
    exact ⟨(x, y), List.mem_of_getElem? hk, by simp [hg]⟩
  simp [musB, this]
theorem musB_get {l : List (Int × Int)} (h : musB l = true) {k : Nat} {x y : Int} (hk : l[k]? = some (x, y)) : meB x y = true := by
  unfold musB at h
  rw [Bool.and_eq_true, List.all_eq_true] at h
  exact h.2 (x, y) (List.mem_of_getElem? hk)
theorem musB_len {l : List (Int × Int)} (h : musB l = true) : 1 ≤ l.length ∧ l.length ≤ 40 := by
  unfold musB at h
  rw [Bool.and_eq_true, inB_iff] at h
  omega
/-- the sum of the counts of the first k measures -/
def sumTo (l : List (Int × Int)) : Nat → Int
  | 0 => 0
  | k + 1 => sumTo l k + (l.getD k (0, 0)).1
theorem sumTo_step {l : List (Int × Int)} {k : Nat} {x y : Int} (hk : l[k]? = some (x, y)) : sumTo l (k + 1) = sumTo l k + x := by
  simp [sumTo, List.getD, hk]
def mCountsOf (l : List (Int × Int)) : Int × Bool := if musB l then (sumTo l l.length, true) else (0, false)
def fastTo (l : List (Int × Int)) : Nat → Nat
  | 0 => 0
  | k + 1 => if (l.getD (fastTo l k) (0, 0)).2 < (l.getD k (0, 0)).2 then k else fastTo l k
theorem fastTo_yes {p q r s : Int} {l : List (Int × Int)} {k m : Nat} (hm : fastTo l k = m) (hk : l[k]? = some (p, q)) (h2 : l[m]? = some (r, s)) (h : s < q) : fastTo l (k + 1) = k := by
  simp only [fastTo, hm]; simp [List.getD, hk, h2, h]
theorem fastTo_no {p q r s : Int} {l : List (Int × Int)} {k m : Nat} (hm : fastTo l k = m) (hk : l[k]? = some (p, q)) (h2 : l[m]? = some (r, s)) (h : ¬ s < q) : fastTo l (k + 1) = m := by
  simp only [fastTo, hm]; simp [List.getD, hk, h2, h]
def mFastest (l : List (Int × Int)) : Int × Bool := if musB l then ((fastTo l l.length : Int), true) else (0, false)

theorem muMeasure_any (c t : Int) (w : World) :
    Calls Tryd.prog 53 #[.agg #[.int .i64 c, .int .i64 t]] w fun e w' => e = .returned (.bool (meB c t)) ∧ Below w.heap.size w w' := by
  rcases tf (inB c 1 12) with h | h
  all_goals
    go_enter Tryd.func53, Tryd.ntmps53
    go_wp2_with (go_at_call 48; refine (l1In_any _ _ _ _).mono ?_; rintro e w' ⟨rfl, rfl⟩)
    go_ret
    exact ⟨by simp [meB, h], (by (first | with_reducible exact Below.refl _ _ | with_reducible assumption | (repeat (with_reducible first | exact Below.refl _ _ | assumption | refine Below.drew ?_ | refine Below.alloc ?_ (by first | omega | (simp <;> omega)) _ | refine Below.setCell ?_ (by first | omega | (simp <;> omega)) _ | refine below_drewN ?_ _))))⟩

set_option maxHeartbeats 2000000 in
theorem muGood_any (A : Option Addr) (n c : Nat) (l : List (Int × Int)) (w : World) (hp : Lst w A n l) :
    Calls Tryd.prog 34 #[.slice A n c] w fun e w' => e = .returned (.bool (musB l)) ∧ Below w.heap.size w w' := by
  have HL := Lib.hid hp.1
  have hn := hp.2.1
  go_enter Tryd.func34, Tryd.ntmps34
  go_wp2
  go_loopw [7] (fun v wr => ∃ k : Nat, k ≤ n ∧ v = .int .i64 k ∧ Hid (musTo l k) ∧ Below w.heap.size w wr) (fun v _ => n - (intOf v).toNat)
  case atStart => exact ⟨0, by omega, rfl, Lib.hid (musTo_zero l), (by (first | with_reducible exact Below.refl _ _ | with_reducible assumption | (repeat (with_reducible first | exact Below.refl _ _ | assumption | refine Below.drew ?_ | refine Below.alloc ?_ (by first | omega | (simp <;> omega)) _ | refine Below.setCell ?_ (by first | omega | (simp <;> omega)) _ | refine below_drewN ?_ _))))⟩
  case round =>
    obtain ⟨k, hk, rfl, HG, hB⟩ := hrel
    by_cases hlt : k < n
    · have hpw := hp.below hB (Nat.le_refl _)
      obtain ⟨g, x, y, rfl, hgl, hx, hh⟩ := hpw.has hlt
      have HX := Lib.hid hx
      clear hx hpw
      have hq := hh
      simp only [Has, and_true] at hq
      have hne1 : g ≠ wr.heap.size := by omega
      have hne2 : wr.heap.size ≠ g := by omega
      have hwr := hB.size
      rcases tf (meB x y) with h | h
      · go_wp2_with (go_at_call 53; refine (muMeasure_any _ _ _).mono ?_; rintro e w' ⟨rfl, hb⟩; have hz : w.heap.size ≤ w'.heap.size := (by have := hb.size; first | omega | (simp at this; omega)); have hB : Below w.heap.size w w' := (by refine Below.trans ?_ (hb.mono (by first | omega | (simp <;> omega))); (first | with_reducible exact Below.refl _ _ | with_reducible assumption | (repeat (with_reducible first | exact Below.refl _ _ | assumption | refine Below.drew ?_ | refine Below.alloc ?_ (by first | omega | (simp <;> omega)) _ | refine Below.setCell ?_ (by first | omega | (simp <;> omega)) _ | refine below_drewN ?_ _)))); have hh := Has.below (by (repeat (with_reducible first | assumption | apply Has.alloc5 | apply Has.alloc2 | apply Has.alloc1 | apply Has.alloc3 | apply Has.drew | apply Has.drewN | apply Has.set_ | apply Has.allocx | exact Has.nil _))) hb; (try simp only [World.size_alloc, World.size_setCell, World.size_drew, World.heap_drewN] at hh); have hq := hh; simp only [Has, upd, World.size_alloc, World.size_setCell, World.size_drew, World.heap_drewN, and_true, true_and, ite_true, ite_false, and_self, Nat.add_right_cancel_iff, Nat.add_eq_left, Nat.left_eq_add, reduceCtorEq, Nat.reduceEqDiff, if_true, if_false] at hq; have hs := hb.size; (try simp only [World.size_alloc, World.size_setCell, World.size_drew, World.heap_drewN] at hs); clear hb)
        go_roundw
        case rel => exact ⟨k + 1, by omega, by go_num, Lib.hid (musTo_step HG.out HX.out h), (by (first | with_reducible exact Below.refl _ _ | with_reducible assumption | (repeat (with_reducible first | exact Below.refl _ _ | assumption | refine Below.drew ?_ | refine Below.alloc ?_ (by first | omega | (simp <;> omega)) _ | refine Below.setCell ?_ (by first | omega | (simp <;> omega)) _ | refine below_drewN ?_ _))))⟩
        case measure => simp [intOf]; omega
      · go_wp2_with (go_at_call 53; refine (muMeasure_any _ _ _).mono ?_; rintro e w' ⟨rfl, hb⟩; have hz : w.heap.size ≤ w'.heap.size := (by have := hb.size; first | omega | (simp at this; omega)); have hB : Below w.heap.size w w' := (by refine Below.trans ?_ (hb.mono (by first | omega | (simp <;> omega))); (first | with_reducible exact Below.refl _ _ | with_reducible assumption | (repeat (with_reducible first | exact Below.refl _ _ | assumption | refine Below.drew ?_ | refine Below.alloc ?_ (by first | omega | (simp <;> omega)) _ | refine Below.setCell ?_ (by first | omega | (simp <;> omega)) _ | refine below_drewN ?_ _)))); have hh := Has.below (by (repeat (with_reducible first | assumption | apply Has.alloc5 | apply Has.alloc2 | apply Has.alloc1 | apply Has.alloc3 | apply Has.drew | apply Has.drewN | apply Has.set_ | apply Has.allocx | exact Has.nil _))) hb; (try simp only [World.size_alloc, World.size_setCell, World.size_drew, World.heap_drewN] at hh); have hq := hh; simp only [Has, upd, World.size_alloc, World.size_setCell, World.size_drew, World.heap_drewN, and_true, true_and, ite_true, ite_false, and_self, Nat.add_right_cancel_iff, Nat.add_eq_left, Nat.left_eq_add, reduceCtorEq, Nat.reduceEqDiff, if_true, if_false] at hq; have hs := hb.size; (try simp only [World.size_alloc, World.size_setCell, World.size_drew, World.heap_drewN] at hs); clear hb)
        go_ret
        exact ⟨by rw [musB_bad HX.out h]; rfl, (by (first | with_reducible exact Below.refl _ _ | with_reducible assumption | (repeat (with_reducible first | exact Below.refl _ _ | assumption | refine Below.drew ?_ | refine Below.alloc ?_ (by first | omega | (simp <;> omega)) _ | refine Below.setCell ?_ (by first | omega | (simp <;> omega)) _ | refine below_drewN ?_ _))))⟩
    · obtain rfl : k = n := by omega
      go_wp2_with (go_at_call 48; refine (l1In_any _ _ _ _).mono ?_; rintro e w' ⟨rfl, rfl⟩)
      go_ret
      exact ⟨by rw [musB_all (by rw [HL.out]; exact HG.out), HL.out]; rfl, (by (first | with_reducible exact Below.refl _ _ | with_reducible assumption | (repeat (with_reducible first | exact Below.refl _ _ | assumption | refine Below.drew ?_ | refine Below.alloc ?_ (by first | omega | (simp <;> omega)) _ | refine Below.setCell ?_ (by first | omega | (simp <;> omega)) _ | refine below_drewN ?_ _))))⟩

set_option maxHeartbeats 2000000 in
theorem iIsMusic_any (A : Option Addr) (n c : Nat) (l : List (Int × Int)) (w : World) (hp : Lst w A n l) :
    Calls Tryd.prog 37 #[.slice A n c] w fun e w' => e = .returned (.bool (musB l)) ∧ Below w.heap.size w w' := by
  have HL := Lib.hid hp.1
  have hn := hp.2.1
  go_enter Tryd.func37, Tryd.ntmps37
  go_wp2
  go_loopw [7] (fun v wr => ∃ k : Nat, k ≤ n ∧ v = .int .i64 k ∧ Hid (musTo l k) ∧ Below w.heap.size w wr) (fun v _ => n - (intOf v).toNat)
  case atStart => exact ⟨0, by omega, rfl, Lib.hid (musTo_zero l), (by (first | with_reducible exact Below.refl _ _ | with_reducible assumption | (repeat (with_reducible first | exact Below.refl _ _ | assumption | refine Below.drew ?_ | refine Below.alloc ?_ (by first | omega | (simp <;> omega)) _ | refine Below.setCell ?_ (by first | omega | (simp <;> omega)) _ | refine below_drewN ?_ _))))⟩
  case round =>
    obtain ⟨k, hk, rfl, HG, hB⟩ := hrel
    by_cases hlt : k < n
    · have hpw := hp.below hB (Nat.le_refl _)
      obtain ⟨g, x, y, rfl, hgl, hx, hh⟩ := hpw.has hlt
      have HX := Lib.hid hx
      clear hx hpw
      have hq := hh
      simp only [Has, and_true] at hq
      have hne1 : g ≠ wr.heap.size := by omega
      have hne2 : wr.heap.size ≠ g := by omega
      have hwr := hB.size
      rcases tf (inB x 1 12) with h1 | h1
      · rcases tf (inB y 40 220) with h2 | h2
        · have h : meB x y = true := by simp [meB, h1, h2]
          have H := Lib.hid h
          clear h
          go_wp2_with (go_at_call 50; refine (within_any _ _ _ _).mono ?_; rintro e w' ⟨rfl, rfl⟩)
          go_roundw
          case rel => exact ⟨k + 1, by omega, by go_num, Lib.hid (musTo_step HG.out HX.out H.out), (by (first | with_reducible exact Below.refl _ _ | with_reducible assumption | (repeat (with_reducible first | exact Below.refl _ _ | assumption | refine Below.drew ?_ | refine Below.alloc ?_ (by first | omega | (simp <;> omega)) _ | refine Below.setCell ?_ (by first | omega | (simp <;> omega)) _ | refine below_drewN ?_ _))))⟩
          case measure => simp [intOf]; omega
        · have h : meB x y = false := by simp [meB, h2]
          have H := Lib.hid h
          clear h
          go_wp2_with (go_at_call 50; refine (within_any _ _ _ _).mono ?_; rintro e w' ⟨rfl, rfl⟩)
          go_ret
          exact ⟨by rw [musB_bad HX.out H.out]; rfl, (by (first | with_reducible exact Below.refl _ _ | with_reducible assumption | (repeat (with_reducible first | exact Below.refl _ _ | assumption | refine Below.drew ?_ | refine Below.alloc ?_ (by first | omega | (simp <;> omega)) _ | refine Below.setCell ?_ (by first | omega | (simp <;> omega)) _ | refine below_drewN ?_ _))))⟩
      · have h : meB x y = false := by simp [meB, h1]
        have H := Lib.hid h
        clear h
        go_wp2_with (go_at_call 50; refine (within_any _ _ _ _).mono ?_; rintro e w' ⟨rfl, rfl⟩)
        go_ret
        exact ⟨by rw [musB_bad HX.out H.out]; rfl, (by (first | with_reducible exact Below.refl _ _ | with_reducible assumption | (repeat (with_reducible first | exact Below.refl _ _ | assumption | refine Below.drew ?_ | refine Below.alloc ?_ (by first | omega | (simp <;> omega)) _ | refine Below.setCell ?_ (by first | omega | (simp <;> omega)) _ | refine below_drewN ?_ _))))⟩
    · obtain rfl : k = n := by omega
      go_wp2_with (go_at_call 50; refine (within_any _ _ _ _).mono ?_; rintro e w' ⟨rfl, rfl⟩)
      go_ret
      exact ⟨by rw [musB_all (by rw [HL.out]; exact HG.out), HL.out]; rfl, (by (first | with_reducible exact Below.refl _ _ | with_reducible assumption | (repeat (with_reducible first | exact Below.refl _ _ | assumption | refine Below.drew ?_ | refine Below.alloc ?_ (by first | omega | (simp <;> omega)) _ | refine Below.setCell ?_ (by first | omega | (simp <;> omega)) _ | refine below_drewN ?_ _))))⟩

end Go.Proofs.YtbiipbfdgkfenaaDoor

