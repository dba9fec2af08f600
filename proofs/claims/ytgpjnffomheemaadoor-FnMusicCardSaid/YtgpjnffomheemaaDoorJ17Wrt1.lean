import Derived.Test.YtgpjnffomheemaaDoorJ16Txt7
import Derived.Test.YtgpjnffomheemaaDoorSpot
import Derived.Test.YtgpjnffomheemaaDoorShelf
import Derived.Lib.SmallJoins
import Derived.Deep.RegionHeld3
/- Texts that are written: strconv.Itoa; the program's stepsText, SpotText; the reference's SpotText. -/
namespace Go.Proofs.YtgpjnffomheemaaDoor
open Go.RowKit
set_option linter.unusedVariables false
set_option linter.unusedSimpArgs false
set_option maxRecDepth 100000

theorem below_grow_ (w : World) (q : Nat) (os : Array Obj) : Below w.heap.size w (Sort.grow (w.drewN q) os) :=
  ⟨rfl, rfl, rfl, by simp [Sort.grow], fun i hi => by
    show ((w.drewN q).heap ++ os)[i]? = _
    rw [Array.getElem?_append_left (by show i < w.heap.size; omega)]
    rfl⟩

/-- the library's table of powers of ten lies as it was laid -/
def Tab (w : World) : Prop := Lib.TabIs Tryd.prog w "internal/strconv.uint64pow10" .u64 Lib.pow10Tab
theorem Tab.on {w W : World} (h : Tab w) (hb : Below w.heap.size w W) : Tab W := by
  cases hg : Tryd.prog.globalNamed "internal/strconv.uint64pow10" with
  | none =>
    have h' : w.var? Tryd.prog "internal/strconv.uint64pow10" = _ := h
    unfold World.var? at h'
    rw [hg] at h'
    cases h'
  | some g => exact Joins.tab_stays hg h hb (Nat.le_refl _)
theorem itoa_any (n : Nat) (w : World) (hn : n ≤ 1000000) (ht : Tab w) :
    Calls Tryd.prog 74 #[.int .i64 n] w fun e w' => e = .returned (str (numL n)) ∧ Below w.heap.size w w' := by
  refine (Tryd.strconv_Itoa n (by omega) (by omega) w ht).mono ?_
  rintro e w' ⟨rfl, k, os, rfl⟩
  exact ⟨by rw [numL_itoa], below_grow_ w k os⟩
theorem itoa_eq (n : Nat) (L : List UInt8) (w : World) (hn : n ≤ 1000000) (ht : Tab w) (h : numL n = L) :
    Calls Tryd.prog 74 #[.int .i64 n] w fun e w' => e = .returned (str L) ∧ Below w.heap.size w w' := by
  have := itoa_any n w hn ht
  rw [h] at this
  exact this
theorem catR (a : List UInt8) (c : UInt8) (b : List UInt8) : Value.string ((⟨a.toArray⟩ : ByteArray) ++ (⟨#[c]⟩ ++ ⟨b.toArray⟩)) = str (a ++ c :: b) := by
  rw [str]
  congr 1
  try (apply ByteArray.ext; simp)

set_option maxHeartbeats 1000000 in
theorem stepsText_any (n : Nat) (w : World) (hm : n ≤ 1000000) (htab : Tab w) :
    Calls Tryd.prog 56 #[.int .i64 n] w fun e w' => e = .returned (str (partL n)) ∧ Below w.heap.size w w' := by
  obtain ⟨A, hA⟩ : ∃ A, numL (n / 8) = A := ⟨_, rfl⟩
  obtain ⟨B, hB0⟩ : ∃ B, numL (n % 8) = B := ⟨_, rfl⟩
  have lA := numL_le7 (show n / 8 ≤ 1000000 by omega)
  have lB := numL_le7 (show n % 8 ≤ 1000000 by omega)
  rw [hA] at lA
  rw [hB0] at lB
  have cA := fun W (h : Below w.heap.size w W) => itoa_eq (n / 8) A W (by omega) (htab.on h) hA
  have cB := fun W (h : Below w.heap.size w W) => itoa_eq (n % 8) B W (by omega) (htab.on h) hB0
  have q1 : ((n / 8 : Nat) : Int) = (n : Int) / 8 := by omega
  rw [q1] at cA
  have h8 : ¬ (8 : Int) = 0 := by omega
  have hh := Has.nil w
  by_cases h0 : n % 8 = 0
  · have HM : Hid (partL n = A) := by show _ = _; rw [partL, if_pos h0, hA]
    have e1 : (n : Int).tmod 8 = 0 := by rw [Int.tmod_eq_emod_of_nonneg (by omega)]; omega
    have e2 : (n : Int) % 8 = 0 := by omega
    clear h0 hA hB0 cB q1 htab
    go_enter Tryd.func56, Tryd.ntmps56
    go_wp2_with fail
    (go_at_call 74; refine (cA _ (by (first | with_reducible exact Below.refl _ _ | with_reducible assumption | (repeat (with_reducible first | exact Below.refl _ _ | assumption | refine Below.drew ?_ | refine Below.alloc ?_ (by first | omega | (simp <;> omega)) _ | refine Below.setCell ?_ (by first | omega | (simp <;> omega)) _ | refine below_drewN ?_ _))))).mono ?_; rintro e w' ⟨rfl, hb⟩; have hz : w.heap.size ≤ w'.heap.size := (by have := hb.size; first | omega | (simp at this; omega)); have hB : Below w.heap.size w w' := (by refine Below.trans ?_ (hb.mono (by first | omega | (simp <;> omega))); (first | with_reducible exact Below.refl _ _ | with_reducible assumption | (repeat (with_reducible first | exact Below.refl _ _ | assumption | refine Below.drew ?_ | refine Below.alloc ?_ (by first | omega | (simp <;> omega)) _ | refine Below.setCell ?_ (by first | omega | (simp <;> omega)) _ | refine below_drewN ?_ _)))); have hh := Has.below (by (repeat (with_reducible first | assumption | apply Has.alloc5 | apply Has.alloc2 | apply Has.alloc1 | apply Has.alloc3 | apply Has.drew | apply Has.drewN | apply Has.set_ | apply Has.allocx | exact Has.nil _))) hb; (try simp only [World.size_alloc, World.size_setCell, World.size_drew, World.heap_drewN] at hh); have hq := hh; simp only [Has, upd, World.size_alloc, World.size_setCell, World.size_drew, World.heap_drewN, and_true, true_and, ite_true, ite_false, and_self, Nat.add_right_cancel_iff, Nat.add_eq_left, Nat.left_eq_add, reduceCtorEq, Nat.reduceEqDiff, if_true, if_false] at hq; have hs := hb.size; (try simp only [World.size_alloc, World.size_setCell, World.size_drew, World.heap_drewN] at hs); clear hb)
    go_wp2_with fail
    go_ret
    exact ⟨by rw [HM.out]; rfl, (by (first | with_reducible exact Below.refl _ _ | with_reducible assumption | (repeat (with_reducible first | exact Below.refl _ _ | assumption | refine Below.drew ?_ | refine Below.alloc ?_ (by first | omega | (simp <;> omega)) _ | refine Below.setCell ?_ (by first | omega | (simp <;> omega)) _ | refine below_drewN ?_ _))))⟩
  · obtain ⟨d, hd⟩ : ∃ d, n % 8 = d := ⟨_, rfl⟩
    rw [hd] at cB h0
    have HM : Hid (partL n = A ++ 43 :: B) := by show _ = _; rw [partL, if_neg (by omega), hA, hB0]
    have e1 : (n : Int).tmod 8 = (d : Int) := by rw [Int.tmod_eq_emod_of_nonneg (by omega)]; omega
    have e2 : (n : Int) % 8 = (d : Int) := by omega
    have e3 : (0 : Int) < (d : Int) := by omega
    have e4 : 0 < d := by omega
    have l1 : ¬ 9223372036854775807 < 1 + B.length := by omega
    have l2 : ¬ 9223372036854775807 < A.length + (1 + B.length) := by omega
    have l3 : ¬ 9223372036854775807 < B.length + 1 := by omega
    have l4 : ¬ 9223372036854775807 < A.length + (B.length + 1) := by omega
    clear h0 hA hB0 q1 hd htab
    go_enter Tryd.func56, Tryd.ntmps56
    go_wp2_with fail
    (go_at_call 74; refine (cA _ (by (first | with_reducible exact Below.refl _ _ | with_reducible assumption | (repeat (with_reducible first | exact Below.refl _ _ | assumption | refine Below.drew ?_ | refine Below.alloc ?_ (by first | omega | (simp <;> omega)) _ | refine Below.setCell ?_ (by first | omega | (simp <;> omega)) _ | refine below_drewN ?_ _))))).mono ?_; rintro e w' ⟨rfl, hb⟩; have hz : w.heap.size ≤ w'.heap.size := (by have := hb.size; first | omega | (simp at this; omega)); have hB : Below w.heap.size w w' := (by refine Below.trans ?_ (hb.mono (by first | omega | (simp <;> omega))); (first | with_reducible exact Below.refl _ _ | with_reducible assumption | (repeat (with_reducible first | exact Below.refl _ _ | assumption | refine Below.drew ?_ | refine Below.alloc ?_ (by first | omega | (simp <;> omega)) _ | refine Below.setCell ?_ (by first | omega | (simp <;> omega)) _ | refine below_drewN ?_ _)))); have hh := Has.below (by (repeat (with_reducible first | assumption | apply Has.alloc5 | apply Has.alloc2 | apply Has.alloc1 | apply Has.alloc3 | apply Has.drew | apply Has.drewN | apply Has.set_ | apply Has.allocx | exact Has.nil _))) hb; (try simp only [World.size_alloc, World.size_setCell, World.size_drew, World.heap_drewN] at hh); have hq := hh; simp only [Has, upd, World.size_alloc, World.size_setCell, World.size_drew, World.heap_drewN, and_true, true_and, ite_true, ite_false, and_self, Nat.add_right_cancel_iff, Nat.add_eq_left, Nat.left_eq_add, reduceCtorEq, Nat.reduceEqDiff, if_true, if_false] at hq; have hs := hb.size; (try simp only [World.size_alloc, World.size_setCell, World.size_drew, World.heap_drewN] at hs); clear hb)
    go_wp2_with fail
    (go_at_call 74; refine (cB _ (by (first | with_reducible exact Below.refl _ _ | with_reducible assumption | (repeat (with_reducible first | exact Below.refl _ _ | assumption | refine Below.drew ?_ | refine Below.alloc ?_ (by first | omega | (simp <;> omega)) _ | refine Below.setCell ?_ (by first | omega | (simp <;> omega)) _ | refine below_drewN ?_ _))))).mono ?_; rintro e w' ⟨rfl, hb⟩; have hz : w.heap.size ≤ w'.heap.size := (by have := hb.size; first | omega | (simp at this; omega)); have hB : Below w.heap.size w w' := (by refine Below.trans ?_ (hb.mono (by first | omega | (simp <;> omega))); (first | with_reducible exact Below.refl _ _ | with_reducible assumption | (repeat (with_reducible first | exact Below.refl _ _ | assumption | refine Below.drew ?_ | refine Below.alloc ?_ (by first | omega | (simp <;> omega)) _ | refine Below.setCell ?_ (by first | omega | (simp <;> omega)) _ | refine below_drewN ?_ _)))); have hh := Has.below (by (repeat (with_reducible first | assumption | apply Has.alloc5 | apply Has.alloc2 | apply Has.alloc1 | apply Has.alloc3 | apply Has.drew | apply Has.drewN | apply Has.set_ | apply Has.allocx | exact Has.nil _))) hb; (try simp only [World.size_alloc, World.size_setCell, World.size_drew, World.heap_drewN] at hh); have hq := hh; simp only [Has, upd, World.size_alloc, World.size_setCell, World.size_drew, World.heap_drewN, and_true, true_and, ite_true, ite_false, and_self, Nat.add_right_cancel_iff, Nat.add_eq_left, Nat.left_eq_add, reduceCtorEq, Nat.reduceEqDiff, if_true, if_false] at hq; have hs := hb.size; (try simp only [World.size_alloc, World.size_setCell, World.size_drew, World.heap_drewN] at hs); clear hb)
    go_wp2_with fail
    go_ret
    exact ⟨by rw [HM.out, ← catR]; rfl, (by (first | with_reducible exact Below.refl _ _ | with_reducible assumption | (repeat (with_reducible first | exact Below.refl _ _ | assumption | refine Below.drew ?_ | refine Below.alloc ?_ (by first | omega | (simp <;> omega)) _ | refine Below.setCell ?_ (by first | omega | (simp <;> omega)) _ | refine below_drewN ?_ _))))⟩

def mSpotText (x y : Int) : List UInt8 × Bool := if goodB x y then (textL x.toNat y.toNat, true) else ([], false)

set_option maxHeartbeats 1000000 in
theorem iSpotText_ok (x y : Nat) (w : World) (hg : goodB x y = true) (hx : x ≤ 1000000) (hy : y ≤ 1000000) (htab : Tab w) :
    Calls Tryd.prog 8 #[.agg #[.int .i64 x, .int .i64 y]] w fun e w' => e = .returned (.tuple #[str (textL x y), .bool true]) ∧ Below w.heap.size w w' := by
  have lA := partL_le hx
  have lB := partL_le hy
  have HM : Hid (textL x y = partL x ++ 44 :: partL y) := by show _ = _; rw [textL]
  have l1 : ¬ 9223372036854775807 < (partL x).length + 1 := by omega
  have l2 : ¬ 9223372036854775807 < (partL x).length + 1 + (partL y).length := by omega
  have cS := fun (n : Nat) W (h1 : n ≤ 1000000) (h : Below w.heap.size w W) => stepsText_any n W h1 (htab.on h)
  have hh := Has.nil w
  clear lA lB htab
  go_enter Tryd.func8, Tryd.ntmps8
  go_wp2_with (go_at_call 14; refine (iIsSpot_any _ _ _).mono ?_; rintro e w' ⟨rfl, hb⟩; have hz : w.heap.size + 1 ≤ w'.heap.size := (by have := hb.size; first | omega | (simp at this; omega)); have hB : Below w.heap.size w w' := (by refine Below.trans ?_ (hb.mono (by first | omega | (simp <;> omega))); (first | with_reducible exact Below.refl _ _ | with_reducible assumption | (repeat (with_reducible first | exact Below.refl _ _ | assumption | refine Below.drew ?_ | refine Below.alloc ?_ (by first | omega | (simp <;> omega)) _ | refine Below.setCell ?_ (by first | omega | (simp <;> omega)) _ | refine below_drewN ?_ _)))); have hh := Has.below (by (repeat (with_reducible first | assumption | apply Has.alloc5 | apply Has.alloc2 | apply Has.alloc1 | apply Has.alloc3 | apply Has.drew | apply Has.drewN | apply Has.set_ | apply Has.allocx | exact Has.nil _))) hb; (try simp only [World.size_alloc, World.size_setCell, World.size_drew, World.heap_drewN] at hh); have hq := hh; simp only [Has, upd, World.size_alloc, World.size_setCell, World.size_drew, World.heap_drewN, and_true, true_and, ite_true, ite_false, and_self, Nat.add_right_cancel_iff, Nat.add_eq_left, Nat.left_eq_add, reduceCtorEq, Nat.reduceEqDiff, if_true, if_false] at hq; have hs := hb.size; (try simp only [World.size_alloc, World.size_setCell, World.size_drew, World.heap_drewN] at hs); have hn0 : w.heap.size ≠ w'.heap.size := (by omega); have hm0 : w'.heap.size ≠ w.heap.size := (by omega); clear hb)
  go_region_held3 (fun w' => w'.cell? ⟨w.heap.size, 0, none⟩ = some (.int .i64 x) ∧ w'.cell? ⟨w.heap.size, 1, none⟩ = some (.int .i64 y)) (first | (go_keep; done) | ((repeat' apply And.intro) <;> (apply Has.get; (focus (repeat (with_reducible first | assumption | apply Has.alloc5 | apply Has.alloc2 | apply Has.alloc1 | apply Has.alloc3 | apply Has.drew | apply Has.drewN | apply Has.set_ | apply Has.allocx | exact Has.nil _))); simp [upd, *]))) (first | (go_at_call 56; refine (cS _ _ (by assumption) (by (first | with_reducible exact Below.refl _ _ | with_reducible assumption | (repeat (with_reducible first | exact Below.refl _ _ | assumption | refine Below.drew ?_ | refine Below.alloc ?_ (by first | omega | (simp <;> omega)) _ | refine Below.setCell ?_ (by first | omega | (simp <;> omega)) _ | refine below_drewN ?_ _))))).mono ?_; rintro e w' ⟨rfl, hb⟩; have hz : w.heap.size + 1 ≤ w'.heap.size := (by have := hb.size; first | omega | (simp at this; omega)); have hB : Below w.heap.size w w' := (by refine Below.trans ?_ (hb.mono (by first | omega | (simp <;> omega))); (first | with_reducible exact Below.refl _ _ | with_reducible assumption | (repeat (with_reducible first | exact Below.refl _ _ | assumption | refine Below.drew ?_ | refine Below.alloc ?_ (by first | omega | (simp <;> omega)) _ | refine Below.setCell ?_ (by first | omega | (simp <;> omega)) _ | refine below_drewN ?_ _)))); have hh := Has.below (by (repeat (with_reducible first | assumption | apply Has.alloc5 | apply Has.alloc2 | apply Has.alloc1 | apply Has.alloc3 | apply Has.drew | apply Has.drewN | apply Has.set_ | apply Has.allocx | exact Has.nil _))) hb; (try simp only [World.size_alloc, World.size_setCell, World.size_drew, World.heap_drewN] at hh); have hq := hh; simp only [Has, upd, World.size_alloc, World.size_setCell, World.size_drew, World.heap_drewN, and_true, true_and, ite_true, ite_false, and_self, Nat.add_right_cancel_iff, Nat.add_eq_left, Nat.left_eq_add, reduceCtorEq, Nat.reduceEqDiff, if_true, if_false] at hq; have hs := hb.size; (try simp only [World.size_alloc, World.size_setCell, World.size_drew, World.heap_drewN] at hs); have hn0 : w.heap.size ≠ w'.heap.size := (by omega); have hm0 : w'.heap.size ≠ w.heap.size := (by omega); clear hb))
  go_wp2_with fail
  go_ret2
  exact ⟨by rw [HM.out, ← cat3]; rfl, (by (first | with_reducible exact Below.refl _ _ | with_reducible assumption | (repeat (with_reducible first | exact Below.refl _ _ | assumption | refine Below.drew ?_ | refine Below.alloc ?_ (by first | omega | (simp <;> omega)) _ | refine Below.setCell ?_ (by first | omega | (simp <;> omega)) _ | refine below_drewN ?_ _))))⟩

set_option maxHeartbeats 1000000 in
theorem iSpotText_no (x y : Int) (w : World) (hg : goodB x y = false) :
    Calls Tryd.prog 8 #[.agg #[.int .i64 x, .int .i64 y]] w fun e w' => e = .returned (.tuple #[str [], .bool false]) ∧ Below w.heap.size w w' := by
  have hh := Has.nil w
  go_enter Tryd.func8, Tryd.ntmps8
  go_wp2_with (go_at_call 14; refine (iIsSpot_any _ _ _).mono ?_; rintro e w' ⟨rfl, hb⟩; have hz : w.heap.size + 1 ≤ w'.heap.size := (by have := hb.size; first | omega | (simp at this; omega)); have hB : Below w.heap.size w w' := (by refine Below.trans ?_ (hb.mono (by first | omega | (simp <;> omega))); (first | with_reducible exact Below.refl _ _ | with_reducible assumption | (repeat (with_reducible first | exact Below.refl _ _ | assumption | refine Below.drew ?_ | refine Below.alloc ?_ (by first | omega | (simp <;> omega)) _ | refine Below.setCell ?_ (by first | omega | (simp <;> omega)) _ | refine below_drewN ?_ _)))); have hh := Has.below (by (repeat (with_reducible first | assumption | apply Has.alloc5 | apply Has.alloc2 | apply Has.alloc1 | apply Has.alloc3 | apply Has.drew | apply Has.drewN | apply Has.set_ | apply Has.allocx | exact Has.nil _))) hb; (try simp only [World.size_alloc, World.size_setCell, World.size_drew, World.heap_drewN] at hh); have hq := hh; simp only [Has, upd, World.size_alloc, World.size_setCell, World.size_drew, World.heap_drewN, and_true, true_and, ite_true, ite_false, and_self, Nat.add_right_cancel_iff, Nat.add_eq_left, Nat.left_eq_add, reduceCtorEq, Nat.reduceEqDiff, if_true, if_false] at hq; have hs := hb.size; (try simp only [World.size_alloc, World.size_setCell, World.size_drew, World.heap_drewN] at hs); have hn0 : w.heap.size ≠ w'.heap.size := (by omega); have hm0 : w'.heap.size ≠ w.heap.size := (by omega); clear hb)
  go_ret2
  exact ⟨rfl, (by (first | with_reducible exact Below.refl _ _ | with_reducible assumption | (repeat (with_reducible first | exact Below.refl _ _ | assumption | refine Below.drew ?_ | refine Below.alloc ?_ (by first | omega | (simp <;> omega)) _ | refine Below.setCell ?_ (by first | omega | (simp <;> omega)) _ | refine below_drewN ?_ _))))⟩

set_option maxHeartbeats 1000000 in
theorem sSpotText_ok (x y : Nat) (w : World) (hg : goodB x y = true) (hx : x ≤ 1000000) (hy : y ≤ 1000000) :
    Calls Tryd.prog 9 #[.agg #[.int .i64 x, .int .i64 y]] w fun e w' => e = .returned (.tuple #[str (textL x y), .bool true]) ∧ Below w.heap.size w w' := by
  have hh := Has.nil w
  go_enter Tryd.func9, Tryd.ntmps9
  go_wp2_with (first | (go_at_call 57; refine (stGood_any _ _ _).mono ?_; rintro e w' ⟨rfl, hb⟩; have hz : w.heap.size + 1 ≤ w'.heap.size := (by have := hb.size; first | omega | (simp at this; omega)); have hB : Below w.heap.size w w' := (by refine Below.trans ?_ (hb.mono (by first | omega | (simp <;> omega))); (first | with_reducible exact Below.refl _ _ | with_reducible assumption | (repeat (with_reducible first | exact Below.refl _ _ | assumption | refine Below.drew ?_ | refine Below.alloc ?_ (by first | omega | (simp <;> omega)) _ | refine Below.setCell ?_ (by first | omega | (simp <;> omega)) _ | refine below_drewN ?_ _)))); have hh := Has.below (by (repeat (with_reducible first | assumption | apply Has.alloc5 | apply Has.alloc2 | apply Has.alloc1 | apply Has.alloc3 | apply Has.drew | apply Has.drewN | apply Has.set_ | apply Has.allocx | exact Has.nil _))) hb; (try simp only [World.size_alloc, World.size_setCell, World.size_drew, World.heap_drewN] at hh); have hq := hh; simp only [Has, upd, World.size_alloc, World.size_setCell, World.size_drew, World.heap_drewN, and_true, true_and, ite_true, ite_false, and_self, Nat.add_right_cancel_iff, Nat.add_eq_left, Nat.left_eq_add, reduceCtorEq, Nat.reduceEqDiff, if_true, if_false] at hq; have hs := hb.size; (try simp only [World.size_alloc, World.size_setCell, World.size_drew, World.heap_drewN] at hs); have hn0 : w.heap.size ≠ w'.heap.size := (by omega); have hm0 : w'.heap.size ≠ w.heap.size := (by omega); clear hb) | (go_at_call 58; refine (stText_any _ _ _ hx hy).mono ?_; rintro e w' ⟨rfl, hb⟩; have hz : w.heap.size + 1 ≤ w'.heap.size := (by have := hb.size; first | omega | (simp at this; omega)); have hB : Below w.heap.size w w' := (by refine Below.trans ?_ (hb.mono (by first | omega | (simp <;> omega))); (first | with_reducible exact Below.refl _ _ | with_reducible assumption | (repeat (with_reducible first | exact Below.refl _ _ | assumption | refine Below.drew ?_ | refine Below.alloc ?_ (by first | omega | (simp <;> omega)) _ | refine Below.setCell ?_ (by first | omega | (simp <;> omega)) _ | refine below_drewN ?_ _)))); have hh := Has.below (by (repeat (with_reducible first | assumption | apply Has.alloc5 | apply Has.alloc2 | apply Has.alloc1 | apply Has.alloc3 | apply Has.drew | apply Has.drewN | apply Has.set_ | apply Has.allocx | exact Has.nil _))) hb; (try simp only [World.size_alloc, World.size_setCell, World.size_drew, World.heap_drewN] at hh); have hq := hh; simp only [Has, upd, World.size_alloc, World.size_setCell, World.size_drew, World.heap_drewN, and_true, true_and, ite_true, ite_false, and_self, Nat.add_right_cancel_iff, Nat.add_eq_left, Nat.left_eq_add, reduceCtorEq, Nat.reduceEqDiff, if_true, if_false] at hq; have hs := hb.size; (try simp only [World.size_alloc, World.size_setCell, World.size_drew, World.heap_drewN] at hs); have hn0 : w.heap.size ≠ w'.heap.size := (by omega); have hm0 : w'.heap.size ≠ w.heap.size := (by omega); clear hb))
  go_ret2
  exact ⟨rfl, (by (first | with_reducible exact Below.refl _ _ | with_reducible assumption | (repeat (with_reducible first | exact Below.refl _ _ | assumption | refine Below.drew ?_ | refine Below.alloc ?_ (by first | omega | (simp <;> omega)) _ | refine Below.setCell ?_ (by first | omega | (simp <;> omega)) _ | refine below_drewN ?_ _))))⟩

set_option maxHeartbeats 1000000 in
theorem sSpotText_no (x y : Int) (w : World) (hg : goodB x y = false) :
    Calls Tryd.prog 9 #[.agg #[.int .i64 x, .int .i64 y]] w fun e w' => e = .returned (.tuple #[str [], .bool false]) ∧ Below w.heap.size w w' := by
  have hh := Has.nil w
  go_enter Tryd.func9, Tryd.ntmps9
  go_wp2_with (go_at_call 57; refine (stGood_any _ _ _).mono ?_; rintro e w' ⟨rfl, hb⟩; have hz : w.heap.size + 1 ≤ w'.heap.size := (by have := hb.size; first | omega | (simp at this; omega)); have hB : Below w.heap.size w w' := (by refine Below.trans ?_ (hb.mono (by first | omega | (simp <;> omega))); (first | with_reducible exact Below.refl _ _ | with_reducible assumption | (repeat (with_reducible first | exact Below.refl _ _ | assumption | refine Below.drew ?_ | refine Below.alloc ?_ (by first | omega | (simp <;> omega)) _ | refine Below.setCell ?_ (by first | omega | (simp <;> omega)) _ | refine below_drewN ?_ _)))); have hh := Has.below (by (repeat (with_reducible first | assumption | apply Has.alloc5 | apply Has.alloc2 | apply Has.alloc1 | apply Has.alloc3 | apply Has.drew | apply Has.drewN | apply Has.set_ | apply Has.allocx | exact Has.nil _))) hb; (try simp only [World.size_alloc, World.size_setCell, World.size_drew, World.heap_drewN] at hh); have hq := hh; simp only [Has, upd, World.size_alloc, World.size_setCell, World.size_drew, World.heap_drewN, and_true, true_and, ite_true, ite_false, and_self, Nat.add_right_cancel_iff, Nat.add_eq_left, Nat.left_eq_add, reduceCtorEq, Nat.reduceEqDiff, if_true, if_false] at hq; have hs := hb.size; (try simp only [World.size_alloc, World.size_setCell, World.size_drew, World.heap_drewN] at hs); have hn0 : w.heap.size ≠ w'.heap.size := (by omega); have hm0 : w'.heap.size ≠ w.heap.size := (by omega); clear hb)
  go_ret2
  exact ⟨rfl, (by (first | with_reducible exact Below.refl _ _ | with_reducible assumption | (repeat (with_reducible first | exact Below.refl _ _ | assumption | refine Below.drew ?_ | refine Below.alloc ?_ (by first | omega | (simp <;> omega)) _ | refine Below.setCell ?_ (by first | omega | (simp <;> omega)) _ | refine below_drewN ?_ _))))⟩

theorem mSpotText_cases (x y : Int) : (∃ a b : Nat, x = a ∧ y = b ∧ goodB x y = true ∧ a ≤ 1000000 ∧ b ≤ 1000000 ∧ mSpotText x y = (textL a b, true)) ∨ (goodB x y = false ∧ mSpotText x y = ([], false)) := by
  rcases tf (goodB x y) with hg | hg
  · left
    have h := hg
    rw [goodB_iff] at h
    refine ⟨x.toNat, y.toNat, by omega, by omega, hg, by omega, by omega, ?_⟩
    rw [mSpotText, if_pos hg]
  · right
    exact ⟨hg, by rw [mSpotText, if_neg (by rw [hg]; decide)]⟩
theorem iSpotText_eq (x y : Int) (t : List UInt8) (ok : Bool) (w : World) (h : mSpotText x y = (t, ok)) (htab : Tab w) :
    Calls Tryd.prog 8 #[.agg #[.int .i64 x, .int .i64 y]] w fun e w' => e = .returned (.tuple #[str t, .bool ok]) ∧ Below w.heap.size w w' := by
  rcases mSpotText_cases x y with ⟨a, b, rfl, rfl, hg, ha, hb, hm⟩ | ⟨hg, hm⟩
  all_goals
    rw [h] at hm
    injection hm with h1 h2
    subst h1 h2
  · exact iSpotText_ok a b w hg ha hb htab
  · exact iSpotText_no x y w hg
theorem sSpotText_eq (x y : Int) (t : List UInt8) (ok : Bool) (w : World) (h : mSpotText x y = (t, ok)) :
    Calls Tryd.prog 9 #[.agg #[.int .i64 x, .int .i64 y]] w fun e w' => e = .returned (.tuple #[str t, .bool ok]) ∧ Below w.heap.size w w' := by
  rcases mSpotText_cases x y with ⟨a, b, rfl, rfl, hg, ha, hb, hm⟩ | ⟨hg, hm⟩
  all_goals
    rw [h] at hm
    injection hm with h1 h2
    subst h1 h2
  · exact sSpotText_ok a b w hg ha hb
  · exact sSpotText_no x y w hg

end Go.Proofs.YtgpjnffomheemaaDoor

