import Derived.Test.YtgpjnffomheemaaDoorJ15Txt6
import Derived.Test.YtgpjnffomheemaaDoorBase2
/- Texts: eighths and spots that are written (the reference's stPart, stText). -/
namespace Go.Proofs.YtgpjnffomheemaaDoor
open Go.RowKit
set_option linter.unusedVariables false
set_option linter.unusedSimpArgs false
set_option maxRecDepth 100000

theorem l1Num_eq (n : Nat) (w : World) (L : List UInt8) (hm : n ≤ 1000000) (h : numL n = L) :
    Calls Tryd.prog 114 #[.int .i64 n] w fun e w' => e = .returned (str L) ∧ Below w.heap.size w w' := by
  have := l1Num_any n n w (Nat.le_refl _) hm
  rw [h] at this
  exact this
theorem cat_one (a : List UInt8) (b : UInt8) : Value.string ((⟨a.toArray⟩ : ByteArray) ++ ⟨#[b]⟩) = str (a ++ [b]) := cat_str a [b]
theorem cat3 (a : List UInt8) (c : UInt8) (b : List UInt8) : Value.string ((⟨a.toArray⟩ : ByteArray) ++ ⟨#[c]⟩ ++ ⟨b.toArray⟩) = str (a ++ c :: b) := by
  rw [str]
  congr 1
  apply ByteArray.ext
  simp
theorem numL_le7 {n : Nat} (h : n ≤ 1000000) : (numL n).length ≤ 7 := numL_len 7 n (by omega) (by omega)

set_option maxHeartbeats 1000000 in
theorem stPart_any (n : Nat) (w : World) (hm : n ≤ 1000000) :
    Calls Tryd.prog 109 #[.int .i64 n] w fun e w' => e = .returned (str (partL n)) ∧ Below w.heap.size w w' := by
  obtain ⟨A, hA⟩ : ∃ A, numL (n / 8) = A := ⟨_, rfl⟩
  obtain ⟨B, hB0⟩ : ∃ B, numL (n % 8) = B := ⟨_, rfl⟩
  have lA := numL_le7 (show n / 8 ≤ 1000000 by omega)
  have lB := numL_le7 (show n % 8 ≤ 1000000 by omega)
  rw [hA] at lA
  rw [hB0] at lB
  have cA := fun W => l1Num_eq (n / 8) W A (by omega) hA
  have cB := fun W => l1Num_eq (n % 8) W B (by omega) hB0
  have q1 : ((n / 8 : Nat) : Int) = (n : Int) / 8 := by omega
  rw [q1] at cA
  have h8 : ¬ (8 : Int) = 0 := by omega
  have hh := Has.nil w
  by_cases h0 : n % 8 = 0
  · have HM : Hid (partL n = A) := by show _ = _; rw [partL, if_pos h0, hA]
    have e1 : (n : Int).tmod 8 = 0 := by rw [Int.tmod_eq_emod_of_nonneg (by omega)]; omega
    have e2 : (n : Int) % 8 = 0 := by omega
    clear h0 hA hB0 cB q1
    go_enter Tryd.func109, Tryd.ntmps109
    go_wp2_with fail
    (go_at_call 114; refine (cA _).mono ?_; rintro e w' ⟨rfl, hb⟩; have hz : w.heap.size ≤ w'.heap.size := (by have := hb.size; first | omega | (simp at this; omega)); have hB : Below w.heap.size w w' := (by refine Below.trans ?_ (hb.mono (by first | omega | (simp <;> omega))); (first | with_reducible exact Below.refl _ _ | with_reducible assumption | (repeat (with_reducible first | exact Below.refl _ _ | assumption | refine Below.drew ?_ | refine Below.alloc ?_ (by first | omega | (simp <;> omega)) _ | refine Below.setCell ?_ (by first | omega | (simp <;> omega)) _ | refine below_drewN ?_ _)))); have hh := Has.below (by (repeat (with_reducible first | assumption | apply Has.alloc5 | apply Has.alloc2 | apply Has.alloc1 | apply Has.alloc3 | apply Has.drew | apply Has.drewN | apply Has.set_ | apply Has.allocx | exact Has.nil _))) hb; (try simp only [World.size_alloc, World.size_setCell, World.size_drew, World.heap_drewN] at hh); have hq := hh; simp only [Has, upd, World.size_alloc, World.size_setCell, World.size_drew, World.heap_drewN, and_true, true_and, ite_true, ite_false, and_self, Nat.add_right_cancel_iff, Nat.add_eq_left, Nat.left_eq_add, reduceCtorEq, Nat.reduceEqDiff, if_true, if_false] at hq; have hs := hb.size; (try simp only [World.size_alloc, World.size_setCell, World.size_drew, World.heap_drewN] at hs); clear hb)
    go_wp2_with fail
    go_ret
    exact ⟨by rw [HM.out]; rfl, (by (first | with_reducible exact Below.refl _ _ | with_reducible assumption | (repeat (with_reducible first | exact Below.refl _ _ | assumption | refine Below.drew ?_ | refine Below.alloc ?_ (by first | omega | (simp <;> omega)) _ | refine Below.setCell ?_ (by first | omega | (simp <;> omega)) _ | refine below_drewN ?_ _))))⟩
  · obtain ⟨d, hd⟩ : ∃ d, n % 8 = d := ⟨_, rfl⟩
    rw [hd] at cB h0
    have HM : Hid (partL n = A ++ 43 :: B) := by show _ = _; rw [partL, if_neg (by omega), hA, hB0]
    have e1 : (n : Int).tmod 8 = (d : Int) := by rw [Int.tmod_eq_emod_of_nonneg (by omega)]; omega
    have e2 : (n : Int) % 8 = (d : Int) := by omega
    have e3 : ¬ (d : Int) = 0 := by omega
    have e4 : ((d : Int) == 0) = false := by simp; omega
    have l1 : ¬ 9223372036854775807 < A.length + 1 := by omega
    have l2 : ¬ 9223372036854775807 < A.length + 1 + B.length := by omega
    clear h0 hA hB0 q1 hd
    go_enter Tryd.func109, Tryd.ntmps109
    go_wp2_with fail
    (go_at_call 114; refine (cA _).mono ?_; rintro e w' ⟨rfl, hb⟩; have hz : w.heap.size ≤ w'.heap.size := (by have := hb.size; first | omega | (simp at this; omega)); have hB : Below w.heap.size w w' := (by refine Below.trans ?_ (hb.mono (by first | omega | (simp <;> omega))); (first | with_reducible exact Below.refl _ _ | with_reducible assumption | (repeat (with_reducible first | exact Below.refl _ _ | assumption | refine Below.drew ?_ | refine Below.alloc ?_ (by first | omega | (simp <;> omega)) _ | refine Below.setCell ?_ (by first | omega | (simp <;> omega)) _ | refine below_drewN ?_ _)))); have hh := Has.below (by (repeat (with_reducible first | assumption | apply Has.alloc5 | apply Has.alloc2 | apply Has.alloc1 | apply Has.alloc3 | apply Has.drew | apply Has.drewN | apply Has.set_ | apply Has.allocx | exact Has.nil _))) hb; (try simp only [World.size_alloc, World.size_setCell, World.size_drew, World.heap_drewN] at hh); have hq := hh; simp only [Has, upd, World.size_alloc, World.size_setCell, World.size_drew, World.heap_drewN, and_true, true_and, ite_true, ite_false, and_self, Nat.add_right_cancel_iff, Nat.add_eq_left, Nat.left_eq_add, reduceCtorEq, Nat.reduceEqDiff, if_true, if_false] at hq; have hs := hb.size; (try simp only [World.size_alloc, World.size_setCell, World.size_drew, World.heap_drewN] at hs); clear hb)
    go_wp2_with fail
    (go_at_call 114; refine (cB _).mono ?_; rintro e w' ⟨rfl, hb⟩; have hz : w.heap.size ≤ w'.heap.size := (by have := hb.size; first | omega | (simp at this; omega)); have hB : Below w.heap.size w w' := (by refine Below.trans ?_ (hb.mono (by first | omega | (simp <;> omega))); (first | with_reducible exact Below.refl _ _ | with_reducible assumption | (repeat (with_reducible first | exact Below.refl _ _ | assumption | refine Below.drew ?_ | refine Below.alloc ?_ (by first | omega | (simp <;> omega)) _ | refine Below.setCell ?_ (by first | omega | (simp <;> omega)) _ | refine below_drewN ?_ _)))); have hh := Has.below (by (repeat (with_reducible first | assumption | apply Has.alloc5 | apply Has.alloc2 | apply Has.alloc1 | apply Has.alloc3 | apply Has.drew | apply Has.drewN | apply Has.set_ | apply Has.allocx | exact Has.nil _))) hb; (try simp only [World.size_alloc, World.size_setCell, World.size_drew, World.heap_drewN] at hh); have hq := hh; simp only [Has, upd, World.size_alloc, World.size_setCell, World.size_drew, World.heap_drewN, and_true, true_and, ite_true, ite_false, and_self, Nat.add_right_cancel_iff, Nat.add_eq_left, Nat.left_eq_add, reduceCtorEq, Nat.reduceEqDiff, if_true, if_false] at hq; have hs := hb.size; (try simp only [World.size_alloc, World.size_setCell, World.size_drew, World.heap_drewN] at hs); clear hb)
    go_wp2_with fail
    go_ret
    exact ⟨by rw [HM.out, ← cat3]; rfl, (by (first | with_reducible exact Below.refl _ _ | with_reducible assumption | (repeat (with_reducible first | exact Below.refl _ _ | assumption | refine Below.drew ?_ | refine Below.alloc ?_ (by first | omega | (simp <;> omega)) _ | refine Below.setCell ?_ (by first | omega | (simp <;> omega)) _ | refine below_drewN ?_ _))))⟩

theorem partL_le {n : Nat} (h : n ≤ 1000000) : (partL n).length ≤ 15 := by
  have h1 := numL_le7 (show n / 8 ≤ 1000000 by omega)
  have h2 := numL_le7 (show n % 8 ≤ 1000000 by omega)
  unfold partL
  split
  · omega
  · simp; omega
theorem stPart_eq (n : Nat) (w : World) (L : List UInt8) (hm : n ≤ 1000000) (h : partL n = L) :
    Calls Tryd.prog 109 #[.int .i64 n] w fun e w' => e = .returned (str L) ∧ Below w.heap.size w w' := by
  have := stPart_any n w hm
  rw [h] at this
  exact this

set_option maxHeartbeats 1000000 in
theorem stText_any (x y : Nat) (w : World) (hx : x ≤ 1000000) (hy : y ≤ 1000000) :
    Calls Tryd.prog 58 #[.agg #[.int .i64 x, .int .i64 y]] w fun e w' => e = .returned (str (textL x y)) ∧ Below w.heap.size w w' := by
  have lA := partL_le hx
  have lB := partL_le hy
  have HM : Hid (textL x y = partL x ++ 44 :: partL y) := by show _ = _; rw [textL]
  have l1 : ¬ 9223372036854775807 < (partL x).length + 1 := by omega
  have l2 : ¬ 9223372036854775807 < (partL x).length + 1 + (partL y).length := by omega
  have hh := Has.nil w
  clear lA lB
  go_enter Tryd.func58, Tryd.ntmps58
  go_wp2_with fail
  go_region_held3 (fun w' => w'.cell? ⟨w.heap.size, 0, none⟩ = some (.int .i64 x) ∧ w'.cell? ⟨w.heap.size, 1, none⟩ = some (.int .i64 y)) (first | (go_keep; done) | ((repeat' apply And.intro) <;> (apply Has.get; (focus (repeat (with_reducible first | assumption | apply Has.alloc5 | apply Has.alloc2 | apply Has.alloc1 | apply Has.alloc3 | apply Has.drew | apply Has.drewN | apply Has.set_ | apply Has.allocx | exact Has.nil _))); simp [upd, *]))) (first | (go_at_call 109; refine (stPart_any _ _ (by assumption)).mono ?_; rintro e w' ⟨rfl, hb⟩; have hz : w.heap.size + 1 ≤ w'.heap.size := (by have := hb.size; first | omega | (simp at this; omega)); have hB : Below w.heap.size w w' := (by refine Below.trans ?_ (hb.mono (by first | omega | (simp <;> omega))); (first | with_reducible exact Below.refl _ _ | with_reducible assumption | (repeat (with_reducible first | exact Below.refl _ _ | assumption | refine Below.drew ?_ | refine Below.alloc ?_ (by first | omega | (simp <;> omega)) _ | refine Below.setCell ?_ (by first | omega | (simp <;> omega)) _ | refine below_drewN ?_ _)))); have hh := Has.below (by (repeat (with_reducible first | assumption | apply Has.alloc5 | apply Has.alloc2 | apply Has.alloc1 | apply Has.alloc3 | apply Has.drew | apply Has.drewN | apply Has.set_ | apply Has.allocx | exact Has.nil _))) hb; (try simp only [World.size_alloc, World.size_setCell, World.size_drew, World.heap_drewN] at hh); have hq := hh; simp only [Has, upd, World.size_alloc, World.size_setCell, World.size_drew, World.heap_drewN, and_true, true_and, ite_true, ite_false, and_self, Nat.add_right_cancel_iff, Nat.add_eq_left, Nat.left_eq_add, reduceCtorEq, Nat.reduceEqDiff, if_true, if_false] at hq; have hs := hb.size; (try simp only [World.size_alloc, World.size_setCell, World.size_drew, World.heap_drewN] at hs); have hn0 : w.heap.size ≠ w'.heap.size := (by omega); have hm0 : w'.heap.size ≠ w.heap.size := (by omega); clear hb))
  go_wp2_with fail
  go_ret
  exact ⟨by rw [HM.out, ← cat3]; rfl, (by (first | with_reducible exact Below.refl _ _ | with_reducible assumption | (repeat (with_reducible first | exact Below.refl _ _ | assumption | refine Below.drew ?_ | refine Below.alloc ?_ (by first | omega | (simp <;> omega)) _ | refine Below.setCell ?_ (by first | omega | (simp <;> omega)) _ | refine below_drewN ?_ _))))⟩

end Go.Proofs.YtgpjnffomheemaaDoor

