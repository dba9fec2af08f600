import Derived.Test.YtgpjnffomheemaaDoorJ17Wrt1
import Derived.Test.YtgpjnffomheemaaDoorMove
/- Texts that are written: moves. -/
namespace Go.Proofs.YtgpjnffomheemaaDoor
open Go.RowKit
set_option linter.unusedVariables false
set_option linter.unusedSimpArgs false
set_option maxRecDepth 100000

def moveL (x1 y1 x2 y2 n : Nat) : List UInt8 := textL x1 y1 ++ 32 :: (textL x2 y2 ++ 32 :: numL n)
theorem textL_le {x y : Nat} (hx : x ≤ 1000000) (hy : y ≤ 1000000) : (textL x y).length ≤ 31 := by
  have h1 := partL_le hx
  have h2 := partL_le hy
  rw [textL]; simp; omega
theorem cat5 (a : List UInt8) (c : UInt8) (b : List UInt8) (e : UInt8) (d : List UInt8) : Value.string ((⟨a.toArray⟩ : ByteArray) ++ ⟨#[c]⟩ ++ ⟨b.toArray⟩ ++ ⟨#[e]⟩ ++ ⟨d.toArray⟩) = str (a ++ c :: (b ++ e :: d)) := by
  rw [str]
  congr 1
  apply ByteArray.ext
  simp
theorem num_lt {L : List UInt8} {n : Nat} (h : L.length ≤ n) (k : Nat) (hk : n + k ≤ 1000) : ¬ 9223372036854775807 < L.length + k := by omega

set_option maxHeartbeats 2000000 in
theorem mvText_any (x1 y1 x2 y2 n : Nat) (w : World) (h1 : x1 ≤ 1000000) (h2 : y1 ≤ 1000000) (h3 : x2 ≤ 1000000) (h4 : y2 ≤ 1000000) (h5 : n ≤ 1000000) :
    Calls Tryd.prog 76 #[.agg #[.int .i64 x1, .int .i64 y1, .int .i64 x2, .int .i64 y2, .int .i64 n]] w fun e w' => e = .returned (str (moveL x1 y1 x2 y2 n)) ∧ Below w.heap.size w w' := by
  have lA := textL_le h1 h2
  have lB := textL_le h3 h4
  have lC := numL_le7 h5
  have HM : Hid (moveL x1 y1 x2 y2 n = textL x1 y1 ++ 32 :: (textL x2 y2 ++ 32 :: numL n)) := by show _ = _; rw [moveL]
  have l1 : ¬ 9223372036854775807 < (textL x1 y1).length + 1 := by omega
  have l2 : ¬ 9223372036854775807 < (textL x1 y1).length + 1 + (textL x2 y2).length := by omega
  have l3 : ¬ 9223372036854775807 < (textL x1 y1).length + 1 + (textL x2 y2).length + 1 := by omega
  have l4 : ¬ 9223372036854775807 < (textL x1 y1).length + 1 + (textL x2 y2).length + 1 + (numL n).length := by omega
  have cN := fun W => l1Num_any n n W (Nat.le_refl _) h5
  have hh := Has.nil w
  clear lA lB lC
  go_enter Tryd.func76, Tryd.ntmps76
  go_wp2_with fail
  go_region_held3 (fun w' => w'.cell? ⟨w.heap.size, 0, none⟩ = some (.int .i64 x1) ∧ w'.cell? ⟨w.heap.size, 1, none⟩ = some (.int .i64 y1) ∧ w'.cell? ⟨w.heap.size, 2, none⟩ = some (.int .i64 x2) ∧ w'.cell? ⟨w.heap.size, 3, none⟩ = some (.int .i64 y2) ∧ w'.cell? ⟨w.heap.size, 4, none⟩ = some (.int .i64 n)) (first | (go_keep; done) | ((repeat' apply And.intro) <;> (apply Has.get; (focus (repeat (with_reducible first | assumption | apply Has.alloc5 | apply Has.alloc2 | apply Has.alloc1 | apply Has.alloc3 | apply Has.drew | apply Has.drewN | apply Has.set_ | apply Has.allocx | exact Has.nil _))); simp [upd, *]))) (first | (go_at_call 58; refine (stText_any _ _ _ (by assumption) (by assumption)).mono ?_; rintro e w' ⟨rfl, hb⟩; have hz : w.heap.size + 1 ≤ w'.heap.size := (by have := hb.size; first | omega | (simp at this; omega)); have hB : Below w.heap.size w w' := (by refine Below.trans ?_ (hb.mono (by first | omega | (simp <;> omega))); (first | with_reducible exact Below.refl _ _ | with_reducible assumption | (repeat (with_reducible first | exact Below.refl _ _ | assumption | refine Below.drew ?_ | refine Below.alloc ?_ (by first | omega | (simp <;> omega)) _ | refine Below.setCell ?_ (by first | omega | (simp <;> omega)) _ | refine below_drewN ?_ _)))); have hh := Has.below (by (repeat (with_reducible first | assumption | apply Has.alloc5 | apply Has.alloc2 | apply Has.alloc1 | apply Has.alloc3 | apply Has.drew | apply Has.drewN | apply Has.set_ | apply Has.allocx | exact Has.nil _))) hb; (try simp only [World.size_alloc, World.size_setCell, World.size_drew, World.heap_drewN] at hh); have hq := hh; simp only [Has, upd, World.size_alloc, World.size_setCell, World.size_drew, World.heap_drewN, and_true, true_and, ite_true, ite_false, and_self, Nat.add_right_cancel_iff, Nat.add_eq_left, Nat.left_eq_add, reduceCtorEq, Nat.reduceEqDiff, if_true, if_false] at hq; have hs := hb.size; (try simp only [World.size_alloc, World.size_setCell, World.size_drew, World.heap_drewN] at hs); have hn0 : w.heap.size ≠ w'.heap.size := (by omega); have hm0 : w'.heap.size ≠ w.heap.size := (by omega); clear hb) | (go_at_call 114; refine (cN _).mono ?_; rintro e w' ⟨rfl, hb⟩; have hz : w.heap.size + 1 ≤ w'.heap.size := (by have := hb.size; first | omega | (simp at this; omega)); have hB : Below w.heap.size w w' := (by refine Below.trans ?_ (hb.mono (by first | omega | (simp <;> omega))); (first | with_reducible exact Below.refl _ _ | with_reducible assumption | (repeat (with_reducible first | exact Below.refl _ _ | assumption | refine Below.drew ?_ | refine Below.alloc ?_ (by first | omega | (simp <;> omega)) _ | refine Below.setCell ?_ (by first | omega | (simp <;> omega)) _ | refine below_drewN ?_ _)))); have hh := Has.below (by (repeat (with_reducible first | assumption | apply Has.alloc5 | apply Has.alloc2 | apply Has.alloc1 | apply Has.alloc3 | apply Has.drew | apply Has.drewN | apply Has.set_ | apply Has.allocx | exact Has.nil _))) hb; (try simp only [World.size_alloc, World.size_setCell, World.size_drew, World.heap_drewN] at hh); have hq := hh; simp only [Has, upd, World.size_alloc, World.size_setCell, World.size_drew, World.heap_drewN, and_true, true_and, ite_true, ite_false, and_self, Nat.add_right_cancel_iff, Nat.add_eq_left, Nat.left_eq_add, reduceCtorEq, Nat.reduceEqDiff, if_true, if_false] at hq; have hs := hb.size; (try simp only [World.size_alloc, World.size_setCell, World.size_drew, World.heap_drewN] at hs); have hn0 : w.heap.size ≠ w'.heap.size := (by omega); have hm0 : w'.heap.size ≠ w.heap.size := (by omega); clear hb))
  go_wp2_with fail
  go_ret
  exact ⟨by rw [HM.out, ← cat5]; rfl, (by (first | with_reducible exact Below.refl _ _ | with_reducible assumption | (repeat (with_reducible first | exact Below.refl _ _ | assumption | refine Below.drew ?_ | refine Below.alloc ?_ (by first | omega | (simp <;> omega)) _ | refine Below.setCell ?_ (by first | omega | (simp <;> omega)) _ | refine below_drewN ?_ _))))⟩

def mMoveText (a b c d k : Int) : List UInt8 × Bool := if goodM a b c d k then (moveL a.toNat b.toNat c.toNat d.toNat k.toNat, true) else ([], false)

set_option maxHeartbeats 2000000 in
theorem iMoveText_ok (x1 y1 x2 y2 n : Nat) (w : World) (hg : goodM x1 y1 x2 y2 n = true) (g1 : goodB x1 y1 = true) (g2 : goodB x2 y2 = true) (h1 : x1 ≤ 1000000) (h2 : y1 ≤ 1000000) (h3 : x2 ≤ 1000000) (h4 : y2 ≤ 1000000) (h5 : n ≤ 1000000) (htab : Tab w) :
    Calls Tryd.prog 23 #[.agg #[.int .i64 x1, .int .i64 y1, .int .i64 x2, .int .i64 y2, .int .i64 n]] w fun e w' => e = .returned (.tuple #[str (moveL x1 y1 x2 y2 n), .bool true]) ∧ Below w.heap.size w w' := by
  have lA := textL_le h1 h2
  have lB := textL_le h3 h4
  have lC := numL_le7 h5
  have HM : Hid (moveL x1 y1 x2 y2 n = textL x1 y1 ++ 32 :: (textL x2 y2 ++ 32 :: numL n)) := by show _ = _; rw [moveL]
  have l1 : ¬ 9223372036854775807 < (textL x1 y1).length + 1 := by omega
  have l2 : ¬ 9223372036854775807 < (textL x1 y1).length + 1 + (textL x2 y2).length := by omega
  have l3 : ¬ 9223372036854775807 < (textL x1 y1).length + 1 + (textL x2 y2).length + 1 := by omega
  have l4 : ¬ 9223372036854775807 < (textL x1 y1).length + 1 + (textL x2 y2).length + 1 + (numL n).length := by omega
  have cN := fun W (h : Below w.heap.size w W) => itoa_any n W h5 (htab.on h)
  have cS := fun (x y : Nat) W (hg : goodB x y = true) (h1 : x ≤ 1000000) (h2 : y ≤ 1000000) (h : Below w.heap.size w W) => iSpotText_ok x y W hg h1 h2 (htab.on h)
  have hh := Has.nil w
  clear lA lB lC htab
  go_enter Tryd.func23, Tryd.ntmps23
  go_wp2_with (first | (go_at_call 27; refine (iIsMove_any _ _ _ _ _ _).mono ?_; rintro e w' ⟨rfl, hb⟩; have hz : w.heap.size + 1 ≤ w'.heap.size := (by have := hb.size; first | omega | (simp at this; omega)); have hB : Below w.heap.size w w' := (by refine Below.trans ?_ (hb.mono (by first | omega | (simp <;> omega))); (first | with_reducible exact Below.refl _ _ | with_reducible assumption | (repeat (with_reducible first | exact Below.refl _ _ | assumption | refine Below.drew ?_ | refine Below.alloc ?_ (by first | omega | (simp <;> omega)) _ | refine Below.setCell ?_ (by first | omega | (simp <;> omega)) _ | refine below_drewN ?_ _)))); have hh := Has.below (by (repeat (with_reducible first | assumption | apply Has.alloc5 | apply Has.alloc2 | apply Has.alloc1 | apply Has.alloc3 | apply Has.drew | apply Has.drewN | apply Has.set_ | apply Has.allocx | exact Has.nil _))) hb; (try simp only [World.size_alloc, World.size_setCell, World.size_drew, World.heap_drewN] at hh); have hq := hh; simp only [Has, upd, World.size_alloc, World.size_setCell, World.size_drew, World.heap_drewN, and_true, true_and, ite_true, ite_false, and_self, Nat.add_right_cancel_iff, Nat.add_eq_left, Nat.left_eq_add, reduceCtorEq, Nat.reduceEqDiff, if_true, if_false] at hq; have hs := hb.size; (try simp only [World.size_alloc, World.size_setCell, World.size_drew, World.heap_drewN] at hs); have hn0 : w.heap.size ≠ w'.heap.size := (by omega); have hm0 : w'.heap.size ≠ w.heap.size := (by omega); clear hb) | (go_at_call 8; refine (cS _ _ _ (by assumption) (by assumption) (by assumption) (by (first | with_reducible exact Below.refl _ _ | with_reducible assumption | (repeat (with_reducible first | exact Below.refl _ _ | assumption | refine Below.drew ?_ | refine Below.alloc ?_ (by first | omega | (simp <;> omega)) _ | refine Below.setCell ?_ (by first | omega | (simp <;> omega)) _ | refine below_drewN ?_ _))))).mono ?_; rintro e w' ⟨rfl, hb⟩; have hz : w.heap.size + 1 ≤ w'.heap.size := (by have := hb.size; first | omega | (simp at this; omega)); have hB : Below w.heap.size w w' := (by refine Below.trans ?_ (hb.mono (by first | omega | (simp <;> omega))); (first | with_reducible exact Below.refl _ _ | with_reducible assumption | (repeat (with_reducible first | exact Below.refl _ _ | assumption | refine Below.drew ?_ | refine Below.alloc ?_ (by first | omega | (simp <;> omega)) _ | refine Below.setCell ?_ (by first | omega | (simp <;> omega)) _ | refine below_drewN ?_ _)))); have hh := Has.below (by (repeat (with_reducible first | assumption | apply Has.alloc5 | apply Has.alloc2 | apply Has.alloc1 | apply Has.alloc3 | apply Has.drew | apply Has.drewN | apply Has.set_ | apply Has.allocx | exact Has.nil _))) hb; (try simp only [World.size_alloc, World.size_setCell, World.size_drew, World.heap_drewN] at hh); have hq := hh; simp only [Has, upd, World.size_alloc, World.size_setCell, World.size_drew, World.heap_drewN, and_true, true_and, ite_true, ite_false, and_self, Nat.add_right_cancel_iff, Nat.add_eq_left, Nat.left_eq_add, reduceCtorEq, Nat.reduceEqDiff, if_true, if_false] at hq; have hs := hb.size; (try simp only [World.size_alloc, World.size_setCell, World.size_drew, World.heap_drewN] at hs); have hn0 : w.heap.size ≠ w'.heap.size := (by omega); have hm0 : w'.heap.size ≠ w.heap.size := (by omega); clear hb) | (go_at_call 74; refine (cN _ (by (first | with_reducible exact Below.refl _ _ | with_reducible assumption | (repeat (with_reducible first | exact Below.refl _ _ | assumption | refine Below.drew ?_ | refine Below.alloc ?_ (by first | omega | (simp <;> omega)) _ | refine Below.setCell ?_ (by first | omega | (simp <;> omega)) _ | refine below_drewN ?_ _))))).mono ?_; rintro e w' ⟨rfl, hb⟩; have hz : w.heap.size + 1 ≤ w'.heap.size := (by have := hb.size; first | omega | (simp at this; omega)); have hB : Below w.heap.size w w' := (by refine Below.trans ?_ (hb.mono (by first | omega | (simp <;> omega))); (first | with_reducible exact Below.refl _ _ | with_reducible assumption | (repeat (with_reducible first | exact Below.refl _ _ | assumption | refine Below.drew ?_ | refine Below.alloc ?_ (by first | omega | (simp <;> omega)) _ | refine Below.setCell ?_ (by first | omega | (simp <;> omega)) _ | refine below_drewN ?_ _)))); have hh := Has.below (by (repeat (with_reducible first | assumption | apply Has.alloc5 | apply Has.alloc2 | apply Has.alloc1 | apply Has.alloc3 | apply Has.drew | apply Has.drewN | apply Has.set_ | apply Has.allocx | exact Has.nil _))) hb; (try simp only [World.size_alloc, World.size_setCell, World.size_drew, World.heap_drewN] at hh); have hq := hh; simp only [Has, upd, World.size_alloc, World.size_setCell, World.size_drew, World.heap_drewN, and_true, true_and, ite_true, ite_false, and_self, Nat.add_right_cancel_iff, Nat.add_eq_left, Nat.left_eq_add, reduceCtorEq, Nat.reduceEqDiff, if_true, if_false] at hq; have hs := hb.size; (try simp only [World.size_alloc, World.size_setCell, World.size_drew, World.heap_drewN] at hs); have hn0 : w.heap.size ≠ w'.heap.size := (by omega); have hm0 : w'.heap.size ≠ w.heap.size := (by omega); clear hb))
  go_ret2
  exact ⟨by rw [HM.out, ← cat5]; rfl, (by (first | with_reducible exact Below.refl _ _ | with_reducible assumption | (repeat (with_reducible first | exact Below.refl _ _ | assumption | refine Below.drew ?_ | refine Below.alloc ?_ (by first | omega | (simp <;> omega)) _ | refine Below.setCell ?_ (by first | omega | (simp <;> omega)) _ | refine below_drewN ?_ _))))⟩

set_option maxHeartbeats 1000000 in
theorem iMoveText_no (a b c d k : Int) (w : World) (hg : goodM a b c d k = false) :
    Calls Tryd.prog 23 #[.agg #[.int .i64 a, .int .i64 b, .int .i64 c, .int .i64 d, .int .i64 k]] w fun e w' => e = .returned (.tuple #[str [], .bool false]) ∧ Below w.heap.size w w' := by
  have hh := Has.nil w
  go_enter Tryd.func23, Tryd.ntmps23
  go_wp2_with (go_at_call 27; refine (iIsMove_any _ _ _ _ _ _).mono ?_; rintro e w' ⟨rfl, hb⟩; have hz : w.heap.size + 1 ≤ w'.heap.size := (by have := hb.size; first | omega | (simp at this; omega)); have hB : Below w.heap.size w w' := (by refine Below.trans ?_ (hb.mono (by first | omega | (simp <;> omega))); (first | with_reducible exact Below.refl _ _ | with_reducible assumption | (repeat (with_reducible first | exact Below.refl _ _ | assumption | refine Below.drew ?_ | refine Below.alloc ?_ (by first | omega | (simp <;> omega)) _ | refine Below.setCell ?_ (by first | omega | (simp <;> omega)) _ | refine below_drewN ?_ _)))); have hh := Has.below (by (repeat (with_reducible first | assumption | apply Has.alloc5 | apply Has.alloc2 | apply Has.alloc1 | apply Has.alloc3 | apply Has.drew | apply Has.drewN | apply Has.set_ | apply Has.allocx | exact Has.nil _))) hb; (try simp only [World.size_alloc, World.size_setCell, World.size_drew, World.heap_drewN] at hh); have hq := hh; simp only [Has, upd, World.size_alloc, World.size_setCell, World.size_drew, World.heap_drewN, and_true, true_and, ite_true, ite_false, and_self, Nat.add_right_cancel_iff, Nat.add_eq_left, Nat.left_eq_add, reduceCtorEq, Nat.reduceEqDiff, if_true, if_false] at hq; have hs := hb.size; (try simp only [World.size_alloc, World.size_setCell, World.size_drew, World.heap_drewN] at hs); have hn0 : w.heap.size ≠ w'.heap.size := (by omega); have hm0 : w'.heap.size ≠ w.heap.size := (by omega); clear hb)
  go_ret2
  exact ⟨rfl, (by (first | with_reducible exact Below.refl _ _ | with_reducible assumption | (repeat (with_reducible first | exact Below.refl _ _ | assumption | refine Below.drew ?_ | refine Below.alloc ?_ (by first | omega | (simp <;> omega)) _ | refine Below.setCell ?_ (by first | omega | (simp <;> omega)) _ | refine below_drewN ?_ _))))⟩

set_option maxHeartbeats 1000000 in
theorem sMoveText_ok (x1 y1 x2 y2 n : Nat) (w : World) (hg : goodM x1 y1 x2 y2 n = true) (h1 : x1 ≤ 1000000) (h2 : y1 ≤ 1000000) (h3 : x2 ≤ 1000000) (h4 : y2 ≤ 1000000) (h5 : n ≤ 1000000) :
    Calls Tryd.prog 24 #[.agg #[.int .i64 x1, .int .i64 y1, .int .i64 x2, .int .i64 y2, .int .i64 n]] w fun e w' => e = .returned (.tuple #[str (moveL x1 y1 x2 y2 n), .bool true]) ∧ Below w.heap.size w w' := by
  have hh := Has.nil w
  go_enter Tryd.func24, Tryd.ntmps24
  go_wp2_with (first | (go_at_call 75; refine (mvGood_any _ _ _ _ _ _).mono ?_; rintro e w' ⟨rfl, hb⟩; have hz : w.heap.size + 1 ≤ w'.heap.size := (by have := hb.size; first | omega | (simp at this; omega)); have hB : Below w.heap.size w w' := (by refine Below.trans ?_ (hb.mono (by first | omega | (simp <;> omega))); (first | with_reducible exact Below.refl _ _ | with_reducible assumption | (repeat (with_reducible first | exact Below.refl _ _ | assumption | refine Below.drew ?_ | refine Below.alloc ?_ (by first | omega | (simp <;> omega)) _ | refine Below.setCell ?_ (by first | omega | (simp <;> omega)) _ | refine below_drewN ?_ _)))); have hh := Has.below (by (repeat (with_reducible first | assumption | apply Has.alloc5 | apply Has.alloc2 | apply Has.alloc1 | apply Has.alloc3 | apply Has.drew | apply Has.drewN | apply Has.set_ | apply Has.allocx | exact Has.nil _))) hb; (try simp only [World.size_alloc, World.size_setCell, World.size_drew, World.heap_drewN] at hh); have hq := hh; simp only [Has, upd, World.size_alloc, World.size_setCell, World.size_drew, World.heap_drewN, and_true, true_and, ite_true, ite_false, and_self, Nat.add_right_cancel_iff, Nat.add_eq_left, Nat.left_eq_add, reduceCtorEq, Nat.reduceEqDiff, if_true, if_false] at hq; have hs := hb.size; (try simp only [World.size_alloc, World.size_setCell, World.size_drew, World.heap_drewN] at hs); have hn0 : w.heap.size ≠ w'.heap.size := (by omega); have hm0 : w'.heap.size ≠ w.heap.size := (by omega); clear hb) | (go_at_call 76; refine (mvText_any _ _ _ _ _ _ h1 h2 h3 h4 h5).mono ?_; rintro e w' ⟨rfl, hb⟩; have hz : w.heap.size + 1 ≤ w'.heap.size := (by have := hb.size; first | omega | (simp at this; omega)); have hB : Below w.heap.size w w' := (by refine Below.trans ?_ (hb.mono (by first | omega | (simp <;> omega))); (first | with_reducible exact Below.refl _ _ | with_reducible assumption | (repeat (with_reducible first | exact Below.refl _ _ | assumption | refine Below.drew ?_ | refine Below.alloc ?_ (by first | omega | (simp <;> omega)) _ | refine Below.setCell ?_ (by first | omega | (simp <;> omega)) _ | refine below_drewN ?_ _)))); have hh := Has.below (by (repeat (with_reducible first | assumption | apply Has.alloc5 | apply Has.alloc2 | apply Has.alloc1 | apply Has.alloc3 | apply Has.drew | apply Has.drewN | apply Has.set_ | apply Has.allocx | exact Has.nil _))) hb; (try simp only [World.size_alloc, World.size_setCell, World.size_drew, World.heap_drewN] at hh); have hq := hh; simp only [Has, upd, World.size_alloc, World.size_setCell, World.size_drew, World.heap_drewN, and_true, true_and, ite_true, ite_false, and_self, Nat.add_right_cancel_iff, Nat.add_eq_left, Nat.left_eq_add, reduceCtorEq, Nat.reduceEqDiff, if_true, if_false] at hq; have hs := hb.size; (try simp only [World.size_alloc, World.size_setCell, World.size_drew, World.heap_drewN] at hs); have hn0 : w.heap.size ≠ w'.heap.size := (by omega); have hm0 : w'.heap.size ≠ w.heap.size := (by omega); clear hb))
  go_ret2
  exact ⟨rfl, (by (first | with_reducible exact Below.refl _ _ | with_reducible assumption | (repeat (with_reducible first | exact Below.refl _ _ | assumption | refine Below.drew ?_ | refine Below.alloc ?_ (by first | omega | (simp <;> omega)) _ | refine Below.setCell ?_ (by first | omega | (simp <;> omega)) _ | refine below_drewN ?_ _))))⟩

set_option maxHeartbeats 1000000 in
theorem sMoveText_no (a b c d k : Int) (w : World) (hg : goodM a b c d k = false) :
    Calls Tryd.prog 24 #[.agg #[.int .i64 a, .int .i64 b, .int .i64 c, .int .i64 d, .int .i64 k]] w fun e w' => e = .returned (.tuple #[str [], .bool false]) ∧ Below w.heap.size w w' := by
  have hh := Has.nil w
  go_enter Tryd.func24, Tryd.ntmps24
  go_wp2_with (go_at_call 75; refine (mvGood_any _ _ _ _ _ _).mono ?_; rintro e w' ⟨rfl, hb⟩; have hz : w.heap.size + 1 ≤ w'.heap.size := (by have := hb.size; first | omega | (simp at this; omega)); have hB : Below w.heap.size w w' := (by refine Below.trans ?_ (hb.mono (by first | omega | (simp <;> omega))); (first | with_reducible exact Below.refl _ _ | with_reducible assumption | (repeat (with_reducible first | exact Below.refl _ _ | assumption | refine Below.drew ?_ | refine Below.alloc ?_ (by first | omega | (simp <;> omega)) _ | refine Below.setCell ?_ (by first | omega | (simp <;> omega)) _ | refine below_drewN ?_ _)))); have hh := Has.below (by (repeat (with_reducible first | assumption | apply Has.alloc5 | apply Has.alloc2 | apply Has.alloc1 | apply Has.alloc3 | apply Has.drew | apply Has.drewN | apply Has.set_ | apply Has.allocx | exact Has.nil _))) hb; (try simp only [World.size_alloc, World.size_setCell, World.size_drew, World.heap_drewN] at hh); have hq := hh; simp only [Has, upd, World.size_alloc, World.size_setCell, World.size_drew, World.heap_drewN, and_true, true_and, ite_true, ite_false, and_self, Nat.add_right_cancel_iff, Nat.add_eq_left, Nat.left_eq_add, reduceCtorEq, Nat.reduceEqDiff, if_true, if_false] at hq; have hs := hb.size; (try simp only [World.size_alloc, World.size_setCell, World.size_drew, World.heap_drewN] at hs); have hn0 : w.heap.size ≠ w'.heap.size := (by omega); have hm0 : w'.heap.size ≠ w.heap.size := (by omega); clear hb)
  go_ret2
  exact ⟨rfl, (by (first | with_reducible exact Below.refl _ _ | with_reducible assumption | (repeat (with_reducible first | exact Below.refl _ _ | assumption | refine Below.drew ?_ | refine Below.alloc ?_ (by first | omega | (simp <;> omega)) _ | refine Below.setCell ?_ (by first | omega | (simp <;> omega)) _ | refine below_drewN ?_ _))))⟩

theorem mMoveText_cases (a b c d k : Int) : (∃ x1 y1 x2 y2 n : Nat, a = x1 ∧ b = y1 ∧ c = x2 ∧ d = y2 ∧ k = n ∧ goodM a b c d k = true ∧ goodB a b = true ∧ goodB c d = true ∧ x1 ≤ 1000000 ∧ y1 ≤ 1000000 ∧ x2 ≤ 1000000 ∧ y2 ≤ 1000000 ∧ n ≤ 1000000 ∧ mMoveText a b c d k = (moveL x1 y1 x2 y2 n, true)) ∨ (goodM a b c d k = false ∧ mMoveText a b c d k = ([], false)) := by
  rcases tf (goodM a b c d k) with hg | hg
  · left
    have h := hg
    rw [goodM_iff] at h
    obtain ⟨g1, g2, k1, k2⟩ := h
    have e1 := g1
    have e2 := g2
    rw [goodB_iff] at e1 e2
    refine ⟨a.toNat, b.toNat, c.toNat, d.toNat, k.toNat, by omega, by omega, by omega, by omega, by omega, hg, g1, g2, by omega, by omega, by omega, by omega, by omega, ?_⟩
    rw [mMoveText, if_pos hg]
  · right
    exact ⟨hg, by rw [mMoveText, if_neg (by rw [hg]; decide)]⟩
theorem iMoveText_eq (a b c d k : Int) (t : List UInt8) (ok : Bool) (w : World) (h : mMoveText a b c d k = (t, ok)) (htab : Tab w) :
    Calls Tryd.prog 23 #[.agg #[.int .i64 a, .int .i64 b, .int .i64 c, .int .i64 d, .int .i64 k]] w fun e w' => e = .returned (.tuple #[str t, .bool ok]) ∧ Below w.heap.size w w' := by
  rcases mMoveText_cases a b c d k with ⟨x1, y1, x2, y2, n, rfl, rfl, rfl, rfl, rfl, hg, g1, g2, h1, h2, h3, h4, h5, hm⟩ | ⟨hg, hm⟩
  all_goals
    rw [h] at hm
    injection hm with e1 e2
    subst e1 e2
  · exact iMoveText_ok _ _ _ _ _ w hg g1 g2 h1 h2 h3 h4 h5 htab
  · exact iMoveText_no _ _ _ _ _ w hg
theorem sMoveText_eq (a b c d k : Int) (t : List UInt8) (ok : Bool) (w : World) (h : mMoveText a b c d k = (t, ok)) :
    Calls Tryd.prog 24 #[.agg #[.int .i64 a, .int .i64 b, .int .i64 c, .int .i64 d, .int .i64 k]] w fun e w' => e = .returned (.tuple #[str t, .bool ok]) ∧ Below w.heap.size w w' := by
  rcases mMoveText_cases a b c d k with ⟨x1, y1, x2, y2, n, rfl, rfl, rfl, rfl, rfl, hg, g1, g2, h1, h2, h3, h4, h5, hm⟩ | ⟨hg, hm⟩
  all_goals
    rw [h] at hm
    injection hm with e1 e2
    subst e1 e2
  · exact sMoveText_ok _ _ _ _ _ w hg h1 h2 h3 h4 h5
  · exact sMoveText_no _ _ _ _ _ w hg

end Go.Proofs.YtgpjnffomheemaaDoor

