/- FnMoveParts: the walk: for whatever is drawn the law's checks hold. -/
import Derived.Test.YtkadnmebijfacaaKFnMovePartsA
import Derived.Deep.DeepCutAuto
namespace Go.Proofs.Ytkadnmebijfacaa
open Go.RowKit
set_option linter.unusedVariables false
set_option linter.unusedSimpArgs false
set_option maxRecDepth 1000000

theorem big_eq (A A' : Option Addr) (n c n' c' : Nat) (r : Bool) (w : World) (h1 : n ≤ 9223372036854775807) (h2 : n' ≤ 9223372036854775807) (h : decide (1048576 < n + n') = r) :
    Calls Try.prog 8 #[.slice A n c, .slice A' n' c'] w fun e w' => e = .returned (.bool r) ∧ w = w' := by
  have := big_any A A' n c n' c' w h1 h2; rw [h] at this; exact this

set_option maxHeartbeats 40000000 in
theorem walk_FnMoveParts (cA : Option Addr) (cn cc : Nat) (cl : List Int) (mA : Option Addr) (mn mc : Nat) (ml : List Int) (w : World) (hB1 : Bytes w w.heap.size cA cn cc cl) (hf1 : BytesFit cl) (hB2 : Bytes w w.heap.size mA mn mc ml) (hf2 : BytesFit ml) :
    Calls Try.prog 4 #[.slice cA cn cc, .slice mA mn mc] w fun e w' => e = .returned (.bool true) ∧ Below w.heap.size w w' := by
  have hm1 : cn ≤ 9223372036854775807 := by have a := hB1.2.1; have b := hB1.2.2.1; unfold maxLen at b; omega
  have hm2 : mn ≤ 9223372036854775807 := by have a := hB2.2.1; have b := hB2.2.2.1; unfold maxLen at b; omega
  have H1 := Lib.hid hB1
  have H2 := Lib.hid hB2
  have F1 := Lib.hid hf1
  have F2 := Lib.hid hf2
  clear hB1 hB2 hf1 hf2
  have hB : Below w.heap.size w w := Below.refl _ _
  have hh := Has.nil w
  rcases tf (decide (1048576 < cn + mn)) with hd | hd
  · have HD := Lib.hid hd
    clear hd
    go_enter Try.func4, Try.ntmps4
    go_wp2_with (go_at_call 8; refine (big_eq _ _ _ _ _ _ _ _ hm1 hm2 HD.out).mono ?_; rintro e w' ⟨rfl, rfl⟩)
    go_ret
    exact ⟨rfl, (by (first | with_reducible exact Below.refl _ _ | with_reducible assumption | (repeat (with_reducible first | exact Below.refl _ _ | assumption | refine Below.drew ?_ | refine Below.alloc ?_ (by first | omega | (simp <;> omega)) _ | refine Below.setCell ?_ (by first | omega | (simp <;> omega)) _ | refine below_drewN ?_ _))))⟩
  · have HD := Lib.hid hd
    clear hd
    go_enter Try.func4, Try.ntmps4
    go_wp2_with fail
    (go_at_call 8; refine (big_eq _ _ _ _ _ _ _ _ hm1 hm2 HD.out).mono ?_; rintro e w' ⟨rfl, rfl⟩)
    go_wp2_with fail
    (go_at_call 25; refine (drawSplitMove_any _ _ _ _ _ (Bytes.later H1.out (by (first | with_reducible exact Below.refl _ _ | with_reducible assumption | (repeat (with_reducible first | exact Below.refl _ _ | assumption | refine Below.drew ?_ | refine Below.alloc ?_ (by first | omega | (simp <;> omega)) _ | refine Below.setCell ?_ (by first | omega | (simp <;> omega)) _ | refine below_drewN ?_ _))))) F1.out hm1).mono ?_; rintro e w' ⟨m1, m2, m3, m4, m5, n, rfl, hb⟩; have hBn : Below w.heap.size w w' := (by refine Below.trans ?_ (hb.mono (by first | omega | (simp <;> omega))); (first | with_reducible exact Below.refl _ _ | with_reducible assumption | (repeat (with_reducible first | exact Below.refl _ _ | assumption | refine Below.drew ?_ | refine Below.alloc ?_ (by first | omega | (simp <;> omega)) _ | refine Below.setCell ?_ (by first | omega | (simp <;> omega)) _ | refine below_drewN ?_ _)))); have hhn := Has.below (by (repeat (with_reducible first | assumption | apply Has.alloc5 | apply Has.alloc2 | apply Has.alloc1 | apply Has.alloc3 | apply Has.drew | apply Has.drewN | apply Has.set_ | apply Has.allocx | exact Has.nil _))) hb; (try simp only [World.size_alloc, World.size_setCell, World.size_drew, World.heap_drewN] at hhn); have hqn := hhn; simp only [Has, upd, World.size_alloc, World.size_setCell, World.size_drew, World.heap_drewN, and_true, true_and, ite_true, ite_false, and_self, Nat.add_right_cancel_iff, Nat.add_eq_left, Nat.left_eq_add, reduceCtorEq, Nat.reduceEqDiff, if_true, if_false] at hqn; (try clear hs); have hs := hb.size; (try simp only [World.size_alloc, World.size_setCell, World.size_drew, World.heap_drewN] at hs); (obtain ⟨w1, rfl⟩ : ∃ z : World, z = w' := ⟨_, rfl⟩); clear hb hB hh; (try clear hq); have hB := hBn; have hh := hhn; have hq := hqn; clear hBn hhn hqn; (try clear hz); have hz := hB.size)
    obtain ⟨p1, p2, p3, p4, p5, q1, q2, q3, q4, q5, ok, HS⟩ : ∃ p1 p2 p3 p4 p5 q1 q2 q3 q4 q5 ok, Hid (mSplit m1 m2 m3 m4 m5 n = ((p1, p2, p3, p4, p5), (q1, q2, q3, q4, q5), ok)) := ⟨_, _, _, _, _, _, _, _, _, _, _, Lib.hid rfl⟩
    go_wp2_with fail
    (go_at_call 26; refine (iSplit_eq _ _ _ _ _ _ _ _ _ _ _ _ _ _ _ _ _ _ HS.out).mono ?_; rintro e w' ⟨rfl, hb⟩; have hBn : Below w.heap.size w w' := (by refine Below.trans ?_ (hb.mono (by first | omega | (simp <;> omega))); (first | with_reducible exact Below.refl _ _ | with_reducible assumption | (repeat (with_reducible first | exact Below.refl _ _ | assumption | refine Below.drew ?_ | refine Below.alloc ?_ (by first | omega | (simp <;> omega)) _ | refine Below.setCell ?_ (by first | omega | (simp <;> omega)) _ | refine below_drewN ?_ _)))); have hhn := Has.below (by (repeat (with_reducible first | assumption | apply Has.alloc5 | apply Has.alloc2 | apply Has.alloc1 | apply Has.alloc3 | apply Has.drew | apply Has.drewN | apply Has.set_ | apply Has.allocx | exact Has.nil _))) hb; (try simp only [World.size_alloc, World.size_setCell, World.size_drew, World.heap_drewN] at hhn); have hqn := hhn; simp only [Has, upd, World.size_alloc, World.size_setCell, World.size_drew, World.heap_drewN, and_true, true_and, ite_true, ite_false, and_self, Nat.add_right_cancel_iff, Nat.add_eq_left, Nat.left_eq_add, reduceCtorEq, Nat.reduceEqDiff, if_true, if_false] at hqn; (try clear hs); have hs := hb.size; (try simp only [World.size_alloc, World.size_setCell, World.size_drew, World.heap_drewN] at hs); (obtain ⟨w2, rfl⟩ : ∃ z : World, z = w' := ⟨_, rfl⟩); have ma0 : w1.heap.size < w2.heap.size := (by omega); have la0 := ma0; clear ma0; have lb0 : w1.heap.size ≠ w2.heap.size := (Nat.ne_of_lt la0); have lc0 : w2.heap.size ≠ w1.heap.size := (Ne.symm lb0); clear hb hB hh; (try clear hq); have hB := hBn; have hh := hhn; have hq := hqn; clear hBn hhn hqn; (try clear hz); have hz := hB.size)
    go_wp2_with fail
    (go_at_call 27; refine (sSplit_eq _ _ _ _ _ _ _ _ _ _ _ _ _ _ _ _ _ _ HS.out).mono ?_; rintro e w' ⟨rfl, hb⟩; have hBn : Below w.heap.size w w' := (by refine Below.trans ?_ (hb.mono (by first | omega | (simp <;> omega))); (first | with_reducible exact Below.refl _ _ | with_reducible assumption | (repeat (with_reducible first | exact Below.refl _ _ | assumption | refine Below.drew ?_ | refine Below.alloc ?_ (by first | omega | (simp <;> omega)) _ | refine Below.setCell ?_ (by first | omega | (simp <;> omega)) _ | refine below_drewN ?_ _)))); have hhn := Has.below (by (repeat (with_reducible first | assumption | apply Has.alloc5 | apply Has.alloc2 | apply Has.alloc1 | apply Has.alloc3 | apply Has.drew | apply Has.drewN | apply Has.set_ | apply Has.allocx | exact Has.nil _))) hb; (try simp only [World.size_alloc, World.size_setCell, World.size_drew, World.heap_drewN] at hhn); have hqn := hhn; simp only [Has, upd, World.size_alloc, World.size_setCell, World.size_drew, World.heap_drewN, and_true, true_and, ite_true, ite_false, and_self, Nat.add_right_cancel_iff, Nat.add_eq_left, Nat.left_eq_add, reduceCtorEq, Nat.reduceEqDiff, if_true, if_false] at hqn; (try clear hs); have hs := hb.size; (try simp only [World.size_alloc, World.size_setCell, World.size_drew, World.heap_drewN] at hs); (obtain ⟨w3, rfl⟩ : ∃ z : World, z = w' := ⟨_, rfl⟩); have ma0 : w1.heap.size < w3.heap.size := (by omega); have ma1 : w2.heap.size < w3.heap.size := (by omega); have ma2 : w2.heap.size + 1 < w3.heap.size := (by omega); (try clear la0 lb0 lc0); have la0 := ma0; clear ma0; have lb0 : w1.heap.size ≠ w3.heap.size := (Nat.ne_of_lt la0); have lc0 : w3.heap.size ≠ w1.heap.size := (Ne.symm lb0); have la1 := ma1; clear ma1; have lb1 : w2.heap.size ≠ w3.heap.size := (Nat.ne_of_lt la1); have lc1 : w3.heap.size ≠ w2.heap.size := (Ne.symm lb1); have la2 := ma2; clear ma2; have lb2 : w2.heap.size + 1 ≠ w3.heap.size := (Nat.ne_of_lt la2); have lc2 : w3.heap.size ≠ w2.heap.size + 1 := (Ne.symm lb2); clear hb hB hh; (try clear hq); have hB := hBn; have hh := hhn; have hq := hqn; clear hBn hhn hqn; (try clear hz); have hz := hB.size)
    go_upto_if 99999 with (first | (with_reducible refine stopAt (n := 8) ?_))
    exact fnMoveParts_8 w _ (by (first | with_reducible exact Below.refl _ _ | with_reducible assumption | (repeat (with_reducible first | exact Below.refl _ _ | assumption | refine Below.drew ?_ | refine Below.alloc ?_ (by first | omega | (simp <;> omega)) _ | refine Below.setCell ?_ (by first | omega | (simp <;> omega)) _ | refine below_drewN ?_ _)))) hm2 H2 F2 HS (by apply Has.weak; (focus (repeat (with_reducible first | assumption | apply Has.alloc5 | apply Has.alloc2 | apply Has.alloc1 | apply Has.alloc3 | apply Has.drew | apply Has.drewN | apply Has.set_ | apply Has.allocx | exact Has.nil _))); simp [upd, *])

end Go.Proofs.Ytkadnmebijfacaa

