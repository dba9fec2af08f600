import Derived.Test.YtgpjnffomheemaaDoorJ19Draw9
import Derived.Test.YtgpjnffomheemaaDoorJ20Spoil
import Derived.Test.YtgpjnffomheemaaDoorJ7Wrt2
import Derived.Test.YtgpjnffomheemaaDoorBase2
/- Draws of the law on moves: a move, two spots and a step, a text. -/
namespace Go.Proofs.YtgpjnffomheemaaDoor
open Go.RowKit
set_option linter.unusedVariables false
set_option linter.unusedSimpArgs false
set_option maxRecDepth 100000

set_option maxHeartbeats 4000000 in
theorem drawMoveText_any (A : Option Addr) (n c : Nat) (l : List Int) (w : World) (hB : Bytes w w.heap.size A n c l) (hf : BytesFit l) (hn : n ≤ 9223372036854775807) :
    Calls Tryd.prog 22 #[.slice A n c] w (RetDM w) := by
  have HB := Lib.hid hB
  have HF := Lib.hid hf
  have hh := Has.nil w
  clear hB hf
  go_enter Tryd.func22, Tryd.ntmps22
  go_wp2_with fail
  (go_at_call 73; refine (drawIsMove_any _ _ _ _ _ (Bytes.later HB.out (by (first | with_reducible exact Below.refl _ _ | with_reducible assumption | (repeat (with_reducible first | exact Below.refl _ _ | assumption | refine Below.drew ?_ | refine Below.alloc ?_ (by first | omega | (simp <;> omega)) _ | refine Below.setCell ?_ (by first | omega | (simp <;> omega)) _ | refine below_drewN ?_ _))))) HF.out hn).mono ?_; rintro e w' ⟨a1, a2, a3, a4, a5, rfl, hb⟩; have hz : w.heap.size + 1 ≤ w'.heap.size := (by have := hb.size; first | omega | (simp at this; omega)); have hB : Below w.heap.size w w' := (by refine Below.trans ?_ (hb.mono (by first | omega | (simp <;> omega))); (first | with_reducible exact Below.refl _ _ | with_reducible assumption | (repeat (with_reducible first | exact Below.refl _ _ | assumption | refine Below.drew ?_ | refine Below.alloc ?_ (by first | omega | (simp <;> omega)) _ | refine Below.setCell ?_ (by first | omega | (simp <;> omega)) _ | refine below_drewN ?_ _)))); have hh := Has.below (by (repeat (with_reducible first | assumption | apply Has.alloc5 | apply Has.alloc2 | apply Has.alloc1 | apply Has.alloc3 | apply Has.drew | apply Has.drewN | apply Has.set_ | apply Has.allocx | exact Has.nil _))) hb; (try simp only [World.size_alloc, World.size_setCell, World.size_drew, World.heap_drewN] at hh); have hq := hh; simp only [Has, upd, World.size_alloc, World.size_setCell, World.size_drew, World.heap_drewN, and_true, true_and, ite_true, ite_false, and_self, Nat.add_right_cancel_iff, Nat.add_eq_left, Nat.left_eq_add, reduceCtorEq, Nat.reduceEqDiff, if_true, if_false] at hq; have hs := hb.size; (try simp only [World.size_alloc, World.size_setCell, World.size_drew, World.heap_drewN] at hs); have hn0 : w.heap.size ≠ w'.heap.size := (by omega); have hm0 : w'.heap.size ≠ w.heap.size := (by omega); clear hb)
  go_wp2_with fail
  refine ret_has (v := .agg #[.int .i64 a1, .int .i64 a2, .int .i64 a3, .int .i64 a4, .int .i64 a5]) (m := [(w.heap.size, 0, .int .i64 a1), (w.heap.size, 1, .int .i64 a2), (w.heap.size, 2, .int .i64 a3), (w.heap.size, 3, .int .i64 a4), (w.heap.size, 4, .int .i64 a5)]) (by apply Has.weak; (focus (repeat (with_reducible first | assumption | apply Has.alloc5 | apply Has.alloc2 | apply Has.alloc1 | apply Has.alloc3 | apply Has.drew | apply Has.drewN | apply Has.set_ | apply Has.allocx | exact Has.nil _))); simp [upd, *]) ?_ rfl ⟨_, _, _, _, _, rfl, (by (first | with_reducible exact Below.refl _ _ | with_reducible assumption | (repeat (with_reducible first | exact Below.refl _ _ | assumption | refine Below.drew ?_ | refine Below.alloc ?_ (by first | omega | (simp <;> omega)) _ | refine Below.setCell ?_ (by first | omega | (simp <;> omega)) _ | refine below_drewN ?_ _))))⟩
  intro W' hW'
  simp only [Has] at hW'
  simp [results, Tryd.results22, go_sem, hW']

set_option maxHeartbeats 4000000 in
theorem stepOf_any (b K : Nat) (w : World) (hC : Cur w b K) (hK : K ≤ 900000) :
    Calls Tryd.prog 84 #[.pointer (some ⟨b, 0, none⟩)] w (RetCur (fun _ => True) w b (K + 4)) := by
  have hb := hC.lt
  have hG := Grow.refl w b
  have hh := Has.nil w
  go_enter Tryd.func84, Tryd.ntmps84
  go_wp2_with fail
  (go_at_call 65; refine (among_any _ _ _ _ _ _ (by (repeat (first | (with_reducible assumption) | (with_reducible apply Cur.drew) | (with_reducible apply Cur.drewN) | (with_reducible apply Cur.alloc) | ((with_reducible apply Cur.set); rotate_left; (first | omega | (simp <;> omega)))))) (by omega) (by (repeat (first | ((with_reducible apply IntsAt.new) <;> rfl) | ((with_reducible apply IntsAt.newAt); (focus (simp; done)); rfl; rfl) | (with_reducible assumption) | (with_reducible apply IntsAt.drew) | (with_reducible apply IntsAt.alloc)))) (by omega) (by omega) (by omega)).mono ?_; rintro e w' ⟨x, _, rfl, hg, hCn⟩; have hGn := Grow.trans (show Grow w _ _ from (by (repeat (with_reducible first | exact Grow.refl _ _ | assumption | refine Grow.drew ?_ | refine Grow.drewN ?_ | refine Grow.alloc ?_ _ | refine Grow.set ?_ (Or.inl rfl) | refine Grow.set ?_ (Or.inr (by first | omega | (simp <;> omega))))))) hg; clear hG hC; have hG := hGn; have hC := hCn; clear hGn hCn; have hz : w.heap.size ≤ w'.heap.size := hG.size; have hs := hg.size; (try simp only [World.size_alloc, World.size_setCell, World.size_drew, World.heap_drewN] at hs); have hh := Has.grow (by (repeat (with_reducible first | assumption | apply Has.alloc5 | apply Has.alloc2 | apply Has.alloc1 | apply Has.alloc3 | apply Has.drew | apply Has.drewN | apply Has.set_ | apply Has.allocx | exact Has.nil _))) hg (by simp <;> omega); have hq := hh; simp only [Has, upd, World.size_alloc, World.size_setCell, World.size_drew, World.heap_drewN, and_true, true_and, ite_true, ite_false, and_self, Nat.add_right_cancel_iff, Nat.add_eq_left, Nat.left_eq_add, reduceCtorEq, Nat.reduceEqDiff, if_true, if_false] at hq; clear hg)
  go_wp2_with fail
  (go_at_call 65; refine (among_any _ _ _ _ _ _ (by (repeat (first | (with_reducible assumption) | (with_reducible apply Cur.drew) | (with_reducible apply Cur.drewN) | (with_reducible apply Cur.alloc) | ((with_reducible apply Cur.set); rotate_left; (first | omega | (simp <;> omega)))))) (by omega) (by (repeat (first | ((with_reducible apply IntsAt.new) <;> rfl) | ((with_reducible apply IntsAt.newAt); (focus (simp; done)); rfl; rfl) | (with_reducible assumption) | (with_reducible apply IntsAt.drew) | (with_reducible apply IntsAt.alloc)))) (by omega) (by omega) (by omega)).mono ?_; rintro e w' ⟨y, _, rfl, hg, hCn⟩; have hGn := Grow.trans (show Grow w _ _ from (by (repeat (with_reducible first | exact Grow.refl _ _ | assumption | refine Grow.drew ?_ | refine Grow.drewN ?_ | refine Grow.alloc ?_ _ | refine Grow.set ?_ (Or.inl rfl) | refine Grow.set ?_ (Or.inr (by first | omega | (simp <;> omega))))))) hg; clear hG hC; have hG := hGn; have hC := hCn; clear hGn hCn; have hz : w.heap.size ≤ w'.heap.size := hG.size; have hs := hg.size; (try simp only [World.size_alloc, World.size_setCell, World.size_drew, World.heap_drewN] at hs); have hh := Has.grow (by (repeat (with_reducible first | assumption | apply Has.alloc5 | apply Has.alloc2 | apply Has.alloc1 | apply Has.alloc3 | apply Has.drew | apply Has.drewN | apply Has.set_ | apply Has.allocx | exact Has.nil _))) hg (by simp <;> omega); have hq := hh; simp only [Has, upd, World.size_alloc, World.size_setCell, World.size_drew, World.heap_drewN, and_true, true_and, ite_true, ite_false, and_self, Nat.add_right_cancel_iff, Nat.add_eq_left, Nat.left_eq_add, reduceCtorEq, Nat.reduceEqDiff, if_true, if_false] at hq; clear hg)
  go_wp2_with fail
  go_ret
  exact ⟨y, trivial, rfl, (by (repeat (with_reducible first | exact Grow.refl _ _ | assumption | refine Grow.drew ?_ | refine Grow.drewN ?_ | refine Grow.alloc ?_ _ | refine Grow.set ?_ (Or.inl rfl) | refine Grow.set ?_ (Or.inr (by first | omega | (simp <;> omega)))))), Cur.more (by (repeat (first | (with_reducible assumption) | (with_reducible apply Cur.drew) | (with_reducible apply Cur.drewN) | (with_reducible apply Cur.alloc) | ((with_reducible apply Cur.set); rotate_left; (first | omega | (simp <;> omega)))))) (by omega)⟩

set_option maxHeartbeats 4000000 in
theorem drawLeastCounts_any (A : Option Addr) (n c : Nat) (l : List Int) (w : World) (hB : Bytes w w.heap.size A n c l) (hf : BytesFit l) (hn : n ≤ 9223372036854775807) :
    Calls Tryd.prog 31 #[.slice A n c] w fun e w' => ∃ x y u v s : Int, e = .returned (.tuple #[.agg #[.int .i64 x, .int .i64 y], .agg #[.int .i64 u, .int .i64 v], .int .i64 s]) ∧ Below w.heap.size w w' := by
  have HB := Lib.hid hB
  have HF := Lib.hid hf
  clear hB hf
  go_enter Tryd.func31, Tryd.ntmps31
  go_wp2_with fail
  have hC := Cur.start (W := (w.alloc (.cells #[.int .i64 0, .int .i64 0] 25)).alloc (.cells #[.int .i64 0, .int .i64 0] 25)) 81 (HB.out.same (w' := (w.alloc (.cells #[.int .i64 0, .int .i64 0] 25)).alloc (.cells #[.int .i64 0, .int .i64 0] 25)) (fun i hi => (((Below.refl _ _).alloc (Nat.le_refl _) _).alloc (by simp) _).block i hi)) HF.out hn (by simp; omega)
  simp only [World.size_alloc] at hC
  have hG := Grow.refl w (w.heap.size + 1 + 1)
  have hh := Has.allocx (o := .cells #[.slice A n c, .int .i64 0, .int .u64 0] 81) (Has.alloc2 (t := 25) (a := .int .i64 0) (b := .int .i64 0) (Has.alloc2 (t := 25) (a := .int .i64 0) (b := .int .i64 0) (Has.nil w)))
  simp only [World.size_alloc] at hh
  (go_at_call 66; refine (anySpot_any _ _ _ (by (repeat (first | (with_reducible assumption) | (with_reducible apply Cur.drew) | (with_reducible apply Cur.drewN) | (with_reducible apply Cur.alloc) | ((with_reducible apply Cur.set); rotate_left; (first | omega | (simp <;> omega)))))) (by omega)).mono ?_; rintro e w' ⟨x, y, rfl, hg, hCn⟩; have hGn := Grow.trans (show Grow w _ _ from (by (repeat (with_reducible first | exact Grow.refl _ _ | assumption | refine Grow.drew ?_ | refine Grow.drewN ?_ | refine Grow.alloc ?_ _ | refine Grow.set ?_ (Or.inl rfl) | refine Grow.set ?_ (Or.inr (by first | omega | (simp <;> omega))))))) hg; clear hG hC; have hG := hGn; have hC := hCn; clear hGn hCn; have hz : w.heap.size ≤ w'.heap.size := hG.size; have hs := hg.size; (try simp only [World.size_alloc, World.size_setCell, World.size_drew, World.heap_drewN] at hs); have hh := Has.grow (by (repeat (with_reducible first | assumption | apply Has.alloc5 | apply Has.alloc2 | apply Has.alloc1 | apply Has.alloc3 | apply Has.drew | apply Has.drewN | apply Has.set_ | apply Has.allocx | exact Has.nil _))) hg (by simp <;> omega); have hq := hh; simp only [Has, upd, World.size_alloc, World.size_setCell, World.size_drew, World.heap_drewN, and_true, true_and, ite_true, ite_false, and_self, Nat.add_right_cancel_iff, Nat.add_eq_left, Nat.left_eq_add, reduceCtorEq, Nat.reduceEqDiff, if_true, if_false] at hq; clear hg)
  go_wp2_with fail
  (go_at_call 66; refine (anySpot_any _ _ _ (by (repeat (first | (with_reducible assumption) | (with_reducible apply Cur.drew) | (with_reducible apply Cur.drewN) | (with_reducible apply Cur.alloc) | ((with_reducible apply Cur.set); rotate_left; (first | omega | (simp <;> omega)))))) (by omega)).mono ?_; rintro e w' ⟨u, v, rfl, hg, hCn⟩; have hGn := Grow.trans (show Grow w _ _ from (by (repeat (with_reducible first | exact Grow.refl _ _ | assumption | refine Grow.drew ?_ | refine Grow.drewN ?_ | refine Grow.alloc ?_ _ | refine Grow.set ?_ (Or.inl rfl) | refine Grow.set ?_ (Or.inr (by first | omega | (simp <;> omega))))))) hg; clear hG hC; have hG := hGn; have hC := hCn; clear hGn hCn; have hz : w.heap.size ≤ w'.heap.size := hG.size; have hs := hg.size; (try simp only [World.size_alloc, World.size_setCell, World.size_drew, World.heap_drewN] at hs); have hh := Has.grow (by (repeat (with_reducible first | assumption | apply Has.alloc5 | apply Has.alloc2 | apply Has.alloc1 | apply Has.alloc3 | apply Has.drew | apply Has.drewN | apply Has.set_ | apply Has.allocx | exact Has.nil _))) hg (by simp <;> omega); have hq := hh; simp only [Has, upd, World.size_alloc, World.size_setCell, World.size_drew, World.heap_drewN, and_true, true_and, ite_true, ite_false, and_self, Nat.add_right_cancel_iff, Nat.add_eq_left, Nat.left_eq_add, reduceCtorEq, Nat.reduceEqDiff, if_true, if_false] at hq; clear hg)
  go_wp2_with fail
  (go_at_call 84; refine (stepOf_any _ _ _ (by (repeat (first | (with_reducible assumption) | (with_reducible apply Cur.drew) | (with_reducible apply Cur.drewN) | (with_reducible apply Cur.alloc) | ((with_reducible apply Cur.set); rotate_left; (first | omega | (simp <;> omega)))))) (by omega)).mono ?_; rintro e w' ⟨s, _, rfl, hg, hCn⟩; have hGn := Grow.trans (show Grow w _ _ from (by (repeat (with_reducible first | exact Grow.refl _ _ | assumption | refine Grow.drew ?_ | refine Grow.drewN ?_ | refine Grow.alloc ?_ _ | refine Grow.set ?_ (Or.inl rfl) | refine Grow.set ?_ (Or.inr (by first | omega | (simp <;> omega))))))) hg; clear hG hC; have hG := hGn; have hC := hCn; clear hGn hCn; have hz : w.heap.size ≤ w'.heap.size := hG.size; have hs := hg.size; (try simp only [World.size_alloc, World.size_setCell, World.size_drew, World.heap_drewN] at hs); have hh := Has.grow (by (repeat (with_reducible first | assumption | apply Has.alloc5 | apply Has.alloc2 | apply Has.alloc1 | apply Has.alloc3 | apply Has.drew | apply Has.drewN | apply Has.set_ | apply Has.allocx | exact Has.nil _))) hg (by simp <;> omega); have hq := hh; simp only [Has, upd, World.size_alloc, World.size_setCell, World.size_drew, World.heap_drewN, and_true, true_and, ite_true, ite_false, and_self, Nat.add_right_cancel_iff, Nat.add_eq_left, Nat.left_eq_add, reduceCtorEq, Nat.reduceEqDiff, if_true, if_false] at hq; clear hg)
  go_wp2_with fail
  refine ret_has (v := .tuple #[.agg #[.int .i64 x, .int .i64 y], .agg #[.int .i64 u, .int .i64 v], .int .i64 s]) (m := [(w.heap.size, 0, .int .i64 x), (w.heap.size, 1, .int .i64 y), (w.heap.size + 1, 0, .int .i64 u), (w.heap.size + 1, 1, .int .i64 v)]) (by apply Has.weak; (focus (repeat (with_reducible first | assumption | apply Has.alloc5 | apply Has.alloc2 | apply Has.alloc1 | apply Has.alloc3 | apply Has.drew | apply Has.drewN | apply Has.set_ | apply Has.allocx | exact Has.nil _))); simp [upd, *]) ?_ rfl ⟨x, y, u, v, s, rfl, Grow.below (b := w.heap.size + 1 + 1) (by (repeat (with_reducible first | exact Grow.refl _ _ | assumption | refine Grow.drew ?_ | refine Grow.drewN ?_ | refine Grow.alloc ?_ _ | refine Grow.set ?_ (Or.inl rfl) | refine Grow.set ?_ (Or.inr (by first | omega | (simp <;> omega)))))) (by omega) (Nat.le_refl _)⟩
  intro W' hW'
  simp only [Has] at hW'
  simp [results, Tryd.results31, go_sem, hW']

theorem spoilt_str (b K : Nat) (L : List UInt8) (wi : ByteArray) (w : World) (hC : Cur w b K) (hK : K ≤ 900000) (hs0 : L.length ≤ 100000) (hw1 : 1 ≤ wi.size) (hw2 : wi.size ≤ 100) :
    Calls Tryd.prog 70 #[.pointer (some ⟨b, 0, none⟩), str L, .string wi] w (RetCurT (L.length + 2) w b (K + 20)) := by
  have hz : (⟨L.toArray⟩ : ByteArray).size = L.length := by rw [Lib.size_eq]
  have := spoilt_any b K ⟨L.toArray⟩ wi w hC hK (by omega) hw1 hw2
  rw [hz] at this
  exact this
theorem Grow.ofB {a w w' : World} {b : Nat} (h : Grow a b w) (hb : Below w.heap.size w w') : Grow a b w' := h.trans (Grow.ofBelow hb)

set_option maxHeartbeats 4000000 in
theorem drawParseMove_any (A : Option Addr) (n c : Nat) (l : List Int) (w : World) (hB : Bytes w w.heap.size A n c l) (hf : BytesFit l) (hn : n ≤ 9223372036854775807) :
    Calls Tryd.prog 36 #[.slice A n c] w fun e w' => ∃ t : List UInt8, t.length ≤ 1000 ∧ e = .returned (str t) ∧ Below w.heap.size w w' := by
  have HB := Lib.hid hB
  have HF := Lib.hid hf
  clear hB hf
  go_enter Tryd.func36, Tryd.ntmps36
  go_wp2_with fail
  have hC := Cur.begin (W := w) 81 HB.out HF.out hn (by (first | with_reducible exact Below.refl _ _ | with_reducible assumption | (repeat (with_reducible first | exact Below.refl _ _ | assumption | refine Below.drew ?_ | refine Below.alloc ?_ (by first | omega | (simp <;> omega)) _ | refine Below.setCell ?_ (by first | omega | (simp <;> omega)) _ | refine below_drewN ?_ _))))
  have hG := Grow.refl w w.heap.size
  have hh := Has.nil (w.alloc (.cells #[.slice A n c, .int .i64 0, .int .u64 0] 81))
  (go_at_call 88; refine (move_any _ _ _ (by (repeat (first | (with_reducible assumption) | (with_reducible apply Cur.drew) | (with_reducible apply Cur.drewN) | (with_reducible apply Cur.alloc) | ((with_reducible apply Cur.set); rotate_left; (first | omega | (simp <;> omega)))))) (by omega)).mono ?_; rintro e w' ⟨a1, a2, a3, a4, a5, rfl, hg, hCn⟩; have hGn := Grow.trans (show Grow w _ _ from (by (repeat (with_reducible first | exact Grow.refl _ _ | assumption | refine Grow.drew ?_ | refine Grow.drewN ?_ | refine Grow.alloc ?_ _ | refine Grow.set ?_ (Or.inl rfl) | refine Grow.set ?_ (Or.inr (by first | omega | (simp <;> omega))))))) hg; clear hG hC; have hG := hGn; have hC := hCn; clear hGn hCn; have hz : w.heap.size ≤ w'.heap.size := hG.size; have hs := hg.size; (try simp only [World.size_alloc, World.size_setCell, World.size_drew, World.heap_drewN] at hs); have hh := Has.grow (by (repeat (with_reducible first | assumption | apply Has.alloc5 | apply Has.alloc2 | apply Has.alloc1 | apply Has.alloc3 | apply Has.drew | apply Has.drewN | apply Has.set_ | apply Has.allocx | exact Has.nil _))) hg (by simp <;> omega); have hq := hh; simp only [Has, upd, World.size_alloc, World.size_setCell, World.size_drew, World.heap_drewN, and_true, true_and, ite_true, ite_false, and_self, Nat.add_right_cancel_iff, Nat.add_eq_left, Nat.left_eq_add, reduceCtorEq, Nat.reduceEqDiff, if_true, if_false] at hq; clear hg)
  (obtain ⟨wm, rfl⟩ : ∃ z : World, z = w' := ⟨_, rfl⟩)
  have hmb := hC.lt
  rcases tf (goodM a1 a2 a3 a4 a5) with hgd | hgd
  · rcases mMoveText_cases a1 a2 a3 a4 a5 with ⟨x1, y1, x2, y2, k, rfl, rfl, rfl, rfl, rfl, _, _, _, h1, h2, h3, h4, h5, _⟩ | ⟨hno, _⟩
    rotate_left
    · rw [hgd] at hno; cases hno
    have hl : (moveL x1 y1 x2 y2 k).length ≤ 71 := by
      have l1 := textL_le h1 h2
      have l2 := textL_le h3 h4
      have l3 := numL_le7 h5
      rw [moveL]; simp; omega
    obtain ⟨L, hL⟩ : ∃ L, moveL x1 y1 x2 y2 k = L := ⟨_, rfl⟩
    have cT := fun W => mvText_any x1 y1 x2 y2 k W h1 h2 h3 h4 h5
    rw [hL] at hl cT
    have cG := fun W => mvGood_any (x1 : Int) y1 x2 y2 k W
    rw [hgd] at cG
    clear hgd hL
    go_wp2_with fail
    (go_at_call 75; refine (cG _).mono ?_; rintro e w' ⟨rfl, hb⟩; have hh2 := Has.below (by apply Has.alloc5; exact Has.nil _) hb; have hq := hh2; simp only [Has, and_true] at hq; have hGn := (show Grow w w.heap.size _ from (by (repeat (with_reducible first | exact Grow.refl _ _ | assumption | refine Grow.drew ?_ | refine Grow.drewN ?_ | refine Grow.alloc ?_ _ | refine Grow.set ?_ (Or.inl rfl) | refine Grow.set ?_ (Or.inr (by first | omega | (simp <;> omega))))))).ofB hb; have hCn := Cur.below (show Cur _ w.heap.size _ from (by (repeat (first | (with_reducible assumption) | (with_reducible apply Cur.drew) | (with_reducible apply Cur.drewN) | (with_reducible apply Cur.alloc) | ((with_reducible apply Cur.set); rotate_left; (first | omega | (simp <;> omega))))))) hb (by simp; omega); clear hG hC hh; have hG := hGn; have hC := hCn; have hh := hh2; clear hGn hCn hh2; have hz := hG.size; have hs := hb.size; (try simp only [World.size_alloc] at hs); clear hb)
    (obtain ⟨wn, rfl⟩ : ∃ z : World, z = w' := ⟨_, rfl⟩)
    have hnb := hC.lt
    go_wp2_with fail
    (go_at_call 76; refine (cT _).mono ?_; rintro e w' ⟨rfl, hb⟩; have hGn := hG.ofB hb; have hCn := hC.below hb hC.lt; clear hG hC hh hq; have hG := hGn; have hC := hCn; clear hGn hCn; have hz := hG.size; have hh := Has.nil w')
    go_wp2_with fail
    (go_at_call 92; refine (one_any _ _ _ _ (by (repeat (first | (with_reducible assumption) | (with_reducible apply Cur.drew) | (with_reducible apply Cur.drewN) | (with_reducible apply Cur.alloc) | ((with_reducible apply Cur.set); rotate_left; (first | omega | (simp <;> omega)))))) (by omega)).mono ?_; rintro e w' ⟨f, rfl, hg, hCn⟩; have hGn := Grow.trans (show Grow w _ _ from (by (repeat (with_reducible first | exact Grow.refl _ _ | assumption | refine Grow.drew ?_ | refine Grow.drewN ?_ | refine Grow.alloc ?_ _ | refine Grow.set ?_ (Or.inl rfl) | refine Grow.set ?_ (Or.inr (by first | omega | (simp <;> omega))))))) hg; clear hG hC; have hG := hGn; have hC := hCn; clear hGn hCn; have hz : w.heap.size ≤ w'.heap.size := hG.size; have hs := hg.size; (try simp only [World.size_alloc, World.size_setCell, World.size_drew, World.heap_drewN] at hs); have hh := Has.grow (by (repeat (with_reducible first | assumption | apply Has.alloc5 | apply Has.alloc2 | apply Has.alloc1 | apply Has.alloc3 | apply Has.drew | apply Has.drewN | apply Has.set_ | apply Has.allocx | exact Has.nil _))) hg (by simp <;> omega); have hq := hh; simp only [Has, upd, World.size_alloc, World.size_setCell, World.size_drew, World.heap_drewN, and_true, true_and, ite_true, ite_false, and_self, Nat.add_right_cancel_iff, Nat.add_eq_left, Nat.left_eq_add, reduceCtorEq, Nat.reduceEqDiff, if_true, if_false] at hq; clear hg)
    rcases tf f with rfl | rfl
    · go_wp2_with fail
      (go_at_call 70; refine (spoilt_str _ _ _ _ _ (by (repeat (first | (with_reducible assumption) | (with_reducible apply Cur.drew) | (with_reducible apply Cur.drewN) | (with_reducible apply Cur.alloc) | ((with_reducible apply Cur.set); rotate_left; (first | omega | (simp <;> omega)))))) (by omega) (by omega) (by decide) (by decide)).mono ?_; rintro e w' ⟨s, hs9, rfl, hg, hCn⟩; have hGn := Grow.trans (show Grow w _ _ from (by (repeat (with_reducible first | exact Grow.refl _ _ | assumption | refine Grow.drew ?_ | refine Grow.drewN ?_ | refine Grow.alloc ?_ _ | refine Grow.set ?_ (Or.inl rfl) | refine Grow.set ?_ (Or.inr (by first | omega | (simp <;> omega))))))) hg; clear hG hC; have hG := hGn; have hC := hCn; clear hGn hCn; have hz : w.heap.size ≤ w'.heap.size := hG.size; have hs := hg.size; (try simp only [World.size_alloc, World.size_setCell, World.size_drew, World.heap_drewN] at hs); have hh := Has.grow (by (repeat (with_reducible first | assumption | apply Has.alloc5 | apply Has.alloc2 | apply Has.alloc1 | apply Has.alloc3 | apply Has.drew | apply Has.drewN | apply Has.set_ | apply Has.allocx | exact Has.nil _))) hg (by simp <;> omega); have hq := hh; simp only [Has, upd, World.size_alloc, World.size_setCell, World.size_drew, World.heap_drewN, and_true, true_and, ite_true, ite_false, and_self, Nat.add_right_cancel_iff, Nat.add_eq_left, Nat.left_eq_add, reduceCtorEq, Nat.reduceEqDiff, if_true, if_false] at hq; clear hg)
      go_wp2_with fail
      go_ret
      exact ⟨s.data.toList, by rw [← Lib.size_eq]; omega, by rw [← str_self]; rfl, Grow.below (b := w.heap.size) (by (repeat (with_reducible first | exact Grow.refl _ _ | assumption | refine Grow.drew ?_ | refine Grow.drewN ?_ | refine Grow.alloc ?_ _ | refine Grow.set ?_ (Or.inl rfl) | refine Grow.set ?_ (Or.inr (by first | omega | (simp <;> omega)))))) (by omega) (Nat.le_refl _)⟩
    · go_wp2_with fail
      go_ret
      exact ⟨L, by omega, rfl, Grow.below (b := w.heap.size) (by (repeat (with_reducible first | exact Grow.refl _ _ | assumption | refine Grow.drew ?_ | refine Grow.drewN ?_ | refine Grow.alloc ?_ _ | refine Grow.set ?_ (Or.inl rfl) | refine Grow.set ?_ (Or.inr (by first | omega | (simp <;> omega)))))) (by omega) (Nat.le_refl _)⟩
  · have cG := fun W => mvGood_any a1 a2 a3 a4 a5 W
    rw [hgd] at cG
    clear hgd
    go_wp2_with fail
    (go_at_call 75; refine (cG _).mono ?_; rintro e w' ⟨rfl, hb⟩; have hGn := (show Grow w w.heap.size _ from (by (repeat (with_reducible first | exact Grow.refl _ _ | assumption | refine Grow.drew ?_ | refine Grow.drewN ?_ | refine Grow.alloc ?_ _ | refine Grow.set ?_ (Or.inl rfl) | refine Grow.set ?_ (Or.inr (by first | omega | (simp <;> omega))))))).ofB hb; have hCn := Cur.below (show Cur _ w.heap.size _ from (by (repeat (first | (with_reducible assumption) | (with_reducible apply Cur.drew) | (with_reducible apply Cur.drewN) | (with_reducible apply Cur.alloc) | ((with_reducible apply Cur.set); rotate_left; (first | omega | (simp <;> omega))))))) hb (by simp; omega); clear hG hC hh; have hG := hGn; have hC := hCn; clear hGn hCn; have hz := hG.size; have hs := hb.size; (try simp only [World.size_alloc] at hs); clear hb; have hh := Has.nil w')
    have hbl := hC.lt
    go_wp2_with fail
    (go_at_call 71; refine (of_any 100 _ _ _ _ _ _ (by (repeat (first | (with_reducible assumption) | (with_reducible apply Cur.drew) | (with_reducible apply Cur.drewN) | (with_reducible apply Cur.alloc) | ((with_reducible apply Cur.set); rotate_left; (first | omega | (simp <;> omega)))))) (by omega) (by refine StrsAt.new ?_ rfl; simp only [allS]; (repeat' (first | apply And.intro)); all_goals (first | trivial | decide)) (by omega) (by omega) (by omega)).mono ?_; rintro e w' ⟨s, hs9, rfl, hg, hCn⟩; have hGn := Grow.trans (show Grow w _ _ from (by (repeat (with_reducible first | exact Grow.refl _ _ | assumption | refine Grow.drew ?_ | refine Grow.drewN ?_ | refine Grow.alloc ?_ _ | refine Grow.set ?_ (Or.inl rfl) | refine Grow.set ?_ (Or.inr (by first | omega | (simp <;> omega))))))) hg; clear hG hC; have hG := hGn; have hC := hCn; clear hGn hCn; have hz : w.heap.size ≤ w'.heap.size := hG.size; have hs := hg.size; (try simp only [World.size_alloc, World.size_setCell, World.size_drew, World.heap_drewN] at hs); have hh := Has.grow (by (repeat (with_reducible first | assumption | apply Has.alloc5 | apply Has.alloc2 | apply Has.alloc1 | apply Has.alloc3 | apply Has.drew | apply Has.drewN | apply Has.set_ | apply Has.allocx | exact Has.nil _))) hg (by simp <;> omega); have hq := hh; simp only [Has, upd, World.size_alloc, World.size_setCell, World.size_drew, World.heap_drewN, and_true, true_and, ite_true, ite_false, and_self, Nat.add_right_cancel_iff, Nat.add_eq_left, Nat.left_eq_add, reduceCtorEq, Nat.reduceEqDiff, if_true, if_false] at hq; clear hg)
    go_wp2_with fail
    go_ret
    exact ⟨s.data.toList, by rw [← Lib.size_eq]; omega, by rw [← str_self]; rfl, Grow.below (b := w.heap.size) (by (repeat (with_reducible first | exact Grow.refl _ _ | assumption | refine Grow.drew ?_ | refine Grow.drewN ?_ | refine Grow.alloc ?_ _ | refine Grow.set ?_ (Or.inl rfl) | refine Grow.set ?_ (Or.inr (by first | omega | (simp <;> omega)))))) (by omega) (Nat.le_refl _)⟩

end Go.Proofs.YtgpjnffomheemaaDoor

