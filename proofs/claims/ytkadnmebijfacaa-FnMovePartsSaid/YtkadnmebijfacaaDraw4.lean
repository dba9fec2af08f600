/- The draws of spots. -/
import Derived.Test.YtkadnmebijfacaaDraw2
import Derived.Test.YtkadnmebijfacaaDraw3
namespace Go.Proofs.Ytkadnmebijfacaa
open Go.RowKit
set_option linter.unusedVariables false
set_option linter.unusedSimpArgs false
set_option maxRecDepth 100000

theorem Cur.start {W : World} {B n c : Nat} {A : Option Addr} {l : List Int} (t : TypeId) (hB : Bytes W B A n c l) (hf : BytesFit l) (hn : n ≤ 9223372036854775807) (hle : B ≤ W.heap.size) : Cur (W.alloc (.cells #[.slice A n c, .int .i64 0, .int .u64 0] t)) W.heap.size 0 :=
  ⟨A, n, c, l, 0, 0, Nat.le_refl _, hn, by simpa using Has.alloc3 (t := t) (a := .slice A n c) (b := .int .i64 0) (c := .int .u64 0) (Has.nil W),
    ⟨hB.1, hB.2.1, hB.2.2.1, fun h0 => by
      obtain ⟨g, off, rfl, hlt, hc⟩ := hB.2.2.2 h0
      exact ⟨g, off, rfl, by omega, fun i hi => (((Below.refl W.heap.size W).alloc (Nat.le_refl _) _).cell (p := ⟨g, _, none⟩) (show g < W.heap.size by omega)).trans (hc i hi)⟩⟩, hf⟩
/-- two spots, drawn -/
def RetDraw2 (w : World) (e : Ending) (w' : World) : Prop := ∃ x y u v : Int, e = .returned (.tuple #[.agg #[.int .i64 x, .int .i64 y], .agg #[.int .i64 u, .int .i64 v]]) ∧ Below w.heap.size w w'

set_option maxHeartbeats 4000000 in
theorem drawSquareOf_any (A : Option Addr) (n c : Nat) (l : List Int) (w : World) (hB : Bytes w w.heap.size A n c l) (hf : BytesFit l) (hn : n ≤ 9223372036854775807) :
    Calls Try.prog 107 #[.slice A n c] w (RetDraw2 w) := by
  have HB := Lib.hid hB
  have HF := Lib.hid hf
  clear hB hf
  go_enter Try.func107, Try.ntmps107
  go_wp2_with fail
  have hC := Cur.start (W := (w.alloc (.cells #[.int .i64 0, .int .i64 0] 25)).alloc (.cells #[.int .i64 0, .int .i64 0] 25)) 104 (HB.out.same (w' := (w.alloc (.cells #[.int .i64 0, .int .i64 0] 25)).alloc (.cells #[.int .i64 0, .int .i64 0] 25)) (fun i hi => (((Below.refl _ _).alloc (Nat.le_refl _) _).alloc (by simp) _).block i hi)) HF.out hn (by simp; omega)
  simp only [World.size_alloc] at hC
  have hG := Grow.refl w (w.heap.size + 1 + 1)
  have hh := Has.allocx (o := .cells #[.slice A n c, .int .i64 0, .int .u64 0] 104) (Has.alloc2 (t := 25) (a := .int .i64 0) (b := .int .i64 0) (Has.alloc2 (t := 25) (a := .int .i64 0) (b := .int .i64 0) (Has.nil w)))
  simp only [World.size_alloc] at hh
  (go_at_call 92; refine (anySpot_any _ _ _ (by (repeat (first | (with_reducible assumption) | (with_reducible apply Cur.drew) | (with_reducible apply Cur.drewN) | (with_reducible apply Cur.alloc) | ((with_reducible apply Cur.set); rotate_left; (first | omega | (simp <;> omega)))))) (by omega)).mono ?_; rintro e w' ⟨x, y, rfl, hg, hCn⟩; have hGn := Grow.trans (show Grow w _ _ from (by (repeat (with_reducible first | exact Grow.refl _ _ | assumption | refine Grow.drew ?_ | refine Grow.drewN ?_ | refine Grow.alloc ?_ _ | refine Grow.set ?_ (Or.inl rfl) | refine Grow.set ?_ (Or.inr (by first | omega | (simp <;> omega))))))) hg; clear hG hC; have hG := hGn; have hC := hCn; clear hGn hCn; have hz : w.heap.size ≤ w'.heap.size := hG.size; have hs := hg.size; (try simp only [World.size_alloc, World.size_setCell, World.size_drew, World.heap_drewN] at hs); have hh := Has.grow (by (repeat (with_reducible first | assumption | apply Has.alloc5 | apply Has.alloc2 | apply Has.alloc1 | apply Has.alloc3 | apply Has.drew | apply Has.drewN | apply Has.set_ | apply Has.allocx | exact Has.nil _))) hg (by simp <;> omega); have hq := hh; simp only [Has, upd, World.size_alloc, World.size_setCell, World.size_drew, World.heap_drewN, and_true, true_and, ite_true, ite_false, and_self, Nat.add_right_cancel_iff, Nat.add_eq_left, Nat.left_eq_add, reduceCtorEq, Nat.reduceEqDiff, if_true, if_false] at hq; clear hg)
  go_wp2_with fail
  (go_at_call 92; refine (anySpot_any _ _ _ (by (repeat (first | (with_reducible assumption) | (with_reducible apply Cur.drew) | (with_reducible apply Cur.drewN) | (with_reducible apply Cur.alloc) | ((with_reducible apply Cur.set); rotate_left; (first | omega | (simp <;> omega)))))) (by omega)).mono ?_; rintro e w' ⟨u, v, rfl, hg, hCn⟩; have hGn := Grow.trans (show Grow w _ _ from (by (repeat (with_reducible first | exact Grow.refl _ _ | assumption | refine Grow.drew ?_ | refine Grow.drewN ?_ | refine Grow.alloc ?_ _ | refine Grow.set ?_ (Or.inl rfl) | refine Grow.set ?_ (Or.inr (by first | omega | (simp <;> omega))))))) hg; clear hG hC; have hG := hGn; have hC := hCn; clear hGn hCn; have hz : w.heap.size ≤ w'.heap.size := hG.size; have hs := hg.size; (try simp only [World.size_alloc, World.size_setCell, World.size_drew, World.heap_drewN] at hs); have hh := Has.grow (by (repeat (with_reducible first | assumption | apply Has.alloc5 | apply Has.alloc2 | apply Has.alloc1 | apply Has.alloc3 | apply Has.drew | apply Has.drewN | apply Has.set_ | apply Has.allocx | exact Has.nil _))) hg (by simp <;> omega); have hq := hh; simp only [Has, upd, World.size_alloc, World.size_setCell, World.size_drew, World.heap_drewN, and_true, true_and, ite_true, ite_false, and_self, Nat.add_right_cancel_iff, Nat.add_eq_left, Nat.left_eq_add, reduceCtorEq, Nat.reduceEqDiff, if_true, if_false] at hq; clear hg)
  go_wp2_with fail
  refine ret_has (v := .tuple #[.agg #[.int .i64 x, .int .i64 y], .agg #[.int .i64 u, .int .i64 v]]) (m := [(w.heap.size, 0, .int .i64 x), (w.heap.size, 1, .int .i64 y), (w.heap.size + 1, 0, .int .i64 u), (w.heap.size + 1, 1, .int .i64 v)]) (by apply Has.weak; (focus (repeat (with_reducible first | assumption | apply Has.alloc5 | apply Has.alloc2 | apply Has.alloc1 | apply Has.alloc3 | apply Has.drew | apply Has.drewN | apply Has.set_ | apply Has.allocx | exact Has.nil _))); simp [upd, *]) ?_ rfl ⟨x, y, u, v, rfl, Grow.below (b := w.heap.size + 1 + 1) (by (repeat (with_reducible first | exact Grow.refl _ _ | assumption | refine Grow.drew ?_ | refine Grow.drewN ?_ | refine Grow.alloc ?_ _ | refine Grow.set ?_ (Or.inl rfl) | refine Grow.set ?_ (Or.inr (by first | omega | (simp <;> omega)))))) (by omega) (Nat.le_refl _)⟩
  intro W' hW'
  simp only [Has] at hW'
  simp [results, Try.results107, go_sem, hW']

end Go.Proofs.Ytkadnmebijfacaa

