/- Drawn lists of spots. -/
import Derived.Test.YtkadnmebijfacaaDraw1
import Derived.Test.YtkadnmebijfacaaArcs
namespace Go.Proofs.Ytkadnmebijfacaa
open Go.RowKit
set_option linter.unusedVariables false
set_option linter.unusedSimpArgs false
set_option maxRecDepth 100000

/-- a list of spots in new memory, and the cursor moved on -/
def RetCurL (w : World) (b K : Nat) (e : Ending) (w' : World) : Prop := ∃ A c l, e = .returned (.slice A l.length c) ∧ l.length ≤ 41 ∧ SRow w' w.heap.size (.slice A l.length c) l ∧ Grow w b w' ∧ Cur w' b K
theorem SRow.grow {w w' : World} {b base : Nat} {v : Value} {l : List (Int × Int)} (h : SRow w base v l) (hg : Grow w b w') (hb : b < base) : SRow w' base v l :=
  SRow.kept h hg (by
    rcases hv : v.ownBlock with _ | k
    · exact .inl rfl
    · right; intro e; injection e with e; have := (World.ownsRow.lt h.2 k hv).1; omega)
theorem Grow.ofGrown {a w w' : World} {b : Nat} {row : Option Nat} (h : Grow a b w) (hg : w.grownBy w' row) (hr : ∀ r, row = some r → a.heap.size ≤ r) : Grow a b w' := by
  refine ⟨hg.os.trans h.os, hg.tape.trans h.tape, hg.output.trans h.output, Nat.le_trans (Grow.size h) hg.size, fun i hi hne => ?_⟩
  have hs := Grow.size h
  rw [← h.block i hi hne]
  exact hg.block i (by omega) (by intro e; have := hr i e.symm; omega)
theorem Cur.grown {w w' : World} {b K : Nat} {row : Option Nat} (h : Cur w b K) (hg : w.grownBy w' row) (hr : ∀ r, row = some r → b < r) : Cur w' b K :=
  h.same (fun i hi => hg.block i (by have := h.lt; omega) (by intro e; have := hr i e.symm; omega))
theorem ownsRow_grow {w w' : World} {b base n : Nat} {v : Value} {xs : List Value} (h : w.ownsRow base 25 2 v n xs) (hg : Grow w b w') (hb : b < base) : w'.ownsRow base 25 2 v n xs :=
  World.ownsRow.kept h hg (by
    rcases hv : v.ownBlock with _ | k
    · exact .inl rfl
    · right; intro e; injection e with e; have := (World.ownsRow.lt h k hv).1; omega)
theorem rowTo_put {w : World} {g n k : Nat} {l : List (Int × Int)} {x y : Int} (h : RowTo w g n n l) (hk : k < n) :
    RowTo ((w.setCell ⟨g, k * 2, none⟩ (.int .i64 x)).setCell ⟨g, k * 2 + 1, none⟩ (.int .i64 y)) g n n (l.set k (x, y)) := by
  have hl := h.2.1
  have h0 : RowTo w g n k (l.set k (x, y)) := ⟨h.1, by simpa using hl, h.2.2.1, fun i hi hik => by
    have hi' : i < l.length := by simpa using hi
    have := h.2.2.2 i hi' (by omega)
    rw [List.getElem_set_ne (by omega)]
    exact this⟩
  have h1 := rowTo_set (x := x) (y := y) h0 (by simp; omega) (by simp) (by simp)
  refine ⟨h1.1, h1.2.1, h1.2.2.1, fun i hi hin => ?_⟩
  have hi' : i < l.length := by simpa using hi
  by_cases e : i ≤ k
  · exact h1.2.2.2 i hi (by omega)
  · have c := h.2.2.2 i hi' hin
    rw [List.getElem_set_ne (by omega)]
    have e1 : ∀ j v v', j ≠ k * 2 → j ≠ k * 2 + 1 → ((w.setCell ⟨g, k * 2, none⟩ v).setCell ⟨g, k * 2 + 1, none⟩ v').cell? ⟨g, j, none⟩ = w.cell? ⟨g, j, none⟩ := fun j v v' a1 a2 =>
      (World.cell?_setCell_other _ _ _ _ (by intro he; injection he; omega)).trans (World.cell?_setCell_other _ _ _ _ (by intro he; injection he; omega))
    rw [e1 _ _ _ (by omega) (by omega), e1 _ _ _ (by omega) (by omega)]
    exact c

set_option maxHeartbeats 8000000 in
theorem spotList_any (b K : Nat) (w : World) (hC : Cur w b K) (hK : K ≤ 800000) :
    Calls Try.prog 93 #[.pointer (some ⟨b, 0, none⟩)] w (RetCurL w b (K + 600)) := by
  have hb := hC.lt
  have hG := Grow.refl w b
  have hh := Has.nil w
  obtain ⟨i0, hi0, hz0, hz1, hz2⟩ := info_parts infoSpot
  have HI := Lib.hid hi0
  have HZ0 := Lib.hid hz0
  have HZ1 := Lib.hid hz1
  have HZ2 := Lib.hid hz2
  clear hi0 hz0 hz1 hz2
  go_enter Try.func93, Try.ntmps93
  go_upto_if 8 with (first | (go_at_call 102; refine (pick_any _ _ _ _ (by (repeat (first | (with_reducible assumption) | (with_reducible apply Cur.drew) | (with_reducible apply Cur.drewN) | (with_reducible apply Cur.alloc) | ((with_reducible apply Cur.set); rotate_left; (first | omega | (simp <;> omega)))))) (by omega)).mono ?_; rintro e w' ⟨k, ⟨k1, k2⟩, rfl, hg, hCn⟩; have hGn := Grow.trans (show Grow w _ _ from (by (repeat (with_reducible first | exact Grow.refl _ _ | assumption | refine Grow.drew ?_ | refine Grow.drewN ?_ | refine Grow.alloc ?_ _ | refine Grow.set ?_ (Or.inl rfl) | refine Grow.set ?_ (Or.inr (by first | omega | (simp <;> omega))))))) hg; clear hG hC; have hG := hGn; have hC := hCn; clear hGn hCn; have hz : w.heap.size ≤ w'.heap.size := hG.size; have hs := hg.size; (try simp only [World.size_alloc, World.size_setCell, World.size_drew, World.heap_drewN] at hs); have hh := Has.grow (by (repeat (with_reducible first | assumption | apply Has.alloc5 | apply Has.alloc2 | apply Has.alloc1 | apply Has.alloc3 | apply Has.drew | apply Has.drewN | apply Has.set_ | apply Has.allocx | exact Has.nil _))) hg (by simp <;> omega); have hq := hh; simp only [Has, upd, World.size_alloc, World.size_setCell, World.size_drew, World.heap_drewN, and_true, true_and, ite_true, ite_false, and_self, Nat.add_right_cancel_iff, Nat.add_eq_left, Nat.left_eq_add, reduceCtorEq, Nat.reduceEqDiff, if_true, if_false] at hq; have k3 := k2 (by omega); clear k2; clear hg) | (go_at_call 103; refine (one_any _ _ _ _ (by (repeat (first | (with_reducible assumption) | (with_reducible apply Cur.drew) | (with_reducible apply Cur.drewN) | (with_reducible apply Cur.alloc) | ((with_reducible apply Cur.set); rotate_left; (first | omega | (simp <;> omega)))))) (by omega)).mono ?_; rintro e w' ⟨f, rfl, hg, hCn⟩; have hGn := Grow.trans (show Grow w _ _ from (by (repeat (with_reducible first | exact Grow.refl _ _ | assumption | refine Grow.drew ?_ | refine Grow.drewN ?_ | refine Grow.alloc ?_ _ | refine Grow.set ?_ (Or.inl rfl) | refine Grow.set ?_ (Or.inr (by first | omega | (simp <;> omega))))))) hg; clear hG hC; have hG := hGn; have hC := hCn; clear hGn hCn; have hz : w.heap.size ≤ w'.heap.size := hG.size; have hs := hg.size; (try simp only [World.size_alloc, World.size_setCell, World.size_drew, World.heap_drewN] at hs); have hh := Has.grow (by (repeat (with_reducible first | assumption | apply Has.alloc5 | apply Has.alloc2 | apply Has.alloc1 | apply Has.alloc3 | apply Has.drew | apply Has.drewN | apply Has.set_ | apply Has.allocx | exact Has.nil _))) hg (by simp <;> omega); have hq := hh; simp only [Has, upd, World.size_alloc, World.size_setCell, World.size_drew, World.heap_drewN, and_true, true_and, ite_true, ite_false, and_self, Nat.add_right_cancel_iff, Nat.add_eq_left, Nat.left_eq_add, reduceCtorEq, Nat.reduceEqDiff, if_true, if_false] at hq; clear hg))
  go_cut [4] (fun s wx => ∃ n : Int, s = .int .i64 n ∧ 0 ≤ n ∧ n ≤ 41 ∧ w.heap.size ≤ wx.heap.size ∧ Grow w b wx ∧ Cur wx b (K + 6))
  case first =>
    rcases tf f with rfl | rfl
    all_goals (go_wp2_with (first | (go_at_call 102; refine (pick_any _ _ _ _ (by (repeat (first | (with_reducible assumption) | (with_reducible apply Cur.drew) | (with_reducible apply Cur.drewN) | (with_reducible apply Cur.alloc) | ((with_reducible apply Cur.set); rotate_left; (first | omega | (simp <;> omega)))))) (by omega)).mono ?_; rintro e w' ⟨k, ⟨k1, k2⟩, rfl, hg, hCn⟩; have hGn := Grow.trans (show Grow w _ _ from (by (repeat (with_reducible first | exact Grow.refl _ _ | assumption | refine Grow.drew ?_ | refine Grow.drewN ?_ | refine Grow.alloc ?_ _ | refine Grow.set ?_ (Or.inl rfl) | refine Grow.set ?_ (Or.inr (by first | omega | (simp <;> omega))))))) hg; clear hG hC; have hG := hGn; have hC := hCn; clear hGn hCn; have hz : w.heap.size ≤ w'.heap.size := hG.size; have hs := hg.size; (try simp only [World.size_alloc, World.size_setCell, World.size_drew, World.heap_drewN] at hs); have hh := Has.grow (by (repeat (with_reducible first | assumption | apply Has.alloc5 | apply Has.alloc2 | apply Has.alloc1 | apply Has.alloc3 | apply Has.drew | apply Has.drewN | apply Has.set_ | apply Has.allocx | exact Has.nil _))) hg (by simp <;> omega); have hq := hh; simp only [Has, upd, World.size_alloc, World.size_setCell, World.size_drew, World.heap_drewN, and_true, true_and, ite_true, ite_false, and_self, Nat.add_right_cancel_iff, Nat.add_eq_left, Nat.left_eq_add, reduceCtorEq, Nat.reduceEqDiff, if_true, if_false] at hq; have k3 := k2 (by omega); clear k2; clear hg)); go_meet; exact ⟨_, rfl, by omega, by omega, by omega, (by (repeat (with_reducible first | exact Grow.refl _ _ | assumption | refine Grow.drew ?_ | refine Grow.drewN ?_ | refine Grow.alloc ?_ _ | refine Grow.set ?_ (Or.inl rfl) | refine Grow.set ?_ (Or.inr (by first | omega | (simp <;> omega)))))), Cur.more (by (repeat (first | (with_reducible assumption) | (with_reducible apply Cur.drew) | (with_reducible apply Cur.drewN) | (with_reducible apply Cur.alloc) | ((with_reducible apply Cur.set); rotate_left; (first | omega | (simp <;> omega)))))) (by omega)⟩)
  case rest =>
    obtain ⟨n, rfl, n0, n1, hz, hG, hC⟩ := hcut
    have hh := Has.nil wc
    obtain ⟨wz, rfl⟩ : ∃ wz, wz = wc := ⟨_, rfl⟩
    go_wp2_with fail
    go_loopw [3] (fun s wr => ∃ (A : Option Addr) (m c : Nat) (q : List (Int × Int)), s = .slice A m c ∧ (m : Int) ≤ n ∧ Hid (q.length = m) ∧ wr.ownsRow w.heap.size 25 2 (.slice A m c) m (flat2 q) ∧ w.heap.size ≤ wr.heap.size ∧ Grow w b wr ∧ Cur wr b (K + 6 + 12 * m)) (fun v _ => match v with | .slice _ m _ => n.toNat - m | _ => 0)
    case atStart => exact ⟨none, 0, 0, [], rfl, by omega, Lib.hid rfl, World.ownsRow_nil _ _ _ _, hz, hG, hC⟩
    case round =>
      obtain ⟨A, m, c, q, rfl, hmn, HQ, hO, hz1, hG, hC⟩ := hrel
      have hh := Has.nil wr
      by_cases hlt : (m : Int) < n
      · go_wp2_with (first
            | (go_at_call 146; refine (spot_any _ _ _ (by (repeat (first | (with_reducible assumption) | (with_reducible apply Cur.drew) | (with_reducible apply Cur.drewN) | (with_reducible apply Cur.alloc) | ((with_reducible apply Cur.set); rotate_left; (first | omega | (simp <;> omega)))))) (by omega)).mono ?_; rintro e w' ⟨x, y, rfl, hg, hCn⟩; have hGn := Grow.trans (show Grow w _ _ from (by (repeat (with_reducible first | exact Grow.refl _ _ | assumption | refine Grow.drew ?_ | refine Grow.drewN ?_ | refine Grow.alloc ?_ _ | refine Grow.set ?_ (Or.inl rfl) | refine Grow.set ?_ (Or.inr (by first | omega | (simp <;> omega))))))) hg; clear hG hC; have hG := hGn; have hC := hCn; clear hGn hCn; have hz : w.heap.size ≤ w'.heap.size := hG.size; have hs := hg.size; (try simp only [World.size_alloc, World.size_setCell, World.size_drew, World.heap_drewN] at hs); have hh := Has.grow (by (repeat (with_reducible first | assumption | apply Has.alloc5 | apply Has.alloc2 | apply Has.alloc1 | apply Has.alloc3 | apply Has.drew | apply Has.drewN | apply Has.set_ | apply Has.allocx | exact Has.nil _))) hg (by simp <;> omega); have hq := hh; simp only [Has, upd, World.size_alloc, World.size_setCell, World.size_drew, World.heap_drewN, and_true, true_and, ite_true, ite_false, and_self, Nat.add_right_cancel_iff, Nat.add_eq_left, Nat.left_eq_add, reduceCtorEq, Nat.reduceEqDiff, if_true, if_false] at hq; have hO := ownsRow_grow hO hg hb; clear hg)
            | (at_builtin
               refine wpList_append_lies _ rfl _ _ 26 rfl w.heap.size 25 i0 (.agg #[.int .i64 0, .int .i64 0]) 2 16 Try.underlying26 HI.out HZ0.out HZ1.out HZ2.out rfl (by decide) _ _ _ rfl (hO.alloc _) ⟨w'.heap.size, 0, none⟩ 1 1 [.int .i64 x, .int .i64 y] rfl rfl (two_new _ _ _ _) (two_cells _ _) (by omega) (by simp only [maxLen]; omega) (by omega) (by simp; omega) (w'.heap.size + 1) (by simp) ?_
               intro g cap w2 hown' hgrow hat hlt2
               have hO2 : w2.ownsRow w.heap.size 25 2 (.slice (some ⟨g, 0, none⟩) (m + 1) cap) (m + 1) (flat2 (q ++ [(x, y)])) := by rw [flat2_snoc]; exact hown'
               have hlow := World.ownsRow.lt hO
               have hG2 : Grow w b w2 := Grow.ofGrown (show Grow w b _ from (by (repeat (with_reducible first | exact Grow.refl _ _ | assumption | refine Grow.drew ?_ | refine Grow.drewN ?_ | refine Grow.alloc ?_ _ | refine Grow.set ?_ (Or.inl rfl) | refine Grow.set ?_ (Or.inr (by first | omega | (simp <;> omega))))))) hgrow (fun r hr => (hlow r hr).1)
               have hC2 : Cur w2 b _ := Cur.grown (K := K + 6 + 12 * m + 12) (by (repeat (first | (with_reducible assumption) | (with_reducible apply Cur.drew) | (with_reducible apply Cur.drewN) | (with_reducible apply Cur.alloc) | ((with_reducible apply Cur.set); rotate_left; (first | omega | (simp <;> omega)))))) hgrow (fun r hr => by have := (hlow r hr).1; omega)
               have hz2 := hG2.size
               have HQ2 : Hid ((q ++ [(x, y)]).length = m + 1) := by show _ = _; simp [HQ.out]
               clear hown' hgrow hat hlow hO hG hC))
        go_roundw
        case rel => exact ⟨_, m + 1, cap, q ++ [(x, y)], rfl, by omega, HQ2, hO2, hz2, hG2, hC2.more (by omega)⟩
        case measure => simp; omega
      · obtain rfl : n = (m : Int) := by omega
        have hS : SRow wr w.heap.size (.slice A m c) q := ⟨by have := HQ.out; omega, by rw [HQ.out]; exact hO⟩
        rcases Nat.eq_zero_or_pos m with h0 | h0
        · have h9 : ¬ (0 : Int) < m := by omega
          clear h0
          go_wp2_with fail
          go_ret
          exact ⟨A, c, q, by rw [HQ.out]; rfl, by have := HQ.out; omega, by rw [HQ.out]; exact hS, (by (repeat (with_reducible first | exact Grow.refl _ _ | assumption | refine Grow.drew ?_ | refine Grow.drewN ?_ | refine Grow.alloc ?_ _ | refine Grow.set ?_ (Or.inl rfl) | refine Grow.set ?_ (Or.inr (by first | omega | (simp <;> omega)))))), Cur.more (by (repeat (first | (with_reducible assumption) | (with_reducible apply Cur.drew) | (with_reducible apply Cur.drewN) | (with_reducible apply Cur.alloc) | ((with_reducible apply Cur.set); rotate_left; (first | omega | (simp <;> omega)))))) (by omega)⟩
        · have h9 : (0 : Int) < m := by omega
          obtain ⟨A', c', hv, hcc, hL, hg0⟩ := hS.lst
          injection hv with e1 e2 e3
          subst e1 e3
          rw [HQ.out] at hcc
          obtain ⟨g, rfl, hbg, hgl, hob⟩ := hg0 (by have := HQ.out; omega)
          clear hL hg0 hob hS e2
          go_wp2_with fail
          (go_at_call 103; refine (one_any _ _ _ _ (by (repeat (first | (with_reducible assumption) | (with_reducible apply Cur.drew) | (with_reducible apply Cur.drewN) | (with_reducible apply Cur.alloc) | ((with_reducible apply Cur.set); rotate_left; (first | omega | (simp <;> omega)))))) (by omega)).mono ?_; rintro e w' ⟨f, rfl, hg, hCn⟩; have hGn := Grow.trans (show Grow w _ _ from (by (repeat (with_reducible first | exact Grow.refl _ _ | assumption | refine Grow.drew ?_ | refine Grow.drewN ?_ | refine Grow.alloc ?_ _ | refine Grow.set ?_ (Or.inl rfl) | refine Grow.set ?_ (Or.inr (by first | omega | (simp <;> omega))))))) hg; clear hG hC; have hG := hGn; have hC := hCn; clear hGn hCn; have hz : w.heap.size ≤ w'.heap.size := hG.size; have hs := hg.size; (try simp only [World.size_alloc, World.size_setCell, World.size_drew, World.heap_drewN] at hs); have hh := Has.grow (by (repeat (with_reducible first | assumption | apply Has.alloc5 | apply Has.alloc2 | apply Has.alloc1 | apply Has.alloc3 | apply Has.drew | apply Has.drewN | apply Has.set_ | apply Has.allocx | exact Has.nil _))) hg (by simp <;> omega); have hq := hh; simp only [Has, upd, World.size_alloc, World.size_setCell, World.size_drew, World.heap_drewN, and_true, true_and, ite_true, ite_false, and_self, Nat.add_right_cancel_iff, Nat.add_eq_left, Nat.left_eq_add, reduceCtorEq, Nat.reduceEqDiff, if_true, if_false] at hq; have hO := ownsRow_grow hO hg hb; clear hg)
          rcases tf f with rfl | rfl
          rotate_left
          · go_wp2_with fail
            go_ret
            exact ⟨_, c, q, by rw [HQ.out]; rfl, by have := HQ.out; omega, by rw [HQ.out]; exact ⟨by have := HQ.out; omega, by rw [HQ.out]; exact hO⟩, (by (repeat (with_reducible first | exact Grow.refl _ _ | assumption | refine Grow.drew ?_ | refine Grow.drewN ?_ | refine Grow.alloc ?_ _ | refine Grow.set ?_ (Or.inl rfl) | refine Grow.set ?_ (Or.inr (by first | omega | (simp <;> omega)))))), Cur.more (by (repeat (first | (with_reducible assumption) | (with_reducible apply Cur.drew) | (with_reducible apply Cur.drewN) | (with_reducible apply Cur.alloc) | ((with_reducible apply Cur.set); rotate_left; (first | omega | (simp <;> omega)))))) (by omega)⟩
          · go_wp2_with fail
            (go_at_call 102; refine (pick_any _ _ _ _ (by (repeat (first | (with_reducible assumption) | (with_reducible apply Cur.drew) | (with_reducible apply Cur.drewN) | (with_reducible apply Cur.alloc) | ((with_reducible apply Cur.set); rotate_left; (first | omega | (simp <;> omega)))))) (by omega)).mono ?_; rintro e w' ⟨k, ⟨k1, k2⟩, rfl, hg, hCn⟩; have hGn := Grow.trans (show Grow w _ _ from (by (repeat (with_reducible first | exact Grow.refl _ _ | assumption | refine Grow.drew ?_ | refine Grow.drewN ?_ | refine Grow.alloc ?_ _ | refine Grow.set ?_ (Or.inl rfl) | refine Grow.set ?_ (Or.inr (by first | omega | (simp <;> omega))))))) hg; clear hG hC; have hG := hGn; have hC := hCn; clear hGn hCn; have hz : w.heap.size ≤ w'.heap.size := hG.size; have hs := hg.size; (try simp only [World.size_alloc, World.size_setCell, World.size_drew, World.heap_drewN] at hs); have hh := Has.grow (by (repeat (with_reducible first | assumption | apply Has.alloc5 | apply Has.alloc2 | apply Has.alloc1 | apply Has.alloc3 | apply Has.drew | apply Has.drewN | apply Has.set_ | apply Has.allocx | exact Has.nil _))) hg (by simp <;> omega); have hq := hh; simp only [Has, upd, World.size_alloc, World.size_setCell, World.size_drew, World.heap_drewN, and_true, true_and, ite_true, ite_false, and_self, Nat.add_right_cancel_iff, Nat.add_eq_left, Nat.left_eq_add, reduceCtorEq, Nat.reduceEqDiff, if_true, if_false] at hq; have k3 := k2 (by omega); clear k2; have hO := ownsRow_grow hO hg hb; clear hg)
            obtain ⟨j, rfl⟩ : ∃ j : Nat, k = j := ⟨k.toNat, by omega⟩
            go_wp2_with fail
            (go_at_call 92; refine (anySpot_any _ _ _ (by (repeat (first | (with_reducible assumption) | (with_reducible apply Cur.drew) | (with_reducible apply Cur.drewN) | (with_reducible apply Cur.alloc) | ((with_reducible apply Cur.set); rotate_left; (first | omega | (simp <;> omega)))))) (by omega)).mono ?_; rintro e w' ⟨x, y, rfl, hg, hCn⟩; have hGn := Grow.trans (show Grow w _ _ from (by (repeat (with_reducible first | exact Grow.refl _ _ | assumption | refine Grow.drew ?_ | refine Grow.drewN ?_ | refine Grow.alloc ?_ _ | refine Grow.set ?_ (Or.inl rfl) | refine Grow.set ?_ (Or.inr (by first | omega | (simp <;> omega))))))) hg; clear hG hC; have hG := hGn; have hC := hCn; clear hGn hCn; have hz : w.heap.size ≤ w'.heap.size := hG.size; have hs := hg.size; (try simp only [World.size_alloc, World.size_setCell, World.size_drew, World.heap_drewN] at hs); have hh := Has.grow (by (repeat (with_reducible first | assumption | apply Has.alloc5 | apply Has.alloc2 | apply Has.alloc1 | apply Has.alloc3 | apply Has.drew | apply Has.drewN | apply Has.set_ | apply Has.allocx | exact Has.nil _))) hg (by simp <;> omega); have hq := hh; simp only [Has, upd, World.size_alloc, World.size_setCell, World.size_drew, World.heap_drewN, and_true, true_and, ite_true, ite_false, and_self, Nat.add_right_cancel_iff, Nat.add_eq_left, Nat.left_eq_add, reduceCtorEq, Nat.reduceEqDiff, if_true, if_false] at hq; have hO := ownsRow_grow hO hg hb; clear hg)
            obtain ⟨hr, hbk, _⟩ := SRow.rowTo (l := q) ⟨by have := HQ.out; omega, by rw [HQ.out]; exact hO⟩ HQ.out h0
            obtain ⟨u, u', hq2⟩ := hr.cells (j := j) (by omega)
            simp only [Has, and_true] at hq2
            go_wp2_with fail
            go_ret
            have hfin := srow_of (base := w.heap.size) (rowTo_put (x := x) (y := y) (k := j) hr (by omega)) hbk.set.set hcc.1 hcc.2 hbg (by omega)
            exact ⟨_, c, q.set j (x, y), by rw [List.length_set, HQ.out]; rfl, by rw [List.length_set, HQ.out]; omega, by rw [List.length_set, HQ.out]; exact hfin, (by (repeat (with_reducible first | exact Grow.refl _ _ | assumption | refine Grow.drew ?_ | refine Grow.drewN ?_ | refine Grow.alloc ?_ _ | refine Grow.set ?_ (Or.inl rfl) | refine Grow.set ?_ (Or.inr (by first | omega | (simp <;> omega)))))), Cur.more (by (repeat (first | (with_reducible assumption) | (with_reducible apply Cur.drew) | (with_reducible apply Cur.drewN) | (with_reducible apply Cur.alloc) | ((with_reducible apply Cur.set); rotate_left; (first | omega | (simp <;> omega)))))) (by omega)⟩

end Go.Proofs.Ytkadnmebijfacaa

