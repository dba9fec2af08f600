import Derived.Test.YtgpjnffomheemaaDoorJ5
import Derived.Test.YtgpjnffomheemaaDoorJ6
/- Drawn music. -/
namespace Go.Proofs.YtgpjnffomheemaaDoor
open Go.RowKit
set_option linter.unusedVariables false
set_option linter.unusedSimpArgs false
set_option maxRecDepth 100000

/-- music in new memory, and the cursor moved on -/
def RetCurM (P : Nat → Prop) (w : World) (b K : Nat) (e : Ending) (w' : World) : Prop := ∃ A c l, e = .returned (.slice A l.length c) ∧ P l.length ∧ MRow w' w.heap.size (.slice A l.length c) l ∧ Grow w b w' ∧ Cur w' b K
theorem MRow.grow {w w' : World} {b base : Nat} {v : Value} {l : List (Int × Int)} (h : MRow w base v l) (hg : Grow w b w') (hb : b < base) : MRow w' base v l :=
  MRow.kept h hg (by
    rcases hv : v.ownBlock with _ | k
    · exact .inl rfl
    · right; intro e; injection e with e; have := (World.ownsRow.lt h.2 k hv).1; omega)
theorem ownsRow_growM {w w' : World} {b base n : Nat} {v : Value} {xs : List Value} (h : w.ownsRow base 68 2 v n xs) (hg : Grow w b w') (hb : b < base) : w'.ownsRow base 68 2 v n xs :=
  World.ownsRow.kept h hg (by
    rcases hv : v.ownBlock with _ | k
    · exact .inl rfl
    · right; intro e; injection e with e; have := (World.ownsRow.lt h k hv).1; omega)
theorem rowTo_set0 {w : World} {g n k : Nat} {l : List (Int × Int)} {t : Int} (h : RowTo w g n n l) (hk : k < n) : RowTo (w.setCell ⟨g, k * 2, none⟩ (.int .i64 t)) g n n (l.set k (t, (l.getD k (0, 0)).2)) := by
  obtain ⟨h1, h2, h3, h4⟩ := h
  have ne : ∀ j, j ≠ k * 2 → (w.setCell ⟨g, k * 2, none⟩ (.int .i64 t)).cell? ⟨g, j, none⟩ = w.cell? ⟨g, j, none⟩ := fun j hj => World.cell?_setCell_other _ _ _ _ (by intro he; injection he; omega)
  have same : (w.setCell ⟨g, k * 2, none⟩ (.int .i64 t)).cell? ⟨g, k * 2, none⟩ = some (.int .i64 t) := by
    obtain ⟨⟨v, hv⟩, _⟩ := h3 (k * 2) (by omega)
    exact World.cell?_setCell_same _ _ _ hv
  refine ⟨by simpa using h1, by simpa using h2, fun j hj => ⟨?_, by simpa using (h3 j hj).2⟩, fun i hi hin => ?_⟩
  · by_cases e : j = k * 2
    · subst e; exact ⟨_, same⟩
    · obtain ⟨⟨v, hv⟩, _⟩ := h3 j hj; exact ⟨v, (ne j e).trans hv⟩
  · have hil : i < l.length := by omega
    have c := h4 i hil hin
    by_cases e : i = k
    · subst e
      rw [ne (i * 2 + 1) (by omega)]
      simp only [List.getElem_set_self]
      refine ⟨same, ?_⟩
      rw [c.2]; simp [List.getD, hil]
    · rw [ne _ (by omega), ne _ (by omega), List.getElem_set_ne (by omega)]
      exact c

set_option maxHeartbeats 8000000 in
theorem music_any (b K : Nat) (w : World) (hC : Cur w b K) (hK : K ≤ 900000) :
    Calls Tryd.prog 105 #[.pointer (some ⟨b, 0, none⟩)] w (RetCurM (fun n => 1 ≤ n ∧ n ≤ 40) w b (K + 400)) := by
  have hb := hC.lt
  have hG := Grow.refl w b
  have hh := Has.nil w
  obtain ⟨i0, hi0, hz0, hz1, hz2⟩ := info_parts infoMeasure
  have HI := Lib.hid hi0
  have HZ0 := Lib.hid hz0
  have HZ1 := Lib.hid hz1
  have HZ2 := Lib.hid hz2
  clear hi0 hz0 hz1 hz2
  go_enter Tryd.func105, Tryd.ntmps105
  go_upto_if 10 with (first | (go_at_call 64; refine (pick_any _ _ _ _ (by (repeat (first | (with_reducible assumption) | (with_reducible apply Cur.drew) | (with_reducible apply Cur.drewN) | (with_reducible apply Cur.alloc) | ((with_reducible apply Cur.set); rotate_left; (first | omega | (simp <;> omega)))))) (by omega)).mono ?_; rintro e w' ⟨k, ⟨kA, kB⟩, rfl, hg, hCn⟩; have hGn := Grow.trans (show Grow w _ _ from (by (repeat (with_reducible first | exact Grow.refl _ _ | assumption | refine Grow.drew ?_ | refine Grow.drewN ?_ | refine Grow.alloc ?_ _ | refine Grow.set ?_ (Or.inl rfl) | refine Grow.set ?_ (Or.inr (by first | omega | (simp <;> omega))))))) hg; clear hG hC; have hG := hGn; have hC := hCn; clear hGn hCn; have hz : w.heap.size ≤ w'.heap.size := hG.size; have hs := hg.size; (try simp only [World.size_alloc, World.size_setCell, World.size_drew, World.heap_drewN] at hs); have hh := Has.grow (by (repeat (with_reducible first | assumption | apply Has.alloc5 | apply Has.alloc2 | apply Has.alloc1 | apply Has.alloc3 | apply Has.drew | apply Has.drewN | apply Has.set_ | apply Has.allocx | exact Has.nil _))) hg (by simp <;> omega); have hq := hh; simp only [Has, upd, World.size_alloc, World.size_setCell, World.size_drew, World.heap_drewN, and_true, true_and, ite_true, ite_false, and_self, Nat.add_right_cancel_iff, Nat.add_eq_left, Nat.left_eq_add, reduceCtorEq, Nat.reduceEqDiff, if_true, if_false] at hq; have k3 := kB (by omega); have k1 := kA; clear kA kB; clear hg) | (go_at_call 92; refine (one_any _ _ _ _ (by (repeat (first | (with_reducible assumption) | (with_reducible apply Cur.drew) | (with_reducible apply Cur.drewN) | (with_reducible apply Cur.alloc) | ((with_reducible apply Cur.set); rotate_left; (first | omega | (simp <;> omega)))))) (by omega)).mono ?_; rintro e w' ⟨f, rfl, hg, hCn⟩; have hGn := Grow.trans (show Grow w _ _ from (by (repeat (with_reducible first | exact Grow.refl _ _ | assumption | refine Grow.drew ?_ | refine Grow.drewN ?_ | refine Grow.alloc ?_ _ | refine Grow.set ?_ (Or.inl rfl) | refine Grow.set ?_ (Or.inr (by first | omega | (simp <;> omega))))))) hg; clear hG hC; have hG := hGn; have hC := hCn; clear hGn hCn; have hz : w.heap.size ≤ w'.heap.size := hG.size; have hs := hg.size; (try simp only [World.size_alloc, World.size_setCell, World.size_drew, World.heap_drewN] at hs); have hh := Has.grow (by (repeat (with_reducible first | assumption | apply Has.alloc5 | apply Has.alloc2 | apply Has.alloc1 | apply Has.alloc3 | apply Has.drew | apply Has.drewN | apply Has.set_ | apply Has.allocx | exact Has.nil _))) hg (by simp <;> omega); have hq := hh; simp only [Has, upd, World.size_alloc, World.size_setCell, World.size_drew, World.heap_drewN, and_true, true_and, ite_true, ite_false, and_self, Nat.add_right_cancel_iff, Nat.add_eq_left, Nat.left_eq_add, reduceCtorEq, Nat.reduceEqDiff, if_true, if_false] at hq; clear hg))
  go_cut [4] (fun s wx => ∃ n : Int, s = .int .i64 n ∧ 1 ≤ n ∧ n ≤ 40 ∧ w.heap.size ≤ wx.heap.size ∧ Grow w b wx ∧ Cur wx b (K + 4))
  case first =>
    rcases tf f with rfl | rfl
    all_goals (go_wp2_with fail; go_meet; exact ⟨_, rfl, by omega, by omega, by omega, (by (repeat (with_reducible first | exact Grow.refl _ _ | assumption | refine Grow.drew ?_ | refine Grow.drewN ?_ | refine Grow.alloc ?_ _ | refine Grow.set ?_ (Or.inl rfl) | refine Grow.set ?_ (Or.inr (by first | omega | (simp <;> omega)))))), Cur.more (by (repeat (first | (with_reducible assumption) | (with_reducible apply Cur.drew) | (with_reducible apply Cur.drewN) | (with_reducible apply Cur.alloc) | ((with_reducible apply Cur.set); rotate_left; (first | omega | (simp <;> omega)))))) (by omega)⟩)
  case rest =>
    obtain ⟨n, rfl, n0, n1, hz, hG, hC⟩ := hcut
    have hh := Has.nil wc
    obtain ⟨wz, rfl⟩ : ∃ wz, wz = wc := ⟨_, rfl⟩
    go_wp2_with fail
    (go_at_call 64; refine (pick_any _ _ _ _ (by (repeat (first | (with_reducible assumption) | (with_reducible apply Cur.drew) | (with_reducible apply Cur.drewN) | (with_reducible apply Cur.alloc) | ((with_reducible apply Cur.set); rotate_left; (first | omega | (simp <;> omega)))))) (by omega)).mono ?_; rintro e w' ⟨k, ⟨kA, kB⟩, rfl, hg, hCn⟩; have hGn := Grow.trans (show Grow w _ _ from (by (repeat (with_reducible first | exact Grow.refl _ _ | assumption | refine Grow.drew ?_ | refine Grow.drewN ?_ | refine Grow.alloc ?_ _ | refine Grow.set ?_ (Or.inl rfl) | refine Grow.set ?_ (Or.inr (by first | omega | (simp <;> omega))))))) hg; clear hG hC; have hG := hGn; have hC := hCn; clear hGn hCn; have hz : w.heap.size ≤ w'.heap.size := hG.size; have hs := hg.size; (try simp only [World.size_alloc, World.size_setCell, World.size_drew, World.heap_drewN] at hs); have hh := Has.grow (by (repeat (with_reducible first | assumption | apply Has.alloc5 | apply Has.alloc2 | apply Has.alloc1 | apply Has.alloc3 | apply Has.drew | apply Has.drewN | apply Has.set_ | apply Has.allocx | exact Has.nil _))) hg (by simp <;> omega); have hq := hh; simp only [Has, upd, World.size_alloc, World.size_setCell, World.size_drew, World.heap_drewN, and_true, true_and, ite_true, ite_false, and_self, Nat.add_right_cancel_iff, Nat.add_eq_left, Nat.left_eq_add, reduceCtorEq, Nat.reduceEqDiff, if_true, if_false] at hq; have k3 := kB (by omega); have k1 := kA; clear kA kB; clear hg)
    go_wp2_with fail
    (go_at_call 65; refine (among_any _ _ _ _ _ _ (by (repeat (first | (with_reducible assumption) | (with_reducible apply Cur.drew) | (with_reducible apply Cur.drewN) | (with_reducible apply Cur.alloc) | ((with_reducible apply Cur.set); rotate_left; (first | omega | (simp <;> omega)))))) (by omega) (by (repeat (first | ((with_reducible apply IntsAt.new) <;> rfl) | ((with_reducible apply IntsAt.newAt); (focus (simp; done)); rfl; rfl) | (with_reducible assumption) | (with_reducible apply IntsAt.drew) | (with_reducible apply IntsAt.alloc)))) (by omega) (by omega) (by omega)).mono ?_; rintro e w' ⟨t, _, rfl, hg, hCn⟩; have hGn := Grow.trans (show Grow w _ _ from (by (repeat (with_reducible first | exact Grow.refl _ _ | assumption | refine Grow.drew ?_ | refine Grow.drewN ?_ | refine Grow.alloc ?_ _ | refine Grow.set ?_ (Or.inl rfl) | refine Grow.set ?_ (Or.inr (by first | omega | (simp <;> omega))))))) hg; clear hG hC; have hG := hGn; have hC := hCn; clear hGn hCn; have hz : w.heap.size ≤ w'.heap.size := hG.size; have hs := hg.size; (try simp only [World.size_alloc, World.size_setCell, World.size_drew, World.heap_drewN] at hs); have hh := Has.grow (by (repeat (with_reducible first | assumption | apply Has.alloc5 | apply Has.alloc2 | apply Has.alloc1 | apply Has.alloc3 | apply Has.drew | apply Has.drewN | apply Has.set_ | apply Has.allocx | exact Has.nil _))) hg (by simp <;> omega); have hq := hh; simp only [Has, upd, World.size_alloc, World.size_setCell, World.size_drew, World.heap_drewN, and_true, true_and, ite_true, ite_false, and_self, Nat.add_right_cancel_iff, Nat.add_eq_left, Nat.left_eq_add, reduceCtorEq, Nat.reduceEqDiff, if_true, if_false] at hq; clear hg)
    go_wp2_with fail
    have hz := hG.size
    obtain ⟨wy, hwy⟩ : ∃ wy, wy = w' := ⟨_, rfl⟩
    subst hwy
    go_loopw [3, 5] (fun s s5 wr => ∃ (A : Option Addr) (m c : Nat) (q : List (Int × Int)) (t : Int), s = .slice A m c ∧ s5 = .int .i64 t ∧ (m : Int) ≤ n ∧ Hid (q.length = m) ∧ wr.ownsRow w.heap.size 68 2 (.slice A m c) m (flat2 q) ∧ w.heap.size ≤ wr.heap.size ∧ Grow w b wr ∧ Cur wr b (K + 8 + 8 * m)) (fun v _ _ => match v with | .slice _ m _ => n.toNat - m | _ => 0)
    case atStart => exact ⟨none, 0, 0, [], _, rfl, rfl, by omega, Lib.hid rfl, World.ownsRow_nil _ _ _ _, hz, hG, Cur.more hC (by omega)⟩
    case round =>
      obtain ⟨A, m, c, q, t, rfl, rfl, hmn, HQ, hO, hz1, hG, hC⟩ := hrel
      have hh := Has.nil wr
      by_cases hlt : (m : Int) < n
      · go_wp2_with fail
        (go_at_call 92; refine (one_any _ _ _ _ (by (repeat (first | (with_reducible assumption) | (with_reducible apply Cur.drew) | (with_reducible apply Cur.drewN) | (with_reducible apply Cur.alloc) | ((with_reducible apply Cur.set); rotate_left; (first | omega | (simp <;> omega)))))) (by omega)).mono ?_; rintro e w' ⟨f, rfl, hg, hCn⟩; have hGn := Grow.trans (show Grow w _ _ from (by (repeat (with_reducible first | exact Grow.refl _ _ | assumption | refine Grow.drew ?_ | refine Grow.drewN ?_ | refine Grow.alloc ?_ _ | refine Grow.set ?_ (Or.inl rfl) | refine Grow.set ?_ (Or.inr (by first | omega | (simp <;> omega))))))) hg; clear hG hC; have hG := hGn; have hC := hCn; clear hGn hCn; have hz : w.heap.size ≤ w'.heap.size := hG.size; have hs := hg.size; (try simp only [World.size_alloc, World.size_setCell, World.size_drew, World.heap_drewN] at hs); have hh := Has.grow (by (repeat (with_reducible first | assumption | apply Has.alloc5 | apply Has.alloc2 | apply Has.alloc1 | apply Has.alloc3 | apply Has.drew | apply Has.drewN | apply Has.set_ | apply Has.allocx | exact Has.nil _))) hg (by simp <;> omega); have hq := hh; simp only [Has, upd, World.size_alloc, World.size_setCell, World.size_drew, World.heap_drewN, and_true, true_and, ite_true, ite_false, and_self, Nat.add_right_cancel_iff, Nat.add_eq_left, Nat.left_eq_add, reduceCtorEq, Nat.reduceEqDiff, if_true, if_false] at hq; (try have hO9 := ownsRow_growM hO hg hb); (try have hO9 := ownsRow_growM (World.ownsRow.alloc hO _) hg hb); clear hO; have hO := hO9; clear hO9; clear hg)
        rcases tf f with rfl | rfl
        · go_wp2_with fail
          (go_at_call 64; refine (pick_any _ _ _ _ (by (repeat (first | (with_reducible assumption) | (with_reducible apply Cur.drew) | (with_reducible apply Cur.drewN) | (with_reducible apply Cur.alloc) | ((with_reducible apply Cur.set); rotate_left; (first | omega | (simp <;> omega)))))) (by omega)).mono ?_; rintro e w' ⟨k, ⟨kA, kB⟩, rfl, hg, hCn⟩; have hGn := Grow.trans (show Grow w _ _ from (by (repeat (with_reducible first | exact Grow.refl _ _ | assumption | refine Grow.drew ?_ | refine Grow.drewN ?_ | refine Grow.alloc ?_ _ | refine Grow.set ?_ (Or.inl rfl) | refine Grow.set ?_ (Or.inr (by first | omega | (simp <;> omega))))))) hg; clear hG hC; have hG := hGn; have hC := hCn; clear hGn hCn; have hz : w.heap.size ≤ w'.heap.size := hG.size; have hs := hg.size; (try simp only [World.size_alloc, World.size_setCell, World.size_drew, World.heap_drewN] at hs); have hh := Has.grow (by (repeat (with_reducible first | assumption | apply Has.alloc5 | apply Has.alloc2 | apply Has.alloc1 | apply Has.alloc3 | apply Has.drew | apply Has.drewN | apply Has.set_ | apply Has.allocx | exact Has.nil _))) hg (by simp <;> omega); have hq := hh; simp only [Has, upd, World.size_alloc, World.size_setCell, World.size_drew, World.heap_drewN, and_true, true_and, ite_true, ite_false, and_self, Nat.add_right_cancel_iff, Nat.add_eq_left, Nat.left_eq_add, reduceCtorEq, Nat.reduceEqDiff, if_true, if_false] at hq; have k3 := kB (by omega); have k1 := kA; clear kA kB; (try have hO9 := ownsRow_growM hO hg hb); (try have hO9 := ownsRow_growM (World.ownsRow.alloc hO _) hg hb); clear hO; have hO := hO9; clear hO9; clear hg)
          go_wp2_with fail
          (go_at_call 65; refine (among_any _ _ _ _ _ _ (by (repeat (first | (with_reducible assumption) | (with_reducible apply Cur.drew) | (with_reducible apply Cur.drewN) | (with_reducible apply Cur.alloc) | ((with_reducible apply Cur.set); rotate_left; (first | omega | (simp <;> omega)))))) (by omega) (by (repeat (first | ((with_reducible apply IntsAt.new) <;> rfl) | ((with_reducible apply IntsAt.newAt); (focus (simp; done)); rfl; rfl) | (with_reducible assumption) | (with_reducible apply IntsAt.drew) | (with_reducible apply IntsAt.alloc)))) (by omega) (by omega) (by omega)).mono ?_; rintro e w' ⟨u, _, rfl, hg, hCn⟩; have hGn := Grow.trans (show Grow w _ _ from (by (repeat (with_reducible first | exact Grow.refl _ _ | assumption | refine Grow.drew ?_ | refine Grow.drewN ?_ | refine Grow.alloc ?_ _ | refine Grow.set ?_ (Or.inl rfl) | refine Grow.set ?_ (Or.inr (by first | omega | (simp <;> omega))))))) hg; clear hG hC; have hG := hGn; have hC := hCn; clear hGn hCn; have hz : w.heap.size ≤ w'.heap.size := hG.size; have hs := hg.size; (try simp only [World.size_alloc, World.size_setCell, World.size_drew, World.heap_drewN] at hs); have hh := Has.grow (by (repeat (with_reducible first | assumption | apply Has.alloc5 | apply Has.alloc2 | apply Has.alloc1 | apply Has.alloc3 | apply Has.drew | apply Has.drewN | apply Has.set_ | apply Has.allocx | exact Has.nil _))) hg (by simp <;> omega); have hq := hh; simp only [Has, upd, World.size_alloc, World.size_setCell, World.size_drew, World.heap_drewN, and_true, true_and, ite_true, ite_false, and_self, Nat.add_right_cancel_iff, Nat.add_eq_left, Nat.left_eq_add, reduceCtorEq, Nat.reduceEqDiff, if_true, if_false] at hq; (try have hO9 := ownsRow_growM hO hg hb); (try have hO9 := ownsRow_growM (World.ownsRow.alloc hO _) hg hb); clear hO; have hO := hO9; clear hO9; clear hg)
          go_wp2_with fail
          (go_at_call 65; refine (among_any _ _ _ _ _ _ (by (repeat (first | (with_reducible assumption) | (with_reducible apply Cur.drew) | (with_reducible apply Cur.drewN) | (with_reducible apply Cur.alloc) | ((with_reducible apply Cur.set); rotate_left; (first | omega | (simp <;> omega)))))) (by omega) (by (repeat (first | ((with_reducible apply IntsAt.new) <;> rfl) | ((with_reducible apply IntsAt.newAt); (focus (simp; done)); rfl; rfl) | (with_reducible assumption) | (with_reducible apply IntsAt.drew) | (with_reducible apply IntsAt.alloc)))) (by omega) (by omega) (by omega)).mono ?_; rintro e w' ⟨x, _, rfl, hg, hCn⟩; have hGn := Grow.trans (show Grow w _ _ from (by (repeat (with_reducible first | exact Grow.refl _ _ | assumption | refine Grow.drew ?_ | refine Grow.drewN ?_ | refine Grow.alloc ?_ _ | refine Grow.set ?_ (Or.inl rfl) | refine Grow.set ?_ (Or.inr (by first | omega | (simp <;> omega))))))) hg; clear hG hC; have hG := hGn; have hC := hCn; clear hGn hCn; have hz : w.heap.size ≤ w'.heap.size := hG.size; have hs := hg.size; (try simp only [World.size_alloc, World.size_setCell, World.size_drew, World.heap_drewN] at hs); have hh := Has.grow (by (repeat (with_reducible first | assumption | apply Has.alloc5 | apply Has.alloc2 | apply Has.alloc1 | apply Has.alloc3 | apply Has.drew | apply Has.drewN | apply Has.set_ | apply Has.allocx | exact Has.nil _))) hg (by simp <;> omega); have hq := hh; simp only [Has, upd, World.size_alloc, World.size_setCell, World.size_drew, World.heap_drewN, and_true, true_and, ite_true, ite_false, and_self, Nat.add_right_cancel_iff, Nat.add_eq_left, Nat.left_eq_add, reduceCtorEq, Nat.reduceEqDiff, if_true, if_false] at hq; (try have hO9 := ownsRow_growM hO hg hb); (try have hO9 := ownsRow_growM (World.ownsRow.alloc hO _) hg hb); clear hO; have hO := hO9; clear hO9; clear hg)
          go_wp2_with (first
            | (at_builtin
               refine wpList_append_lies _ rfl _ _ 56 rfl w.heap.size 68 i0 (.agg #[.int .i64 0, .int .i64 0]) 2 16 Tryd.underlying56 HI.out HZ0.out HZ1.out HZ2.out rfl (by decide) _ _ _ rfl (hO.alloc _) ⟨w'.heap.size, 0, none⟩ 1 1 [.int .i64 x, .int .i64 u] rfl rfl (two_new _ _ _ _) (two_cells _ _) (by omega) (by simp only [maxLen]; omega) (by omega) (by simp; omega) (w'.heap.size + 1) (by simp) ?_
               intro g cap w2 hown' hgrow hat hlt2
               have hO2 : w2.ownsRow w.heap.size 68 2 (.slice (some ⟨g, 0, none⟩) (m + 1) cap) (m + 1) (flat2 (q ++ [(x, u)])) := by rw [flat2_snoc]; exact hown'
               have hlow := World.ownsRow.lt hO
               have hG2 : Grow w b w2 := Grow.ofGrown (show Grow w b _ from (by (repeat (with_reducible first | exact Grow.refl _ _ | assumption | refine Grow.drew ?_ | refine Grow.drewN ?_ | refine Grow.alloc ?_ _ | refine Grow.set ?_ (Or.inl rfl) | refine Grow.set ?_ (Or.inr (by first | omega | (simp <;> omega))))))) hgrow (fun r hr => (hlow r hr).1)
               have hC2 : Cur w2 b _ := Cur.grown (K := K + 8 + 8 * m + 8) (by (repeat (first | (with_reducible assumption) | (with_reducible apply Cur.drew) | (with_reducible apply Cur.drewN) | (with_reducible apply Cur.alloc) | ((with_reducible apply Cur.set); rotate_left; (first | omega | (simp <;> omega)))))) hgrow (fun r hr => by have := (hlow r hr).1; omega)
               have hz2 := hG2.size
               have HQ2 : Hid ((q ++ [(x, u)]).length = m + 1) := by show _ = _; simp [HQ.out]
               clear hown' hgrow hat hlow hO hG hC))
          go_roundw
          case rel => exact ⟨_, m + 1, cap, q ++ [(x, _)], _, rfl, rfl, by omega, HQ2, hO2, hz2, hG2, hC2.more (by omega)⟩
          case measure => simp; omega
        · go_wp2_with fail
          (go_at_call 65; refine (among_any _ _ _ _ _ _ (by (repeat (first | (with_reducible assumption) | (with_reducible apply Cur.drew) | (with_reducible apply Cur.drewN) | (with_reducible apply Cur.alloc) | ((with_reducible apply Cur.set); rotate_left; (first | omega | (simp <;> omega)))))) (by omega) (by (repeat (first | ((with_reducible apply IntsAt.new) <;> rfl) | ((with_reducible apply IntsAt.newAt); (focus (simp; done)); rfl; rfl) | (with_reducible assumption) | (with_reducible apply IntsAt.drew) | (with_reducible apply IntsAt.alloc)))) (by omega) (by omega) (by omega)).mono ?_; rintro e w' ⟨x, _, rfl, hg, hCn⟩; have hGn := Grow.trans (show Grow w _ _ from (by (repeat (with_reducible first | exact Grow.refl _ _ | assumption | refine Grow.drew ?_ | refine Grow.drewN ?_ | refine Grow.alloc ?_ _ | refine Grow.set ?_ (Or.inl rfl) | refine Grow.set ?_ (Or.inr (by first | omega | (simp <;> omega))))))) hg; clear hG hC; have hG := hGn; have hC := hCn; clear hGn hCn; have hz : w.heap.size ≤ w'.heap.size := hG.size; have hs := hg.size; (try simp only [World.size_alloc, World.size_setCell, World.size_drew, World.heap_drewN] at hs); have hh := Has.grow (by (repeat (with_reducible first | assumption | apply Has.alloc5 | apply Has.alloc2 | apply Has.alloc1 | apply Has.alloc3 | apply Has.drew | apply Has.drewN | apply Has.set_ | apply Has.allocx | exact Has.nil _))) hg (by simp <;> omega); have hq := hh; simp only [Has, upd, World.size_alloc, World.size_setCell, World.size_drew, World.heap_drewN, and_true, true_and, ite_true, ite_false, and_self, Nat.add_right_cancel_iff, Nat.add_eq_left, Nat.left_eq_add, reduceCtorEq, Nat.reduceEqDiff, if_true, if_false] at hq; (try have hO9 := ownsRow_growM hO hg hb); (try have hO9 := ownsRow_growM (World.ownsRow.alloc hO _) hg hb); clear hO; have hO := hO9; clear hO9; clear hg)
          go_wp2_with (first
            | (at_builtin
               refine wpList_append_lies _ rfl _ _ 56 rfl w.heap.size 68 i0 (.agg #[.int .i64 0, .int .i64 0]) 2 16 Tryd.underlying56 HI.out HZ0.out HZ1.out HZ2.out rfl (by decide) _ _ _ rfl (hO.alloc _) ⟨w'.heap.size, 0, none⟩ 1 1 [.int .i64 x, .int .i64 t] rfl rfl (two_new _ _ _ _) (two_cells _ _) (by omega) (by simp only [maxLen]; omega) (by omega) (by simp; omega) (w'.heap.size + 1) (by simp) ?_
               intro g cap w2 hown' hgrow hat hlt2
               have hO2 : w2.ownsRow w.heap.size 68 2 (.slice (some ⟨g, 0, none⟩) (m + 1) cap) (m + 1) (flat2 (q ++ [(x, t)])) := by rw [flat2_snoc]; exact hown'
               have hlow := World.ownsRow.lt hO
               have hG2 : Grow w b w2 := Grow.ofGrown (show Grow w b _ from (by (repeat (with_reducible first | exact Grow.refl _ _ | assumption | refine Grow.drew ?_ | refine Grow.drewN ?_ | refine Grow.alloc ?_ _ | refine Grow.set ?_ (Or.inl rfl) | refine Grow.set ?_ (Or.inr (by first | omega | (simp <;> omega))))))) hgrow (fun r hr => (hlow r hr).1)
               have hC2 : Cur w2 b _ := Cur.grown (K := K + 8 + 8 * m + 4) (by (repeat (first | (with_reducible assumption) | (with_reducible apply Cur.drew) | (with_reducible apply Cur.drewN) | (with_reducible apply Cur.alloc) | ((with_reducible apply Cur.set); rotate_left; (first | omega | (simp <;> omega)))))) hgrow (fun r hr => by have := (hlow r hr).1; omega)
               have hz2 := hG2.size
               have HQ2 : Hid ((q ++ [(x, t)]).length = m + 1) := by show _ = _; simp [HQ.out]
               clear hown' hgrow hat hlow hO hG hC))
          go_roundw
          case rel => exact ⟨_, m + 1, cap, q ++ [(x, _)], _, rfl, rfl, by omega, HQ2, hO2, hz2, hG2, hC2.more (by omega)⟩
          case measure => simp; omega
      · obtain rfl : n = (m : Int) := by omega
        go_wp2_with fail
        go_ret
        have hq9 := HQ.out
        exact ⟨A, c, q, by rw [HQ.out]; rfl, by omega, by rw [HQ.out]; exact ⟨by omega, by rw [HQ.out]; exact hO⟩, (by (repeat (with_reducible first | exact Grow.refl _ _ | assumption | refine Grow.drew ?_ | refine Grow.drewN ?_ | refine Grow.alloc ?_ _ | refine Grow.set ?_ (Or.inl rfl) | refine Grow.set ?_ (Or.inr (by first | omega | (simp <;> omega)))))), Cur.more (by (repeat (first | (with_reducible assumption) | (with_reducible apply Cur.drew) | (with_reducible apply Cur.drewN) | (with_reducible apply Cur.alloc) | ((with_reducible apply Cur.set); rotate_left; (first | omega | (simp <;> omega)))))) (by omega)⟩

set_option maxHeartbeats 8000000 in
theorem anyMusic_any (b K : Nat) (w : World) (hC : Cur w b K) (hK : K ≤ 800000) :
    Calls Tryd.prog 101 #[.pointer (some ⟨b, 0, none⟩)] w (RetCurM (fun n => n ≤ 41) w b (K + 500)) := by
  have hb := hC.lt
  have hG := Grow.refl w b
  have hh := Has.nil w
  obtain ⟨i0, hi0, hz0, hz1, hz2⟩ := info_parts infoMeasure
  have HI := Lib.hid hi0
  have HZ0 := Lib.hid hz0
  have HZ1 := Lib.hid hz1
  have HZ2 := Lib.hid hz2
  clear hi0 hz0 hz1 hz2
  go_enter Tryd.func101, Tryd.ntmps101
  go_wp2_with fail
  (go_at_call 105; refine (music_any _ _ _ (by (repeat (first | (with_reducible assumption) | (with_reducible apply Cur.drew) | (with_reducible apply Cur.drewN) | (with_reducible apply Cur.alloc) | ((with_reducible apply Cur.set); rotate_left; (first | omega | (simp <;> omega)))))) (by omega)).mono ?_; rintro e w' ⟨A, c, q, rfl, ⟨hl, hl2⟩, hR, hg, hCn⟩; have hGn := Grow.trans (show Grow w _ _ from (by (repeat (with_reducible first | exact Grow.refl _ _ | assumption | refine Grow.drew ?_ | refine Grow.drewN ?_ | refine Grow.alloc ?_ _ | refine Grow.set ?_ (Or.inl rfl) | refine Grow.set ?_ (Or.inr (by first | omega | (simp <;> omega))))))) hg; clear hG hC; have hG := hGn; have hC := hCn; clear hGn hCn; have hz : w.heap.size ≤ w'.heap.size := hG.size; have hs := hg.size; (try simp only [World.size_alloc, World.size_setCell, World.size_drew, World.heap_drewN] at hs); have hh := Has.grow (by (repeat (with_reducible first | assumption | apply Has.alloc5 | apply Has.alloc2 | apply Has.alloc1 | apply Has.alloc3 | apply Has.drew | apply Has.drewN | apply Has.set_ | apply Has.allocx | exact Has.nil _))) hg (by simp <;> omega); have hq := hh; simp only [Has, upd, World.size_alloc, World.size_setCell, World.size_drew, World.heap_drewN, and_true, true_and, ite_true, ite_false, and_self, Nat.add_right_cancel_iff, Nat.add_eq_left, Nat.left_eq_add, reduceCtorEq, Nat.reduceEqDiff, if_true, if_false] at hq; clear hg)
  obtain ⟨m, hm⟩ : ∃ m, q.length = m := ⟨_, rfl⟩
  rw [hm] at hl hl2 hR
  have HQ := Lib.hid hm
  obtain ⟨A', c', hv, hcc, hL, hg0⟩ := hR.lst
  injection hv with e1 e2 e3
  subst e1 e3
  rw [HQ.out] at hcc
  obtain ⟨g, rfl, hbg, hgl, hob⟩ := hg0 (by have := HQ.out; omega)
  have hO := hR.2
  rw [hm] at hO
  clear hL hg0 hob hR e2
  rw [hm]
  clear hm
  go_wp2_with fail
  (go_at_call 64; refine (pick_any _ _ _ _ (by (repeat (first | (with_reducible assumption) | (with_reducible apply Cur.drew) | (with_reducible apply Cur.drewN) | (with_reducible apply Cur.alloc) | ((with_reducible apply Cur.set); rotate_left; (first | omega | (simp <;> omega)))))) (by omega)).mono ?_; rintro e w' ⟨k, ⟨kA, kB⟩, rfl, hg, hCn⟩; have hGn := Grow.trans (show Grow w _ _ from (by (repeat (with_reducible first | exact Grow.refl _ _ | assumption | refine Grow.drew ?_ | refine Grow.drewN ?_ | refine Grow.alloc ?_ _ | refine Grow.set ?_ (Or.inl rfl) | refine Grow.set ?_ (Or.inr (by first | omega | (simp <;> omega))))))) hg; clear hG hC; have hG := hGn; have hC := hCn; clear hGn hCn; have hz : w.heap.size ≤ w'.heap.size := hG.size; have hs := hg.size; (try simp only [World.size_alloc, World.size_setCell, World.size_drew, World.heap_drewN] at hs); have hh := Has.grow (by (repeat (with_reducible first | assumption | apply Has.alloc5 | apply Has.alloc2 | apply Has.alloc1 | apply Has.alloc3 | apply Has.drew | apply Has.drewN | apply Has.set_ | apply Has.allocx | exact Has.nil _))) hg (by simp <;> omega); have hq := hh; simp only [Has, upd, World.size_alloc, World.size_setCell, World.size_drew, World.heap_drewN, and_true, true_and, ite_true, ite_false, and_self, Nat.add_right_cancel_iff, Nat.add_eq_left, Nat.left_eq_add, reduceCtorEq, Nat.reduceEqDiff, if_true, if_false] at hq; have k3 := kB (by omega); have k1 := kA; clear kA kB; (try have hO9 := ownsRow_growM hO hg hb); (try have hO9 := ownsRow_growM (World.ownsRow.alloc hO _) hg hb); clear hO; have hO := hO9; clear hO9; clear hg)
  obtain ⟨j, rfl⟩ : ∃ j : Nat, k = j := ⟨k.toNat, by omega⟩
  go_wp2_with fail
  (go_at_call 64; refine (pick_any _ _ _ _ (by (repeat (first | (with_reducible assumption) | (with_reducible apply Cur.drew) | (with_reducible apply Cur.drewN) | (with_reducible apply Cur.alloc) | ((with_reducible apply Cur.set); rotate_left; (first | omega | (simp <;> omega)))))) (by omega)).mono ?_; rintro e w' ⟨s, ⟨kA, kB⟩, rfl, hg, hCn⟩; have hGn := Grow.trans (show Grow w _ _ from (by (repeat (with_reducible first | exact Grow.refl _ _ | assumption | refine Grow.drew ?_ | refine Grow.drewN ?_ | refine Grow.alloc ?_ _ | refine Grow.set ?_ (Or.inl rfl) | refine Grow.set ?_ (Or.inr (by first | omega | (simp <;> omega))))))) hg; clear hG hC; have hG := hGn; have hC := hCn; clear hGn hCn; have hz : w.heap.size ≤ w'.heap.size := hG.size; have hs := hg.size; (try simp only [World.size_alloc, World.size_setCell, World.size_drew, World.heap_drewN] at hs); have hh := Has.grow (by (repeat (with_reducible first | assumption | apply Has.alloc5 | apply Has.alloc2 | apply Has.alloc1 | apply Has.alloc3 | apply Has.drew | apply Has.drewN | apply Has.set_ | apply Has.allocx | exact Has.nil _))) hg (by simp <;> omega); have hq := hh; simp only [Has, upd, World.size_alloc, World.size_setCell, World.size_drew, World.heap_drewN, and_true, true_and, ite_true, ite_false, and_self, Nat.add_right_cancel_iff, Nat.add_eq_left, Nat.left_eq_add, reduceCtorEq, Nat.reduceEqDiff, if_true, if_false] at hq; have s3 := kB (by omega); have s1 := kA; clear kA kB; (try have hO9 := ownsRow_growM hO hg hb); (try have hO9 := ownsRow_growM (World.ownsRow.alloc hO _) hg hb); clear hO; have hO := hO9; clear hO9; clear hg)
  rcases (by omega : s = 0 ∨ s = 1 ∨ s = 2 ∨ s = 3 ∨ 4 ≤ s) with rfl | rfl | rfl | rfl | h4
  · go_wp2_with fail
    (go_at_call 65; refine (among_any _ _ _ _ _ _ (by (repeat (first | (with_reducible assumption) | (with_reducible apply Cur.drew) | (with_reducible apply Cur.drewN) | (with_reducible apply Cur.alloc) | ((with_reducible apply Cur.set); rotate_left; (first | omega | (simp <;> omega)))))) (by omega) (by (repeat (first | ((with_reducible apply IntsAt.new) <;> rfl) | ((with_reducible apply IntsAt.newAt); (focus (simp; done)); rfl; rfl) | (with_reducible assumption) | (with_reducible apply IntsAt.drew) | (with_reducible apply IntsAt.alloc)))) (by omega) (by omega) (by omega)).mono ?_; rintro e w' ⟨x, _, rfl, hg, hCn⟩; have hGn := Grow.trans (show Grow w _ _ from (by (repeat (with_reducible first | exact Grow.refl _ _ | assumption | refine Grow.drew ?_ | refine Grow.drewN ?_ | refine Grow.alloc ?_ _ | refine Grow.set ?_ (Or.inl rfl) | refine Grow.set ?_ (Or.inr (by first | omega | (simp <;> omega))))))) hg; clear hG hC; have hG := hGn; have hC := hCn; clear hGn hCn; have hz : w.heap.size ≤ w'.heap.size := hG.size; have hs := hg.size; (try simp only [World.size_alloc, World.size_setCell, World.size_drew, World.heap_drewN] at hs); have hh := Has.grow (by (repeat (with_reducible first | assumption | apply Has.alloc5 | apply Has.alloc2 | apply Has.alloc1 | apply Has.alloc3 | apply Has.drew | apply Has.drewN | apply Has.set_ | apply Has.allocx | exact Has.nil _))) hg (by simp <;> omega); have hq := hh; simp only [Has, upd, World.size_alloc, World.size_setCell, World.size_drew, World.heap_drewN, and_true, true_and, ite_true, ite_false, and_self, Nat.add_right_cancel_iff, Nat.add_eq_left, Nat.left_eq_add, reduceCtorEq, Nat.reduceEqDiff, if_true, if_false] at hq; (try have hO9 := ownsRow_growM hO hg hb); (try have hO9 := ownsRow_growM (World.ownsRow.alloc hO _) hg hb); clear hO; have hO := hO9; clear hO9; clear hg)
    obtain ⟨hr, hbk, _⟩ := MRow.rowTo (l := q) ⟨by have := HQ.out; omega, by rw [HQ.out]; exact hO⟩ HQ.out (by omega)
    obtain ⟨u, u', hq2⟩ := hr.cells (j := j) (by omega)
    simp only [Has, and_true] at hq2
    go_wp2_with fail
    go_ret
    have hfin := mrow_of (base := w.heap.size) (rowTo_set0 (t := x) (k := j) hr (by omega)) hbk.set hcc.1 hcc.2 hbg (by omega)
    exact ⟨_, c, q.set j (x, _), by rw [List.length_set, HQ.out]; rfl, by rw [List.length_set, HQ.out]; omega, by rw [List.length_set, HQ.out]; exact hfin, (by (repeat (with_reducible first | exact Grow.refl _ _ | assumption | refine Grow.drew ?_ | refine Grow.drewN ?_ | refine Grow.alloc ?_ _ | refine Grow.set ?_ (Or.inl rfl) | refine Grow.set ?_ (Or.inr (by first | omega | (simp <;> omega)))))), Cur.more (by (repeat (first | (with_reducible assumption) | (with_reducible apply Cur.drew) | (with_reducible apply Cur.drewN) | (with_reducible apply Cur.alloc) | ((with_reducible apply Cur.set); rotate_left; (first | omega | (simp <;> omega)))))) (by omega)⟩
  · go_wp2_with fail
    (go_at_call 65; refine (among_any _ _ _ _ _ _ (by (repeat (first | (with_reducible assumption) | (with_reducible apply Cur.drew) | (with_reducible apply Cur.drewN) | (with_reducible apply Cur.alloc) | ((with_reducible apply Cur.set); rotate_left; (first | omega | (simp <;> omega)))))) (by omega) (by (repeat (first | ((with_reducible apply IntsAt.new) <;> rfl) | ((with_reducible apply IntsAt.newAt); (focus (simp; done)); rfl; rfl) | (with_reducible assumption) | (with_reducible apply IntsAt.drew) | (with_reducible apply IntsAt.alloc)))) (by omega) (by omega) (by omega)).mono ?_; rintro e w' ⟨x, _, rfl, hg, hCn⟩; have hGn := Grow.trans (show Grow w _ _ from (by (repeat (with_reducible first | exact Grow.refl _ _ | assumption | refine Grow.drew ?_ | refine Grow.drewN ?_ | refine Grow.alloc ?_ _ | refine Grow.set ?_ (Or.inl rfl) | refine Grow.set ?_ (Or.inr (by first | omega | (simp <;> omega))))))) hg; clear hG hC; have hG := hGn; have hC := hCn; clear hGn hCn; have hz : w.heap.size ≤ w'.heap.size := hG.size; have hs := hg.size; (try simp only [World.size_alloc, World.size_setCell, World.size_drew, World.heap_drewN] at hs); have hh := Has.grow (by (repeat (with_reducible first | assumption | apply Has.alloc5 | apply Has.alloc2 | apply Has.alloc1 | apply Has.alloc3 | apply Has.drew | apply Has.drewN | apply Has.set_ | apply Has.allocx | exact Has.nil _))) hg (by simp <;> omega); have hq := hh; simp only [Has, upd, World.size_alloc, World.size_setCell, World.size_drew, World.heap_drewN, and_true, true_and, ite_true, ite_false, and_self, Nat.add_right_cancel_iff, Nat.add_eq_left, Nat.left_eq_add, reduceCtorEq, Nat.reduceEqDiff, if_true, if_false] at hq; (try have hO9 := ownsRow_growM hO hg hb); (try have hO9 := ownsRow_growM (World.ownsRow.alloc hO _) hg hb); clear hO; have hO := hO9; clear hO9; clear hg)
    obtain ⟨hr, hbk, _⟩ := MRow.rowTo (l := q) ⟨by have := HQ.out; omega, by rw [HQ.out]; exact hO⟩ HQ.out (by omega)
    obtain ⟨u, u', hq2⟩ := hr.cells (j := j) (by omega)
    simp only [Has, and_true] at hq2
    go_wp2_with fail
    go_ret
    have hfin := mrow_of (base := w.heap.size) (rowTo_set1 (t := x) (k := j) hr (by omega)) hbk.set hcc.1 hcc.2 hbg (by omega)
    exact ⟨_, c, q.set j (_, x), by rw [List.length_set, HQ.out]; rfl, by rw [List.length_set, HQ.out]; omega, by rw [List.length_set, HQ.out]; exact hfin, (by (repeat (with_reducible first | exact Grow.refl _ _ | assumption | refine Grow.drew ?_ | refine Grow.drewN ?_ | refine Grow.alloc ?_ _ | refine Grow.set ?_ (Or.inl rfl) | refine Grow.set ?_ (Or.inr (by first | omega | (simp <;> omega)))))), Cur.more (by (repeat (first | (with_reducible assumption) | (with_reducible apply Cur.drew) | (with_reducible apply Cur.drewN) | (with_reducible apply Cur.alloc) | ((with_reducible apply Cur.set); rotate_left; (first | omega | (simp <;> omega)))))) (by omega)⟩
  · go_wp2_with fail
    (go_at_call 64; refine (pick_any _ _ _ _ (by (repeat (first | (with_reducible assumption) | (with_reducible apply Cur.drew) | (with_reducible apply Cur.drewN) | (with_reducible apply Cur.alloc) | ((with_reducible apply Cur.set); rotate_left; (first | omega | (simp <;> omega)))))) (by omega)).mono ?_; rintro e w' ⟨k, ⟨kA, kB⟩, rfl, hg, hCn⟩; have hGn := Grow.trans (show Grow w _ _ from (by (repeat (with_reducible first | exact Grow.refl _ _ | assumption | refine Grow.drew ?_ | refine Grow.drewN ?_ | refine Grow.alloc ?_ _ | refine Grow.set ?_ (Or.inl rfl) | refine Grow.set ?_ (Or.inr (by first | omega | (simp <;> omega))))))) hg; clear hG hC; have hG := hGn; have hC := hCn; clear hGn hCn; have hz : w.heap.size ≤ w'.heap.size := hG.size; have hs := hg.size; (try simp only [World.size_alloc, World.size_setCell, World.size_drew, World.heap_drewN] at hs); have hh := Has.grow (by (repeat (with_reducible first | assumption | apply Has.alloc5 | apply Has.alloc2 | apply Has.alloc1 | apply Has.alloc3 | apply Has.drew | apply Has.drewN | apply Has.set_ | apply Has.allocx | exact Has.nil _))) hg (by simp <;> omega); have hq := hh; simp only [Has, upd, World.size_alloc, World.size_setCell, World.size_drew, World.heap_drewN, and_true, true_and, ite_true, ite_false, and_self, Nat.add_right_cancel_iff, Nat.add_eq_left, Nat.left_eq_add, reduceCtorEq, Nat.reduceEqDiff, if_true, if_false] at hq; have k3 := kB (by omega); have k1 := kA; clear kA kB; (try have hO9 := ownsRow_growM hO hg hb); (try have hO9 := ownsRow_growM (World.ownsRow.alloc hO _) hg hb); clear hO; have hO := hO9; clear hO9; clear hg)
    go_wp2_with fail
    have hz := hG.size
    obtain ⟨m0, hm0⟩ : ∃ m0 : Nat, m0 = m := ⟨_, rfl⟩
    obtain ⟨wy, hwy⟩ : ∃ wy, wy = w' := ⟨_, rfl⟩
    subst hwy
    go_loopw [3] (fun s wr => ∃ (A : Option Addr) (m c : Nat) (q : List (Int × Int)), s = .slice A m c ∧ m ≤ 41 ∧ Hid (q.length = m) ∧ wr.ownsRow w.heap.size 68 2 (.slice A m c) m (flat2 q) ∧ w.heap.size ≤ wr.heap.size ∧ Grow w b wr ∧ Cur wr b (K + 500)) (fun v _ => match v with | .slice _ m _ => 41 - m | _ => 0)
    case atStart => exact ⟨_, m, c, q, rfl, by omega, HQ, hO, hz, hG, Cur.more hC (by omega)⟩
    case round =>
      clear hO HQ
      obtain ⟨A, m, c, q, rfl, hmn, HQ, hO, hz1, hG, hC⟩ := hrel
      have hh := Has.nil wr
      by_cases hlt : (m : Int) < 40 + k
      · go_wp2_with (first
            | (at_builtin
               refine wpList_append_lies _ rfl _ _ 56 rfl w.heap.size 68 i0 (.agg #[.int .i64 0, .int .i64 0]) 2 16 Tryd.underlying56 HI.out HZ0.out HZ1.out HZ2.out rfl (by decide) _ _ _ rfl (hO.alloc _) ⟨wr.heap.size, 0, none⟩ 1 1 [.int .i64 4, .int .i64 120] rfl rfl (two_new _ _ _ _) (two_cells _ _) (by omega) (by simp only [maxLen]; omega) (by omega) (by simp; omega) (wr.heap.size + 1) (by simp) ?_
               intro g cap w2 hown' hgrow hat hlt2
               have hO2 : w2.ownsRow w.heap.size 68 2 (.slice (some ⟨g, 0, none⟩) (m + 1) cap) (m + 1) (flat2 (q ++ [(4, 120)])) := by rw [flat2_snoc]; exact hown'
               have hlow := World.ownsRow.lt hO
               have hG2 : Grow w b w2 := Grow.ofGrown (show Grow w b _ from (by (repeat (with_reducible first | exact Grow.refl _ _ | assumption | refine Grow.drew ?_ | refine Grow.drewN ?_ | refine Grow.alloc ?_ _ | refine Grow.set ?_ (Or.inl rfl) | refine Grow.set ?_ (Or.inr (by first | omega | (simp <;> omega))))))) hgrow (fun r hr => (hlow r hr).1)
               have hC2 : Cur w2 b _ := Cur.grown (K := K + 500) (by (repeat (first | (with_reducible assumption) | (with_reducible apply Cur.drew) | (with_reducible apply Cur.drewN) | (with_reducible apply Cur.alloc) | ((with_reducible apply Cur.set); rotate_left; (first | omega | (simp <;> omega)))))) hgrow (fun r hr => by have := (hlow r hr).1; omega)
               have hz2 := hG2.size
               have HQ2 : Hid ((q ++ [(4, 120)]).length = m + 1) := by show _ = _; simp [HQ.out]
               clear hown' hgrow hat hlow hO hG hC))
        go_roundw
        case rel => exact ⟨_, m + 1, cap, q ++ [(4, 120)], rfl, by omega, HQ2, hO2, hz2, hG2, hC2.more (by omega)⟩
        case measure => simp; omega
      · go_wp2_with fail
        go_ret
        have hq9 := HQ.out
        exact ⟨A, c, q, by rw [HQ.out]; rfl, by omega, by rw [HQ.out]; exact ⟨by omega, by rw [HQ.out]; exact hO⟩, (by (repeat (with_reducible first | exact Grow.refl _ _ | assumption | refine Grow.drew ?_ | refine Grow.drewN ?_ | refine Grow.alloc ?_ _ | refine Grow.set ?_ (Or.inl rfl) | refine Grow.set ?_ (Or.inr (by first | omega | (simp <;> omega)))))), Cur.more (by (repeat (first | (with_reducible assumption) | (with_reducible apply Cur.drew) | (with_reducible apply Cur.drewN) | (with_reducible apply Cur.alloc) | ((with_reducible apply Cur.set); rotate_left; (first | omega | (simp <;> omega)))))) (by omega)⟩
  · go_wp2_with fail
    go_ret
    exact ⟨none, 0, [], rfl, by simp, MRow.nil _ _, (by (repeat (with_reducible first | exact Grow.refl _ _ | assumption | refine Grow.drew ?_ | refine Grow.drewN ?_ | refine Grow.alloc ?_ _ | refine Grow.set ?_ (Or.inl rfl) | refine Grow.set ?_ (Or.inr (by first | omega | (simp <;> omega)))))), Cur.more (by (repeat (first | (with_reducible assumption) | (with_reducible apply Cur.drew) | (with_reducible apply Cur.drewN) | (with_reducible apply Cur.alloc) | ((with_reducible apply Cur.set); rotate_left; (first | omega | (simp <;> omega)))))) (by omega)⟩
  · have h40 : ¬ s = 0 := by omega
    have h41 : ¬ s = 1 := by omega
    have h42 : ¬ s = 2 := by omega
    have h43 : ¬ s = 3 := by omega
    go_wp2_with fail
    go_ret
    have hq9 := HQ.out
    exact ⟨_, c, q, by rw [HQ.out]; rfl, by omega, by rw [HQ.out]; exact ⟨by omega, by rw [HQ.out]; exact hO⟩, (by (repeat (with_reducible first | exact Grow.refl _ _ | assumption | refine Grow.drew ?_ | refine Grow.drewN ?_ | refine Grow.alloc ?_ _ | refine Grow.set ?_ (Or.inl rfl) | refine Grow.set ?_ (Or.inr (by first | omega | (simp <;> omega)))))), Cur.more (by (repeat (first | (with_reducible assumption) | (with_reducible apply Cur.drew) | (with_reducible apply Cur.drewN) | (with_reducible apply Cur.alloc) | ((with_reducible apply Cur.set); rotate_left; (first | omega | (simp <;> omega)))))) (by omega)⟩

end Go.Proofs.YtgpjnffomheemaaDoor

