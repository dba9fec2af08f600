import Derived.Test.YtgpjnffomheemaaDoorJ8Mus2
import Derived.Test.YtgpjnffomheemaaDoorJ22Spoil
import Derived.Test.YtgpjnffomheemaaDoorJ20Wrt3
import Derived.Test.YtgpjnffomheemaaDoorJ19
/- Draws of the law on music: music, and a text of music. -/
namespace Go.Proofs.YtgpjnffomheemaaDoor
open Go.RowKit
set_option linter.unusedVariables false
set_option linter.unusedSimpArgs false
set_option maxRecDepth 100000

theorem snoc_meB {q : List (Int × Int)} {x u : Int} (h : Hid (∀ p ∈ q, meB p.1 p.2 = true)) (h1 : 1 ≤ x) (h2 : x ≤ 12) (h3 : 40 ≤ u) (h4 : u ≤ 220) : Hid (∀ p ∈ q ++ [(x, u)], meB p.1 p.2 = true) := by
  refine Lib.hid (fun p hp => ?_)
  rcases List.mem_append.1 hp with h' | h'
  · exact h.out p h'
  · obtain rfl : p = (x, u) := by simpa using h'
    rw [meB_iff]; exact ⟨h1, h2, h3, h4⟩
theorem musB_of {q : List (Int × Int)} {m : Nat} (hm : q.length = m) (h1 : 1 ≤ m) (h2 : m ≤ 40) (h : Hid (∀ p ∈ q, meB p.1 p.2 = true)) : musB q = true := by
  unfold musB
  rw [Bool.and_eq_true, inB_iff, List.all_eq_true]
  exact ⟨⟨by omega, by omega⟩, h.out⟩
theorem spoilt_str (b K : Nat) (L : List UInt8) (wi : ByteArray) (w : World) (hC : Cur w b K) (hK : K ≤ 900000) (hs0 : L.length ≤ 100000) (hw1 : 1 ≤ wi.size) (hw2 : wi.size ≤ 100) :
    Calls Tryd.prog 70 #[.pointer (some ⟨b, 0, none⟩), str L, .string wi] w (RetCurT (L.length + 2) w b (K + 20)) := by
  have hz : (⟨L.toArray⟩ : ByteArray).size = L.length := by rw [Lib.size_eq]
  have := spoilt_any b K ⟨L.toArray⟩ wi w hC hK (by omega) hw1 hw2
  rw [hz] at this
  exact this
theorem Grow.ofB {a w w' : World} {b : Nat} (h : Grow a b w) (hb : Below w.heap.size w w') : Grow a b w' := h.trans (Grow.ofBelow hb)
theorem mrow_cap {w : World} {b n c : Nat} {A : Option Addr} {l : List (Int × Int)} (h : MRow w b (.slice A n c) l) (hn : l.length = n) : n ≤ c ∧ c ≤ maxLen := by
  obtain ⟨A', c', hv, hc, _⟩ := h.lst
  injection hv with e1 e2 e3
  subst e3
  rw [hn] at hc
  exact hc

set_option maxHeartbeats 8000000 in
theorem musicG_any (b K : Nat) (w : World) (hC : Cur w b K) (hK : K ≤ 900000) :
    Calls Tryd.prog 105 #[.pointer (some ⟨b, 0, none⟩)] w fun e w' => ∃ A c l, e = .returned (.slice A l.length c) ∧ musB l = true ∧ MRow w' w.heap.size (.slice A l.length c) l ∧ Grow w b w' ∧ Cur w' b (K + 400) := by
  have hb := hC.lt
  have hG := Grow.refl w b
  have hh := Has.nil w
  obtain ⟨i0, hi0, hz0, hz1, hz2⟩ := info_parts infoMeasure
  have HI := Lib.hid hi0
  have HZ0 := Lib.hid hz0
  have HZ1 := Lib.hid hz1
  have HZ2 := Lib.hid hz2
  clear hi0 hz0 hz1 hz2
  go_enter Tryd.func105, Tryd.ntmps105
  go_upto_if 10 with (first | (go_at_call 64; refine (pick_any _ _ _ _ (by (repeat (first | (with_reducible assumption) | (with_reducible apply Cur.drew) | (with_reducible apply Cur.drewN) | (with_reducible apply Cur.alloc) | ((with_reducible apply Cur.set); rotate_left; (first | omega | (simp <;> omega)))))) (by omega)).mono ?_; rintro e w' ⟨k, ⟨kA, kB⟩, rfl, hg, hCn⟩; have hGn := Grow.trans (show Grow w _ _ from (by (repeat (with_reducible first | exact Grow.refl _ _ | assumption | refine Grow.drew ?_ | refine Grow.drewN ?_ | refine Grow.alloc ?_ _ | refine Grow.set ?_ (Or.inl rfl) | refine Grow.set ?_ (Or.inr (by first | omega | (simp <;> omega))))))) hg; clear hG hC; have hG := hGn; have hC := hCn; clear hGn hCn; have hz : w.heap.size ≤ w'.heap.size := hG.size; have hs := hg.size; (try simp only [World.size_alloc, World.size_setCell, World.size_drew, World.heap_drewN] at hs); have hh := Has.grow (by (repeat (with_reducible first | assumption | apply Has.alloc5 | apply Has.alloc2 | apply Has.alloc1 | apply Has.alloc3 | apply Has.drew | apply Has.drewN | apply Has.set_ | apply Has.allocx | exact Has.nil _))) hg (by simp <;> omega); have hq := hh; simp only [Has, upd, World.size_alloc, World.size_setCell, World.size_drew, World.heap_drewN, and_true, true_and, ite_true, ite_false, and_self, Nat.add_right_cancel_iff, Nat.add_eq_left, Nat.left_eq_add, reduceCtorEq, Nat.reduceEqDiff, if_true, if_false] at hq; have k3 := kB (by omega); have k1 := kA; clear kA kB; clear hg) | (go_at_call 92; refine (one_any _ _ _ _ (by (repeat (first | (with_reducible assumption) | (with_reducible apply Cur.drew) | (with_reducible apply Cur.drewN) | (with_reducible apply Cur.alloc) | ((with_reducible apply Cur.set); rotate_left; (first | omega | (simp <;> omega)))))) (by omega)).mono ?_; rintro e w' ⟨f, rfl, hg, hCn⟩; have hGn := Grow.trans (show Grow w _ _ from (by (repeat (with_reducible first | exact Grow.refl _ _ | assumption | refine Grow.drew ?_ | refine Grow.drewN ?_ | refine Grow.alloc ?_ _ | refine Grow.set ?_ (Or.inl rfl) | refine Grow.set ?_ (Or.inr (by first | omega | (simp <;> omega))))))) hg; clear hG hC; have hG := hGn; have hC := hCn; clear hGn hCn; have hz : w.heap.size ≤ w'.heap.size := hG.size; have hs := hg.size; (try simp only [World.size_alloc, World.size_setCell, World.size_drew, World.heap_drewN] at hs); have hh := Has.grow (by (repeat (with_reducible first | assumption | apply Has.alloc5 | apply Has.alloc2 | apply Has.alloc1 | apply Has.alloc3 | apply Has.drew | apply Has.drewN | apply Has.set_ | apply Has.allocx | exact Has.nil _))) hg (by simp <;> omega); have hq := hh; simp only [Has, upd, World.size_alloc, World.size_setCell, World.size_drew, World.heap_drewN, and_true, true_and, ite_true, ite_false, and_self, Nat.add_right_cancel_iff, Nat.add_eq_left, Nat.left_eq_add, reduceCtorEq, Nat.reduceEqDiff, if_true, if_false] at hq; clear hg))
  go_cut [4] (fun s wx => ∃ n : Int, s = .int .i64 n ∧ 1 ≤ n ∧ n ≤ 40 ∧ w.heap.size ≤ wx.heap.size ∧ Grow w b wx ∧ Cur wx b (K + 4))
  case first =>
    rcases tf f with rfl | rfl
    all_goals (go_wp2_with fail; go_meet; exact ⟨_, rfl, by omega, by omega, by omega, (by (repeat (with_reducible first | exact Grow.refl _ _ | assumption | refine Grow.drew ?_ | refine Grow.drewN ?_ | refine Grow.alloc ?_ _ | refine Grow.set ?_ (Or.inl rfl) | refine Grow.set ?_ (Or.inr (by first | omega | (simp <;> omega)))))), Cur.more (by (repeat (first | (with_reducible assumption) | (with_reducible apply Cur.drew) | (with_reducible apply Cur.drewN) | (with_reducible apply Cur.alloc) | ((with_reducible apply Cur.set); rotate_left; (first | omega | (simp <;> omega)))))) (by omega)⟩)
  case rest =>
    obtain ⟨n, rfl, n0, n1, hz, hG, hC⟩ := hcut
    have hh := Has.nil wc
    obtain ⟨wz, rfl⟩ : ∃ wz, wz = wc := ⟨_, rfl⟩
    go_wp2_with fail
    (go_at_call 64; refine (pick_any _ _ _ _ (by (repeat (first | (with_reducible assumption) | (with_reducible apply Cur.drew) | (with_reducible apply Cur.drewN) | (with_reducible apply Cur.alloc) | ((with_reducible apply Cur.set); rotate_left; (first | omega | (simp <;> omega)))))) (by omega)).mono ?_; rintro e w' ⟨k, ⟨kA, kB⟩, rfl, hg, hCn⟩; have hGn := Grow.trans (show Grow w _ _ from (by (repeat (with_reducible first | exact Grow.refl _ _ | assumption | refine Grow.drew ?_ | refine Grow.drewN ?_ | refine Grow.alloc ?_ _ | refine Grow.set ?_ (Or.inl rfl) | refine Grow.set ?_ (Or.inr (by first | omega | (simp <;> omega))))))) hg; clear hG hC; have hG := hGn; have hC := hCn; clear hGn hCn; have hz : w.heap.size ≤ w'.heap.size := hG.size; have hs := hg.size; (try simp only [World.size_alloc, World.size_setCell, World.size_drew, World.heap_drewN] at hs); have hh := Has.grow (by (repeat (with_reducible first | assumption | apply Has.alloc5 | apply Has.alloc2 | apply Has.alloc1 | apply Has.alloc3 | apply Has.drew | apply Has.drewN | apply Has.set_ | apply Has.allocx | exact Has.nil _))) hg (by simp <;> omega); have hq := hh; simp only [Has, upd, World.size_alloc, World.size_setCell, World.size_drew, World.heap_drewN, and_true, true_and, ite_true, ite_false, and_self, Nat.add_right_cancel_iff, Nat.add_eq_left, Nat.left_eq_add, reduceCtorEq, Nat.reduceEqDiff, if_true, if_false] at hq; have k3 := kB (by omega); have k1 := kA; clear kA kB; clear hg)
    go_wp2_with fail
    (go_at_call 65; refine (amongP_any (fun k => 40 ≤ k ∧ k ≤ 220) _ _ _ _ _ _ (by (repeat (first | (with_reducible assumption) | (with_reducible apply Cur.drew) | (with_reducible apply Cur.drewN) | (with_reducible apply Cur.alloc) | ((with_reducible apply Cur.set); rotate_left; (first | omega | (simp <;> omega)))))) (by omega) (by (repeat (first | (with_reducible apply IntsP.drew) | ((with_reducible refine IntsP.new ?_ rfl); (simp only [allP]; (repeat' (first | apply And.intro)); all_goals (first | trivial | omega)))))) (by omega) (by omega) (by omega)).mono ?_; rintro e w' ⟨t, ⟨tA, tB⟩, rfl, hg, hCn⟩; have hGn := Grow.trans (show Grow w _ _ from (by (repeat (with_reducible first | exact Grow.refl _ _ | assumption | refine Grow.drew ?_ | refine Grow.drewN ?_ | refine Grow.alloc ?_ _ | refine Grow.set ?_ (Or.inl rfl) | refine Grow.set ?_ (Or.inr (by first | omega | (simp <;> omega))))))) hg; clear hG hC; have hG := hGn; have hC := hCn; clear hGn hCn; have hz : w.heap.size ≤ w'.heap.size := hG.size; have hs := hg.size; (try simp only [World.size_alloc, World.size_setCell, World.size_drew, World.heap_drewN] at hs); have hh := Has.grow (by (repeat (with_reducible first | assumption | apply Has.alloc5 | apply Has.alloc2 | apply Has.alloc1 | apply Has.alloc3 | apply Has.drew | apply Has.drewN | apply Has.set_ | apply Has.allocx | exact Has.nil _))) hg (by simp <;> omega); have hq := hh; simp only [Has, upd, World.size_alloc, World.size_setCell, World.size_drew, World.heap_drewN, and_true, true_and, ite_true, ite_false, and_self, Nat.add_right_cancel_iff, Nat.add_eq_left, Nat.left_eq_add, reduceCtorEq, Nat.reduceEqDiff, if_true, if_false] at hq; clear hg)
    go_wp2_with fail
    have hz := hG.size
    obtain ⟨wy, hwy⟩ : ∃ wy, wy = w' := ⟨_, rfl⟩
    subst hwy
    go_loopw [3, 5] (fun s s5 wr => ∃ (A : Option Addr) (m c : Nat) (q : List (Int × Int)) (t : Int), s = .slice A m c ∧ s5 = .int .i64 t ∧ (m : Int) ≤ n ∧ Hid (q.length = m) ∧ Hid (∀ p ∈ q, meB p.1 p.2 = true) ∧ 40 ≤ t ∧ t ≤ 220 ∧ wr.ownsRow w.heap.size 68 2 (.slice A m c) m (flat2 q) ∧ w.heap.size ≤ wr.heap.size ∧ Grow w b wr ∧ Cur wr b (K + 8 + 8 * m)) (fun v _ _ => match v with | .slice _ m _ => n.toNat - m | _ => 0)
    case atStart => exact ⟨none, 0, 0, [], _, rfl, rfl, by omega, Lib.hid rfl, Lib.hid (fun p hp => by cases hp), by omega, by omega, World.ownsRow_nil _ _ _ _, hz, hG, Cur.more hC (by omega)⟩
    case round =>
      obtain ⟨A, m, c, q, t, rfl, rfl, hmn, HQ, HP, t0, t1, hO, hz1, hG, hC⟩ := hrel
      have hh := Has.nil wr
      by_cases hlt : (m : Int) < n
      · go_wp2_with fail
        (go_at_call 92; refine (one_any _ _ _ _ (by (repeat (first | (with_reducible assumption) | (with_reducible apply Cur.drew) | (with_reducible apply Cur.drewN) | (with_reducible apply Cur.alloc) | ((with_reducible apply Cur.set); rotate_left; (first | omega | (simp <;> omega)))))) (by omega)).mono ?_; rintro e w' ⟨f, rfl, hg, hCn⟩; have hGn := Grow.trans (show Grow w _ _ from (by (repeat (with_reducible first | exact Grow.refl _ _ | assumption | refine Grow.drew ?_ | refine Grow.drewN ?_ | refine Grow.alloc ?_ _ | refine Grow.set ?_ (Or.inl rfl) | refine Grow.set ?_ (Or.inr (by first | omega | (simp <;> omega))))))) hg; clear hG hC; have hG := hGn; have hC := hCn; clear hGn hCn; have hz : w.heap.size ≤ w'.heap.size := hG.size; have hs := hg.size; (try simp only [World.size_alloc, World.size_setCell, World.size_drew, World.heap_drewN] at hs); have hh := Has.grow (by (repeat (with_reducible first | assumption | apply Has.alloc5 | apply Has.alloc2 | apply Has.alloc1 | apply Has.alloc3 | apply Has.drew | apply Has.drewN | apply Has.set_ | apply Has.allocx | exact Has.nil _))) hg (by simp <;> omega); have hq := hh; simp only [Has, upd, World.size_alloc, World.size_setCell, World.size_drew, World.heap_drewN, and_true, true_and, ite_true, ite_false, and_self, Nat.add_right_cancel_iff, Nat.add_eq_left, Nat.left_eq_add, reduceCtorEq, Nat.reduceEqDiff, if_true, if_false] at hq; (try have hO9 := ownsRow_growM hO hg hb); (try have hO9 := ownsRow_growM (World.ownsRow.alloc hO _) hg hb); clear hO; have hO := hO9; clear hO9; clear hg)
        rcases tf f with rfl | rfl
        · go_wp2_with fail
          (go_at_call 64; refine (pick_any _ _ _ _ (by (repeat (first | (with_reducible assumption) | (with_reducible apply Cur.drew) | (with_reducible apply Cur.drewN) | (with_reducible apply Cur.alloc) | ((with_reducible apply Cur.set); rotate_left; (first | omega | (simp <;> omega)))))) (by omega)).mono ?_; rintro e w' ⟨k, ⟨kA, kB⟩, rfl, hg, hCn⟩; have hGn := Grow.trans (show Grow w _ _ from (by (repeat (with_reducible first | exact Grow.refl _ _ | assumption | refine Grow.drew ?_ | refine Grow.drewN ?_ | refine Grow.alloc ?_ _ | refine Grow.set ?_ (Or.inl rfl) | refine Grow.set ?_ (Or.inr (by first | omega | (simp <;> omega))))))) hg; clear hG hC; have hG := hGn; have hC := hCn; clear hGn hCn; have hz : w.heap.size ≤ w'.heap.size := hG.size; have hs := hg.size; (try simp only [World.size_alloc, World.size_setCell, World.size_drew, World.heap_drewN] at hs); have hh := Has.grow (by (repeat (with_reducible first | assumption | apply Has.alloc5 | apply Has.alloc2 | apply Has.alloc1 | apply Has.alloc3 | apply Has.drew | apply Has.drewN | apply Has.set_ | apply Has.allocx | exact Has.nil _))) hg (by simp <;> omega); have hq := hh; simp only [Has, upd, World.size_alloc, World.size_setCell, World.size_drew, World.heap_drewN, and_true, true_and, ite_true, ite_false, and_self, Nat.add_right_cancel_iff, Nat.add_eq_left, Nat.left_eq_add, reduceCtorEq, Nat.reduceEqDiff, if_true, if_false] at hq; have k3 := kB (by omega); have k1 := kA; clear kA kB; (try have hO9 := ownsRow_growM hO hg hb); (try have hO9 := ownsRow_growM (World.ownsRow.alloc hO _) hg hb); clear hO; have hO := hO9; clear hO9; clear hg)
          go_wp2_with fail
          (go_at_call 65; refine (amongP_any (fun k => 40 ≤ k ∧ k ≤ 220) _ _ _ _ _ _ (by (repeat (first | (with_reducible assumption) | (with_reducible apply Cur.drew) | (with_reducible apply Cur.drewN) | (with_reducible apply Cur.alloc) | ((with_reducible apply Cur.set); rotate_left; (first | omega | (simp <;> omega)))))) (by omega) (by (repeat (first | (with_reducible apply IntsP.drew) | ((with_reducible refine IntsP.new ?_ rfl); (simp only [allP]; (repeat' (first | apply And.intro)); all_goals (first | trivial | omega)))))) (by omega) (by omega) (by omega)).mono ?_; rintro e w' ⟨u, ⟨uA, uB⟩, rfl, hg, hCn⟩; have hGn := Grow.trans (show Grow w _ _ from (by (repeat (with_reducible first | exact Grow.refl _ _ | assumption | refine Grow.drew ?_ | refine Grow.drewN ?_ | refine Grow.alloc ?_ _ | refine Grow.set ?_ (Or.inl rfl) | refine Grow.set ?_ (Or.inr (by first | omega | (simp <;> omega))))))) hg; clear hG hC; have hG := hGn; have hC := hCn; clear hGn hCn; have hz : w.heap.size ≤ w'.heap.size := hG.size; have hs := hg.size; (try simp only [World.size_alloc, World.size_setCell, World.size_drew, World.heap_drewN] at hs); have hh := Has.grow (by (repeat (with_reducible first | assumption | apply Has.alloc5 | apply Has.alloc2 | apply Has.alloc1 | apply Has.alloc3 | apply Has.drew | apply Has.drewN | apply Has.set_ | apply Has.allocx | exact Has.nil _))) hg (by simp <;> omega); have hq := hh; simp only [Has, upd, World.size_alloc, World.size_setCell, World.size_drew, World.heap_drewN, and_true, true_and, ite_true, ite_false, and_self, Nat.add_right_cancel_iff, Nat.add_eq_left, Nat.left_eq_add, reduceCtorEq, Nat.reduceEqDiff, if_true, if_false] at hq; (try have hO9 := ownsRow_growM hO hg hb); (try have hO9 := ownsRow_growM (World.ownsRow.alloc hO _) hg hb); clear hO; have hO := hO9; clear hO9; clear hg)
          go_wp2_with fail
          (go_at_call 65; refine (amongP_any (fun k => 1 ≤ k ∧ k ≤ 12) _ _ _ _ _ _ (by (repeat (first | (with_reducible assumption) | (with_reducible apply Cur.drew) | (with_reducible apply Cur.drewN) | (with_reducible apply Cur.alloc) | ((with_reducible apply Cur.set); rotate_left; (first | omega | (simp <;> omega)))))) (by omega) (by (repeat (first | (with_reducible apply IntsP.drew) | ((with_reducible refine IntsP.new ?_ rfl); (simp only [allP]; (repeat' (first | apply And.intro)); all_goals (first | trivial | omega)))))) (by omega) (by omega) (by omega)).mono ?_; rintro e w' ⟨x, ⟨xA, xB⟩, rfl, hg, hCn⟩; have hGn := Grow.trans (show Grow w _ _ from (by (repeat (with_reducible first | exact Grow.refl _ _ | assumption | refine Grow.drew ?_ | refine Grow.drewN ?_ | refine Grow.alloc ?_ _ | refine Grow.set ?_ (Or.inl rfl) | refine Grow.set ?_ (Or.inr (by first | omega | (simp <;> omega))))))) hg; clear hG hC; have hG := hGn; have hC := hCn; clear hGn hCn; have hz : w.heap.size ≤ w'.heap.size := hG.size; have hs := hg.size; (try simp only [World.size_alloc, World.size_setCell, World.size_drew, World.heap_drewN] at hs); have hh := Has.grow (by (repeat (with_reducible first | assumption | apply Has.alloc5 | apply Has.alloc2 | apply Has.alloc1 | apply Has.alloc3 | apply Has.drew | apply Has.drewN | apply Has.set_ | apply Has.allocx | exact Has.nil _))) hg (by simp <;> omega); have hq := hh; simp only [Has, upd, World.size_alloc, World.size_setCell, World.size_drew, World.heap_drewN, and_true, true_and, ite_true, ite_false, and_self, Nat.add_right_cancel_iff, Nat.add_eq_left, Nat.left_eq_add, reduceCtorEq, Nat.reduceEqDiff, if_true, if_false] at hq; (try have hO9 := ownsRow_growM hO hg hb); (try have hO9 := ownsRow_growM (World.ownsRow.alloc hO _) hg hb); clear hO; have hO := hO9; clear hO9; clear hg)
          go_wp2_with (first
            | (at_builtin
               refine wpList_append_lies _ rfl _ _ 56 rfl w.heap.size 68 i0 (.agg #[.int .i64 0, .int .i64 0]) 2 16 Tryd.underlying56 HI.out HZ0.out HZ1.out HZ2.out rfl (by decide) _ _ _ rfl (hO.alloc _) ⟨w'.heap.size, 0, none⟩ 1 1 [.int .i64 x, .int .i64 u] rfl rfl (two_new _ _ _ _) (two_cells _ _) (by omega) (by simp only [maxLen]; omega) (by omega) (by simp; omega) (w'.heap.size + 1) (by simp) ?_
               intro g cap w2 hown' hgrow hat hlt2
               have hO2 : w2.ownsRow w.heap.size 68 2 (.slice (some ⟨g, 0, none⟩) (m + 1) cap) (m + 1) (flat2 (q ++ [(x, u)])) := by rw [flat2_snoc]; exact hown'
               have hlow := World.ownsRow.lt hO
               have hG2 : Grow w b w2 := Grow.ofGrown (show Grow w b _ from (by (repeat (with_reducible first | exact Grow.refl _ _ | assumption | refine Grow.drew ?_ | refine Grow.drewN ?_ | refine Grow.alloc ?_ _ | refine Grow.set ?_ (Or.inl rfl) | refine Grow.set ?_ (Or.inr (by first | omega | (simp <;> omega))))))) hgrow (fun r hr => (hlow r hr).1)
               have hC2 : Cur w2 b _ := Cur.grown (K := K + 8 + 8 * m + 8) (by (repeat (first | (with_reducible assumption) | (with_reducible apply Cur.drew) | (with_reducible apply Cur.drewN) | (with_reducible apply Cur.alloc) | ((with_reducible apply Cur.set); rotate_left; (first | omega | (simp <;> omega)))))) hgrow (fun r hr => by have := (hlow r hr).1; omega)
               have hz2 := hG2.size
               have HQ2 : Hid ((q ++ [(x, u)]).length = m + 1) := by show _ = _; simp [HQ.out]
               have HP2 : Hid (∀ p ∈ q ++ [(x, u)], meB p.1 p.2 = true) := snoc_meB HP (by omega) (by omega) (by omega) (by omega)
               clear hown' hgrow hat hlow hO hG hC))
          go_roundw
          case rel => exact ⟨_, m + 1, cap, q ++ [(x, _)], _, rfl, rfl, by omega, HQ2, HP2, by omega, by omega, hO2, hz2, hG2, hC2.more (by omega)⟩
          case measure => simp; omega
        · go_wp2_with fail
          (go_at_call 65; refine (amongP_any (fun k => 1 ≤ k ∧ k ≤ 12) _ _ _ _ _ _ (by (repeat (first | (with_reducible assumption) | (with_reducible apply Cur.drew) | (with_reducible apply Cur.drewN) | (with_reducible apply Cur.alloc) | ((with_reducible apply Cur.set); rotate_left; (first | omega | (simp <;> omega)))))) (by omega) (by (repeat (first | (with_reducible apply IntsP.drew) | ((with_reducible refine IntsP.new ?_ rfl); (simp only [allP]; (repeat' (first | apply And.intro)); all_goals (first | trivial | omega)))))) (by omega) (by omega) (by omega)).mono ?_; rintro e w' ⟨x, ⟨xA, xB⟩, rfl, hg, hCn⟩; have hGn := Grow.trans (show Grow w _ _ from (by (repeat (with_reducible first | exact Grow.refl _ _ | assumption | refine Grow.drew ?_ | refine Grow.drewN ?_ | refine Grow.alloc ?_ _ | refine Grow.set ?_ (Or.inl rfl) | refine Grow.set ?_ (Or.inr (by first | omega | (simp <;> omega))))))) hg; clear hG hC; have hG := hGn; have hC := hCn; clear hGn hCn; have hz : w.heap.size ≤ w'.heap.size := hG.size; have hs := hg.size; (try simp only [World.size_alloc, World.size_setCell, World.size_drew, World.heap_drewN] at hs); have hh := Has.grow (by (repeat (with_reducible first | assumption | apply Has.alloc5 | apply Has.alloc2 | apply Has.alloc1 | apply Has.alloc3 | apply Has.drew | apply Has.drewN | apply Has.set_ | apply Has.allocx | exact Has.nil _))) hg (by simp <;> omega); have hq := hh; simp only [Has, upd, World.size_alloc, World.size_setCell, World.size_drew, World.heap_drewN, and_true, true_and, ite_true, ite_false, and_self, Nat.add_right_cancel_iff, Nat.add_eq_left, Nat.left_eq_add, reduceCtorEq, Nat.reduceEqDiff, if_true, if_false] at hq; (try have hO9 := ownsRow_growM hO hg hb); (try have hO9 := ownsRow_growM (World.ownsRow.alloc hO _) hg hb); clear hO; have hO := hO9; clear hO9; clear hg)
          go_wp2_with (first
            | (at_builtin
               refine wpList_append_lies _ rfl _ _ 56 rfl w.heap.size 68 i0 (.agg #[.int .i64 0, .int .i64 0]) 2 16 Tryd.underlying56 HI.out HZ0.out HZ1.out HZ2.out rfl (by decide) _ _ _ rfl (hO.alloc _) ⟨w'.heap.size, 0, none⟩ 1 1 [.int .i64 x, .int .i64 t] rfl rfl (two_new _ _ _ _) (two_cells _ _) (by omega) (by simp only [maxLen]; omega) (by omega) (by simp; omega) (w'.heap.size + 1) (by simp) ?_
               intro g cap w2 hown' hgrow hat hlt2
               have hO2 : w2.ownsRow w.heap.size 68 2 (.slice (some ⟨g, 0, none⟩) (m + 1) cap) (m + 1) (flat2 (q ++ [(x, t)])) := by rw [flat2_snoc]; exact hown'
               have hlow := World.ownsRow.lt hO
               have hG2 : Grow w b w2 := Grow.ofGrown (show Grow w b _ from (by (repeat (with_reducible first | exact Grow.refl _ _ | assumption | refine Grow.drew ?_ | refine Grow.drewN ?_ | refine Grow.alloc ?_ _ | refine Grow.set ?_ (Or.inl rfl) | refine Grow.set ?_ (Or.inr (by first | omega | (simp <;> omega))))))) hgrow (fun r hr => (hlow r hr).1)
               have hC2 : Cur w2 b _ := Cur.grown (K := K + 8 + 8 * m + 4) (by (repeat (first | (with_reducible assumption) | (with_reducible apply Cur.drew) | (with_reducible apply Cur.drewN) | (with_reducible apply Cur.alloc) | ((with_reducible apply Cur.set); rotate_left; (first | omega | (simp <;> omega)))))) hgrow (fun r hr => by have := (hlow r hr).1; omega)
               have hz2 := hG2.size
               have HQ2 : Hid ((q ++ [(x, t)]).length = m + 1) := by show _ = _; simp [HQ.out]
               have HP2 : Hid (∀ p ∈ q ++ [(x, t)], meB p.1 p.2 = true) := snoc_meB HP (by omega) (by omega) (by omega) (by omega)
               clear hown' hgrow hat hlow hO hG hC))
          go_roundw
          case rel => exact ⟨_, m + 1, cap, q ++ [(x, _)], _, rfl, rfl, by omega, HQ2, HP2, by omega, by omega, hO2, hz2, hG2, hC2.more (by omega)⟩
          case measure => simp; omega
      · obtain rfl : n = (m : Int) := by omega
        go_wp2_with fail
        go_ret
        have hq9 := HQ.out
        exact ⟨A, c, q, by rw [HQ.out]; rfl, musB_of hq9 (by omega) (by omega) HP, by rw [HQ.out]; exact ⟨by omega, by rw [HQ.out]; exact hO⟩, (by (repeat (with_reducible first | exact Grow.refl _ _ | assumption | refine Grow.drew ?_ | refine Grow.drewN ?_ | refine Grow.alloc ?_ _ | refine Grow.set ?_ (Or.inl rfl) | refine Grow.set ?_ (Or.inr (by first | omega | (simp <;> omega)))))), Cur.more (by (repeat (first | (with_reducible assumption) | (with_reducible apply Cur.drew) | (with_reducible apply Cur.drewN) | (with_reducible apply Cur.alloc) | ((with_reducible apply Cur.set); rotate_left; (first | omega | (simp <;> omega)))))) (by omega)⟩

set_option maxHeartbeats 8000000 in
theorem drawIsMusic_any (A : Option Addr) (n c : Nat) (l : List Int) (w : World) (hB : Bytes w w.heap.size A n c l) (hf : BytesFit l) (hn : n ≤ 9223372036854775807) :
    Calls Tryd.prog 95 #[.slice A n c] w fun e w' => ∃ (A : Option Addr) (c : Nat) (l : List (Int × Int)), e = .returned (.slice A l.length c) ∧ l.length ≤ 41 ∧ MRow w' w.heap.size (.slice A l.length c) l ∧ Below w.heap.size w w' := by
  have HB := Lib.hid hB
  have HF := Lib.hid hf
  clear hB hf
  go_enter Tryd.func95, Tryd.ntmps95
  go_wp2_with fail
  have hC := Cur.begin (W := w) 81 HB.out HF.out hn (by (first | with_reducible exact Below.refl _ _ | with_reducible assumption | (repeat (with_reducible first | exact Below.refl _ _ | assumption | refine Below.drew ?_ | refine Below.alloc ?_ (by first | omega | (simp <;> omega)) _ | refine Below.setCell ?_ (by first | omega | (simp <;> omega)) _ | refine below_drewN ?_ _))))
  have hG := Grow.refl w w.heap.size
  have hh := Has.nil (w.alloc (.cells #[.slice A n c, .int .i64 0, .int .u64 0] 81))
  (go_at_call 101; refine (anyMusic_any _ _ _ (by (repeat (first | (with_reducible assumption) | (with_reducible apply Cur.drew) | (with_reducible apply Cur.drewN) | (with_reducible apply Cur.alloc) | ((with_reducible apply Cur.set); rotate_left; (first | omega | (simp <;> omega)))))) (by omega)).mono ?_; rintro e w' ⟨A', c', q, rfl, hl, hR, hg, hCn⟩; have hGn := Grow.trans (show Grow w _ _ from (by (repeat (with_reducible first | exact Grow.refl _ _ | assumption | refine Grow.drew ?_ | refine Grow.drewN ?_ | refine Grow.alloc ?_ _ | refine Grow.set ?_ (Or.inl rfl) | refine Grow.set ?_ (Or.inr (by first | omega | (simp <;> omega))))))) hg; clear hG hC; have hG := hGn; have hC := hCn; clear hGn hCn; have hz : w.heap.size ≤ w'.heap.size := hG.size; have hs := hg.size; (try simp only [World.size_alloc, World.size_setCell, World.size_drew, World.heap_drewN] at hs); have hh := Has.grow (by (repeat (with_reducible first | assumption | apply Has.alloc5 | apply Has.alloc2 | apply Has.alloc1 | apply Has.alloc3 | apply Has.drew | apply Has.drewN | apply Has.set_ | apply Has.allocx | exact Has.nil _))) hg (by simp <;> omega); have hq := hh; simp only [Has, upd, World.size_alloc, World.size_setCell, World.size_drew, World.heap_drewN, and_true, true_and, ite_true, ite_false, and_self, Nat.add_right_cancel_iff, Nat.add_eq_left, Nat.left_eq_add, reduceCtorEq, Nat.reduceEqDiff, if_true, if_false] at hq; clear hg)
  go_wp2_with fail
  go_ret
  simp only [World.size_alloc] at hR
  exact ⟨A', c', q, rfl, hl, hR.more (by omega), Grow.below (b := w.heap.size) (by (repeat (with_reducible first | exact Grow.refl _ _ | assumption | refine Grow.drew ?_ | refine Grow.drewN ?_ | refine Grow.alloc ?_ _ | refine Grow.set ?_ (Or.inl rfl) | refine Grow.set ?_ (Or.inr (by first | omega | (simp <;> omega)))))) (by omega) (Nat.le_refl _)⟩

set_option maxHeartbeats 8000000 in
theorem drawMusicText_any (A : Option Addr) (n c : Nat) (l : List Int) (w : World) (hB : Bytes w w.heap.size A n c l) (hf : BytesFit l) (hn : n ≤ 9223372036854775807) :
    Calls Tryd.prog 38 #[.slice A n c] w fun e w' => ∃ (A : Option Addr) (n c : Nat) (q : List (Int × Int)), e = .returned (.slice A n c) ∧ (n ≤ c ∧ c ≤ maxLen) ∧ Lst w' A n q ∧ n ≤ 41 ∧ Below w.heap.size w w' := by
  go_enter Tryd.func38, Tryd.ntmps38
  go_wp2_with fail
  (go_at_call 95; refine (drawIsMusic_any _ _ _ _ _ hB hf hn).mono ?_; rintro e w' ⟨A', c', q, rfl, hl, hR, hb⟩)
  go_wp2_with fail
  go_ret
  exact ⟨_, _, _, _, rfl, mrow_cap hR rfl, hR.toLst rfl, hl, hb⟩

set_option maxHeartbeats 4000000 in
theorem drawParseMusic_any (A : Option Addr) (n c : Nat) (l : List Int) (w : World) (hB : Bytes w w.heap.size A n c l) (hf : BytesFit l) (hn : n ≤ 9223372036854775807) :
    Calls Tryd.prog 48 #[.slice A n c] w fun e w' => ∃ t : List UInt8, t.length ≤ 1000 ∧ e = .returned (str t) ∧ Below w.heap.size w w' := by
  have HB := Lib.hid hB
  have HF := Lib.hid hf
  clear hB hf
  go_enter Tryd.func48, Tryd.ntmps48
  go_wp2_with fail
  have hC := Cur.begin (W := w) 81 HB.out HF.out hn (by (first | with_reducible exact Below.refl _ _ | with_reducible assumption | (repeat (with_reducible first | exact Below.refl _ _ | assumption | refine Below.drew ?_ | refine Below.alloc ?_ (by first | omega | (simp <;> omega)) _ | refine Below.setCell ?_ (by first | omega | (simp <;> omega)) _ | refine below_drewN ?_ _))))
  have hG := Grow.refl w w.heap.size
  have hh := Has.nil (w.alloc (.cells #[.slice A n c, .int .i64 0, .int .u64 0] 81))
  (go_at_call 105; refine (musicG_any _ _ _ (by (repeat (first | (with_reducible assumption) | (with_reducible apply Cur.drew) | (with_reducible apply Cur.drewN) | (with_reducible apply Cur.alloc) | ((with_reducible apply Cur.set); rotate_left; (first | omega | (simp <;> omega)))))) (by omega)).mono ?_; rintro e w' ⟨A', c', q, rfl, hm, hR, hg, hCn⟩; have hGn := Grow.trans (show Grow w _ _ from (by (repeat (with_reducible first | exact Grow.refl _ _ | assumption | refine Grow.drew ?_ | refine Grow.drewN ?_ | refine Grow.alloc ?_ _ | refine Grow.set ?_ (Or.inl rfl) | refine Grow.set ?_ (Or.inr (by first | omega | (simp <;> omega))))))) hg; clear hG hC; have hG := hGn; have hC := hCn; clear hGn hCn; have hz : w.heap.size ≤ w'.heap.size := hG.size; have hs := hg.size; (try simp only [World.size_alloc, World.size_setCell, World.size_drew, World.heap_drewN] at hs); have hh := Has.grow (by (repeat (with_reducible first | assumption | apply Has.alloc5 | apply Has.alloc2 | apply Has.alloc1 | apply Has.alloc3 | apply Has.drew | apply Has.drewN | apply Has.set_ | apply Has.allocx | exact Has.nil _))) hg (by simp <;> omega); have hq := hh; simp only [Has, upd, World.size_alloc, World.size_setCell, World.size_drew, World.heap_drewN, and_true, true_and, ite_true, ite_false, and_self, Nat.add_right_cancel_iff, Nat.add_eq_left, Nat.left_eq_add, reduceCtorEq, Nat.reduceEqDiff, if_true, if_false] at hq; clear hg)
  have hl := musL_le hm
  obtain ⟨N, hN⟩ : ∃ N, q.length = N := ⟨_, rfl⟩
  have hL := hR.toLst rfl
  rw [hN] at hL
  have cT := fun W (h : Lst W A' N q) => muText_any A' N c' q W h hm
  obtain ⟨L, hL9⟩ : ∃ L, musL q = L := ⟨_, rfl⟩
  rw [hL9] at hl cT
  rw [hN]
  clear hR hm hL9 hN
  go_wp2_with fail
  (go_at_call 98; refine (cT _ hL).mono ?_; rintro e w' ⟨rfl, hb⟩; have hGn := hG.ofB hb; have hCn := hC.below hb hC.lt; clear hG hC hh hL; have hG := hGn; have hC := hCn; clear hGn hCn; have hz := hG.size; have hh := Has.nil w')
  go_wp2_with fail
  (go_at_call 92; refine (one_any _ _ _ _ (by (repeat (first | (with_reducible assumption) | (with_reducible apply Cur.drew) | (with_reducible apply Cur.drewN) | (with_reducible apply Cur.alloc) | ((with_reducible apply Cur.set); rotate_left; (first | omega | (simp <;> omega)))))) (by omega)).mono ?_; rintro e w' ⟨f, rfl, hg, hCn⟩; have hGn := Grow.trans (show Grow w _ _ from (by (repeat (with_reducible first | exact Grow.refl _ _ | assumption | refine Grow.drew ?_ | refine Grow.drewN ?_ | refine Grow.alloc ?_ _ | refine Grow.set ?_ (Or.inl rfl) | refine Grow.set ?_ (Or.inr (by first | omega | (simp <;> omega))))))) hg; clear hG hC; have hG := hGn; have hC := hCn; clear hGn hCn; have hz : w.heap.size ≤ w'.heap.size := hG.size; have hs := hg.size; (try simp only [World.size_alloc, World.size_setCell, World.size_drew, World.heap_drewN] at hs); have hh := Has.grow (by (repeat (with_reducible first | assumption | apply Has.alloc5 | apply Has.alloc2 | apply Has.alloc1 | apply Has.alloc3 | apply Has.drew | apply Has.drewN | apply Has.set_ | apply Has.allocx | exact Has.nil _))) hg (by simp <;> omega); have hq := hh; simp only [Has, upd, World.size_alloc, World.size_setCell, World.size_drew, World.heap_drewN, and_true, true_and, ite_true, ite_false, and_self, Nat.add_right_cancel_iff, Nat.add_eq_left, Nat.left_eq_add, reduceCtorEq, Nat.reduceEqDiff, if_true, if_false] at hq; clear hg)
  rcases tf f with rfl | rfl
  · go_wp2_with fail
    (go_at_call 70; refine (spoilt_str _ _ _ _ _ (by (repeat (first | (with_reducible assumption) | (with_reducible apply Cur.drew) | (with_reducible apply Cur.drewN) | (with_reducible apply Cur.alloc) | ((with_reducible apply Cur.set); rotate_left; (first | omega | (simp <;> omega)))))) (by omega) (by omega) (by decide) (by decide)).mono ?_; rintro e w' ⟨s, hs9, rfl, hg, hCn⟩; have hGn := Grow.trans (show Grow w _ _ from (by (repeat (with_reducible first | exact Grow.refl _ _ | assumption | refine Grow.drew ?_ | refine Grow.drewN ?_ | refine Grow.alloc ?_ _ | refine Grow.set ?_ (Or.inl rfl) | refine Grow.set ?_ (Or.inr (by first | omega | (simp <;> omega))))))) hg; clear hG hC; have hG := hGn; have hC := hCn; clear hGn hCn; have hz : w.heap.size ≤ w'.heap.size := hG.size; have hs := hg.size; (try simp only [World.size_alloc, World.size_setCell, World.size_drew, World.heap_drewN] at hs); have hh := Has.grow (by (repeat (with_reducible first | assumption | apply Has.alloc5 | apply Has.alloc2 | apply Has.alloc1 | apply Has.alloc3 | apply Has.drew | apply Has.drewN | apply Has.set_ | apply Has.allocx | exact Has.nil _))) hg (by simp <;> omega); have hq := hh; simp only [Has, upd, World.size_alloc, World.size_setCell, World.size_drew, World.heap_drewN, and_true, true_and, ite_true, ite_false, and_self, Nat.add_right_cancel_iff, Nat.add_eq_left, Nat.left_eq_add, reduceCtorEq, Nat.reduceEqDiff, if_true, if_false] at hq; clear hg)
    go_wp2_with fail
    go_ret
    exact ⟨s.data.toList, by rw [← Lib.size_eq]; omega, by rw [← str_self]; rfl, Grow.below (b := w.heap.size) (by (repeat (with_reducible first | exact Grow.refl _ _ | assumption | refine Grow.drew ?_ | refine Grow.drewN ?_ | refine Grow.alloc ?_ _ | refine Grow.set ?_ (Or.inl rfl) | refine Grow.set ?_ (Or.inr (by first | omega | (simp <;> omega)))))) (by omega) (Nat.le_refl _)⟩
  · go_wp2_with fail
    go_ret
    exact ⟨L, by omega, rfl, Grow.below (b := w.heap.size) (by (repeat (with_reducible first | exact Grow.refl _ _ | assumption | refine Grow.drew ?_ | refine Grow.drewN ?_ | refine Grow.alloc ?_ _ | refine Grow.set ?_ (Or.inl rfl) | refine Grow.set ?_ (Or.inr (by first | omega | (simp <;> omega)))))) (by omega) (Nat.le_refl _)⟩

end Go.Proofs.YtgpjnffomheemaaDoor

