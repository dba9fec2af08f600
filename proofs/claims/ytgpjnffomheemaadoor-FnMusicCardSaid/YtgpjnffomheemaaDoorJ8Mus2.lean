import Derived.Test.YtgpjnffomheemaaDoorBetween
import Derived.Test.YtgpjnffomheemaaDoorJ4
import Derived.Test.YtgpjnffomheemaaDoorJ7Mus1
/- The draws of music. -/
namespace Go.Proofs.YtgpjnffomheemaaDoor
open Go.RowKit
set_option linter.unusedVariables false
set_option linter.unusedSimpArgs false
set_option maxRecDepth 100000

theorem four_results {fn : Func} {t u v s : Tmp} (h : fn.results = #[.tmp t, .tmp u, .tmp v, .tmp s]) (a : Array Value) (P : Program) (w : World) : (results fn a).run P w = .ok (.tuple #[a.getD t undef, a.getD u undef, a.getD v undef, a.getD s undef]) w := by simp [results, h]
theorem MRow.kep {w w1 w' : World} {b base : Nat} {v : Value} {l : List (Int × Int)} (h : MRow w base v l) (hb : b < base) (hB : Below w.heap.size w w1) (hg : Grow w1 b w') : MRow w' base v l := (h.below hB (Nat.le_refl _)).grow hg hb
set_option maxHeartbeats 8000000 in
theorem countOf_any (b K base c m : Nat) (A : Option Addr) (l : List (Int × Int)) (w : World) (hC : Cur w b K) (hK : K ≤ 900000) (HQ : l.length = m) (hR : MRow w base (.slice A m c) l) (hb : b < base) :
    Calls Tryd.prog 102 #[.pointer (some ⟨b, 0, none⟩), .slice A m c] w (RetCur (fun _ => True) w b (K + 8)) := by
  have hlt := hC.lt
  have hG := Grow.refl w b
  have hh := Has.nil w
  rcases tf (musB l) with h1 | h1
  all_goals
    go_enter Tryd.func102, Tryd.ntmps102
    go_wp2_with fail
    (go_at_call 97; refine (Calls.cur (muGood_any _ _ _ _ _ (MRow.toLst hR HQ)) (by (repeat (first | (with_reducible assumption) | (with_reducible apply Cur.drew) | (with_reducible apply Cur.drewN) | (with_reducible apply Cur.alloc) | ((with_reducible apply Cur.set); rotate_left; (first | omega | (simp <;> omega))))))).mono ?_; rintro e w' ⟨rfl, hg, hCn⟩; have hGn := Grow.trans (show Grow w _ _ from (by (repeat (with_reducible first | exact Grow.refl _ _ | assumption | refine Grow.drew ?_ | refine Grow.drewN ?_ | refine Grow.alloc ?_ _ | refine Grow.set ?_ (Or.inl rfl) | refine Grow.set ?_ (Or.inr (by first | omega | (simp <;> omega))))))) hg; clear hG hC; have hG := hGn; have hC := hCn; clear hGn hCn; have hz : w.heap.size ≤ w'.heap.size := hG.size; have hs := hg.size; (try simp only [World.size_alloc, World.size_setCell, World.size_drew, World.heap_drewN] at hs); have hh := Has.grow (by (repeat (with_reducible first | assumption | apply Has.alloc5 | apply Has.alloc2 | apply Has.alloc1 | apply Has.alloc3 | apply Has.drew | apply Has.drewN | apply Has.set_ | apply Has.allocx | exact Has.nil _))) hg (by simp <;> omega); have hq := hh; simp only [Has, upd, World.size_alloc, World.size_setCell, World.size_drew, World.heap_drewN, and_true, true_and, ite_true, ite_false, and_self, Nat.add_right_cancel_iff, Nat.add_eq_left, Nat.left_eq_add, reduceCtorEq, Nat.reduceEqDiff, if_true, if_false] at hq; have hR := MRow.grow hR hg hb; clear hg)
    go_wp2_with (first | (go_at_call 100; refine (Calls.cur (muCounts_any _ _ _ _ _ (MRow.toLst hR HQ) h1) (by (repeat (first | (with_reducible assumption) | (with_reducible apply Cur.drew) | (with_reducible apply Cur.drewN) | (with_reducible apply Cur.alloc) | ((with_reducible apply Cur.set); rotate_left; (first | omega | (simp <;> omega))))))).mono ?_; rintro e w' ⟨rfl, hg, hCn⟩; have hGn := Grow.trans (show Grow w _ _ from (by (repeat (with_reducible first | exact Grow.refl _ _ | assumption | refine Grow.drew ?_ | refine Grow.drewN ?_ | refine Grow.alloc ?_ _ | refine Grow.set ?_ (Or.inl rfl) | refine Grow.set ?_ (Or.inr (by first | omega | (simp <;> omega))))))) hg; clear hG hC; have hG := hGn; have hC := hCn; clear hGn hCn; have hz : w.heap.size ≤ w'.heap.size := hG.size; have hs := hg.size; (try simp only [World.size_alloc, World.size_setCell, World.size_drew, World.heap_drewN] at hs); have hh := Has.grow (by (repeat (with_reducible first | assumption | apply Has.alloc5 | apply Has.alloc2 | apply Has.alloc1 | apply Has.alloc3 | apply Has.drew | apply Has.drewN | apply Has.set_ | apply Has.allocx | exact Has.nil _))) hg (by simp <;> omega); have hq := hh; simp only [Has, upd, World.size_alloc, World.size_setCell, World.size_drew, World.heap_drewN, and_true, true_and, ite_true, ite_false, and_self, Nat.add_right_cancel_iff, Nat.add_eq_left, Nat.left_eq_add, reduceCtorEq, Nat.reduceEqDiff, if_true, if_false] at hq; have hR := MRow.grow hR hg hb; clear hg) | (go_at_call 64; refine (pick_any _ _ _ _ (by (repeat (first | (with_reducible assumption) | (with_reducible apply Cur.drew) | (with_reducible apply Cur.drewN) | (with_reducible apply Cur.alloc) | ((with_reducible apply Cur.set); rotate_left; (first | omega | (simp <;> omega)))))) (by omega)).mono ?_; rintro e w' ⟨k, ⟨kA, kB⟩, rfl, hg, hCn⟩; have hGn := Grow.trans (show Grow w _ _ from (by (repeat (with_reducible first | exact Grow.refl _ _ | assumption | refine Grow.drew ?_ | refine Grow.drewN ?_ | refine Grow.alloc ?_ _ | refine Grow.set ?_ (Or.inl rfl) | refine Grow.set ?_ (Or.inr (by first | omega | (simp <;> omega))))))) hg; clear hG hC; have hG := hGn; have hC := hCn; clear hGn hCn; have hz : w.heap.size ≤ w'.heap.size := hG.size; have hs := hg.size; (try simp only [World.size_alloc, World.size_setCell, World.size_drew, World.heap_drewN] at hs); have hh := Has.grow (by (repeat (with_reducible first | assumption | apply Has.alloc5 | apply Has.alloc2 | apply Has.alloc1 | apply Has.alloc3 | apply Has.drew | apply Has.drewN | apply Has.set_ | apply Has.allocx | exact Has.nil _))) hg (by simp <;> omega); have hq := hh; simp only [Has, upd, World.size_alloc, World.size_setCell, World.size_drew, World.heap_drewN, and_true, true_and, ite_true, ite_false, and_self, Nat.add_right_cancel_iff, Nat.add_eq_left, Nat.left_eq_add, reduceCtorEq, Nat.reduceEqDiff, if_true, if_false] at hq; clear kA kB; clear hg) | (go_at_call 65; refine (among_any _ _ _ _ _ _ (by (repeat (first | (with_reducible assumption) | (with_reducible apply Cur.drew) | (with_reducible apply Cur.drewN) | (with_reducible apply Cur.alloc) | ((with_reducible apply Cur.set); rotate_left; (first | omega | (simp <;> omega)))))) (by omega) (by (repeat (first | ((with_reducible apply IntsAt.new) <;> rfl) | ((with_reducible apply IntsAt.newAt); (focus (simp; done)); rfl; rfl) | (with_reducible assumption) | (with_reducible apply IntsAt.drew) | (with_reducible apply IntsAt.alloc)))) (by omega) (by omega) (by omega)).mono ?_; rintro e w' ⟨q, _, rfl, hg, hCn⟩; have hGn := Grow.trans (show Grow w _ _ from (by (repeat (with_reducible first | exact Grow.refl _ _ | assumption | refine Grow.drew ?_ | refine Grow.drewN ?_ | refine Grow.alloc ?_ _ | refine Grow.set ?_ (Or.inl rfl) | refine Grow.set ?_ (Or.inr (by first | omega | (simp <;> omega))))))) hg; clear hG hC; have hG := hGn; have hC := hCn; clear hGn hCn; have hz : w.heap.size ≤ w'.heap.size := hG.size; have hs := hg.size; (try simp only [World.size_alloc, World.size_setCell, World.size_drew, World.heap_drewN] at hs); have hh := Has.grow (by (repeat (with_reducible first | assumption | apply Has.alloc5 | apply Has.alloc2 | apply Has.alloc1 | apply Has.alloc3 | apply Has.drew | apply Has.drewN | apply Has.set_ | apply Has.allocx | exact Has.nil _))) hg (by simp <;> omega); have hq := hh; simp only [Has, upd, World.size_alloc, World.size_setCell, World.size_drew, World.heap_drewN, and_true, true_and, ite_true, ite_false, and_self, Nat.add_right_cancel_iff, Nat.add_eq_left, Nat.left_eq_add, reduceCtorEq, Nat.reduceEqDiff, if_true, if_false] at hq; clear hg))
    go_ret
    exact ⟨_, trivial, rfl, (by (repeat (with_reducible first | exact Grow.refl _ _ | assumption | refine Grow.drew ?_ | refine Grow.drewN ?_ | refine Grow.alloc ?_ _ | refine Grow.set ?_ (Or.inl rfl) | refine Grow.set ?_ (Or.inr (by first | omega | (simp <;> omega)))))), Cur.more (by (repeat (first | (with_reducible assumption) | (with_reducible apply Cur.drew) | (with_reducible apply Cur.drewN) | (with_reducible apply Cur.alloc) | ((with_reducible apply Cur.set); rotate_left; (first | omega | (simp <;> omega)))))) (by omega)⟩

theorem muLasts_weak (c t : Int) (w : World) (h : 40 ≤ t) :
    Calls Tryd.prog 123 #[.int .i64 c, .int .i64 t] w fun e w' => (∃ k : Int, e = .returned (.int .i64 k)) ∧ w = w' := by
  have h0 : ¬ t = 0 := by omega
  go_enter Tryd.func123, Tryd.ntmps123
  go_wp2_with fail
  go_ret
  exact ⟨⟨_, rfl⟩, rfl⟩

/-- music and an int, drawn -/
def RetDM1 (w : World) (e : Ending) (w' : World) : Prop := ∃ (A : Option Addr) (c : Nat) (l : List (Int × Int)) (k0 : Int), e = .returned (.tuple #[.slice A l.length c, .int .i64 k0]) ∧ l.length ≤ 41 ∧ MRow w' w.heap.size (.slice A l.length c) l ∧ Below w.heap.size w w'
/-- music and two ints, drawn -/
def RetDM2 (w : World) (e : Ending) (w' : World) : Prop := ∃ (A : Option Addr) (c : Nat) (l : List (Int × Int)) (k0 k1 : Int), e = .returned (.tuple #[.slice A l.length c, .int .i64 k0, .int .i64 k1]) ∧ l.length ≤ 41 ∧ MRow w' w.heap.size (.slice A l.length c) l ∧ Below w.heap.size w w'
/-- music and three ints, drawn -/
def RetDM3 (w : World) (e : Ending) (w' : World) : Prop := ∃ (A : Option Addr) (c : Nat) (l : List (Int × Int)) (k0 k1 k2 : Int), e = .returned (.tuple #[.slice A l.length c, .int .i64 k0, .int .i64 k1, .int .i64 k2]) ∧ l.length ≤ 41 ∧ MRow w' w.heap.size (.slice A l.length c) l ∧ Below w.heap.size w w'
/-- two ints, drawn -/
def RetDII2 (w : World) (e : Ending) (w' : World) : Prop := ∃ k0 k1 : Int, e = .returned (.tuple #[.int .i64 k0, .int .i64 k1]) ∧ Below w.heap.size w w'

set_option maxHeartbeats 8000000 in
theorem drawMeasureAt_any (A : Option Addr) (n c : Nat) (l : List Int) (w : World) (hB : Bytes w w.heap.size A n c l) (hf : BytesFit l) (hn : n ≤ 9223372036854775807) :
    Calls Tryd.prog 45 #[.slice A n c] w (RetDM1 w) := by
  have HB := Lib.hid hB
  have HF := Lib.hid hf
  clear hB hf
  go_enter Tryd.func45, Tryd.ntmps45
  go_wp2_with fail
  have hC := Cur.begin (W := w) 81 HB.out HF.out hn (by (first | with_reducible exact Below.refl _ _ | with_reducible assumption | (repeat (with_reducible first | exact Below.refl _ _ | assumption | refine Below.drew ?_ | refine Below.alloc ?_ (by first | omega | (simp <;> omega)) _ | refine Below.setCell ?_ (by first | omega | (simp <;> omega)) _ | refine below_drewN ?_ _))))
  (try simp only [World.size_alloc] at hC)
  have hG := Grow.refl w (w.heap.size)
  have hh := Has.allocx (o := .cells #[.slice A n c, .int .i64 0, .int .u64 0] 81) (Has.nil w)
  (try simp only [World.size_alloc] at hh)
  (go_at_call 101; refine (anyMusic_any _ _ _ (by (repeat (first | (with_reducible assumption) | (with_reducible apply Cur.drew) | (with_reducible apply Cur.drewN) | (with_reducible apply Cur.alloc) | ((with_reducible apply Cur.set); rotate_left; (first | omega | (simp <;> omega)))))) (by omega)).mono ?_; rintro e w' ⟨A', c', q, rfl, hl, hR, hg, hCn⟩; have hGn := Grow.trans (show Grow w _ _ from (by (repeat (with_reducible first | exact Grow.refl _ _ | assumption | refine Grow.drew ?_ | refine Grow.drewN ?_ | refine Grow.alloc ?_ _ | refine Grow.set ?_ (Or.inl rfl) | refine Grow.set ?_ (Or.inr (by first | omega | (simp <;> omega))))))) hg; clear hG hC; have hG := hGn; have hC := hCn; clear hGn hCn; have hz : w.heap.size ≤ w'.heap.size := hG.size; have hs := hg.size; (try simp only [World.size_alloc, World.size_setCell, World.size_drew, World.heap_drewN] at hs); have hh := Has.grow (by (repeat (with_reducible first | assumption | apply Has.alloc5 | apply Has.alloc2 | apply Has.alloc1 | apply Has.alloc3 | apply Has.drew | apply Has.drewN | apply Has.set_ | apply Has.allocx | exact Has.nil _))) hg (by simp <;> omega); have hq := hh; simp only [Has, upd, World.size_alloc, World.size_setCell, World.size_drew, World.heap_drewN, and_true, true_and, ite_true, ite_false, and_self, Nat.add_right_cancel_iff, Nat.add_eq_left, Nat.left_eq_add, reduceCtorEq, Nat.reduceEqDiff, if_true, if_false] at hq; clear hg)
  obtain ⟨m, HQ⟩ : ∃ m, q.length = m := ⟨_, rfl⟩
  rw [HQ] at hl hR
  rw [HQ]
  have hbb : w.heap.size < w.heap.size + 1 := by omega
  replace hR := hR.more (b' := w.heap.size + 1) (by simp)
  go_wp2_with fail
  (go_at_call 102; refine (countOf_any _ _ _ _ _ _ _ _ (by (repeat (first | (with_reducible assumption) | (with_reducible apply Cur.drew) | (with_reducible apply Cur.drewN) | (with_reducible apply Cur.alloc) | ((with_reducible apply Cur.set); rotate_left; (first | omega | (simp <;> omega)))))) (by omega) HQ hR hbb).mono ?_; rintro e w' ⟨k, _, rfl, hg, hCn⟩; have hGn := Grow.trans (show Grow w _ _ from (by (repeat (with_reducible first | exact Grow.refl _ _ | assumption | refine Grow.drew ?_ | refine Grow.drewN ?_ | refine Grow.alloc ?_ _ | refine Grow.set ?_ (Or.inl rfl) | refine Grow.set ?_ (Or.inr (by first | omega | (simp <;> omega))))))) hg; clear hG hC; have hG := hGn; have hC := hCn; clear hGn hCn; have hz : w.heap.size ≤ w'.heap.size := hG.size; have hs := hg.size; (try simp only [World.size_alloc, World.size_setCell, World.size_drew, World.heap_drewN] at hs); have hh := Has.grow (by (repeat (with_reducible first | assumption | apply Has.alloc5 | apply Has.alloc2 | apply Has.alloc1 | apply Has.alloc3 | apply Has.drew | apply Has.drewN | apply Has.set_ | apply Has.allocx | exact Has.nil _))) hg (by simp <;> omega); have hq := hh; simp only [Has, upd, World.size_alloc, World.size_setCell, World.size_drew, World.heap_drewN, and_true, true_and, ite_true, ite_false, and_self, Nat.add_right_cancel_iff, Nat.add_eq_left, Nat.left_eq_add, reduceCtorEq, Nat.reduceEqDiff, if_true, if_false] at hq; have hR := MRow.grow hR hg hbb; clear hg)
  go_wp2_with fail
  go_ret2
  subst HQ
  exact ⟨A', c', q, _, rfl, hl, hR.more (by omega), Grow.below (b := w.heap.size) (by (repeat (with_reducible first | exact Grow.refl _ _ | assumption | refine Grow.drew ?_ | refine Grow.drewN ?_ | refine Grow.alloc ?_ _ | refine Grow.set ?_ (Or.inl rfl) | refine Grow.set ?_ (Or.inr (by first | omega | (simp <;> omega)))))) (by omega) (Nat.le_refl _)⟩

end Go.Proofs.YtgpjnffomheemaaDoor

