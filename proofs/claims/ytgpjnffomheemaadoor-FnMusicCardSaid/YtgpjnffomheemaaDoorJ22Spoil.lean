import Derived.Test.YtgpjnffomheemaaDoorCur
import Derived.Test.YtgpjnffomheemaaDoorJ16Txt7
import Derived.Deep.QuietTactic
import Derived.BigQuiet
/- Drawn texts: spoilt ones, ones of a list; drawn numbers that lie in a range. -/
namespace Go.Proofs.YtgpjnffomheemaaDoor
open Go.RowKit
set_option linter.unusedVariables false
set_option linter.unusedSimpArgs false
set_option maxRecDepth 100000

/-- m ints of a kind lie at block g -/
def IntsP (P : Int → Prop) (w : World) (g m : Nat) : Prop := ∀ i, i < m → ∃ k : Int, P k ∧ w.cell? ⟨g, i, none⟩ = some (.int .i64 k)
def allP (P : Int → Prop) : List Value → Prop
  | [] => True
  | .int .i64 k :: l => P k ∧ allP P l
  | _ => False
theorem allP_get {P : Int → Prop} : ∀ {l : List Value}, allP P l → ∀ i, i < l.length → ∃ k : Int, P k ∧ l[i]? = some (.int .i64 k)
  | .int .i64 k :: l, h, 0, _ => ⟨k, h.1, rfl⟩
  | .int .i64 k :: l, h, i + 1, hi => by
    have := allP_get (l := l) h.2 i (by simpa using hi)
    simpa using this
theorem IntsP.new {P : Int → Prop} {w : World} {cs : Array Value} {t : TypeId} {m : Nat} (h : allP P cs.toList) (hm : cs.size = m) : IntsP P (w.alloc (.cells cs t)) w.heap.size m := by
  subst hm
  intro i hi
  obtain ⟨k, hp, hk⟩ := allP_get h i (by simpa using hi)
  exact ⟨k, hp, by rw [cell_of_row _ _ _ _ _ (0, 0) (heap_alloc_new w _)]; simpa using hk⟩
theorem IntsP.drew {P : Int → Prop} {w : World} {g m : Nat} (h : IntsP P w g m) : IntsP P w.drew g m := h
theorem IntsP.grow {P : Int → Prop} {w w' : World} {b g m : Nat} (h : IntsP P w g m) (hg : Grow w b w') (hne : g ≠ b) : IntsP P w' g m := fun i hi => by
  obtain ⟨k, hp, hk⟩ := h i hi
  exact ⟨k, hp, (World.cell?_of_block (w := w) (w' := w') (a := ⟨g, i, none⟩) (hg.block g (cell_lt hk) (by intro e; injection e; omega))).trans hk⟩

set_option maxHeartbeats 2000000 in
theorem amongP_any (P : Int → Prop) (b K g m c : Nat) (w : World) (hC : Cur w b K) (hK : K ≤ 999980) (hI : IntsP P w g m) (hm : 1 ≤ m) (hm2 : m ≤ 1000) (hne : g ≠ b) :
    Calls Tryd.prog 65 #[.pointer (some ⟨b, 0, none⟩), .slice (some ⟨g, 0, none⟩) m c] w (RetCur P w b (K + 2)) := by
  go_enter Tryd.func65, Tryd.ntmps65
  go_wp2_with fail
  (go_at_call 64; refine (pick_any _ _ _ _ hC (by omega)).mono ?_; rintro e w' ⟨k, ⟨k1, k2⟩, rfl, hg, hC⟩)
  have k3 := k2 (by omega)
  obtain ⟨q, rfl⟩ : ∃ q : Nat, k = q := ⟨k.toNat, by omega⟩
  obtain ⟨x, hpx, hx⟩ := (hI.grow hg hne) q (by omega)
  clear k2
  go_wp2_with fail
  go_ret
  exact ⟨_, hpx, rfl, hg, hC⟩

/-- m texts lie at block g, none longer than n -/
def StrsAt (n : Nat) (w : World) (g m : Nat) : Prop := ∀ i, i < m → ∃ s : ByteArray, s.size ≤ n ∧ w.cell? ⟨g, i, none⟩ = some (.string s)
def allS (n : Nat) : List Value → Prop
  | [] => True
  | .string s :: l => s.size ≤ n ∧ allS n l
  | _ => False
theorem allS_get {n : Nat} : ∀ {l : List Value}, allS n l → ∀ i, i < l.length → ∃ s : ByteArray, s.size ≤ n ∧ l[i]? = some (.string s)
  | .string k :: l, h, 0, _ => ⟨k, h.1, rfl⟩
  | .string k :: l, h, i + 1, hi => by
    have := allS_get (l := l) h.2 i (by simpa using hi)
    simpa using this
theorem StrsAt.new {n : Nat} {w : World} {cs : Array Value} {t : TypeId} {m : Nat} (h : allS n cs.toList) (hm : cs.size = m) : StrsAt n (w.alloc (.cells cs t)) w.heap.size m := by
  subst hm
  intro i hi
  obtain ⟨k, hp, hk⟩ := allS_get h i (by simpa using hi)
  exact ⟨k, hp, by rw [cell_of_row _ _ _ _ _ (0, 0) (heap_alloc_new w _)]; simpa using hk⟩
theorem StrsAt.grow {n : Nat} {w w' : World} {b g m : Nat} (h : StrsAt n w g m) (hg : Grow w b w') (hne : g ≠ b) : StrsAt n w' g m := fun i hi => by
  obtain ⟨k, hp, hk⟩ := h i hi
  exact ⟨k, hp, (World.cell?_of_block (w := w) (w' := w') (a := ⟨g, i, none⟩) (hg.block g (cell_lt hk) (by intro e; injection e; omega))).trans hk⟩
/-- a text, and the cursor moved on -/
def RetCurT (n : Nat) (w : World) (b K : Nat) (e : Ending) (w' : World) : Prop := ∃ s : ByteArray, s.size ≤ n ∧ e = .returned (.string s) ∧ Grow w b w' ∧ Cur w' b K

set_option maxHeartbeats 2000000 in
theorem of_any (n b K g m c : Nat) (w : World) (hC : Cur w b K) (hK : K ≤ 999980) (hI : StrsAt n w g m) (hm : 1 ≤ m) (hm2 : m ≤ 1000) (hne : g ≠ b) :
    Calls Tryd.prog 71 #[.pointer (some ⟨b, 0, none⟩), .slice (some ⟨g, 0, none⟩) m c] w (RetCurT n w b (K + 2)) := by
  go_enter Tryd.func71, Tryd.ntmps71
  go_wp2_with fail
  (go_at_call 64; refine (pick_any _ _ _ _ hC (by omega)).mono ?_; rintro e w' ⟨k, ⟨k1, k2⟩, rfl, hg, hC⟩)
  have k3 := k2 (by omega)
  obtain ⟨q, rfl⟩ : ∃ q : Nat, k = q := ⟨k.toNat, by omega⟩
  obtain ⟨x, hpx, hx⟩ := (hI.grow hg hne) q (by omega)
  clear k2
  go_wp2_with fail
  go_ret
  exact ⟨_, hpx, rfl, hg, hC⟩

theorem sz_ins (s : ByteArray) (x : UInt8) (i : Nat) (h : i ≤ s.size) : (s.extract 0 i ++ ⟨#[x]⟩ ++ s.extract i s.size).size ≤ s.size + 1 := by
  have : (⟨#[x]⟩ : ByteArray).size = 1 := rfl
  rw [ByteArray.size_append, ByteArray.size_append, ByteArray.size_extract, ByteArray.size_extract]; omega
theorem sz_put (s : ByteArray) (x : UInt8) (i : Nat) (h : i ≤ s.size) : (s.extract 0 i ++ ⟨#[x]⟩ ++ s.extract (i + 1) s.size).size ≤ s.size + 1 := by
  have : (⟨#[x]⟩ : ByteArray).size = 1 := rfl
  rw [ByteArray.size_append, ByteArray.size_append, ByteArray.size_extract, ByteArray.size_extract]; omega
theorem sz_del (s : ByteArray) (i : Nat) (h : i ≤ s.size) : (s.extract 0 i ++ s.extract (i + 1) s.size).size ≤ s.size + 1 := by
  rw [ByteArray.size_append, ByteArray.size_extract, ByteArray.size_extract]; omega

set_option maxHeartbeats 4000000 in
theorem spoilt_any (b K : Nat) (s0 wi : ByteArray) (w : World) (hC : Cur w b K) (hK : K ≤ 900000) (hs0 : s0.size ≤ 100000) (hw1 : 1 ≤ wi.size) (hw2 : wi.size ≤ 100) :
    Calls Tryd.prog 70 #[.pointer (some ⟨b, 0, none⟩), .string s0, .string wi] w (RetCurT (s0.size + 2) w b (K + 20)) := by
  have hb := hC.lt
  have hG := Grow.refl w b
  have hh := Has.nil w
  go_enter Tryd.func70, Tryd.ntmps70
  go_wp2_with fail
  (go_at_call 64; refine (pick_any _ _ _ _ (by (repeat (first | (with_reducible assumption) | (with_reducible apply Cur.drew) | (with_reducible apply Cur.drewN) | (with_reducible apply Cur.alloc) | ((with_reducible apply Cur.set); rotate_left; (first | omega | (simp <;> omega)))))) (by omega)).mono ?_; rintro e w' ⟨k, ⟨kA, kB⟩, rfl, hg, hCn⟩; have hGn := Grow.trans (show Grow w _ _ from (by (repeat (with_reducible first | exact Grow.refl _ _ | assumption | refine Grow.drew ?_ | refine Grow.drewN ?_ | refine Grow.alloc ?_ _ | refine Grow.set ?_ (Or.inl rfl) | refine Grow.set ?_ (Or.inr (by first | omega | (simp <;> omega))))))) hg; clear hG hC; have hG := hGn; have hC := hCn; clear hGn hCn; have hz : w.heap.size ≤ w'.heap.size := hG.size; have hs := hg.size; (try simp only [World.size_alloc, World.size_setCell, World.size_drew, World.heap_drewN] at hs); have hh := Has.grow (by (repeat (with_reducible first | assumption | apply Has.alloc5 | apply Has.alloc2 | apply Has.alloc1 | apply Has.alloc3 | apply Has.drew | apply Has.drewN | apply Has.set_ | apply Has.allocx | exact Has.nil _))) hg (by simp <;> omega); have hq := hh; simp only [Has, upd, World.size_alloc, World.size_setCell, World.size_drew, World.heap_drewN, and_true, true_and, ite_true, ite_false, and_self, Nat.add_right_cancel_iff, Nat.add_eq_left, Nat.left_eq_add, reduceCtorEq, Nat.reduceEqDiff, if_true, if_false] at hq; have k3 := kB (by omega); have k1 := kA; clear kA kB; clear hg)
  obtain ⟨k, rfl⟩ : ∃ q : Nat, k = q := ⟨k.toNat, by omega⟩
  go_wp2_with fail
  go_loopw [1, 7] (fun s1 s2 wr => ∃ (s : ByteArray) (m : Nat), s1 = .string s ∧ s2 = .int .i64 m ∧ m ≤ 2 ∧ s.size + m ≤ s0.size + 2 ∧ w.heap.size ≤ wr.heap.size ∧ Grow w b wr ∧ Cur wr b (K + 2 + 6 * (2 - m))) (fun _ v _ => (intOf v).toNat)
  case atStart => exact ⟨s0, 1 + k, rfl, by go_num, by omega, by omega, by omega, hG, hC.more (by omega)⟩
  case round =>
    clear hG hC hh hq hs hz
    obtain ⟨s, m, rfl, rfl, hm, hsm, hz, hG, hC⟩ := hrel
    have hh := Has.nil wr
    have hbr := hC.lt
    by_cases hgo : 0 < m ∧ 0 < s.size
    · obtain ⟨hm0, hsz0⟩ := hgo
      obtain ⟨m, rfl⟩ : ∃ q : Nat, m = q + 1 := ⟨m - 1, by omega⟩
      have m0 : (0 : Int) < ((m + 1 : Nat) : Int) := by omega
      have s00 : (0 : Int) < s.size := by omega
      go_wp2_with fail
      (go_at_call 64; refine (pick_any _ _ _ _ (by (repeat (first | (with_reducible assumption) | (with_reducible apply Cur.drew) | (with_reducible apply Cur.drewN) | (with_reducible apply Cur.alloc) | ((with_reducible apply Cur.set); rotate_left; (first | omega | (simp <;> omega)))))) (by omega)).mono ?_; rintro e w' ⟨i, ⟨kA, kB⟩, rfl, hg, hCn⟩; have hGn := Grow.trans (show Grow w _ _ from (by (repeat (with_reducible first | exact Grow.refl _ _ | assumption | refine Grow.drew ?_ | refine Grow.drewN ?_ | refine Grow.alloc ?_ _ | refine Grow.set ?_ (Or.inl rfl) | refine Grow.set ?_ (Or.inr (by first | omega | (simp <;> omega))))))) hg; clear hG hC; have hG := hGn; have hC := hCn; clear hGn hCn; have hz : w.heap.size ≤ w'.heap.size := hG.size; have hs := hg.size; (try simp only [World.size_alloc, World.size_setCell, World.size_drew, World.heap_drewN] at hs); have hh := Has.grow (by (repeat (with_reducible first | assumption | apply Has.alloc5 | apply Has.alloc2 | apply Has.alloc1 | apply Has.alloc3 | apply Has.drew | apply Has.drewN | apply Has.set_ | apply Has.allocx | exact Has.nil _))) hg (by simp <;> omega); have hq := hh; simp only [Has, upd, World.size_alloc, World.size_setCell, World.size_drew, World.heap_drewN, and_true, true_and, ite_true, ite_false, and_self, Nat.add_right_cancel_iff, Nat.add_eq_left, Nat.left_eq_add, reduceCtorEq, Nat.reduceEqDiff, if_true, if_false] at hq; have i3 := kB (by omega); have i1 := kA; clear kA kB; clear hg)
      obtain ⟨i, rfl⟩ : ∃ q : Nat, i = q := ⟨i.toNat, by omega⟩
      go_wp2_with fail
      (go_at_call 64; refine (pick_any _ _ _ _ (by (repeat (first | (with_reducible assumption) | (with_reducible apply Cur.drew) | (with_reducible apply Cur.drewN) | (with_reducible apply Cur.alloc) | ((with_reducible apply Cur.set); rotate_left; (first | omega | (simp <;> omega)))))) (by omega)).mono ?_; rintro e w' ⟨j, ⟨kA, kB⟩, rfl, hg, hCn⟩; have hGn := Grow.trans (show Grow w _ _ from (by (repeat (with_reducible first | exact Grow.refl _ _ | assumption | refine Grow.drew ?_ | refine Grow.drewN ?_ | refine Grow.alloc ?_ _ | refine Grow.set ?_ (Or.inl rfl) | refine Grow.set ?_ (Or.inr (by first | omega | (simp <;> omega))))))) hg; clear hG hC; have hG := hGn; have hC := hCn; clear hGn hCn; have hz : w.heap.size ≤ w'.heap.size := hG.size; have hs := hg.size; (try simp only [World.size_alloc, World.size_setCell, World.size_drew, World.heap_drewN] at hs); have hh := Has.grow (by (repeat (with_reducible first | assumption | apply Has.alloc5 | apply Has.alloc2 | apply Has.alloc1 | apply Has.alloc3 | apply Has.drew | apply Has.drewN | apply Has.set_ | apply Has.allocx | exact Has.nil _))) hg (by simp <;> omega); have hq := hh; simp only [Has, upd, World.size_alloc, World.size_setCell, World.size_drew, World.heap_drewN, and_true, true_and, ite_true, ite_false, and_self, Nat.add_right_cancel_iff, Nat.add_eq_left, Nat.left_eq_add, reduceCtorEq, Nat.reduceEqDiff, if_true, if_false] at hq; have j3 := kB (by omega); have j1 := kA; clear kA kB; clear hg)
      obtain ⟨j, rfl⟩ : ∃ q : Nat, j = q := ⟨j.toNat, by omega⟩
      obtain ⟨x, hx, hxs⟩ := byte_at wi j (by omega)
      have hc := conv1 w' (x.toNat : Int) x rfl
      clear hx
      go_wp2_with fail
      (go_at_call 64; refine (pick_any _ _ _ _ (by (repeat (first | (with_reducible assumption) | (with_reducible apply Cur.drew) | (with_reducible apply Cur.drewN) | (with_reducible apply Cur.alloc) | ((with_reducible apply Cur.set); rotate_left; (first | omega | (simp <;> omega)))))) (by omega)).mono ?_; rintro e w' ⟨p, ⟨kA, kB⟩, rfl, hg, hCn⟩; have hGn := Grow.trans (show Grow w _ _ from (by (repeat (with_reducible first | exact Grow.refl _ _ | assumption | refine Grow.drew ?_ | refine Grow.drewN ?_ | refine Grow.alloc ?_ _ | refine Grow.set ?_ (Or.inl rfl) | refine Grow.set ?_ (Or.inr (by first | omega | (simp <;> omega))))))) hg; clear hG hC; have hG := hGn; have hC := hCn; clear hGn hCn; have hz : w.heap.size ≤ w'.heap.size := hG.size; have hs := hg.size; (try simp only [World.size_alloc, World.size_setCell, World.size_drew, World.heap_drewN] at hs); have hh := Has.grow (by (repeat (with_reducible first | assumption | apply Has.alloc5 | apply Has.alloc2 | apply Has.alloc1 | apply Has.alloc3 | apply Has.drew | apply Has.drewN | apply Has.set_ | apply Has.allocx | exact Has.nil _))) hg (by simp <;> omega); have hq := hh; simp only [Has, upd, World.size_alloc, World.size_setCell, World.size_drew, World.heap_drewN, and_true, true_and, ite_true, ite_false, and_self, Nat.add_right_cancel_iff, Nat.add_eq_left, Nat.left_eq_add, reduceCtorEq, Nat.reduceEqDiff, if_true, if_false] at hq; have p3 := kB (by omega); have p1 := kA; clear kA kB; clear hg)
      have i9 : (i : Int) ≤ s.size := by omega
      have i8 : i ≤ s.size := by omega
      have i7 : (i : Int) + 1 ≤ s.size := by omega
      have i6 : IntKind.i64.wrap ((i : Int) + 1) = (i : Int) + 1 := IntWalk.i64_in _ (by omega)
      obtain ⟨B, hB9⟩ : ∃ B : ByteArray, B = ⟨#[x]⟩ := ⟨_, rfl⟩
      have hBs : B.size = 1 := by rw [hB9]; rfl
      have hxs' := hxs
      clear hc hxs hxs'
      rcases (by omega : p = 0 ∨ p = 1 ∨ p = 2) with rfl | rfl | rfl
      · go_wp2_with fail
        go_quiet (fail)
        go_wp2_with fail
        go_roundw
        case rel => exact ⟨_, m, rfl, by go_num, by omega, by have := sz_ins s x i i8; omega, by have h9 := hG.size; (try simp at h9); simp; omega, (by (repeat (with_reducible first | exact Grow.refl _ _ | assumption | refine Grow.drew ?_ | refine Grow.drewN ?_ | refine Grow.alloc ?_ _ | refine Grow.set ?_ (Or.inl rfl) | refine Grow.set ?_ (Or.inr (by first | omega | (simp <;> omega)))))), Cur.more (by (repeat (first | (with_reducible assumption) | (with_reducible apply Cur.drew) | (with_reducible apply Cur.drewN) | (with_reducible apply Cur.alloc) | ((with_reducible apply Cur.set); rotate_left; (first | omega | (simp <;> omega)))))) (by omega)⟩
        case measure => simp [intOf]; try omega
      · go_wp2_with fail
        go_quiet (fail)
        go_wp2_with fail
        go_roundw
        case rel => exact ⟨_, m, rfl, by go_num, by omega, by have := sz_put s x i i8; omega, by have h9 := hG.size; (try simp at h9); simp; omega, (by (repeat (with_reducible first | exact Grow.refl _ _ | assumption | refine Grow.drew ?_ | refine Grow.drewN ?_ | refine Grow.alloc ?_ _ | refine Grow.set ?_ (Or.inl rfl) | refine Grow.set ?_ (Or.inr (by first | omega | (simp <;> omega)))))), Cur.more (by (repeat (first | (with_reducible assumption) | (with_reducible apply Cur.drew) | (with_reducible apply Cur.drewN) | (with_reducible apply Cur.alloc) | ((with_reducible apply Cur.set); rotate_left; (first | omega | (simp <;> omega)))))) (by omega)⟩
        case measure => simp [intOf]; try omega
      · go_wp2_with fail
        go_quiet (fail)
        go_wp2_with fail
        go_roundw
        case rel => exact ⟨_, m, rfl, by go_num, by omega, by have := sz_del s i i8; omega, by have h9 := hG.size; (try simp at h9); simp; omega, (by (repeat (with_reducible first | exact Grow.refl _ _ | assumption | refine Grow.drew ?_ | refine Grow.drewN ?_ | refine Grow.alloc ?_ _ | refine Grow.set ?_ (Or.inl rfl) | refine Grow.set ?_ (Or.inr (by first | omega | (simp <;> omega)))))), Cur.more (by (repeat (first | (with_reducible assumption) | (with_reducible apply Cur.drew) | (with_reducible apply Cur.drewN) | (with_reducible apply Cur.alloc) | ((with_reducible apply Cur.set); rotate_left; (first | omega | (simp <;> omega)))))) (by omega)⟩
        case measure => simp [intOf]; try omega
    · by_cases hm0 : 0 < m
      · have m0 : (0 : Int) < m := by omega
        have s00 : s.size = 0 := by omega
        have s01 : ¬ (0 : Int) < s.size := by omega
        go_wp2_with fail
        go_ret
        exact ⟨s, by omega, rfl, hG, hC.more (by omega)⟩
      · obtain rfl : m = 0 := by omega
        go_wp2_with fail
        go_ret
        exact ⟨s, by omega, rfl, hG, hC.more (by omega)⟩

end Go.Proofs.YtgpjnffomheemaaDoor

