/- Contracts of CircleSpots, of the program and of the reference. -/
import Derived.Test.YtkadnmebijfacaaArcs
namespace Go.Proofs.Ytkadnmebijfacaa
open Go.RowKit
set_option linter.unusedVariables false
set_option linter.unusedSimpArgs false
set_option maxRecDepth 100000

theorem rootOf_eq (n d : Int) (w : World) (h1 : 0 ≤ n) (h2 : n ≤ 10000000) (h : iroot n = d) : Calls Try.prog 122 #[.int .i64 n] w fun e w' => e = .returned (.int .i64 d) ∧ w = w' := by
  have := rootOf_any n w h1 h2; rw [h] at this; exact this

theorem arRoot_eq (n d : Int) (w : World) (h1 : 0 ≤ n) (h2 : n ≤ 10000000) (h : iroot n = d) : Calls Try.prog 123 #[.int .i64 n] w fun e w' => e = .returned (.int .i64 d) ∧ w = w' := by
  have := arRoot_any n w h1 h2; rw [h] at this; exact this

def wX (r d : Int) : Nat → Int
  | 0 => r | 1 => d | 2 => 0 | 3 => -d | 4 => -r | 5 => -d | 6 => 0 | _ => d
def wY (r d : Int) : Nat → Int
  | 0 => 0 | 1 => d | 2 => r | 3 => d | 4 => 0 | 5 => -d | 6 => -r | _ => -d
theorem wX_bd {r d : Int} (r1 : 1 ≤ r) (r2 : r ≤ 1400) (d1 : 0 ≤ d) (d2 : d ≤ 3200) (k : Nat) : -3200 ≤ wX r d k ∧ wX r d k ≤ 3200 := by unfold wX; split <;> omega
theorem wY_bd {r d : Int} (r1 : 1 ≤ r) (r2 : r ≤ 1400) (d1 : 0 ≤ d) (d2 : d ≤ 3200) (k : Nat) : -3200 ≤ wY r d k ∧ wY r d k ≤ 3200 := by unfold wY; split <;> omega
theorem below8 {p : Nat → Prop} (h0 : p 0) (h1 : p 1) (h2 : p 2) (h3 : p 3) (h4 : p 4) (h5 : p 5) (h6 : p 6) (h7 : p 7) : ∀ k, k < 8 → p k
  | 0, _ => h0 | 1, _ => h1 | 2, _ => h2 | 3, _ => h3 | 4, _ => h4 | 5, _ => h5 | 6, _ => h6 | 7, _ => h7
  | k + 8, h => absurd h (by omega)
theorem Has.imp2 {w w' : World} {m : List (Nat × Nat × Value)} (h : Has w m) (hb : ∀ e ∈ m, w'.heap[e.1]? = w.heap[e.1]?) : Has w' m := (Has_iff w' m).2 fun e he => by
  have := (Has_iff w m).1 h e he
  exact ⟨(World.cell?_of_block (w := w) (w' := w') (a := ⟨e.1, e.2.1, none⟩) (hb e he)).trans this.1, (World.frozen?_of_block (w := w) (w' := w') (a := ⟨e.1, e.2.1, none⟩) (hb e he)).trans this.2⟩
/-- the table of the eight ways, as the program lays it -/
def Tab (w : World) (T : Nat) (r d : Int) : Prop := ∀ k, k < 8 → Has w [(T, k * 2, .int .i64 (wX r d k)), (T, k * 2 + 1, .int .i64 (wY r d k))]
theorem Tab.same {w w' : World} {T : Nat} {r d : Int} (h : Tab w T r d) (hb : w'.heap[T]? = w.heap[T]?) : Tab w' T r d := fun k hk => (h k hk).imp2 (by intro e he; simp at he; rcases he with rfl | rfl <;> exact hb)
theorem Tab.lt {w : World} {T : Nat} {r d : Int} (h : Tab w T r d) : T < w.heap.size := cell_lt (h 0 (by omega)).1.1
theorem Tab.below {w w' : World} {T : Nat} {r d : Int} (h : Tab w T r d) {B : Nat} (hb : Below B w w') (hB : w.heap.size ≤ B) : Tab w' T r d := h.same (hb.block _ (by have := h.lt; omega))
theorem Tab.grown {w w' : World} {T : Nat} {r d : Int} {row : Option Nat} (h : Tab w T r d) (hg : w.grownBy w' row) (hne : some T ≠ row) : Tab w' T r d := h.same (hg.block T h.lt hne)
theorem Tab.mk {w : World} {r d : Int} (t : TypeId) : Tab (w.alloc (.cells #[.int .i64 r, .int .i64 0, .int .i64 d, .int .i64 d, .int .i64 0, .int .i64 r, .int .i64 (-d), .int .i64 d, .int .i64 (-r), .int .i64 0, .int .i64 (-d), .int .i64 (-d), .int .i64 0, .int .i64 (-r), .int .i64 d, .int .i64 (-d)] t)) w.heap.size r d := by
  unfold Tab
  refine below8 ?_ ?_ ?_ ?_ ?_ ?_ ?_ ?_ <;> exact Has.new rfl (Has.new rfl (Has.nil _))

def cirTo (m1 m2 r d : Int) : Nat → Option (List (Int × Int))
  | 0 => some []
  | j + 1 => match cirTo m1 m2 r d j with
    | none => none
    | some l => if goodB (m1 + wX r d j) (m2 + wY r d j) then some (l ++ [(m1 + wX r d j, m2 + wY r d j)]) else none
theorem cirTo_yes {m1 m2 r d x y : Int} {j : Nat} {l : List (Int × Int)} (h : cirTo m1 m2 r d j = some l) (hx : wX r d j = x) (hy : wY r d j = y) (h' : goodB (m1 + x) (m2 + y) = true) : cirTo m1 m2 r d (j + 1) = some (l ++ [(m1 + x, m2 + y)]) := by
  subst hx hy; simp [cirTo, h, h']
theorem cirTo_no {m1 m2 r d x y : Int} {j : Nat} (hx : wX r d j = x) (hy : wY r d j = y) (h' : goodB (m1 + x) (m2 + y) = false) : cirTo m1 m2 r d (j + 1) = none := by
  subst hx hy; simp only [cirTo]; split <;> simp [h']
theorem cirTo_none {m1 m2 r d : Int} {j : Nat} (h : cirTo m1 m2 r d j = none) : ∀ k, j ≤ k → cirTo m1 m2 r d k = none
  | 0, hk => by obtain rfl : j = 0 := by omega
                exact h
  | k + 1, hk => by
    by_cases e : j = k + 1
    · subst e; exact h
    · have := cirTo_none h k (by omega); simp [cirTo, this]
def mCirc (m1 m2 r : Int) : List (Int × Int) × Bool := if goodB m1 m2 && inB r 1 1400 then (match cirTo m1 m2 r (iroot (r * r / 2)) 8 with | some l => (l, true) | none => ([], false)) else ([], false)
theorem mCirc_bad {m1 m2 r : Int} (h : (goodB m1 m2 && inB r 1 1400) = false) : mCirc m1 m2 r = ([], false) := by simp [mCirc, h]
theorem mCirc_stop {m1 m2 r d x y : Int} {j : Nat} (hd : iroot (r * r / 2) = d) (hx : wX r d j = x) (hy : wY r d j = y) (h' : goodB (m1 + x) (m2 + y) = false) (hj : j < 8) : mCirc m1 m2 r = ([], false) := by
  subst hd
  have := cirTo_none (cirTo_no hx hy h') 8 (by omega)
  simp [mCirc, this]
theorem mCirc_all {m1 m2 r d : Int} {l : List (Int × Int)} (hb : (goodB m1 m2 && inB r 1 1400) = true) (hd : iroot (r * r / 2) = d) (h : cirTo m1 m2 r d 8 = some l) : mCirc m1 m2 r = (l, true) := by
  subst hd
  simp [mCirc, hb, h]

set_option maxHeartbeats 8000000 in
theorem iCirc_any (m1 m2 r : Int) (l : List (Int × Int)) (ok : Bool) (w : World) (hm : mCirc m1 m2 r = (l, ok)) :
    Calls Try.prog 60 #[.agg #[.int .i64 m1, .int .i64 m2], .int .i64 r] w (RetSpots w l ok) := by
  have HM := Lib.hid hm
  clear hm
  rcases tf (goodB m1 m2) with h1 | h1
  rotate_left
  · obtain ⟨rfl, rfl⟩ : l = [] ∧ ok = false := by have := HM.out.symm.trans (mCirc_bad (by simp [h1])); injection this with a b; exact ⟨a, b⟩
    go_enter Try.func60, Try.ntmps60
    go_wp2_with (first | (go_at_call 94; refine (iIsSpot_any _ _ _).mono ?_; rintro e w' ⟨rfl, hb⟩; have hz : w.heap.size + 1 ≤ w'.heap.size := (by have := hb.size; first | omega | (simp at this; omega)); have hB : Below w.heap.size w w' := (by refine Below.trans ?_ (hb.mono (by first | omega | (simp <;> omega))); (first | with_reducible exact Below.refl _ _ | with_reducible assumption | (repeat (with_reducible first | exact Below.refl _ _ | assumption | refine Below.drew ?_ | refine Below.alloc ?_ (by first | omega | (simp <;> omega)) _ | refine Below.setCell ?_ (by first | omega | (simp <;> omega)) _ | refine below_drewN ?_ _)))); have hh := Has.below (by (repeat (with_reducible first | assumption | apply Has.alloc5 | apply Has.alloc2 | apply Has.alloc1 | apply Has.alloc3 | apply Has.drew | apply Has.drewN | apply Has.set_ | apply Has.allocx | exact Has.nil _))) hb; (try simp only [World.size_alloc, World.size_setCell, World.size_drew, World.heap_drewN] at hh); have hq := hh; simp only [Has, upd, World.size_alloc, World.size_setCell, World.size_drew, World.heap_drewN, and_true, true_and, ite_true, ite_false, and_self, Nat.add_right_cancel_iff, Nat.add_eq_left, Nat.left_eq_add, reduceCtorEq, Nat.reduceEqDiff, if_true, if_false] at hq; have hs := hb.size; (try simp only [World.size_alloc, World.size_setCell, World.size_drew, World.heap_drewN] at hs); have hn0 : w.heap.size ≠ w'.heap.size := (by omega); have hm0 : w'.heap.size ≠ w.heap.size := (by omega); clear hb) | (go_at_call 126; refine (isRadius_any _ _).mono ?_; rintro e w' ⟨rfl, rfl⟩))
    go_ret2
    exact RetSpots.nil w (by (first | with_reducible exact Below.refl _ _ | with_reducible assumption | (repeat (with_reducible first | exact Below.refl _ _ | assumption | refine Below.drew ?_ | refine Below.alloc ?_ (by first | omega | (simp <;> omega)) _ | refine Below.setCell ?_ (by first | omega | (simp <;> omega)) _ | refine below_drewN ?_ _))))
  rcases tf (inB r 1 1400) with h2 | h2
  rotate_left
  · obtain ⟨rfl, rfl⟩ : l = [] ∧ ok = false := by have := HM.out.symm.trans (mCirc_bad (by simp [h2])); injection this with a b; exact ⟨a, b⟩
    go_enter Try.func60, Try.ntmps60
    go_wp2_with (first | (go_at_call 94; refine (iIsSpot_any _ _ _).mono ?_; rintro e w' ⟨rfl, hb⟩; have hz : w.heap.size + 1 ≤ w'.heap.size := (by have := hb.size; first | omega | (simp at this; omega)); have hB : Below w.heap.size w w' := (by refine Below.trans ?_ (hb.mono (by first | omega | (simp <;> omega))); (first | with_reducible exact Below.refl _ _ | with_reducible assumption | (repeat (with_reducible first | exact Below.refl _ _ | assumption | refine Below.drew ?_ | refine Below.alloc ?_ (by first | omega | (simp <;> omega)) _ | refine Below.setCell ?_ (by first | omega | (simp <;> omega)) _ | refine below_drewN ?_ _)))); have hh := Has.below (by (repeat (with_reducible first | assumption | apply Has.alloc5 | apply Has.alloc2 | apply Has.alloc1 | apply Has.alloc3 | apply Has.drew | apply Has.drewN | apply Has.set_ | apply Has.allocx | exact Has.nil _))) hb; (try simp only [World.size_alloc, World.size_setCell, World.size_drew, World.heap_drewN] at hh); have hq := hh; simp only [Has, upd, World.size_alloc, World.size_setCell, World.size_drew, World.heap_drewN, and_true, true_and, ite_true, ite_false, and_self, Nat.add_right_cancel_iff, Nat.add_eq_left, Nat.left_eq_add, reduceCtorEq, Nat.reduceEqDiff, if_true, if_false] at hq; have hs := hb.size; (try simp only [World.size_alloc, World.size_setCell, World.size_drew, World.heap_drewN] at hs); have hn0 : w.heap.size ≠ w'.heap.size := (by omega); have hm0 : w'.heap.size ≠ w.heap.size := (by omega); clear hb) | (go_at_call 126; refine (isRadius_any _ _).mono ?_; rintro e w' ⟨rfl, rfl⟩))
    go_ret2
    exact RetSpots.nil w (by (first | with_reducible exact Below.refl _ _ | with_reducible assumption | (repeat (with_reducible first | exact Below.refl _ _ | assumption | refine Below.drew ?_ | refine Below.alloc ?_ (by first | omega | (simp <;> omega)) _ | refine Below.setCell ?_ (by first | omega | (simp <;> omega)) _ | refine below_drewN ?_ _))))
  obtain ⟨r1, r2⟩ := (inB_iff _ _ _).1 h2
  obtain ⟨p1, p2, p3, p4⟩ := (goodB_iff _ _).1 h1
  obtain ⟨q1, q2⟩ := sqr_le (d := r) (m := 1400) (by omega) (by omega)
  have q3 : 0 ≤ r * r / 2 := by omega
  have q4 : r * r / 2 ≤ 10000000 := by omega
  obtain ⟨d1, d2⟩ := iroot_le q3 q4
  obtain ⟨d, hd⟩ : ∃ d, iroot (r * r / 2) = d := ⟨_, rfl⟩
  rw [hd] at d1 d2
  have HD := Lib.hid hd
  clear hd
  have HB := Lib.hid (show (goodB m1 m2 && inB r 1 1400) = true by simp [h1, h2])
  obtain ⟨i0, hi0, hz0, hz1, hz2⟩ := info_parts infoSpot
  have HI := Lib.hid hi0
  have HZ0 := Lib.hid hz0
  have HZ1 := Lib.hid hz1
  have HZ2 := Lib.hid hz2
  clear hi0 hz0 hz1 hz2
  go_enter Try.func60, Try.ntmps60
  go_wp2_with (first | (go_at_call 94; refine (iIsSpot_any _ _ _).mono ?_; rintro e w' ⟨rfl, hb⟩; have hz : w.heap.size + 1 ≤ w'.heap.size := (by have := hb.size; first | omega | (simp at this; omega)); have hB : Below w.heap.size w w' := (by refine Below.trans ?_ (hb.mono (by first | omega | (simp <;> omega))); (first | with_reducible exact Below.refl _ _ | with_reducible assumption | (repeat (with_reducible first | exact Below.refl _ _ | assumption | refine Below.drew ?_ | refine Below.alloc ?_ (by first | omega | (simp <;> omega)) _ | refine Below.setCell ?_ (by first | omega | (simp <;> omega)) _ | refine below_drewN ?_ _)))); have hh := Has.below (by (repeat (with_reducible first | assumption | apply Has.alloc5 | apply Has.alloc2 | apply Has.alloc1 | apply Has.alloc3 | apply Has.drew | apply Has.drewN | apply Has.set_ | apply Has.allocx | exact Has.nil _))) hb; (try simp only [World.size_alloc, World.size_setCell, World.size_drew, World.heap_drewN] at hh); have hq := hh; simp only [Has, upd, World.size_alloc, World.size_setCell, World.size_drew, World.heap_drewN, and_true, true_and, ite_true, ite_false, and_self, Nat.add_right_cancel_iff, Nat.add_eq_left, Nat.left_eq_add, reduceCtorEq, Nat.reduceEqDiff, if_true, if_false] at hq; have hs := hb.size; (try simp only [World.size_alloc, World.size_setCell, World.size_drew, World.heap_drewN] at hs); have hn0 : w.heap.size ≠ w'.heap.size := (by omega); have hm0 : w'.heap.size ≠ w.heap.size := (by omega); clear hb) | (go_at_call 126; refine (isRadius_any _ _).mono ?_; rintro e w' ⟨rfl, rfl⟩) | (go_at_call 122; refine (rootOf_eq _ _ _ q3 q4 HD.out).mono ?_; rintro e w' ⟨rfl, rfl⟩))
  obtain ⟨w0, rfl⟩ : ∃ w0, w0 = w' := ⟨_, rfl⟩
  have hz0 : w.heap.size + 1 ≤ w0.heap.size := by omega
  go_loopw [7, 53] (fun s1 s2 wr => ∃ (j : Nat) (q : List (Int × Int)), j ≤ 8 ∧ q.length = j ∧ s2 = .int .i64 j ∧ Hid (cirTo m1 m2 r d j = some q) ∧ SRow wr w0.heap.size s1 q ∧ Hid (s1.ownBlock ≠ some (w0.heap.size + 1)) ∧ Tab wr (w0.heap.size + 1) r d ∧ w0.heap.size + 2 ≤ wr.heap.size ∧ Below w.heap.size w wr ∧ Has wr [(w.heap.size, 0, .int .i64 m1), (w.heap.size, 1, .int .i64 m2)]) (fun _ v _ => 8 - (intOf v).toNat)
  case atStart => exact ⟨0, [], by omega, rfl, rfl, Lib.hid rfl, SRow.below (w := w0.alloc (.cells #[] 25)) ⟨by simp, World.ownsRow_made _ _ _ (Nat.le_refl _) (by simp [maxLen]) rfl⟩ ((Below.refl _ _).alloc (Nat.le_refl _) _) (Nat.le_refl _), Lib.hid (by intro h; injection h with h; have h9 : w0.heap.size = w0.heap.size + 1 := h; omega), by have := Tab.mk (w := w0.alloc (.cells #[] 25)) (r := r) (d := d) 128; simpa using this, (by first | omega | (simp <;> omega)), (by (first | with_reducible exact Below.refl _ _ | with_reducible assumption | (repeat (with_reducible first | exact Below.refl _ _ | assumption | refine Below.drew ?_ | refine Below.alloc ?_ (by first | omega | (simp <;> omega)) _ | refine Below.setCell ?_ (by first | omega | (simp <;> omega)) _ | refine below_drewN ?_ _)))), (by apply Has.weak; (focus (repeat (with_reducible first | assumption | apply Has.alloc5 | apply Has.alloc2 | apply Has.alloc1 | apply Has.alloc3 | apply Has.drew | apply Has.drewN | apply Has.set_ | apply Has.allocx | exact Has.nil _))); simp [upd, *])⟩
  case round =>
    obtain ⟨j, q, hj, hql, rfl, HA, hS, HO, hT, hz1, hB, hh⟩ := hrel
    have hwr := hB.size
    have HQ := Lib.hid hql
    clear hql
    by_cases hlt : j < 8
    · obtain ⟨x, hx⟩ : ∃ x, wX r d j = x := ⟨_, rfl⟩
      obtain ⟨y, hy⟩ : ∃ y, wY r d j = y := ⟨_, rfl⟩
      have bx := wX_bd r1 r2 d1 d2 j
      have byy := wY_bd r1 r2 d1 d2 j
      have hk := hT j hlt
      rw [hx] at bx hk
      rw [hy] at byy hk
      have HX := Lib.hid hx
      have HY := Lib.hid hy
      clear hx hy
      obtain ⟨x1, x2⟩ := bx
      obtain ⟨y1, y2⟩ := byy
      have hh := Has.app hh hk
      simp only [List.cons_append, List.nil_append] at hh
      clear hk
      have hq := hh
      simp only [Has, and_true] at hq
      have j1 : (j : Int) < 8 := by omega
      have v9 : w.heap.size < wr.heap.size := by omega
      have v0 : w0.heap.size + 1 < wr.heap.size := by omega
      have v1 : w.heap.size ≠ wr.heap.size := by omega
      have v2 : wr.heap.size ≠ w.heap.size := by omega
      have v3 : w0.heap.size + 1 ≠ wr.heap.size := by omega
      have v4 : wr.heap.size ≠ w0.heap.size + 1 := by omega
      have v5 : w.heap.size ≠ wr.heap.size + 1 := by omega
      have v6 : wr.heap.size + 1 ≠ w.heap.size := by omega
      have v7 : w0.heap.size + 1 ≠ wr.heap.size + 1 := by omega
      have v8 : wr.heap.size + 1 ≠ w0.heap.size + 1 := by omega
      rcases tf (goodB (m1 + x) (m2 + y)) with h4 | h4
      · go_wp2_with (first
            | (go_at_call 94; refine (iIsSpot_any _ _ _).mono ?_; rintro e w' ⟨rfl, hb⟩; have hz : w.heap.size + 1 ≤ w'.heap.size := (by have := hb.size; first | omega | (simp at this; omega)); have hB : Below w.heap.size w w' := (by refine Below.trans ?_ (hb.mono (by first | omega | (simp <;> omega))); (first | with_reducible exact Below.refl _ _ | with_reducible assumption | (repeat (with_reducible first | exact Below.refl _ _ | assumption | refine Below.drew ?_ | refine Below.alloc ?_ (by first | omega | (simp <;> omega)) _ | refine Below.setCell ?_ (by first | omega | (simp <;> omega)) _ | refine below_drewN ?_ _)))); have hh := Has.below (by (repeat (with_reducible first | assumption | apply Has.alloc5 | apply Has.alloc2 | apply Has.alloc1 | apply Has.alloc3 | apply Has.drew | apply Has.drewN | apply Has.set_ | apply Has.allocx | exact Has.nil _))) hb; (try simp only [World.size_alloc, World.size_setCell, World.size_drew, World.heap_drewN] at hh); have hq := hh; simp only [Has, upd, World.size_alloc, World.size_setCell, World.size_drew, World.heap_drewN, and_true, true_and, ite_true, ite_false, and_self, Nat.add_right_cancel_iff, Nat.add_eq_left, Nat.left_eq_add, reduceCtorEq, Nat.reduceEqDiff, if_true, if_false] at hq; have hs := hb.size; (try simp only [World.size_alloc, World.size_setCell, World.size_drew, World.heap_drewN] at hs); have hn0 : w.heap.size ≠ w'.heap.size := (by omega); have hm0 : w'.heap.size ≠ w.heap.size := (by omega); have hR : Below wr.heap.size wr w' := (Below.trans (by (first | with_reducible exact Below.refl _ _ | with_reducible assumption | (repeat (with_reducible first | exact Below.refl _ _ | assumption | refine Below.drew ?_ | refine Below.alloc ?_ (by first | omega | (simp <;> omega)) _ | refine Below.setCell ?_ (by first | omega | (simp <;> omega)) _ | refine below_drewN ?_ _)))) (hb.mono (by first | omega | (simp <;> omega)))); have hS2 := SRow.below hS hR (Nat.le_refl _); have hT2 := Tab.below hT hR (Nat.le_refl _); clear hb)
            | (at_builtin
               refine wpList_append_own_at _ rfl _ _ 26 rfl (w0.heap.size) 25 i0 (.agg #[.int .i64 0, .int .i64 0]) 2 16 Try.underlying26 HI.out HZ0.out HZ1.out HZ2.out rfl (by decide) _ _ _ rfl (hS2.2.alloc _) ⟨w'.heap.size, 0, none⟩ 1 1 [.int .i64 (m1 + x), .int .i64 (m2 + y)] rfl rfl (two_new _ _ _ _) (two_cells _ _) ?c3 ?c4 ?c5 ?_
               case c3 => have := HQ.out; simp only [maxLen]; omega
               case c4 => have := HQ.out; omega
               case c5 => simp; omega
               intro v' w2 hown' hgrow _ hat
               have hI3 := SRow.snoc (p := (m1 + x, m2 + y)) (by have := HQ.out; omega) hown'
               have hlow := World.ownsRow.lt hS2.2
               have hB2 : Below w.heap.size w w2 := Below.grown (Below.alloc hB (by first | omega | (simp <;> omega)) _) hgrow (by first | omega | (simp <;> omega)) (fun r hr => by have := (hlow r hr).1; omega)
               have hhb : Has w' [(w.heap.size, 0, .int .i64 m1), (w.heap.size, 1, .int .i64 m2)] := Has.weak hh (by (try simp only [upd]); simp)
               have hh2 : Has w2 [(w.heap.size, 0, .int .i64 m1), (w.heap.size, 1, .int .i64 m2)] := Has.grown (Has.allocx hhb) hgrow (fun e he hr => by
                 have := (hlow _ hr.symm).1
                 simp at he
                 rcases he with rfl | rfl <;> (have h9 : w0.heap.size ≤ w.heap.size := this; omega))
               have hT2 := (Tab.below hT2 ((Below.refl _ _).alloc (Nat.le_refl _) _) (Nat.le_refl _)).grown hgrow (fun e => HO.out e.symm)
               have hz3 : w0.heap.size + 2 ≤ w2.heap.size := by have := hgrow.size; simp at this; omega
               have HA2 : Hid (cirTo m1 m2 r d (j + 1) = some (q ++ [(m1 + x, m2 + y)])) := by show _ = _; exact cirTo_yes HA.out HX.out HY.out h4
               have HO2 : Hid (v'.ownBlock ≠ some (w0.heap.size + 1)) := Lib.hid (by intro h; rcases hat with h' | h'; exact HO.out (h'.symm.trans h); (have h9 := h'.symm.trans h; injection h9 with h9; (try simp at h9); omega))
               clear hown' hgrow hlow hB hq hh hS hhb hR hS2 hat))
        go_roundw
        case rel => exact ⟨j + 1, q ++ [(m1 + x, m2 + y)], by omega, by have := HQ.out; simp; omega, by go_num, HA2, hI3, HO2, hT2, hz3, hB2, hh2⟩
        case measure => simp [intOf]; omega
      · obtain ⟨rfl, rfl⟩ : l = [] ∧ ok = false := by have := HM.out.symm.trans (mCirc_stop HD.out HX.out HY.out h4 hlt); injection this with a b; exact ⟨a, b⟩
        go_wp2_with (go_at_call 94; refine (iIsSpot_any _ _ _).mono ?_; rintro e w' ⟨rfl, hb⟩; have hz : w.heap.size + 1 ≤ w'.heap.size := (by have := hb.size; first | omega | (simp at this; omega)); have hB : Below w.heap.size w w' := (by refine Below.trans ?_ (hb.mono (by first | omega | (simp <;> omega))); (first | with_reducible exact Below.refl _ _ | with_reducible assumption | (repeat (with_reducible first | exact Below.refl _ _ | assumption | refine Below.drew ?_ | refine Below.alloc ?_ (by first | omega | (simp <;> omega)) _ | refine Below.setCell ?_ (by first | omega | (simp <;> omega)) _ | refine below_drewN ?_ _)))); have hh := Has.below (by (repeat (with_reducible first | assumption | apply Has.alloc5 | apply Has.alloc2 | apply Has.alloc1 | apply Has.alloc3 | apply Has.drew | apply Has.drewN | apply Has.set_ | apply Has.allocx | exact Has.nil _))) hb; (try simp only [World.size_alloc, World.size_setCell, World.size_drew, World.heap_drewN] at hh); have hq := hh; simp only [Has, upd, World.size_alloc, World.size_setCell, World.size_drew, World.heap_drewN, and_true, true_and, ite_true, ite_false, and_self, Nat.add_right_cancel_iff, Nat.add_eq_left, Nat.left_eq_add, reduceCtorEq, Nat.reduceEqDiff, if_true, if_false] at hq; have hs := hb.size; (try simp only [World.size_alloc, World.size_setCell, World.size_drew, World.heap_drewN] at hs); have hn0 : w.heap.size ≠ w'.heap.size := (by omega); have hm0 : w'.heap.size ≠ w.heap.size := (by omega); clear hb)
        go_ret2
        exact RetSpots.nil w hB
    · obtain rfl : j = 8 := by omega
      obtain ⟨rfl, rfl⟩ : l = q ∧ ok = true := by
        have := HM.out.symm.trans (mCirc_all HB.out HD.out HA.out); injection this with a b; exact ⟨a, b⟩
      go_wp2
      go_ret2
      exact hS.ret (by omega) hB

/-- the table of the eight ways, as the reference lays it -/
def Tab2 (w : World) (b T : Nat) (r d : Int) : Prop := ∀ k, k < 8 → Has w [(T, k, .slice (some ⟨b + k, 0, none⟩) 2 2), (b + k, 0, .int .i64 (wX r d k)), (b + k, 1, .int .i64 (wY r d k))]
theorem Tab2.below {w w' : World} {b T : Nat} {r d : Int} (h : Tab2 w b T r d) {B : Nat} (hb : Below B w w') (hB : w.heap.size ≤ B) : Tab2 w' b T r d := fun k hk => (h k hk).imp2 (by
  intro e he
  have h1 := cell_lt (h k hk).1.1
  have h2 := cell_lt (h k hk).2.1.1
  simp at he
  rcases he with rfl | rfl | rfl
  · exact hb.block _ (by omega)
  · exact hb.block _ (by omega)
  · exact hb.block _ (by omega))
theorem Tab2.grown {w w' : World} {b T : Nat} {r d : Int} {row : Option Nat} (h : Tab2 w b T r d) (hg : w.grownBy w' row) (h1 : ∀ k, some k = row → T < k ∧ b + 8 ≤ k) : Tab2 w' b T r d := fun k hk => (h k hk).grown hg (by
  intro e he hr
  have := h1 _ hr
  simp at he
  rcases he with rfl | rfl | rfl <;> (simp at this; try omega))
set_option maxHeartbeats 2000000 in
theorem Tab2.mk (w : World) (r d : Int) : Tab2 (((((((((w.alloc (.cells #[.int .i64 r, .int .i64 0] 3)).alloc (.cells #[.int .i64 d, .int .i64 d] 3)).alloc (.cells #[.int .i64 0, .int .i64 r] 3)).alloc (.cells #[.int .i64 (-d), .int .i64 d] 3)).alloc (.cells #[.int .i64 (-r), .int .i64 0] 3)).alloc (.cells #[.int .i64 (-d), .int .i64 (-d)] 3)).alloc (.cells #[.int .i64 0, .int .i64 (-r)] 3)).alloc (.cells #[.int .i64 d, .int .i64 (-d)] 3)).alloc (.cells #[.slice (some ⟨w.heap.size, 0, none⟩) 2 2, .slice (some ⟨w.heap.size + 1, 0, none⟩) 2 2, .slice (some ⟨w.heap.size + 1 + 1, 0, none⟩) 2 2, .slice (some ⟨w.heap.size + 1 + 1 + 1, 0, none⟩) 2 2, .slice (some ⟨w.heap.size + 1 + 1 + 1 + 1, 0, none⟩) 2 2, .slice (some ⟨w.heap.size + 1 + 1 + 1 + 1 + 1, 0, none⟩) 2 2, .slice (some ⟨w.heap.size + 1 + 1 + 1 + 1 + 1 + 1, 0, none⟩) 2 2, .slice (some ⟨w.heap.size + 1 + 1 + 1 + 1 + 1 + 1 + 1, 0, none⟩) 2 2] 34)) w.heap.size (w.heap.size + 1 + 1 + 1 + 1 + 1 + 1 + 1 + 1) r d := by
  refine below8 ?_ ?_ ?_ ?_ ?_ ?_ ?_ ?_
  · have hh := Has.new (cs := #[.slice (some ⟨w.heap.size, 0, none⟩) 2 2, .slice (some ⟨w.heap.size + 1, 0, none⟩) 2 2, .slice (some ⟨w.heap.size + 1 + 1, 0, none⟩) 2 2, .slice (some ⟨w.heap.size + 1 + 1 + 1, 0, none⟩) 2 2, .slice (some ⟨w.heap.size + 1 + 1 + 1 + 1, 0, none⟩) 2 2, .slice (some ⟨w.heap.size + 1 + 1 + 1 + 1 + 1, 0, none⟩) 2 2, .slice (some ⟨w.heap.size + 1 + 1 + 1 + 1 + 1 + 1, 0, none⟩) 2 2, .slice (some ⟨w.heap.size + 1 + 1 + 1 + 1 + 1 + 1 + 1, 0, none⟩) 2 2]) (t := 34) (o := 0) rfl (Has.allocx (Has.allocx (o := .cells #[.int .i64 d, .int .i64 (-d)] 3) (Has.allocx (o := .cells #[.int .i64 0, .int .i64 (-r)] 3) (Has.allocx (o := .cells #[.int .i64 (-d), .int .i64 (-d)] 3) (Has.allocx (o := .cells #[.int .i64 (-r), .int .i64 0] 3) (Has.allocx (o := .cells #[.int .i64 (-d), .int .i64 d] 3) (Has.allocx (o := .cells #[.int .i64 0, .int .i64 r] 3) (Has.allocx (o := .cells #[.int .i64 d, .int .i64 d] 3) (Has.alloc2 (w := w) (t := 3) (a := .int .i64 r) (b := .int .i64 0) (Has.nil _))))))))))
    simpa [World.size_alloc, wX, wY] using hh
  · have hh := Has.new (cs := #[.slice (some ⟨w.heap.size, 0, none⟩) 2 2, .slice (some ⟨w.heap.size + 1, 0, none⟩) 2 2, .slice (some ⟨w.heap.size + 1 + 1, 0, none⟩) 2 2, .slice (some ⟨w.heap.size + 1 + 1 + 1, 0, none⟩) 2 2, .slice (some ⟨w.heap.size + 1 + 1 + 1 + 1, 0, none⟩) 2 2, .slice (some ⟨w.heap.size + 1 + 1 + 1 + 1 + 1, 0, none⟩) 2 2, .slice (some ⟨w.heap.size + 1 + 1 + 1 + 1 + 1 + 1, 0, none⟩) 2 2, .slice (some ⟨w.heap.size + 1 + 1 + 1 + 1 + 1 + 1 + 1, 0, none⟩) 2 2]) (t := 34) (o := 1) rfl (Has.allocx (Has.allocx (o := .cells #[.int .i64 d, .int .i64 (-d)] 3) (Has.allocx (o := .cells #[.int .i64 0, .int .i64 (-r)] 3) (Has.allocx (o := .cells #[.int .i64 (-d), .int .i64 (-d)] 3) (Has.allocx (o := .cells #[.int .i64 (-r), .int .i64 0] 3) (Has.allocx (o := .cells #[.int .i64 (-d), .int .i64 d] 3) (Has.allocx (o := .cells #[.int .i64 0, .int .i64 r] 3) (Has.alloc2 (w := (w.alloc (.cells #[.int .i64 r, .int .i64 0] 3))) (t := 3) (a := .int .i64 d) (b := .int .i64 d) (Has.nil _)))))))))
    simpa [World.size_alloc, wX, wY] using hh
  · have hh := Has.new (cs := #[.slice (some ⟨w.heap.size, 0, none⟩) 2 2, .slice (some ⟨w.heap.size + 1, 0, none⟩) 2 2, .slice (some ⟨w.heap.size + 1 + 1, 0, none⟩) 2 2, .slice (some ⟨w.heap.size + 1 + 1 + 1, 0, none⟩) 2 2, .slice (some ⟨w.heap.size + 1 + 1 + 1 + 1, 0, none⟩) 2 2, .slice (some ⟨w.heap.size + 1 + 1 + 1 + 1 + 1, 0, none⟩) 2 2, .slice (some ⟨w.heap.size + 1 + 1 + 1 + 1 + 1 + 1, 0, none⟩) 2 2, .slice (some ⟨w.heap.size + 1 + 1 + 1 + 1 + 1 + 1 + 1, 0, none⟩) 2 2]) (t := 34) (o := 2) rfl (Has.allocx (Has.allocx (o := .cells #[.int .i64 d, .int .i64 (-d)] 3) (Has.allocx (o := .cells #[.int .i64 0, .int .i64 (-r)] 3) (Has.allocx (o := .cells #[.int .i64 (-d), .int .i64 (-d)] 3) (Has.allocx (o := .cells #[.int .i64 (-r), .int .i64 0] 3) (Has.allocx (o := .cells #[.int .i64 (-d), .int .i64 d] 3) (Has.alloc2 (w := ((w.alloc (.cells #[.int .i64 r, .int .i64 0] 3)).alloc (.cells #[.int .i64 d, .int .i64 d] 3))) (t := 3) (a := .int .i64 0) (b := .int .i64 r) (Has.nil _))))))))
    simpa [World.size_alloc, wX, wY] using hh
  · have hh := Has.new (cs := #[.slice (some ⟨w.heap.size, 0, none⟩) 2 2, .slice (some ⟨w.heap.size + 1, 0, none⟩) 2 2, .slice (some ⟨w.heap.size + 1 + 1, 0, none⟩) 2 2, .slice (some ⟨w.heap.size + 1 + 1 + 1, 0, none⟩) 2 2, .slice (some ⟨w.heap.size + 1 + 1 + 1 + 1, 0, none⟩) 2 2, .slice (some ⟨w.heap.size + 1 + 1 + 1 + 1 + 1, 0, none⟩) 2 2, .slice (some ⟨w.heap.size + 1 + 1 + 1 + 1 + 1 + 1, 0, none⟩) 2 2, .slice (some ⟨w.heap.size + 1 + 1 + 1 + 1 + 1 + 1 + 1, 0, none⟩) 2 2]) (t := 34) (o := 3) rfl (Has.allocx (Has.allocx (o := .cells #[.int .i64 d, .int .i64 (-d)] 3) (Has.allocx (o := .cells #[.int .i64 0, .int .i64 (-r)] 3) (Has.allocx (o := .cells #[.int .i64 (-d), .int .i64 (-d)] 3) (Has.allocx (o := .cells #[.int .i64 (-r), .int .i64 0] 3) (Has.alloc2 (w := (((w.alloc (.cells #[.int .i64 r, .int .i64 0] 3)).alloc (.cells #[.int .i64 d, .int .i64 d] 3)).alloc (.cells #[.int .i64 0, .int .i64 r] 3))) (t := 3) (a := .int .i64 (-d)) (b := .int .i64 d) (Has.nil _)))))))
    simpa [World.size_alloc, wX, wY] using hh
  · have hh := Has.new (cs := #[.slice (some ⟨w.heap.size, 0, none⟩) 2 2, .slice (some ⟨w.heap.size + 1, 0, none⟩) 2 2, .slice (some ⟨w.heap.size + 1 + 1, 0, none⟩) 2 2, .slice (some ⟨w.heap.size + 1 + 1 + 1, 0, none⟩) 2 2, .slice (some ⟨w.heap.size + 1 + 1 + 1 + 1, 0, none⟩) 2 2, .slice (some ⟨w.heap.size + 1 + 1 + 1 + 1 + 1, 0, none⟩) 2 2, .slice (some ⟨w.heap.size + 1 + 1 + 1 + 1 + 1 + 1, 0, none⟩) 2 2, .slice (some ⟨w.heap.size + 1 + 1 + 1 + 1 + 1 + 1 + 1, 0, none⟩) 2 2]) (t := 34) (o := 4) rfl (Has.allocx (Has.allocx (o := .cells #[.int .i64 d, .int .i64 (-d)] 3) (Has.allocx (o := .cells #[.int .i64 0, .int .i64 (-r)] 3) (Has.allocx (o := .cells #[.int .i64 (-d), .int .i64 (-d)] 3) (Has.alloc2 (w := ((((w.alloc (.cells #[.int .i64 r, .int .i64 0] 3)).alloc (.cells #[.int .i64 d, .int .i64 d] 3)).alloc (.cells #[.int .i64 0, .int .i64 r] 3)).alloc (.cells #[.int .i64 (-d), .int .i64 d] 3))) (t := 3) (a := .int .i64 (-r)) (b := .int .i64 0) (Has.nil _))))))
    simpa [World.size_alloc, wX, wY] using hh
  · have hh := Has.new (cs := #[.slice (some ⟨w.heap.size, 0, none⟩) 2 2, .slice (some ⟨w.heap.size + 1, 0, none⟩) 2 2, .slice (some ⟨w.heap.size + 1 + 1, 0, none⟩) 2 2, .slice (some ⟨w.heap.size + 1 + 1 + 1, 0, none⟩) 2 2, .slice (some ⟨w.heap.size + 1 + 1 + 1 + 1, 0, none⟩) 2 2, .slice (some ⟨w.heap.size + 1 + 1 + 1 + 1 + 1, 0, none⟩) 2 2, .slice (some ⟨w.heap.size + 1 + 1 + 1 + 1 + 1 + 1, 0, none⟩) 2 2, .slice (some ⟨w.heap.size + 1 + 1 + 1 + 1 + 1 + 1 + 1, 0, none⟩) 2 2]) (t := 34) (o := 5) rfl (Has.allocx (Has.allocx (o := .cells #[.int .i64 d, .int .i64 (-d)] 3) (Has.allocx (o := .cells #[.int .i64 0, .int .i64 (-r)] 3) (Has.alloc2 (w := (((((w.alloc (.cells #[.int .i64 r, .int .i64 0] 3)).alloc (.cells #[.int .i64 d, .int .i64 d] 3)).alloc (.cells #[.int .i64 0, .int .i64 r] 3)).alloc (.cells #[.int .i64 (-d), .int .i64 d] 3)).alloc (.cells #[.int .i64 (-r), .int .i64 0] 3))) (t := 3) (a := .int .i64 (-d)) (b := .int .i64 (-d)) (Has.nil _)))))
    simpa [World.size_alloc, wX, wY] using hh
  · have hh := Has.new (cs := #[.slice (some ⟨w.heap.size, 0, none⟩) 2 2, .slice (some ⟨w.heap.size + 1, 0, none⟩) 2 2, .slice (some ⟨w.heap.size + 1 + 1, 0, none⟩) 2 2, .slice (some ⟨w.heap.size + 1 + 1 + 1, 0, none⟩) 2 2, .slice (some ⟨w.heap.size + 1 + 1 + 1 + 1, 0, none⟩) 2 2, .slice (some ⟨w.heap.size + 1 + 1 + 1 + 1 + 1, 0, none⟩) 2 2, .slice (some ⟨w.heap.size + 1 + 1 + 1 + 1 + 1 + 1, 0, none⟩) 2 2, .slice (some ⟨w.heap.size + 1 + 1 + 1 + 1 + 1 + 1 + 1, 0, none⟩) 2 2]) (t := 34) (o := 6) rfl (Has.allocx (Has.allocx (o := .cells #[.int .i64 d, .int .i64 (-d)] 3) (Has.alloc2 (w := ((((((w.alloc (.cells #[.int .i64 r, .int .i64 0] 3)).alloc (.cells #[.int .i64 d, .int .i64 d] 3)).alloc (.cells #[.int .i64 0, .int .i64 r] 3)).alloc (.cells #[.int .i64 (-d), .int .i64 d] 3)).alloc (.cells #[.int .i64 (-r), .int .i64 0] 3)).alloc (.cells #[.int .i64 (-d), .int .i64 (-d)] 3))) (t := 3) (a := .int .i64 0) (b := .int .i64 (-r)) (Has.nil _))))
    simpa [World.size_alloc, wX, wY] using hh
  · have hh := Has.new (cs := #[.slice (some ⟨w.heap.size, 0, none⟩) 2 2, .slice (some ⟨w.heap.size + 1, 0, none⟩) 2 2, .slice (some ⟨w.heap.size + 1 + 1, 0, none⟩) 2 2, .slice (some ⟨w.heap.size + 1 + 1 + 1, 0, none⟩) 2 2, .slice (some ⟨w.heap.size + 1 + 1 + 1 + 1, 0, none⟩) 2 2, .slice (some ⟨w.heap.size + 1 + 1 + 1 + 1 + 1, 0, none⟩) 2 2, .slice (some ⟨w.heap.size + 1 + 1 + 1 + 1 + 1 + 1, 0, none⟩) 2 2, .slice (some ⟨w.heap.size + 1 + 1 + 1 + 1 + 1 + 1 + 1, 0, none⟩) 2 2]) (t := 34) (o := 7) rfl (Has.allocx (Has.alloc2 (w := (((((((w.alloc (.cells #[.int .i64 r, .int .i64 0] 3)).alloc (.cells #[.int .i64 d, .int .i64 d] 3)).alloc (.cells #[.int .i64 0, .int .i64 r] 3)).alloc (.cells #[.int .i64 (-d), .int .i64 d] 3)).alloc (.cells #[.int .i64 (-r), .int .i64 0] 3)).alloc (.cells #[.int .i64 (-d), .int .i64 (-d)] 3)).alloc (.cells #[.int .i64 0, .int .i64 (-r)] 3))) (t := 3) (a := .int .i64 d) (b := .int .i64 (-d)) (Has.nil _)))
    simpa [World.size_alloc, wX, wY] using hh

theorem stIf_good (x y : Int) (w : World) (h : goodB x y = true) : Calls Try.prog 128 #[.int .i64 x, .int .i64 y] w fun e w' => e = .returned (.tuple #[.agg #[.int .i64 x, .int .i64 y], .bool true]) ∧ Below w.heap.size w w' := by
  have := stIf_any x y w; simpa [mIf, h] using this

theorem stIf_bad (x y : Int) (w : World) (h : goodB x y = false) : Calls Try.prog 128 #[.int .i64 x, .int .i64 y] w fun e w' => e = .returned (.tuple #[.agg #[.int .i64 0, .int .i64 0], .bool false]) ∧ Below w.heap.size w w' := by
  have := stIf_any x y w; simpa [mIf, h] using this

set_option maxHeartbeats 8000000 in
theorem sCirc_any (m1 m2 r : Int) (l : List (Int × Int)) (ok : Bool) (w : World) (hm : mCirc m1 m2 r = (l, ok)) :
    Calls Try.prog 61 #[.agg #[.int .i64 m1, .int .i64 m2], .int .i64 r] w (RetSpots w l ok) := by
  have HM := Lib.hid hm
  clear hm
  rcases tf (goodB m1 m2) with h1 | h1
  rotate_left
  · obtain ⟨rfl, rfl⟩ : l = [] ∧ ok = false := by have := HM.out.symm.trans (mCirc_bad (by simp [h1])); injection this with a b; exact ⟨a, b⟩
    go_enter Try.func61, Try.ntmps61
    go_wp2_with (first | (go_at_call 127; refine (arGood_any _ _ _ _).mono ?_; rintro e w' ⟨rfl, hb⟩; have hz : w.heap.size + 1 ≤ w'.heap.size := (by have := hb.size; first | omega | (simp at this; omega)); have hB : Below w.heap.size w w' := (by refine Below.trans ?_ (hb.mono (by first | omega | (simp <;> omega))); (first | with_reducible exact Below.refl _ _ | with_reducible assumption | (repeat (with_reducible first | exact Below.refl _ _ | assumption | refine Below.drew ?_ | refine Below.alloc ?_ (by first | omega | (simp <;> omega)) _ | refine Below.setCell ?_ (by first | omega | (simp <;> omega)) _ | refine below_drewN ?_ _)))); have hh := Has.below (by (repeat (with_reducible first | assumption | apply Has.alloc5 | apply Has.alloc2 | apply Has.alloc1 | apply Has.alloc3 | apply Has.drew | apply Has.drewN | apply Has.set_ | apply Has.allocx | exact Has.nil _))) hb; (try simp only [World.size_alloc, World.size_setCell, World.size_drew, World.heap_drewN] at hh); have hq := hh; simp only [Has, upd, World.size_alloc, World.size_setCell, World.size_drew, World.heap_drewN, and_true, true_and, ite_true, ite_false, and_self, Nat.add_right_cancel_iff, Nat.add_eq_left, Nat.left_eq_add, reduceCtorEq, Nat.reduceEqDiff, if_true, if_false] at hq; have hs := hb.size; (try simp only [World.size_alloc, World.size_setCell, World.size_drew, World.heap_drewN] at hs); have hn0 : w.heap.size ≠ w'.heap.size := (by omega); have hm0 : w'.heap.size ≠ w.heap.size := (by omega); clear hb))
    go_ret2
    exact RetSpots.nil w (by (first | with_reducible exact Below.refl _ _ | with_reducible assumption | (repeat (with_reducible first | exact Below.refl _ _ | assumption | refine Below.drew ?_ | refine Below.alloc ?_ (by first | omega | (simp <;> omega)) _ | refine Below.setCell ?_ (by first | omega | (simp <;> omega)) _ | refine below_drewN ?_ _))))
  rcases tf (inB r 1 1400) with h2 | h2
  rotate_left
  · obtain ⟨rfl, rfl⟩ : l = [] ∧ ok = false := by have := HM.out.symm.trans (mCirc_bad (by simp [h2])); injection this with a b; exact ⟨a, b⟩
    go_enter Try.func61, Try.ntmps61
    go_wp2_with (first | (go_at_call 127; refine (arGood_any _ _ _ _).mono ?_; rintro e w' ⟨rfl, hb⟩; have hz : w.heap.size + 1 ≤ w'.heap.size := (by have := hb.size; first | omega | (simp at this; omega)); have hB : Below w.heap.size w w' := (by refine Below.trans ?_ (hb.mono (by first | omega | (simp <;> omega))); (first | with_reducible exact Below.refl _ _ | with_reducible assumption | (repeat (with_reducible first | exact Below.refl _ _ | assumption | refine Below.drew ?_ | refine Below.alloc ?_ (by first | omega | (simp <;> omega)) _ | refine Below.setCell ?_ (by first | omega | (simp <;> omega)) _ | refine below_drewN ?_ _)))); have hh := Has.below (by (repeat (with_reducible first | assumption | apply Has.alloc5 | apply Has.alloc2 | apply Has.alloc1 | apply Has.alloc3 | apply Has.drew | apply Has.drewN | apply Has.set_ | apply Has.allocx | exact Has.nil _))) hb; (try simp only [World.size_alloc, World.size_setCell, World.size_drew, World.heap_drewN] at hh); have hq := hh; simp only [Has, upd, World.size_alloc, World.size_setCell, World.size_drew, World.heap_drewN, and_true, true_and, ite_true, ite_false, and_self, Nat.add_right_cancel_iff, Nat.add_eq_left, Nat.left_eq_add, reduceCtorEq, Nat.reduceEqDiff, if_true, if_false] at hq; have hs := hb.size; (try simp only [World.size_alloc, World.size_setCell, World.size_drew, World.heap_drewN] at hs); have hn0 : w.heap.size ≠ w'.heap.size := (by omega); have hm0 : w'.heap.size ≠ w.heap.size := (by omega); clear hb))
    go_ret2
    exact RetSpots.nil w (by (first | with_reducible exact Below.refl _ _ | with_reducible assumption | (repeat (with_reducible first | exact Below.refl _ _ | assumption | refine Below.drew ?_ | refine Below.alloc ?_ (by first | omega | (simp <;> omega)) _ | refine Below.setCell ?_ (by first | omega | (simp <;> omega)) _ | refine below_drewN ?_ _))))
  obtain ⟨r1, r2⟩ := (inB_iff _ _ _).1 h2
  obtain ⟨p1, p2, p3, p4⟩ := (goodB_iff _ _).1 h1
  obtain ⟨q1, q2⟩ := sqr_le (d := r) (m := 1400) (by omega) (by omega)
  have q3 : 0 ≤ r * r / 2 := by omega
  have q4 : r * r / 2 ≤ 10000000 := by omega
  obtain ⟨d1, d2⟩ := iroot_le q3 q4
  obtain ⟨d, hd⟩ : ∃ d, iroot (r * r / 2) = d := ⟨_, rfl⟩
  rw [hd] at d1 d2
  have HD := Lib.hid hd
  clear hd
  have HB := Lib.hid (show (goodB m1 m2 && inB r 1 1400) = true by simp [h1, h2])
  obtain ⟨i0, hi0, hz0, hz1, hz2⟩ := info_parts infoSpot
  have HI := Lib.hid hi0
  have HZ0 := Lib.hid hz0
  have HZ1 := Lib.hid hz1
  have HZ2 := Lib.hid hz2
  clear hi0 hz0 hz1 hz2
  go_enter Try.func61, Try.ntmps61
  go_wp2_with (first | (go_at_call 127; refine (arGood_any _ _ _ _).mono ?_; rintro e w' ⟨rfl, hb⟩; have hz : w.heap.size + 1 ≤ w'.heap.size := (by have := hb.size; first | omega | (simp at this; omega)); have hB : Below w.heap.size w w' := (by refine Below.trans ?_ (hb.mono (by first | omega | (simp <;> omega))); (first | with_reducible exact Below.refl _ _ | with_reducible assumption | (repeat (with_reducible first | exact Below.refl _ _ | assumption | refine Below.drew ?_ | refine Below.alloc ?_ (by first | omega | (simp <;> omega)) _ | refine Below.setCell ?_ (by first | omega | (simp <;> omega)) _ | refine below_drewN ?_ _)))); have hh := Has.below (by (repeat (with_reducible first | assumption | apply Has.alloc5 | apply Has.alloc2 | apply Has.alloc1 | apply Has.alloc3 | apply Has.drew | apply Has.drewN | apply Has.set_ | apply Has.allocx | exact Has.nil _))) hb; (try simp only [World.size_alloc, World.size_setCell, World.size_drew, World.heap_drewN] at hh); have hq := hh; simp only [Has, upd, World.size_alloc, World.size_setCell, World.size_drew, World.heap_drewN, and_true, true_and, ite_true, ite_false, and_self, Nat.add_right_cancel_iff, Nat.add_eq_left, Nat.left_eq_add, reduceCtorEq, Nat.reduceEqDiff, if_true, if_false] at hq; have hs := hb.size; (try simp only [World.size_alloc, World.size_setCell, World.size_drew, World.heap_drewN] at hs); have hn0 : w.heap.size ≠ w'.heap.size := (by omega); have hm0 : w'.heap.size ≠ w.heap.size := (by omega); clear hb) | (go_at_call 123; refine (arRoot_eq _ _ _ q3 q4 HD.out).mono ?_; rintro e w' ⟨rfl, rfl⟩))
  obtain ⟨w0, rfl⟩ : ∃ w0, w0 = w' := ⟨_, rfl⟩
  have hz0 : w.heap.size + 1 ≤ w0.heap.size := by omega
  go_loopw [7, 49] (fun s1 s2 wr => ∃ (j : Nat) (q : List (Int × Int)), j ≤ 8 ∧ q.length = j ∧ s2 = .int .i64 j ∧ Hid (cirTo m1 m2 r d j = some q) ∧ SRow wr (w0.heap.size + 1 + 1 + 1 + 1 + 1 + 1 + 1 + 1 + 1) s1 q ∧ Tab2 wr w0.heap.size (w0.heap.size + 1 + 1 + 1 + 1 + 1 + 1 + 1 + 1) r d ∧ w0.heap.size + 1 + 1 + 1 + 1 + 1 + 1 + 1 + 1 + 1 ≤ wr.heap.size ∧ Below w.heap.size w wr ∧ Has wr [(w.heap.size, 0, .int .i64 m1), (w.heap.size, 1, .int .i64 m2)]) (fun _ v _ => 8 - (intOf v).toNat)
  case atStart => exact ⟨0, [], by omega, rfl, rfl, Lib.hid rfl, SRow.nil _ _, Tab2.mk _ _ _, (by first | omega | (simp <;> omega)), (by (first | with_reducible exact Below.refl _ _ | with_reducible assumption | (repeat (with_reducible first | exact Below.refl _ _ | assumption | refine Below.drew ?_ | refine Below.alloc ?_ (by first | omega | (simp <;> omega)) _ | refine Below.setCell ?_ (by first | omega | (simp <;> omega)) _ | refine below_drewN ?_ _)))), (by apply Has.weak; (focus (repeat (with_reducible first | assumption | apply Has.alloc5 | apply Has.alloc2 | apply Has.alloc1 | apply Has.alloc3 | apply Has.drew | apply Has.drewN | apply Has.set_ | apply Has.allocx | exact Has.nil _))); simp [upd, *])⟩
  case round =>
    obtain ⟨j, q, hj, hql, rfl, HA, hS, hT, hz1, hB, hh⟩ := hrel
    have hwr := hB.size
    have HQ := Lib.hid hql
    clear hql
    by_cases hlt : j < 8
    · obtain ⟨x, hx⟩ : ∃ x, wX r d j = x := ⟨_, rfl⟩
      obtain ⟨y, hy⟩ : ∃ y, wY r d j = y := ⟨_, rfl⟩
      obtain ⟨B, hBB⟩ : ∃ B, w0.heap.size + j = B := ⟨_, rfl⟩
      have bx := wX_bd r1 r2 d1 d2 j
      have byy := wY_bd r1 r2 d1 d2 j
      have hk := hT j hlt
      rw [hx, hy, hBB] at hk
      rw [hx] at bx
      rw [hy] at byy
      have HX := Lib.hid hx
      have HY := Lib.hid hy
      clear hx hy
      obtain ⟨x1, x2⟩ := bx
      obtain ⟨y1, y2⟩ := byy
      have hh := Has.app hh hk
      simp only [List.cons_append, List.nil_append] at hh
      clear hk
      have hq := hh
      simp only [Has, and_true] at hq
      have j1 : (j : Int) < 8 := by omega
      have v9 : w.heap.size < wr.heap.size := by omega
      have v0 : B < wr.heap.size := by omega
      have v1 : w.heap.size ≠ wr.heap.size := by omega
      have v2 : wr.heap.size ≠ w.heap.size := by omega
      have v3 : B ≠ wr.heap.size := by omega
      have v4 : wr.heap.size ≠ B := by omega
      have u1 : IntKind.i64.wrap (m1 + x) = m1 + x := IntWalk.i64_in _ (by omega)
      have u2 : IntKind.i64.wrap (m2 + y) = m2 + y := IntWalk.i64_in _ (by omega)
      clear hBB
      rcases tf (goodB (m1 + x) (m2 + y)) with h4 | h4
      · go_upto_region 8 with fail
        go_cut [10, 11] (fun s3 s4 wx => ∃ g : Nat, s3 = .pointer (some ⟨g, 0, none⟩) ∧ s4 = .bool true ∧ wr.heap.size ≤ g ∧ g + 1 ≤ wx.heap.size ∧ Below w.heap.size w wx ∧ Below wr.heap.size wr wx ∧ Has wx [(w.heap.size, 0, .int .i64 m1), (w.heap.size, 1, .int .i64 m2), (g, 0, .int .i64 (m1 + x)), (g, 1, .int .i64 (m2 + y))])
        case first =>
          go_region_held3 (fun w' => w'.cell? ⟨w.heap.size, 0, none⟩ = some (.int .i64 m1) ∧ w'.cell? ⟨w.heap.size, 1, none⟩ = some (.int .i64 m2) ∧ w'.cell? ⟨B, 0, none⟩ = some (.int .i64 x) ∧ w'.cell? ⟨B, 1, none⟩ = some (.int .i64 y)) (first | (go_keep; done) | ((repeat' apply And.intro) <;> (apply Has.get; (focus (repeat (with_reducible first | assumption | apply Has.alloc5 | apply Has.alloc2 | apply Has.alloc1 | apply Has.alloc3 | apply Has.drew | apply Has.drewN | apply Has.set_ | apply Has.allocx | exact Has.nil _))); simp [upd, *]))) (first | (go_at_call 128; refine (stIf_good _ _ _ h4).mono ?_; rintro e w' ⟨rfl, hb⟩; have hz : w.heap.size + 1 ≤ w'.heap.size := (by have := hb.size; first | omega | (simp at this; omega)); have hB : Below w.heap.size w w' := (by refine Below.trans ?_ (hb.mono (by first | omega | (simp <;> omega))); (first | with_reducible exact Below.refl _ _ | with_reducible assumption | (repeat (with_reducible first | exact Below.refl _ _ | assumption | refine Below.drew ?_ | refine Below.alloc ?_ (by first | omega | (simp <;> omega)) _ | refine Below.setCell ?_ (by first | omega | (simp <;> omega)) _ | refine below_drewN ?_ _)))); have hh := Has.below (by (repeat (with_reducible first | assumption | apply Has.alloc5 | apply Has.alloc2 | apply Has.alloc1 | apply Has.alloc3 | apply Has.drew | apply Has.drewN | apply Has.set_ | apply Has.allocx | exact Has.nil _))) hb; (try simp only [World.size_alloc, World.size_setCell, World.size_drew, World.heap_drewN] at hh); have hq := hh; simp only [Has, upd, World.size_alloc, World.size_setCell, World.size_drew, World.heap_drewN, and_true, true_and, ite_true, ite_false, and_self, Nat.add_right_cancel_iff, Nat.add_eq_left, Nat.left_eq_add, reduceCtorEq, Nat.reduceEqDiff, if_true, if_false] at hq; have hs := hb.size; (try simp only [World.size_alloc, World.size_setCell, World.size_drew, World.heap_drewN] at hs); have hn0 : w.heap.size ≠ w'.heap.size := (by omega); have hm0 : w'.heap.size ≠ w.heap.size := (by omega); have hR : Below wr.heap.size wr w' := (Below.trans (by (first | with_reducible exact Below.refl _ _ | with_reducible assumption | (repeat (with_reducible first | exact Below.refl _ _ | assumption | refine Below.drew ?_ | refine Below.alloc ?_ (by first | omega | (simp <;> omega)) _ | refine Below.setCell ?_ (by first | omega | (simp <;> omega)) _ | refine below_drewN ?_ _)))) (hb.mono (by first | omega | (simp <;> omega)))); clear hb))
          all_goals (go_wp2_with fail; go_meet; exact ⟨_, rfl, rfl, (by first | omega | (simp <;> omega)), (by first | omega | (simp <;> omega)), (by (first | with_reducible exact Below.refl _ _ | with_reducible assumption | (repeat (with_reducible first | exact Below.refl _ _ | assumption | refine Below.drew ?_ | refine Below.alloc ?_ (by first | omega | (simp <;> omega)) _ | refine Below.setCell ?_ (by first | omega | (simp <;> omega)) _ | refine below_drewN ?_ _)))), (by (first | with_reducible exact Below.refl _ _ | with_reducible assumption | (repeat (with_reducible first | exact Below.refl _ _ | assumption | refine Below.drew ?_ | refine Below.alloc ?_ (by first | omega | (simp <;> omega)) _ | refine Below.setCell ?_ (by first | omega | (simp <;> omega)) _ | refine below_drewN ?_ _)))), (by apply Has.weak; (focus (repeat (with_reducible first | assumption | apply Has.alloc5 | apply Has.alloc2 | apply Has.alloc1 | apply Has.alloc3 | apply Has.drew | apply Has.drewN | apply Has.set_ | apply Has.allocx | exact Has.nil _))); simp [upd, *])⟩)
        case rest =>
          obtain ⟨g, rfl, rfl, hg, hg2, hB, hR, hh⟩ := hcut
          have hS2 := SRow.below hS hR (Nat.le_refl _)
          have hT2 := Tab2.below hT hR (Nat.le_refl _)
          have hq := hh
          simp only [Has, and_true] at hq
          have n1' : w.heap.size ≠ g := by omega
          have n2' : g ≠ w.heap.size := by omega
          have hz2 : w0.heap.size + 1 + 1 + 1 + 1 + 1 + 1 + 1 + 1 + 1 ≤ wc.heap.size := by omega
          clear u1 u2
          go_wp2_with (first
            | (at_builtin
               refine wpList_append_own_at _ rfl _ _ 26 rfl (w0.heap.size + 1 + 1 + 1 + 1 + 1 + 1 + 1 + 1 + 1) 25 i0 (.agg #[.int .i64 0, .int .i64 0]) 2 16 Try.underlying26 HI.out HZ0.out HZ1.out HZ2.out rfl (by decide) _ _ _ rfl (hS2.2.alloc _) ⟨wc.heap.size, 0, none⟩ 1 1 [.int .i64 (m1 + x), .int .i64 (m2 + y)] rfl rfl (two_new _ _ _ _) (two_cells _ _) ?c3 ?c4 ?c5 ?_
               case c3 => have := HQ.out; simp only [maxLen]; omega
               case c4 => have := HQ.out; omega
               case c5 => simp; omega
               intro v' w2 hown' hgrow _ hat
               have hI3 := SRow.snoc (p := (m1 + x, m2 + y)) (by have := HQ.out; omega) hown'
               have hlow := World.ownsRow.lt hS2.2
               have hB2 : Below w.heap.size w w2 := Below.grown (Below.alloc hB (by first | omega | (simp <;> omega)) _) hgrow (by first | omega | (simp <;> omega)) (fun r hr => by have := (hlow r hr).1; omega)
               have hhb : Has wc [(w.heap.size, 0, .int .i64 m1), (w.heap.size, 1, .int .i64 m2)] := Has.weak hh (by (try simp only [upd]); simp)
               have hh2 : Has w2 [(w.heap.size, 0, .int .i64 m1), (w.heap.size, 1, .int .i64 m2)] := Has.grown (Has.allocx hhb) hgrow (fun e he hr => by
                 have := (hlow _ hr.symm).1
                 simp at he
                 rcases he with rfl | rfl <;> (have h9 : w0.heap.size + 1 + 1 + 1 + 1 + 1 + 1 + 1 + 1 + 1 ≤ w.heap.size := this; omega))
               have hT2 := (Tab2.below hT2 ((Below.refl _ _).alloc (Nat.le_refl _) _) (Nat.le_refl _)).grown hgrow (fun k hk => by have := (hlow k hk.symm).1; omega)
               have hz3 : w0.heap.size + 1 + 1 + 1 + 1 + 1 + 1 + 1 + 1 + 1 ≤ w2.heap.size := by have := hgrow.size; simp at this; omega
               have HA2 : Hid (cirTo m1 m2 r d (j + 1) = some (q ++ [(m1 + x, m2 + y)])) := by show _ = _; exact cirTo_yes HA.out HX.out HY.out h4
               skip
               clear hown' hgrow hlow hB hq hh hS hhb hR hS2 hat))
          go_roundw
          case rel => exact ⟨j + 1, q ++ [(m1 + x, m2 + y)], by omega, by have := HQ.out; simp; omega, by go_num, HA2, hI3, hT2, hz3, hB2, hh2⟩
          case measure => simp [intOf]; omega
      · obtain ⟨rfl, rfl⟩ : l = [] ∧ ok = false := by have := HM.out.symm.trans (mCirc_stop HD.out HX.out HY.out h4 hlt); injection this with a b; exact ⟨a, b⟩
        go_upto_region 8 with fail
        go_cut [10, 11] (fun s3 s4 wx => ∃ g : Nat, s3 = .pointer (some ⟨g, 0, none⟩) ∧ s4 = .bool false ∧ wr.heap.size ≤ g ∧ g + 1 ≤ wx.heap.size ∧ Below w.heap.size w wx ∧ Below wr.heap.size wr wx ∧ Has wx [(w.heap.size, 0, .int .i64 m1), (w.heap.size, 1, .int .i64 m2), (g, 0, .int .i64 (0)), (g, 1, .int .i64 (0))])
        case first =>
          go_region_held3 (fun w' => w'.cell? ⟨w.heap.size, 0, none⟩ = some (.int .i64 m1) ∧ w'.cell? ⟨w.heap.size, 1, none⟩ = some (.int .i64 m2) ∧ w'.cell? ⟨B, 0, none⟩ = some (.int .i64 x) ∧ w'.cell? ⟨B, 1, none⟩ = some (.int .i64 y)) (first | (go_keep; done) | ((repeat' apply And.intro) <;> (apply Has.get; (focus (repeat (with_reducible first | assumption | apply Has.alloc5 | apply Has.alloc2 | apply Has.alloc1 | apply Has.alloc3 | apply Has.drew | apply Has.drewN | apply Has.set_ | apply Has.allocx | exact Has.nil _))); simp [upd, *]))) (first | (go_at_call 128; refine (stIf_bad _ _ _ h4).mono ?_; rintro e w' ⟨rfl, hb⟩; have hz : w.heap.size + 1 ≤ w'.heap.size := (by have := hb.size; first | omega | (simp at this; omega)); have hB : Below w.heap.size w w' := (by refine Below.trans ?_ (hb.mono (by first | omega | (simp <;> omega))); (first | with_reducible exact Below.refl _ _ | with_reducible assumption | (repeat (with_reducible first | exact Below.refl _ _ | assumption | refine Below.drew ?_ | refine Below.alloc ?_ (by first | omega | (simp <;> omega)) _ | refine Below.setCell ?_ (by first | omega | (simp <;> omega)) _ | refine below_drewN ?_ _)))); have hh := Has.below (by (repeat (with_reducible first | assumption | apply Has.alloc5 | apply Has.alloc2 | apply Has.alloc1 | apply Has.alloc3 | apply Has.drew | apply Has.drewN | apply Has.set_ | apply Has.allocx | exact Has.nil _))) hb; (try simp only [World.size_alloc, World.size_setCell, World.size_drew, World.heap_drewN] at hh); have hq := hh; simp only [Has, upd, World.size_alloc, World.size_setCell, World.size_drew, World.heap_drewN, and_true, true_and, ite_true, ite_false, and_self, Nat.add_right_cancel_iff, Nat.add_eq_left, Nat.left_eq_add, reduceCtorEq, Nat.reduceEqDiff, if_true, if_false] at hq; have hs := hb.size; (try simp only [World.size_alloc, World.size_setCell, World.size_drew, World.heap_drewN] at hs); have hn0 : w.heap.size ≠ w'.heap.size := (by omega); have hm0 : w'.heap.size ≠ w.heap.size := (by omega); have hR : Below wr.heap.size wr w' := (Below.trans (by (first | with_reducible exact Below.refl _ _ | with_reducible assumption | (repeat (with_reducible first | exact Below.refl _ _ | assumption | refine Below.drew ?_ | refine Below.alloc ?_ (by first | omega | (simp <;> omega)) _ | refine Below.setCell ?_ (by first | omega | (simp <;> omega)) _ | refine below_drewN ?_ _)))) (hb.mono (by first | omega | (simp <;> omega)))); clear hb))
          all_goals (go_wp2_with fail; go_meet; exact ⟨_, rfl, rfl, (by first | omega | (simp <;> omega)), (by first | omega | (simp <;> omega)), (by (first | with_reducible exact Below.refl _ _ | with_reducible assumption | (repeat (with_reducible first | exact Below.refl _ _ | assumption | refine Below.drew ?_ | refine Below.alloc ?_ (by first | omega | (simp <;> omega)) _ | refine Below.setCell ?_ (by first | omega | (simp <;> omega)) _ | refine below_drewN ?_ _)))), (by (first | with_reducible exact Below.refl _ _ | with_reducible assumption | (repeat (with_reducible first | exact Below.refl _ _ | assumption | refine Below.drew ?_ | refine Below.alloc ?_ (by first | omega | (simp <;> omega)) _ | refine Below.setCell ?_ (by first | omega | (simp <;> omega)) _ | refine below_drewN ?_ _)))), (by apply Has.weak; (focus (repeat (with_reducible first | assumption | apply Has.alloc5 | apply Has.alloc2 | apply Has.alloc1 | apply Has.alloc3 | apply Has.drew | apply Has.drewN | apply Has.set_ | apply Has.allocx | exact Has.nil _))); simp [upd, *])⟩)
        case rest =>
          obtain ⟨g, rfl, rfl, hg, hg2, hB, hR, hh⟩ := hcut
          have hS2 := SRow.below hS hR (Nat.le_refl _)
          have hT2 := Tab2.below hT hR (Nat.le_refl _)
          have hq := hh
          simp only [Has, and_true] at hq
          have n1' : w.heap.size ≠ g := by omega
          have n2' : g ≠ w.heap.size := by omega
          have hz2 : w0.heap.size + 1 + 1 + 1 + 1 + 1 + 1 + 1 + 1 + 1 ≤ wc.heap.size := by omega
          clear u1 u2
          go_wp2_with fail
          go_ret2
          exact RetSpots.nil w hB
    · obtain rfl : j = 8 := by omega
      obtain ⟨rfl, rfl⟩ : l = q ∧ ok = true := by
        have := HM.out.symm.trans (mCirc_all HB.out HD.out HA.out); injection this with a b; exact ⟨a, b⟩
      go_wp2
      go_ret2
      exact hS.ret (by omega) hB

end Go.Proofs.Ytkadnmebijfacaa

