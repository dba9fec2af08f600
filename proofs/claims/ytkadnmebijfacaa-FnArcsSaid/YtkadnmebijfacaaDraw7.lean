/- The draw of three spots of a circle. -/
import Derived.Maps.AppendAt
import Derived.Deep.AppendLies
import Derived.Deep.DeepCutAuto
import Derived.Test.YtkadnmebijfacaaDraw6
namespace Go.Proofs.Ytkadnmebijfacaa
open Go.RowKit
set_option linter.unusedVariables false
set_option linter.unusedSimpArgs false
set_option maxRecDepth 100000

theorem Has.alloc6 {w : World} {m : List (Nat × Nat × Value)} {t : TypeId} {a b c d e f : Value} (h : Has w m) : Has (w.alloc (.cells #[a, b, c, d, e, f] t)) ((w.heap.size, 0, a) :: (w.heap.size, 1, b) :: (w.heap.size, 2, c) :: (w.heap.size, 3, d) :: (w.heap.size, 4, e) :: (w.heap.size, 5, f) :: m) := Has.new rfl (Has.new rfl (Has.new rfl (Has.new rfl (Has.new rfl (Has.new rfl h.allocx)))))
/-- a table of six pairs of ints, as slices -/
def Tab3 (w : World) (lo T : Nat) : Prop := ∀ k, k < 6 → ∃ (g : Nat) (u v : Int), lo ≤ g ∧ g < T ∧ Has w [(T, k, .slice (some ⟨g, 0, none⟩) 2 2), (g, 0, .int .i64 u), (g, 1, .int .i64 v)]
theorem Tab3.grow {w w' : World} {lo T b : Nat} (h : Tab3 w lo T) (hg : Grow w b w') (h1 : b < lo) : Tab3 w' lo T := fun k hk => by
  obtain ⟨g, u, v, g1, g2, hh⟩ := h k hk
  exact ⟨g, u, v, g1, g2, hh.grow hg (by simp; omega)⟩
theorem Tab3.grown {w w' : World} {lo T : Nat} {row : Option Nat} (h : Tab3 w lo T) (hg : w.grownBy w' row) (h1 : ∀ r, row = some r → T < r) : Tab3 w' lo T := fun k hk => by
  obtain ⟨g, u, v, g1, g2, hh⟩ := h k hk
  exact ⟨g, u, v, g1, g2, hh.grown hg (by
    intro e he hr
    have h9 := h1 _ hr.symm
    simp at he
    rcases he with rfl | rfl | rfl <;> (simp at h9; try omega))⟩
set_option maxHeartbeats 2000000 in
theorem Tab3.mk (W : World) (a0 b0 a1 b1 a2 b2 a3 b3 a4 b4 a5 b5 : Int) : Tab3 (((((((W.alloc (.cells #[.int .i64 a0, .int .i64 b0] 3)).alloc (.cells #[.int .i64 a1, .int .i64 b1] 3)).alloc (.cells #[.int .i64 a2, .int .i64 b2] 3)).alloc (.cells #[.int .i64 a3, .int .i64 b3] 3)).alloc (.cells #[.int .i64 a4, .int .i64 b4] 3)).alloc (.cells #[.int .i64 a5, .int .i64 b5] 3)).alloc (.cells #[.slice (some ⟨W.heap.size, 0, none⟩) 2 2, .slice (some ⟨W.heap.size + 1, 0, none⟩) 2 2, .slice (some ⟨W.heap.size + 1 + 1, 0, none⟩) 2 2, .slice (some ⟨W.heap.size + 1 + 1 + 1, 0, none⟩) 2 2, .slice (some ⟨W.heap.size + 1 + 1 + 1 + 1, 0, none⟩) 2 2, .slice (some ⟨W.heap.size + 1 + 1 + 1 + 1 + 1, 0, none⟩) 2 2] 34)) W.heap.size (W.heap.size + 1 + 1 + 1 + 1 + 1 + 1) := by
  have hall := Has.alloc6 (t := 34) (a := .slice (some ⟨W.heap.size, 0, none⟩) 2 2) (b := .slice (some ⟨W.heap.size + 1, 0, none⟩) 2 2) (c := .slice (some ⟨W.heap.size + 1 + 1, 0, none⟩) 2 2) (d := .slice (some ⟨W.heap.size + 1 + 1 + 1, 0, none⟩) 2 2) (e := .slice (some ⟨W.heap.size + 1 + 1 + 1 + 1, 0, none⟩) 2 2) (f := .slice (some ⟨W.heap.size + 1 + 1 + 1 + 1 + 1, 0, none⟩) 2 2) (Has.alloc2 (t := 3) (a := .int .i64 a5) (b := .int .i64 b5) (Has.alloc2 (t := 3) (a := .int .i64 a4) (b := .int .i64 b4) (Has.alloc2 (t := 3) (a := .int .i64 a3) (b := .int .i64 b3) (Has.alloc2 (t := 3) (a := .int .i64 a2) (b := .int .i64 b2) (Has.alloc2 (t := 3) (a := .int .i64 a1) (b := .int .i64 b1) (Has.alloc2 (t := 3) (a := .int .i64 a0) (b := .int .i64 b0) (Has.nil W)))))))
  simp only [World.size_alloc] at hall
  intro k hk
  have hc : k = 0 ∨ k = 1 ∨ k = 2 ∨ k = 3 ∨ k = 4 ∨ k = 5 := by omega
  rcases hc with rfl | rfl | rfl | rfl | rfl | rfl
  · exact ⟨W.heap.size, a0, b0, by omega, by omega, Has.weak hall (by simp)⟩
  · exact ⟨W.heap.size + 1, a1, b1, by omega, by omega, Has.weak hall (by simp)⟩
  · exact ⟨W.heap.size + 1 + 1, a2, b2, by omega, by omega, Has.weak hall (by simp)⟩
  · exact ⟨W.heap.size + 1 + 1 + 1, a3, b3, by omega, by omega, Has.weak hall (by simp)⟩
  · exact ⟨W.heap.size + 1 + 1 + 1 + 1, a4, b4, by omega, by omega, Has.weak hall (by simp)⟩
  · exact ⟨W.heap.size + 1 + 1 + 1 + 1 + 1, a5, b5, by omega, by omega, Has.weak hall (by simp)⟩
theorem three_cells {w : World} {g : Nat} {q : List (Int × Int)} (h : RowTo w g 3 3 q) : ∃ x0 y0 x1 y1 x2 y2 : Int, Has w [(g, 0, .int .i64 x0), (g, 1, .int .i64 y0), (g, 2, .int .i64 x1), (g, 3, .int .i64 y1), (g, 4, .int .i64 x2), (g, 5, .int .i64 y2)] := by
  have hl := h.2.1
  have a := h.2.2.2 0 (by omega) (by omega)
  have b := h.2.2.2 1 (by omega) (by omega)
  have c := h.2.2.2 2 (by omega) (by omega)
  exact ⟨_, _, _, _, _, _, ⟨a.1, (h.2.2.1 0 (by omega)).2⟩, ⟨a.2, (h.2.2.1 1 (by omega)).2⟩, ⟨b.1, (h.2.2.1 2 (by omega)).2⟩, ⟨b.2, (h.2.2.1 3 (by omega)).2⟩, ⟨c.1, (h.2.2.1 4 (by omega)).2⟩, ⟨c.2, (h.2.2.1 5 (by omega)).2⟩, trivial⟩

set_option maxHeartbeats 8000000 in
theorem drawMiddleOfCircle_any (A : Option Addr) (n c : Nat) (l : List Int) (w : World) (hB : Bytes w w.heap.size A n c l) (hf : BytesFit l) (hn : n ≤ 9223372036854775807) :
    Calls Try.prog 50 #[.slice A n c] w (RetDSSS w) := by
  have HB := Lib.hid hB
  have HF := Lib.hid hf
  clear hB hf
  obtain ⟨i0, hi0, hz0, hz1, hz2⟩ := info_parts infoSpot
  have HI := Lib.hid hi0
  have HZ0 := Lib.hid hz0
  have HZ1 := Lib.hid hz1
  have HZ2 := Lib.hid hz2
  clear hi0 hz0 hz1 hz2
  go_enter Try.func50, Try.ntmps50
  go_wp2_with fail
  have hC := Cur.begin (W := (((w.alloc (.cells #[.int .i64 0, .int .i64 0] 25)).alloc (.cells #[.int .i64 0, .int .i64 0] 25)).alloc (.cells #[.int .i64 0, .int .i64 0] 25))) 104 HB.out HF.out hn (by (first | with_reducible exact Below.refl _ _ | with_reducible assumption | (repeat (with_reducible first | exact Below.refl _ _ | assumption | refine Below.drew ?_ | refine Below.alloc ?_ (by first | omega | (simp <;> omega)) _ | refine Below.setCell ?_ (by first | omega | (simp <;> omega)) _ | refine below_drewN ?_ _))))
  (try simp only [World.size_alloc] at hC)
  have hG := Grow.refl w (w.heap.size + 1 + 1 + 1)
  have hh := Has.allocx (o := .cells #[.slice A n c, .int .i64 0, .int .u64 0] 104) (Has.alloc2 (t := 25) (a := .int .i64 0) (b := .int .i64 0) (Has.alloc2 (t := 25) (a := .int .i64 0) (b := .int .i64 0) (Has.alloc2 (t := 25) (a := .int .i64 0) (b := .int .i64 0) (Has.nil w))))
  (try simp only [World.size_alloc] at hh)
  (go_at_call 129; refine (inner_any _ _ _ (by (repeat (first | (with_reducible assumption) | (with_reducible apply Cur.drew) | (with_reducible apply Cur.drewN) | (with_reducible apply Cur.alloc) | ((with_reducible apply Cur.set); rotate_left; (first | omega | (simp <;> omega)))))) (by omega)).mono ?_; rintro e w' ⟨x, y, rfl, hg, hCn⟩; have hGn := Grow.trans (show Grow w _ _ from (by (repeat (with_reducible first | exact Grow.refl _ _ | assumption | refine Grow.drew ?_ | refine Grow.drewN ?_ | refine Grow.alloc ?_ _ | refine Grow.set ?_ (Or.inl rfl) | refine Grow.set ?_ (Or.inr (by first | omega | (simp <;> omega))))))) hg; clear hG hC; have hG := hGn; have hC := hCn; clear hGn hCn; have hz : w.heap.size ≤ w'.heap.size := hG.size; have hs := hg.size; (try simp only [World.size_alloc, World.size_setCell, World.size_drew, World.heap_drewN] at hs); have hh := Has.grow (by (repeat (with_reducible first | assumption | apply Has.alloc5 | apply Has.alloc2 | apply Has.alloc1 | apply Has.alloc3 | apply Has.drew | apply Has.drewN | apply Has.set_ | apply Has.allocx | exact Has.nil _))) hg (by simp <;> omega); have hq := hh; simp only [Has, upd, World.size_alloc, World.size_setCell, World.size_drew, World.heap_drewN, and_true, true_and, ite_true, ite_false, and_self, Nat.add_right_cancel_iff, Nat.add_eq_left, Nat.left_eq_add, reduceCtorEq, Nat.reduceEqDiff, if_true, if_false] at hq; clear hg)
  (obtain ⟨wm, rfl⟩ : ∃ z : World, z = w' := ⟨_, rfl⟩); have hlwm := hC.lt; have newm0 : w.heap.size ≠ wm.heap.size := (by omega); have enwm0 : wm.heap.size ≠ w.heap.size := (by omega); have newm1 : w.heap.size + 1 ≠ wm.heap.size := (by omega); have enwm1 : wm.heap.size ≠ w.heap.size + 1 := (by omega); have newm2 : w.heap.size + 1 + 1 ≠ wm.heap.size := (by omega); have enwm2 : wm.heap.size ≠ w.heap.size + 1 + 1 := (by omega)
  go_wp2_with fail
  go_loopw [8, 9] (fun s8 s9 wr => ∃ (A : Option Addr) (m k : Nat) (q : List (Int × Int)), s8 = .slice A m k ∧ m ≤ 3 ∧ Hid (q.length = m) ∧ wr.ownsRow (wm.heap.size + 1 + 1 + 1 + 1 + 1 + 1 + 1 + 1) 25 2 (.slice A m k) m (flat2 q) ∧ Tab3 wr (wm.heap.size + 1) (wm.heap.size + 1 + 1 + 1 + 1 + 1 + 1 + 1) ∧ (wm.heap.size + 1 + 1 + 1 + 1 + 1 + 1 + 1 + 1) ≤ wr.heap.size ∧ Grow w (w.heap.size + 1 + 1 + 1) wr ∧ Cur wr (w.heap.size + 1 + 1 + 1) (30 + 2 * m) ∧ Has wr [(wm.heap.size, 0, .int .i64 x), (wm.heap.size, 1, .int .i64 y), (w.heap.size + 1 + 1, 0, .int .i64 0), (w.heap.size + 1 + 1, 1, .int .i64 0), (w.heap.size + 1, 0, .int .i64 0), (w.heap.size + 1, 1, .int .i64 0), (w.heap.size, 0, .int .i64 0), (w.heap.size, 1, .int .i64 0)]) (fun v _ _ => match v with | .slice _ m _ => 3 - m | _ => 0)
  case atStart => exact ⟨none, 0, 0, [], rfl, by omega, Lib.hid rfl, World.ownsRow_nil _ _ _ _, (by simpa only [World.size_alloc] using Tab3.mk (wm.alloc (.cells #[.int .i64 x, .int .i64 y] 25)) 30 40 (-30) 40 50 0 0 (-50) 40 (-30) (-14) 48), by simp, (by (repeat (with_reducible first | exact Grow.refl _ _ | assumption | refine Grow.drew ?_ | refine Grow.drewN ?_ | refine Grow.alloc ?_ _ | refine Grow.set ?_ (Or.inl rfl) | refine Grow.set ?_ (Or.inr (by first | omega | (simp <;> omega)))))), Cur.more (by (repeat (first | (with_reducible assumption) | (with_reducible apply Cur.drew) | (with_reducible apply Cur.drewN) | (with_reducible apply Cur.alloc) | ((with_reducible apply Cur.set); rotate_left; (first | omega | (simp <;> omega)))))) (by omega), (by apply Has.weak; (focus (repeat (with_reducible first | assumption | apply Has.alloc5 | apply Has.alloc2 | apply Has.alloc1 | apply Has.alloc3 | apply Has.drew | apply Has.drewN | apply Has.set_ | apply Has.allocx | exact Has.nil _))); simp [upd, *])⟩
  case round =>
    clear hG hC hh hq hs hz
    obtain ⟨A, m, k, q, rfl, hm3, HQ, hO, hT, hz, hG, hC, hh⟩ := hrel
    by_cases hlt : m < 3
    · have m3 : (m : Int) < 3 := by omega
      go_wp2_with fail
      (go_at_call 102; refine (pick_any _ _ _ _ (by (repeat (first | (with_reducible assumption) | (with_reducible apply Cur.drew) | (with_reducible apply Cur.drewN) | (with_reducible apply Cur.alloc) | ((with_reducible apply Cur.set); rotate_left; (first | omega | (simp <;> omega)))))) (by omega)).mono ?_; rintro e w' ⟨p, ⟨kA, kB⟩, rfl, hg, hCn⟩; have hGn := Grow.trans (show Grow w _ _ from (by (repeat (with_reducible first | exact Grow.refl _ _ | assumption | refine Grow.drew ?_ | refine Grow.drewN ?_ | refine Grow.alloc ?_ _ | refine Grow.set ?_ (Or.inl rfl) | refine Grow.set ?_ (Or.inr (by first | omega | (simp <;> omega))))))) hg; clear hG hC; have hG := hGn; have hC := hCn; clear hGn hCn; have hz : w.heap.size ≤ w'.heap.size := hG.size; have hs := hg.size; (try simp only [World.size_alloc, World.size_setCell, World.size_drew, World.heap_drewN] at hs); have hh := Has.grow (by (repeat (with_reducible first | assumption | apply Has.alloc5 | apply Has.alloc2 | apply Has.alloc1 | apply Has.alloc3 | apply Has.drew | apply Has.drewN | apply Has.set_ | apply Has.allocx | exact Has.nil _))) hg (by simp <;> omega); have hq := hh; simp only [Has, upd, World.size_alloc, World.size_setCell, World.size_drew, World.heap_drewN, and_true, true_and, ite_true, ite_false, and_self, Nat.add_right_cancel_iff, Nat.add_eq_left, Nat.left_eq_add, reduceCtorEq, Nat.reduceEqDiff, if_true, if_false] at hq; have p0 := kA; have p3 := kB (by omega); clear kA kB; have hO := ownsRow_grow hO hg (by omega); have hT := Tab3.grow hT hg (by omega); clear hg)
      obtain ⟨j, rfl⟩ : ∃ j : Nat, p = j := ⟨p.toNat, by omega⟩
      obtain ⟨g, u, v, g1, g2, hT3⟩ := hT j (by omega)
      (obtain ⟨wn, rfl⟩ : ∃ z : World, z = w' := ⟨_, rfl⟩)
      have hh := Has.app hh hT3
      simp only [List.cons_append, List.nil_append] at hh
      have hq := hh
      simp only [Has, and_true] at hq
      have n1 : wm.heap.size ≠ wn.heap.size := by omega
      have n2 : wn.heap.size ≠ wm.heap.size := by omega
      have n3 : g ≠ wn.heap.size := by omega
      have n4 : wn.heap.size ≠ g := by omega
      go_wp2_with fail
      go_region_held3 (fun w' => w'.cell? ⟨wm.heap.size, 0, none⟩ = some (.int .i64 x) ∧ w'.cell? ⟨wm.heap.size, 1, none⟩ = some (.int .i64 y) ∧ w'.cell? ⟨g, 0, none⟩ = some (.int .i64 u) ∧ w'.cell? ⟨g, 1, none⟩ = some (.int .i64 v))
        (first
          | (go_keep; done)
          | (go_split_ands
             refine ⟨?_, ?_, ?_, ?_⟩ <;> (rw [hgrow.cell_far _ (by simp; omega) (fun hr => by have := (World.ownsRow.lt hO _ hr.symm).1; simp at this; omega)]; simp [*])))
        ((refine step_append_lies _ (by rfl) _ _ 26 (by rfl) (wm.heap.size + 1 + 1 + 1 + 1 + 1 + 1 + 1 + 1) 25 i0 _ 2 16 Try.underlying26 HI.out HZ0.out HZ1.out HZ2.out rfl (by omega) (.slice A m k) m (flat2 q) (by rfl) ((hO.alloc _).drew)
              ⟨wn.heap.size, 0, none⟩ 1 1 [.int .i64 (IntKind.i64.wrap (x + u)), .int .i64 (IntKind.i64.wrap (y + v))] (by rfl) (by rfl) (World.news_of_block (cs := #[.int .i64 (IntKind.i64.wrap (x + u)), .int .i64 (IntKind.i64.wrap (y + v))]) (t := 25) (fr := (0, 0)) (heap_alloc_new wn _)) (by simp [Value.oneCell'])
              (by omega) (by simp only [maxLen]; omega) (by omega) (by simp; omega) (wn.heap.size + 1) (by simp) ?_; intro gg cap w1 hown1 hgrow hat hlt1))
      have hlow := World.ownsRow.lt hO
      have hG2 : Grow w (w.heap.size + 1 + 1 + 1) w1 := Grow.ofGrown (show Grow w (w.heap.size + 1 + 1 + 1) _ from (by (repeat (with_reducible first | exact Grow.refl _ _ | assumption | refine Grow.drew ?_ | refine Grow.drewN ?_ | refine Grow.alloc ?_ _ | refine Grow.set ?_ (Or.inl rfl) | refine Grow.set ?_ (Or.inr (by first | omega | (simp <;> omega))))))) hgrow (fun r hr => by have := (hlow r hr).1; omega)
      have hC2 : Cur w1 (w.heap.size + 1 + 1 + 1) (30 + 2 * (m + 1)) := Cur.grown (K := 30 + 2 * (m + 1)) (Cur.more (by (repeat (first | (with_reducible assumption) | (with_reducible apply Cur.drew) | (with_reducible apply Cur.drewN) | (with_reducible apply Cur.alloc) | ((with_reducible apply Cur.set); rotate_left; (first | omega | (simp <;> omega)))))) (by omega)) hgrow (fun r hr => by have := (hlow r hr).1; omega)
      have hT2 : Tab3 w1 (wm.heap.size + 1) (wm.heap.size + 1 + 1 + 1 + 1 + 1 + 1 + 1) := (Tab3.grow hT (show Grow wn (w.heap.size + 1 + 1 + 1) _ from (by (repeat (with_reducible first | exact Grow.refl _ _ | assumption | refine Grow.drew ?_ | refine Grow.drewN ?_ | refine Grow.alloc ?_ _ | refine Grow.set ?_ (Or.inl rfl) | refine Grow.set ?_ (Or.inr (by first | omega | (simp <;> omega))))))) (by omega)).grown hgrow (fun r hr => by have := (hlow r hr).1; omega)
      have hh3 : Has wn [(wm.heap.size, 0, .int .i64 x), (wm.heap.size, 1, .int .i64 y), (w.heap.size + 1 + 1, 0, .int .i64 0), (w.heap.size + 1 + 1, 1, .int .i64 0), (w.heap.size + 1, 0, .int .i64 0), (w.heap.size + 1, 1, .int .i64 0), (w.heap.size, 0, .int .i64 0), (w.heap.size, 1, .int .i64 0)] := Has.weak hh (by simp)
      have hh2 : Has w1 [(wm.heap.size, 0, .int .i64 x), (wm.heap.size, 1, .int .i64 y), (w.heap.size + 1 + 1, 0, .int .i64 0), (w.heap.size + 1 + 1, 1, .int .i64 0), (w.heap.size + 1, 0, .int .i64 0), (w.heap.size + 1, 1, .int .i64 0), (w.heap.size, 0, .int .i64 0), (w.heap.size, 1, .int .i64 0)] := Has.grown (Has.drew (Has.allocx hh3)) hgrow (fun e he hr => by
        have h9 := (hlow _ hr.symm).1
        simp at he
        rcases he with rfl | rfl | rfl | rfl | rfl | rfl | rfl | rfl <;> (simp at h9; omega))
      have hz2 := hgrow.size
      simp only [World.size_alloc, World.size_drew] at hz2
      have HQ2 : Hid ((q ++ [(IntKind.i64.wrap (x + u), IntKind.i64.wrap (y + v))]).length = m + 1) := by show _ = _; simp [HQ.out]
      have hO2 : w1.ownsRow (wm.heap.size + 1 + 1 + 1 + 1 + 1 + 1 + 1 + 1) 25 2 (.slice (some ⟨gg, 0, none⟩) (m + 1) cap) (m + 1) (flat2 (q ++ [(IntKind.i64.wrap (x + u), IntKind.i64.wrap (y + v))])) := by rw [flat2_snoc]; exact hown1
      clear hown1 hgrow hat hlt1 hlow hG hC hO hT hh3 hh hq hT3
      go_wp2_with fail
      go_roundw
      case rel => exact ⟨_, m + 1, cap, q ++ [(IntKind.i64.wrap (x + u), IntKind.i64.wrap (y + v))], rfl, by omega, HQ2, hO2, hT2, by omega, hG2, hC2, hh2⟩
      case measure => simp; omega
    · obtain rfl : m = 3 := by omega
      have hS : SRow wr (wm.heap.size + 1 + 1 + 1 + 1 + 1 + 1 + 1 + 1) (.slice A 3 k) q := ⟨by have := HQ.out; omega, by rw [HQ.out]; exact hO⟩
      obtain ⟨A', c', hv, hcc, hL, hg0⟩ := hS.lst
      injection hv with e1 e2 e3
      subst e1 e3
      rw [HQ.out] at hcc hL
      obtain ⟨g, rfl, hbg, hgl, hob⟩ := hg0 (by have := HQ.out; omega)
      clear hob hg0 e2
      go_wp2_with fail
      (go_at_call 103; refine (one_any _ _ _ _ (by (repeat (first | (with_reducible assumption) | (with_reducible apply Cur.drew) | (with_reducible apply Cur.drewN) | (with_reducible apply Cur.alloc) | ((with_reducible apply Cur.set); rotate_left; (first | omega | (simp <;> omega)))))) (by omega)).mono ?_; rintro e w' ⟨f, rfl, hg, hCn⟩; have hGn := Grow.trans (show Grow w _ _ from (by (repeat (with_reducible first | exact Grow.refl _ _ | assumption | refine Grow.drew ?_ | refine Grow.drewN ?_ | refine Grow.alloc ?_ _ | refine Grow.set ?_ (Or.inl rfl) | refine Grow.set ?_ (Or.inr (by first | omega | (simp <;> omega))))))) hg; clear hG hC; have hG := hGn; have hC := hCn; clear hGn hCn; have hz : w.heap.size ≤ w'.heap.size := hG.size; have hs := hg.size; (try simp only [World.size_alloc, World.size_setCell, World.size_drew, World.heap_drewN] at hs); have hh := Has.grow (by (repeat (with_reducible first | assumption | apply Has.alloc5 | apply Has.alloc2 | apply Has.alloc1 | apply Has.alloc3 | apply Has.drew | apply Has.drewN | apply Has.set_ | apply Has.allocx | exact Has.nil _))) hg (by simp <;> omega); have hq := hh; simp only [Has, upd, World.size_alloc, World.size_setCell, World.size_drew, World.heap_drewN, and_true, true_and, ite_true, ite_false, and_self, Nat.add_right_cancel_iff, Nat.add_eq_left, Nat.left_eq_add, reduceCtorEq, Nat.reduceEqDiff, if_true, if_false] at hq; have hS := SRow.grow hS hg (by omega); clear hg)
      have n1 : w.heap.size ≠ g := by omega
      have n2 : g ≠ w.heap.size := by omega
      have n3 : w.heap.size + 1 ≠ g := by omega
      have n4 : g ≠ w.heap.size + 1 := by omega
      have n5 : w.heap.size + 1 + 1 ≠ g := by omega
      have n6 : g ≠ w.heap.size + 1 + 1 := by omega
      have n7 : w.heap.size ≠ w.heap.size + 1 + 1 := by omega
      have n8 : w.heap.size + 1 + 1 ≠ w.heap.size := by omega
      go_upto_if 49 with fail
      go_cut [] (fun wx => ∃ x0 y0 x1 y1 x2 y2 : Int, g < wx.heap.size ∧ Has wx [(g, 0, .int .i64 x0), (g, 1, .int .i64 y0), (g, 2, .int .i64 x1), (g, 3, .int .i64 y1), (g, 4, .int .i64 x2), (g, 5, .int .i64 y2), (w.heap.size + 1 + 1, 0, .int .i64 0), (w.heap.size + 1 + 1, 1, .int .i64 0), (w.heap.size + 1, 0, .int .i64 0), (w.heap.size + 1, 1, .int .i64 0), (w.heap.size, 0, .int .i64 0), (w.heap.size, 1, .int .i64 0)] ∧ Grow w (w.heap.size + 1 + 1 + 1) wx ∧ Cur wx (w.heap.size + 1 + 1 + 1) 60)
      case first =>
        rcases tf f with rfl | rfl
        rotate_left
        · go_wp2_with fail
          go_meet
          obtain ⟨hr, _, _⟩ := SRow.rowTo hS HQ.out (by omega)
          obtain ⟨x0, y0, x1, y1, x2, y2, hc⟩ := three_cells hr
          exact ⟨x0, y0, x1, y1, x2, y2, by omega, Has.app hc (Has.weak hh (by simp)), (by (repeat (with_reducible first | exact Grow.refl _ _ | assumption | refine Grow.drew ?_ | refine Grow.drewN ?_ | refine Grow.alloc ?_ _ | refine Grow.set ?_ (Or.inl rfl) | refine Grow.set ?_ (Or.inr (by first | omega | (simp <;> omega)))))), Cur.more (by (repeat (first | (with_reducible assumption) | (with_reducible apply Cur.drew) | (with_reducible apply Cur.drewN) | (with_reducible apply Cur.alloc) | ((with_reducible apply Cur.set); rotate_left; (first | omega | (simp <;> omega)))))) (by omega)⟩
        · go_wp2_with fail
          (go_at_call 102; refine (pick_any _ _ _ _ (by (repeat (first | (with_reducible assumption) | (with_reducible apply Cur.drew) | (with_reducible apply Cur.drewN) | (with_reducible apply Cur.alloc) | ((with_reducible apply Cur.set); rotate_left; (first | omega | (simp <;> omega)))))) (by omega)).mono ?_; rintro e w' ⟨p, ⟨kA, kB⟩, rfl, hg, hCn⟩; have hGn := Grow.trans (show Grow w _ _ from (by (repeat (with_reducible first | exact Grow.refl _ _ | assumption | refine Grow.drew ?_ | refine Grow.drewN ?_ | refine Grow.alloc ?_ _ | refine Grow.set ?_ (Or.inl rfl) | refine Grow.set ?_ (Or.inr (by first | omega | (simp <;> omega))))))) hg; clear hG hC; have hG := hGn; have hC := hCn; clear hGn hCn; have hz : w.heap.size ≤ w'.heap.size := hG.size; have hs := hg.size; (try simp only [World.size_alloc, World.size_setCell, World.size_drew, World.heap_drewN] at hs); have hh := Has.grow (by (repeat (with_reducible first | assumption | apply Has.alloc5 | apply Has.alloc2 | apply Has.alloc1 | apply Has.alloc3 | apply Has.drew | apply Has.drewN | apply Has.set_ | apply Has.allocx | exact Has.nil _))) hg (by simp <;> omega); have hq := hh; simp only [Has, upd, World.size_alloc, World.size_setCell, World.size_drew, World.heap_drewN, and_true, true_and, ite_true, ite_false, and_self, Nat.add_right_cancel_iff, Nat.add_eq_left, Nat.left_eq_add, reduceCtorEq, Nat.reduceEqDiff, if_true, if_false] at hq; have p0 := kA; have p3 := kB (by omega); clear kA kB; have hS := SRow.grow hS hg (by omega); clear hg)
          obtain ⟨j, rfl⟩ : ∃ j : Nat, p = j := ⟨p.toNat, by omega⟩
          go_wp2_with fail
          (go_at_call 92; refine (anySpot_any _ _ _ (by (repeat (first | (with_reducible assumption) | (with_reducible apply Cur.drew) | (with_reducible apply Cur.drewN) | (with_reducible apply Cur.alloc) | ((with_reducible apply Cur.set); rotate_left; (first | omega | (simp <;> omega)))))) (by omega)).mono ?_; rintro e w' ⟨xa, ya, rfl, hg, hCn⟩; have hGn := Grow.trans (show Grow w _ _ from (by (repeat (with_reducible first | exact Grow.refl _ _ | assumption | refine Grow.drew ?_ | refine Grow.drewN ?_ | refine Grow.alloc ?_ _ | refine Grow.set ?_ (Or.inl rfl) | refine Grow.set ?_ (Or.inr (by first | omega | (simp <;> omega))))))) hg; clear hG hC; have hG := hGn; have hC := hCn; clear hGn hCn; have hz : w.heap.size ≤ w'.heap.size := hG.size; have hs := hg.size; (try simp only [World.size_alloc, World.size_setCell, World.size_drew, World.heap_drewN] at hs); have hh := Has.grow (by (repeat (with_reducible first | assumption | apply Has.alloc5 | apply Has.alloc2 | apply Has.alloc1 | apply Has.alloc3 | apply Has.drew | apply Has.drewN | apply Has.set_ | apply Has.allocx | exact Has.nil _))) hg (by simp <;> omega); have hq := hh; simp only [Has, upd, World.size_alloc, World.size_setCell, World.size_drew, World.heap_drewN, and_true, true_and, ite_true, ite_false, and_self, Nat.add_right_cancel_iff, Nat.add_eq_left, Nat.left_eq_add, reduceCtorEq, Nat.reduceEqDiff, if_true, if_false] at hq; have hS := SRow.grow hS hg (by omega); clear hg)
          obtain ⟨hr, _, _⟩ := SRow.rowTo hS HQ.out (by omega)
          obtain ⟨u, u', hq2⟩ := hr.cells (j := j) (by omega)
          simp only [Has, and_true] at hq2
          go_wp2_with fail
          go_meet
          obtain ⟨x0, y0, x1, y1, x2, y2, hc⟩ := three_cells (rowTo_put (x := xa) (y := ya) (k := j) hr (by omega))
          have hh8 : Has w' [(w.heap.size + 1 + 1, 0, .int .i64 0), (w.heap.size + 1 + 1, 1, .int .i64 0), (w.heap.size + 1, 0, .int .i64 0), (w.heap.size + 1, 1, .int .i64 0), (w.heap.size, 0, .int .i64 0), (w.heap.size, 1, .int .i64 0)] := Has.weak hh (by simp)
          exact ⟨x0, y0, x1, y1, x2, y2, by simp; omega, Has.app hc (Has.weak (Has.set_ (Has.set_ hh8)) (by simp [upd, n1, n3, n5])), (by (repeat (with_reducible first | exact Grow.refl _ _ | assumption | refine Grow.drew ?_ | refine Grow.drewN ?_ | refine Grow.alloc ?_ _ | refine Grow.set ?_ (Or.inl rfl) | refine Grow.set ?_ (Or.inr (by first | omega | (simp <;> omega)))))), Cur.more (by (repeat (first | (with_reducible assumption) | (with_reducible apply Cur.drew) | (with_reducible apply Cur.drewN) | (with_reducible apply Cur.alloc) | ((with_reducible apply Cur.set); rotate_left; (first | omega | (simp <;> omega)))))) (by omega)⟩
      case rest =>
        obtain ⟨x0, y0, x1, y1, x2, y2, hgx, hh, hG, hC⟩ := hcut
        have hq := hh
        simp only [Has, and_true] at hq
        go_wp2_with fail
        go_region_held3 (fun w' => w'.cell? ⟨g, 0, none⟩ = some (.int .i64 x0) ∧ w'.cell? ⟨g, 1, none⟩ = some (.int .i64 y0) ∧ w'.cell? ⟨g, 2, none⟩ = some (.int .i64 x1) ∧ w'.cell? ⟨g, 3, none⟩ = some (.int .i64 y1) ∧ w'.cell? ⟨g, 4, none⟩ = some (.int .i64 x2) ∧ w'.cell? ⟨g, 5, none⟩ = some (.int .i64 y2)) (first | (go_keep; done) | ((repeat' apply And.intro) <;> (apply Has.get; (focus (repeat (with_reducible first | assumption | apply Has.alloc5 | apply Has.alloc2 | apply Has.alloc1 | apply Has.alloc3 | apply Has.drew | apply Has.drewN | apply Has.set_ | apply Has.allocx | exact Has.nil _))); simp [upd, *]))) (first | fail)
        go_wp2_with fail
        refine ret_has (v := .tuple #[.agg #[.int .i64 x0, .int .i64 y0], .agg #[.int .i64 x1, .int .i64 y1], .agg #[.int .i64 x2, .int .i64 y2]]) (m := [(w.heap.size, 0, .int .i64 x0), (w.heap.size, 1, .int .i64 y0), (w.heap.size + 1, 0, .int .i64 x1), (w.heap.size + 1, 1, .int .i64 y1), (w.heap.size + 1 + 1, 0, .int .i64 x2), (w.heap.size + 1 + 1, 1, .int .i64 y2)]) (by apply Has.weak; (focus (repeat (with_reducible first | assumption | apply Has.alloc5 | apply Has.alloc2 | apply Has.alloc1 | apply Has.alloc3 | apply Has.drew | apply Has.drewN | apply Has.set_ | apply Has.allocx | exact Has.nil _))); simp [upd, *]) ?_ rfl ⟨_, _, _, _, _, _, rfl, Grow.below (b := w.heap.size + 1 + 1 + 1) (by (repeat (with_reducible first | exact Grow.refl _ _ | assumption | refine Grow.drew ?_ | refine Grow.drewN ?_ | refine Grow.alloc ?_ _ | refine Grow.set ?_ (Or.inl rfl) | refine Grow.set ?_ (Or.inr (by first | omega | (simp <;> omega)))))) (by omega) (Nat.le_refl _)⟩
        intro W' hW'
        simp only [Has] at hW'
        simp [results, Try.results50, go_sem, hW']

end Go.Proofs.Ytkadnmebijfacaa

