/- Contracts of WholeCounts, of the program and of the reference. -/
import Derived.Test.YtkadnmebijfacaaInts
import Derived.Test.YtkadnmebijfacaaMove2
import Derived.Maps.AppendAt
namespace Go.Proofs.Ytkadnmebijfacaa
open Go.RowKit
set_option linter.unusedVariables false
set_option linter.unusedSimpArgs false
set_option maxRecDepth 100000

theorem Has.grown {w w' : World} {m : List (Nat × Nat × Value)} {row : Option Nat} (h : Has w m) (hg : w.grownBy w' row) (hne : ∀ e ∈ m, some e.1 ≠ row) : Has w' m := (Has_iff w' m).2 fun e he => by
  have := (Has_iff w m).1 h e he
  have hb := hg.block e.1 (cell_lt this.1) (hne e he)
  exact ⟨(World.cell?_of_block (w := w) (w' := w') (a := ⟨e.1, e.2.1, none⟩) hb).trans this.1, (World.frozen?_of_block (w := w) (w' := w') (a := ⟨e.1, e.2.1, none⟩) hb).trans this.2⟩
theorem IRow.snoc {w : World} {base : Nat} {v : Value} {l : List Int} {x : Int} (hl : l.length < 1048576) (h : w.ownsRow base 3 1 v (l.length + 1) (l.map (Value.int .i64) ++ [.int .i64 x])) : IRow w base v (l ++ [x]) :=
  ⟨by simp; omega, by simpa using h⟩
theorem IRow.more {w : World} {b b' : Nat} {v : Value} {l : List Int} (h : IRow w b v l) (hb : b' ≤ b) : IRow w b' v l := by
  refine ⟨h.1, h.2.1, ?_⟩
  rcases h.2.2 with h0 | ⟨g, cap, cur, hv, hbg, r⟩
  · exact .inl h0
  · exact .inr ⟨g, cap, cur, hv, by omega, r⟩
theorem infoInt : (Try.prog.info? 3).map (fun i => (i.zero, i.size, i.bytes)) = some (some (.int .i64 0), 1, 8) := by kernel_rfl
/-- a list of ints in new memory, and a bool -/
def RetInts (w : World) (l : List Int) (ok : Bool) (e : Ending) (w' : World) : Prop := ∃ v, e = .returned (.tuple #[v, .bool ok]) ∧ IRow w' w.heap.size v l ∧ Below w.heap.size w w'

def wholeB (a b c d k n : Int) : Bool := plc a c k n % k == 0 && plc b d k n % k == 0
def wholeTo (a b c d k : Int) : Nat → List Int
  | 0 => []
  | j + 1 => if wholeB a b c d k j then wholeTo a b c d k j ++ [(j : Int)] else wholeTo a b c d k j
theorem wholeTo_len (a b c d k : Int) : ∀ j, (wholeTo a b c d k j).length ≤ j
  | 0 => by simp [wholeTo]
  | j + 1 => by
    have := wholeTo_len a b c d k j
    simp only [wholeTo]; split
    · simp; omega
    · omega
theorem wholeTo_yes {a b c d k : Int} {j : Nat} (h : wholeB a b c d k j = true) : wholeTo a b c d k (j + 1) = wholeTo a b c d k j ++ [(j : Int)] := by simp only [wholeTo]; rw [if_pos h]
theorem wholeTo_no {a b c d k : Int} {j : Nat} (h : wholeB a b c d k j = false) : wholeTo a b c d k (j + 1) = wholeTo a b c d k j := by simp only [wholeTo]; rw [if_neg (by simp [h])]
def mWhole (a b c d k : Int) : List Int × Bool := if goodM a b c d k then (wholeTo a b c d k (k + 1).toNat, true) else ([], false)

set_option maxHeartbeats 1000000 in
theorem isWhole_any (a b c d k n : Int) (w : World) (hg : goodM a b c d k = true) (hn0 : 0 ≤ n) (hn : n ≤ k) :
    Calls Try.prog 112 #[.agg #[.int .i64 a, .int .i64 b, .int .i64 c, .int .i64 d, .int .i64 k], .int .i64 n] w fun e w' => e = .returned (.bool (wholeB a b c d k n)) ∧ Below w.heap.size w w' := by
  obtain ⟨g1, g2, k1, k2⟩ := (goodM_iff _ _ _ _ _).1 hg
  obtain ⟨p1, p2, p3, p4⟩ := (goodB_iff _ _).1 g1
  obtain ⟨q1, q2, q3, q4⟩ := (goodB_iff _ _).1 g2
  obtain ⟨x1, x2⟩ := plc_rng (x := a) (u := c) p1 p2 q1 q2 k1 k2 hn0 hn
  obtain ⟨y1, y2⟩ := plc_rng (x := b) (u := d) p3 (by omega) q3 (by omega) k1 k2 hn0 hn
  rcases tf (plc a c k n % k == 0) with h | h
  all_goals
    go_enter Try.func112, Try.ntmps112
    go_wp2_with (first | (go_at_call 120; refine (placeAt_any _ _ _ _ _ _ _ hg hn0 hn).mono ?_; rintro e w' ⟨rfl, hb⟩; have hz : w.heap.size + 1 ≤ w'.heap.size := (by have := hb.size; first | omega | (simp at this; omega)); have hB : Below w.heap.size w w' := (by refine Below.trans ?_ (hb.mono (by first | omega | (simp <;> omega))); (first | with_reducible exact Below.refl _ _ | with_reducible assumption | (repeat (with_reducible first | exact Below.refl _ _ | assumption | refine Below.drew ?_ | refine Below.alloc ?_ (by first | omega | (simp <;> omega)) _ | refine Below.setCell ?_ (by first | omega | (simp <;> omega)) _ | refine below_drewN ?_ _)))); have hh := Has.below (by (repeat (with_reducible first | assumption | apply Has.alloc5 | apply Has.alloc2 | apply Has.alloc1 | apply Has.alloc3 | apply Has.drew | apply Has.drewN | apply Has.set_ | apply Has.allocx | exact Has.nil _))) hb; (try simp only [World.size_alloc, World.size_setCell, World.size_drew, World.heap_drewN] at hh); have hq := hh; simp only [Has, upd, World.size_alloc, World.size_setCell, World.size_drew, World.heap_drewN, and_true, true_and, ite_true, ite_false, and_self, Nat.add_right_cancel_iff, Nat.add_eq_left, Nat.left_eq_add, reduceCtorEq, Nat.reduceEqDiff, if_true, if_false] at hq; have hs := hb.size; (try simp only [World.size_alloc, World.size_setCell, World.size_drew, World.heap_drewN] at hs); have hn0 : w.heap.size ≠ w'.heap.size := (by omega); have hm0 : w'.heap.size ≠ w.heap.size := (by omega); clear hb))
    go_ret
    exact ⟨by simp [wholeB, h], (by (first | with_reducible exact Below.refl _ _ | with_reducible assumption | (repeat (with_reducible first | exact Below.refl _ _ | assumption | refine Below.drew ?_ | refine Below.alloc ?_ (by first | omega | (simp <;> omega)) _ | refine Below.setCell ?_ (by first | omega | (simp <;> omega)) _ | refine below_drewN ?_ _))))⟩

set_option maxHeartbeats 1000000 in
theorem mvWhole_any (a b c d k n : Int) (w : World) (hg : goodM a b c d k = true) (hn0 : 0 ≤ n) (hn : n ≤ k) :
    Calls Try.prog 115 #[.agg #[.int .i64 a, .int .i64 b, .int .i64 c, .int .i64 d, .int .i64 k], .int .i64 n] w fun e w' => e = .returned (.bool (wholeB a b c d k n)) ∧ Below w.heap.size w w' := by
  obtain ⟨g1, g2, k1, k2⟩ := (goodM_iff _ _ _ _ _).1 hg
  obtain ⟨p1, p2, p3, p4⟩ := (goodB_iff _ _).1 g1
  obtain ⟨q1, q2, q3, q4⟩ := (goodB_iff _ _).1 g2
  obtain ⟨x1, x2⟩ := plc_rng (x := a) (u := c) p1 p2 q1 q2 k1 k2 hn0 hn
  obtain ⟨y1, y2⟩ := plc_rng (x := b) (u := d) p3 (by omega) q3 (by omega) k1 k2 hn0 hn
  rcases tf (plc a c k n % k == 0) with h | h
  all_goals
    go_enter Try.func115, Try.ntmps115
    go_wp2_with (first | (go_at_call 149; refine (mvAt_any _ _ _ _ _ _ _ hg hn0 hn).mono ?_; rintro e w' ⟨rfl, hb⟩; have hz : w.heap.size + 1 ≤ w'.heap.size := (by have := hb.size; first | omega | (simp at this; omega)); have hB : Below w.heap.size w w' := (by refine Below.trans ?_ (hb.mono (by first | omega | (simp <;> omega))); (first | with_reducible exact Below.refl _ _ | with_reducible assumption | (repeat (with_reducible first | exact Below.refl _ _ | assumption | refine Below.drew ?_ | refine Below.alloc ?_ (by first | omega | (simp <;> omega)) _ | refine Below.setCell ?_ (by first | omega | (simp <;> omega)) _ | refine below_drewN ?_ _)))); have hh := Has.below (by (repeat (with_reducible first | assumption | apply Has.alloc5 | apply Has.alloc2 | apply Has.alloc1 | apply Has.alloc3 | apply Has.drew | apply Has.drewN | apply Has.set_ | apply Has.allocx | exact Has.nil _))) hb; (try simp only [World.size_alloc, World.size_setCell, World.size_drew, World.heap_drewN] at hh); have hq := hh; simp only [Has, upd, World.size_alloc, World.size_setCell, World.size_drew, World.heap_drewN, and_true, true_and, ite_true, ite_false, and_self, Nat.add_right_cancel_iff, Nat.add_eq_left, Nat.left_eq_add, reduceCtorEq, Nat.reduceEqDiff, if_true, if_false] at hq; have hs := hb.size; (try simp only [World.size_alloc, World.size_setCell, World.size_drew, World.heap_drewN] at hs); have hn0 : w.heap.size ≠ w'.heap.size := (by omega); have hm0 : w'.heap.size ≠ w.heap.size := (by omega); clear hb))
    go_ret
    exact ⟨by simp [wholeB, h], (by (first | with_reducible exact Below.refl _ _ | with_reducible assumption | (repeat (with_reducible first | exact Below.refl _ _ | assumption | refine Below.drew ?_ | refine Below.alloc ?_ (by first | omega | (simp <;> omega)) _ | refine Below.setCell ?_ (by first | omega | (simp <;> omega)) _ | refine below_drewN ?_ _))))⟩

set_option maxHeartbeats 4000000 in
theorem iWhole_any (a b c d k : Int) (w : World) :
    Calls Try.prog 37 #[.agg #[.int .i64 a, .int .i64 b, .int .i64 c, .int .i64 d, .int .i64 k]] w (RetInts w (mWhole a b c d k).1 (mWhole a b c d k).2) := by
  rcases tf (goodM a b c d k) with hm | hm
  · obtain ⟨g1, g2, k1, k2⟩ := (goodM_iff _ _ _ _ _).1 hm
    obtain ⟨i0, hi0, hz0, hz1, hz2⟩ := info_parts infoInt
    have HI := Lib.hid hi0
    have HZ0 := Lib.hid hz0
    have HZ1 := Lib.hid hz1
    have HZ2 := Lib.hid hz2
    clear hi0 hz0 hz1 hz2
    have HM : Hid (mWhole a b c d k = (wholeTo a b c d k (k + 1).toNat, true)) := by show _ = _; simp [mWhole, hm]
    go_enter Try.func37, Try.ntmps37
    go_wp2_with (first | (go_at_call 111; refine (iIsMove_any _ _ _ _ _ _).mono ?_; rintro e w' ⟨rfl, hb⟩; have hz : w.heap.size + 1 ≤ w'.heap.size := (by have := hb.size; first | omega | (simp at this; omega)); have hB : Below w.heap.size w w' := (by refine Below.trans ?_ (hb.mono (by first | omega | (simp <;> omega))); (first | with_reducible exact Below.refl _ _ | with_reducible assumption | (repeat (with_reducible first | exact Below.refl _ _ | assumption | refine Below.drew ?_ | refine Below.alloc ?_ (by first | omega | (simp <;> omega)) _ | refine Below.setCell ?_ (by first | omega | (simp <;> omega)) _ | refine below_drewN ?_ _)))); have hh := Has.below (by (repeat (with_reducible first | assumption | apply Has.alloc5 | apply Has.alloc2 | apply Has.alloc1 | apply Has.alloc3 | apply Has.drew | apply Has.drewN | apply Has.set_ | apply Has.allocx | exact Has.nil _))) hb; (try simp only [World.size_alloc, World.size_setCell, World.size_drew, World.heap_drewN] at hh); have hq := hh; simp only [Has, upd, World.size_alloc, World.size_setCell, World.size_drew, World.heap_drewN, and_true, true_and, ite_true, ite_false, and_self, Nat.add_right_cancel_iff, Nat.add_eq_left, Nat.left_eq_add, reduceCtorEq, Nat.reduceEqDiff, if_true, if_false] at hq; have hs := hb.size; (try simp only [World.size_alloc, World.size_setCell, World.size_drew, World.heap_drewN] at hs); have hn0 : w.heap.size ≠ w'.heap.size := (by omega); have hm0 : w'.heap.size ≠ w.heap.size := (by omega); clear hb))
    go_loopw [4, 5] (fun s4 s5 wr => ∃ (j : Nat) (l : List Int), (j : Int) ≤ k + 1 ∧ l.length ≤ j ∧ s5 = .int .i64 j ∧ Hid (wholeTo a b c d k j = l) ∧ IRow wr (w.heap.size + 1) s4 l ∧ w.heap.size + 1 ≤ wr.heap.size ∧ Below w.heap.size w wr ∧ Has wr [(w.heap.size, 0, .int .i64 a), (w.heap.size, 1, .int .i64 b), (w.heap.size, 2, .int .i64 c), (w.heap.size, 3, .int .i64 d), (w.heap.size, 4, .int .i64 k)]) (fun _ v _ => (k + 1 - intOf v).toNat)
    case atStart => exact ⟨0, [], by omega, by simp, rfl, Lib.hid rfl, ⟨by simp, by first | exact World.ownsRow_made _ _ _ (by first | omega | (simp <;> omega)) (by simp [maxLen]) rfl | exact World.ownsRow_lit _ _ _ (by first | omega | (simp <;> omega)) (by simp [maxLen]) rfl⟩, (by first | omega | (simp <;> omega)), (by (first | with_reducible exact Below.refl _ _ | with_reducible assumption | (repeat (with_reducible first | exact Below.refl _ _ | assumption | refine Below.drew ?_ | refine Below.alloc ?_ (by first | omega | (simp <;> omega)) _ | refine Below.setCell ?_ (by first | omega | (simp <;> omega)) _ | refine below_drewN ?_ _)))), (by apply Has.weak; (focus (repeat (with_reducible first | assumption | apply Has.alloc5 | apply Has.alloc2 | apply Has.alloc1 | apply Has.alloc3 | apply Has.drew | apply Has.drewN | apply Has.set_ | apply Has.allocx | exact Has.nil _))); simp [upd, *])⟩
    case round =>
      obtain ⟨j, l, hj, hlj, rfl, HW, hI, hz1, hB, hh⟩ := hrel
      have hq := hh
      simp only [Has, and_true] at hq
      have hwr := hB.size
      by_cases hlt : (j : Int) ≤ k
      · rcases tf (wholeB a b c d k j) with hwb | hwb
        · go_wp2_with (first
            | (go_at_call 112; refine (isWhole_any _ _ _ _ _ _ _ hm (by omega) (by omega)).mono ?_; rintro e w' ⟨rfl, hb⟩; have hz : w.heap.size + 1 ≤ w'.heap.size := (by have := hb.size; first | omega | (simp at this; omega)); have hB : Below w.heap.size w w' := (by refine Below.trans ?_ (hb.mono (by first | omega | (simp <;> omega))); (first | with_reducible exact Below.refl _ _ | with_reducible assumption | (repeat (with_reducible first | exact Below.refl _ _ | assumption | refine Below.drew ?_ | refine Below.alloc ?_ (by first | omega | (simp <;> omega)) _ | refine Below.setCell ?_ (by first | omega | (simp <;> omega)) _ | refine below_drewN ?_ _)))); have hh := Has.below (by (repeat (with_reducible first | assumption | apply Has.alloc5 | apply Has.alloc2 | apply Has.alloc1 | apply Has.alloc3 | apply Has.drew | apply Has.drewN | apply Has.set_ | apply Has.allocx | exact Has.nil _))) hb; (try simp only [World.size_alloc, World.size_setCell, World.size_drew, World.heap_drewN] at hh); have hq := hh; simp only [Has, upd, World.size_alloc, World.size_setCell, World.size_drew, World.heap_drewN, and_true, true_and, ite_true, ite_false, and_self, Nat.add_right_cancel_iff, Nat.add_eq_left, Nat.left_eq_add, reduceCtorEq, Nat.reduceEqDiff, if_true, if_false] at hq; have hs := hb.size; (try simp only [World.size_alloc, World.size_setCell, World.size_drew, World.heap_drewN] at hs); have hn0 : w.heap.size ≠ w'.heap.size := (by omega); have hm0 : w'.heap.size ≠ w.heap.size := (by omega); have hI2 := hI.below hb (Nat.le_refl _); clear hb)
            | (at_builtin
               refine wpList_append_own _ rfl _ _ 34 rfl (w.heap.size + 1) 3 i0 (.int .i64 0) 1 8 Try.underlying34 HI.out HZ0.out HZ1.out HZ2.out rfl (by decide) _ _ _ rfl (hI2.2.alloc _) ⟨w'.heap.size, 0, none⟩ 1 1 [.int .i64 (j : Int)] rfl rfl ?c1 ?c2 ?c3 ?c4 ?c5 ?_
               case c1 => exact cell_one_new _ _ _
               case c2 => intro u hu; simp at hu; subst hu; rfl
               case c3 => simp only [maxLen]; omega
               case c4 => omega
               case c5 => simp; omega
               intro v' w2 hown' hgrow _
               have hI3 := IRow.snoc (by omega) hown'
               have hlow := World.ownsRow.lt hI2.2
               have hB2 : Below w.heap.size w w2 := Below.grown (Below.alloc hB (by first | omega | (simp <;> omega)) _) hgrow (by first | omega | (simp <;> omega)) (fun r hr => by have := (hlow r hr).1; omega)
               have hh2 : Has w2 [(w.heap.size, 0, .int .i64 a), (w.heap.size, 1, .int .i64 b), (w.heap.size, 2, .int .i64 c), (w.heap.size, 3, .int .i64 d), (w.heap.size, 4, .int .i64 k)] := Has.grown (Has.allocx hh) hgrow (fun e he hr => by
                 have := (hlow _ hr.symm).1
                 simp at he
                 rcases he with rfl | rfl | rfl | rfl | rfl <;> (have h9 : w.heap.size + 1 ≤ w.heap.size := this; omega))
               have hz2 : w.heap.size + 1 ≤ w2.heap.size := by have := hgrow.size; simp at this; omega
               have HW2 : Hid (wholeTo a b c d k (j + 1) = l ++ [(j : Int)]) := by show _ = _; rw [wholeTo_yes hwb, HW.out]
               clear hown' hgrow hlow hB hq hh hI hI2))
          go_roundw
          case rel => exact ⟨j + 1, l ++ [(j : Int)], by omega, by simp; omega, by go_num, HW2, hI3, hz2, hB2, hh2⟩
          case measure => simp [intOf]; omega
        · have HW2 : Hid (wholeTo a b c d k (j + 1) = l) := by show _ = _; rw [wholeTo_no hwb, HW.out]
          go_wp2_with (go_at_call 112; refine (isWhole_any _ _ _ _ _ _ _ hm (by omega) (by omega)).mono ?_; rintro e w' ⟨rfl, hb⟩; have hz : w.heap.size + 1 ≤ w'.heap.size := (by have := hb.size; first | omega | (simp at this; omega)); have hB : Below w.heap.size w w' := (by refine Below.trans ?_ (hb.mono (by first | omega | (simp <;> omega))); (first | with_reducible exact Below.refl _ _ | with_reducible assumption | (repeat (with_reducible first | exact Below.refl _ _ | assumption | refine Below.drew ?_ | refine Below.alloc ?_ (by first | omega | (simp <;> omega)) _ | refine Below.setCell ?_ (by first | omega | (simp <;> omega)) _ | refine below_drewN ?_ _)))); have hh := Has.below (by (repeat (with_reducible first | assumption | apply Has.alloc5 | apply Has.alloc2 | apply Has.alloc1 | apply Has.alloc3 | apply Has.drew | apply Has.drewN | apply Has.set_ | apply Has.allocx | exact Has.nil _))) hb; (try simp only [World.size_alloc, World.size_setCell, World.size_drew, World.heap_drewN] at hh); have hq := hh; simp only [Has, upd, World.size_alloc, World.size_setCell, World.size_drew, World.heap_drewN, and_true, true_and, ite_true, ite_false, and_self, Nat.add_right_cancel_iff, Nat.add_eq_left, Nat.left_eq_add, reduceCtorEq, Nat.reduceEqDiff, if_true, if_false] at hq; have hs := hb.size; (try simp only [World.size_alloc, World.size_setCell, World.size_drew, World.heap_drewN] at hs); have hn0 : w.heap.size ≠ w'.heap.size := (by omega); have hm0 : w'.heap.size ≠ w.heap.size := (by omega); have hI2 := hI.below hb (Nat.le_refl _); clear hb)
          go_roundw
          case rel => exact ⟨j + 1, l, by omega, by omega, by go_num, HW2, hI2, by omega, hB, hh⟩
          case measure => simp [intOf]; omega
      · go_wp2
        go_ret2
        refine ⟨_, by rw [HM.out]; rfl, ?_, hB⟩
        rw [HM.out, show (k + 1).toNat = j by omega]
        simp only [HW.out]
        exact hI.more (by omega)
  · have HM : Hid (mWhole a b c d k = ([], false)) := by show _ = _; simp [mWhole, hm]
    go_enter Try.func37, Try.ntmps37
    go_wp2_with (first | (go_at_call 111; refine (iIsMove_any _ _ _ _ _ _).mono ?_; rintro e w' ⟨rfl, hb⟩; have hz : w.heap.size + 1 ≤ w'.heap.size := (by have := hb.size; first | omega | (simp at this; omega)); have hB : Below w.heap.size w w' := (by refine Below.trans ?_ (hb.mono (by first | omega | (simp <;> omega))); (first | with_reducible exact Below.refl _ _ | with_reducible assumption | (repeat (with_reducible first | exact Below.refl _ _ | assumption | refine Below.drew ?_ | refine Below.alloc ?_ (by first | omega | (simp <;> omega)) _ | refine Below.setCell ?_ (by first | omega | (simp <;> omega)) _ | refine below_drewN ?_ _)))); have hh := Has.below (by (repeat (with_reducible first | assumption | apply Has.alloc5 | apply Has.alloc2 | apply Has.alloc1 | apply Has.alloc3 | apply Has.drew | apply Has.drewN | apply Has.set_ | apply Has.allocx | exact Has.nil _))) hb; (try simp only [World.size_alloc, World.size_setCell, World.size_drew, World.heap_drewN] at hh); have hq := hh; simp only [Has, upd, World.size_alloc, World.size_setCell, World.size_drew, World.heap_drewN, and_true, true_and, ite_true, ite_false, and_self, Nat.add_right_cancel_iff, Nat.add_eq_left, Nat.left_eq_add, reduceCtorEq, Nat.reduceEqDiff, if_true, if_false] at hq; have hs := hb.size; (try simp only [World.size_alloc, World.size_setCell, World.size_drew, World.heap_drewN] at hs); have hn0 : w.heap.size ≠ w'.heap.size := (by omega); have hm0 : w'.heap.size ≠ w.heap.size := (by omega); clear hb))
    go_ret2
    refine ⟨.slice none 0 0, by rw [HM.out]; rfl, ?_, (by (first | with_reducible exact Below.refl _ _ | with_reducible assumption | (repeat (with_reducible first | exact Below.refl _ _ | assumption | refine Below.drew ?_ | refine Below.alloc ?_ (by first | omega | (simp <;> omega)) _ | refine Below.setCell ?_ (by first | omega | (simp <;> omega)) _ | refine below_drewN ?_ _))))⟩
    rw [HM.out]
    exact ⟨by simp, World.ownsRow_nil _ _ _ _⟩

set_option maxHeartbeats 4000000 in
theorem sWhole_any (a b c d k : Int) (w : World) :
    Calls Try.prog 38 #[.agg #[.int .i64 a, .int .i64 b, .int .i64 c, .int .i64 d, .int .i64 k]] w (RetInts w (mWhole a b c d k).1 (mWhole a b c d k).2) := by
  rcases tf (goodM a b c d k) with hm | hm
  · obtain ⟨g1, g2, k1, k2⟩ := (goodM_iff _ _ _ _ _).1 hm
    obtain ⟨i0, hi0, hz0, hz1, hz2⟩ := info_parts infoInt
    have HI := Lib.hid hi0
    have HZ0 := Lib.hid hz0
    have HZ1 := Lib.hid hz1
    have HZ2 := Lib.hid hz2
    clear hi0 hz0 hz1 hz2
    have HM : Hid (mWhole a b c d k = (wholeTo a b c d k (k + 1).toNat, true)) := by show _ = _; simp [mWhole, hm]
    go_enter Try.func38, Try.ntmps38
    go_wp2_with (first | (go_at_call 114; refine (mvGood_any _ _ _ _ _ _).mono ?_; rintro e w' ⟨rfl, hb⟩; have hz : w.heap.size + 1 ≤ w'.heap.size := (by have := hb.size; first | omega | (simp at this; omega)); have hB : Below w.heap.size w w' := (by refine Below.trans ?_ (hb.mono (by first | omega | (simp <;> omega))); (first | with_reducible exact Below.refl _ _ | with_reducible assumption | (repeat (with_reducible first | exact Below.refl _ _ | assumption | refine Below.drew ?_ | refine Below.alloc ?_ (by first | omega | (simp <;> omega)) _ | refine Below.setCell ?_ (by first | omega | (simp <;> omega)) _ | refine below_drewN ?_ _)))); have hh := Has.below (by (repeat (with_reducible first | assumption | apply Has.alloc5 | apply Has.alloc2 | apply Has.alloc1 | apply Has.alloc3 | apply Has.drew | apply Has.drewN | apply Has.set_ | apply Has.allocx | exact Has.nil _))) hb; (try simp only [World.size_alloc, World.size_setCell, World.size_drew, World.heap_drewN] at hh); have hq := hh; simp only [Has, upd, World.size_alloc, World.size_setCell, World.size_drew, World.heap_drewN, and_true, true_and, ite_true, ite_false, and_self, Nat.add_right_cancel_iff, Nat.add_eq_left, Nat.left_eq_add, reduceCtorEq, Nat.reduceEqDiff, if_true, if_false] at hq; have hs := hb.size; (try simp only [World.size_alloc, World.size_setCell, World.size_drew, World.heap_drewN] at hs); have hn0 : w.heap.size ≠ w'.heap.size := (by omega); have hm0 : w'.heap.size ≠ w.heap.size := (by omega); clear hb))
    go_loopw [4, 5] (fun s4 s5 wr => ∃ (j : Nat) (l : List Int), (j : Int) ≤ k + 1 ∧ l.length ≤ j ∧ s5 = .int .i64 j ∧ Hid (wholeTo a b c d k j = l) ∧ IRow wr (w.heap.size + 1) s4 l ∧ w.heap.size + 1 ≤ wr.heap.size ∧ Below w.heap.size w wr ∧ Has wr [(w.heap.size, 0, .int .i64 a), (w.heap.size, 1, .int .i64 b), (w.heap.size, 2, .int .i64 c), (w.heap.size, 3, .int .i64 d), (w.heap.size, 4, .int .i64 k)]) (fun _ v _ => (k + 1 - intOf v).toNat)
    case atStart => exact ⟨0, [], by omega, by simp, rfl, Lib.hid rfl, ⟨by simp, World.ownsRow_nil _ _ _ _⟩, (by first | omega | (simp <;> omega)), (by (first | with_reducible exact Below.refl _ _ | with_reducible assumption | (repeat (with_reducible first | exact Below.refl _ _ | assumption | refine Below.drew ?_ | refine Below.alloc ?_ (by first | omega | (simp <;> omega)) _ | refine Below.setCell ?_ (by first | omega | (simp <;> omega)) _ | refine below_drewN ?_ _)))), (by apply Has.weak; (focus (repeat (with_reducible first | assumption | apply Has.alloc5 | apply Has.alloc2 | apply Has.alloc1 | apply Has.alloc3 | apply Has.drew | apply Has.drewN | apply Has.set_ | apply Has.allocx | exact Has.nil _))); simp [upd, *])⟩
    case round =>
      obtain ⟨j, l, hj, hlj, rfl, HW, hI, hz1, hB, hh⟩ := hrel
      have hq := hh
      simp only [Has, and_true] at hq
      have hwr := hB.size
      by_cases hlt : (j : Int) ≤ k
      · rcases tf (wholeB a b c d k j) with hwb | hwb
        · go_wp2_with (first
            | (go_at_call 115; refine (mvWhole_any _ _ _ _ _ _ _ hm (by omega) (by omega)).mono ?_; rintro e w' ⟨rfl, hb⟩; have hz : w.heap.size + 1 ≤ w'.heap.size := (by have := hb.size; first | omega | (simp at this; omega)); have hB : Below w.heap.size w w' := (by refine Below.trans ?_ (hb.mono (by first | omega | (simp <;> omega))); (first | with_reducible exact Below.refl _ _ | with_reducible assumption | (repeat (with_reducible first | exact Below.refl _ _ | assumption | refine Below.drew ?_ | refine Below.alloc ?_ (by first | omega | (simp <;> omega)) _ | refine Below.setCell ?_ (by first | omega | (simp <;> omega)) _ | refine below_drewN ?_ _)))); have hh := Has.below (by (repeat (with_reducible first | assumption | apply Has.alloc5 | apply Has.alloc2 | apply Has.alloc1 | apply Has.alloc3 | apply Has.drew | apply Has.drewN | apply Has.set_ | apply Has.allocx | exact Has.nil _))) hb; (try simp only [World.size_alloc, World.size_setCell, World.size_drew, World.heap_drewN] at hh); have hq := hh; simp only [Has, upd, World.size_alloc, World.size_setCell, World.size_drew, World.heap_drewN, and_true, true_and, ite_true, ite_false, and_self, Nat.add_right_cancel_iff, Nat.add_eq_left, Nat.left_eq_add, reduceCtorEq, Nat.reduceEqDiff, if_true, if_false] at hq; have hs := hb.size; (try simp only [World.size_alloc, World.size_setCell, World.size_drew, World.heap_drewN] at hs); have hn0 : w.heap.size ≠ w'.heap.size := (by omega); have hm0 : w'.heap.size ≠ w.heap.size := (by omega); have hI2 := hI.below hb (Nat.le_refl _); clear hb)
            | (at_builtin
               refine wpList_append_own _ rfl _ _ 34 rfl (w.heap.size + 1) 3 i0 (.int .i64 0) 1 8 Try.underlying34 HI.out HZ0.out HZ1.out HZ2.out rfl (by decide) _ _ _ rfl (hI2.2.alloc _) ⟨w'.heap.size, 0, none⟩ 1 1 [.int .i64 (j : Int)] rfl rfl ?c1 ?c2 ?c3 ?c4 ?c5 ?_
               case c1 => exact cell_one_new _ _ _
               case c2 => intro u hu; simp at hu; subst hu; rfl
               case c3 => simp only [maxLen]; omega
               case c4 => omega
               case c5 => simp; omega
               intro v' w2 hown' hgrow _
               have hI3 := IRow.snoc (by omega) hown'
               have hlow := World.ownsRow.lt hI2.2
               have hB2 : Below w.heap.size w w2 := Below.grown (Below.alloc hB (by first | omega | (simp <;> omega)) _) hgrow (by first | omega | (simp <;> omega)) (fun r hr => by have := (hlow r hr).1; omega)
               have hh2 : Has w2 [(w.heap.size, 0, .int .i64 a), (w.heap.size, 1, .int .i64 b), (w.heap.size, 2, .int .i64 c), (w.heap.size, 3, .int .i64 d), (w.heap.size, 4, .int .i64 k)] := Has.grown (Has.allocx hh) hgrow (fun e he hr => by
                 have := (hlow _ hr.symm).1
                 simp at he
                 rcases he with rfl | rfl | rfl | rfl | rfl <;> (have h9 : w.heap.size + 1 ≤ w.heap.size := this; omega))
               have hz2 : w.heap.size + 1 ≤ w2.heap.size := by have := hgrow.size; simp at this; omega
               have HW2 : Hid (wholeTo a b c d k (j + 1) = l ++ [(j : Int)]) := by show _ = _; rw [wholeTo_yes hwb, HW.out]
               clear hown' hgrow hlow hB hq hh hI hI2))
          go_roundw
          case rel => exact ⟨j + 1, l ++ [(j : Int)], by omega, by simp; omega, by go_num, HW2, hI3, hz2, hB2, hh2⟩
          case measure => simp [intOf]; omega
        · have HW2 : Hid (wholeTo a b c d k (j + 1) = l) := by show _ = _; rw [wholeTo_no hwb, HW.out]
          go_wp2_with (go_at_call 115; refine (mvWhole_any _ _ _ _ _ _ _ hm (by omega) (by omega)).mono ?_; rintro e w' ⟨rfl, hb⟩; have hz : w.heap.size + 1 ≤ w'.heap.size := (by have := hb.size; first | omega | (simp at this; omega)); have hB : Below w.heap.size w w' := (by refine Below.trans ?_ (hb.mono (by first | omega | (simp <;> omega))); (first | with_reducible exact Below.refl _ _ | with_reducible assumption | (repeat (with_reducible first | exact Below.refl _ _ | assumption | refine Below.drew ?_ | refine Below.alloc ?_ (by first | omega | (simp <;> omega)) _ | refine Below.setCell ?_ (by first | omega | (simp <;> omega)) _ | refine below_drewN ?_ _)))); have hh := Has.below (by (repeat (with_reducible first | assumption | apply Has.alloc5 | apply Has.alloc2 | apply Has.alloc1 | apply Has.alloc3 | apply Has.drew | apply Has.drewN | apply Has.set_ | apply Has.allocx | exact Has.nil _))) hb; (try simp only [World.size_alloc, World.size_setCell, World.size_drew, World.heap_drewN] at hh); have hq := hh; simp only [Has, upd, World.size_alloc, World.size_setCell, World.size_drew, World.heap_drewN, and_true, true_and, ite_true, ite_false, and_self, Nat.add_right_cancel_iff, Nat.add_eq_left, Nat.left_eq_add, reduceCtorEq, Nat.reduceEqDiff, if_true, if_false] at hq; have hs := hb.size; (try simp only [World.size_alloc, World.size_setCell, World.size_drew, World.heap_drewN] at hs); have hn0 : w.heap.size ≠ w'.heap.size := (by omega); have hm0 : w'.heap.size ≠ w.heap.size := (by omega); have hI2 := hI.below hb (Nat.le_refl _); clear hb)
          go_roundw
          case rel => exact ⟨j + 1, l, by omega, by omega, by go_num, HW2, hI2, by omega, hB, hh⟩
          case measure => simp [intOf]; omega
      · go_wp2
        go_ret2
        refine ⟨_, by rw [HM.out]; rfl, ?_, hB⟩
        rw [HM.out, show (k + 1).toNat = j by omega]
        simp only [HW.out]
        exact hI.more (by omega)
  · have HM : Hid (mWhole a b c d k = ([], false)) := by show _ = _; simp [mWhole, hm]
    go_enter Try.func38, Try.ntmps38
    go_wp2_with (first | (go_at_call 114; refine (mvGood_any _ _ _ _ _ _).mono ?_; rintro e w' ⟨rfl, hb⟩; have hz : w.heap.size + 1 ≤ w'.heap.size := (by have := hb.size; first | omega | (simp at this; omega)); have hB : Below w.heap.size w w' := (by refine Below.trans ?_ (hb.mono (by first | omega | (simp <;> omega))); (first | with_reducible exact Below.refl _ _ | with_reducible assumption | (repeat (with_reducible first | exact Below.refl _ _ | assumption | refine Below.drew ?_ | refine Below.alloc ?_ (by first | omega | (simp <;> omega)) _ | refine Below.setCell ?_ (by first | omega | (simp <;> omega)) _ | refine below_drewN ?_ _)))); have hh := Has.below (by (repeat (with_reducible first | assumption | apply Has.alloc5 | apply Has.alloc2 | apply Has.alloc1 | apply Has.alloc3 | apply Has.drew | apply Has.drewN | apply Has.set_ | apply Has.allocx | exact Has.nil _))) hb; (try simp only [World.size_alloc, World.size_setCell, World.size_drew, World.heap_drewN] at hh); have hq := hh; simp only [Has, upd, World.size_alloc, World.size_setCell, World.size_drew, World.heap_drewN, and_true, true_and, ite_true, ite_false, and_self, Nat.add_right_cancel_iff, Nat.add_eq_left, Nat.left_eq_add, reduceCtorEq, Nat.reduceEqDiff, if_true, if_false] at hq; have hs := hb.size; (try simp only [World.size_alloc, World.size_setCell, World.size_drew, World.heap_drewN] at hs); have hn0 : w.heap.size ≠ w'.heap.size := (by omega); have hm0 : w'.heap.size ≠ w.heap.size := (by omega); clear hb))
    go_ret2
    refine ⟨.slice none 0 0, by rw [HM.out]; rfl, ?_, (by (first | with_reducible exact Below.refl _ _ | with_reducible assumption | (repeat (with_reducible first | exact Below.refl _ _ | assumption | refine Below.drew ?_ | refine Below.alloc ?_ (by first | omega | (simp <;> omega)) _ | refine Below.setCell ?_ (by first | omega | (simp <;> omega)) _ | refine below_drewN ?_ _))))⟩
    rw [HM.out]
    exact ⟨by simp, World.ownsRow_nil _ _ _ _⟩

end Go.Proofs.Ytkadnmebijfacaa

