/- Contracts of the small functions of the first statements: ranges, spots. -/
import Derived.Test.YtaaccldphlljpaaRows
import Derived.WalkKit
import Derived.ProofKit
import Derived.Below
import Derived.Lib.Hide
import Derived.Outline
import Derived.Deep.Draws
namespace Go.Proofs.Ytaaccldphlljpaa
open Go.RowKit
set_option linter.unusedVariables false

theorem bcell {W w1 : World} (hb : Below W.heap.size W w1) : (∀ b o, b < W.heap.size → w1.cell? ⟨b, o, none⟩ = W.cell? ⟨b, o, none⟩) ∧ (∀ b o, b < W.heap.size → w1.frozen? ⟨b, o, none⟩ = W.frozen? ⟨b, o, none⟩) :=
  ⟨fun b o h => hb.cell (p := ⟨b, o, none⟩) h, fun b o h => hb.frozen (p := ⟨b, o, none⟩) h⟩
theorem below_drewN {B : Nat} {a w : World} (h : Below B a w) (n : Nat) : Below B a (w.drewN n) := ⟨h.os, h.tape, h.output, h.size, h.block⟩

def inB (n lo hi : Int) : Bool := decide (lo ≤ n) && decide (n ≤ hi)
def goodB (x y : Int) : Bool := inB x 0 1280 && inB y 0 672
theorem tf (b : Bool) : b = true ∨ b = false := by cases b <;> simp

theorem within_any (n lo hi : Int) (w : World) :
    Calls Try.prog 41 #[.int .i64 n, .int .i64 lo, .int .i64 hi] w fun e w' => e = .returned (.bool (inB n lo hi)) ∧ w = w' := by
  by_cases h1 : lo ≤ n <;> by_cases h2 : n ≤ hi
  all_goals
    go_enter Try.func41, Try.ntmps41
    go_wp2
    go_ret
    exact ⟨by simp [inB, h1, h2], rfl⟩

theorem l1In_any (n lo hi : Int) (w : World) :
    Calls Try.prog 43 #[.int .i64 n, .int .i64 lo, .int .i64 hi] w fun e w' => e = .returned (.bool (inB n lo hi)) ∧ w = w' := by
  by_cases h1 : lo ≤ n <;> by_cases h2 : n ≤ hi
  all_goals
    go_enter Try.func43, Try.ntmps43
    go_wp2
    go_ret
    exact ⟨by simp [inB, h1, h2], rfl⟩

theorem iIsSpot_any (x y : Int) (w : World) :
    Calls Try.prog 17 #[.agg #[.int .i64 x, .int .i64 y]] w fun e w' => e = .returned (.bool (goodB x y)) ∧ Below w.heap.size w w' := by
  rcases tf (inB x 0 1280) with hx | hx
  all_goals
    go_enter Try.func17, Try.ntmps17
    go_wp2_with (go_at_call 41; refine (within_any _ _ _ _).mono ?_; rintro e w' ⟨rfl, rfl⟩)
    go_ret
    exact ⟨by simp [goodB, hx], (by (first | exact Below.refl _ _ | assumption | (repeat (first | exact Below.refl _ _ | assumption | refine Below.drew ?_ | refine Below.alloc ?_ (by first | omega | (simp <;> omega)) _ | refine Below.setCell ?_ (by first | omega | (simp <;> omega)) _ | refine below_drewN ?_ _))))⟩

theorem stGood_any (x y : Int) (w : World) :
    Calls Try.prog 40 #[.agg #[.int .i64 x, .int .i64 y]] w fun e w' => e = .returned (.bool (goodB x y)) ∧ Below w.heap.size w w' := by
  rcases tf (inB x 0 1280) with hx | hx
  all_goals
    go_enter Try.func40, Try.ntmps40
    go_wp2_with (go_at_call 43; refine (l1In_any _ _ _ _).mono ?_; rintro e w' ⟨rfl, rfl⟩)
    go_ret
    exact ⟨by simp [goodB, hx], (by (first | exact Below.refl _ _ | assumption | (repeat (first | exact Below.refl _ _ | assumption | refine Below.drew ?_ | refine Below.alloc ?_ (by first | omega | (simp <;> omega)) _ | refine Below.setCell ?_ (by first | omega | (simp <;> omega)) _ | refine below_drewN ?_ _))))⟩

theorem sIsSpot_any (x y : Int) (w : World) :
    Calls Try.prog 15 #[.agg #[.int .i64 x, .int .i64 y]] w fun e w' => e = .returned (.bool (goodB x y)) ∧ Below w.heap.size w w' := by
  go_enter Try.func15, Try.ntmps15
  go_wp2_with (go_at_call 40; refine (stGood_any _ _ _).mono ?_; rintro e w' ⟨rfl, hb⟩; obtain ⟨hc, hf⟩ := bcell hb; have hz : w.heap.size ≤ w'.heap.size := (by have := hb.size; first | omega | (simp at this; omega)); have hz0 : w.heap.size < w'.heap.size := (by have := hb.size; first | omega | (simp at this; omega)); have hB : Below w.heap.size w w' := (by refine Below.trans ?_ (hb.mono (by first | omega | (simp <;> omega))); (first | exact Below.refl _ _ | assumption | (repeat (first | exact Below.refl _ _ | assumption | refine Below.drew ?_ | refine Below.alloc ?_ (by first | omega | (simp <;> omega)) _ | refine Below.setCell ?_ (by first | omega | (simp <;> omega)) _ | refine below_drewN ?_ _)))); clear hb)
  go_ret
  exact ⟨rfl, (by (first | exact Below.refl _ _ | assumption | (repeat (first | exact Below.refl _ _ | assumption | refine Below.drew ?_ | refine Below.alloc ?_ (by first | omega | (simp <;> omega)) _ | refine Below.setCell ?_ (by first | omega | (simp <;> omega)) _ | refine below_drewN ?_ _))))⟩

theorem toSpot_any (x y : Int) (w : World) :
    Calls Try.prog 16 #[.agg #[.int .i64 x, .int .i64 y]] w fun e w' => e = .returned (.agg #[.int .i64 x, .int .i64 y]) ∧ Below w.heap.size w w' := by
  go_enter Try.func16, Try.ntmps16
  go_wp2
  exact bodyPost_ret (v := .agg #[.int .i64 x, .int .i64 y]) (by simp [results, Try.results16, go_sem]) rfl ⟨rfl, (by (first | exact Below.refl _ _ | assumption | (repeat (first | exact Below.refl _ _ | assumption | refine Below.drew ?_ | refine Below.alloc ?_ (by first | omega | (simp <;> omega)) _ | refine Below.setCell ?_ (by first | omega | (simp <;> omega)) _ | refine below_drewN ?_ _))))⟩

theorem walk_FnExactIsSpot (x y : Int) (w : World) (wx : (Lit.int .i64 x).wf = true) (wy : (Lit.int .i64 y).wf = true) :
    Calls Try.prog 4 #[.agg #[.int .i64 x, .int .i64 y]] w fun e w' => e = .returned (.bool true) ∧ Below w.heap.size w w' := by
  go_enter Try.func4, Try.ntmps4
  go_wp2_with (first | (go_at_call 16; refine (toSpot_any _ _ _).mono ?_; rintro e w' ⟨rfl, hb⟩; obtain ⟨hc, hf⟩ := bcell hb; have hz : w.heap.size ≤ w'.heap.size := (by have := hb.size; first | omega | (simp at this; omega)); have hz0 : w.heap.size < w'.heap.size := (by have := hb.size; first | omega | (simp at this; omega)); have hB : Below w.heap.size w w' := (by refine Below.trans ?_ (hb.mono (by first | omega | (simp <;> omega))); (first | exact Below.refl _ _ | assumption | (repeat (first | exact Below.refl _ _ | assumption | refine Below.drew ?_ | refine Below.alloc ?_ (by first | omega | (simp <;> omega)) _ | refine Below.setCell ?_ (by first | omega | (simp <;> omega)) _ | refine below_drewN ?_ _)))); clear hb) | (go_at_call 15; refine (sIsSpot_any _ _ _).mono ?_; rintro e w' ⟨rfl, hb⟩; obtain ⟨hc, hf⟩ := bcell hb; have hz : w.heap.size ≤ w'.heap.size := (by have := hb.size; first | omega | (simp at this; omega)); have hz0 : w.heap.size < w'.heap.size := (by have := hb.size; first | omega | (simp at this; omega)); have hB : Below w.heap.size w w' := (by refine Below.trans ?_ (hb.mono (by first | omega | (simp <;> omega))); (first | exact Below.refl _ _ | assumption | (repeat (first | exact Below.refl _ _ | assumption | refine Below.drew ?_ | refine Below.alloc ?_ (by first | omega | (simp <;> omega)) _ | refine Below.setCell ?_ (by first | omega | (simp <;> omega)) _ | refine below_drewN ?_ _)))); clear hb) | (go_at_call 17; refine (iIsSpot_any _ _ _).mono ?_; rintro e w' ⟨rfl, hb⟩; obtain ⟨hc, hf⟩ := bcell hb; have hz : w.heap.size ≤ w'.heap.size := (by have := hb.size; first | omega | (simp at this; omega)); have hz0 : w.heap.size < w'.heap.size := (by have := hb.size; first | omega | (simp at this; omega)); have hB : Below w.heap.size w w' := (by refine Below.trans ?_ (hb.mono (by first | omega | (simp <;> omega))); (first | exact Below.refl _ _ | assumption | (repeat (first | exact Below.refl _ _ | assumption | refine Below.drew ?_ | refine Below.alloc ?_ (by first | omega | (simp <;> omega)) _ | refine Below.setCell ?_ (by first | omega | (simp <;> omega)) _ | refine below_drewN ?_ _)))); clear hb))

  go_ret
  exact ⟨rfl, (by (first | exact Below.refl _ _ | assumption | (repeat (first | exact Below.refl _ _ | assumption | refine Below.drew ?_ | refine Below.alloc ?_ (by first | omega | (simp <;> omega)) _ | refine Below.setCell ?_ (by first | omega | (simp <;> omega)) _ | refine below_drewN ?_ _))))⟩
end Go.Proofs.Ytaaccldphlljpaa
