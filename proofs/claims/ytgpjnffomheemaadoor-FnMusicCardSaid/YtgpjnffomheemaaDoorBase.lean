/- Contracts of the small functions of the first statements: ranges, spots. -/
import Derived.Test.YtgpjnffomheemaaDoorRows
import Derived.WalkKit
import Derived.ProofKit
import Derived.Below
import Derived.Lib.Hide
import Derived.Outline
import Derived.Deep.Draws
namespace Go.Proofs.YtgpjnffomheemaaDoor
open Go.RowKit
set_option linter.unusedVariables false
set_option linter.unusedSimpArgs false

theorem bcell {W w1 : World} (hb : Below W.heap.size W w1) : (∀ b o, b < W.heap.size → w1.cell? ⟨b, o, none⟩ = W.cell? ⟨b, o, none⟩) ∧ (∀ b o, b < W.heap.size → w1.frozen? ⟨b, o, none⟩ = W.frozen? ⟨b, o, none⟩) :=
  ⟨fun b o h => hb.cell (p := ⟨b, o, none⟩) h, fun b o h => hb.frozen (p := ⟨b, o, none⟩) h⟩
theorem below_drewN {B : Nat} {a w : World} (h : Below B a w) (n : Nat) : Below B a (w.drewN n) := ⟨h.os, h.tape, h.output, h.size, h.block⟩

/-- cells of the call's own that are known: block, place, value; none of them frozen -/
def Has (w : World) : List (Nat × Nat × Value) → Prop
  | [] => True
  | (b, o, v) :: m => (w.cell? ⟨b, o, none⟩ = some v ∧ w.frozen? ⟨b, o, none⟩ = false) ∧ Has w m
def upd (b o : Nat) (v : Value) : List (Nat × Nat × Value) → List (Nat × Nat × Value)
  | [] => []
  | (b', o', v') :: m => (b', o', if b' = b ∧ o' = o then v else v') :: upd b o v m

theorem cell_lt {w : World} {b o : Nat} {v : Value} (h : w.cell? ⟨b, o, none⟩ = some v) : b < w.heap.size := by
  rcases Nat.lt_or_ge b w.heap.size with hlt | hge
  · exact hlt
  · simp [World.cell?, Array.getElem?_eq_none hge] at h
theorem Has.nil (w : World) : Has w [] := trivial
theorem Has.imp_ {w w' : World} (hc : ∀ b o, b < w.heap.size → w'.cell? ⟨b, o, none⟩ = w.cell? ⟨b, o, none⟩) (hf : ∀ b o, b < w.heap.size → w'.frozen? ⟨b, o, none⟩ = w.frozen? ⟨b, o, none⟩) : ∀ {m : List (Nat × Nat × Value)}, Has w m → Has w' m
  | [], _ => trivial
  | (b, o, v) :: m, h => ⟨⟨(hc b o (cell_lt h.1.1)).trans h.1.1, (hf b o (cell_lt h.1.1)).trans h.1.2⟩, Has.imp_ hc hf h.2⟩
theorem Has.below {W w' : World} {m : List (Nat × Nat × Value)} (h : Has W m) (hb : Below W.heap.size W w') : Has w' m := h.imp_ (bcell hb).1 (bcell hb).2
theorem Has.drew {w : World} {m : List (Nat × Nat × Value)} (h : Has w m) : Has w.drew m := Has.imp_ (w := w) (w' := w.drew) (fun _ _ _ => rfl) (fun _ _ _ => rfl) h
theorem Has.drewN {w : World} {m : List (Nat × Nat × Value)} {n : Nat} (h : Has w m) : Has (w.drewN n) m := Has.imp_ (w := w) (w' := w.drewN n) (fun _ _ _ => rfl) (fun _ _ _ => rfl) h
theorem Has.allocx {w : World} {m : List (Nat × Nat × Value)} {o : Obj} (h : Has w m) : Has (w.alloc o) m := h.below ((Below.refl _ _).alloc (Nat.le_refl _) o)
theorem Has.new {w : World} {m : List (Nat × Nat × Value)} {cs : Array Value} {t : TypeId} {o : Nat} {v : Value} (hv : cs[o]? = some v) (h : Has (w.alloc (.cells cs t)) m) : Has (w.alloc (.cells cs t)) ((w.heap.size, o, v) :: m) :=
  ⟨⟨by rw [cell_of_row _ _ _ _ _ (0, 0) (heap_alloc_new w _)]; exact hv, by unfold World.frozen?; rw [heap_alloc_new w (.cells cs t)]; simp⟩, h⟩
theorem Has.alloc1 {w : World} {m : List (Nat × Nat × Value)} {t : TypeId} {a : Value} (h : Has w m) : Has (w.alloc (.cells #[a] t)) ((w.heap.size, 0, a) :: m) := Has.new rfl h.allocx
theorem Has.alloc2 {w : World} {m : List (Nat × Nat × Value)} {t : TypeId} {a b : Value} (h : Has w m) : Has (w.alloc (.cells #[a, b] t)) ((w.heap.size, 0, a) :: (w.heap.size, 1, b) :: m) := Has.new rfl (Has.new rfl h.allocx)
theorem Has.alloc3 {w : World} {m : List (Nat × Nat × Value)} {t : TypeId} {a b c : Value} (h : Has w m) : Has (w.alloc (.cells #[a, b, c] t)) ((w.heap.size, 0, a) :: (w.heap.size, 1, b) :: (w.heap.size, 2, c) :: m) := Has.new rfl (Has.new rfl (Has.new rfl h.allocx))
theorem Has.alloc5 {w : World} {m : List (Nat × Nat × Value)} {t : TypeId} {a b c d e : Value} (h : Has w m) : Has (w.alloc (.cells #[a, b, c, d, e] t)) ((w.heap.size, 0, a) :: (w.heap.size, 1, b) :: (w.heap.size, 2, c) :: (w.heap.size, 3, d) :: (w.heap.size, 4, e) :: m) := Has.new rfl (Has.new rfl (Has.new rfl (Has.new rfl (Has.new rfl h.allocx))))
theorem Has_iff (w : World) : ∀ m, Has w m ↔ ∀ e ∈ m, w.cell? ⟨e.1, e.2.1, none⟩ = some e.2.2 ∧ w.frozen? ⟨e.1, e.2.1, none⟩ = false
  | [] => by simp [Has]
  | (b, o, v) :: m => by simp [Has, Has_iff w m]
theorem Has.weak {w : World} {m l : List (Nat × Nat × Value)} (h : Has w m) (hs : ∀ e ∈ l, e ∈ m) : Has w l := (Has_iff w l).2 fun e he => (Has_iff w m).1 h e (hs e he)
theorem Has.get {w : World} {m : List (Nat × Nat × Value)} {b o : Nat} {v : Value} (h : Has w m) (hs : (b, o, v) ∈ m) : w.cell? ⟨b, o, none⟩ = some v := ((Has_iff w m).1 h _ hs).1
theorem frozen_setCell (w : World) (p q : Addr) (u : Value) : (w.setCell p u).frozen? q = w.frozen? q := by simp
theorem Has.set_ {w : World} {b o : Nat} {v : Value} : ∀ {m : List (Nat × Nat × Value)}, Has w m → Has (w.setCell ⟨b, o, none⟩ v) (upd b o v m)
  | [], _ => trivial
  | (b', o', v') :: m, h => by
    refine ⟨⟨?_, by rw [frozen_setCell]; exact h.1.2⟩, Has.set_ h.2⟩
    by_cases e : b' = b ∧ o' = o
    · obtain ⟨rfl, rfl⟩ := e
      simp only [and_self, if_true]
      exact World.cell?_setCell_same w _ v h.1.1
    · rw [if_neg e, World.cell?_setCell_other _ _ _ _ (fun he => e (by injection he with e1 e2; exact ⟨e1.symm, e2.symm⟩))]
      exact h.1.1

def inB (n lo hi : Int) : Bool := decide (lo ≤ n) && decide (n ≤ hi)
def goodB (x y : Int) : Bool := inB x 0 1280 && inB y 0 672
theorem tf (b : Bool) : b = true ∨ b = false := by cases b <;> simp

theorem within_any (n lo hi : Int) (w : World) :
    Calls Tryd.prog 60 #[.int .i64 n, .int .i64 lo, .int .i64 hi] w fun e w' => e = .returned (.bool (inB n lo hi)) ∧ w = w' := by
  by_cases h1 : lo ≤ n <;> by_cases h2 : n ≤ hi
  all_goals
    go_enter Tryd.func60, Tryd.ntmps60
    go_wp2
    go_ret
    exact ⟨by simp [inB, h1, h2], rfl⟩

theorem l1In_any (n lo hi : Int) (w : World) :
    Calls Tryd.prog 67 #[.int .i64 n, .int .i64 lo, .int .i64 hi] w fun e w' => e = .returned (.bool (inB n lo hi)) ∧ w = w' := by
  by_cases h1 : lo ≤ n <;> by_cases h2 : n ≤ hi
  all_goals
    go_enter Tryd.func67, Tryd.ntmps67
    go_wp2
    go_ret
    exact ⟨by simp [inB, h1, h2], rfl⟩

theorem iIsSpot_any (x y : Int) (w : World) :
    Calls Tryd.prog 14 #[.agg #[.int .i64 x, .int .i64 y]] w fun e w' => e = .returned (.bool (goodB x y)) ∧ Below w.heap.size w w' := by
  rcases tf (inB x 0 1280) with hx | hx
  all_goals
    go_enter Tryd.func14, Tryd.ntmps14
    go_wp2_with (go_at_call 60; refine (within_any _ _ _ _).mono ?_; rintro e w' ⟨rfl, rfl⟩)
    go_ret
    exact ⟨by simp [goodB, hx], (by (first | with_reducible exact Below.refl _ _ | with_reducible assumption | (repeat (with_reducible first | exact Below.refl _ _ | assumption | refine Below.drew ?_ | refine Below.alloc ?_ (by first | omega | (simp <;> omega)) _ | refine Below.setCell ?_ (by first | omega | (simp <;> omega)) _ | refine below_drewN ?_ _))))⟩

theorem stGood_any (x y : Int) (w : World) :
    Calls Tryd.prog 57 #[.agg #[.int .i64 x, .int .i64 y]] w fun e w' => e = .returned (.bool (goodB x y)) ∧ Below w.heap.size w w' := by
  rcases tf (inB x 0 1280) with hx | hx
  all_goals
    go_enter Tryd.func57, Tryd.ntmps57
    go_wp2_with (go_at_call 67; refine (l1In_any _ _ _ _).mono ?_; rintro e w' ⟨rfl, rfl⟩)
    go_ret
    exact ⟨by simp [goodB, hx], (by (first | with_reducible exact Below.refl _ _ | with_reducible assumption | (repeat (with_reducible first | exact Below.refl _ _ | assumption | refine Below.drew ?_ | refine Below.alloc ?_ (by first | omega | (simp <;> omega)) _ | refine Below.setCell ?_ (by first | omega | (simp <;> omega)) _ | refine below_drewN ?_ _))))⟩

end Go.Proofs.YtgpjnffomheemaaDoor

