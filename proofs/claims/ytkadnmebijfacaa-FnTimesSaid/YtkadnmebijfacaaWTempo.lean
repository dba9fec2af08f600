/- Contracts of WithTempo, of the program and of the reference. -/
import Derived.Test.YtkadnmebijfacaaMusic
import Derived.Test.YtkadnmebijfacaaMRow
namespace Go.Proofs.Ytkadnmebijfacaa
open Go.RowKit
set_option linter.unusedVariables false
set_option linter.unusedSimpArgs false
set_option maxRecDepth 100000

theorem addr_plus (b off n : Nat) : (Addr.mk b off none).add n = ⟨b, off + n, none⟩ := by
  unfold Addr.add
  by_cases h : n = 0 <;> simp [h]
theorem flat2_take : ∀ (l : List (Int × Int)) (m : Nat), flat2 (l.take m) = (flat2 l).take (m * 2)
  | [], m => by simp [flat2]
  | p :: l, 0 => by simp [flat2]
  | p :: l, m + 1 => by
    have := flat2_take l m
    rw [show (m + 1) * 2 = m * 2 + 2 by omega]
    simpa [flat2] using this
theorem flat2_drop : ∀ (l : List (Int × Int)) (m : Nat), flat2 (l.drop m) = (flat2 l).drop (m * 2)
  | [], m => by simp [flat2]
  | p :: l, 0 => by simp [flat2]
  | p :: l, m + 1 => by
    have := flat2_drop l m
    rw [show (m + 1) * 2 = m * 2 + 2 by omega]
    simpa [flat2] using this
theorem flat2_app (l m : List (Int × Int)) : flat2 (l ++ m) = flat2 l ++ flat2 m := by simp [flat2]
theorem flat2_cells (l : List (Int × Int)) : ∀ u ∈ flat2 l, u.oneCell' = true := by
  intro u hu
  simp only [flat2, List.mem_flatMap] at hu
  obtain ⟨p, _, hp⟩ := hu
  simp at hp
  rcases hp with rfl | rfl <;> rfl
/-- the cells of a list that is read, from place a on -/
theorem Lst.news {w : World} {g n a : Nat} {l : List (Int × Int)} (h : Lst w (some ⟨g, 0, none⟩) n l) (m : Nat) : ∀ j u, (flat2 ((l.drop a).take m))[j]? = some u → w.cell? ((⟨g, a * 2, none⟩ : Addr).add j) = some u := by
  intro j u hu
  rw [flat2_take, flat2_drop, List.getElem?_take] at hu
  split at hu
  · rw [List.getElem?_drop] at hu
    have hlt : a * 2 + j < l.length * 2 := by
      rcases Nat.lt_or_ge (a * 2 + j) (flat2 l).length with h' | h'
      · rwa [flat2_len] at h'
      · rw [List.getElem?_eq_none h'] at hu; cases hu
    obtain ⟨g', hg, _, hc⟩ := h.2.2 (by have := h.1; omega)
    cases hg
    rw [addr_plus]
    have hk : (a * 2 + j) / 2 < l.length := by omega
    have hcc := hc _ hk
    have f := flat2_get l _ hk
    rcases Nat.mod_two_eq_zero_or_one (a * 2 + j) with e | e
    · have e1 : (a * 2 + j) / 2 * 2 = a * 2 + j := by omega
      rw [e1] at hcc f
      rw [← hu, f.1]; exact hcc.1.1
    · have e1 : (a * 2 + j) / 2 * 2 + 1 = a * 2 + j := by omega
      rw [e1] at hcc f
      rw [← hu, f.2]; exact hcc.2.1
  · cases hu
theorem Lst.newsAll {w : World} {g n : Nat} {l : List (Int × Int)} (h : Lst w (some ⟨g, 0, none⟩) n l) : ∀ j u, (flat2 l)[j]? = some u → w.cell? ((⟨g, 0, none⟩ : Addr).add j) = some u := by
  intro j u hu
  have := Lst.news (a := 0) h n j u
  rw [List.drop_zero, List.take_of_length_le (by rw [h.1]; exact Nat.le_refl _)] at this
  simpa using this hu

def rngB (l : List (Int × Int)) (f t : Int) : Bool := musB l && decide (0 ≤ f) && decide (f ≤ t) && decide (t < l.length)
theorem rngB_iff (l : List (Int × Int)) (f t : Int) : rngB l f t = true ↔ musB l = true ∧ 0 ≤ f ∧ f ≤ t ∧ t < l.length := by simp [rngB, and_assoc]

theorem muRange_any (A : Option Addr) (n c : Nat) (l : List (Int × Int)) (f t : Int) (w : World) (hp : Lst w A n l) :
    Calls Try.prog 143 #[.slice A n c, .int .i64 f, .int .i64 t] w fun e w' => e = .returned (.bool (rngB l f t)) ∧ Below w.heap.size w w' := by
  have HL := Lib.hid hp.1
  have hn := hp.2.1
  rcases tf (musB l) with h1 | h1
  · rcases tf (inB f 0 t) with h2 | h2
    all_goals
      have HE : Hid (rngB l f t = (inB f 0 t && inB t f (n - 1))) := by
        show _ = _
        rw [← HL.out, Bool.eq_iff_iff]
        simp only [rngB, h1, inB, Bool.true_and, Bool.and_eq_true, decide_eq_true_eq]
        omega
      go_enter Try.func143, Try.ntmps143
      go_wp2_with (first | (go_at_call 134; refine (muGood_any _ _ _ _ _ hp).mono ?_; rintro e w' ⟨rfl, hb⟩; have hz : w.heap.size ≤ w'.heap.size := (by have := hb.size; first | omega | (simp at this; omega)); have hB : Below w.heap.size w w' := (by refine Below.trans ?_ (hb.mono (by first | omega | (simp <;> omega))); (first | with_reducible exact Below.refl _ _ | with_reducible assumption | (repeat (with_reducible first | exact Below.refl _ _ | assumption | refine Below.drew ?_ | refine Below.alloc ?_ (by first | omega | (simp <;> omega)) _ | refine Below.setCell ?_ (by first | omega | (simp <;> omega)) _ | refine below_drewN ?_ _)))); have hh := Has.below (by (repeat (with_reducible first | assumption | apply Has.alloc5 | apply Has.alloc2 | apply Has.alloc1 | apply Has.alloc3 | apply Has.drew | apply Has.drewN | apply Has.set_ | apply Has.allocx | exact Has.nil _))) hb; (try simp only [World.size_alloc, World.size_setCell, World.size_drew, World.heap_drewN] at hh); have hq := hh; simp only [Has, upd, World.size_alloc, World.size_setCell, World.size_drew, World.heap_drewN, and_true, true_and, ite_true, ite_false, and_self, Nat.add_right_cancel_iff, Nat.add_eq_left, Nat.left_eq_add, reduceCtorEq, Nat.reduceEqDiff, if_true, if_false] at hq; have hs := hb.size; (try simp only [World.size_alloc, World.size_setCell, World.size_drew, World.heap_drewN] at hs); clear hb) | (go_at_call 106; refine (l1In_any _ _ _ _).mono ?_; rintro e w' ⟨rfl, rfl⟩))
      go_ret
      exact ⟨by rw [HE.out]; simp [h2], (by (first | with_reducible exact Below.refl _ _ | with_reducible assumption | (repeat (with_reducible first | exact Below.refl _ _ | assumption | refine Below.drew ?_ | refine Below.alloc ?_ (by first | omega | (simp <;> omega)) _ | refine Below.setCell ?_ (by first | omega | (simp <;> omega)) _ | refine below_drewN ?_ _))))⟩
  · go_enter Try.func143, Try.ntmps143
    go_wp2_with (first | (go_at_call 134; refine (muGood_any _ _ _ _ _ hp).mono ?_; rintro e w' ⟨rfl, hb⟩; have hz : w.heap.size ≤ w'.heap.size := (by have := hb.size; first | omega | (simp at this; omega)); have hB : Below w.heap.size w w' := (by refine Below.trans ?_ (hb.mono (by first | omega | (simp <;> omega))); (first | with_reducible exact Below.refl _ _ | with_reducible assumption | (repeat (with_reducible first | exact Below.refl _ _ | assumption | refine Below.drew ?_ | refine Below.alloc ?_ (by first | omega | (simp <;> omega)) _ | refine Below.setCell ?_ (by first | omega | (simp <;> omega)) _ | refine below_drewN ?_ _)))); have hh := Has.below (by (repeat (with_reducible first | assumption | apply Has.alloc5 | apply Has.alloc2 | apply Has.alloc1 | apply Has.alloc3 | apply Has.drew | apply Has.drewN | apply Has.set_ | apply Has.allocx | exact Has.nil _))) hb; (try simp only [World.size_alloc, World.size_setCell, World.size_drew, World.heap_drewN] at hh); have hq := hh; simp only [Has, upd, World.size_alloc, World.size_setCell, World.size_drew, World.heap_drewN, and_true, true_and, ite_true, ite_false, and_self, Nat.add_right_cancel_iff, Nat.add_eq_left, Nat.left_eq_add, reduceCtorEq, Nat.reduceEqDiff, if_true, if_false] at hq; have hs := hb.size; (try simp only [World.size_alloc, World.size_setCell, World.size_drew, World.heap_drewN] at hs); clear hb) | (go_at_call 106; refine (l1In_any _ _ _ _).mono ?_; rintro e w' ⟨rfl, rfl⟩))
    go_ret
    exact ⟨by simp [rngB, h1], (by (first | with_reducible exact Below.refl _ _ | with_reducible assumption | (repeat (with_reducible first | exact Below.refl _ _ | assumption | refine Below.drew ?_ | refine Below.alloc ?_ (by first | omega | (simp <;> omega)) _ | refine Below.setCell ?_ (by first | omega | (simp <;> omega)) _ | refine below_drewN ?_ _))))⟩

def wtTo (l : List (Int × Int)) (F : Nat) (t : Int) : Nat → List (Int × Int)
  | 0 => l
  | j + 1 => (wtTo l F t j).set (F + j) (((wtTo l F t j).getD (F + j) (0, 0)).1, t)
theorem wtTo_len (l : List (Int × Int)) (F : Nat) (t : Int) : ∀ j, (wtTo l F t j).length = l.length
  | 0 => rfl
  | j + 1 => by simp [wtTo, wtTo_len l F t j]
def mWithTempo (l : List (Int × Int)) (f t p : Int) : List (Int × Int) × Bool := if rngB l f t && inB p 40 220 then (wtTo l f.toNat p (t - f + 1).toNat, true) else ([], false)
theorem mWithTempo_bad {l : List (Int × Int)} {f t p : Int} (h : (rngB l f t && inB p 40 220) = false) : mWithTempo l f t p = ([], false) := by simp [mWithTempo, h]

theorem rowTo_set1 {w : World} {g n k : Nat} {l : List (Int × Int)} {t : Int} (h : RowTo w g n n l) (hk : k < n) : RowTo (w.setCell ⟨g, k * 2 + 1, none⟩ (.int .i64 t)) g n n (l.set k ((l.getD k (0, 0)).1, t)) := by
  obtain ⟨h1, h2, h3, h4⟩ := h
  have ne : ∀ j, j ≠ k * 2 + 1 → (w.setCell ⟨g, k * 2 + 1, none⟩ (.int .i64 t)).cell? ⟨g, j, none⟩ = w.cell? ⟨g, j, none⟩ := fun j hj => World.cell?_setCell_other _ _ _ _ (by intro he; injection he; omega)
  have same : (w.setCell ⟨g, k * 2 + 1, none⟩ (.int .i64 t)).cell? ⟨g, k * 2 + 1, none⟩ = some (.int .i64 t) := by
    obtain ⟨⟨v, hv⟩, _⟩ := h3 (k * 2 + 1) (by omega)
    exact World.cell?_setCell_same _ _ _ hv
  refine ⟨by simpa using h1, by simpa using h2, fun j hj => ⟨?_, by simpa using (h3 j hj).2⟩, fun i hi hin => ?_⟩
  · by_cases e : j = k * 2 + 1
    · subst e; exact ⟨_, same⟩
    · obtain ⟨⟨v, hv⟩, _⟩ := h3 j hj; exact ⟨v, (ne j e).trans hv⟩
  · have hil : i < l.length := by omega
    have c := h4 i hil hin
    by_cases e : i = k
    · subst e
      rw [ne _ (by omega)]
      simp only [List.getElem_set_self]
      refine ⟨?_, same⟩
      rw [c.1]; simp [List.getD, hil]
    · rw [ne _ (by omega), ne _ (by omega), List.getElem_set_ne (by omega)]
      exact c

set_option maxHeartbeats 8000000 in
theorem iWTempo_any (A : Option Addr) (n c : Nat) (l : List (Int × Int)) (f t p : Int) (r : List (Int × Int)) (ok : Bool) (w : World) (hp : Lst w A n l) (hm : mWithTempo l f t p = (r, ok)) :
    Calls Try.prog 82 #[.slice A n c, .int .i64 f, .int .i64 t, .int .i64 p] w (RetMeas w r ok) := by
  have HL := Lib.hid hp.1
  have hn := hp.2.1
  have HM := Lib.hid hm
  clear hm
  rcases tf (musB l) with h1 | h1
  rotate_left
  · obtain ⟨rfl, rfl⟩ : r = [] ∧ ok = false := by have := HM.out.symm.trans (mWithTempo_bad (by simp [rngB, h1])); injection this with a b; exact ⟨a, b⟩
    go_enter Try.func82, Try.ntmps82
    go_wp2_with (first | (go_at_call 137; refine (iIsMusic_any _ _ _ _ _ hp).mono ?_; rintro e w' ⟨rfl, hb⟩; have hz : w.heap.size ≤ w'.heap.size := (by have := hb.size; first | omega | (simp at this; omega)); have hB : Below w.heap.size w w' := (by refine Below.trans ?_ (hb.mono (by first | omega | (simp <;> omega))); (first | with_reducible exact Below.refl _ _ | with_reducible assumption | (repeat (with_reducible first | exact Below.refl _ _ | assumption | refine Below.drew ?_ | refine Below.alloc ?_ (by first | omega | (simp <;> omega)) _ | refine Below.setCell ?_ (by first | omega | (simp <;> omega)) _ | refine below_drewN ?_ _)))); have hh := Has.below (by (repeat (with_reducible first | assumption | apply Has.alloc5 | apply Has.alloc2 | apply Has.alloc1 | apply Has.alloc3 | apply Has.drew | apply Has.drewN | apply Has.set_ | apply Has.allocx | exact Has.nil _))) hb; (try simp only [World.size_alloc, World.size_setCell, World.size_drew, World.heap_drewN] at hh); have hq := hh; simp only [Has, upd, World.size_alloc, World.size_setCell, World.size_drew, World.heap_drewN, and_true, true_and, ite_true, ite_false, and_self, Nat.add_right_cancel_iff, Nat.add_eq_left, Nat.left_eq_add, reduceCtorEq, Nat.reduceEqDiff, if_true, if_false] at hq; have hs := hb.size; (try simp only [World.size_alloc, World.size_setCell, World.size_drew, World.heap_drewN] at hs); clear hb) | (go_at_call 105; refine (within_any _ _ _ _).mono ?_; rintro e w' ⟨rfl, rfl⟩))
    go_ret2
    exact RetMeas.nil w (by (first | with_reducible exact Below.refl _ _ | with_reducible assumption | (repeat (with_reducible first | exact Below.refl _ _ | assumption | refine Below.drew ?_ | refine Below.alloc ?_ (by first | omega | (simp <;> omega)) _ | refine Below.setCell ?_ (by first | omega | (simp <;> omega)) _ | refine below_drewN ?_ _))))
  rcases Int.lt_or_le f 0 with h2 | h2
  · obtain ⟨rfl, rfl⟩ : r = [] ∧ ok = false := by have := HM.out.symm.trans (mWithTempo_bad (by simp [rngB]; omega)); injection this with a b; exact ⟨a, b⟩
    go_enter Try.func82, Try.ntmps82
    go_wp2_with (first | (go_at_call 137; refine (iIsMusic_any _ _ _ _ _ hp).mono ?_; rintro e w' ⟨rfl, hb⟩; have hz : w.heap.size ≤ w'.heap.size := (by have := hb.size; first | omega | (simp at this; omega)); have hB : Below w.heap.size w w' := (by refine Below.trans ?_ (hb.mono (by first | omega | (simp <;> omega))); (first | with_reducible exact Below.refl _ _ | with_reducible assumption | (repeat (with_reducible first | exact Below.refl _ _ | assumption | refine Below.drew ?_ | refine Below.alloc ?_ (by first | omega | (simp <;> omega)) _ | refine Below.setCell ?_ (by first | omega | (simp <;> omega)) _ | refine below_drewN ?_ _)))); have hh := Has.below (by (repeat (with_reducible first | assumption | apply Has.alloc5 | apply Has.alloc2 | apply Has.alloc1 | apply Has.alloc3 | apply Has.drew | apply Has.drewN | apply Has.set_ | apply Has.allocx | exact Has.nil _))) hb; (try simp only [World.size_alloc, World.size_setCell, World.size_drew, World.heap_drewN] at hh); have hq := hh; simp only [Has, upd, World.size_alloc, World.size_setCell, World.size_drew, World.heap_drewN, and_true, true_and, ite_true, ite_false, and_self, Nat.add_right_cancel_iff, Nat.add_eq_left, Nat.left_eq_add, reduceCtorEq, Nat.reduceEqDiff, if_true, if_false] at hq; have hs := hb.size; (try simp only [World.size_alloc, World.size_setCell, World.size_drew, World.heap_drewN] at hs); clear hb) | (go_at_call 105; refine (within_any _ _ _ _).mono ?_; rintro e w' ⟨rfl, rfl⟩))
    go_ret2
    exact RetMeas.nil w (by (first | with_reducible exact Below.refl _ _ | with_reducible assumption | (repeat (with_reducible first | exact Below.refl _ _ | assumption | refine Below.drew ?_ | refine Below.alloc ?_ (by first | omega | (simp <;> omega)) _ | refine Below.setCell ?_ (by first | omega | (simp <;> omega)) _ | refine below_drewN ?_ _))))
  rcases Int.lt_or_le t f with h3 | h3
  · obtain ⟨rfl, rfl⟩ : r = [] ∧ ok = false := by have := HM.out.symm.trans (mWithTempo_bad (by simp [rngB]; omega)); injection this with a b; exact ⟨a, b⟩
    go_enter Try.func82, Try.ntmps82
    go_wp2_with (first | (go_at_call 137; refine (iIsMusic_any _ _ _ _ _ hp).mono ?_; rintro e w' ⟨rfl, hb⟩; have hz : w.heap.size ≤ w'.heap.size := (by have := hb.size; first | omega | (simp at this; omega)); have hB : Below w.heap.size w w' := (by refine Below.trans ?_ (hb.mono (by first | omega | (simp <;> omega))); (first | with_reducible exact Below.refl _ _ | with_reducible assumption | (repeat (with_reducible first | exact Below.refl _ _ | assumption | refine Below.drew ?_ | refine Below.alloc ?_ (by first | omega | (simp <;> omega)) _ | refine Below.setCell ?_ (by first | omega | (simp <;> omega)) _ | refine below_drewN ?_ _)))); have hh := Has.below (by (repeat (with_reducible first | assumption | apply Has.alloc5 | apply Has.alloc2 | apply Has.alloc1 | apply Has.alloc3 | apply Has.drew | apply Has.drewN | apply Has.set_ | apply Has.allocx | exact Has.nil _))) hb; (try simp only [World.size_alloc, World.size_setCell, World.size_drew, World.heap_drewN] at hh); have hq := hh; simp only [Has, upd, World.size_alloc, World.size_setCell, World.size_drew, World.heap_drewN, and_true, true_and, ite_true, ite_false, and_self, Nat.add_right_cancel_iff, Nat.add_eq_left, Nat.left_eq_add, reduceCtorEq, Nat.reduceEqDiff, if_true, if_false] at hq; have hs := hb.size; (try simp only [World.size_alloc, World.size_setCell, World.size_drew, World.heap_drewN] at hs); clear hb) | (go_at_call 105; refine (within_any _ _ _ _).mono ?_; rintro e w' ⟨rfl, rfl⟩))
    go_ret2
    exact RetMeas.nil w (by (first | with_reducible exact Below.refl _ _ | with_reducible assumption | (repeat (with_reducible first | exact Below.refl _ _ | assumption | refine Below.drew ?_ | refine Below.alloc ?_ (by first | omega | (simp <;> omega)) _ | refine Below.setCell ?_ (by first | omega | (simp <;> omega)) _ | refine below_drewN ?_ _))))
  rcases Int.lt_or_le t n with h4 | h4
  rotate_left
  · obtain ⟨rfl, rfl⟩ : r = [] ∧ ok = false := by have := HM.out.symm.trans (mWithTempo_bad (by have := HL.out; simp [rngB]; omega)); injection this with a b; exact ⟨a, b⟩
    go_enter Try.func82, Try.ntmps82
    go_wp2_with (first | (go_at_call 137; refine (iIsMusic_any _ _ _ _ _ hp).mono ?_; rintro e w' ⟨rfl, hb⟩; have hz : w.heap.size ≤ w'.heap.size := (by have := hb.size; first | omega | (simp at this; omega)); have hB : Below w.heap.size w w' := (by refine Below.trans ?_ (hb.mono (by first | omega | (simp <;> omega))); (first | with_reducible exact Below.refl _ _ | with_reducible assumption | (repeat (with_reducible first | exact Below.refl _ _ | assumption | refine Below.drew ?_ | refine Below.alloc ?_ (by first | omega | (simp <;> omega)) _ | refine Below.setCell ?_ (by first | omega | (simp <;> omega)) _ | refine below_drewN ?_ _)))); have hh := Has.below (by (repeat (with_reducible first | assumption | apply Has.alloc5 | apply Has.alloc2 | apply Has.alloc1 | apply Has.alloc3 | apply Has.drew | apply Has.drewN | apply Has.set_ | apply Has.allocx | exact Has.nil _))) hb; (try simp only [World.size_alloc, World.size_setCell, World.size_drew, World.heap_drewN] at hh); have hq := hh; simp only [Has, upd, World.size_alloc, World.size_setCell, World.size_drew, World.heap_drewN, and_true, true_and, ite_true, ite_false, and_self, Nat.add_right_cancel_iff, Nat.add_eq_left, Nat.left_eq_add, reduceCtorEq, Nat.reduceEqDiff, if_true, if_false] at hq; have hs := hb.size; (try simp only [World.size_alloc, World.size_setCell, World.size_drew, World.heap_drewN] at hs); clear hb) | (go_at_call 105; refine (within_any _ _ _ _).mono ?_; rintro e w' ⟨rfl, rfl⟩))
    go_ret2
    exact RetMeas.nil w (by (first | with_reducible exact Below.refl _ _ | with_reducible assumption | (repeat (with_reducible first | exact Below.refl _ _ | assumption | refine Below.drew ?_ | refine Below.alloc ?_ (by first | omega | (simp <;> omega)) _ | refine Below.setCell ?_ (by first | omega | (simp <;> omega)) _ | refine below_drewN ?_ _))))
  rcases tf (inB p 40 220) with h5 | h5
  rotate_left
  · obtain ⟨rfl, rfl⟩ : r = [] ∧ ok = false := by have := HM.out.symm.trans (mWithTempo_bad (by simp [h5])); injection this with a b; exact ⟨a, b⟩
    go_enter Try.func82, Try.ntmps82
    go_wp2_with (first | (go_at_call 137; refine (iIsMusic_any _ _ _ _ _ hp).mono ?_; rintro e w' ⟨rfl, hb⟩; have hz : w.heap.size ≤ w'.heap.size := (by have := hb.size; first | omega | (simp at this; omega)); have hB : Below w.heap.size w w' := (by refine Below.trans ?_ (hb.mono (by first | omega | (simp <;> omega))); (first | with_reducible exact Below.refl _ _ | with_reducible assumption | (repeat (with_reducible first | exact Below.refl _ _ | assumption | refine Below.drew ?_ | refine Below.alloc ?_ (by first | omega | (simp <;> omega)) _ | refine Below.setCell ?_ (by first | omega | (simp <;> omega)) _ | refine below_drewN ?_ _)))); have hh := Has.below (by (repeat (with_reducible first | assumption | apply Has.alloc5 | apply Has.alloc2 | apply Has.alloc1 | apply Has.alloc3 | apply Has.drew | apply Has.drewN | apply Has.set_ | apply Has.allocx | exact Has.nil _))) hb; (try simp only [World.size_alloc, World.size_setCell, World.size_drew, World.heap_drewN] at hh); have hq := hh; simp only [Has, upd, World.size_alloc, World.size_setCell, World.size_drew, World.heap_drewN, and_true, true_and, ite_true, ite_false, and_self, Nat.add_right_cancel_iff, Nat.add_eq_left, Nat.left_eq_add, reduceCtorEq, Nat.reduceEqDiff, if_true, if_false] at hq; have hs := hb.size; (try simp only [World.size_alloc, World.size_setCell, World.size_drew, World.heap_drewN] at hs); clear hb) | (go_at_call 105; refine (within_any _ _ _ _).mono ?_; rintro e w' ⟨rfl, rfl⟩))
    go_ret2
    exact RetMeas.nil w (by (first | with_reducible exact Below.refl _ _ | with_reducible assumption | (repeat (with_reducible first | exact Below.refl _ _ | assumption | refine Below.drew ?_ | refine Below.alloc ?_ (by first | omega | (simp <;> omega)) _ | refine Below.setCell ?_ (by first | omega | (simp <;> omega)) _ | refine below_drewN ?_ _))))
  have HR := Lib.hid (show rngB l f t = true by rw [rngB_iff, HL.out]; exact ⟨h1, h2, h3, h4⟩)
  obtain ⟨F, rfl⟩ : ∃ F : Nat, f = F := ⟨f.toNat, by omega⟩
  obtain ⟨rfl, rfl⟩ : r = wtTo l F p (t - F + 1).toNat ∧ ok = true := by
    have := HM.out.symm.trans (show mWithTempo l F t p = (wtTo l F p (t - F + 1).toNat, true) by rw [mWithTempo, if_pos (by rw [HR.out, h5]; rfl), Int.toNat_natCast]); injection this with a b; exact ⟨a, b⟩
  clear HM HR
  obtain ⟨g, rfl, hgl, _⟩ := hp.2.2 (by omega)
  obtain ⟨i0, hi0, hz0, hz1, hz2⟩ := info_parts infoMeasure
  have HI := Lib.hid hi0
  have HZ0 := Lib.hid hz0
  have HZ1 := Lib.hid hz1
  have HZ2 := Lib.hid hz2
  clear hi0 hz0 hz1 hz2
  go_enter Try.func82, Try.ntmps82
  go_wp2_with (first
               | (go_at_call 137; refine (iIsMusic_any _ _ _ _ _ hp).mono ?_; rintro e w' ⟨rfl, hb⟩; have hz : w.heap.size ≤ w'.heap.size := (by have := hb.size; first | omega | (simp at this; omega)); have hB : Below w.heap.size w w' := (by refine Below.trans ?_ (hb.mono (by first | omega | (simp <;> omega))); (first | with_reducible exact Below.refl _ _ | with_reducible assumption | (repeat (with_reducible first | exact Below.refl _ _ | assumption | refine Below.drew ?_ | refine Below.alloc ?_ (by first | omega | (simp <;> omega)) _ | refine Below.setCell ?_ (by first | omega | (simp <;> omega)) _ | refine below_drewN ?_ _)))); have hh := Has.below (by (repeat (with_reducible first | assumption | apply Has.alloc5 | apply Has.alloc2 | apply Has.alloc1 | apply Has.alloc3 | apply Has.drew | apply Has.drewN | apply Has.set_ | apply Has.allocx | exact Has.nil _))) hb; (try simp only [World.size_alloc, World.size_setCell, World.size_drew, World.heap_drewN] at hh); have hq := hh; simp only [Has, upd, World.size_alloc, World.size_setCell, World.size_drew, World.heap_drewN, and_true, true_and, ite_true, ite_false, and_self, Nat.add_right_cancel_iff, Nat.add_eq_left, Nat.left_eq_add, reduceCtorEq, Nat.reduceEqDiff, if_true, if_false] at hq; have hs := hb.size; (try simp only [World.size_alloc, World.size_setCell, World.size_drew, World.heap_drewN] at hs); have hp2 := Lst.below hp hb (Nat.le_refl _); have hw0 : w.heap.size ≤ w'.heap.size := hb.size; clear hb) | (go_at_call 105; refine (within_any _ _ _ _).mono ?_; rintro e w' ⟨rfl, rfl⟩)
               | (at_builtin
                  refine wpList_append_lies _ rfl _ _ 86 rfl w.heap.size 100 i0 (.agg #[.int .i64 0, .int .i64 0]) 2 16 Try.underlying86 HI.out HZ0.out HZ1.out HZ2.out rfl (by decide) _ 0 [] rfl (World.ownsRow_made _ _ _ (by omega) (by simp [maxLen]) rfl) ⟨g, 0, none⟩ n c (flat2 l) rfl (by rw [flat2_len, HL.out]) (Lst.newsAll (hp2.below ((Below.refl _ _).alloc (Nat.le_refl _) _) (Nat.le_refl _))) (flat2_cells l) (by omega) (by simp only [maxLen]; omega) (by omega) (by simp; omega) (w'.heap.size + 1) (by simp) ?_
                  intro g2 cap w2 hown' hgrow hat hlt2
                  simp only [Nat.zero_add, List.nil_append] at hown' ⊢
                  have hM2 : MRow w2 w.heap.size (.slice (some ⟨g2, 0, none⟩) n cap) l := ⟨by rw [HL.out]; exact hn, by rw [HL.out]; exact hown'⟩
                  have hB2 : Below w.heap.size w w2 := Below.grown (Below.alloc hB (by first | omega | (simp <;> omega)) _) hgrow (by first | omega | (simp <;> omega)) (fun r hr => by injection hr with hr; have h9 : w'.heap.size = r := hr; omega)
                  clear hown' hgrow hat hp2))
  obtain ⟨hr, hbk, hbg⟩ := hM2.rowTo HL.out (by omega)
  have hcap : n ≤ cap ∧ cap ≤ maxLen := by
    obtain ⟨A', c', hv, hc, _⟩ := hM2.lst
    injection hv with e1 e2 e3
    subst e3
    rw [HL.out] at hc; exact hc
  have HC := Lib.hid hcap
  clear hcap hM2
  have hw2 := hB2.size
  obtain ⟨wz, rfl⟩ : ∃ wz, wz = w2 := ⟨_, rfl⟩
  go_loopw [11] (fun s wr => ∃ k : Nat, F ≤ k ∧ (k : Int) ≤ t + 1 ∧ s = .int .i64 k ∧ RowTo wr g2 n n (wtTo l F p (k - F)) ∧ Blk wr g2 cap ∧ Below w.heap.size w wr) (fun v _ => (t + 1 - intOf v).toNat)
  case atStart => exact ⟨F, by omega, by omega, rfl, by simpa [wtTo] using hr, hbk, hB2⟩
  case round =>
    obtain ⟨k, hk1, hk2, rfl, HK, HB, hB3⟩ := hrel
    by_cases hlt : (k : Int) ≤ t
    · obtain ⟨u, u', hq⟩ := HK.cells (j := k) (by omega)
      simp only [Has, and_true] at hq
      have hkn : (k : Int) < n := by omega
      have HK2 := rowTo_set1 (t := p) HK (k := k) (by omega)
      have e1 : wtTo l F p (k + 1 - F) = (wtTo l F p (k - F)).set k (((wtTo l F p (k - F)).getD k (0, 0)).1, p) := by
        rw [show k + 1 - F = (k - F) + 1 by omega]; simp only [wtTo]; rw [show F + (k - F) = k by omega]
      have E1 := Lib.hid e1
      have HK2' := Lib.hid HK2
      clear e1 HK2
      go_wp2
      go_roundw
      case rel => exact ⟨k + 1, by omega, by omega, by go_num, by rw [E1.out]; exact HK2'.out, HB.set, (by (first | with_reducible exact Below.refl _ _ | with_reducible assumption | (repeat (with_reducible first | exact Below.refl _ _ | assumption | refine Below.drew ?_ | refine Below.alloc ?_ (by first | omega | (simp <;> omega)) _ | refine Below.setCell ?_ (by first | omega | (simp <;> omega)) _ | refine below_drewN ?_ _))))⟩
      case measure => simp [intOf]; omega
    · go_wp2
      go_ret2
      have hm := mrow_of HK HB HC.out.1 HC.out.2 hbg hn
      rw [show (t - (F : Int) + 1).toNat = k - F by omega]
      exact hm.ret (Nat.le_refl _) hB3

set_option maxHeartbeats 8000000 in
theorem sWTempo_any (A : Option Addr) (n c : Nat) (l : List (Int × Int)) (f t p : Int) (r : List (Int × Int)) (ok : Bool) (w : World) (hp : Lst w A n l) (hm : mWithTempo l f t p = (r, ok)) :
    Calls Try.prog 83 #[.slice A n c, .int .i64 f, .int .i64 t, .int .i64 p] w (RetMeas w r ok) := by
  have HL := Lib.hid hp.1
  have hn := hp.2.1
  have HM := Lib.hid hm
  clear hm
  rcases tf (rngB l f t) with h1 | h1
  rotate_left
  · obtain ⟨rfl, rfl⟩ : r = [] ∧ ok = false := by have := HM.out.symm.trans (mWithTempo_bad (by simp [h1])); injection this with a b; exact ⟨a, b⟩
    go_enter Try.func83, Try.ntmps83
    go_wp2_with (first | (go_at_call 143; refine (muRange_any _ _ _ _ _ _ _ hp).mono ?_; rintro e w' ⟨rfl, hb⟩; have hz : w.heap.size ≤ w'.heap.size := (by have := hb.size; first | omega | (simp at this; omega)); have hB : Below w.heap.size w w' := (by refine Below.trans ?_ (hb.mono (by first | omega | (simp <;> omega))); (first | with_reducible exact Below.refl _ _ | with_reducible assumption | (repeat (with_reducible first | exact Below.refl _ _ | assumption | refine Below.drew ?_ | refine Below.alloc ?_ (by first | omega | (simp <;> omega)) _ | refine Below.setCell ?_ (by first | omega | (simp <;> omega)) _ | refine below_drewN ?_ _)))); have hh := Has.below (by (repeat (with_reducible first | assumption | apply Has.alloc5 | apply Has.alloc2 | apply Has.alloc1 | apply Has.alloc3 | apply Has.drew | apply Has.drewN | apply Has.set_ | apply Has.allocx | exact Has.nil _))) hb; (try simp only [World.size_alloc, World.size_setCell, World.size_drew, World.heap_drewN] at hh); have hq := hh; simp only [Has, upd, World.size_alloc, World.size_setCell, World.size_drew, World.heap_drewN, and_true, true_and, ite_true, ite_false, and_self, Nat.add_right_cancel_iff, Nat.add_eq_left, Nat.left_eq_add, reduceCtorEq, Nat.reduceEqDiff, if_true, if_false] at hq; have hs := hb.size; (try simp only [World.size_alloc, World.size_setCell, World.size_drew, World.heap_drewN] at hs); clear hb) | (go_at_call 106; refine (l1In_any _ _ _ _).mono ?_; rintro e w' ⟨rfl, rfl⟩))
    go_ret2
    exact RetMeas.nil w (by (first | with_reducible exact Below.refl _ _ | with_reducible assumption | (repeat (with_reducible first | exact Below.refl _ _ | assumption | refine Below.drew ?_ | refine Below.alloc ?_ (by first | omega | (simp <;> omega)) _ | refine Below.setCell ?_ (by first | omega | (simp <;> omega)) _ | refine below_drewN ?_ _))))
  rcases tf (inB p 40 220) with h5 | h5
  rotate_left
  · obtain ⟨rfl, rfl⟩ : r = [] ∧ ok = false := by have := HM.out.symm.trans (mWithTempo_bad (by simp [h5])); injection this with a b; exact ⟨a, b⟩
    go_enter Try.func83, Try.ntmps83
    go_wp2_with (first | (go_at_call 143; refine (muRange_any _ _ _ _ _ _ _ hp).mono ?_; rintro e w' ⟨rfl, hb⟩; have hz : w.heap.size ≤ w'.heap.size := (by have := hb.size; first | omega | (simp at this; omega)); have hB : Below w.heap.size w w' := (by refine Below.trans ?_ (hb.mono (by first | omega | (simp <;> omega))); (first | with_reducible exact Below.refl _ _ | with_reducible assumption | (repeat (with_reducible first | exact Below.refl _ _ | assumption | refine Below.drew ?_ | refine Below.alloc ?_ (by first | omega | (simp <;> omega)) _ | refine Below.setCell ?_ (by first | omega | (simp <;> omega)) _ | refine below_drewN ?_ _)))); have hh := Has.below (by (repeat (with_reducible first | assumption | apply Has.alloc5 | apply Has.alloc2 | apply Has.alloc1 | apply Has.alloc3 | apply Has.drew | apply Has.drewN | apply Has.set_ | apply Has.allocx | exact Has.nil _))) hb; (try simp only [World.size_alloc, World.size_setCell, World.size_drew, World.heap_drewN] at hh); have hq := hh; simp only [Has, upd, World.size_alloc, World.size_setCell, World.size_drew, World.heap_drewN, and_true, true_and, ite_true, ite_false, and_self, Nat.add_right_cancel_iff, Nat.add_eq_left, Nat.left_eq_add, reduceCtorEq, Nat.reduceEqDiff, if_true, if_false] at hq; have hs := hb.size; (try simp only [World.size_alloc, World.size_setCell, World.size_drew, World.heap_drewN] at hs); clear hb) | (go_at_call 106; refine (l1In_any _ _ _ _).mono ?_; rintro e w' ⟨rfl, rfl⟩))
    go_ret2
    exact RetMeas.nil w (by (first | with_reducible exact Below.refl _ _ | with_reducible assumption | (repeat (with_reducible first | exact Below.refl _ _ | assumption | refine Below.drew ?_ | refine Below.alloc ?_ (by first | omega | (simp <;> omega)) _ | refine Below.setCell ?_ (by first | omega | (simp <;> omega)) _ | refine below_drewN ?_ _))))
  have HR := Lib.hid h1
  obtain ⟨_, h2, h3, h4⟩ := (rngB_iff _ _ _).1 h1
  rw [HL.out] at h4
  obtain ⟨F, rfl⟩ : ∃ F : Nat, f = F := ⟨f.toNat, by omega⟩
  obtain ⟨rfl, rfl⟩ : r = wtTo l F p (t - F + 1).toNat ∧ ok = true := by
    have := HM.out.symm.trans (show mWithTempo l F t p = (wtTo l F p (t - F + 1).toNat, true) by rw [mWithTempo, if_pos (by rw [HR.out, h5]; rfl), Int.toNat_natCast]); injection this with a b; exact ⟨a, b⟩
  clear HM HR
  obtain ⟨g, rfl, hgl, _⟩ := hp.2.2 (by omega)
  obtain ⟨i0, hi0, hz0, hz1, hz2⟩ := info_parts infoMeasure
  have HI := Lib.hid hi0
  have HZ0 := Lib.hid hz0
  have HZ1 := Lib.hid hz1
  have HZ2 := Lib.hid hz2
  clear hi0 hz0 hz1 hz2
  go_enter Try.func83, Try.ntmps83
  go_wp2_with (first
               | (go_at_call 143; refine (muRange_any _ _ _ _ _ _ _ hp).mono ?_; rintro e w' ⟨rfl, hb⟩; have hz : w.heap.size ≤ w'.heap.size := (by have := hb.size; first | omega | (simp at this; omega)); have hB : Below w.heap.size w w' := (by refine Below.trans ?_ (hb.mono (by first | omega | (simp <;> omega))); (first | with_reducible exact Below.refl _ _ | with_reducible assumption | (repeat (with_reducible first | exact Below.refl _ _ | assumption | refine Below.drew ?_ | refine Below.alloc ?_ (by first | omega | (simp <;> omega)) _ | refine Below.setCell ?_ (by first | omega | (simp <;> omega)) _ | refine below_drewN ?_ _)))); have hh := Has.below (by (repeat (with_reducible first | assumption | apply Has.alloc5 | apply Has.alloc2 | apply Has.alloc1 | apply Has.alloc3 | apply Has.drew | apply Has.drewN | apply Has.set_ | apply Has.allocx | exact Has.nil _))) hb; (try simp only [World.size_alloc, World.size_setCell, World.size_drew, World.heap_drewN] at hh); have hq := hh; simp only [Has, upd, World.size_alloc, World.size_setCell, World.size_drew, World.heap_drewN, and_true, true_and, ite_true, ite_false, and_self, Nat.add_right_cancel_iff, Nat.add_eq_left, Nat.left_eq_add, reduceCtorEq, Nat.reduceEqDiff, if_true, if_false] at hq; have hs := hb.size; (try simp only [World.size_alloc, World.size_setCell, World.size_drew, World.heap_drewN] at hs); have hp2 := Lst.below hp hb (Nat.le_refl _); have hw0 : w.heap.size ≤ w'.heap.size := hb.size; clear hb) | (go_at_call 106; refine (l1In_any _ _ _ _).mono ?_; rintro e w' ⟨rfl, rfl⟩)
               | (at_builtin
                  refine wpList_append_lies _ rfl _ _ 86 rfl w.heap.size 100 i0 (.agg #[.int .i64 0, .int .i64 0]) 2 16 Try.underlying86 HI.out HZ0.out HZ1.out HZ2.out rfl (by decide) _ 0 [] rfl (World.ownsRow_made _ _ _ (by omega) (by simp [maxLen]) rfl) ⟨g, 0, none⟩ n c (flat2 l) rfl (by rw [flat2_len, HL.out]) (Lst.newsAll (hp2.below ((Below.refl _ _).alloc (Nat.le_refl _) _) (Nat.le_refl _))) (flat2_cells l) (by omega) (by simp only [maxLen]; omega) (by omega) (by simp; omega) (w'.heap.size + 1) (by simp) ?_
                  intro g2 cap w2 hown' hgrow hat hlt2
                  simp only [Nat.zero_add, List.nil_append] at hown' ⊢
                  have hM2 : MRow w2 w.heap.size (.slice (some ⟨g2, 0, none⟩) n cap) l := ⟨by rw [HL.out]; exact hn, by rw [HL.out]; exact hown'⟩
                  have hB2 : Below w.heap.size w w2 := Below.grown (Below.alloc hB (by first | omega | (simp <;> omega)) _) hgrow (by first | omega | (simp <;> omega)) (fun r hr => by injection hr with hr; have h9 : w'.heap.size = r := hr; omega)
                  clear hown' hgrow hat hp2))
  obtain ⟨hr, hbk, hbg⟩ := hM2.rowTo HL.out (by omega)
  have hcap : n ≤ cap ∧ cap ≤ maxLen := by
    obtain ⟨A', c', hv, hc, _⟩ := hM2.lst
    injection hv with e1 e2 e3
    subst e3
    rw [HL.out] at hc; exact hc
  have HC := Lib.hid hcap
  clear hcap hM2
  have hw2 := hB2.size
  obtain ⟨wz, rfl⟩ : ∃ wz, wz = w2 := ⟨_, rfl⟩
  go_loopw [11] (fun s wr => ∃ k : Nat, F ≤ k ∧ (k : Int) ≤ t + 1 ∧ s = .int .i64 k ∧ RowTo wr g2 n n (wtTo l F p (k - F)) ∧ Blk wr g2 cap ∧ Below w.heap.size w wr) (fun v _ => (t + 1 - intOf v).toNat)
  case atStart => exact ⟨F, by omega, by omega, rfl, by simpa [wtTo] using hr, hbk, hB2⟩
  case round =>
    obtain ⟨k, hk1, hk2, rfl, HK, HB, hB3⟩ := hrel
    by_cases hlt : (k : Int) ≤ t
    · obtain ⟨u, u', hq⟩ := HK.cells (j := k) (by omega)
      simp only [Has, and_true] at hq
      have hkn : (k : Int) < n := by omega
      have HK2 := rowTo_set1 (t := p) HK (k := k) (by omega)
      have e1 : wtTo l F p (k + 1 - F) = (wtTo l F p (k - F)).set k (((wtTo l F p (k - F)).getD k (0, 0)).1, p) := by
        rw [show k + 1 - F = (k - F) + 1 by omega]; simp only [wtTo]; rw [show F + (k - F) = k by omega]
      have E1 := Lib.hid e1
      have HK2' := Lib.hid HK2
      clear e1 HK2
      go_wp2
      go_roundw
      case rel => exact ⟨k + 1, by omega, by omega, by go_num, by rw [E1.out]; exact HK2'.out, HB.set, (by (first | with_reducible exact Below.refl _ _ | with_reducible assumption | (repeat (with_reducible first | exact Below.refl _ _ | assumption | refine Below.drew ?_ | refine Below.alloc ?_ (by first | omega | (simp <;> omega)) _ | refine Below.setCell ?_ (by first | omega | (simp <;> omega)) _ | refine below_drewN ?_ _))))⟩
      case measure => simp [intOf]; omega
    · go_wp2
      go_ret2
      have hm := mrow_of HK HB HC.out.1 HC.out.2 hbg hn
      rw [show (t - (F : Int) + 1).toNat = k - F by omega]
      exact hm.ret (Nat.le_refl _) hB3

end Go.Proofs.Ytkadnmebijfacaa

