import Derived.Test.YtgpjnffomheemaaDoorJ2Music
import Derived.Test.YtgpjnffomheemaaDoorJ4

section
/- Contracts of WithTempo, of the program and of the reference. -/
namespace Go.Proofs.YtgpjnffomheemaaDoor
open Go.RowKit
set_option linter.unusedVariables false
set_option linter.unusedSimpArgs false
set_option maxRecDepth 100000

theorem addr_plus (b off n : Nat) : (Addr.mk b off none).add n = ⟨b, off + n, none⟩ := by
  unfold Addr.add
  by_cases h : n = 0 <;> simp [h]
theorem flat2_take : ∀ (l : List (Int × Int)) (m : Nat), flat2 (l.take m) = (flat2 l).take (m * 2)
  | [], m => by simp [flat2]
  | p :: l, 0 => by simp [flat2]
  | p :: l, m + 1 => by
    have := flat2_take l m
    rw [show (m + 1) * 2 = m * 2 + 2 by omega]
    simpa [flat2] using this
theorem flat2_drop : ∀ (l : List (Int × Int)) (m : Nat), flat2 (l.drop m) = (flat2 l).drop (m * 2)
  | [], m => by simp [flat2]
  | p :: l, 0 => by simp [flat2]
  | p :: l, m + 1 => by
    have := flat2_drop l m
    rw [show (m + 1) * 2 = m * 2 + 2 by omega]
    simpa [flat2] using this
theorem flat2_app (l m : List (Int × Int)) : flat2 (l ++ m) = flat2 l ++ flat2 m := by simp [flat2]
theorem flat2_cells (l : List (Int × Int)) : ∀ u ∈ flat2 l, u.oneCell' = true := by
  intro u hu
  simp only [flat2, List.mem_flatMap] at hu
  obtain ⟨p, _, hp⟩ := hu
  simp at hp
  rcases hp with rfl | rfl <;> rfl
/-- the cells of a list that is read, from place a on -/
theorem Lst.news {w : World} {g n a : Nat} {l : List (Int × Int)} (h : Lst w (some ⟨g, 0, none⟩) n l) (m : Nat) : ∀ j u, (flat2 ((l.drop a).take m))[j]? = some u → w.cell? ((⟨g, a * 2, none⟩ : Addr).add j) = some u := by
  intro j u hu
  rw [flat2_take, flat2_drop, List.getElem?_take] at hu
  split at hu
  · rw [List.getElem?_drop] at hu
    have hlt : a * 2 + j < l.length * 2 := by
      rcases Nat.lt_or_ge (a * 2 + j) (flat2 l).length with h' | h'
      · rwa [flat2_len] at h'
      · rw [List.getElem?_eq_none h'] at hu; cases hu
    obtain ⟨g', hg, _, hc⟩ := h.2.2 (by have := h.1; omega)
    cases hg
    rw [addr_plus]
    have hk : (a * 2 + j) / 2 < l.length := by omega
    have hcc := hc _ hk
    have f := flat2_get l _ hk
    rcases Nat.mod_two_eq_zero_or_one (a * 2 + j) with e | e
    · have e1 : (a * 2 + j) / 2 * 2 = a * 2 + j := by omega
      rw [e1] at hcc f
      rw [← hu, f.1]; exact hcc.1.1
    · have e1 : (a * 2 + j) / 2 * 2 + 1 = a * 2 + j := by omega
      rw [e1] at hcc f
      rw [← hu, f.2]; exact hcc.2.1
  · cases hu
theorem Lst.newsAll {w : World} {g n : Nat} {l : List (Int × Int)} (h : Lst w (some ⟨g, 0, none⟩) n l) : ∀ j u, (flat2 l)[j]? = some u → w.cell? ((⟨g, 0, none⟩ : Addr).add j) = some u := by
  intro j u hu
  have := Lst.news (a := 0) h n j u
  rw [List.drop_zero, List.take_of_length_le (by rw [h.1]; exact Nat.le_refl _)] at this
  simpa using this hu

def rngB (l : List (Int × Int)) (f t : Int) : Bool := musB l && decide (0 ≤ f) && decide (f ≤ t) && decide (t < l.length)
theorem rngB_iff (l : List (Int × Int)) (f t : Int) : rngB l f t = true ↔ musB l = true ∧ 0 ≤ f ∧ f ≤ t ∧ t < l.length := by simp [rngB, and_assoc]

def wtTo (l : List (Int × Int)) (F : Nat) (t : Int) : Nat → List (Int × Int)
  | 0 => l
  | j + 1 => (wtTo l F t j).set (F + j) (((wtTo l F t j).getD (F + j) (0, 0)).1, t)
theorem wtTo_len (l : List (Int × Int)) (F : Nat) (t : Int) : ∀ j, (wtTo l F t j).length = l.length
  | 0 => rfl
  | j + 1 => by simp [wtTo, wtTo_len l F t j]
def mWithTempo (l : List (Int × Int)) (f t p : Int) : List (Int × Int) × Bool := if rngB l f t && inB p 40 220 then (wtTo l f.toNat p (t - f + 1).toNat, true) else ([], false)
theorem mWithTempo_bad {l : List (Int × Int)} {f t p : Int} (h : (rngB l f t && inB p 40 220) = false) : mWithTempo l f t p = ([], false) := by simp [mWithTempo, h]

theorem rowTo_set1 {w : World} {g n k : Nat} {l : List (Int × Int)} {t : Int} (h : RowTo w g n n l) (hk : k < n) : RowTo (w.setCell ⟨g, k * 2 + 1, none⟩ (.int .i64 t)) g n n (l.set k ((l.getD k (0, 0)).1, t)) := by
  obtain ⟨h1, h2, h3, h4⟩ := h
  have ne : ∀ j, j ≠ k * 2 + 1 → (w.setCell ⟨g, k * 2 + 1, none⟩ (.int .i64 t)).cell? ⟨g, j, none⟩ = w.cell? ⟨g, j, none⟩ := fun j hj => World.cell?_setCell_other _ _ _ _ (by intro he; injection he; omega)
  have same : (w.setCell ⟨g, k * 2 + 1, none⟩ (.int .i64 t)).cell? ⟨g, k * 2 + 1, none⟩ = some (.int .i64 t) := by
    obtain ⟨⟨v, hv⟩, _⟩ := h3 (k * 2 + 1) (by omega)
    exact World.cell?_setCell_same _ _ _ hv
  refine ⟨by simpa using h1, by simpa using h2, fun j hj => ⟨?_, by simpa using (h3 j hj).2⟩, fun i hi hin => ?_⟩
  · by_cases e : j = k * 2 + 1
    · subst e; exact ⟨_, same⟩
    · obtain ⟨⟨v, hv⟩, _⟩ := h3 j hj; exact ⟨v, (ne j e).trans hv⟩
  · have hil : i < l.length := by omega
    have c := h4 i hil hin
    by_cases e : i = k
    · subst e
      rw [ne _ (by omega)]
      simp only [List.getElem_set_self]
      refine ⟨?_, same⟩
      rw [c.1]; simp [List.getD, hil]
    · rw [ne _ (by omega), ne _ (by omega), List.getElem_set_ne (by omega)]
      exact c

end Go.Proofs.YtgpjnffomheemaaDoor
end

section
/- Contracts of RepeatMeasures, of the program and of the reference. -/
namespace Go.Proofs.YtgpjnffomheemaaDoor
open Go.RowKit
set_option linter.unusedVariables false
set_option linter.unusedSimpArgs false
set_option maxRecDepth 100000

theorem iIsMusic_row (v : Value) (b : Nat) (l : List (Int × Int)) (w : World) (h : MRow w b v l) : Calls Tryd.prog 52 #[v] w fun e w' => e = .returned (.bool (musB l)) ∧ Below w.heap.size w w' := by
  obtain ⟨A, c, rfl, _, hL, _⟩ := h.lst
  exact iIsMusic_any _ _ _ _ _ hL

theorem muGood_row (v : Value) (b : Nat) (l : List (Int × Int)) (w : World) (h : MRow w b v l) : Calls Tryd.prog 97 #[v] w fun e w' => e = .returned (.bool (musB l)) ∧ Below w.heap.size w w' := by
  obtain ⟨A, c, rfl, _, hL, _⟩ := h.lst
  exact muGood_any _ _ _ _ _ hL

def repTo (a m : List (Int × Int)) : Nat → List (Int × Int)
  | 0 => a
  | k + 1 => repTo a m k ++ m
theorem repTo_len (a m : List (Int × Int)) : ∀ k, (repTo a m k).length = a.length + k * m.length
  | 0 => by simp [repTo]
  | k + 1 => by simp [repTo, repTo_len a m k, Nat.succ_mul]; omega
def repL (l : List (Int × Int)) (F T x : Nat) : List (Int × Int) := repTo (l.take F) ((l.drop F).take (T + 1 - F)) x ++ l.drop (T + 1)
def mRepeat (l : List (Int × Int)) (f t x : Int) : List (Int × Int) × Bool := if rngB l f t && inB x 1 10 then (if musB (repL l f.toNat t.toNat x.toNat) then (repL l f.toNat t.toNat x.toNat, true) else ([], false)) else ([], false)
theorem mRepeat_bad {l : List (Int × Int)} {f t p : Int} (h : (rngB l f t && inB p 1 10) = false) : mRepeat l f t p = ([], false) := by simp [mRepeat, h]
theorem mRepeat_ok {l : List (Int × Int)} {F T X : Nat} (h : (rngB l F T && inB X 1 10) = true) : mRepeat l F T X = if musB (repL l F T X) then (repL l F T X, true) else ([], false) := by simp [mRepeat, h]
theorem part_len {l : List (Int × Int)} {n F T : Nat} (hl : l.length = n) (h2 : F ≤ T) (h3 : T < n) : (l.take F).length = F ∧ ((l.drop F).take (T + 1 - F)).length = T + 1 - F ∧ (l.drop (T + 1)).length = n - (T + 1) := by
  simp; omega
theorem mul_le40 {k m : Nat} (h1 : k ≤ 10) (h2 : m ≤ 40) : k * m ≤ 400 := Nat.le_trans (Nat.mul_le_mul h1 h2) (by decide)
theorem MRow.app {w : World} {base n m : Nat} {v : Value} {l q : List (Int × Int)} (hn : l.length = n) (hm : q.length = m) (hl : n + m ≤ 1048576) (h : w.ownsRow base 68 2 v (n + m) (flat2 l ++ flat2 q)) : MRow w base v (l ++ q) := by
  subst hn hm
  exact ⟨by simpa using hl, by rw [flat2_app]; simpa using h⟩
theorem Lst.newsTo {w : World} {g n : Nat} {l : List (Int × Int)} (h : Lst w (some ⟨g, 0, none⟩) n l) (F : Nat) : ∀ j u, (flat2 (l.take F))[j]? = some u → w.cell? ((⟨g, 0, none⟩ : Addr).add j) = some u := by
  intro j u hu
  have := Lst.news (a := 0) h F j u
  rw [List.drop_zero] at this
  simpa using this hu
theorem Lst.newsFrom {w : World} {g n a : Nat} {l : List (Int × Int)} (h : Lst w (some ⟨g, 0, none⟩) n l) : ∀ j u, (flat2 (l.drop a))[j]? = some u → w.cell? ((⟨g, a * 2, none⟩ : Addr).add j) = some u := by
  intro j u hu
  have := Lst.news (a := a) h n j u
  rw [List.take_of_length_le (by rw [List.length_drop, h.1]; omega)] at this
  exact this hu

end Go.Proofs.YtgpjnffomheemaaDoor
end
