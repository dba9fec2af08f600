/- Contracts of RepeatMeasures, of the program and of the reference. -/
import Derived.Test.YtkadnmebijfacaaWTempo
namespace Go.Proofs.Ytkadnmebijfacaa
open Go.RowKit
set_option linter.unusedVariables false
set_option linter.unusedSimpArgs false
set_option maxRecDepth 100000

theorem iIsMusic_row (v : Value) (b : Nat) (l : List (Int × Int)) (w : World) (h : MRow w b v l) : Calls Try.prog 137 #[v] w fun e w' => e = .returned (.bool (musB l)) ∧ Below w.heap.size w w' := by
  obtain ⟨A, c, rfl, _, hL, _⟩ := h.lst
  exact iIsMusic_any _ _ _ _ _ hL

theorem muGood_row (v : Value) (b : Nat) (l : List (Int × Int)) (w : World) (h : MRow w b v l) : Calls Try.prog 134 #[v] w fun e w' => e = .returned (.bool (musB l)) ∧ Below w.heap.size w w' := by
  obtain ⟨A, c, rfl, _, hL, _⟩ := h.lst
  exact muGood_any _ _ _ _ _ hL

def repTo (a m : List (Int × Int)) : Nat → List (Int × Int)
  | 0 => a
  | k + 1 => repTo a m k ++ m
theorem repTo_len (a m : List (Int × Int)) : ∀ k, (repTo a m k).length = a.length + k * m.length
  | 0 => by simp [repTo]
  | k + 1 => by simp [repTo, repTo_len a m k, Nat.succ_mul]; omega
def repL (l : List (Int × Int)) (F T x : Nat) : List (Int × Int) := repTo (l.take F) ((l.drop F).take (T + 1 - F)) x ++ l.drop (T + 1)
def mRepeat (l : List (Int × Int)) (f t x : Int) : List (Int × Int) × Bool := if rngB l f t && inB x 1 10 then (if musB (repL l f.toNat t.toNat x.toNat) then (repL l f.toNat t.toNat x.toNat, true) else ([], false)) else ([], false)
theorem mRepeat_bad {l : List (Int × Int)} {f t p : Int} (h : (rngB l f t && inB p 1 10) = false) : mRepeat l f t p = ([], false) := by simp [mRepeat, h]
theorem mRepeat_ok {l : List (Int × Int)} {F T X : Nat} (h : (rngB l F T && inB X 1 10) = true) : mRepeat l F T X = if musB (repL l F T X) then (repL l F T X, true) else ([], false) := by simp [mRepeat, h]
theorem part_len {l : List (Int × Int)} {n F T : Nat} (hl : l.length = n) (h2 : F ≤ T) (h3 : T < n) : (l.take F).length = F ∧ ((l.drop F).take (T + 1 - F)).length = T + 1 - F ∧ (l.drop (T + 1)).length = n - (T + 1) := by
  simp; omega
theorem mul_le40 {k m : Nat} (h1 : k ≤ 10) (h2 : m ≤ 40) : k * m ≤ 400 := Nat.le_trans (Nat.mul_le_mul h1 h2) (by decide)
theorem MRow.app {w : World} {base n m : Nat} {v : Value} {l q : List (Int × Int)} (hn : l.length = n) (hm : q.length = m) (hl : n + m ≤ 1048576) (h : w.ownsRow base 100 2 v (n + m) (flat2 l ++ flat2 q)) : MRow w base v (l ++ q) := by
  subst hn hm
  exact ⟨by simpa using hl, by rw [flat2_app]; simpa using h⟩
theorem Lst.newsTo {w : World} {g n : Nat} {l : List (Int × Int)} (h : Lst w (some ⟨g, 0, none⟩) n l) (F : Nat) : ∀ j u, (flat2 (l.take F))[j]? = some u → w.cell? ((⟨g, 0, none⟩ : Addr).add j) = some u := by
  intro j u hu
  have := Lst.news (a := 0) h F j u
  rw [List.drop_zero] at this
  simpa using this hu
theorem Lst.newsFrom {w : World} {g n a : Nat} {l : List (Int × Int)} (h : Lst w (some ⟨g, 0, none⟩) n l) : ∀ j u, (flat2 (l.drop a))[j]? = some u → w.cell? ((⟨g, a * 2, none⟩ : Addr).add j) = some u := by
  intro j u hu
  have := Lst.news (a := a) h n j u
  rw [List.take_of_length_le (by rw [List.length_drop, h.1]; omega)] at this
  exact this hu

set_option maxHeartbeats 8000000 in
theorem iRepeat_cap (A : Option Addr) (n c : Nat) (l : List (Int × Int)) (f t p : Int) (r : List (Int × Int)) (ok : Bool) (w : World) (hp : Lst w A n l) (hcn : n ≤ c) (hcm : c ≤ maxLen) (hm : mRepeat l f t p = (r, ok)) :
    Calls Try.prog 79 #[.slice A n c, .int .i64 f, .int .i64 t, .int .i64 p] w (RetMeas w r ok) := by
  have HL := Lib.hid hp.1
  have hn := hp.2.1
  have HM := Lib.hid hm
  clear hm
  simp only [maxLen] at hcm
  rcases tf (musB l) with h1 | h1
  rotate_left
  · obtain ⟨rfl, rfl⟩ : r = [] ∧ ok = false := by have := HM.out.symm.trans (mRepeat_bad (by simp [rngB, h1])); injection this with a b; exact ⟨a, b⟩
    go_enter Try.func79, Try.ntmps79
    go_wp2_with (first | (go_at_call 137; refine (iIsMusic_any _ _ _ _ _ hp).mono ?_; rintro e w' ⟨rfl, hb⟩; have hz : w.heap.size ≤ w'.heap.size := (by have := hb.size; first | omega | (simp at this; omega)); have hB : Below w.heap.size w w' := (by refine Below.trans ?_ (hb.mono (by first | omega | (simp <;> omega))); (first | with_reducible exact Below.refl _ _ | with_reducible assumption | (repeat (with_reducible first | exact Below.refl _ _ | assumption | refine Below.drew ?_ | refine Below.alloc ?_ (by first | omega | (simp <;> omega)) _ | refine Below.setCell ?_ (by first | omega | (simp <;> omega)) _ | refine below_drewN ?_ _)))); have hh := Has.below (by (repeat (with_reducible first | assumption | apply Has.alloc5 | apply Has.alloc2 | apply Has.alloc1 | apply Has.alloc3 | apply Has.drew | apply Has.drewN | apply Has.set_ | apply Has.allocx | exact Has.nil _))) hb; (try simp only [World.size_alloc, World.size_setCell, World.size_drew, World.heap_drewN] at hh); have hq := hh; simp only [Has, upd, World.size_alloc, World.size_setCell, World.size_drew, World.heap_drewN, and_true, true_and, ite_true, ite_false, and_self, Nat.add_right_cancel_iff, Nat.add_eq_left, Nat.left_eq_add, reduceCtorEq, Nat.reduceEqDiff, if_true, if_false] at hq; have hs := hb.size; (try simp only [World.size_alloc, World.size_setCell, World.size_drew, World.heap_drewN] at hs); clear hb) | (go_at_call 105; refine (within_any _ _ _ _).mono ?_; rintro e w' ⟨rfl, rfl⟩))
    go_ret2
    exact RetMeas.nil w (by (first | with_reducible exact Below.refl _ _ | with_reducible assumption | (repeat (with_reducible first | exact Below.refl _ _ | assumption | refine Below.drew ?_ | refine Below.alloc ?_ (by first | omega | (simp <;> omega)) _ | refine Below.setCell ?_ (by first | omega | (simp <;> omega)) _ | refine below_drewN ?_ _))))
  rcases Int.lt_or_le f 0 with h2 | h2
  · obtain ⟨rfl, rfl⟩ : r = [] ∧ ok = false := by have := HM.out.symm.trans (mRepeat_bad (by simp [rngB]; omega)); injection this with a b; exact ⟨a, b⟩
    go_enter Try.func79, Try.ntmps79
    go_wp2_with (first | (go_at_call 137; refine (iIsMusic_any _ _ _ _ _ hp).mono ?_; rintro e w' ⟨rfl, hb⟩; have hz : w.heap.size ≤ w'.heap.size := (by have := hb.size; first | omega | (simp at this; omega)); have hB : Below w.heap.size w w' := (by refine Below.trans ?_ (hb.mono (by first | omega | (simp <;> omega))); (first | with_reducible exact Below.refl _ _ | with_reducible assumption | (repeat (with_reducible first | exact Below.refl _ _ | assumption | refine Below.drew ?_ | refine Below.alloc ?_ (by first | omega | (simp <;> omega)) _ | refine Below.setCell ?_ (by first | omega | (simp <;> omega)) _ | refine below_drewN ?_ _)))); have hh := Has.below (by (repeat (with_reducible first | assumption | apply Has.alloc5 | apply Has.alloc2 | apply Has.alloc1 | apply Has.alloc3 | apply Has.drew | apply Has.drewN | apply Has.set_ | apply Has.allocx | exact Has.nil _))) hb; (try simp only [World.size_alloc, World.size_setCell, World.size_drew, World.heap_drewN] at hh); have hq := hh; simp only [Has, upd, World.size_alloc, World.size_setCell, World.size_drew, World.heap_drewN, and_true, true_and, ite_true, ite_false, and_self, Nat.add_right_cancel_iff, Nat.add_eq_left, Nat.left_eq_add, reduceCtorEq, Nat.reduceEqDiff, if_true, if_false] at hq; have hs := hb.size; (try simp only [World.size_alloc, World.size_setCell, World.size_drew, World.heap_drewN] at hs); clear hb) | (go_at_call 105; refine (within_any _ _ _ _).mono ?_; rintro e w' ⟨rfl, rfl⟩))
    go_ret2
    exact RetMeas.nil w (by (first | with_reducible exact Below.refl _ _ | with_reducible assumption | (repeat (with_reducible first | exact Below.refl _ _ | assumption | refine Below.drew ?_ | refine Below.alloc ?_ (by first | omega | (simp <;> omega)) _ | refine Below.setCell ?_ (by first | omega | (simp <;> omega)) _ | refine below_drewN ?_ _))))
  rcases Int.lt_or_le t f with h3 | h3
  · obtain ⟨rfl, rfl⟩ : r = [] ∧ ok = false := by have := HM.out.symm.trans (mRepeat_bad (by simp [rngB]; omega)); injection this with a b; exact ⟨a, b⟩
    go_enter Try.func79, Try.ntmps79
    go_wp2_with (first | (go_at_call 137; refine (iIsMusic_any _ _ _ _ _ hp).mono ?_; rintro e w' ⟨rfl, hb⟩; have hz : w.heap.size ≤ w'.heap.size := (by have := hb.size; first | omega | (simp at this; omega)); have hB : Below w.heap.size w w' := (by refine Below.trans ?_ (hb.mono (by first | omega | (simp <;> omega))); (first | with_reducible exact Below.refl _ _ | with_reducible assumption | (repeat (with_reducible first | exact Below.refl _ _ | assumption | refine Below.drew ?_ | refine Below.alloc ?_ (by first | omega | (simp <;> omega)) _ | refine Below.setCell ?_ (by first | omega | (simp <;> omega)) _ | refine below_drewN ?_ _)))); have hh := Has.below (by (repeat (with_reducible first | assumption | apply Has.alloc5 | apply Has.alloc2 | apply Has.alloc1 | apply Has.alloc3 | apply Has.drew | apply Has.drewN | apply Has.set_ | apply Has.allocx | exact Has.nil _))) hb; (try simp only [World.size_alloc, World.size_setCell, World.size_drew, World.heap_drewN] at hh); have hq := hh; simp only [Has, upd, World.size_alloc, World.size_setCell, World.size_drew, World.heap_drewN, and_true, true_and, ite_true, ite_false, and_self, Nat.add_right_cancel_iff, Nat.add_eq_left, Nat.left_eq_add, reduceCtorEq, Nat.reduceEqDiff, if_true, if_false] at hq; have hs := hb.size; (try simp only [World.size_alloc, World.size_setCell, World.size_drew, World.heap_drewN] at hs); clear hb) | (go_at_call 105; refine (within_any _ _ _ _).mono ?_; rintro e w' ⟨rfl, rfl⟩))
    go_ret2
    exact RetMeas.nil w (by (first | with_reducible exact Below.refl _ _ | with_reducible assumption | (repeat (with_reducible first | exact Below.refl _ _ | assumption | refine Below.drew ?_ | refine Below.alloc ?_ (by first | omega | (simp <;> omega)) _ | refine Below.setCell ?_ (by first | omega | (simp <;> omega)) _ | refine below_drewN ?_ _))))
  rcases Int.lt_or_le t n with h4 | h4
  rotate_left
  · obtain ⟨rfl, rfl⟩ : r = [] ∧ ok = false := by have := HM.out.symm.trans (mRepeat_bad (by have := HL.out; simp [rngB]; omega)); injection this with a b; exact ⟨a, b⟩
    go_enter Try.func79, Try.ntmps79
    go_wp2_with (first | (go_at_call 137; refine (iIsMusic_any _ _ _ _ _ hp).mono ?_; rintro e w' ⟨rfl, hb⟩; have hz : w.heap.size ≤ w'.heap.size := (by have := hb.size; first | omega | (simp at this; omega)); have hB : Below w.heap.size w w' := (by refine Below.trans ?_ (hb.mono (by first | omega | (simp <;> omega))); (first | with_reducible exact Below.refl _ _ | with_reducible assumption | (repeat (with_reducible first | exact Below.refl _ _ | assumption | refine Below.drew ?_ | refine Below.alloc ?_ (by first | omega | (simp <;> omega)) _ | refine Below.setCell ?_ (by first | omega | (simp <;> omega)) _ | refine below_drewN ?_ _)))); have hh := Has.below (by (repeat (with_reducible first | assumption | apply Has.alloc5 | apply Has.alloc2 | apply Has.alloc1 | apply Has.alloc3 | apply Has.drew | apply Has.drewN | apply Has.set_ | apply Has.allocx | exact Has.nil _))) hb; (try simp only [World.size_alloc, World.size_setCell, World.size_drew, World.heap_drewN] at hh); have hq := hh; simp only [Has, upd, World.size_alloc, World.size_setCell, World.size_drew, World.heap_drewN, and_true, true_and, ite_true, ite_false, and_self, Nat.add_right_cancel_iff, Nat.add_eq_left, Nat.left_eq_add, reduceCtorEq, Nat.reduceEqDiff, if_true, if_false] at hq; have hs := hb.size; (try simp only [World.size_alloc, World.size_setCell, World.size_drew, World.heap_drewN] at hs); clear hb) | (go_at_call 105; refine (within_any _ _ _ _).mono ?_; rintro e w' ⟨rfl, rfl⟩))
    go_ret2
    exact RetMeas.nil w (by (first | with_reducible exact Below.refl _ _ | with_reducible assumption | (repeat (with_reducible first | exact Below.refl _ _ | assumption | refine Below.drew ?_ | refine Below.alloc ?_ (by first | omega | (simp <;> omega)) _ | refine Below.setCell ?_ (by first | omega | (simp <;> omega)) _ | refine below_drewN ?_ _))))
  rcases tf (inB p 1 10) with h5 | h5
  rotate_left
  · obtain ⟨rfl, rfl⟩ : r = [] ∧ ok = false := by have := HM.out.symm.trans (mRepeat_bad (by simp [h5])); injection this with a b; exact ⟨a, b⟩
    go_enter Try.func79, Try.ntmps79
    go_wp2_with (first | (go_at_call 137; refine (iIsMusic_any _ _ _ _ _ hp).mono ?_; rintro e w' ⟨rfl, hb⟩; have hz : w.heap.size ≤ w'.heap.size := (by have := hb.size; first | omega | (simp at this; omega)); have hB : Below w.heap.size w w' := (by refine Below.trans ?_ (hb.mono (by first | omega | (simp <;> omega))); (first | with_reducible exact Below.refl _ _ | with_reducible assumption | (repeat (with_reducible first | exact Below.refl _ _ | assumption | refine Below.drew ?_ | refine Below.alloc ?_ (by first | omega | (simp <;> omega)) _ | refine Below.setCell ?_ (by first | omega | (simp <;> omega)) _ | refine below_drewN ?_ _)))); have hh := Has.below (by (repeat (with_reducible first | assumption | apply Has.alloc5 | apply Has.alloc2 | apply Has.alloc1 | apply Has.alloc3 | apply Has.drew | apply Has.drewN | apply Has.set_ | apply Has.allocx | exact Has.nil _))) hb; (try simp only [World.size_alloc, World.size_setCell, World.size_drew, World.heap_drewN] at hh); have hq := hh; simp only [Has, upd, World.size_alloc, World.size_setCell, World.size_drew, World.heap_drewN, and_true, true_and, ite_true, ite_false, and_self, Nat.add_right_cancel_iff, Nat.add_eq_left, Nat.left_eq_add, reduceCtorEq, Nat.reduceEqDiff, if_true, if_false] at hq; have hs := hb.size; (try simp only [World.size_alloc, World.size_setCell, World.size_drew, World.heap_drewN] at hs); clear hb) | (go_at_call 105; refine (within_any _ _ _ _).mono ?_; rintro e w' ⟨rfl, rfl⟩))
    go_ret2
    exact RetMeas.nil w (by (first | with_reducible exact Below.refl _ _ | with_reducible assumption | (repeat (with_reducible first | exact Below.refl _ _ | assumption | refine Below.drew ?_ | refine Below.alloc ?_ (by first | omega | (simp <;> omega)) _ | refine Below.setCell ?_ (by first | omega | (simp <;> omega)) _ | refine below_drewN ?_ _))))
  have HR := Lib.hid (show rngB l f t = true by rw [rngB_iff, HL.out]; exact ⟨h1, h2, h3, h4⟩)
  have HMU := Lib.hid h1
  obtain ⟨F, rfl⟩ : ∃ F : Nat, f = F := ⟨f.toNat, by omega⟩
  obtain ⟨T, rfl⟩ : ∃ T : Nat, t = T := ⟨t.toNat, by omega⟩
  obtain ⟨x1, x2⟩ := (inB_iff _ _ _).1 h5
  obtain ⟨X, rfl⟩ : ∃ X : Nat, p = X := ⟨p.toNat, by omega⟩
  have HM2 : Hid ((if musB (repL l F T X) then (repL l F T X, true) else ([], false)) = (r, ok)) := (mRepeat_ok (by rw [HR.out, h5]; rfl)).symm.trans HM.out
  clear HM HR
  have k2 : F ≤ T := by omega
  have k3 : T < n := by omega
  have hn40 : n ≤ 40 := by have := musB_len HMU.out; have := HL.out; omega
  have HP := Lib.hid (part_len HL.out k2 k3)
  obtain ⟨g, rfl, hgl, _⟩ := hp.2.2 (by omega)
  have k4 : (F : Int) ≤ n := by omega
  have k5 : (T : Int) + 1 ≤ n := by omega
  have k6 : (F : Int) ≤ T + 1 := by omega
  have k7 : (F : Int) ≤ c := by omega
  have k8 : (T : Int) + 1 ≤ c := by omega
  have k9 : (n : Int) ≤ c := by omega
  obtain ⟨i0, hi0, hz0, hz1, hz2⟩ := info_parts infoMeasure
  have HI := Lib.hid hi0
  have HZ0 := Lib.hid hz0
  have HZ1 := Lib.hid hz1
  have HZ2 := Lib.hid hz2
  clear hi0 hz0 hz1 hz2
  go_enter Try.func79, Try.ntmps79
  go_wp2_with (first
               | (go_at_call 137; refine (iIsMusic_any _ _ _ _ _ hp).mono ?_; rintro e w' ⟨rfl, hb⟩; have hz : w.heap.size ≤ w'.heap.size := (by have := hb.size; first | omega | (simp at this; omega)); have hB : Below w.heap.size w w' := (by refine Below.trans ?_ (hb.mono (by first | omega | (simp <;> omega))); (first | with_reducible exact Below.refl _ _ | with_reducible assumption | (repeat (with_reducible first | exact Below.refl _ _ | assumption | refine Below.drew ?_ | refine Below.alloc ?_ (by first | omega | (simp <;> omega)) _ | refine Below.setCell ?_ (by first | omega | (simp <;> omega)) _ | refine below_drewN ?_ _)))); have hh := Has.below (by (repeat (with_reducible first | assumption | apply Has.alloc5 | apply Has.alloc2 | apply Has.alloc1 | apply Has.alloc3 | apply Has.drew | apply Has.drewN | apply Has.set_ | apply Has.allocx | exact Has.nil _))) hb; (try simp only [World.size_alloc, World.size_setCell, World.size_drew, World.heap_drewN] at hh); have hq := hh; simp only [Has, upd, World.size_alloc, World.size_setCell, World.size_drew, World.heap_drewN, and_true, true_and, ite_true, ite_false, and_self, Nat.add_right_cancel_iff, Nat.add_eq_left, Nat.left_eq_add, reduceCtorEq, Nat.reduceEqDiff, if_true, if_false] at hq; have hs := hb.size; (try simp only [World.size_alloc, World.size_setCell, World.size_drew, World.heap_drewN] at hs); have hp2 := Lst.below hp hb (Nat.le_refl _); have hw0 : w.heap.size ≤ w'.heap.size := hb.size; clear hb) | (go_at_call 105; refine (within_any _ _ _ _).mono ?_; rintro e w' ⟨rfl, rfl⟩)
               | (at_builtin
                  refine wpList_append_own _ rfl _ _ 86 rfl w.heap.size 100 i0 (.agg #[.int .i64 0, .int .i64 0]) 2 16 Try.underlying86 HI.out HZ0.out HZ1.out HZ2.out rfl (by decide) _ 0 [] rfl (World.ownsRow_made _ _ _ (by omega) (by simp [maxLen]) rfl) ⟨g, 0, none⟩ F c (flat2 (l.take F)) rfl (by rw [flat2_len, HP.out.1]) (Lst.newsTo (hp2.below ((Below.refl _ _).alloc (Nat.le_refl _) _) (Nat.le_refl _)) F) (flat2_cells _) (by simp only [maxLen]; omega) (by omega) (by simp; omega) ?_
                  intro v2 w2 hown' hgrow _
                  have hM2 : MRow w2 w.heap.size v2 (l.take F) := MRow.app (l := []) (q := l.take F) (n := 0) (m := F) rfl HP.out.1 (by omega) hown'
                  have hB2 : Below w.heap.size w w2 := Below.grown (Below.alloc hB (by first | omega | (simp <;> omega)) _) hgrow (by first | omega | (simp <;> omega)) (fun r hr => by injection hr with hr; have h9 : w'.heap.size = r := hr; omega)
                  clear hown' hgrow hp2))
  obtain ⟨wz, rfl⟩ : ∃ wz, wz = w2 := ⟨_, rfl⟩
  have hz := hB2.size
  go_loopw [10, 11] (fun s1 s2 wr => ∃ k : Nat, k ≤ X ∧ s2 = .int .i64 k ∧ MRow wr w.heap.size s1 (repTo (l.take F) ((l.drop F).take (T + 1 - F)) k) ∧ Below w.heap.size w wr) (fun _ v _ => (X - intOf v).toNat)
  case atStart => exact ⟨0, by omega, rfl, hM2, hB2⟩
  case round =>
    obtain ⟨k, hk, rfl, hM, hB⟩ := hrel
    have hwr := hB.size
    clear hM2 hB2
    have HK : Hid ((repTo (l.take F) ((l.drop F).take (T + 1 - F)) k).length ≤ 440) := by
      show _ ≤ _; rw [repTo_len, HP.out.1, HP.out.2.1]
      have := mul_le40 (k := k) (m := T + 1 - F) (by omega) (by omega)
      omega
    by_cases hlt : k < X
    · go_wp2_with (first
               | (at_builtin
                  refine wpList_append_own _ rfl _ _ 86 rfl w.heap.size 100 i0 (.agg #[.int .i64 0, .int .i64 0]) 2 16 Try.underlying86 HI.out HZ0.out HZ1.out HZ2.out rfl (by decide) _ _ (flat2 (repTo (l.take F) ((l.drop F).take (T + 1 - F)) k)) (by rfl) hM.2 ⟨g, F * 2, none⟩ (T + 1 - F) (c - F) (flat2 ((l.drop F).take (T + 1 - F))) (by rfl) (by rw [flat2_len, HP.out.2.1]) (Lst.news (Lst.below hp hB (Nat.le_refl _)) _) (flat2_cells _) (by have := HK.out; simp only [maxLen]; omega) (by have := HK.out; omega) (by omega) ?_
                  intro v3 w3 hown' hgrow _
                  have hM3 : MRow w3 w.heap.size v3 (repTo (l.take F) ((l.drop F).take (T + 1 - F)) (k + 1)) := MRow.app (l := repTo (l.take F) ((l.drop F).take (T + 1 - F)) k) rfl HP.out.2.1 (by have := HK.out; omega) hown'
                  have hlow := World.ownsRow.lt hM.2
                  have hB3 : Below w.heap.size w w3 := Below.grown hB hgrow (by first | omega | (simp <;> omega)) (fun r hr => by have := (hlow r hr).1; omega)
                  clear hown' hgrow hlow hM hB))
      go_roundw
      case rel => exact ⟨k + 1, by omega, by go_num, hM3, hB3⟩
      case measure => simp [intOf]; omega
    · obtain rfl : k = X := by omega
      by_cases hend : T + 1 = c
      · rcases tf (musB (repL l F T k)) with hz9 | hz9
        · obtain ⟨rfl, rfl⟩ : r = repL l F T k ∧ ok = true := by have := HM2.out; rw [if_pos hz9] at this; injection this with a b; exact ⟨a.symm, b.symm⟩
          go_wp2_with (first
                       | (go_at_call 137; refine (iIsMusic_row _ _ _ _ HH.out.1).mono ?_; rintro e w' ⟨rfl, hb⟩; have hfin : MRow w' w.heap.size v3 (repL l F T k) ∧ Below w.heap.size w w' := ⟨HH.out.1.below hb (Nat.le_refl _), Below.trans HH.out.2 (hb.mono (by first | omega | (simp <;> omega)))⟩)
                       | (at_builtin
                          refine wpList_append_own _ rfl _ _ 86 rfl w.heap.size 100 i0 (.agg #[.int .i64 0, .int .i64 0]) 2 16 Try.underlying86 HI.out HZ0.out HZ1.out HZ2.out rfl (by decide) _ _ (flat2 (repTo (l.take F) ((l.drop F).take (T + 1 - F)) k)) (by rfl) hM.2 ⟨g, 0, none⟩ 0 0 (flat2 (l.drop (T + 1))) (by rfl) (by rw [flat2_len, HP.out.2.2]; simp; omega) (by rw [List.drop_of_length_le (by rw [HL.out]; omega)]; simp [flat2]) (flat2_cells _) (by have := HK.out; simp only [maxLen]; omega) (by have := HK.out; omega) (by omega) ?_
                          intro v3 w3 hown' hgrow _
                          have hM3 : MRow w3 w.heap.size v3 (repL l F T k) := MRow.app (l := repTo (l.take F) ((l.drop F).take (T + 1 - F)) k) rfl (HP.out.2.2.trans (by omega)) (by have := HK.out; omega) hown'
                          have hlow := World.ownsRow.lt hM.2
                          have hB3 : Below w.heap.size w w3 := Below.grown hB hgrow (by first | omega | (simp <;> omega)) (fun r hr => by have := (hlow r hr).1; omega)
                          have hw3 := hB3.size
                          have hMM : MRow w3 w.heap.size v3 (repL l F T k) ∧ Below w.heap.size w w3 := ⟨hM3, hB3⟩
                          have HH := Lib.hid hMM
                          clear hown' hgrow hlow hM hB hM3 hB3 hMM))
          go_ret2
          exact hfin.1.ret (Nat.le_refl _) hfin.2
        · obtain ⟨rfl, rfl⟩ : r = [] ∧ ok = false := by have := HM2.out; rw [if_neg (by simp [hz9])] at this; injection this with a b; exact ⟨a.symm, b.symm⟩
          go_wp2_with (first
                       | (go_at_call 137; refine (iIsMusic_row _ _ _ _ HH.out.1).mono ?_; rintro e w' ⟨rfl, hb⟩; have hfin : MRow w' w.heap.size v3 (repL l F T k) ∧ Below w.heap.size w w' := ⟨HH.out.1.below hb (Nat.le_refl _), Below.trans HH.out.2 (hb.mono (by first | omega | (simp <;> omega)))⟩)
                       | (at_builtin
                          refine wpList_append_own _ rfl _ _ 86 rfl w.heap.size 100 i0 (.agg #[.int .i64 0, .int .i64 0]) 2 16 Try.underlying86 HI.out HZ0.out HZ1.out HZ2.out rfl (by decide) _ _ (flat2 (repTo (l.take F) ((l.drop F).take (T + 1 - F)) k)) (by rfl) hM.2 ⟨g, 0, none⟩ 0 0 (flat2 (l.drop (T + 1))) (by rfl) (by rw [flat2_len, HP.out.2.2]; simp; omega) (by rw [List.drop_of_length_le (by rw [HL.out]; omega)]; simp [flat2]) (flat2_cells _) (by have := HK.out; simp only [maxLen]; omega) (by have := HK.out; omega) (by omega) ?_
                          intro v3 w3 hown' hgrow _
                          have hM3 : MRow w3 w.heap.size v3 (repL l F T k) := MRow.app (l := repTo (l.take F) ((l.drop F).take (T + 1 - F)) k) rfl (HP.out.2.2.trans (by omega)) (by have := HK.out; omega) hown'
                          have hlow := World.ownsRow.lt hM.2
                          have hB3 : Below w.heap.size w w3 := Below.grown hB hgrow (by first | omega | (simp <;> omega)) (fun r hr => by have := (hlow r hr).1; omega)
                          have hw3 := hB3.size
                          have hMM : MRow w3 w.heap.size v3 (repL l F T k) ∧ Below w.heap.size w w3 := ⟨hM3, hB3⟩
                          have HH := Lib.hid hMM
                          clear hown' hgrow hlow hM hB hM3 hB3 hMM))
          go_ret2
          exact RetMeas.nil w hfin.2
      · rcases tf (musB (repL l F T k)) with hz9 | hz9
        · obtain ⟨rfl, rfl⟩ : r = repL l F T k ∧ ok = true := by have := HM2.out; rw [if_pos hz9] at this; injection this with a b; exact ⟨a.symm, b.symm⟩
          go_wp2_with (first
                       | (go_at_call 137; refine (iIsMusic_row _ _ _ _ HH.out.1).mono ?_; rintro e w' ⟨rfl, hb⟩; have hfin : MRow w' w.heap.size v3 (repL l F T k) ∧ Below w.heap.size w w' := ⟨HH.out.1.below hb (Nat.le_refl _), Below.trans HH.out.2 (hb.mono (by first | omega | (simp <;> omega)))⟩)
                       | (at_builtin
                          refine wpList_append_own _ rfl _ _ 86 rfl w.heap.size 100 i0 (.agg #[.int .i64 0, .int .i64 0]) 2 16 Try.underlying86 HI.out HZ0.out HZ1.out HZ2.out rfl (by decide) _ _ (flat2 (repTo (l.take F) ((l.drop F).take (T + 1 - F)) k)) (by rfl) hM.2 ⟨g, (T + 1) * 2, none⟩ (n - (T + 1)) (c - (T + 1)) (flat2 (l.drop (T + 1))) (by rfl) (by rw [flat2_len, HP.out.2.2]) (Lst.newsFrom (Lst.below hp hB (Nat.le_refl _))) (flat2_cells _) (by have := HK.out; simp only [maxLen]; omega) (by have := HK.out; omega) (by omega) ?_
                          intro v3 w3 hown' hgrow _
                          have hM3 : MRow w3 w.heap.size v3 (repL l F T k) := MRow.app (l := repTo (l.take F) ((l.drop F).take (T + 1 - F)) k) rfl (HP.out.2.2) (by have := HK.out; omega) hown'
                          have hlow := World.ownsRow.lt hM.2
                          have hB3 : Below w.heap.size w w3 := Below.grown hB hgrow (by first | omega | (simp <;> omega)) (fun r hr => by have := (hlow r hr).1; omega)
                          have hw3 := hB3.size
                          have hMM : MRow w3 w.heap.size v3 (repL l F T k) ∧ Below w.heap.size w w3 := ⟨hM3, hB3⟩
                          have HH := Lib.hid hMM
                          clear hown' hgrow hlow hM hB hM3 hB3 hMM))
          go_ret2
          exact hfin.1.ret (Nat.le_refl _) hfin.2
        · obtain ⟨rfl, rfl⟩ : r = [] ∧ ok = false := by have := HM2.out; rw [if_neg (by simp [hz9])] at this; injection this with a b; exact ⟨a.symm, b.symm⟩
          go_wp2_with (first
                       | (go_at_call 137; refine (iIsMusic_row _ _ _ _ HH.out.1).mono ?_; rintro e w' ⟨rfl, hb⟩; have hfin : MRow w' w.heap.size v3 (repL l F T k) ∧ Below w.heap.size w w' := ⟨HH.out.1.below hb (Nat.le_refl _), Below.trans HH.out.2 (hb.mono (by first | omega | (simp <;> omega)))⟩)
                       | (at_builtin
                          refine wpList_append_own _ rfl _ _ 86 rfl w.heap.size 100 i0 (.agg #[.int .i64 0, .int .i64 0]) 2 16 Try.underlying86 HI.out HZ0.out HZ1.out HZ2.out rfl (by decide) _ _ (flat2 (repTo (l.take F) ((l.drop F).take (T + 1 - F)) k)) (by rfl) hM.2 ⟨g, (T + 1) * 2, none⟩ (n - (T + 1)) (c - (T + 1)) (flat2 (l.drop (T + 1))) (by rfl) (by rw [flat2_len, HP.out.2.2]) (Lst.newsFrom (Lst.below hp hB (Nat.le_refl _))) (flat2_cells _) (by have := HK.out; simp only [maxLen]; omega) (by have := HK.out; omega) (by omega) ?_
                          intro v3 w3 hown' hgrow _
                          have hM3 : MRow w3 w.heap.size v3 (repL l F T k) := MRow.app (l := repTo (l.take F) ((l.drop F).take (T + 1 - F)) k) rfl (HP.out.2.2) (by have := HK.out; omega) hown'
                          have hlow := World.ownsRow.lt hM.2
                          have hB3 : Below w.heap.size w w3 := Below.grown hB hgrow (by first | omega | (simp <;> omega)) (fun r hr => by have := (hlow r hr).1; omega)
                          have hw3 := hB3.size
                          have hMM : MRow w3 w.heap.size v3 (repL l F T k) ∧ Below w.heap.size w w3 := ⟨hM3, hB3⟩
                          have HH := Lib.hid hMM
                          clear hown' hgrow hlow hM hB hM3 hB3 hMM))
          go_ret2
          exact RetMeas.nil w hfin.2

set_option maxHeartbeats 8000000 in
theorem sRepeat_cap (A : Option Addr) (n c : Nat) (l : List (Int × Int)) (f t p : Int) (r : List (Int × Int)) (ok : Bool) (w : World) (hp : Lst w A n l) (hcn : n ≤ c) (hcm : c ≤ maxLen) (hm : mRepeat l f t p = (r, ok)) :
    Calls Try.prog 80 #[.slice A n c, .int .i64 f, .int .i64 t, .int .i64 p] w (RetMeas w r ok) := by
  have HL := Lib.hid hp.1
  have hn := hp.2.1
  have HM := Lib.hid hm
  clear hm
  simp only [maxLen] at hcm
  rcases tf (rngB l f t) with h1 | h1
  rotate_left
  · obtain ⟨rfl, rfl⟩ : r = [] ∧ ok = false := by have := HM.out.symm.trans (mRepeat_bad (by simp [h1])); injection this with a b; exact ⟨a, b⟩
    go_enter Try.func80, Try.ntmps80
    go_wp2_with (first | (go_at_call 143; refine (muRange_any _ _ _ _ _ _ _ hp).mono ?_; rintro e w' ⟨rfl, hb⟩; have hz : w.heap.size ≤ w'.heap.size := (by have := hb.size; first | omega | (simp at this; omega)); have hB : Below w.heap.size w w' := (by refine Below.trans ?_ (hb.mono (by first | omega | (simp <;> omega))); (first | with_reducible exact Below.refl _ _ | with_reducible assumption | (repeat (with_reducible first | exact Below.refl _ _ | assumption | refine Below.drew ?_ | refine Below.alloc ?_ (by first | omega | (simp <;> omega)) _ | refine Below.setCell ?_ (by first | omega | (simp <;> omega)) _ | refine below_drewN ?_ _)))); have hh := Has.below (by (repeat (with_reducible first | assumption | apply Has.alloc5 | apply Has.alloc2 | apply Has.alloc1 | apply Has.alloc3 | apply Has.drew | apply Has.drewN | apply Has.set_ | apply Has.allocx | exact Has.nil _))) hb; (try simp only [World.size_alloc, World.size_setCell, World.size_drew, World.heap_drewN] at hh); have hq := hh; simp only [Has, upd, World.size_alloc, World.size_setCell, World.size_drew, World.heap_drewN, and_true, true_and, ite_true, ite_false, and_self, Nat.add_right_cancel_iff, Nat.add_eq_left, Nat.left_eq_add, reduceCtorEq, Nat.reduceEqDiff, if_true, if_false] at hq; have hs := hb.size; (try simp only [World.size_alloc, World.size_setCell, World.size_drew, World.heap_drewN] at hs); clear hb) | (go_at_call 106; refine (l1In_any _ _ _ _).mono ?_; rintro e w' ⟨rfl, rfl⟩))
    go_ret2
    exact RetMeas.nil w (by (first | with_reducible exact Below.refl _ _ | with_reducible assumption | (repeat (with_reducible first | exact Below.refl _ _ | assumption | refine Below.drew ?_ | refine Below.alloc ?_ (by first | omega | (simp <;> omega)) _ | refine Below.setCell ?_ (by first | omega | (simp <;> omega)) _ | refine below_drewN ?_ _))))
  rcases tf (inB p 1 10) with h5 | h5
  rotate_left
  · obtain ⟨rfl, rfl⟩ : r = [] ∧ ok = false := by have := HM.out.symm.trans (mRepeat_bad (by simp [h5])); injection this with a b; exact ⟨a, b⟩
    go_enter Try.func80, Try.ntmps80
    go_wp2_with (first | (go_at_call 143; refine (muRange_any _ _ _ _ _ _ _ hp).mono ?_; rintro e w' ⟨rfl, hb⟩; have hz : w.heap.size ≤ w'.heap.size := (by have := hb.size; first | omega | (simp at this; omega)); have hB : Below w.heap.size w w' := (by refine Below.trans ?_ (hb.mono (by first | omega | (simp <;> omega))); (first | with_reducible exact Below.refl _ _ | with_reducible assumption | (repeat (with_reducible first | exact Below.refl _ _ | assumption | refine Below.drew ?_ | refine Below.alloc ?_ (by first | omega | (simp <;> omega)) _ | refine Below.setCell ?_ (by first | omega | (simp <;> omega)) _ | refine below_drewN ?_ _)))); have hh := Has.below (by (repeat (with_reducible first | assumption | apply Has.alloc5 | apply Has.alloc2 | apply Has.alloc1 | apply Has.alloc3 | apply Has.drew | apply Has.drewN | apply Has.set_ | apply Has.allocx | exact Has.nil _))) hb; (try simp only [World.size_alloc, World.size_setCell, World.size_drew, World.heap_drewN] at hh); have hq := hh; simp only [Has, upd, World.size_alloc, World.size_setCell, World.size_drew, World.heap_drewN, and_true, true_and, ite_true, ite_false, and_self, Nat.add_right_cancel_iff, Nat.add_eq_left, Nat.left_eq_add, reduceCtorEq, Nat.reduceEqDiff, if_true, if_false] at hq; have hs := hb.size; (try simp only [World.size_alloc, World.size_setCell, World.size_drew, World.heap_drewN] at hs); clear hb) | (go_at_call 106; refine (l1In_any _ _ _ _).mono ?_; rintro e w' ⟨rfl, rfl⟩))
    go_ret2
    exact RetMeas.nil w (by (first | with_reducible exact Below.refl _ _ | with_reducible assumption | (repeat (with_reducible first | exact Below.refl _ _ | assumption | refine Below.drew ?_ | refine Below.alloc ?_ (by first | omega | (simp <;> omega)) _ | refine Below.setCell ?_ (by first | omega | (simp <;> omega)) _ | refine below_drewN ?_ _))))
  have HR := Lib.hid h1
  obtain ⟨hmu, h2, h3, h4⟩ := (rngB_iff _ _ _).1 h1
  have HMU := Lib.hid hmu
  rw [HL.out] at h4
  clear hmu
  obtain ⟨F, rfl⟩ : ∃ F : Nat, f = F := ⟨f.toNat, by omega⟩
  obtain ⟨T, rfl⟩ : ∃ T : Nat, t = T := ⟨t.toNat, by omega⟩
  obtain ⟨x1, x2⟩ := (inB_iff _ _ _).1 h5
  obtain ⟨X, rfl⟩ : ∃ X : Nat, p = X := ⟨p.toNat, by omega⟩
  have HM2 : Hid ((if musB (repL l F T X) then (repL l F T X, true) else ([], false)) = (r, ok)) := (mRepeat_ok (by rw [HR.out, h5]; rfl)).symm.trans HM.out
  clear HM HR
  have k2 : F ≤ T := by omega
  have k3 : T < n := by omega
  have hn40 : n ≤ 40 := by have := musB_len HMU.out; have := HL.out; omega
  have HP := Lib.hid (part_len HL.out k2 k3)
  obtain ⟨g, rfl, hgl, _⟩ := hp.2.2 (by omega)
  have k4 : (F : Int) ≤ n := by omega
  have k5 : (T : Int) + 1 ≤ n := by omega
  have k6 : (F : Int) ≤ T + 1 := by omega
  have k7 : (F : Int) ≤ c := by omega
  have k8 : (T : Int) + 1 ≤ c := by omega
  have k9 : (n : Int) ≤ c := by omega
  obtain ⟨i0, hi0, hz0, hz1, hz2⟩ := info_parts infoMeasure
  have HI := Lib.hid hi0
  have HZ0 := Lib.hid hz0
  have HZ1 := Lib.hid hz1
  have HZ2 := Lib.hid hz2
  clear hi0 hz0 hz1 hz2
  go_enter Try.func80, Try.ntmps80
  go_wp2_with (first
               | (go_at_call 143; refine (muRange_any _ _ _ _ _ _ _ hp).mono ?_; rintro e w' ⟨rfl, hb⟩; have hz : w.heap.size ≤ w'.heap.size := (by have := hb.size; first | omega | (simp at this; omega)); have hB : Below w.heap.size w w' := (by refine Below.trans ?_ (hb.mono (by first | omega | (simp <;> omega))); (first | with_reducible exact Below.refl _ _ | with_reducible assumption | (repeat (with_reducible first | exact Below.refl _ _ | assumption | refine Below.drew ?_ | refine Below.alloc ?_ (by first | omega | (simp <;> omega)) _ | refine Below.setCell ?_ (by first | omega | (simp <;> omega)) _ | refine below_drewN ?_ _)))); have hh := Has.below (by (repeat (with_reducible first | assumption | apply Has.alloc5 | apply Has.alloc2 | apply Has.alloc1 | apply Has.alloc3 | apply Has.drew | apply Has.drewN | apply Has.set_ | apply Has.allocx | exact Has.nil _))) hb; (try simp only [World.size_alloc, World.size_setCell, World.size_drew, World.heap_drewN] at hh); have hq := hh; simp only [Has, upd, World.size_alloc, World.size_setCell, World.size_drew, World.heap_drewN, and_true, true_and, ite_true, ite_false, and_self, Nat.add_right_cancel_iff, Nat.add_eq_left, Nat.left_eq_add, reduceCtorEq, Nat.reduceEqDiff, if_true, if_false] at hq; have hs := hb.size; (try simp only [World.size_alloc, World.size_setCell, World.size_drew, World.heap_drewN] at hs); have hp2 := Lst.below hp hb (Nat.le_refl _); have hw0 : w.heap.size ≤ w'.heap.size := hb.size; clear hb) | (go_at_call 106; refine (l1In_any _ _ _ _).mono ?_; rintro e w' ⟨rfl, rfl⟩)
               | (at_builtin
                  refine wpList_append_own _ rfl _ _ 86 rfl w.heap.size 100 i0 (.agg #[.int .i64 0, .int .i64 0]) 2 16 Try.underlying86 HI.out HZ0.out HZ1.out HZ2.out rfl (by decide) _ 0 [] rfl (World.ownsRow_made _ _ _ (by omega) (by simp [maxLen]) rfl) ⟨g, 0, none⟩ F c (flat2 (l.take F)) rfl (by rw [flat2_len, HP.out.1]) (Lst.newsTo (hp2.below ((Below.refl _ _).alloc (Nat.le_refl _) _) (Nat.le_refl _)) F) (flat2_cells _) (by simp only [maxLen]; omega) (by omega) (by simp; omega) ?_
                  intro v2 w2 hown' hgrow _
                  have hM2 : MRow w2 w.heap.size v2 (l.take F) := MRow.app (l := []) (q := l.take F) (n := 0) (m := F) rfl HP.out.1 (by omega) hown'
                  have hB2 : Below w.heap.size w w2 := Below.grown (Below.alloc hB (by first | omega | (simp <;> omega)) _) hgrow (by first | omega | (simp <;> omega)) (fun r hr => by injection hr with hr; have h9 : w'.heap.size = r := hr; omega)
                  clear hown' hgrow hp2))
  obtain ⟨wz, rfl⟩ : ∃ wz, wz = w2 := ⟨_, rfl⟩
  have hz := hB2.size
  go_loopw [10, 3] (fun s1 s2 wr => ∃ k : Nat, k ≤ X ∧ s2 = .int .i64 ((X : Int) - k) ∧ MRow wr w.heap.size s1 (repTo (l.take F) ((l.drop F).take (T + 1 - F)) k) ∧ Below w.heap.size w wr) (fun _ v _ => (intOf v).toNat)
  case atStart => exact ⟨0, by omega, by go_num, hM2, hB2⟩
  case round =>
    obtain ⟨k, hk, rfl, hM, hB⟩ := hrel
    have hwr := hB.size
    clear hM2 hB2
    have HK : Hid ((repTo (l.take F) ((l.drop F).take (T + 1 - F)) k).length ≤ 440) := by
      show _ ≤ _; rw [repTo_len, HP.out.1, HP.out.2.1]
      have := mul_le40 (k := k) (m := T + 1 - F) (by omega) (by omega)
      omega
    by_cases hlt : k < X
    · go_wp2_with (first
               | (at_builtin
                  refine wpList_append_own _ rfl _ _ 86 rfl w.heap.size 100 i0 (.agg #[.int .i64 0, .int .i64 0]) 2 16 Try.underlying86 HI.out HZ0.out HZ1.out HZ2.out rfl (by decide) _ _ (flat2 (repTo (l.take F) ((l.drop F).take (T + 1 - F)) k)) (by rfl) hM.2 ⟨g, F * 2, none⟩ (T + 1 - F) (c - F) (flat2 ((l.drop F).take (T + 1 - F))) (by rfl) (by rw [flat2_len, HP.out.2.1]) (Lst.news (Lst.below hp hB (Nat.le_refl _)) _) (flat2_cells _) (by have := HK.out; simp only [maxLen]; omega) (by have := HK.out; omega) (by omega) ?_
                  intro v3 w3 hown' hgrow _
                  have hM3 : MRow w3 w.heap.size v3 (repTo (l.take F) ((l.drop F).take (T + 1 - F)) (k + 1)) := MRow.app (l := repTo (l.take F) ((l.drop F).take (T + 1 - F)) k) rfl HP.out.2.1 (by have := HK.out; omega) hown'
                  have hlow := World.ownsRow.lt hM.2
                  have hB3 : Below w.heap.size w w3 := Below.grown hB hgrow (by first | omega | (simp <;> omega)) (fun r hr => by have := (hlow r hr).1; omega)
                  clear hown' hgrow hlow hM hB))
      go_roundw
      case rel => exact ⟨k + 1, by omega, by go_num, hM3, hB3⟩
      case measure => simp [intOf]; omega
    · obtain rfl : k = X := by omega
      by_cases hend : T + 1 = c
      · rcases tf (musB (repL l F T k)) with hz9 | hz9
        · obtain ⟨rfl, rfl⟩ : r = repL l F T k ∧ ok = true := by have := HM2.out; rw [if_pos hz9] at this; injection this with a b; exact ⟨a.symm, b.symm⟩
          go_wp2_with (first
                       | (go_at_call 134; refine (muGood_row _ _ _ _ HH.out.1).mono ?_; rintro e w' ⟨rfl, hb⟩; have hfin : MRow w' w.heap.size v3 (repL l F T k) ∧ Below w.heap.size w w' := ⟨HH.out.1.below hb (Nat.le_refl _), Below.trans HH.out.2 (hb.mono (by first | omega | (simp <;> omega)))⟩)
                       | (at_builtin
                          refine wpList_append_own _ rfl _ _ 86 rfl w.heap.size 100 i0 (.agg #[.int .i64 0, .int .i64 0]) 2 16 Try.underlying86 HI.out HZ0.out HZ1.out HZ2.out rfl (by decide) _ _ (flat2 (repTo (l.take F) ((l.drop F).take (T + 1 - F)) k)) (by rfl) hM.2 ⟨g, 0, none⟩ 0 0 (flat2 (l.drop (T + 1))) (by rfl) (by rw [flat2_len, HP.out.2.2]; simp; omega) (by rw [List.drop_of_length_le (by rw [HL.out]; omega)]; simp [flat2]) (flat2_cells _) (by have := HK.out; simp only [maxLen]; omega) (by have := HK.out; omega) (by omega) ?_
                          intro v3 w3 hown' hgrow _
                          have hM3 : MRow w3 w.heap.size v3 (repL l F T k) := MRow.app (l := repTo (l.take F) ((l.drop F).take (T + 1 - F)) k) rfl (HP.out.2.2.trans (by omega)) (by have := HK.out; omega) hown'
                          have hlow := World.ownsRow.lt hM.2
                          have hB3 : Below w.heap.size w w3 := Below.grown hB hgrow (by first | omega | (simp <;> omega)) (fun r hr => by have := (hlow r hr).1; omega)
                          have hw3 := hB3.size
                          have hMM : MRow w3 w.heap.size v3 (repL l F T k) ∧ Below w.heap.size w w3 := ⟨hM3, hB3⟩
                          have HH := Lib.hid hMM
                          clear hown' hgrow hlow hM hB hM3 hB3 hMM))
          go_ret2
          exact hfin.1.ret (Nat.le_refl _) hfin.2
        · obtain ⟨rfl, rfl⟩ : r = [] ∧ ok = false := by have := HM2.out; rw [if_neg (by simp [hz9])] at this; injection this with a b; exact ⟨a.symm, b.symm⟩
          go_wp2_with (first
                       | (go_at_call 134; refine (muGood_row _ _ _ _ HH.out.1).mono ?_; rintro e w' ⟨rfl, hb⟩; have hfin : MRow w' w.heap.size v3 (repL l F T k) ∧ Below w.heap.size w w' := ⟨HH.out.1.below hb (Nat.le_refl _), Below.trans HH.out.2 (hb.mono (by first | omega | (simp <;> omega)))⟩)
                       | (at_builtin
                          refine wpList_append_own _ rfl _ _ 86 rfl w.heap.size 100 i0 (.agg #[.int .i64 0, .int .i64 0]) 2 16 Try.underlying86 HI.out HZ0.out HZ1.out HZ2.out rfl (by decide) _ _ (flat2 (repTo (l.take F) ((l.drop F).take (T + 1 - F)) k)) (by rfl) hM.2 ⟨g, 0, none⟩ 0 0 (flat2 (l.drop (T + 1))) (by rfl) (by rw [flat2_len, HP.out.2.2]; simp; omega) (by rw [List.drop_of_length_le (by rw [HL.out]; omega)]; simp [flat2]) (flat2_cells _) (by have := HK.out; simp only [maxLen]; omega) (by have := HK.out; omega) (by omega) ?_
                          intro v3 w3 hown' hgrow _
                          have hM3 : MRow w3 w.heap.size v3 (repL l F T k) := MRow.app (l := repTo (l.take F) ((l.drop F).take (T + 1 - F)) k) rfl (HP.out.2.2.trans (by omega)) (by have := HK.out; omega) hown'
                          have hlow := World.ownsRow.lt hM.2
                          have hB3 : Below w.heap.size w w3 := Below.grown hB hgrow (by first | omega | (simp <;> omega)) (fun r hr => by have := (hlow r hr).1; omega)
                          have hw3 := hB3.size
                          have hMM : MRow w3 w.heap.size v3 (repL l F T k) ∧ Below w.heap.size w w3 := ⟨hM3, hB3⟩
                          have HH := Lib.hid hMM
                          clear hown' hgrow hlow hM hB hM3 hB3 hMM))
          go_ret2
          exact RetMeas.nil w hfin.2
      · rcases tf (musB (repL l F T k)) with hz9 | hz9
        · obtain ⟨rfl, rfl⟩ : r = repL l F T k ∧ ok = true := by have := HM2.out; rw [if_pos hz9] at this; injection this with a b; exact ⟨a.symm, b.symm⟩
          go_wp2_with (first
                       | (go_at_call 134; refine (muGood_row _ _ _ _ HH.out.1).mono ?_; rintro e w' ⟨rfl, hb⟩; have hfin : MRow w' w.heap.size v3 (repL l F T k) ∧ Below w.heap.size w w' := ⟨HH.out.1.below hb (Nat.le_refl _), Below.trans HH.out.2 (hb.mono (by first | omega | (simp <;> omega)))⟩)
                       | (at_builtin
                          refine wpList_append_own _ rfl _ _ 86 rfl w.heap.size 100 i0 (.agg #[.int .i64 0, .int .i64 0]) 2 16 Try.underlying86 HI.out HZ0.out HZ1.out HZ2.out rfl (by decide) _ _ (flat2 (repTo (l.take F) ((l.drop F).take (T + 1 - F)) k)) (by rfl) hM.2 ⟨g, (T + 1) * 2, none⟩ (n - (T + 1)) (c - (T + 1)) (flat2 (l.drop (T + 1))) (by rfl) (by rw [flat2_len, HP.out.2.2]) (Lst.newsFrom (Lst.below hp hB (Nat.le_refl _))) (flat2_cells _) (by have := HK.out; simp only [maxLen]; omega) (by have := HK.out; omega) (by omega) ?_
                          intro v3 w3 hown' hgrow _
                          have hM3 : MRow w3 w.heap.size v3 (repL l F T k) := MRow.app (l := repTo (l.take F) ((l.drop F).take (T + 1 - F)) k) rfl (HP.out.2.2) (by have := HK.out; omega) hown'
                          have hlow := World.ownsRow.lt hM.2
                          have hB3 : Below w.heap.size w w3 := Below.grown hB hgrow (by first | omega | (simp <;> omega)) (fun r hr => by have := (hlow r hr).1; omega)
                          have hw3 := hB3.size
                          have hMM : MRow w3 w.heap.size v3 (repL l F T k) ∧ Below w.heap.size w w3 := ⟨hM3, hB3⟩
                          have HH := Lib.hid hMM
                          clear hown' hgrow hlow hM hB hM3 hB3 hMM))
          go_ret2
          exact hfin.1.ret (Nat.le_refl _) hfin.2
        · obtain ⟨rfl, rfl⟩ : r = [] ∧ ok = false := by have := HM2.out; rw [if_neg (by simp [hz9])] at this; injection this with a b; exact ⟨a.symm, b.symm⟩
          go_wp2_with (first
                       | (go_at_call 134; refine (muGood_row _ _ _ _ HH.out.1).mono ?_; rintro e w' ⟨rfl, hb⟩; have hfin : MRow w' w.heap.size v3 (repL l F T k) ∧ Below w.heap.size w w' := ⟨HH.out.1.below hb (Nat.le_refl _), Below.trans HH.out.2 (hb.mono (by first | omega | (simp <;> omega)))⟩)
                       | (at_builtin
                          refine wpList_append_own _ rfl _ _ 86 rfl w.heap.size 100 i0 (.agg #[.int .i64 0, .int .i64 0]) 2 16 Try.underlying86 HI.out HZ0.out HZ1.out HZ2.out rfl (by decide) _ _ (flat2 (repTo (l.take F) ((l.drop F).take (T + 1 - F)) k)) (by rfl) hM.2 ⟨g, (T + 1) * 2, none⟩ (n - (T + 1)) (c - (T + 1)) (flat2 (l.drop (T + 1))) (by rfl) (by rw [flat2_len, HP.out.2.2]) (Lst.newsFrom (Lst.below hp hB (Nat.le_refl _))) (flat2_cells _) (by have := HK.out; simp only [maxLen]; omega) (by have := HK.out; omega) (by omega) ?_
                          intro v3 w3 hown' hgrow _
                          have hM3 : MRow w3 w.heap.size v3 (repL l F T k) := MRow.app (l := repTo (l.take F) ((l.drop F).take (T + 1 - F)) k) rfl (HP.out.2.2) (by have := HK.out; omega) hown'
                          have hlow := World.ownsRow.lt hM.2
                          have hB3 : Below w.heap.size w w3 := Below.grown hB hgrow (by first | omega | (simp <;> omega)) (fun r hr => by have := (hlow r hr).1; omega)
                          have hw3 := hB3.size
                          have hMM : MRow w3 w.heap.size v3 (repL l F T k) ∧ Below w.heap.size w w3 := ⟨hM3, hB3⟩
                          have HH := Lib.hid hMM
                          clear hown' hgrow hlow hM hB hM3 hB3 hMM))
          go_ret2
          exact RetMeas.nil w hfin.2

theorem iRepeat_any (A : Option Addr) (n : Nat) (l : List (Int × Int)) (f t p : Int) (r : List (Int × Int)) (ok : Bool) (w : World) (hp : Lst w A n l) (hm : mRepeat l f t p = (r, ok)) :
    Calls Try.prog 79 #[.slice A n n, .int .i64 f, .int .i64 t, .int .i64 p] w (RetMeas w r ok) := iRepeat_cap A n n l f t p r ok w hp (Nat.le_refl _) (by have := hp.2.1; simp only [maxLen]; omega) hm

theorem sRepeat_any (A : Option Addr) (n : Nat) (l : List (Int × Int)) (f t p : Int) (r : List (Int × Int)) (ok : Bool) (w : World) (hp : Lst w A n l) (hm : mRepeat l f t p = (r, ok)) :
    Calls Try.prog 80 #[.slice A n n, .int .i64 f, .int .i64 t, .int .i64 p] w (RetMeas w r ok) := sRepeat_cap A n n l f t p r ok w hp (Nat.le_refl _) (by have := hp.2.1; simp only [maxLen]; omega) hm

end Go.Proofs.Ytkadnmebijfacaa

