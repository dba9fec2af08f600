import Derived.Test.YtgpjnffomheemaaDoorJ19
import Derived.Test.YtgpjnffomheemaaDoorJ2Music
import Derived.Deep.RegionHeld3
/- Texts that are written: music, by the reference. -/
namespace Go.Proofs.YtgpjnffomheemaaDoor
open Go.RowKit
set_option linter.unusedVariables false
set_option linter.unusedSimpArgs false
set_option maxRecDepth 100000

theorem cat_word (s : List UInt8) (c : UInt8) (a : List UInt8) (e : UInt8) (b : List UInt8) : Value.string ((⟨s.toArray⟩ : ByteArray) ++ ⟨#[c]⟩ ++ (⟨a.toArray⟩ ++ ⟨#[e]⟩ ++ ⟨b.toArray⟩)) = str (s ++ c :: (a ++ e :: b)) := by
  rw [str]
  congr 1
  apply ByteArray.ext
  simp
theorem cat_word0 (a : List UInt8) (e : UInt8) (b : List UInt8) : Value.string ((⟨#[]⟩ : ByteArray) ++ (⟨a.toArray⟩ ++ ⟨#[e]⟩ ++ ⟨b.toArray⟩)) = str (a ++ e :: b) := by
  rw [str]
  congr 1
  apply ByteArray.ext
  simp

set_option maxHeartbeats 2000000 in
theorem muText_any (A : Option Addr) (n c : Nat) (l : List (Int × Int)) (w : World) (hp : Lst w A n l) (hm : musB l = true) :
    Calls Tryd.prog 98 #[.slice A n c] w fun e w' => e = .returned (str (musL l)) ∧ Below w.heap.size w w' := by
  have HL := Lib.hid hp.1
  have hn := hp.2.1
  have HB := Lib.hid hm
  have h40 := (musB_len hm).2
  rw [hp.1] at h40
  clear hm
  go_enter Tryd.func98, Tryd.ntmps98
  go_wp2_with fail
  go_loopw [3, 8] (fun s1 s2 wr => ∃ (k : Nat) (S : List UInt8), k ≤ n ∧ s1 = str S ∧ s2 = .int .i64 k ∧ Hid (musTo_ l k = S) ∧ Below w.heap.size w wr) (fun _ v _ => n - (intOf v).toNat)
  case atStart => exact ⟨0, [], by omega, rfl, rfl, Lib.hid rfl, (by (first | with_reducible exact Below.refl _ _ | with_reducible assumption | (repeat (with_reducible first | exact Below.refl _ _ | assumption | refine Below.drew ?_ | refine Below.alloc ?_ (by first | omega | (simp <;> omega)) _ | refine Below.setCell ?_ (by first | omega | (simp <;> omega)) _ | refine below_drewN ?_ _))))⟩
  case round =>
    obtain ⟨k, S, hk, rfl, rfl, HS, hB⟩ := hrel
    have hwr := hB.size
    by_cases hlt : k < n
    · have hpw := hp.below hB (Nat.le_refl _)
      obtain ⟨g, x, y, rfl, hgl, hx, hh⟩ := hpw.has hlt
      have hme := musB_get HB.out hx
      rw [meB_iff] at hme
      obtain ⟨a, rfl⟩ : ∃ a : Nat, x = a := ⟨x.toNat, by omega⟩
      obtain ⟨b, rfl⟩ : ∃ b : Nat, y = b := ⟨y.toNat, by omega⟩
      have HX := Lib.hid hx
      have hSl := musTo_le_ HB.out k (by rw [HL.out]; exact hk)
      rw [HS.out] at hSl
      have la := numL_le7 (show a ≤ 1000000 by omega)
      have lb := numL_le7 (show b ≤ 1000000 by omega)
      have hq := hh
      simp only [Has, and_true] at hq
      have ha1 : a ≤ 1000000 := by omega
      have hb1 : b ≤ 1000000 := by omega
      have hne1 : g ≠ wr.heap.size := by omega
      have hne2 : wr.heap.size ≠ g := by omega
      have l1 : ¬ 9223372036854775807 < (numL a).length + 1 := by omega
      have l2 : ¬ 9223372036854775807 < (numL a).length + 1 + (numL b).length := by omega
      have l3 : ¬ 9223372036854775807 < S.length + ((numL a).length + 1 + (numL b).length) := by omega
      have l4 : ¬ 9223372036854775807 < S.length + 1 := by omega
      have l5 : ¬ 9223372036854775807 < S.length + 1 + ((numL a).length + 1 + (numL b).length) := by omega
      have cN := fun (m : Nat) W (h : m ≤ 1000000) => l1Num_any m m W (Nat.le_refl _) h
      clear hx hpw la lb hme
      by_cases h0 : k = 0
      · subst h0
        obtain rfl : S = [] := HS.out.symm
        have HT : Hid (musTo_ l (0 + 1) = numL a ++ 64 :: numL b) := by show _ = _; rw [musTo_one_ HX.out, wordL]; simp
        go_wp2_with fail
        go_region_held3 (fun w' => w'.cell? ⟨wr.heap.size, 0, none⟩ = some (.int .i64 a) ∧ w'.cell? ⟨wr.heap.size, 1, none⟩ = some (.int .i64 b)) (first | (go_keep; done) | ((repeat' apply And.intro) <;> (apply Has.get; (focus (repeat (with_reducible first | assumption | apply Has.alloc5 | apply Has.alloc2 | apply Has.alloc1 | apply Has.alloc3 | apply Has.drew | apply Has.drewN | apply Has.set_ | apply Has.allocx | exact Has.nil _))); simp [upd, *]))) (first | (go_at_call 114; refine (cN _ _ (by assumption)).mono ?_; rintro e w' ⟨rfl, hb⟩; have hz : w.heap.size ≤ w'.heap.size := (by have := hb.size; first | omega | (simp at this; omega)); have hB : Below w.heap.size w w' := (by refine Below.trans ?_ (hb.mono (by first | omega | (simp <;> omega))); (first | with_reducible exact Below.refl _ _ | with_reducible assumption | (repeat (with_reducible first | exact Below.refl _ _ | assumption | refine Below.drew ?_ | refine Below.alloc ?_ (by first | omega | (simp <;> omega)) _ | refine Below.setCell ?_ (by first | omega | (simp <;> omega)) _ | refine below_drewN ?_ _)))); have hh := Has.below (by (repeat (with_reducible first | assumption | apply Has.alloc5 | apply Has.alloc2 | apply Has.alloc1 | apply Has.alloc3 | apply Has.drew | apply Has.drewN | apply Has.set_ | apply Has.allocx | exact Has.nil _))) hb; (try simp only [World.size_alloc, World.size_setCell, World.size_drew, World.heap_drewN] at hh); have hq := hh; simp only [Has, upd, World.size_alloc, World.size_setCell, World.size_drew, World.heap_drewN, and_true, true_and, ite_true, ite_false, and_self, Nat.add_right_cancel_iff, Nat.add_eq_left, Nat.left_eq_add, reduceCtorEq, Nat.reduceEqDiff, if_true, if_false] at hq; have hs := hb.size; (try simp only [World.size_alloc, World.size_setCell, World.size_drew, World.heap_drewN] at hs); have hz5 : wr.heap.size + 1 ≤ w'.heap.size := (by omega); clear hb))
        go_wp2_with fail
        go_roundw
        case rel => exact ⟨0 + 1, numL a ++ 64 :: numL b, by omega, by rw [← cat_word0], by go_num, HT, hB⟩
        case measure => simp [intOf]; omega
      · have HT : Hid (musTo_ l (k + 1) = S ++ 32 :: (numL a ++ 64 :: numL b)) := by show _ = _; rw [musTo_step_ HX.out (by omega), HS.out, wordL]; simp
        have k0 : (0 : Int) < (k : Int) := by omega
        go_wp2_with fail
        go_region_held3 (fun w' => w'.cell? ⟨wr.heap.size, 0, none⟩ = some (.int .i64 a) ∧ w'.cell? ⟨wr.heap.size, 1, none⟩ = some (.int .i64 b)) (first | (go_keep; done) | ((repeat' apply And.intro) <;> (apply Has.get; (focus (repeat (with_reducible first | assumption | apply Has.alloc5 | apply Has.alloc2 | apply Has.alloc1 | apply Has.alloc3 | apply Has.drew | apply Has.drewN | apply Has.set_ | apply Has.allocx | exact Has.nil _))); simp [upd, *]))) (first | (go_at_call 114; refine (cN _ _ (by assumption)).mono ?_; rintro e w' ⟨rfl, hb⟩; have hz : w.heap.size ≤ w'.heap.size := (by have := hb.size; first | omega | (simp at this; omega)); have hB : Below w.heap.size w w' := (by refine Below.trans ?_ (hb.mono (by first | omega | (simp <;> omega))); (first | with_reducible exact Below.refl _ _ | with_reducible assumption | (repeat (with_reducible first | exact Below.refl _ _ | assumption | refine Below.drew ?_ | refine Below.alloc ?_ (by first | omega | (simp <;> omega)) _ | refine Below.setCell ?_ (by first | omega | (simp <;> omega)) _ | refine below_drewN ?_ _)))); have hh := Has.below (by (repeat (with_reducible first | assumption | apply Has.alloc5 | apply Has.alloc2 | apply Has.alloc1 | apply Has.alloc3 | apply Has.drew | apply Has.drewN | apply Has.set_ | apply Has.allocx | exact Has.nil _))) hb; (try simp only [World.size_alloc, World.size_setCell, World.size_drew, World.heap_drewN] at hh); have hq := hh; simp only [Has, upd, World.size_alloc, World.size_setCell, World.size_drew, World.heap_drewN, and_true, true_and, ite_true, ite_false, and_self, Nat.add_right_cancel_iff, Nat.add_eq_left, Nat.left_eq_add, reduceCtorEq, Nat.reduceEqDiff, if_true, if_false] at hq; have hs := hb.size; (try simp only [World.size_alloc, World.size_setCell, World.size_drew, World.heap_drewN] at hs); have hz5 : wr.heap.size + 1 ≤ w'.heap.size := (by omega); clear hb))
        go_wp2_with fail
        go_roundw
        case rel => exact ⟨k + 1, S ++ 32 :: (numL a ++ 64 :: numL b), by omega, by rw [← cat_word], by go_num, HT, hB⟩
        case measure => simp [intOf]; omega
    · obtain rfl : k = n := by omega
      have HT : Hid (musL l = S) := by show _ = _; rw [← musTo_all_, HL.out, HS.out]
      go_wp2_with fail
      go_ret
      exact ⟨by rw [HT.out]; rfl, (by (first | with_reducible exact Below.refl _ _ | with_reducible assumption | (repeat (with_reducible first | exact Below.refl _ _ | assumption | refine Below.drew ?_ | refine Below.alloc ?_ (by first | omega | (simp <;> omega)) _ | refine Below.setCell ?_ (by first | omega | (simp <;> omega)) _ | refine below_drewN ?_ _))))⟩

def mMusicText (l : List (Int × Int)) : List UInt8 × Bool := if musB l then (musL l, true) else ([], false)

set_option maxHeartbeats 1000000 in
theorem sMusicText_any (A : Option Addr) (n c : Nat) (l : List (Int × Int)) (t : List UInt8) (ok : Bool) (w : World) (hp : Lst w A n l) (hm : mMusicText l = (t, ok)) :
    Calls Tryd.prog 40 #[.slice A n c] w fun e w' => e = .returned (.tuple #[str t, .bool ok]) ∧ Below w.heap.size w w' := by
  have hh := Has.nil w
  rcases tf (musB l) with h | h
  · rw [mMusicText, if_pos h] at hm
    injection hm with e1 e2
    subst e1 e2
    go_enter Tryd.func40, Tryd.ntmps40
    go_wp2_with fail
    (go_at_call 97; refine (muGood_any _ _ _ _ _ hp).mono ?_; rintro e w' ⟨rfl, hb⟩; have hz : w.heap.size ≤ w'.heap.size := (by have := hb.size; first | omega | (simp at this; omega)); have hB : Below w.heap.size w w' := (by refine Below.trans ?_ (hb.mono (by first | omega | (simp <;> omega))); (first | with_reducible exact Below.refl _ _ | with_reducible assumption | (repeat (with_reducible first | exact Below.refl _ _ | assumption | refine Below.drew ?_ | refine Below.alloc ?_ (by first | omega | (simp <;> omega)) _ | refine Below.setCell ?_ (by first | omega | (simp <;> omega)) _ | refine below_drewN ?_ _)))); have hh := Has.below (by (repeat (with_reducible first | assumption | apply Has.alloc5 | apply Has.alloc2 | apply Has.alloc1 | apply Has.alloc3 | apply Has.drew | apply Has.drewN | apply Has.set_ | apply Has.allocx | exact Has.nil _))) hb; (try simp only [World.size_alloc, World.size_setCell, World.size_drew, World.heap_drewN] at hh); have hq := hh; simp only [Has, upd, World.size_alloc, World.size_setCell, World.size_drew, World.heap_drewN, and_true, true_and, ite_true, ite_false, and_self, Nat.add_right_cancel_iff, Nat.add_eq_left, Nat.left_eq_add, reduceCtorEq, Nat.reduceEqDiff, if_true, if_false] at hq; have hs := hb.size; (try simp only [World.size_alloc, World.size_setCell, World.size_drew, World.heap_drewN] at hs); have hp2 := hp.below hB (Nat.le_refl _); clear hb)
    go_wp2_with fail
    (go_at_call 98; refine (muText_any _ _ _ _ _ hp2 h).mono ?_; rintro e w' ⟨rfl, hb⟩; have hz : w.heap.size ≤ w'.heap.size := (by have := hb.size; first | omega | (simp at this; omega)); have hB : Below w.heap.size w w' := (by refine Below.trans ?_ (hb.mono (by first | omega | (simp <;> omega))); (first | with_reducible exact Below.refl _ _ | with_reducible assumption | (repeat (with_reducible first | exact Below.refl _ _ | assumption | refine Below.drew ?_ | refine Below.alloc ?_ (by first | omega | (simp <;> omega)) _ | refine Below.setCell ?_ (by first | omega | (simp <;> omega)) _ | refine below_drewN ?_ _)))); have hh := Has.below (by (repeat (with_reducible first | assumption | apply Has.alloc5 | apply Has.alloc2 | apply Has.alloc1 | apply Has.alloc3 | apply Has.drew | apply Has.drewN | apply Has.set_ | apply Has.allocx | exact Has.nil _))) hb; (try simp only [World.size_alloc, World.size_setCell, World.size_drew, World.heap_drewN] at hh); have hq := hh; simp only [Has, upd, World.size_alloc, World.size_setCell, World.size_drew, World.heap_drewN, and_true, true_and, ite_true, ite_false, and_self, Nat.add_right_cancel_iff, Nat.add_eq_left, Nat.left_eq_add, reduceCtorEq, Nat.reduceEqDiff, if_true, if_false] at hq; have hs := hb.size; (try simp only [World.size_alloc, World.size_setCell, World.size_drew, World.heap_drewN] at hs); clear hb)
    go_wp2_with fail
    go_ret2
    exact ⟨rfl, (by (first | with_reducible exact Below.refl _ _ | with_reducible assumption | (repeat (with_reducible first | exact Below.refl _ _ | assumption | refine Below.drew ?_ | refine Below.alloc ?_ (by first | omega | (simp <;> omega)) _ | refine Below.setCell ?_ (by first | omega | (simp <;> omega)) _ | refine below_drewN ?_ _))))⟩
  · rw [mMusicText, if_neg (by rw [h]; decide)] at hm
    injection hm with e1 e2
    subst e1 e2
    go_enter Tryd.func40, Tryd.ntmps40
    go_wp2_with (go_at_call 97; refine (muGood_any _ _ _ _ _ hp).mono ?_; rintro e w' ⟨rfl, hb⟩; have hz : w.heap.size ≤ w'.heap.size := (by have := hb.size; first | omega | (simp at this; omega)); have hB : Below w.heap.size w w' := (by refine Below.trans ?_ (hb.mono (by first | omega | (simp <;> omega))); (first | with_reducible exact Below.refl _ _ | with_reducible assumption | (repeat (with_reducible first | exact Below.refl _ _ | assumption | refine Below.drew ?_ | refine Below.alloc ?_ (by first | omega | (simp <;> omega)) _ | refine Below.setCell ?_ (by first | omega | (simp <;> omega)) _ | refine below_drewN ?_ _)))); have hh := Has.below (by (repeat (with_reducible first | assumption | apply Has.alloc5 | apply Has.alloc2 | apply Has.alloc1 | apply Has.alloc3 | apply Has.drew | apply Has.drewN | apply Has.set_ | apply Has.allocx | exact Has.nil _))) hb; (try simp only [World.size_alloc, World.size_setCell, World.size_drew, World.heap_drewN] at hh); have hq := hh; simp only [Has, upd, World.size_alloc, World.size_setCell, World.size_drew, World.heap_drewN, and_true, true_and, ite_true, ite_false, and_self, Nat.add_right_cancel_iff, Nat.add_eq_left, Nat.left_eq_add, reduceCtorEq, Nat.reduceEqDiff, if_true, if_false] at hq; have hs := hb.size; (try simp only [World.size_alloc, World.size_setCell, World.size_drew, World.heap_drewN] at hs); clear hb)
    go_ret2
    exact ⟨rfl, (by (first | with_reducible exact Below.refl _ _ | with_reducible assumption | (repeat (with_reducible first | exact Below.refl _ _ | assumption | refine Below.drew ?_ | refine Below.alloc ?_ (by first | omega | (simp <;> omega)) _ | refine Below.setCell ?_ (by first | omega | (simp <;> omega)) _ | refine below_drewN ?_ _))))⟩

end Go.Proofs.YtgpjnffomheemaaDoor

