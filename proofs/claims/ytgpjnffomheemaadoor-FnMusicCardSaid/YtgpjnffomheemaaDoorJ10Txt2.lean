import Derived.Test.YtgpjnffomheemaaDoorJ9
import Derived.Test.YtgpjnffomheemaaDoorShelf
import Derived.Lib.IndexLaws
import Derived.Deep.QuietTactic
import Derived.BigQuiet
/- Texts: a text in two at a byte; eighths that are read; the program's ParseSpot. -/
namespace Go.Proofs.YtgpjnffomheemaaDoor
open Go.RowKit
set_option linter.unusedVariables false
set_option linter.unusedSimpArgs false
set_option maxRecDepth 100000

abbrev str (l : List UInt8) : Value := .string ⟨l.toArray⟩
def cutL (l : List UInt8) (c : UInt8) : List UInt8 × List UInt8 × Bool := if Lib.indexByte l c < 0 then (l, [], false) else (l.take (Lib.indexByte l c).toNat, l.drop ((Lib.indexByte l c).toNat + 1), true)
theorem drewN_below {w w' : World} (h : ∃ n, w' = w.drewN n) : Below w.heap.size w w' := by
  obtain ⟨n, rfl⟩ := h
  exact below_drewN (Below.refl _ _) n
theorem str_self (s : ByteArray) : Value.string s = str s.data.toList := by rw [str, Lib.mk_data]
theorem str_take (s : ByteArray) (k : Nat) : s.extract 0 k = ⟨(s.data.toList.take k).toArray⟩ := by rw [Lib.extract_eq]; simp
theorem str_drop (s : ByteArray) (k : Nat) : s.extract k s.size = ⟨(s.data.toList.drop k).toArray⟩ := by
  rw [Lib.extract_eq, List.take_of_length_le (by rw [List.length_drop, Lib.size_eq]; exact Nat.le_refl _)]

theorem sliteCut_any (s : ByteArray) (c : UInt8) (w : World) (hs : s.size ≤ 9223372036854775807) :
    Calls Tryd.prog 110 #[.string s, .string ⟨#[c]⟩] w fun e w' => e = .returned (.tuple #[str (cutL s.data.toList c).1, str (cutL s.data.toList c).2.1, .bool (cutL s.data.toList c).2.2]) ∧ Below w.heap.size w w' := by
  obtain ⟨i, hi⟩ : ∃ i, Lib.indexByte s.data.toList c = i := ⟨_, rfl⟩
  have hge := Lib.indexByte_ge s.data.toList c
  rw [hi] at hge
  have HS := Lib.hid (Lib.size_eq s)
  rcases Int.lt_or_le i 0 with h0 | h0
  · have hm : cutL s.data.toList c = (s.data.toList, [], false) := by rw [cutL, if_pos (by rw [hi]; exact h0)]
    have HI := Lib.hid hi
    have HM := Lib.hid hm
    clear hi hm hge
    go_enter Tryd.func110, Tryd.ntmps110
    go_wp2_with (go_at_call 124; refine (Tryd.stringslite_Index_one _ _ _).mono ?_; rintro e w' ⟨rfl, rfl⟩; rw [HI.out])
    go_ret3
    exact ⟨by rw [HM.out, ← str_self]; rfl, (by (first | with_reducible exact Below.refl _ _ | with_reducible assumption | (repeat (with_reducible first | exact Below.refl _ _ | assumption | refine Below.drew ?_ | refine Below.alloc ?_ (by first | omega | (simp <;> omega)) _ | refine Below.setCell ?_ (by first | omega | (simp <;> omega)) _ | refine below_drewN ?_ _))))⟩
  · obtain ⟨o, rfl⟩ : ∃ o : Nat, i = o := ⟨i.toNat, by omega⟩
    have hlt : o < s.size := by
      rw [HS.out]
      exact (List.getElem?_eq_some_iff.1 (Lib.indexByte_some hi).1).1
    have hm : cutL s.data.toList c = (s.data.toList.take o, s.data.toList.drop (o + 1), true) := by rw [cutL, if_neg (by rw [hi]; omega), hi]; simp
    have HI := Lib.hid hi
    have HM := Lib.hid hm
    have o1 : (o : Int) ≤ s.size := by omega
    have o2 : (o : Int) + 1 ≤ s.size := by omega
    have o3 : IntKind.i64.wrap ((o : Int) + 1) = (o : Int) + 1 := IntWalk.i64_in _ (by omega)
    clear hi hm hge
    go_enter Tryd.func110, Tryd.ntmps110
    go_wp2_with (go_at_call 124; refine (Tryd.stringslite_Index_one _ _ _).mono ?_; rintro e w' ⟨rfl, rfl⟩; rw [HI.out])
    go_quiet (fail)
    go_wp2_with fail
    go_ret3
    exact ⟨by rw [HM.out, str_take, str_drop]; rfl, (by (first | with_reducible exact Below.refl _ _ | with_reducible assumption | (repeat (with_reducible first | exact Below.refl _ _ | assumption | refine Below.drew ?_ | refine Below.alloc ?_ (by first | omega | (simp <;> omega)) _ | refine Below.setCell ?_ (by first | omega | (simp <;> omega)) _ | refine below_drewN ?_ _))))⟩

theorem cut_any (s : ByteArray) (c : UInt8) (w : World) (hs : s.size ≤ 9223372036854775807) :
    Calls Tryd.prog 61 #[.string s, .string ⟨#[c]⟩] w fun e w' => e = .returned (.tuple #[str (cutL s.data.toList c).1, str (cutL s.data.toList c).2.1, .bool (cutL s.data.toList c).2.2]) ∧ Below w.heap.size w w' := by
  go_enter Tryd.func61, Tryd.ntmps61
  go_wp2_with fail
  (go_at_call 110; refine (sliteCut_any _ _ _ hs).mono ?_; rintro e w' ⟨rfl, hb⟩)
  go_wp2_with fail
  go_ret3
  exact ⟨rfl, hb⟩

def mSteps (l : List UInt8) : Int × Bool :=
  if (mNat (cutL l 43).1).2 then (if (cutL l 43).2.2 then (if (mNat (cutL l 43).2.1).2 && inB (mNat (cutL l 43).2.1).1 1 7 then (8 * (mNat (cutL l 43).1).1 + (mNat (cutL l 43).2.1).1, true) else (0, false)) else (8 * (mNat (cutL l 43).1).1, true)) else (0, false)

theorem val_lt {l : List UInt8} (h : l.all digB = true) : ∀ k, k ≤ l.length → valL (l.take k) < 10 ^ k
  | 0, _ => by simp [valL]
  | k + 1, hk => by
    have hx : l[k]? = some l[k] := List.getElem?_eq_getElem (by omega)
    have hd := (digB_iff _).1 (List.all_eq_true.1 h _ (List.mem_of_getElem? hx))
    rw [valL_step hx]
    exact pow10_step (val_lt h k (by omega)) (by omega)
theorem canB_all {l : List UInt8} (h : canB l = true) : l.all digB = true ∧ 1 ≤ l.length := by
  simp only [canB, Bool.and_eq_true, decide_eq_true_eq] at h
  exact ⟨h.2, h.1.1⟩
theorem mNat_bd {l : List UInt8} {n : Int} (h : mNat l = (n, true)) : 0 ≤ n ∧ n ≤ 999999999 := by
  unfold mNat at h
  split at h
  · rename_i hc
    rw [Bool.and_eq_true, decide_eq_true_eq] at hc
    injection h with h1
    have a := val_lt (canB_all hc.1).1 l.length (Nat.le_refl _)
    rw [List.take_length] at a
    have b := pow10_le hc.2
    omega
  · injection h with _ h0; cases h0
theorem natural_eq (l : List UInt8) (n : Int) (ok : Bool) (w : World) (h : mNat l = (n, ok)) :
    Calls Tryd.prog 81 #[str l] w fun e w' => e = .returned (.tuple #[.int .i64 n, .bool ok]) ∧ w = w' := by
  have := natural_any ⟨l.toArray⟩ w
  rw [List.toList_toArray, h] at this
  exact this
theorem cut_eq (l : List UInt8) (c : UInt8) (a r : List UInt8) (f : Bool) (w : World) (hs : l.length ≤ 9223372036854775807) (h : cutL l c = (a, r, f)) :
    Calls Tryd.prog 61 #[str l, .string ⟨#[c]⟩] w fun e w' => e = .returned (.tuple #[str a, str r, .bool f]) ∧ Below w.heap.size w w' := by
  have := cut_any ⟨l.toArray⟩ c w (by rw [Lib.size_eq]; simpa using hs)
  rw [List.toList_toArray, h] at this
  exact this

set_option maxHeartbeats 8000000 in
theorem readSteps_any (l : List UInt8) (w : World) (hs : l.length ≤ 9223372036854775807) :
    Calls Tryd.prog 62 #[str l] w fun e w' => e = .returned (.tuple #[.int .i64 (mSteps l).1, .bool (mSteps l).2]) ∧ Below w.heap.size w w' := by
  obtain ⟨⟨a, r, f⟩, hc⟩ : ∃ p, cutL l 43 = p := ⟨_, rfl⟩
  obtain ⟨⟨n, ok⟩, hn⟩ : ∃ p, mNat a = p := ⟨_, rfl⟩
  obtain ⟨⟨k, ok2⟩, hk⟩ : ∃ p, mNat r = p := ⟨_, rfl⟩
  have HM : Hid (mSteps l = if ok then (if f then (if ok2 && inB k 1 7 then (8 * n + k, true) else (0, false)) else (8 * n, true)) else (0, false)) := by
    show _ = _
    simp only [mSteps, hc, hn, hk]
  have HC := Lib.hid hc
  have HN := Lib.hid hn
  have HK := Lib.hid hk
  clear hc hn hk
  rcases tf ok with rfl | rfl
  rotate_left
  · go_enter Tryd.func62, Tryd.ntmps62
    go_wp2_with fail
    (go_at_call 61; refine (cut_eq _ _ _ _ _ _ hs HC.out).mono ?_; rintro e w' ⟨rfl, hb⟩; have hz : w.heap.size ≤ w'.heap.size := (by have := hb.size; first | omega | (simp at this; omega)); have hB : Below w.heap.size w w' := (by refine Below.trans ?_ (hb.mono (by first | omega | (simp <;> omega))); (first | with_reducible exact Below.refl _ _ | with_reducible assumption | (repeat (with_reducible first | exact Below.refl _ _ | assumption | refine Below.drew ?_ | refine Below.alloc ?_ (by first | omega | (simp <;> omega)) _ | refine Below.setCell ?_ (by first | omega | (simp <;> omega)) _ | refine below_drewN ?_ _)))); have hh := Has.below (by (repeat (with_reducible first | assumption | apply Has.alloc5 | apply Has.alloc2 | apply Has.alloc1 | apply Has.alloc3 | apply Has.drew | apply Has.drewN | apply Has.set_ | apply Has.allocx | exact Has.nil _))) hb; (try simp only [World.size_alloc, World.size_setCell, World.size_drew, World.heap_drewN] at hh); have hq := hh; simp only [Has, upd, World.size_alloc, World.size_setCell, World.size_drew, World.heap_drewN, and_true, true_and, ite_true, ite_false, and_self, Nat.add_right_cancel_iff, Nat.add_eq_left, Nat.left_eq_add, reduceCtorEq, Nat.reduceEqDiff, if_true, if_false] at hq; have hs := hb.size; (try simp only [World.size_alloc, World.size_setCell, World.size_drew, World.heap_drewN] at hs); clear hb)
    go_wp2_with fail
    (go_at_call 81; refine (natural_eq _ _ _ _ HN.out).mono ?_; rintro e w' ⟨rfl, rfl⟩)
    go_wp2_with fail
    go_ret2
    exact ⟨by rw [HM.out]; rfl, (by (first | with_reducible exact Below.refl _ _ | with_reducible assumption | (repeat (with_reducible first | exact Below.refl _ _ | assumption | refine Below.drew ?_ | refine Below.alloc ?_ (by first | omega | (simp <;> omega)) _ | refine Below.setCell ?_ (by first | omega | (simp <;> omega)) _ | refine below_drewN ?_ _))))⟩
  obtain ⟨n0, n1⟩ := mNat_bd HN.out
  rcases tf f with rfl | rfl
  rotate_left
  · go_enter Tryd.func62, Tryd.ntmps62
    go_wp2_with fail
    (go_at_call 61; refine (cut_eq _ _ _ _ _ _ hs HC.out).mono ?_; rintro e w' ⟨rfl, hb⟩; have hz : w.heap.size ≤ w'.heap.size := (by have := hb.size; first | omega | (simp at this; omega)); have hB : Below w.heap.size w w' := (by refine Below.trans ?_ (hb.mono (by first | omega | (simp <;> omega))); (first | with_reducible exact Below.refl _ _ | with_reducible assumption | (repeat (with_reducible first | exact Below.refl _ _ | assumption | refine Below.drew ?_ | refine Below.alloc ?_ (by first | omega | (simp <;> omega)) _ | refine Below.setCell ?_ (by first | omega | (simp <;> omega)) _ | refine below_drewN ?_ _)))); have hh := Has.below (by (repeat (with_reducible first | assumption | apply Has.alloc5 | apply Has.alloc2 | apply Has.alloc1 | apply Has.alloc3 | apply Has.drew | apply Has.drewN | apply Has.set_ | apply Has.allocx | exact Has.nil _))) hb; (try simp only [World.size_alloc, World.size_setCell, World.size_drew, World.heap_drewN] at hh); have hq := hh; simp only [Has, upd, World.size_alloc, World.size_setCell, World.size_drew, World.heap_drewN, and_true, true_and, ite_true, ite_false, and_self, Nat.add_right_cancel_iff, Nat.add_eq_left, Nat.left_eq_add, reduceCtorEq, Nat.reduceEqDiff, if_true, if_false] at hq; have hs := hb.size; (try simp only [World.size_alloc, World.size_setCell, World.size_drew, World.heap_drewN] at hs); clear hb)
    go_wp2_with fail
    (go_at_call 81; refine (natural_eq _ _ _ _ HN.out).mono ?_; rintro e w' ⟨rfl, rfl⟩)
    go_wp2_with fail
    go_ret2
    exact ⟨by rw [HM.out]; rfl, (by (first | with_reducible exact Below.refl _ _ | with_reducible assumption | (repeat (with_reducible first | exact Below.refl _ _ | assumption | refine Below.drew ?_ | refine Below.alloc ?_ (by first | omega | (simp <;> omega)) _ | refine Below.setCell ?_ (by first | omega | (simp <;> omega)) _ | refine below_drewN ?_ _))))⟩
  rcases tf ok2 with rfl | rfl
  rotate_left
  · go_enter Tryd.func62, Tryd.ntmps62
    go_wp2_with fail
    (go_at_call 61; refine (cut_eq _ _ _ _ _ _ hs HC.out).mono ?_; rintro e w' ⟨rfl, hb⟩; have hz : w.heap.size ≤ w'.heap.size := (by have := hb.size; first | omega | (simp at this; omega)); have hB : Below w.heap.size w w' := (by refine Below.trans ?_ (hb.mono (by first | omega | (simp <;> omega))); (first | with_reducible exact Below.refl _ _ | with_reducible assumption | (repeat (with_reducible first | exact Below.refl _ _ | assumption | refine Below.drew ?_ | refine Below.alloc ?_ (by first | omega | (simp <;> omega)) _ | refine Below.setCell ?_ (by first | omega | (simp <;> omega)) _ | refine below_drewN ?_ _)))); have hh := Has.below (by (repeat (with_reducible first | assumption | apply Has.alloc5 | apply Has.alloc2 | apply Has.alloc1 | apply Has.alloc3 | apply Has.drew | apply Has.drewN | apply Has.set_ | apply Has.allocx | exact Has.nil _))) hb; (try simp only [World.size_alloc, World.size_setCell, World.size_drew, World.heap_drewN] at hh); have hq := hh; simp only [Has, upd, World.size_alloc, World.size_setCell, World.size_drew, World.heap_drewN, and_true, true_and, ite_true, ite_false, and_self, Nat.add_right_cancel_iff, Nat.add_eq_left, Nat.left_eq_add, reduceCtorEq, Nat.reduceEqDiff, if_true, if_false] at hq; have hs := hb.size; (try simp only [World.size_alloc, World.size_setCell, World.size_drew, World.heap_drewN] at hs); clear hb)
    go_wp2_with fail
    (go_at_call 81; refine (natural_eq _ _ _ _ HN.out).mono ?_; rintro e w' ⟨rfl, rfl⟩)
    go_wp2_with fail
    (go_at_call 81; refine (natural_eq _ _ _ _ HK.out).mono ?_; rintro e w' ⟨rfl, rfl⟩)
    go_wp2_with fail
    go_ret2
    exact ⟨by rw [HM.out]; rfl, (by (first | with_reducible exact Below.refl _ _ | with_reducible assumption | (repeat (with_reducible first | exact Below.refl _ _ | assumption | refine Below.drew ?_ | refine Below.alloc ?_ (by first | omega | (simp <;> omega)) _ | refine Below.setCell ?_ (by first | omega | (simp <;> omega)) _ | refine below_drewN ?_ _))))⟩
  obtain ⟨k0, k1⟩ := mNat_bd HK.out
  rcases tf (inB k 1 7) with h7 | h7
  all_goals
    go_enter Tryd.func62, Tryd.ntmps62
    go_wp2_with fail
    (go_at_call 61; refine (cut_eq _ _ _ _ _ _ hs HC.out).mono ?_; rintro e w' ⟨rfl, hb⟩; have hz : w.heap.size ≤ w'.heap.size := (by have := hb.size; first | omega | (simp at this; omega)); have hB : Below w.heap.size w w' := (by refine Below.trans ?_ (hb.mono (by first | omega | (simp <;> omega))); (first | with_reducible exact Below.refl _ _ | with_reducible assumption | (repeat (with_reducible first | exact Below.refl _ _ | assumption | refine Below.drew ?_ | refine Below.alloc ?_ (by first | omega | (simp <;> omega)) _ | refine Below.setCell ?_ (by first | omega | (simp <;> omega)) _ | refine below_drewN ?_ _)))); have hh := Has.below (by (repeat (with_reducible first | assumption | apply Has.alloc5 | apply Has.alloc2 | apply Has.alloc1 | apply Has.alloc3 | apply Has.drew | apply Has.drewN | apply Has.set_ | apply Has.allocx | exact Has.nil _))) hb; (try simp only [World.size_alloc, World.size_setCell, World.size_drew, World.heap_drewN] at hh); have hq := hh; simp only [Has, upd, World.size_alloc, World.size_setCell, World.size_drew, World.heap_drewN, and_true, true_and, ite_true, ite_false, and_self, Nat.add_right_cancel_iff, Nat.add_eq_left, Nat.left_eq_add, reduceCtorEq, Nat.reduceEqDiff, if_true, if_false] at hq; have hs := hb.size; (try simp only [World.size_alloc, World.size_setCell, World.size_drew, World.heap_drewN] at hs); clear hb)
    go_wp2_with fail
    (go_at_call 81; refine (natural_eq _ _ _ _ HN.out).mono ?_; rintro e w' ⟨rfl, rfl⟩)
    go_wp2_with fail
    (go_at_call 81; refine (natural_eq _ _ _ _ HK.out).mono ?_; rintro e w' ⟨rfl, rfl⟩)
    go_wp2_with (go_at_call 60; refine (within_any _ _ _ _).mono ?_; rintro e w' ⟨rfl, rfl⟩)
    go_ret2
    exact ⟨by rw [HM.out, h7]; rfl, (by (first | with_reducible exact Below.refl _ _ | with_reducible assumption | (repeat (with_reducible first | exact Below.refl _ _ | assumption | refine Below.drew ?_ | refine Below.alloc ?_ (by first | omega | (simp <;> omega)) _ | refine Below.setCell ?_ (by first | omega | (simp <;> omega)) _ | refine below_drewN ?_ _))))⟩

end Go.Proofs.YtgpjnffomheemaaDoor

