import Derived.Test.YtgpjnffomheemaaDoorJ1
import Derived.Test.YtgpjnffomheemaaDoorJ6
import Derived.Test.YtgpjnffomheemaaDoorJ8Mus2
import Derived.Test.YtgpjnffomheemaaDoorJ5
import Derived.Test.YtgpjnffomheemaaDoorSpot
import Derived.Lib.Strings
import Derived.LoopTactic

section
/- Contracts of music's functions and draws with letters. -/
namespace Go.Proofs.YtgpjnffomheemaaDoor
open Go.RowKit
set_option linter.unusedVariables false
set_option linter.unusedSimpArgs false
set_option maxRecDepth 100000

theorem MRow.cap {w : World} {b n c : Nat} {A : Option Addr} {l : List (Int × Int)} (h : MRow w b (.slice A n c) l) (hn : l.length = n) : n ≤ c ∧ c ≤ maxLen := by
  obtain ⟨A', c', hv, hc, _⟩ := h.lst
  injection hv with e1 e2 e3
  subst e3
  rw [hn] at hc
  exact hc
theorem one_lst (w : World) (u g : Int) (t : TypeId) : Lst (w.alloc (.cells #[.int .i64 u, .int .i64 g] t)) (some ⟨w.heap.size, 0, none⟩) 1 [(u, g)] := by
  refine ⟨rfl, by omega, fun _ => ⟨w.heap.size, rfl, by simp, fun i hi => ?_⟩⟩
  have hi0 : i = 0 := by simpa using hi
  subst hi0
  have h := Has.alloc2 (t := t) (a := .int .i64 u) (b := .int .i64 g) (Has.nil w)
  exact ⟨⟨h.1.1, h.1.2⟩, ⟨h.2.1.1, h.2.1.2⟩⟩
theorem RetMeas.n {w : World} {l : List (Int × Int)} {ok : Bool} {n : Nat} {e : Ending} {w' : World} (h : RetMeas w l ok e w') (hn : l.length = n) : ∃ A c, e = .returned (.tuple #[.slice A n c, .bool ok]) ∧ Lst w' A n l ∧ Below w.heap.size w w' := by
  subst hn
  obtain ⟨A, c, h1, h2, h3⟩ := h
  exact ⟨A, c, h1, h2.toLst rfl, h3⟩

theorem iTimeOf_eq (A : Option Addr) (n c : Nat) (l : List (Int × Int)) (p0 : Int) (k : Int) (ok : Bool) (w : World) (hp : Lst w A n l) (h : mTimeOf l p0 = (k, ok)) :
    Calls Tryd.prog 53 #[.slice A n c, .int .i64 p0] w fun e w' => e = .returned (.tuple #[.int .i64 k, .bool ok]) ∧ Below w.heap.size w w' := by
  have := iTimeOf_any A n c l p0 w hp; rw [h] at this; exact this

theorem sTimeOf_eq (A : Option Addr) (n c : Nat) (l : List (Int × Int)) (p0 : Int) (k : Int) (ok : Bool) (w : World) (hp : Lst w A n l) (h : mTimeOf l p0 = (k, ok)) :
    Calls Tryd.prog 54 #[.slice A n c, .int .i64 p0] w fun e w' => e = .returned (.tuple #[.int .i64 k, .bool ok]) ∧ Below w.heap.size w w' := by
  have := sTimeOf_any A n c l p0 w hp; rw [h] at this; exact this

theorem iCountsOf_eq (A : Option Addr) (n c : Nat) (l : List (Int × Int)) (k : Int) (ok : Bool) (w : World) (hp : Lst w A n l) (h : mCountsOf l = (k, ok)) :
    Calls Tryd.prog 41 #[.slice A n c] w fun e w' => e = .returned (.tuple #[.int .i64 k, .bool ok]) ∧ Below w.heap.size w w' := by
  have := iCountsOf_any A n c l w hp; rw [h] at this; exact this

theorem sCountsOf_eq (A : Option Addr) (n c : Nat) (l : List (Int × Int)) (k : Int) (ok : Bool) (w : World) (hp : Lst w A n l) (h : mCountsOf l = (k, ok)) :
    Calls Tryd.prog 42 #[.slice A n c] w fun e w' => e = .returned (.tuple #[.int .i64 k, .bool ok]) ∧ Below w.heap.size w w' := by
  have := sCountsOf_any A n c l w hp; rw [h] at this; exact this

end Go.Proofs.YtgpjnffomheemaaDoor
end

section
/- Texts: decimal numbers that are read. -/
namespace Go.Proofs.YtgpjnffomheemaaDoor
open Go.RowKit
set_option linter.unusedVariables false
set_option linter.unusedSimpArgs false
set_option maxRecDepth 100000

def digB (b : UInt8) : Bool := decide (48 ≤ b.toNat) && decide (b.toNat ≤ 57)
theorem digB_iff (b : UInt8) : digB b = true ↔ 48 ≤ b.toNat ∧ b.toNat ≤ 57 := by simp [digB]
def valL (l : List UInt8) : Nat := l.foldl (fun n b => 10 * n + (b.toNat - 48)) 0
def canB (l : List UInt8) : Bool := decide (1 ≤ l.length) && !(decide (1 < l.length) && l.head? == some 48) && l.all digB
theorem take_snoc_ {l : List UInt8} {k : Nat} {b : UInt8} (h : l[k]? = some b) : l.take (k + 1) = l.take k ++ [b] := by
  rw [List.take_add_one, h]; rfl
theorem valL_step {l : List UInt8} {k : Nat} {b : UInt8} (h : l[k]? = some b) : valL (l.take (k + 1)) = 10 * valL (l.take k) + (b.toNat - 48) := by
  rw [take_snoc_ h, valL, List.foldl_append]; rfl
theorem dig_step {l : List UInt8} {k : Nat} {b : UInt8} (h : l[k]? = some b) (h1 : (l.take k).all digB = true) (h2 : digB b = true) : (l.take (k + 1)).all digB = true := by
  rw [take_snoc_ h, List.all_append, h1]; simp [h2]
theorem dig_not {l : List UInt8} {k : Nat} {b : UInt8} (h : l[k]? = some b) (h2 : digB b = false) : canB l = false := by
  have : l.all digB = false := by
    rw [List.all_eq_false]
    exact ⟨b, List.mem_of_getElem? h, by simp [h2]⟩
  simp [canB, this]
theorem byte_at (s : ByteArray) (k : Nat) (h : k < s.size) : ∃ b, s.data.toList[k]? = some b ∧ s[k]'h = b :=
  ⟨s[k]'h, by rw [List.getElem?_eq_getElem (by rw [← Lib.size_eq]; exact h)]; rfl, rfl⟩
theorem empty_false {s : ByteArray} (h : 0 < s.size) : s.toList.isEmpty = false ∧ ¬ s.toList = [] := by
  have : ¬ s.toList = [] := by
    rw [Lib.toList_data]; intro e; rw [Lib.size_eq, e] at h; simp at h
  exact ⟨by simp [this], this⟩
theorem empty_true {s : ByteArray} (h : s.size = 0) : s.toList.isEmpty = true ∧ s.toList = [] := by
  have : s.toList = [] := by
    rw [Lib.toList_data]; rw [Lib.size_eq] at h; exact List.length_eq_zero_iff.1 h
  exact ⟨by simp [this], this⟩
theorem pow10_step {t d k : Nat} (h : t < 10 ^ k) (hd : d ≤ 9) : 10 * t + d < 10 ^ (k + 1) := by rw [Nat.pow_succ]; omega
theorem pow10_le {k : Nat} (h : k ≤ 9) : 10 ^ k ≤ 1000000000 := Nat.le_trans (Nat.pow_le_pow_right (by omega) h) (by decide)

def mNat (l : List UInt8) : Int × Bool := if canB l && decide (l.length ≤ 9) then (valL l, true) else (0, false)
theorem mNat_bad {l : List UInt8} (h : (canB l && decide (l.length ≤ 9)) = false) : mNat l = (0, false) := by simp [mNat, h]

theorem can_pos {s : ByteArray} {b : UInt8} (hpos : 0 < s.size) (hb : s.data.toList[0]? = some b) (hz : ¬ (1 < s.size ∧ b.toNat = 48)) : canB s.data.toList = s.data.toList.all digB := by
  have hsz := Lib.size_eq s
  have h1 : (decide (1 < s.data.toList.length) && s.data.toList.head? == some 48) = false := by
    rw [Bool.and_eq_false_iff]
    by_cases hq : 1 < s.size
    · right
      have : b ≠ 48 := fun e => hz ⟨hq, by rw [e]; rfl⟩
      rw [List.head?_eq_getElem?, hb]
      simpa using this
    · left; simp; omega
  simp only [canB, h1, Bool.not_false, Bool.and_true]
  rw [decide_eq_true (by omega), Bool.true_and]
theorem can_zero {s : ByteArray} {b : UInt8} (hb : s.data.toList[0]? = some b) (z1 : 1 < s.size) (z2 : b.toNat = 48) : canB s.data.toList = false := by
  have hsz := Lib.size_eq s
  have hb48 : b = 48 := UInt8.toNat.inj z2
  have : s.data.toList.head? = some 48 := by rw [List.head?_eq_getElem?, hb, hb48]
  simp [canB, this]
  omega
theorem can_none {s : ByteArray} (h : s.size = 0) : canB s.data.toList = false := by
  have hsz := Lib.size_eq s
  simp [canB]; omega

set_option maxHeartbeats 4000000 in
theorem natural_any (s : ByteArray) (w : World) :
    Calls Tryd.prog 81 #[.string s] w fun e w' => e = .returned (.tuple #[.int .i64 (mNat s.data.toList).1, .bool (mNat s.data.toList).2]) ∧ w = w' := by
  have HS := Lib.hid (Lib.size_eq s)
  by_cases h0 : s.size = 0
  · rw [mNat_bad (by rw [can_none h0]; rfl)]
    obtain ⟨e1, e2⟩ := empty_true h0
    go_enter Tryd.func81, Tryd.ntmps81
    go_wp2
    go_ret2
    exact ⟨rfl, rfl⟩
  · have hpos : 0 < s.size := by omega
    obtain ⟨e1, e2⟩ := empty_false hpos
    by_cases h9 : 9 < s.size
    · rw [mNat_bad (by rw [decide_eq_false (by have := HS.out; omega), Bool.and_false])]
      have h9' : (9 : Int) < s.size := by omega
      go_enter Tryd.func81, Tryd.ntmps81
      go_wp2
      go_ret2
      exact ⟨rfl, rfl⟩
    · obtain ⟨b, hb, hbs⟩ := byte_at s 0 hpos
      have h9' : ¬ (9 : Int) < s.size := by omega
      by_cases hz : 1 < s.size ∧ b.toNat = 48
      · obtain ⟨z1, z2⟩ := hz
        rw [mNat_bad (by rw [can_zero hb z1 z2]; rfl)]
        have z1' : (1 : Int) < s.size := by omega
        clear hb
        go_enter Tryd.func81, Tryd.ntmps81
        go_wp2
        go_ret2
        exact ⟨rfl, rfl⟩
      · have HC := Lib.hid (can_pos hpos hb hz)
        have hzz : ¬ (1 : Int) < s.size ∨ (1 : Int) < s.size ∧ ((b.toNat : Int) == 48) = false ∧ ¬ (b.toNat : Int) = 48 := by
          by_cases h : 1 < s.size
          · right; refine ⟨by omega, ?_, by omega⟩; simp; omega
          · left; omega
        clear hb hz
        rcases hzz with hzz | ⟨hzz, hzz2, hzz3⟩
        all_goals
          go_enter Tryd.func81, Tryd.ntmps81
          go_wp2
          go_loop [4, 5] (fun s4 s5 => ∃ k t : Nat, k ≤ s.size ∧ s4 = .int .i64 t ∧ s5 = .int .i64 k ∧ t < 10 ^ k ∧ Hid (valL (s.data.toList.take k) = t) ∧ Hid ((s.data.toList.take k).all digB = true)) (fun _ v => s.size - (intOf v).toNat)
          case atStart => exact ⟨0, 0, by omega, rfl, rfl, by decide, Lib.hid (by simp [valL]), Lib.hid (by simp)⟩
          case round =>
            obtain ⟨k, t, hk, rfl, rfl, ht, HT, HD⟩ := hrel
            by_cases hlt : k < s.size
            · obtain ⟨x, hx, hxs⟩ := byte_at s k hlt
              have htb : t < 1000000000 := Nat.lt_of_lt_of_le ht (pow10_le (by omega))
              have kI : (k : Int) < s.size := by omega
              rcases tf (digB x) with hd | hd
              · obtain ⟨d1, d2⟩ := (digB_iff x).1 hd
                have d1' : ¬ (x.toNat : Int) < 48 := by omega
                have d2' : ¬ (57 : Int) < x.toNat := by omega
                go_wp2
                go_round
                case rel => exact ⟨k + 1, 10 * t + (x.toNat - 48), by omega, by go_num, by go_num, pow10_step ht (by omega), Lib.hid (by rw [valL_step hx, HT.out]), Lib.hid (dig_step hx HD.out hd)⟩
                case measure => simp [intOf]; omega
              · have HM := Lib.hid (mNat_bad (l := s.data.toList) (by rw [dig_not hx hd]; rfl))
                have hd2 : ¬ (48 ≤ x.toNat ∧ x.toNat ≤ 57) := fun h => by rw [(digB_iff x).2 h] at hd; cases hd
                rcases (by omega : (x.toNat : Int) < 48 ∨ ¬ (x.toNat : Int) < 48 ∧ (57 : Int) < x.toNat) with d1 | ⟨d1, d2⟩
                all_goals
                  clear hd2 hd hx
                  go_wp2
                  go_ret2
                  exact ⟨by rw [HM.out]; rfl, rfl⟩
            · obtain rfl : k = s.size := by omega
              have hfin : Hid (mNat s.data.toList = ((t : Int), true)) := by
                show _ = _
                have h1 := HT.out
                have h2 := HD.out
                rw [List.take_of_length_le (by rw [HS.out]; exact Nat.le_refl _)] at h1 h2
                rw [mNat, HC.out, h2, h1, decide_eq_true (by have := HS.out; omega)]
                rfl
              go_wp2
              go_ret2
              exact ⟨by rw [hfin.out]; rfl, rfl⟩

def mRead (l : List UInt8) : Int := if canB l && decide (l.length ≤ 6) then valL l else -1
theorem mRead_bad {l : List UInt8} (h : (canB l && decide (l.length ≤ 6)) = false) : mRead l = -1 := by simp [mRead, h]

set_option maxHeartbeats 4000000 in
theorem l1Read_any (s : ByteArray) (w : World) :
    Calls Tryd.prog 94 #[.string s] w fun e w' => e = .returned (.int .i64 (mRead s.data.toList)) ∧ w = w' := by
  have HS := Lib.hid (Lib.size_eq s)
  by_cases h0 : s.size = 0
  · rw [mRead_bad (by rw [can_none h0]; rfl)]
    have h9' : inB (s.size : Int) 1 6 = false := by simp [inB]; omega
    go_enter Tryd.func94, Tryd.ntmps94
    go_wp2_with (first | (go_at_call 67; refine (l1In_any _ _ _ _).mono ?_; rintro e w' ⟨rfl, rfl⟩))
    go_ret
    exact ⟨rfl, rfl⟩
  · have hpos : 0 < s.size := by omega
    by_cases h9 : 6 < s.size
    · rw [mRead_bad (by rw [decide_eq_false (by have := HS.out; omega), Bool.and_false])]
      have h9' : inB (s.size : Int) 1 6 = false := by simp [inB]; omega
      go_enter Tryd.func94, Tryd.ntmps94
      go_wp2_with (first | (go_at_call 67; refine (l1In_any _ _ _ _).mono ?_; rintro e w' ⟨rfl, rfl⟩))
      go_ret
      exact ⟨rfl, rfl⟩
    · obtain ⟨b, hb, hbs⟩ := byte_at s 0 hpos
      have h9' : inB (s.size : Int) 1 6 = true := by rw [inB_iff]; omega
      by_cases hz : 1 < s.size ∧ b.toNat = 48
      · obtain ⟨z1, z2⟩ := hz
        rw [mRead_bad (by rw [can_zero hb z1 z2]; rfl)]
        have z1' : (1 : Int) < s.size := by omega
        have z3 : ((b.toNat : Int) == 48) = true := by simp; omega
        clear hb
        go_enter Tryd.func94, Tryd.ntmps94
        go_wp2_with (first | (go_at_call 67; refine (l1In_any _ _ _ _).mono ?_; rintro e w' ⟨rfl, rfl⟩))
        go_ret
        exact ⟨rfl, rfl⟩
      · have HC := Lib.hid (can_pos hpos hb hz)
        have hzz : (((b.toNat : Int) == 48) = true ∧ ¬ (1 : Int) < s.size) ∨ ((b.toNat : Int) == 48) = false ∧ ¬ (b.toNat : Int) = 48 := by
          by_cases h : b.toNat = 48
          · left; refine ⟨?_, by omega⟩; simp; omega
          · right; refine ⟨?_, by omega⟩; simp; omega
        clear hb hz
        rcases hzz with ⟨hzz, hzz2⟩ | ⟨hzz2, hzz3⟩
        all_goals
          go_enter Tryd.func94, Tryd.ntmps94
          go_wp2_with (first | (go_at_call 67; refine (l1In_any _ _ _ _).mono ?_; rintro e w' ⟨rfl, rfl⟩))
          go_loop [3, 4] (fun s4 s5 => ∃ k t : Nat, k ≤ s.size ∧ s4 = .int .i64 t ∧ s5 = .int .i64 k ∧ t < 10 ^ k ∧ Hid (valL (s.data.toList.take k) = t) ∧ Hid ((s.data.toList.take k).all digB = true)) (fun _ v => s.size - (intOf v).toNat)
          case atStart => exact ⟨0, 0, by omega, rfl, rfl, by decide, Lib.hid (by simp [valL]), Lib.hid (by simp)⟩
          case round =>
            obtain ⟨k, t, hk, rfl, rfl, ht, HT, HD⟩ := hrel
            by_cases hlt : k < s.size
            · obtain ⟨x, hx, hxs⟩ := byte_at s k hlt
              have htb : t < 1000000000 := Nat.lt_of_lt_of_le ht (pow10_le (by omega))
              have kI : (k : Int) < s.size := by omega
              rcases tf (digB x) with hd | hd
              · obtain ⟨d1, d2⟩ := (digB_iff x).1 hd
                have d1' : ¬ (x.toNat : Int) < 48 := by omega
                have d2' : ¬ (57 : Int) < x.toNat := by omega
                go_wp2_with (first | (go_at_call 67; refine (l1In_any _ _ _ _).mono ?_; rintro e w' ⟨rfl, rfl⟩))
                go_round
                case rel => exact ⟨k + 1, 10 * t + (x.toNat - 48), by omega, by go_num, by go_num, pow10_step ht (by omega), Lib.hid (by rw [valL_step hx, HT.out]), Lib.hid (dig_step hx HD.out hd)⟩
                case measure => simp [intOf]; omega
              · have HM := Lib.hid (mRead_bad (l := s.data.toList) (by rw [dig_not hx hd]; rfl))
                have hd2 : ¬ (48 ≤ x.toNat ∧ x.toNat ≤ 57) := fun h => by rw [(digB_iff x).2 h] at hd; cases hd
                rcases (by omega : (x.toNat : Int) < 48 ∨ ¬ (x.toNat : Int) < 48 ∧ (57 : Int) < x.toNat) with d1 | ⟨d1, d2⟩
                all_goals
                  clear hd2 hd hx
                  go_wp2_with (first | (go_at_call 67; refine (l1In_any _ _ _ _).mono ?_; rintro e w' ⟨rfl, rfl⟩))
                  go_ret
                  exact ⟨by rw [HM.out]; rfl, rfl⟩
            · obtain rfl : k = s.size := by omega
              have hfin : Hid (mRead s.data.toList = (t : Int)) := by
                show _ = _
                have h1 := HT.out
                have h2 := HD.out
                rw [List.take_of_length_le (by rw [HS.out]; exact Nat.le_refl _)] at h1 h2
                rw [mRead, HC.out, h2, h1, decide_eq_true (by have := HS.out; omega)]
                rfl
              go_wp2_with (first | (go_at_call 67; refine (l1In_any _ _ _ _).mono ?_; rintro e w' ⟨rfl, rfl⟩))
              go_ret
              exact ⟨by rw [hfin.out]; rfl, rfl⟩

end Go.Proofs.YtgpjnffomheemaaDoor
end
