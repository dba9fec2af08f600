import Derived.Test.YtgpjnffomheemaaDoorJ11Txt4
/- Texts: rows of texts that are read; the reference's stRead. -/
namespace Go.Proofs.YtgpjnffomheemaaDoor
open Go.RowKit
set_option linter.unusedVariables false
set_option linter.unusedSimpArgs false
set_option maxRecDepth 100000

theorem TRow.blk {w : World} {base n c : Nat} {A : Option Addr} {q : List (List UInt8)} (h : TRow w base (.slice A n c) q) (h0 : 0 < q.length) : ∃ g, A = some ⟨g, 0, none⟩ ∧ base ≤ g ∧ g < w.heap.size := by
  rcases h.2 with ⟨hv, h1⟩ | ⟨g, cap, cur, hv, hbg, hh, h1, h2, h3, h4⟩
  · omega
  · injection hv with e1 e2 e3
    refine ⟨g, e1, hbg, ?_⟩
    rcases Nat.lt_or_ge g w.heap.size with hlt | hge
    · exact hlt
    · rw [Array.getElem?_eq_none hge] at hh; cases hh
theorem TRow.at {w : World} {base g n c j : Nat} {x : List UInt8} {q : List (List UInt8)} (h : TRow w base (.slice (some ⟨g, 0, none⟩) n c) q) (hj : q[j]? = some x) : Has w [(g, j, str x)] := by
  have hl := (List.getElem?_eq_some_iff.1 hj).1
  rcases h.2 with ⟨hv, h1⟩ | ⟨g', cap, cur, hv, hbg, hh, h1, h2, h3, h4⟩
  · omega
  · injection hv with e1 e2 e3
    injection e1 with e1
    injection e1 with e1
    subst e1 e2
    have h' : w.ownsRow base 9 1 (.slice (some ⟨g, 0, none⟩) q.length c) q.length (q.map str) := h
    refine ⟨⟨?_, World.ownsRow.frozenAt h' j⟩, trivial⟩
    have := World.ownsRow.cellAt h' j (by omega)
    rw [this]
    simp [hj]
theorem TRow.below {w w' : World} {base : Nat} {v : Value} {q : List (List UInt8)} (h : TRow w base v q) {B : Nat} (hb : Below B w w') (hB : w.heap.size ≤ B) : TRow w' base v q := by
  refine ⟨h.1, ?_⟩
  rcases h.2 with h0 | ⟨g, cap, cur, hv, hbg, hh, h1, h2, h3, h4⟩
  · exact .inl h0
  · have hlt : g < w.heap.size := by
      rcases Nat.lt_or_ge g w.heap.size with hlt | hge
      · exact hlt
      · rw [Array.getElem?_eq_none hge] at hh; cases hh
    exact .inr ⟨g, cap, cur, hv, hbg, (hb.block g (by omega)).trans hh, h1, h2, h3, h4⟩

theorem l1Read_eq (l : List UInt8) (n : Int) (w : World) (h : mRead l = n) :
    Calls Tryd.prog 94 #[str l] w fun e w' => e = .returned (.int .i64 n) ∧ w = w' := by
  have := l1Read_any ⟨l.toArray⟩ w
  rw [List.toList_toArray, h] at this
  exact this

theorem l1Split_eq (l : List UInt8) (c : UInt8) (cv : Int) (hcv : cv = c.toNat) (q : List (List UInt8)) (n : Nat) (w : World) (hs : l.length ≤ 1048576) (h : spl l c = q) (hn : q.length = n) :
    Calls Tryd.prog 93 #[str l, .int .u8 cv] w fun e w' => ∃ A k, e = .returned (.slice A n k) ∧ TRow w' w.heap.size (.slice A n k) q ∧ Below w.heap.size w w' := by
  have := l1Split_any ⟨l.toArray⟩ c cv hcv w (by rw [Lib.size_eq]; simpa using hs)
  rw [List.toList_toArray, h, hn] at this
  exact this

theorem mRead_bd (l : List UInt8) : -1 ≤ mRead l ∧ mRead l ≤ 999999 := by
  unfold mRead
  split
  · rename_i hc
    rw [Bool.and_eq_true, decide_eq_true_eq] at hc
    have a := val_lt (canB_all hc.1).1 l.length (Nat.le_refl _)
    rw [List.take_length] at a
    have b : 10 ^ l.length ≤ 10 ^ 6 := Nat.pow_le_pow_right (by omega) hc.2
    omega
  · omega

def stReadQ : List (List UInt8) → Int
  | [a] => if mRead a < 0 then -1 else 8 * mRead a
  | [a, b] => if mRead a < 0 then -1 else if inB (mRead b) 1 7 then 8 * mRead a + mRead b else -1
  | _ => -1
def mStRead (l : List UInt8) : Int := stReadQ (spl l 43)

set_option maxHeartbeats 8000000 in
theorem stRead_any (l : List UInt8) (w : World) (hs : l.length ≤ 1048576) :
    Calls Tryd.prog 112 #[str l] w fun e w' => e = .returned (.int .i64 (mStRead l)) ∧ Below w.heap.size w w' := by
  obtain ⟨q, hq0⟩ : ∃ q, spl l 43 = q := ⟨_, rfl⟩
  have hl := spl_len l 43
  rw [hq0] at hl
  have HM : Hid (mStRead l = stReadQ q) := by show _ = _; rw [mStRead, hq0]
  have HQ := Lib.hid hq0
  clear hq0
  have hh := Has.nil w
  rcases q with _ | ⟨a, _ | ⟨b, _ | ⟨d, q⟩⟩⟩
  · simp at hl
  all_goals
    obtain ⟨n, hn⟩ : ∃ n, mRead a = n := ⟨_, rfl⟩
    have hbd := mRead_bd a
    rw [hn] at hbd
    obtain ⟨n0, n1⟩ := hbd
    have HN := Lib.hid hn
    clear hn hl
  · rcases Int.lt_or_le n 0 with h0 | h0
    all_goals
      go_enter Tryd.func112, Tryd.ntmps112
      go_wp2_with fail
      (go_at_call 93; refine (l1Split_eq _ 43 _ rfl _ 1 _ hs HQ.out rfl).mono ?_; rintro e w' ⟨A, k, rfl, hT, hb⟩; have hz : w.heap.size ≤ w'.heap.size := (by have := hb.size; first | omega | (simp at this; omega)); have hB : Below w.heap.size w w' := (by refine Below.trans ?_ (hb.mono (by first | omega | (simp <;> omega))); (first | with_reducible exact Below.refl _ _ | with_reducible assumption | (repeat (with_reducible first | exact Below.refl _ _ | assumption | refine Below.drew ?_ | refine Below.alloc ?_ (by first | omega | (simp <;> omega)) _ | refine Below.setCell ?_ (by first | omega | (simp <;> omega)) _ | refine below_drewN ?_ _)))); have hh := Has.below (by (repeat (with_reducible first | assumption | apply Has.alloc5 | apply Has.alloc2 | apply Has.alloc1 | apply Has.alloc3 | apply Has.drew | apply Has.drewN | apply Has.set_ | apply Has.allocx | exact Has.nil _))) hb; (try simp only [World.size_alloc, World.size_setCell, World.size_drew, World.heap_drewN] at hh); have hq := hh; simp only [Has, upd, World.size_alloc, World.size_setCell, World.size_drew, World.heap_drewN, and_true, true_and, ite_true, ite_false, and_self, Nat.add_right_cancel_iff, Nat.add_eq_left, Nat.left_eq_add, reduceCtorEq, Nat.reduceEqDiff, if_true, if_false] at hq; have hs := hb.size; (try simp only [World.size_alloc, World.size_setCell, World.size_drew, World.heap_drewN] at hs); obtain ⟨g, rfl, hg1, hg2⟩ := hT.blk (by simp); have hc := hT.at (j := 0) rfl; simp only [Has, and_true] at hc; clear hb)
      go_wp2_with fail
      (go_at_call 94; refine (l1Read_eq _ _ _ HN.out).mono ?_; rintro e w' ⟨rfl, rfl⟩)
      go_wp2_with fail
      go_ret
      refine ⟨?_, (by (first | with_reducible exact Below.refl _ _ | with_reducible assumption | (repeat (with_reducible first | exact Below.refl _ _ | assumption | refine Below.drew ?_ | refine Below.alloc ?_ (by first | omega | (simp <;> omega)) _ | refine Below.setCell ?_ (by first | omega | (simp <;> omega)) _ | refine below_drewN ?_ _))))⟩
      rw [HM.out]
      simp only [stReadQ, HN.out]
      first | rw [if_pos h0] | rw [if_neg (by omega)]
      rfl
  · rcases Int.lt_or_le n 0 with h0 | h0
    · go_enter Tryd.func112, Tryd.ntmps112
      go_wp2_with fail
      (go_at_call 93; refine (l1Split_eq _ 43 _ rfl _ 2 _ hs HQ.out rfl).mono ?_; rintro e w' ⟨A, k, rfl, hT, hb⟩; have hz : w.heap.size ≤ w'.heap.size := (by have := hb.size; first | omega | (simp at this; omega)); have hB : Below w.heap.size w w' := (by refine Below.trans ?_ (hb.mono (by first | omega | (simp <;> omega))); (first | with_reducible exact Below.refl _ _ | with_reducible assumption | (repeat (with_reducible first | exact Below.refl _ _ | assumption | refine Below.drew ?_ | refine Below.alloc ?_ (by first | omega | (simp <;> omega)) _ | refine Below.setCell ?_ (by first | omega | (simp <;> omega)) _ | refine below_drewN ?_ _)))); have hh := Has.below (by (repeat (with_reducible first | assumption | apply Has.alloc5 | apply Has.alloc2 | apply Has.alloc1 | apply Has.alloc3 | apply Has.drew | apply Has.drewN | apply Has.set_ | apply Has.allocx | exact Has.nil _))) hb; (try simp only [World.size_alloc, World.size_setCell, World.size_drew, World.heap_drewN] at hh); have hq := hh; simp only [Has, upd, World.size_alloc, World.size_setCell, World.size_drew, World.heap_drewN, and_true, true_and, ite_true, ite_false, and_self, Nat.add_right_cancel_iff, Nat.add_eq_left, Nat.left_eq_add, reduceCtorEq, Nat.reduceEqDiff, if_true, if_false] at hq; have hs := hb.size; (try simp only [World.size_alloc, World.size_setCell, World.size_drew, World.heap_drewN] at hs); obtain ⟨g, rfl, hg1, hg2⟩ := hT.blk (by simp); have hc := hT.at (j := 0) rfl; have hd := hT.at (j := 1) rfl; simp only [Has, and_true] at hc hd; clear hb)
      go_wp2_with fail
      (go_at_call 94; refine (l1Read_eq _ _ _ HN.out).mono ?_; rintro e w' ⟨rfl, rfl⟩)
      go_wp2_with fail
      go_ret
      refine ⟨?_, (by (first | with_reducible exact Below.refl _ _ | with_reducible assumption | (repeat (with_reducible first | exact Below.refl _ _ | assumption | refine Below.drew ?_ | refine Below.alloc ?_ (by first | omega | (simp <;> omega)) _ | refine Below.setCell ?_ (by first | omega | (simp <;> omega)) _ | refine below_drewN ?_ _))))⟩
      rw [HM.out]
      simp only [stReadQ, HN.out]
      rw [if_pos h0]
      rfl
    · obtain ⟨m, hm⟩ : ∃ m, mRead b = m := ⟨_, rfl⟩
      have hbd := mRead_bd b
      rw [hm] at hbd
      obtain ⟨m0, m1⟩ := hbd
      have HK := Lib.hid hm
      clear hm
      rcases tf (inB m 1 7) with h7 | h7
      all_goals
        go_enter Tryd.func112, Tryd.ntmps112
        go_wp2_with fail
        (go_at_call 93; refine (l1Split_eq _ 43 _ rfl _ 2 _ hs HQ.out rfl).mono ?_; rintro e w' ⟨A, k, rfl, hT, hb⟩; have hz : w.heap.size ≤ w'.heap.size := (by have := hb.size; first | omega | (simp at this; omega)); have hB : Below w.heap.size w w' := (by refine Below.trans ?_ (hb.mono (by first | omega | (simp <;> omega))); (first | with_reducible exact Below.refl _ _ | with_reducible assumption | (repeat (with_reducible first | exact Below.refl _ _ | assumption | refine Below.drew ?_ | refine Below.alloc ?_ (by first | omega | (simp <;> omega)) _ | refine Below.setCell ?_ (by first | omega | (simp <;> omega)) _ | refine below_drewN ?_ _)))); have hh := Has.below (by (repeat (with_reducible first | assumption | apply Has.alloc5 | apply Has.alloc2 | apply Has.alloc1 | apply Has.alloc3 | apply Has.drew | apply Has.drewN | apply Has.set_ | apply Has.allocx | exact Has.nil _))) hb; (try simp only [World.size_alloc, World.size_setCell, World.size_drew, World.heap_drewN] at hh); have hq := hh; simp only [Has, upd, World.size_alloc, World.size_setCell, World.size_drew, World.heap_drewN, and_true, true_and, ite_true, ite_false, and_self, Nat.add_right_cancel_iff, Nat.add_eq_left, Nat.left_eq_add, reduceCtorEq, Nat.reduceEqDiff, if_true, if_false] at hq; have hs := hb.size; (try simp only [World.size_alloc, World.size_setCell, World.size_drew, World.heap_drewN] at hs); obtain ⟨g, rfl, hg1, hg2⟩ := hT.blk (by simp); have hc := hT.at (j := 0) rfl; have hd := hT.at (j := 1) rfl; simp only [Has, and_true] at hc hd; clear hb)
        go_wp2_with fail
        (go_at_call 94; refine (l1Read_eq _ _ _ HN.out).mono ?_; rintro e w' ⟨rfl, rfl⟩)
        go_wp2_with fail
        (go_at_call 94; refine (l1Read_eq _ _ _ HK.out).mono ?_; rintro e w' ⟨rfl, rfl⟩)
        go_wp2_with (go_at_call 67; refine (l1In_any _ _ _ _).mono ?_; rintro e w' ⟨rfl, rfl⟩)
        go_ret
        refine ⟨?_, (by (first | with_reducible exact Below.refl _ _ | with_reducible assumption | (repeat (with_reducible first | exact Below.refl _ _ | assumption | refine Below.drew ?_ | refine Below.alloc ?_ (by first | omega | (simp <;> omega)) _ | refine Below.setCell ?_ (by first | omega | (simp <;> omega)) _ | refine below_drewN ?_ _))))⟩
        rw [HM.out]
        simp only [stReadQ, HN.out, HK.out, h7]
        rw [if_neg (by omega)]
        rfl
  · have h2 : (2 : Int) < ((a :: b :: d :: q).length : Nat) := by simp; omega
    obtain ⟨t, ht⟩ : ∃ t, (a :: b :: d :: q).length = t := ⟨_, rfl⟩
    rw [ht] at h2
    go_enter Tryd.func112, Tryd.ntmps112
    go_wp2_with fail
    (go_at_call 93; refine (l1Split_eq _ 43 _ rfl _ t _ hs HQ.out ht).mono ?_; rintro e w' ⟨A, k, rfl, hT, hb⟩; have hz : w.heap.size ≤ w'.heap.size := (by have := hb.size; first | omega | (simp at this; omega)); have hB : Below w.heap.size w w' := (by refine Below.trans ?_ (hb.mono (by first | omega | (simp <;> omega))); (first | with_reducible exact Below.refl _ _ | with_reducible assumption | (repeat (with_reducible first | exact Below.refl _ _ | assumption | refine Below.drew ?_ | refine Below.alloc ?_ (by first | omega | (simp <;> omega)) _ | refine Below.setCell ?_ (by first | omega | (simp <;> omega)) _ | refine below_drewN ?_ _)))); have hh := Has.below (by (repeat (with_reducible first | assumption | apply Has.alloc5 | apply Has.alloc2 | apply Has.alloc1 | apply Has.alloc3 | apply Has.drew | apply Has.drewN | apply Has.set_ | apply Has.allocx | exact Has.nil _))) hb; (try simp only [World.size_alloc, World.size_setCell, World.size_drew, World.heap_drewN] at hh); have hq := hh; simp only [Has, upd, World.size_alloc, World.size_setCell, World.size_drew, World.heap_drewN, and_true, true_and, ite_true, ite_false, and_self, Nat.add_right_cancel_iff, Nat.add_eq_left, Nat.left_eq_add, reduceCtorEq, Nat.reduceEqDiff, if_true, if_false] at hq; have hs := hb.size; (try simp only [World.size_alloc, World.size_setCell, World.size_drew, World.heap_drewN] at hs); obtain ⟨g, rfl, hg1, hg2⟩ := hT.blk (by simp); have hc := hT.at (j := 0) rfl; simp only [Has, and_true] at hc; clear hb)
    go_wp2_with fail
    (go_at_call 94; refine (l1Read_eq _ _ _ HN.out).mono ?_; rintro e w' ⟨rfl, rfl⟩)
    go_wp2_with fail
    go_ret
    exact ⟨by rw [HM.out]; rfl, (by (first | with_reducible exact Below.refl _ _ | with_reducible assumption | (repeat (with_reducible first | exact Below.refl _ _ | assumption | refine Below.drew ?_ | refine Below.alloc ?_ (by first | omega | (simp <;> omega)) _ | refine Below.setCell ?_ (by first | omega | (simp <;> omega)) _ | refine below_drewN ?_ _))))⟩

end Go.Proofs.YtgpjnffomheemaaDoor

