import Derived.Test.YtgpjnffomheemaaDoorJ20Wrt3
import Derived.Test.YtgpjnffomheemaaDoorJ24Txt8
/- Texts that are written: music, by the program. -/
namespace Go.Proofs.YtgpjnffomheemaaDoor
open Go.RowKit
set_option linter.unusedVariables false
set_option linter.unusedSimpArgs false
set_option maxRecDepth 100000

theorem join_any (g cap : Nat) (q : List (List UInt8)) (n : Nat) (w : World) (hq : q.length = n) (hc : ∀ (j : Nat) x, q[j]? = some x → w.cell? ⟨g, j, none⟩ = some (str x)) (hg : g < w.heap.size) (hcap : n ≤ cap) (h40 : n ≤ 40) (hlen : (Lib.join q [32]).length ≤ 1000) :
    Calls Tryd.prog 96 #[.slice (some ⟨g, 0, none⟩) n cap, .string ⟨#[32]⟩] w fun e w' => e = .returned (str (Lib.join q [32])) ∧ Below w.heap.size w w' := by
  subst hq
  have e1 : (q.map fun l => (⟨l.toArray⟩ : ByteArray)).map (·.data.toList) = q := by
    rw [List.map_map]
    have : ∀ x ∈ q, ((fun b : ByteArray => b.data.toList) ∘ fun l => (⟨l.toArray⟩ : ByteArray)) x = id x := fun x _ => by simp
    rw [List.map_congr_left this, List.map_id]
  have := Tryd.strings_Join g 0 cap (q.map fun l => (⟨l.toArray⟩ : ByteArray)) ⟨#[32]⟩ w (fun j x hx => by
    rw [List.getElem?_map] at hx
    obtain ⟨y, hy, rfl⟩ := Option.map_eq_some_iff.1 hx
    rw [Nat.zero_add]
    exact hc j y hy) hg (by simp; omega) (by simpa using hcap) (by rw [e1]; exact Nat.le_trans hlen (by decide))
  rw [e1, List.length_map] at this
  exact this

set_option maxHeartbeats 2000000 in
theorem iMusicText_any (A : Option Addr) (n c : Nat) (l : List (Int × Int)) (t : List UInt8) (ok : Bool) (w : World) (hp : Lst w A n l) (htab : Tab w) (hm : mMusicText l = (t, ok)) :
    Calls Tryd.prog 39 #[.slice A n c] w fun e w' => e = .returned (.tuple #[str t, .bool ok]) ∧ Below w.heap.size w w' := by
  have hh := Has.nil w
  rcases tf (musB l) with h | h
  rotate_left
  · rw [mMusicText, if_neg (by rw [h]; decide)] at hm
    injection hm with e1 e2
    subst e1 e2
    go_enter Tryd.func39, Tryd.ntmps39
    go_wp2_with (go_at_call 52; refine (iIsMusic_any _ _ _ _ _ hp).mono ?_; rintro e w' ⟨rfl, hb⟩; have hz : w.heap.size ≤ w'.heap.size := (by have := hb.size; first | omega | (simp at this; omega)); have hB : Below w.heap.size w w' := (by refine Below.trans ?_ (hb.mono (by first | omega | (simp <;> omega))); (first | with_reducible exact Below.refl _ _ | with_reducible assumption | (repeat (with_reducible first | exact Below.refl _ _ | assumption | refine Below.drew ?_ | refine Below.alloc ?_ (by first | omega | (simp <;> omega)) _ | refine Below.setCell ?_ (by first | omega | (simp <;> omega)) _ | refine below_drewN ?_ _)))); have hh := Has.below (by (repeat (with_reducible first | assumption | apply Has.alloc5 | apply Has.alloc2 | apply Has.alloc1 | apply Has.alloc3 | apply Has.drew | apply Has.drewN | apply Has.set_ | apply Has.allocx | exact Has.nil _))) hb; (try simp only [World.size_alloc, World.size_setCell, World.size_drew, World.heap_drewN] at hh); have hq := hh; simp only [Has, upd, World.size_alloc, World.size_setCell, World.size_drew, World.heap_drewN, and_true, true_and, ite_true, ite_false, and_self, Nat.add_right_cancel_iff, Nat.add_eq_left, Nat.left_eq_add, reduceCtorEq, Nat.reduceEqDiff, if_true, if_false] at hq; have hs := hb.size; (try simp only [World.size_alloc, World.size_setCell, World.size_drew, World.heap_drewN] at hs); clear hb)
    go_ret2
    exact ⟨rfl, (by (first | with_reducible exact Below.refl _ _ | with_reducible assumption | (repeat (with_reducible first | exact Below.refl _ _ | assumption | refine Below.drew ?_ | refine Below.alloc ?_ (by first | omega | (simp <;> omega)) _ | refine Below.setCell ?_ (by first | omega | (simp <;> omega)) _ | refine below_drewN ?_ _))))⟩
  rw [mMusicText, if_pos h] at hm
  injection hm with e1 e2
  subst e1 e2
  have HL := Lib.hid hp.1
  have hn := hp.2.1
  have HB := Lib.hid h
  have h40 := (musB_len h).2
  have h41 := (musB_len h).1
  rw [hp.1] at h40 h41
  obtain ⟨i0, hi0, hz0, hz1, hz2⟩ := info_parts infoString
  have HI := Lib.hid hi0
  have HZ0 := Lib.hid hz0
  have HZ1 := Lib.hid hz1
  have HZ2 := Lib.hid hz2
  have cI := fun (m : Nat) W (h : m ≤ 1000000) (hb : Below w.heap.size w W) => itoa_any m W h (htab.on hb)
  clear hi0 hz0 hz1 hz2 htab
  go_enter Tryd.func39, Tryd.ntmps39
  go_wp2_with fail
  (go_at_call 52; refine (iIsMusic_any _ _ _ _ _ hp).mono ?_; rintro e w' ⟨rfl, hb⟩; have hz : w.heap.size ≤ w'.heap.size := (by have := hb.size; first | omega | (simp at this; omega)); have hB : Below w.heap.size w w' := (by refine Below.trans ?_ (hb.mono (by first | omega | (simp <;> omega))); (first | with_reducible exact Below.refl _ _ | with_reducible assumption | (repeat (with_reducible first | exact Below.refl _ _ | assumption | refine Below.drew ?_ | refine Below.alloc ?_ (by first | omega | (simp <;> omega)) _ | refine Below.setCell ?_ (by first | omega | (simp <;> omega)) _ | refine below_drewN ?_ _)))); have hh := Has.below (by (repeat (with_reducible first | assumption | apply Has.alloc5 | apply Has.alloc2 | apply Has.alloc1 | apply Has.alloc3 | apply Has.drew | apply Has.drewN | apply Has.set_ | apply Has.allocx | exact Has.nil _))) hb; (try simp only [World.size_alloc, World.size_setCell, World.size_drew, World.heap_drewN] at hh); have hq := hh; simp only [Has, upd, World.size_alloc, World.size_setCell, World.size_drew, World.heap_drewN, and_true, true_and, ite_true, ite_false, and_self, Nat.add_right_cancel_iff, Nat.add_eq_left, Nat.left_eq_add, reduceCtorEq, Nat.reduceEqDiff, if_true, if_false] at hq; have hs := hb.size; (try simp only [World.size_alloc, World.size_setCell, World.size_drew, World.heap_drewN] at hs); clear hb)
  obtain ⟨w0, rfl⟩ : ∃ w0, w0 = w' := ⟨_, rfl⟩
  clear hh
  go_wp2_with fail
  clear h
  have hw0 : w.heap.size ≤ w0.heap.size := by omega
  go_loopw [4, 13] (fun s1 s2 wr => ∃ (A0 : Option Addr) (cp k : Nat) (q : List (List UInt8)), k ≤ n ∧ s1 = .slice A0 k cp ∧ s2 = .int .i64 k ∧ Hid (q = (l.take k).map wordL) ∧ q.length = k ∧ TRow wr w0.heap.size (.slice A0 k cp) q ∧ w0.heap.size ≤ wr.heap.size ∧ Below w.heap.size w wr) (fun _ v _ => n - (intOf v).toNat)
  case atStart => exact ⟨_, 0, 0, [], by omega, rfl, rfl, Lib.hid rfl, rfl, World.ownsRow_made _ _ _ (Nat.le_refl _) (by simp [maxLen]) rfl, by simp, (by (first | with_reducible exact Below.refl _ _ | with_reducible assumption | (repeat (with_reducible first | exact Below.refl _ _ | assumption | refine Below.drew ?_ | refine Below.alloc ?_ (by first | omega | (simp <;> omega)) _ | refine Below.setCell ?_ (by first | omega | (simp <;> omega)) _ | refine below_drewN ?_ _))))⟩
  case round =>
    clear hB hz hs
    obtain ⟨A0, cp, k, q, hk, rfl, rfl, HS, hql, hT, hz, hB⟩ := hrel
    have HQ := Lib.hid hql
    clear hql
    have hwr := hB.size
    by_cases hlt : k < n
    · have hpw := hp.below hB (Nat.le_refl _)
      obtain ⟨g, x, y, rfl, hgl, hx, hh⟩ := hpw.has hlt
      have hme := musB_get HB.out hx
      rw [meB_iff] at hme
      obtain ⟨a, rfl⟩ : ∃ a : Nat, x = a := ⟨x.toNat, by omega⟩
      obtain ⟨b, rfl⟩ : ∃ b : Nat, y = b := ⟨y.toNat, by omega⟩
      have HX := Lib.hid hx
      have la := numL_le7 (show a ≤ 1000000 by omega)
      have lb := numL_le7 (show b ≤ 1000000 by omega)
      have hq := hh
      simp only [Has, and_true] at hq
      have ha1 : a ≤ 1000000 := by omega
      have hb1 : b ≤ 1000000 := by omega
      have hne1 : g ≠ wr.heap.size := by omega
      have hne2 : wr.heap.size ≠ g := by omega
      have l1 : ¬ 9223372036854775807 < (numL a).length + 1 := by omega
      have l2 : ¬ 9223372036854775807 < (numL a).length + 1 + (numL b).length := by omega
      have HT : Hid (q ++ [numL a ++ 64 :: numL b] = (l.take (k + 1)).map wordL) := by show _ = _; rw [List.take_add_one, HX.out, HS.out]; simp [wordL]
      clear hx hpw la lb hme
      go_wp2_with fail
      go_region_held3 (fun w' => w'.cell? ⟨wr.heap.size, 0, none⟩ = some (.int .i64 a) ∧ w'.cell? ⟨wr.heap.size, 1, none⟩ = some (.int .i64 b)) (first | (go_keep; done) | (go_split_ands; refine ⟨?_, ?_⟩ <;> (rw [hgrow.cell_far _ (by simp; omega) (fun hr => by have := (World.ownsRow.lt hT _ hr.symm).2; simp at this)]; simp [*]))) (first
        | (go_at_call 74; refine (cI _ _ (by assumption) (by (first | with_reducible exact Below.refl _ _ | with_reducible assumption | (repeat (with_reducible first | exact Below.refl _ _ | assumption | refine Below.drew ?_ | refine Below.alloc ?_ (by first | omega | (simp <;> omega)) _ | refine Below.setCell ?_ (by first | omega | (simp <;> omega)) _ | refine below_drewN ?_ _))))).mono ?_; rintro e w' ⟨rfl, hb⟩; have hz : w.heap.size ≤ w'.heap.size := (by have := hb.size; first | omega | (simp at this; omega)); have hB : Below w.heap.size w w' := (by refine Below.trans ?_ (hb.mono (by first | omega | (simp <;> omega))); (first | with_reducible exact Below.refl _ _ | with_reducible assumption | (repeat (with_reducible first | exact Below.refl _ _ | assumption | refine Below.drew ?_ | refine Below.alloc ?_ (by first | omega | (simp <;> omega)) _ | refine Below.setCell ?_ (by first | omega | (simp <;> omega)) _ | refine below_drewN ?_ _)))); have hh := Has.below (by (repeat (with_reducible first | assumption | apply Has.alloc5 | apply Has.alloc2 | apply Has.alloc1 | apply Has.alloc3 | apply Has.drew | apply Has.drewN | apply Has.set_ | apply Has.allocx | exact Has.nil _))) hb; (try simp only [World.size_alloc, World.size_setCell, World.size_drew, World.heap_drewN] at hh); have hq := hh; simp only [Has, upd, World.size_alloc, World.size_setCell, World.size_drew, World.heap_drewN, and_true, true_and, ite_true, ite_false, and_self, Nat.add_right_cancel_iff, Nat.add_eq_left, Nat.left_eq_add, reduceCtorEq, Nat.reduceEqDiff, if_true, if_false] at hq; have hs := hb.size; (try simp only [World.size_alloc, World.size_setCell, World.size_drew, World.heap_drewN] at hs); have hz5 : wr.heap.size + 1 ≤ w'.heap.size := (by omega); have hR : Below wr.heap.size wr w' := (Below.trans (by (first | with_reducible exact Below.refl _ _ | with_reducible assumption | (repeat (with_reducible first | exact Below.refl _ _ | assumption | refine Below.drew ?_ | refine Below.alloc ?_ (by first | omega | (simp <;> omega)) _ | refine Below.setCell ?_ (by first | omega | (simp <;> omega)) _ | refine below_drewN ?_ _)))) (hb.mono (by first | omega | (simp <;> omega)))); have hT2 := TRow.below hT hR (Nat.le_refl _); clear hb)
        | (refine step_append_lies _ (by rfl) _ _ 89 (by rfl) w0.heap.size 9 i0 _ 1 16 Tryd.underlying89 HI.out HZ0.out HZ1.out HZ2.out rfl (by omega) (.slice A0 k cp) k (q.map str) (by rfl) (by have h9 := hT2; rw [TRow, HQ.out] at h9; exact h9.alloc _)
            ⟨w'.heap.size, 0, none⟩ 1 1 [.string ((⟨(numL a).toArray⟩ : ByteArray) ++ ⟨#[64]⟩ ++ ⟨(numL b).toArray⟩)] (by rfl) (by rfl) (World.news_of_block (cs := #[.string ((⟨(numL a).toArray⟩ : ByteArray) ++ ⟨#[64]⟩ ++ ⟨(numL b).toArray⟩)]) (t := 9) (fr := (0, 0)) (heap_alloc_new w' _)) (by simp [Value.oneCell'])
            (by omega) (by simp only [maxLen]; omega) (by omega) (by simp; omega) (w'.heap.size + 1) (by simp) ?_; intro gg cap w1 hown1 hgrow hat hlt1))
      have hlow := World.ownsRow.lt hT
      have hT3 : TRow w1 w0.heap.size (.slice (some ⟨gg, 0, none⟩) (k + 1) cap) (q ++ [numL a ++ 64 :: numL b]) := by
        rw [TRow, List.length_append, HQ.out, List.map_append, List.map_cons, List.map_nil, ← cat3]; exact hown1
      have hB2 : Below w.heap.size w w1 := Below.grown (Below.alloc hB (by first | omega | (simp <;> omega)) _) hgrow (by first | omega | (simp <;> omega)) (fun r hr => by have := (hlow r hr).1; omega)
      have hz2 := hgrow.size
      simp only [World.size_alloc, World.size_drew] at hz2
      have hQ2 : (q ++ [numL a ++ 64 :: numL b]).length = k + 1 := by simp [HQ.out]
      clear hown1 hgrow hat hlt1 hlow hB hh hq hT hT2 hR
      go_wp2_with fail
      go_roundw
      case rel => exact ⟨_, cap, k + 1, q ++ [numL a ++ 64 :: numL b], by omega, rfl, by go_num, HT, hQ2, hT3, by omega, hB2⟩
      case measure => simp [intOf]; omega
    · obtain rfl : k = n := by omega
      have hh := Has.nil wr
      have HE : Hid (Lib.join q [32] = musL l) := by show _ = _; rw [HS.out, ← HL.out, List.take_length]; rfl
      have hjl : (Lib.join q [32]).length ≤ 1000 := by rw [HE.out]; have := musL_le HB.out; omega
      obtain ⟨gg, cp, hv, hbg, hgl⟩ := World.ownsRow.form hT (by rw [HQ.out]; omega)
      injection hv with e1 e2 e3
      subst e1 e3
      have hcp : k ≤ cp := by
        rcases hT.2 with ⟨_, h9⟩ | ⟨g', cp', cur, hv', _, _, h2, _⟩
        · rw [HQ.out] at h9; omega
        · injection hv' with a1 a2 a3; subst a3; omega
      have hcell : ∀ (j : Nat) x, q[j]? = some x → wr.cell? ⟨gg, j, none⟩ = some (str x) := fun j x hx => (hT.at hx).1.1
      clear e2
      go_wp2_with fail
      (go_at_call 96; refine (join_any _ _ _ _ _ HQ.out hcell hgl hcp h40 hjl).mono ?_; rintro e w' ⟨rfl, hb⟩; have hz : w.heap.size ≤ w'.heap.size := (by have := hb.size; first | omega | (simp at this; omega)); have hB : Below w.heap.size w w' := (by refine Below.trans ?_ (hb.mono (by first | omega | (simp <;> omega))); (first | with_reducible exact Below.refl _ _ | with_reducible assumption | (repeat (with_reducible first | exact Below.refl _ _ | assumption | refine Below.drew ?_ | refine Below.alloc ?_ (by first | omega | (simp <;> omega)) _ | refine Below.setCell ?_ (by first | omega | (simp <;> omega)) _ | refine below_drewN ?_ _)))); have hh := Has.below (by (repeat (with_reducible first | assumption | apply Has.alloc5 | apply Has.alloc2 | apply Has.alloc1 | apply Has.alloc3 | apply Has.drew | apply Has.drewN | apply Has.set_ | apply Has.allocx | exact Has.nil _))) hb; (try simp only [World.size_alloc, World.size_setCell, World.size_drew, World.heap_drewN] at hh); have hq := hh; simp only [Has, upd, World.size_alloc, World.size_setCell, World.size_drew, World.heap_drewN, and_true, true_and, ite_true, ite_false, and_self, Nat.add_right_cancel_iff, Nat.add_eq_left, Nat.left_eq_add, reduceCtorEq, Nat.reduceEqDiff, if_true, if_false] at hq; have hs := hb.size; (try simp only [World.size_alloc, World.size_setCell, World.size_drew, World.heap_drewN] at hs); clear hb)
      go_wp2_with fail
      go_ret2
      exact ⟨by rw [← HE.out]; rfl, (by (first | with_reducible exact Below.refl _ _ | with_reducible assumption | (repeat (with_reducible first | exact Below.refl _ _ | assumption | refine Below.drew ?_ | refine Below.alloc ?_ (by first | omega | (simp <;> omega)) _ | refine Below.setCell ?_ (by first | omega | (simp <;> omega)) _ | refine below_drewN ?_ _))))⟩

end Go.Proofs.YtgpjnffomheemaaDoor

