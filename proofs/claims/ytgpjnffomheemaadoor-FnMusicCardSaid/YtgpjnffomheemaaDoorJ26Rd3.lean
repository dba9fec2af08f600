import Derived.Test.YtgpjnffomheemaaDoorJ19
import Derived.Test.YtgpjnffomheemaaDoorJ25Rd1
import Derived.Test.YtgpjnffomheemaaDoorJ4
import Derived.Test.YtgpjnffomheemaaDoorJ1
/- Texts that are read: the program's ParseMusic. -/
namespace Go.Proofs.YtgpjnffomheemaaDoor
open Go.RowKit
set_option linter.unusedVariables false
set_option linter.unusedSimpArgs false
set_option maxRecDepth 100000

theorem spl_len_le : ∀ (k : Nat) (l : List UInt8) (c : UInt8), l.length ≤ k → (spl l c).length ≤ l.length + 1
  | 0, l, c, h => by
    have : l = [] := List.length_eq_zero_iff.1 (by omega)
    subst this; simp [spl]
  | k + 1, l, c, h => by
    by_cases hm : c ∈ l
    · obtain ⟨a, r, h1, rfl⟩ := cut_exists hm
      have := spl_len_le k r c (by simp at h; omega)
      rw [spl_mid h1]; simp; omega
    · rw [spl_no hm]; simp
theorem okW_pos {p : List UInt8} (h : okW p = true) : 1 ≤ p.length := by
  obtain ⟨a, b, rfl, _⟩ := okW_inv h
  rw [wordL]; simp; omega
theorem spl_ok_len {l : List UInt8} (h : (spl l 32).all okW = true) : (spl l 32).length ≤ l.length := by
  by_cases hm : (32 : UInt8) ∈ l
  · obtain ⟨a, r, h1, rfl⟩ := cut_exists hm
    rw [spl_mid h1] at h ⊢
    have h2 := okW_pos (List.all_eq_true.1 h a (by simp))
    have := spl_len_le r.length r 32 (Nat.le_refl _)
    simp; omega
  · rw [spl_no hm] at h ⊢
    have h2 := okW_pos (List.all_eq_true.1 h l (by simp))
    simpa using h2
theorem piece_len {l a : List UInt8} {c : UInt8} (h : a ∈ spl l c) : a.length ≤ l.length := by
  have key : ∀ (k : Nat) (l : List UInt8), l.length ≤ k → a ∈ spl l c → a.length ≤ l.length := by
    intro k
    induction k with
    | zero =>
      intro l hl h
      have : l = [] := List.length_eq_zero_iff.1 (by omega)
      subst this
      simp [spl] at h; subst h; simp
    | succ k ih =>
      intro l hl h
      by_cases hm : c ∈ l
      · obtain ⟨b, r, h1, rfl⟩ := cut_exists hm
        rw [spl_mid h1] at h
        rcases List.mem_cons.1 h with rfl | h
        · simp
        · have := ih r (by simp at hl; omega) h
          simp; omega
      · rw [spl_no hm] at h
        simp at h; subst h; exact Nat.le_refl _
  exact key _ l (Nat.le_refl _) h
theorem iPMus_bad {l : List UInt8} {q : List (List UInt8)} {k : Nat} {x : List UInt8} (hq : spl l 32 = q) (hk : q[k]? = some x) (h : okW x = false) : iPMus l = ([], false) := by
  have : q.all okW = false := by
    rw [List.all_eq_false]
    exact ⟨x, List.mem_of_getElem? hk, by simp [h]⟩
  rw [iPMus, hq, this]; rfl
theorem iPMus_all {l : List UInt8} {q : List (List UInt8)} {m : List (Int × Int)} (hq : spl l 32 = q) (h : q.all okW = true) (hm : q.map valW = m) : iPMus l = if musB m then (m, true) else ([], false) := by
  rw [iPMus, hq, h, hm]; rfl

/-- k measures of a row of the call's own, its value written out -/
def ORow (w : World) (B : Nat) (A : Option Addr) (k cp : Nat) (q : List (Int × Int)) : Prop := w.ownsRow B 68 2 (.slice A k cp) k (flat2 q)
theorem ORow.below {w w' : World} {B k cp : Nat} {A : Option Addr} {q : List (Int × Int)} (h : ORow w B A k cp q) {D : Nat} (hb : Below D w w') (hB : w.heap.size ≤ D) : ORow w' B A k cp q := by
  refine ⟨h.1, ?_⟩
  rcases h.2 with h0 | ⟨g, cap, cur, hv, hbg, hh, h1, h2, h3, h4⟩
  · exact .inl h0
  · have hlt : g < w.heap.size := by
      rcases Nat.lt_or_ge g w.heap.size with hlt | hge
      · exact hlt
      · rw [Array.getElem?_eq_none hge] at hh; cases hh
    exact .inr ⟨g, cap, cur, hv, hbg, (hb.block g (by omega)).trans hh, h1, h2, h3, h4⟩

set_option maxHeartbeats 4000000 in
theorem iPMus_any (l : List UInt8) (r : List (Int × Int)) (ok : Bool) (w : World) (hml : ML w) (hs : l.length ≤ 1048576) (hm : iPMus l = (r, ok)) :
    Calls Tryd.prog 49 #[str l] w (RetMeas w r ok) := by
  obtain ⟨ps, hq⟩ : ∃ q, spl l 32 = q := ⟨_, rfl⟩
  obtain ⟨n, hn⟩ : ∃ n, ps.length = n := ⟨_, rfl⟩
  have hnb := spl_len_le l.length l 32 (Nat.le_refl _)
  rw [hq, hn] at hnb
  have hpl : Hid (∀ x ∈ ps, x.length ≤ 1048576) := Lib.hid fun x hx => Nat.le_trans (piece_len (l := l) (c := 32) (by rw [hq]; exact hx)) hs
  have HQ := Lib.hid hq
  have HN := Lib.hid hn
  have HM := Lib.hid hm
  have hh := Has.nil w
  obtain ⟨i0, hi0, hz0, hz1, hz2⟩ := info_parts infoMeasure
  have HI := Lib.hid hi0
  have HZ0 := Lib.hid hz0
  have HZ1 := Lib.hid hz1
  have HZ2 := Lib.hid hz2
  have hn63 : n ≤ 1048577 := by omega
  clear hi0 hz0 hz1 hz2 hq hn hm hnb
  go_enter Tryd.func49, Tryd.ntmps49
  go_wp2_with fail
  (go_at_call 80; refine (split_eq _ 32 _ n _ (hml.on (by (first | with_reducible exact Below.refl _ _ | with_reducible assumption | (repeat (with_reducible first | exact Below.refl _ _ | assumption | refine Below.drew ?_ | refine Below.alloc ?_ (by first | omega | (simp <;> omega)) _ | refine Below.setCell ?_ (by first | omega | (simp <;> omega)) _ | refine below_drewN ?_ _))))) hs HQ.out HN.out).mono ?_; rintro e w' ⟨g0, rfl, hg1, hg2, hP, hb⟩; have hz : w.heap.size ≤ w'.heap.size := (by have := hb.size; first | omega | (simp at this; omega)); have hB : Below w.heap.size w w' := (by refine Below.trans ?_ (hb.mono (by first | omega | (simp <;> omega))); (first | with_reducible exact Below.refl _ _ | with_reducible assumption | (repeat (with_reducible first | exact Below.refl _ _ | assumption | refine Below.drew ?_ | refine Below.alloc ?_ (by first | omega | (simp <;> omega)) _ | refine Below.setCell ?_ (by first | omega | (simp <;> omega)) _ | refine below_drewN ?_ _)))); have hh := Has.below (by (repeat (with_reducible first | assumption | apply Has.alloc5 | apply Has.alloc2 | apply Has.alloc1 | apply Has.alloc3 | apply Has.drew | apply Has.drewN | apply Has.set_ | apply Has.allocx | exact Has.nil _))) hb; (try simp only [World.size_alloc, World.size_setCell, World.size_drew, World.heap_drewN] at hh); have hq := hh; simp only [Has, upd, World.size_alloc, World.size_setCell, World.size_drew, World.heap_drewN, and_true, true_and, ite_true, ite_false, and_self, Nat.add_right_cancel_iff, Nat.add_eq_left, Nat.left_eq_add, reduceCtorEq, Nat.reduceEqDiff, if_true, if_false] at hq; have hs := hb.size; (try simp only [World.size_alloc, World.size_setCell, World.size_drew, World.heap_drewN] at hs); have hb0 := hb; clear hb)
  obtain ⟨w0, rfl⟩ : ∃ w0, w0 = w' := ⟨_, rfl⟩
  (try simp only [World.size_alloc, World.size_setCell, World.size_drew] at hg1)
  have hrow0 : w0.ownsRow w.heap.size 68 2 (.slice (some ⟨w.heap.size, 0, none⟩) 0 0) 0 [] := by
    have h9 : (w.alloc (.cells #[] 68)).ownsRow w.heap.size 68 2 (.slice (some ⟨w.heap.size, 0, none⟩) 0 0) 0 [] := World.ownsRow_made _ _ _ (Nat.le_refl _) (by simp [maxLen]) rfl
    have h10 : MRow (w.alloc (.cells #[] 68)) w.heap.size (.slice (some ⟨w.heap.size, 0, none⟩) 0 0) [] := ⟨by decide, h9⟩
    exact (h10.below hb0 (Nat.le_refl _)).2
  have hw0 : w.heap.size < w0.heap.size := by omega
  have HT := Lib.hid hP
  clear hb0 hP hh
  go_wp2_with fail
  go_loopw [4, 18] (fun s1 s2 wr => ∃ (A0 : Option Addr) (cp k : Nat) (q : List (Int × Int)), k ≤ n ∧ s1 = .slice A0 k cp ∧ s2 = .int .i64 k ∧ Hid ((ps.take k).all okW = true) ∧ Hid (q = (ps.take k).map valW) ∧ Hid (q.length = k) ∧ ORow wr w.heap.size A0 k cp q ∧ Hid ((Value.slice A0 k cp).ownBlock ≠ some g0) ∧ Hid (∀ (j : Nat) x, ps[j]? = some x → Has wr [(g0, j, str x)]) ∧ w0.heap.size ≤ wr.heap.size ∧ Below w.heap.size w wr) (fun _ v _ => n - (intOf v).toNat)
  case atStart => exact ⟨_, 0, 0, [], by omega, rfl, rfl, Lib.hid rfl, Lib.hid rfl, Lib.hid rfl, hrow0, Lib.hid (by intro h9; injection h9 with h9; have h8 : w.heap.size = g0 := h9; omega), HT, Nat.le_refl _, hB⟩
  case round =>
    clear hB hz hs hrow0 HT
    obtain ⟨A0, cp, k, q, hk, rfl, rfl, HA, HV, HQL, hO, HO, HP, hz, hB⟩ := hrel
    have hwr := hB.size
    by_cases hlt : k < n
    · obtain ⟨x, hx⟩ : ∃ x, ps[k]? = some x := ⟨ps[k]'(by rw [HN.out]; exact hlt), List.getElem?_eq_getElem _⟩
      have hxl := hpl.out x (List.mem_of_getElem? hx)
      have hh := HP.out k x hx
      have hq := hh
      simp only [Has, and_true] at hq
      have HX := Lib.hid hx
      obtain ⟨⟨a, b, f⟩, hc⟩ : ∃ p, cutL x 64 = p := ⟨_, rfl⟩
      obtain ⟨⟨u, ok1⟩, h1⟩ : ∃ p, mNat a = p := ⟨_, rfl⟩
      obtain ⟨⟨v, ok2⟩, h2⟩ : ∃ p, mNat b = p := ⟨_, rfl⟩
      have HW : Hid (okW x = (f && (ok1 && ok2)) ∧ valW x = (u, v)) := by show _ = _ ∧ _ = _; rw [okW, valW, hc, h1, h2]; exact ⟨rfl, rfl⟩
      have HC := Lib.hid hc
      have H1 := Lib.hid h1
      have H2 := Lib.hid h2
      have hxl9 : x.length ≤ 9223372036854775807 := by omega
      have hgr : g0 < wr.heap.size := by omega
      have kI : (k : Int) < n := by omega
      clear hx hc h1 h2
      by_cases hall : (f && (ok1 && ok2)) = true
      · rw [Bool.and_eq_true, Bool.and_eq_true] at hall
        obtain ⟨rfl, rfl, rfl⟩ := hall
        have HA2 : Hid ((ps.take (k + 1)).all okW = true) := by show _ = _; rw [List.take_add_one, HX.out, List.all_append, HA.out]; simp [HW.out.1]
        have HV2 : Hid (q ++ [(u, v)] = (ps.take (k + 1)).map valW) := by show _ = _; rw [List.take_add_one, HX.out, HV.out]; simp [HW.out.2]
        go_wp2_with fail
        (go_at_call 61; refine (cut_eq _ _ _ _ _ _ hxl9 HC.out).mono ?_; rintro e w' ⟨rfl, hb⟩; have hz : w.heap.size ≤ w'.heap.size := (by have := hb.size; first | omega | (simp at this; omega)); have hB : Below w.heap.size w w' := (by refine Below.trans ?_ (hb.mono (by first | omega | (simp <;> omega))); (first | with_reducible exact Below.refl _ _ | with_reducible assumption | (repeat (with_reducible first | exact Below.refl _ _ | assumption | refine Below.drew ?_ | refine Below.alloc ?_ (by first | omega | (simp <;> omega)) _ | refine Below.setCell ?_ (by first | omega | (simp <;> omega)) _ | refine below_drewN ?_ _)))); have hh := Has.below (by (repeat (with_reducible first | assumption | apply Has.alloc5 | apply Has.alloc2 | apply Has.alloc1 | apply Has.alloc3 | apply Has.drew | apply Has.drewN | apply Has.set_ | apply Has.allocx | exact Has.nil _))) hb; (try simp only [World.size_alloc, World.size_setCell, World.size_drew, World.heap_drewN] at hh); have hq := hh; simp only [Has, upd, World.size_alloc, World.size_setCell, World.size_drew, World.heap_drewN, and_true, true_and, ite_true, ite_false, and_self, Nat.add_right_cancel_iff, Nat.add_eq_left, Nat.left_eq_add, reduceCtorEq, Nat.reduceEqDiff, if_true, if_false] at hq; have hs := hb.size; (try simp only [World.size_alloc, World.size_setCell, World.size_drew, World.heap_drewN] at hs); have hR : Below wr.heap.size wr w' := (Below.trans (by (first | with_reducible exact Below.refl _ _ | with_reducible assumption | (repeat (with_reducible first | exact Below.refl _ _ | assumption | refine Below.drew ?_ | refine Below.alloc ?_ (by first | omega | (simp <;> omega)) _ | refine Below.setCell ?_ (by first | omega | (simp <;> omega)) _ | refine below_drewN ?_ _)))) (hb.mono (by first | omega | (simp <;> omega)))); have hO2 := ORow.below hO hR (Nat.le_refl _); have HP2 : Hid (∀ (j : Nat) x, ps[j]? = some x → Has w' [(g0, j, str x)]) := Lib.hid (fun j x hx => (HP.out j x hx).below hR); clear hb)
        go_wp2_with fail
        (go_at_call 81; refine (natural_eqP _ _ _ _ H1.out).mono ?_; rintro e w' ⟨rfl, rfl⟩)
        go_wp2_with fail
        (go_at_call 81; refine (natural_eqP _ _ _ _ H2.out).mono ?_; rintro e w' ⟨rfl, rfl⟩)
        go_wp2_with (first
            | (at_builtin
               refine wpList_append_lies _ rfl _ _ 56 rfl w.heap.size 68 i0 (.agg #[.int .i64 0, .int .i64 0]) 2 16 Tryd.underlying56 HI.out HZ0.out HZ1.out HZ2.out rfl (by decide) (.slice A0 k cp) k (flat2 q) rfl (World.ownsRow.alloc hO2 _) ⟨w'.heap.size, 0, none⟩ 1 1 [.int .i64 u, .int .i64 v] rfl rfl (two_new _ _ _ _) (two_cells _ _) (by omega) (by simp only [maxLen]; omega) (by omega) (by simp; omega) (w'.heap.size + 1) (by simp) ?_
               intro gg cap w1 hown hgrow hat hlt1
               have hlow := World.ownsRow.lt hO2
               have hO3 : ORow w1 w.heap.size (some ⟨gg, 0, none⟩) (k + 1) cap (q ++ [(u, v)]) := by rw [ORow, flat2_snoc]; exact hown
               have hB2 : Below w.heap.size w w1 := Below.grown (Below.alloc hB (by first | omega | (simp <;> omega)) _) hgrow (by first | omega | (simp <;> omega)) (fun r hr => by have := (hlow r hr).1; omega)
               have HO3 : Hid ((Value.slice (some ⟨gg, 0, none⟩) (k + 1) cap).ownBlock ≠ some g0) := Lib.hid (by
                 intro h9; injection h9 with h9; have h8 : gg = g0 := h9
                 rcases hat with h' | h'
                 · exact HO.out (h'.trans (by rw [h8]))
                 · omega)
               have HP3 : Hid (∀ (j : Nat) x, ps[j]? = some x → Has w1 [(g0, j, str x)]) := Lib.hid (fun j x hx => Has.grown (HP2.out j x hx).allocx hgrow (fun e he hr => by
                 simp at he; subst he; exact HO.out hr.symm))
               have hz2 := hgrow.size
               simp only [World.size_alloc, World.size_drew] at hz2
               have HQ3 : Hid ((q ++ [(u, v)]).length = k + 1) := by show _ = _; simp [HQL.out]
               clear hown hgrow hat hlt1 hlow hB hh hq hO hO2 HP HP2 hR))
        go_roundw
        case rel => exact ⟨_, cap, k + 1, q ++ [(u, v)], by omega, rfl, by go_num, HA2, HV2, HQ3, hO3, HO3, HP3, by omega, hB2⟩
        case measure => simp [intOf]; omega
      · obtain ⟨rfl, rfl⟩ : r = [] ∧ ok = false := by
          have := HM.out.symm.trans (iPMus_bad HQ.out HX.out (by rw [HW.out.1]; simpa using hall)); injection this with a1 b1; exact ⟨a1, b1⟩
        rcases tf f with rfl | rfl
        · rcases tf ok1 with rfl | rfl
          · rcases tf ok2 with rfl | rfl
            · exact absurd rfl hall
            · go_wp2_with fail
              (go_at_call 61; refine (cut_eq _ _ _ _ _ _ hxl9 HC.out).mono ?_; rintro e w' ⟨rfl, hb⟩; have hz : w.heap.size ≤ w'.heap.size := (by have := hb.size; first | omega | (simp at this; omega)); have hB : Below w.heap.size w w' := (by refine Below.trans ?_ (hb.mono (by first | omega | (simp <;> omega))); (first | with_reducible exact Below.refl _ _ | with_reducible assumption | (repeat (with_reducible first | exact Below.refl _ _ | assumption | refine Below.drew ?_ | refine Below.alloc ?_ (by first | omega | (simp <;> omega)) _ | refine Below.setCell ?_ (by first | omega | (simp <;> omega)) _ | refine below_drewN ?_ _)))); have hh := Has.below (by (repeat (with_reducible first | assumption | apply Has.alloc5 | apply Has.alloc2 | apply Has.alloc1 | apply Has.alloc3 | apply Has.drew | apply Has.drewN | apply Has.set_ | apply Has.allocx | exact Has.nil _))) hb; (try simp only [World.size_alloc, World.size_setCell, World.size_drew, World.heap_drewN] at hh); have hq := hh; simp only [Has, upd, World.size_alloc, World.size_setCell, World.size_drew, World.heap_drewN, and_true, true_and, ite_true, ite_false, and_self, Nat.add_right_cancel_iff, Nat.add_eq_left, Nat.left_eq_add, reduceCtorEq, Nat.reduceEqDiff, if_true, if_false] at hq; have hs := hb.size; (try simp only [World.size_alloc, World.size_setCell, World.size_drew, World.heap_drewN] at hs); clear hb)
              go_wp2_with fail
              (go_at_call 81; refine (natural_eqP _ _ _ _ H1.out).mono ?_; rintro e w' ⟨rfl, rfl⟩)
              go_wp2_with fail
              (go_at_call 81; refine (natural_eqP _ _ _ _ H2.out).mono ?_; rintro e w' ⟨rfl, rfl⟩)
              go_wp2_with fail
              go_ret2
              exact RetMeas.nil w (by (first | with_reducible exact Below.refl _ _ | with_reducible assumption | (repeat (with_reducible first | exact Below.refl _ _ | assumption | refine Below.drew ?_ | refine Below.alloc ?_ (by first | omega | (simp <;> omega)) _ | refine Below.setCell ?_ (by first | omega | (simp <;> omega)) _ | refine below_drewN ?_ _))))
          · go_wp2_with fail
            (go_at_call 61; refine (cut_eq _ _ _ _ _ _ hxl9 HC.out).mono ?_; rintro e w' ⟨rfl, hb⟩; have hz : w.heap.size ≤ w'.heap.size := (by have := hb.size; first | omega | (simp at this; omega)); have hB : Below w.heap.size w w' := (by refine Below.trans ?_ (hb.mono (by first | omega | (simp <;> omega))); (first | with_reducible exact Below.refl _ _ | with_reducible assumption | (repeat (with_reducible first | exact Below.refl _ _ | assumption | refine Below.drew ?_ | refine Below.alloc ?_ (by first | omega | (simp <;> omega)) _ | refine Below.setCell ?_ (by first | omega | (simp <;> omega)) _ | refine below_drewN ?_ _)))); have hh := Has.below (by (repeat (with_reducible first | assumption | apply Has.alloc5 | apply Has.alloc2 | apply Has.alloc1 | apply Has.alloc3 | apply Has.drew | apply Has.drewN | apply Has.set_ | apply Has.allocx | exact Has.nil _))) hb; (try simp only [World.size_alloc, World.size_setCell, World.size_drew, World.heap_drewN] at hh); have hq := hh; simp only [Has, upd, World.size_alloc, World.size_setCell, World.size_drew, World.heap_drewN, and_true, true_and, ite_true, ite_false, and_self, Nat.add_right_cancel_iff, Nat.add_eq_left, Nat.left_eq_add, reduceCtorEq, Nat.reduceEqDiff, if_true, if_false] at hq; have hs := hb.size; (try simp only [World.size_alloc, World.size_setCell, World.size_drew, World.heap_drewN] at hs); clear hb)
            go_wp2_with fail
            (go_at_call 81; refine (natural_eqP _ _ _ _ H1.out).mono ?_; rintro e w' ⟨rfl, rfl⟩)
            go_wp2_with fail
            (go_at_call 81; refine (natural_eqP _ _ _ _ H2.out).mono ?_; rintro e w' ⟨rfl, rfl⟩)
            go_wp2_with fail
            go_ret2
            exact RetMeas.nil w (by (first | with_reducible exact Below.refl _ _ | with_reducible assumption | (repeat (with_reducible first | exact Below.refl _ _ | assumption | refine Below.drew ?_ | refine Below.alloc ?_ (by first | omega | (simp <;> omega)) _ | refine Below.setCell ?_ (by first | omega | (simp <;> omega)) _ | refine below_drewN ?_ _))))
        · go_wp2_with fail
          (go_at_call 61; refine (cut_eq _ _ _ _ _ _ hxl9 HC.out).mono ?_; rintro e w' ⟨rfl, hb⟩; have hz : w.heap.size ≤ w'.heap.size := (by have := hb.size; first | omega | (simp at this; omega)); have hB : Below w.heap.size w w' := (by refine Below.trans ?_ (hb.mono (by first | omega | (simp <;> omega))); (first | with_reducible exact Below.refl _ _ | with_reducible assumption | (repeat (with_reducible first | exact Below.refl _ _ | assumption | refine Below.drew ?_ | refine Below.alloc ?_ (by first | omega | (simp <;> omega)) _ | refine Below.setCell ?_ (by first | omega | (simp <;> omega)) _ | refine below_drewN ?_ _)))); have hh := Has.below (by (repeat (with_reducible first | assumption | apply Has.alloc5 | apply Has.alloc2 | apply Has.alloc1 | apply Has.alloc3 | apply Has.drew | apply Has.drewN | apply Has.set_ | apply Has.allocx | exact Has.nil _))) hb; (try simp only [World.size_alloc, World.size_setCell, World.size_drew, World.heap_drewN] at hh); have hq := hh; simp only [Has, upd, World.size_alloc, World.size_setCell, World.size_drew, World.heap_drewN, and_true, true_and, ite_true, ite_false, and_self, Nat.add_right_cancel_iff, Nat.add_eq_left, Nat.left_eq_add, reduceCtorEq, Nat.reduceEqDiff, if_true, if_false] at hq; have hs := hb.size; (try simp only [World.size_alloc, World.size_setCell, World.size_drew, World.heap_drewN] at hs); clear hb)
          go_wp2_with fail
          (go_at_call 81; refine (natural_eqP _ _ _ _ H1.out).mono ?_; rintro e w' ⟨rfl, rfl⟩)
          go_wp2_with fail
          (go_at_call 81; refine (natural_eqP _ _ _ _ H2.out).mono ?_; rintro e w' ⟨rfl, rfl⟩)
          go_wp2_with fail
          go_ret2
          exact RetMeas.nil w (by (first | with_reducible exact Below.refl _ _ | with_reducible assumption | (repeat (with_reducible first | exact Below.refl _ _ | assumption | refine Below.drew ?_ | refine Below.alloc ?_ (by first | omega | (simp <;> omega)) _ | refine Below.setCell ?_ (by first | omega | (simp <;> omega)) _ | refine below_drewN ?_ _))))
    · obtain rfl : k = n := by omega
      have hall : ps.all okW = true := by have := HA.out; rwa [List.take_of_length_le (by rw [HN.out]; exact Nat.le_refl _)] at this
      have hv : ps.map valW = q := by rw [HV.out, List.take_of_length_le (by rw [HN.out]; exact Nat.le_refl _)]
      have hle : q.length ≤ 1048576 := by
        have := spl_ok_len (l := l) (by rw [HQ.out]; exact hall)
        rw [HQ.out, HN.out] at this
        rw [HQL.out]; omega
      have hR : MRow wr w.heap.size (.slice A0 k cp) q := ⟨hle, by rw [HQL.out]; exact hO⟩
      have hL := hR.toLst HQL.out
      have HE : Hid ((r, ok) = if musB q then (q, true) else ([], false)) := by show _ = _; rw [← HM.out]; exact iPMus_all HQ.out hall hv
      have hh := Has.nil wr
      clear hle hv hall
      rcases tf (musB q) with hmu | hmu
      · obtain ⟨rfl, rfl⟩ : r = q ∧ ok = true := by have := HE.out; rw [hmu] at this; injection this with a1 b1; exact ⟨a1, b1⟩
        go_wp2_with fail
        (go_at_call 52; refine (iIsMusic_any _ _ _ _ _ hL).mono ?_; rintro e w' ⟨rfl, hb⟩; have hz : w.heap.size ≤ w'.heap.size := (by have := hb.size; first | omega | (simp at this; omega)); have hB : Below w.heap.size w w' := (by refine Below.trans ?_ (hb.mono (by first | omega | (simp <;> omega))); (first | with_reducible exact Below.refl _ _ | with_reducible assumption | (repeat (with_reducible first | exact Below.refl _ _ | assumption | refine Below.drew ?_ | refine Below.alloc ?_ (by first | omega | (simp <;> omega)) _ | refine Below.setCell ?_ (by first | omega | (simp <;> omega)) _ | refine below_drewN ?_ _)))); have hh := Has.below (by (repeat (with_reducible first | assumption | apply Has.alloc5 | apply Has.alloc2 | apply Has.alloc1 | apply Has.alloc3 | apply Has.drew | apply Has.drewN | apply Has.set_ | apply Has.allocx | exact Has.nil _))) hb; (try simp only [World.size_alloc, World.size_setCell, World.size_drew, World.heap_drewN] at hh); have hq := hh; simp only [Has, upd, World.size_alloc, World.size_setCell, World.size_drew, World.heap_drewN, and_true, true_and, ite_true, ite_false, and_self, Nat.add_right_cancel_iff, Nat.add_eq_left, Nat.left_eq_add, reduceCtorEq, Nat.reduceEqDiff, if_true, if_false] at hq; have hs := hb.size; (try simp only [World.size_alloc, World.size_setCell, World.size_drew, World.heap_drewN] at hs); have hR2 := MRow.below hR hb (by first | omega | (simp <;> omega)); clear hb)
        go_wp2_with fail
        go_ret2
        exact hR2.ret (by omega) (by (first | with_reducible exact Below.refl _ _ | with_reducible assumption | (repeat (with_reducible first | exact Below.refl _ _ | assumption | refine Below.drew ?_ | refine Below.alloc ?_ (by first | omega | (simp <;> omega)) _ | refine Below.setCell ?_ (by first | omega | (simp <;> omega)) _ | refine below_drewN ?_ _))))
      · obtain ⟨rfl, rfl⟩ : r = [] ∧ ok = false := by have := HE.out; rw [hmu] at this; injection this with a1 b1; exact ⟨a1, b1⟩
        go_wp2_with fail
        (go_at_call 52; refine (iIsMusic_any _ _ _ _ _ hL).mono ?_; rintro e w' ⟨rfl, hb⟩; have hz : w.heap.size ≤ w'.heap.size := (by have := hb.size; first | omega | (simp at this; omega)); have hB : Below w.heap.size w w' := (by refine Below.trans ?_ (hb.mono (by first | omega | (simp <;> omega))); (first | with_reducible exact Below.refl _ _ | with_reducible assumption | (repeat (with_reducible first | exact Below.refl _ _ | assumption | refine Below.drew ?_ | refine Below.alloc ?_ (by first | omega | (simp <;> omega)) _ | refine Below.setCell ?_ (by first | omega | (simp <;> omega)) _ | refine below_drewN ?_ _)))); have hh := Has.below (by (repeat (with_reducible first | assumption | apply Has.alloc5 | apply Has.alloc2 | apply Has.alloc1 | apply Has.alloc3 | apply Has.drew | apply Has.drewN | apply Has.set_ | apply Has.allocx | exact Has.nil _))) hb; (try simp only [World.size_alloc, World.size_setCell, World.size_drew, World.heap_drewN] at hh); have hq := hh; simp only [Has, upd, World.size_alloc, World.size_setCell, World.size_drew, World.heap_drewN, and_true, true_and, ite_true, ite_false, and_self, Nat.add_right_cancel_iff, Nat.add_eq_left, Nat.left_eq_add, reduceCtorEq, Nat.reduceEqDiff, if_true, if_false] at hq; have hs := hb.size; (try simp only [World.size_alloc, World.size_setCell, World.size_drew, World.heap_drewN] at hs); clear hb)
        go_wp2_with fail
        go_ret2
        exact RetMeas.nil w (by (first | with_reducible exact Below.refl _ _ | with_reducible assumption | (repeat (with_reducible first | exact Below.refl _ _ | assumption | refine Below.drew ?_ | refine Below.alloc ?_ (by first | omega | (simp <;> omega)) _ | refine Below.setCell ?_ (by first | omega | (simp <;> omega)) _ | refine below_drewN ?_ _))))

end Go.Proofs.YtgpjnffomheemaaDoor

