import Derived.Test.YtgpjnffomheemaaDoorLists
import Derived.Test.YtgpjnffomheemaaDoorJ26Rd3
import Derived.Test.YtgpjnffomheemaaDoorJ20Wrt3
/- Texts that are read: the reference's ParseMusic. -/
namespace Go.Proofs.YtgpjnffomheemaaDoor
open Go.RowKit
set_option linter.unusedVariables false
set_option linter.unusedSimpArgs false
set_option maxRecDepth 100000

theorem sPMus_long {l : List UInt8} {q : List (List UInt8)} (hq : spl l 32 = q) (h : 40 < q.length) : sPMus l = ([], false) := by
  rw [sPMus, hq, decide_eq_false (by omega)]; rfl
theorem sPMus_bad {l : List UInt8} {q : List (List UInt8)} {k : Nat} {x : List UInt8} (hq : spl l 32 = q) (hk : q[k]? = some x) (h : okS x = false) : sPMus l = ([], false) := by
  have : q.all okS = false := by
    rw [List.all_eq_false]
    exact ⟨x, List.mem_of_getElem? hk, by simp [h]⟩
  rw [sPMus, hq, this]; simp
theorem sPMus_all {l : List UInt8} {q : List (List UInt8)} {m : List (Int × Int)} (hq : spl l 32 = q) (h40 : q.length ≤ 40) (h : q.all okS = true) (hm : q.map valS = m) : sPMus l = if musB m && (musL m == l) then (m, true) else ([], false) := by
  rw [sPMus, hq, h, hm, decide_eq_true h40]; rfl

set_option maxHeartbeats 4000000 in
theorem sPMus_any (l : List UInt8) (r : List (Int × Int)) (ok : Bool) (w : World) (hs : l.length ≤ 1048576) (hm : sPMus l = (r, ok)) :
    Calls Tryd.prog 50 #[str l] w (RetMeas w r ok) := by
  obtain ⟨ps, hq⟩ : ∃ q, spl l 32 = q := ⟨_, rfl⟩
  obtain ⟨n, hn⟩ : ∃ n, ps.length = n := ⟨_, rfl⟩
  have hn1 := spl_len l 32
  rw [hq, hn] at hn1
  have hpl : Hid (∀ x ∈ ps, x.length ≤ 1048576) := Lib.hid fun x hx => Nat.le_trans (piece_len (l := l) (c := 32) (by rw [hq]; exact hx)) hs
  have HQ := Lib.hid hq
  have HN := Lib.hid hn
  have HM := Lib.hid hm
  have hh := Has.nil w
  clear hq hn hm
  by_cases hbig : 40 < n
  · obtain ⟨rfl, rfl⟩ : r = [] ∧ ok = false := by have := HM.out.symm.trans (sPMus_long HQ.out (by rw [HN.out]; exact hbig)); injection this with a1 b1; exact ⟨a1, b1⟩
    have hb9 : (40 : Int) < n := by omega
    go_enter Tryd.func50, Tryd.ntmps50
    go_wp2_with fail
    (go_at_call 93; refine (l1Split_eq _ 32 _ rfl _ n _ hs HQ.out HN.out).mono ?_; rintro e w' ⟨A, kk, rfl, hT0, hb⟩; have hz : w.heap.size ≤ w'.heap.size := (by have := hb.size; first | omega | (simp at this; omega)); have hB : Below w.heap.size w w' := (by refine Below.trans ?_ (hb.mono (by first | omega | (simp <;> omega))); (first | with_reducible exact Below.refl _ _ | with_reducible assumption | (repeat (with_reducible first | exact Below.refl _ _ | assumption | refine Below.drew ?_ | refine Below.alloc ?_ (by first | omega | (simp <;> omega)) _ | refine Below.setCell ?_ (by first | omega | (simp <;> omega)) _ | refine below_drewN ?_ _)))); have hh := Has.below (by (repeat (with_reducible first | assumption | apply Has.alloc5 | apply Has.alloc2 | apply Has.alloc1 | apply Has.alloc3 | apply Has.drew | apply Has.drewN | apply Has.set_ | apply Has.allocx | exact Has.nil _))) hb; (try simp only [World.size_alloc, World.size_setCell, World.size_drew, World.heap_drewN] at hh); have hq := hh; simp only [Has, upd, World.size_alloc, World.size_setCell, World.size_drew, World.heap_drewN, and_true, true_and, ite_true, ite_false, and_self, Nat.add_right_cancel_iff, Nat.add_eq_left, Nat.left_eq_add, reduceCtorEq, Nat.reduceEqDiff, if_true, if_false] at hq; have hs := hb.size; (try simp only [World.size_alloc, World.size_setCell, World.size_drew, World.heap_drewN] at hs); clear hb)
    go_wp2_with fail
    go_ret2
    exact RetMeas.nil w (by (first | with_reducible exact Below.refl _ _ | with_reducible assumption | (repeat (with_reducible first | exact Below.refl _ _ | assumption | refine Below.drew ?_ | refine Below.alloc ?_ (by first | omega | (simp <;> omega)) _ | refine Below.setCell ?_ (by first | omega | (simp <;> omega)) _ | refine below_drewN ?_ _))))
  have hb9 : ¬ (40 : Int) < n := by omega
  have h40 : n ≤ 40 := by omega
  obtain ⟨i0, hi0, hz0, hz1, hz2⟩ := info_parts infoMeasure
  have HI := Lib.hid hi0
  have HZ0 := Lib.hid hz0
  have HZ1 := Lib.hid hz1
  have HZ2 := Lib.hid hz2
  clear hi0 hz0 hz1 hz2 hbig
  go_enter Tryd.func50, Tryd.ntmps50
  go_wp2_with fail
  (go_at_call 93; refine (l1Split_eq _ 32 _ rfl _ n _ hs HQ.out HN.out).mono ?_; rintro e w' ⟨A, kk, rfl, hT0, hb⟩; have hz : w.heap.size ≤ w'.heap.size := (by have := hb.size; first | omega | (simp at this; omega)); have hB : Below w.heap.size w w' := (by refine Below.trans ?_ (hb.mono (by first | omega | (simp <;> omega))); (first | with_reducible exact Below.refl _ _ | with_reducible assumption | (repeat (with_reducible first | exact Below.refl _ _ | assumption | refine Below.drew ?_ | refine Below.alloc ?_ (by first | omega | (simp <;> omega)) _ | refine Below.setCell ?_ (by first | omega | (simp <;> omega)) _ | refine below_drewN ?_ _)))); have hh := Has.below (by (repeat (with_reducible first | assumption | apply Has.alloc5 | apply Has.alloc2 | apply Has.alloc1 | apply Has.alloc3 | apply Has.drew | apply Has.drewN | apply Has.set_ | apply Has.allocx | exact Has.nil _))) hb; (try simp only [World.size_alloc, World.size_setCell, World.size_drew, World.heap_drewN] at hh); have hq := hh; simp only [Has, upd, World.size_alloc, World.size_setCell, World.size_drew, World.heap_drewN, and_true, true_and, ite_true, ite_false, and_self, Nat.add_right_cancel_iff, Nat.add_eq_left, Nat.left_eq_add, reduceCtorEq, Nat.reduceEqDiff, if_true, if_false] at hq; have hs := hb.size; (try simp only [World.size_alloc, World.size_setCell, World.size_drew, World.heap_drewN] at hs); clear hb)
  obtain ⟨w0, rfl⟩ : ∃ w0, w0 = w' := ⟨_, rfl⟩
  obtain ⟨g0, rfl, hg1, hg2⟩ := hT0.blk (by rw [HN.out]; omega)
  have hw0 : w.heap.size ≤ w0.heap.size := by omega
  have HT : Hid (∀ (j : Nat) x, ps[j]? = some x → Has w0 [(g0, j, str x)]) := Lib.hid fun j x hx => hT0.at hx
  clear hT0 hh
  go_wp2_with fail
  go_loopw [5, 16] (fun s1 s2 wr => ∃ (A0 : Option Addr) (cp k : Nat) (q : List (Int × Int)), k ≤ n ∧ s1 = .slice A0 k cp ∧ s2 = .int .i64 k ∧ Hid ((ps.take k).all okS = true) ∧ Hid (q = (ps.take k).map valS) ∧ Hid (q.length = k) ∧ ORow wr w0.heap.size A0 k cp q ∧ Hid (∀ (j : Nat) x, ps[j]? = some x → Has wr [(g0, j, str x)]) ∧ w0.heap.size ≤ wr.heap.size ∧ Below w.heap.size w wr) (fun _ v _ => n - (intOf v).toNat)
  case atStart => exact ⟨none, 0, 0, [], by omega, rfl, rfl, Lib.hid rfl, Lib.hid rfl, Lib.hid rfl, World.ownsRow_nil _ _ _ _, HT, Nat.le_refl _, hB⟩
  case round =>
    clear hB hz hs HT
    obtain ⟨A0, cp, k, q, hk, rfl, rfl, HA, HV, HQL, hO, HP, hz, hB⟩ := hrel
    have hwr := hB.size
    by_cases hlt : k < n
    · obtain ⟨x, hx⟩ : ∃ x, ps[k]? = some x := ⟨ps[k]'(by rw [HN.out]; exact hlt), List.getElem?_eq_getElem _⟩
      have hxl := hpl.out x (List.mem_of_getElem? hx)
      have hh := HP.out k x hx
      have hq := hh
      simp only [Has, and_true] at hq
      have HX := Lib.hid hx
      obtain ⟨q2, hq2⟩ : ∃ q2, spl x 64 = q2 := ⟨_, rfl⟩
      obtain ⟨n2, hn2⟩ : ∃ n2, q2.length = n2 := ⟨_, rfl⟩
      have HQ2 := Lib.hid hq2
      have HN2 := Lib.hid hn2
      have hgr : g0 < wr.heap.size := by omega
      have kI : (k : Int) < n := by omega
      clear hx hq2 hn2
      by_cases h2 : n2 = 2
      · subst h2
        obtain ⟨a, b, rfl⟩ : ∃ a b, q2 = [a, b] := by
          have h9 := HN2.out
          match q2, h9 with
          | [a, b], _ => exact ⟨a, b, rfl⟩
        have HA2 : Hid ((ps.take (k + 1)).all okS = true) := by show _ = _; rw [List.take_add_one, HX.out, List.all_append, HA.out]; simp [okS, HQ2.out]
        have HV2 : Hid (q ++ [(mRead a, mRead b)] = (ps.take (k + 1)).map valS) := by show _ = _; rw [List.take_add_one, HX.out, HV.out]; simp [valS, HQ2.out]
        go_wp2_with fail
        (go_at_call 93; refine (l1Split_eq _ 64 _ rfl _ 2 _ hxl HQ2.out rfl).mono ?_; rintro e w' ⟨A, kk, rfl, hT0, hb⟩; have hz : w.heap.size ≤ w'.heap.size := (by have := hb.size; first | omega | (simp at this; omega)); have hB : Below w.heap.size w w' := (by refine Below.trans ?_ (hb.mono (by first | omega | (simp <;> omega))); (first | with_reducible exact Below.refl _ _ | with_reducible assumption | (repeat (with_reducible first | exact Below.refl _ _ | assumption | refine Below.drew ?_ | refine Below.alloc ?_ (by first | omega | (simp <;> omega)) _ | refine Below.setCell ?_ (by first | omega | (simp <;> omega)) _ | refine below_drewN ?_ _)))); have hh := Has.below (by (repeat (with_reducible first | assumption | apply Has.alloc5 | apply Has.alloc2 | apply Has.alloc1 | apply Has.alloc3 | apply Has.drew | apply Has.drewN | apply Has.set_ | apply Has.allocx | exact Has.nil _))) hb; (try simp only [World.size_alloc, World.size_setCell, World.size_drew, World.heap_drewN] at hh); have hq := hh; simp only [Has, upd, World.size_alloc, World.size_setCell, World.size_drew, World.heap_drewN, and_true, true_and, ite_true, ite_false, and_self, Nat.add_right_cancel_iff, Nat.add_eq_left, Nat.left_eq_add, reduceCtorEq, Nat.reduceEqDiff, if_true, if_false] at hq; have hs := hb.size; (try simp only [World.size_alloc, World.size_setCell, World.size_drew, World.heap_drewN] at hs); have hR : Below wr.heap.size wr w' := (Below.trans (by (first | with_reducible exact Below.refl _ _ | with_reducible assumption | (repeat (with_reducible first | exact Below.refl _ _ | assumption | refine Below.drew ?_ | refine Below.alloc ?_ (by first | omega | (simp <;> omega)) _ | refine Below.setCell ?_ (by first | omega | (simp <;> omega)) _ | refine below_drewN ?_ _)))) (hb.mono (by first | omega | (simp <;> omega)))); have hO2 := ORow.below hO hR (Nat.le_refl _); have HP2 : Hid (∀ (j : Nat) x, ps[j]? = some x → Has w' [(g0, j, str x)]) := Lib.hid (fun j x hx => (HP.out j x hx).below hR); obtain ⟨g2, rfl, hg3, hg4⟩ := hT0.blk (by simp); have hh := Has.app (hT0.at (j := 0) rfl) (hT0.at (j := 1) rfl); simp only [List.cons_append, List.nil_append] at hh; have hq := hh; simp only [Has, and_true] at hq; clear hT0; (try simp only [World.size_alloc, World.size_setCell, World.size_drew] at hg3); clear hb)
        (obtain ⟨w2, rfl⟩ : ∃ z : World, z = w' := ⟨_, rfl⟩)
        have hn9 : g2 ≠ w2.heap.size := by omega
        have hn8 : w2.heap.size ≠ g2 := by omega
        go_wp2_with fail
        go_region_held3 (fun w' => w'.cell? ⟨g2, 0, none⟩ = some (str a) ∧ w'.cell? ⟨g2, 1, none⟩ = some (str b)) (first | (go_keep; done) | (go_split_ands; refine ⟨?_, ?_⟩ <;> (rw [hgrow.cell_far _ (by simp; omega) (fun hr => by have := (World.ownsRow.lt hO _ hr.symm).2; simp at this; omega)]; simp [*]))) (first
          | (go_at_call 94; refine (l1Read_eq _ _ _ rfl).mono ?_; rintro e w' ⟨rfl, rfl⟩)
          | (refine step_append_lies _ (by rfl) _ _ 56 (by rfl) w0.heap.size 68 i0 _ 2 16 Tryd.underlying56 HI.out HZ0.out HZ1.out HZ2.out rfl (by omega) (.slice A0 k cp) k (flat2 q) (by rfl) ((World.ownsRow.alloc hO2 _).drew)
              ⟨w2.heap.size, 0, none⟩ 1 1 [.int .i64 (mRead a), .int .i64 (mRead b)] (by rfl) (by rfl) (World.news_of_block (cs := #[.int .i64 (mRead a), .int .i64 (mRead b)]) (t := 68) (fr := (0, 0)) (heap_alloc_new w2 _)) (by simp [Value.oneCell'])
              (by omega) (by simp only [maxLen]; omega) (by omega) (by simp; omega) (w2.heap.size + 1) (by simp) ?_; intro gg cap w1 hown1 hgrow hat hlt1))
        have hlow := World.ownsRow.lt hO2
        have hO3 : ORow w1 w0.heap.size (some ⟨gg, 0, none⟩) (k + 1) cap (q ++ [(mRead a, mRead b)]) := by rw [ORow, flat2_snoc]; exact hown1
        have hB2 : Below w.heap.size w w1 := Below.grown (Below.drew (Below.alloc hB (by first | omega | (simp <;> omega)) _)) hgrow (by first | omega | (simp <;> omega)) (fun r hr => by have := (hlow r hr).1; omega)
        have HP3 : Hid (∀ (j : Nat) x, ps[j]? = some x → Has w1 [(g0, j, str x)]) := Lib.hid (fun j x hx => Has.grown (Has.drew (HP2.out j x hx).allocx) hgrow (fun e he hr => by
          simp at he; subst he; have := (hlow _ hr.symm).1; simp at this; omega))
        have hz2 := hgrow.size
        simp only [World.size_alloc, World.size_drew] at hz2
        have HQ3 : Hid ((q ++ [(mRead a, mRead b)]).length = k + 1) := by show _ = _; simp [HQL.out]
        clear hown1 hgrow hat hlt1 hlow hB hh hq hO hO2 HP HP2 hR
        go_wp2_with fail
        go_roundw
        case rel => exact ⟨_, cap, k + 1, q ++ [(mRead a, mRead b)], by omega, rfl, by go_num, HA2, HV2, HQ3, hO3, HP3, by omega, hB2⟩
        case measure => simp [intOf]; omega
      · obtain ⟨rfl, rfl⟩ : r = [] ∧ ok = false := by
          have := HM.out.symm.trans (sPMus_bad HQ.out HX.out (by rw [okS, HQ2.out, HN2.out]; simpa using h2)); injection this with a1 b1; exact ⟨a1, b1⟩
        have h3 : ¬ (n2 : Int) = 2 := by omega
        have h4 : ((n2 : Int) == 2) = false := by simp; omega
        go_wp2_with fail
        (go_at_call 93; refine (l1Split_eq _ 64 _ rfl _ n2 _ hxl HQ2.out HN2.out).mono ?_; rintro e w' ⟨A, kk, rfl, hT0, hb⟩; have hz : w.heap.size ≤ w'.heap.size := (by have := hb.size; first | omega | (simp at this; omega)); have hB : Below w.heap.size w w' := (by refine Below.trans ?_ (hb.mono (by first | omega | (simp <;> omega))); (first | with_reducible exact Below.refl _ _ | with_reducible assumption | (repeat (with_reducible first | exact Below.refl _ _ | assumption | refine Below.drew ?_ | refine Below.alloc ?_ (by first | omega | (simp <;> omega)) _ | refine Below.setCell ?_ (by first | omega | (simp <;> omega)) _ | refine below_drewN ?_ _)))); have hh := Has.below (by (repeat (with_reducible first | assumption | apply Has.alloc5 | apply Has.alloc2 | apply Has.alloc1 | apply Has.alloc3 | apply Has.drew | apply Has.drewN | apply Has.set_ | apply Has.allocx | exact Has.nil _))) hb; (try simp only [World.size_alloc, World.size_setCell, World.size_drew, World.heap_drewN] at hh); have hq := hh; simp only [Has, upd, World.size_alloc, World.size_setCell, World.size_drew, World.heap_drewN, and_true, true_and, ite_true, ite_false, and_self, Nat.add_right_cancel_iff, Nat.add_eq_left, Nat.left_eq_add, reduceCtorEq, Nat.reduceEqDiff, if_true, if_false] at hq; have hs := hb.size; (try simp only [World.size_alloc, World.size_setCell, World.size_drew, World.heap_drewN] at hs); clear hb)
        go_wp2_with fail
        go_ret2
        exact RetMeas.nil w (by (first | with_reducible exact Below.refl _ _ | with_reducible assumption | (repeat (with_reducible first | exact Below.refl _ _ | assumption | refine Below.drew ?_ | refine Below.alloc ?_ (by first | omega | (simp <;> omega)) _ | refine Below.setCell ?_ (by first | omega | (simp <;> omega)) _ | refine below_drewN ?_ _))))
    · obtain rfl : k = n := by omega
      have hall : ps.all okS = true := by have := HA.out; rwa [List.take_of_length_le (by rw [HN.out]; exact Nat.le_refl _)] at this
      have hv : ps.map valS = q := by rw [HV.out, List.take_of_length_le (by rw [HN.out]; exact Nat.le_refl _)]
      have hR : MRow wr w0.heap.size (.slice A0 k cp) q := ⟨by rw [HQL.out]; omega, by rw [HQL.out]; exact hO⟩
      have hL := hR.toLst HQL.out
      have HE : Hid ((r, ok) = if musB q && (musL q == l) then (q, true) else ([], false)) := by show _ = _; rw [← HM.out]; exact sPMus_all HQ.out (by rw [HN.out]; exact h40) hall hv
      have hh := Has.nil wr
      clear hv hall
      rcases tf (musB q) with hmu | hmu
      · rcases tf (musL q == l) with ht | ht
        · obtain ⟨rfl, rfl⟩ : r = q ∧ ok = true := by have := HE.out; rw [hmu, ht] at this; injection this with a1 b1; exact ⟨a1, b1⟩
          have ht2 : musL r = l := by simpa using ht
          go_wp2_with fail
          (go_at_call 97; refine (muGood_any _ _ _ _ _ hL).mono ?_; rintro e w' ⟨rfl, hb⟩; have hz : w.heap.size ≤ w'.heap.size := (by have := hb.size; first | omega | (simp at this; omega)); have hB : Below w.heap.size w w' := (by refine Below.trans ?_ (hb.mono (by first | omega | (simp <;> omega))); (first | with_reducible exact Below.refl _ _ | with_reducible assumption | (repeat (with_reducible first | exact Below.refl _ _ | assumption | refine Below.drew ?_ | refine Below.alloc ?_ (by first | omega | (simp <;> omega)) _ | refine Below.setCell ?_ (by first | omega | (simp <;> omega)) _ | refine below_drewN ?_ _)))); have hh := Has.below (by (repeat (with_reducible first | assumption | apply Has.alloc5 | apply Has.alloc2 | apply Has.alloc1 | apply Has.alloc3 | apply Has.drew | apply Has.drewN | apply Has.set_ | apply Has.allocx | exact Has.nil _))) hb; (try simp only [World.size_alloc, World.size_setCell, World.size_drew, World.heap_drewN] at hh); have hq := hh; simp only [Has, upd, World.size_alloc, World.size_setCell, World.size_drew, World.heap_drewN, and_true, true_and, ite_true, ite_false, and_self, Nat.add_right_cancel_iff, Nat.add_eq_left, Nat.left_eq_add, reduceCtorEq, Nat.reduceEqDiff, if_true, if_false] at hq; have hs := hb.size; (try simp only [World.size_alloc, World.size_setCell, World.size_drew, World.heap_drewN] at hs); have hL2 := hL.below hb (by first | omega | (simp <;> omega)); have hR2 := MRow.below hR hb (by first | omega | (simp <;> omega)); clear hb)
          go_wp2_with fail
          (go_at_call 98; refine (muText_any _ _ _ _ _ hL2 hmu).mono ?_; rintro e w' ⟨rfl, hb⟩; have hz : w.heap.size ≤ w'.heap.size := (by have := hb.size; first | omega | (simp at this; omega)); have hB : Below w.heap.size w w' := (by refine Below.trans ?_ (hb.mono (by first | omega | (simp <;> omega))); (first | with_reducible exact Below.refl _ _ | with_reducible assumption | (repeat (with_reducible first | exact Below.refl _ _ | assumption | refine Below.drew ?_ | refine Below.alloc ?_ (by first | omega | (simp <;> omega)) _ | refine Below.setCell ?_ (by first | omega | (simp <;> omega)) _ | refine below_drewN ?_ _)))); have hh := Has.below (by (repeat (with_reducible first | assumption | apply Has.alloc5 | apply Has.alloc2 | apply Has.alloc1 | apply Has.alloc3 | apply Has.drew | apply Has.drewN | apply Has.set_ | apply Has.allocx | exact Has.nil _))) hb; (try simp only [World.size_alloc, World.size_setCell, World.size_drew, World.heap_drewN] at hh); have hq := hh; simp only [Has, upd, World.size_alloc, World.size_setCell, World.size_drew, World.heap_drewN, and_true, true_and, ite_true, ite_false, and_self, Nat.add_right_cancel_iff, Nat.add_eq_left, Nat.left_eq_add, reduceCtorEq, Nat.reduceEqDiff, if_true, if_false] at hq; have hs := hb.size; (try simp only [World.size_alloc, World.size_setCell, World.size_drew, World.heap_drewN] at hs); have hR3 := MRow.below hR2 hb (by first | omega | (simp <;> omega)); clear hb)
          go_wp2_with fail
          go_ret2
          exact hR3.ret (by omega) (by (first | with_reducible exact Below.refl _ _ | with_reducible assumption | (repeat (with_reducible first | exact Below.refl _ _ | assumption | refine Below.drew ?_ | refine Below.alloc ?_ (by first | omega | (simp <;> omega)) _ | refine Below.setCell ?_ (by first | omega | (simp <;> omega)) _ | refine below_drewN ?_ _))))
        · obtain ⟨rfl, rfl⟩ : r = [] ∧ ok = false := by have := HE.out; rw [hmu, ht] at this; injection this with a1 b1; exact ⟨a1, b1⟩
          go_wp2_with fail
          (go_at_call 97; refine (muGood_any _ _ _ _ _ hL).mono ?_; rintro e w' ⟨rfl, hb⟩; have hz : w.heap.size ≤ w'.heap.size := (by have := hb.size; first | omega | (simp at this; omega)); have hB : Below w.heap.size w w' := (by refine Below.trans ?_ (hb.mono (by first | omega | (simp <;> omega))); (first | with_reducible exact Below.refl _ _ | with_reducible assumption | (repeat (with_reducible first | exact Below.refl _ _ | assumption | refine Below.drew ?_ | refine Below.alloc ?_ (by first | omega | (simp <;> omega)) _ | refine Below.setCell ?_ (by first | omega | (simp <;> omega)) _ | refine below_drewN ?_ _)))); have hh := Has.below (by (repeat (with_reducible first | assumption | apply Has.alloc5 | apply Has.alloc2 | apply Has.alloc1 | apply Has.alloc3 | apply Has.drew | apply Has.drewN | apply Has.set_ | apply Has.allocx | exact Has.nil _))) hb; (try simp only [World.size_alloc, World.size_setCell, World.size_drew, World.heap_drewN] at hh); have hq := hh; simp only [Has, upd, World.size_alloc, World.size_setCell, World.size_drew, World.heap_drewN, and_true, true_and, ite_true, ite_false, and_self, Nat.add_right_cancel_iff, Nat.add_eq_left, Nat.left_eq_add, reduceCtorEq, Nat.reduceEqDiff, if_true, if_false] at hq; have hs := hb.size; (try simp only [World.size_alloc, World.size_setCell, World.size_drew, World.heap_drewN] at hs); have hL2 := hL.below hb (by first | omega | (simp <;> omega)); clear hb)
          go_wp2_with fail
          (go_at_call 98; refine (muText_any _ _ _ _ _ hL2 hmu).mono ?_; rintro e w' ⟨rfl, hb⟩; have hz : w.heap.size ≤ w'.heap.size := (by have := hb.size; first | omega | (simp at this; omega)); have hB : Below w.heap.size w w' := (by refine Below.trans ?_ (hb.mono (by first | omega | (simp <;> omega))); (first | with_reducible exact Below.refl _ _ | with_reducible assumption | (repeat (with_reducible first | exact Below.refl _ _ | assumption | refine Below.drew ?_ | refine Below.alloc ?_ (by first | omega | (simp <;> omega)) _ | refine Below.setCell ?_ (by first | omega | (simp <;> omega)) _ | refine below_drewN ?_ _)))); have hh := Has.below (by (repeat (with_reducible first | assumption | apply Has.alloc5 | apply Has.alloc2 | apply Has.alloc1 | apply Has.alloc3 | apply Has.drew | apply Has.drewN | apply Has.set_ | apply Has.allocx | exact Has.nil _))) hb; (try simp only [World.size_alloc, World.size_setCell, World.size_drew, World.heap_drewN] at hh); have hq := hh; simp only [Has, upd, World.size_alloc, World.size_setCell, World.size_drew, World.heap_drewN, and_true, true_and, ite_true, ite_false, and_self, Nat.add_right_cancel_iff, Nat.add_eq_left, Nat.left_eq_add, reduceCtorEq, Nat.reduceEqDiff, if_true, if_false] at hq; have hs := hb.size; (try simp only [World.size_alloc, World.size_setCell, World.size_drew, World.heap_drewN] at hs); clear hb)
          go_wp2_with fail
          go_ret2
          exact RetMeas.nil w (by (first | with_reducible exact Below.refl _ _ | with_reducible assumption | (repeat (with_reducible first | exact Below.refl _ _ | assumption | refine Below.drew ?_ | refine Below.alloc ?_ (by first | omega | (simp <;> omega)) _ | refine Below.setCell ?_ (by first | omega | (simp <;> omega)) _ | refine below_drewN ?_ _))))
      · obtain ⟨rfl, rfl⟩ : r = [] ∧ ok = false := by have := HE.out; rw [hmu] at this; injection this with a1 b1; exact ⟨a1, b1⟩
        go_wp2_with fail
        (go_at_call 97; refine (muGood_any _ _ _ _ _ hL).mono ?_; rintro e w' ⟨rfl, hb⟩; have hz : w.heap.size ≤ w'.heap.size := (by have := hb.size; first | omega | (simp at this; omega)); have hB : Below w.heap.size w w' := (by refine Below.trans ?_ (hb.mono (by first | omega | (simp <;> omega))); (first | with_reducible exact Below.refl _ _ | with_reducible assumption | (repeat (with_reducible first | exact Below.refl _ _ | assumption | refine Below.drew ?_ | refine Below.alloc ?_ (by first | omega | (simp <;> omega)) _ | refine Below.setCell ?_ (by first | omega | (simp <;> omega)) _ | refine below_drewN ?_ _)))); have hh := Has.below (by (repeat (with_reducible first | assumption | apply Has.alloc5 | apply Has.alloc2 | apply Has.alloc1 | apply Has.alloc3 | apply Has.drew | apply Has.drewN | apply Has.set_ | apply Has.allocx | exact Has.nil _))) hb; (try simp only [World.size_alloc, World.size_setCell, World.size_drew, World.heap_drewN] at hh); have hq := hh; simp only [Has, upd, World.size_alloc, World.size_setCell, World.size_drew, World.heap_drewN, and_true, true_and, ite_true, ite_false, and_self, Nat.add_right_cancel_iff, Nat.add_eq_left, Nat.left_eq_add, reduceCtorEq, Nat.reduceEqDiff, if_true, if_false] at hq; have hs := hb.size; (try simp only [World.size_alloc, World.size_setCell, World.size_drew, World.heap_drewN] at hs); clear hb)
        go_wp2_with fail
        go_ret2
        exact RetMeas.nil w (by (first | with_reducible exact Below.refl _ _ | with_reducible assumption | (repeat (with_reducible first | exact Below.refl _ _ | assumption | refine Below.drew ?_ | refine Below.alloc ?_ (by first | omega | (simp <;> omega)) _ | refine Below.setCell ?_ (by first | omega | (simp <;> omega)) _ | refine below_drewN ?_ _))))

end Go.Proofs.YtgpjnffomheemaaDoor

