import Derived.Test.YtgpjnffomheemaaDoorJ4
import Derived.Test.YtgpjnffomheemaaDoorJ5
import Derived.Test.YtgpjnffomheemaaDoorTempo
import Derived.Test.YtgpjnffomheemaaDoorCur

section
/- Plain laws of music: the last count begun, spans that add up, repeated measures, new tempos, the greatest tempo. -/
namespace Go.Proofs.YtgpjnffomheemaaDoor
open Go.RowKit
set_option linter.unusedVariables false
set_option linter.unusedSimpArgs false

theorem lastTo_spec {l : List (Int × Int)} {time : Int} (h0 : timeL l 0 ≤ time) : ∀ t : Nat, time < timeL l t → lastTo l time t < t ∧ timeL l (lastTo l time t) ≤ time ∧ time < timeL l ((lastTo l time t : Int) + 1)
  | 0, h => by simp at h; omega
  | t + 1, h => by
    by_cases e : timeL l t ≤ time
    · rw [lastTo_yes e]
      refine ⟨by omega, e, ?_⟩
      have : ((t + 1 : Nat) : Int) = (t : Int) + 1 := by omega
      rwa [this] at h
    · rw [lastTo_no e]
      have := lastTo_spec h0 t (by omega)
      exact ⟨by omega, this.2⟩
theorem countAt_law {l : List (Int × Int)} {time k : Int} (h : mCountAt l time = (k, true)) : ∃ a b, mTimeOf l k = (a, true) ∧ mTimeOf l (k + 1) = (b, true) ∧ a ≤ time ∧ time < b ∧ 0 ≤ k ∧ k ≤ 480 := by
  unfold mCountAt at h
  split at h
  · rename_i hc
    rw [Bool.and_eq_true, inB_iff] at hc
    obtain ⟨hm, t0, t1⟩ := hc
    injection h with hk
    have hs := sumL_bd hm
    have hz := timeL_zero hm
    obtain ⟨S, hS⟩ : ∃ S : Nat, sumL l = S := ⟨(sumL l).toNat, by omega⟩
    have sp := lastTo_spec (l := l) (time := time) (by omega) S (by rw [← hS]; omega)
    rw [hS, Int.toNat_natCast] at hk
    rw [hk] at sp
    have hk0 : 0 ≤ k := by omega
    have hk1 : k < S := by omega
    refine ⟨timeL l k, timeL l (k + 1), ?_, ?_, sp.2.1, sp.2.2, hk0, by omega⟩
    · simp only [mTimeOf, hm, Bool.true_and]; rw [if_pos (by rw [inB_iff]; omega)]
    · simp only [mTimeOf, hm, Bool.true_and]; rw [if_pos (by rw [inB_iff]; omega)]
  · injection h with _ h0; cases h0

theorem lasts_law {l : List (Int × Int)} {a b n : Int} (h : mLastsFrom l a b = (n, true)) : ∃ p q, mLastsFrom l a ((a + b) / 2) = (p, true) ∧ mLastsFrom l ((a + b) / 2) b = (q, true) ∧ p + q = n ∧ 0 ≤ p ∧ p ≤ 720000 ∧ 0 ≤ q ∧ q ≤ 720000 ∧ 0 ≤ a ∧ a ≤ b ∧ b ≤ 480 := by
  unfold mLastsFrom at h
  split at h
  · rename_i hc
    rw [Bool.and_eq_true, decide_eq_true_eq] at hc
    obtain ⟨hm, h0, h1, h2⟩ := hc
    injection h with hk
    have hs := sumL_bd hm
    have t1 := timeL_le' hm (a := a) (b := (a + b) / 2) h0 (by omega)
    have t2 := timeL_le' hm (a := (a + b) / 2) (b := b) (by omega) (by omega)
    have b1 := timeL_bd hm (k := a) h0
    have b2 := timeL_bd hm (k := b) (by omega)
    refine ⟨timeL l ((a + b) / 2) - timeL l a, timeL l b - timeL l ((a + b) / 2), ?_, ?_, by omega, by omega, by omega, by omega, by omega, h0, h1, by omega⟩
    · simp only [mLastsFrom, hm, Bool.true_and]; rw [if_pos (by simp; omega)]
    · simp only [mLastsFrom, hm, Bool.true_and]; rw [if_pos (by simp; omega)]
  · injection h with _ h0; cases h0

theorem sumL_app : ∀ (l m : List (Int × Int)), sumL (l ++ m) = sumL l + sumL m
  | [], m => by simp [sumL]
  | p :: l, m => by simp only [List.cons_append, sumL, sumL_app l m]; omega
theorem sumTo_take (l : List (Int × Int)) (k : Nat) (hk : k ≤ l.length) : sumL (l.take k) = sumTo l k := by
  have h1 := sumTo_drop l k hk
  have h2 := sumL_app (l.take k) (l.drop k)
  rw [List.take_append_drop] at h2
  omega
theorem sumL_repTo (a m : List (Int × Int)) : ∀ k : Nat, sumL (repTo a m k) = sumL a + (k : Int) * sumL m
  | 0 => by simp [repTo]
  | k + 1 => by simp only [repTo, sumL_app, sumL_repTo a m k]; rw [show ((k + 1 : Nat) : Int) = (k : Int) + 1 by omega, Int.add_mul]; omega
theorem mulB {a b M N : Int} (h0 : 0 ≤ a) (h1 : a ≤ M) (h2 : 0 ≤ b) (h3 : b ≤ N) (h4 : 0 ≤ M) : 0 ≤ a * b ∧ a * b ≤ M * N := ⟨Int.mul_nonneg h0 h2, Int.mul_le_mul h1 h3 h2 h4⟩
theorem repeat_law {l r : List (Int × Int)} {f t x : Int} (h : mRepeat l f t x = (r, true)) : ∃ (F T X : Nat) (s : Int), f = F ∧ t = T ∧ x = X ∧ F ≤ T ∧ T < l.length ∧ 1 ≤ X ∧ X ≤ 10 ∧ l.length ≤ 40 ∧ mCountsOf l = (s, true) ∧
    mCountsOf r = (s + ((X : Int) - 1) * (sumTo l (T + 1) - sumTo l F), true) ∧ (r.length : Int) = (l.length : Int) + ((X : Int) - 1) * ((T : Int) - F + 1) ∧ 0 ≤ s ∧ s ≤ 480 ∧
    0 ≤ ((X : Int) - 1) * (sumTo l (T + 1) - sumTo l F) ∧ ((X : Int) - 1) * (sumTo l (T + 1) - sumTo l F) ≤ 10000 ∧ 0 ≤ ((X : Int) - 1) * ((T : Int) - F + 1) ∧ ((X : Int) - 1) * ((T : Int) - F + 1) ≤ 10000 ∧
    (∀ k : Nat, k ≤ l.length → 0 ≤ sumTo l k ∧ sumTo l k ≤ 480) := by
  have hc : (rngB l f t && inB x 1 10) = true := by
    cases e : (rngB l f t && inB x 1 10)
    · rw [mRepeat_bad e] at h; simp at h
    · rfl
  have hc' := hc
  rw [Bool.and_eq_true, rngB_iff, inB_iff] at hc
  obtain ⟨⟨hm, h1, h2, h3⟩, x1, x2⟩ := hc
  obtain ⟨F, rfl⟩ : ∃ F : Nat, f = F := ⟨f.toNat, by omega⟩
  obtain ⟨T, rfl⟩ : ∃ T : Nat, t = T := ⟨t.toNat, by omega⟩
  obtain ⟨X, rfl⟩ : ∃ X : Nat, x = X := ⟨x.toNat, by omega⟩
  rw [mRepeat_ok hc'] at h
  have hr : musB (repL l F T X) = true ∧ r = repL l F T X := by
    split at h
    · rename_i hq; injection h with a _; exact ⟨hq, a.symm⟩
    · injection h with _ h0; cases h0
  obtain ⟨hmr, rfl⟩ := hr
  have hl := musB_len hm
  obtain ⟨p1, p2, p3⟩ := part_len (l := l) (n := l.length) (F := F) (T := T) rfl (by omega) (by omega)
  have bd : ∀ k : Nat, k ≤ l.length → 0 ≤ sumTo l k ∧ sumTo l k ≤ 480 := fun k hk => by have := sumTo_bd hm k hk; omega
  have hsl := sumL_bd hm
  have e1 := sumTo_take l F (by omega)
  have e2 := sumTo_take l (T + 1) (by omega)
  have e3 := sumTo_drop l (T + 1) (by omega)
  have e4 := sumTo_all l
  have epart : sumL ((l.drop F).take (T + 1 - F)) = sumTo l (T + 1) - sumTo l F := by
    have h5 := sumL_app (l.take F) ((l.drop F).take (T + 1 - F))
    have h6 : l.take F ++ (l.drop F).take (T + 1 - F) = l.take (T + 1) := by
      rw [← List.take_add, show F + (T + 1 - F) = T + 1 by omega]
    rw [h6] at h5
    omega
  have hlen : ((repL l F T X).length : Int) = (l.length : Int) + ((X : Int) - 1) * ((T : Int) - F + 1) := by
    have : (repL l F T X).length = F + X * (T + 1 - F) + (l.length - (T + 1)) := by simp only [repL, List.length_append, repTo_len, p1, p2, p3]
    rw [this]
    have e9 : ((F + X * (T + 1 - F) + (l.length - (T + 1)) : Nat) : Int) = (F : Int) + (X : Int) * ((T : Int) - F + 1) + ((l.length : Int) - ((T : Int) + 1)) := by
      rw [Int.natCast_add, Int.natCast_add, Int.natCast_mul, show ((T + 1 - F : Nat) : Int) = (T : Int) - F + 1 by omega, show ((l.length - (T + 1) : Nat) : Int) = (l.length : Int) - ((T : Int) + 1) by omega]
    rw [e9, Int.sub_mul]; omega
  have hsum : sumL (repL l F T X) = sumL l + ((X : Int) - 1) * (sumTo l (T + 1) - sumTo l F) := by
    simp only [repL, sumL_app, sumL_repTo, epart, e1]
    rw [Int.sub_mul]; omega
  have hp0 := bd F (by omega)
  have hp1 := bd (T + 1) (by omega)
  have hpart : 0 ≤ sumTo l (T + 1) - sumTo l F := by
    have h7 : ∀ d : Nat, F + d ≤ l.length → sumTo l F ≤ sumTo l (F + d) := by
      intro d
      induction d with
      | zero => intro _; exact Int.le_refl _
      | succ d ih =>
        intro hd
        have i1 := ih (by omega)
        have hk : l[F + d]? = some l[F + d] := List.getElem?_eq_getElem (by omega)
        have i2 := sumTo_step (l := l) (k := F + d) (x := l[F + d].1) (y := l[F + d].2) hk
        have i3 := (meB_iff _ _).1 (musB_get hm (k := F + d) (x := l[F + d].1) (y := l[F + d].2) hk)
        rw [show F + (d + 1) = F + d + 1 by omega]
        omega
    have := h7 (T + 1 - F) (by omega)
    rw [show F + (T + 1 - F) = T + 1 by omega] at this
    omega
  have m1 := mulB (a := (X : Int) - 1) (b := sumTo l (T + 1) - sumTo l F) (M := 9) (N := 480) (by omega) (by omega) hpart (by omega) (by omega)
  have m2 := mulB (a := (X : Int) - 1) (b := (T : Int) - F + 1) (M := 9) (N := 40) (by omega) (by omega) (by omega) (by omega) (by omega)
  refine ⟨F, T, X, sumL l, rfl, rfl, rfl, by omega, by omega, by omega, by omega, by omega, ?_, ?_, hlen, by omega, by omega, m1.1, by omega, m2.1, by omega, bd⟩
  · rw [mCountsOf, if_pos hm, e4]
  · rw [mCountsOf, if_pos hmr, sumTo_all, hsum]

theorem wtTo_get {l : List (Int × Int)} {F : Nat} {t : Int} {i : Nat} {x y : Int} (hi : l[i]? = some (x, y)) : ∀ j, F + j ≤ l.length → (wtTo l F t j)[i]? = some (x, if F ≤ i ∧ i < F + j then t else y)
  | 0, _ => by rw [if_neg (by omega)]; exact hi
  | j + 1, hj => by
    have ih := wtTo_get (F := F) hi (t := t) j (by omega)
    simp only [wtTo]
    rw [List.getElem?_set]
    by_cases e : F + j = i
    · rw [if_pos e, if_pos (show F + j < (wtTo l F t j).length by rw [wtTo_len]; omega), if_pos (show F ≤ i ∧ i < F + (j + 1) by omega), List.getD, e, ih]
      simp
    · rw [if_neg e, ih]
      by_cases e2 : F ≤ i ∧ i < F + j
      · rw [if_pos e2, if_pos (by omega)]
      · rw [if_neg e2, if_neg (by omega)]
theorem wtempo_law {l r : List (Int × Int)} {f t p : Int} (h : mWithTempo l f t p = (r, true)) : 0 ≤ f ∧ f ≤ t ∧ t < l.length ∧ l.length ≤ 40 ∧ 1 ≤ l.length ∧ r.length = l.length ∧ ∀ (i : Nat) (x y : Int), l[i]? = some (x, y) → r[i]? = some (x, if f ≤ i ∧ (i : Int) ≤ t then p else y) := by
  unfold mWithTempo at h
  split at h
  · rename_i hc
    rw [Bool.and_eq_true, rngB_iff] at hc
    obtain ⟨⟨hm, h1, h2, h3⟩, _⟩ := hc
    injection h with hr
    subst hr
    have hl := musB_len hm
    refine ⟨h1, h2, h3, by omega, by omega, wtTo_len _ _ _ _, fun i x y hi => ?_⟩
    rw [wtTo_get hi _ (by omega)]
    by_cases e : f ≤ i ∧ (i : Int) ≤ t
    · rw [if_pos e, if_pos (by omega)]
    · rw [if_neg e, if_neg (by omega)]
  · injection h with _ h0; cases h0

theorem tempoScan_spec {c t g : Int} : ∀ n : Nat, tempoScan c t n = (g, true) → 40 ≤ g ∧ g < 40 + n ∧ t ≤ 60000 * c / g ∧ ∀ m : Int, g < m → m < 40 + n → 60000 * c / m < t
  | 0, h => by injection h with _ h0; cases h0
  | n + 1, h => by
    simp only [tempoScan] at h
    split at h
    · rename_i e
      injection h with hg
      subst hg
      exact ⟨by omega, by omega, e, fun m h1 h2 => by omega⟩
    · rename_i e
      obtain ⟨a, b, c', d⟩ := tempoScan_spec n h
      refine ⟨a, by omega, c', fun m h1 h2 => ?_⟩
      by_cases e2 : m = (n : Int) + 40
      · subst e2; omega
      · exact d m h1 (by omega)
theorem timeOf_one {u g : Int} (h1 : 1 ≤ u) (h2 : u ≤ 12) (h3 : 40 ≤ g) (h4 : g ≤ 220) : mTimeOf [(u, g)] u = (60000 * u / g, true) := by
  have hm : musB [(u, g)] = true := by simp [musB, (meB_iff u g).2 ⟨h1, h2, h3, h4⟩, inB]
  simp only [mTimeOf, hm, Bool.true_and]
  rw [if_pos (by rw [inB_iff]; simp [sumL]; omega)]
  simp [timeL]
theorem tempo_law {u t g : Int} (h : mTempo u t = (g, true)) : 1 ≤ u ∧ u ≤ 12 ∧ 0 ≤ t ∧ t ≤ 20000 ∧ 40 ≤ g ∧ g ≤ 220 ∧ (∃ a, mTimeOf [(u, g)] u = (a, true) ∧ t ≤ a) ∧ (g < 220 → ∃ b, mTimeOf [(u, g + 1)] u = (b, true) ∧ b < t) := by
  unfold mTempo at h
  split at h
  · rename_i hc
    rw [Bool.and_eq_true, inB_iff, inB_iff] at hc
    obtain ⟨⟨h1, h2⟩, h3, h4⟩ := hc
    obtain ⟨a, b, c, d⟩ := tempoScan_spec _ h
    have b' : g < 221 := by omega
    refine ⟨h1, h2, h3, h4, a, by omega, ⟨_, timeOf_one h1 h2 a (by omega), c⟩, fun hg => ⟨_, timeOf_one h1 h2 (by omega) (by omega), d _ (by omega) (by omega)⟩⟩
  · injection h with _ h0; cases h0

end Go.Proofs.YtgpjnffomheemaaDoor
end

section
/- More on the cursor. -/
namespace Go.Proofs.YtgpjnffomheemaaDoor
open Go.RowKit
set_option linter.unusedVariables false
set_option linter.unusedSimpArgs false
set_option maxRecDepth 100000

theorem Grow.ofGrown {a w w' : World} {b : Nat} {row : Option Nat} (h : Grow a b w) (hg : w.grownBy w' row) (hr : ∀ r, row = some r → a.heap.size ≤ r) : Grow a b w' := by
  refine ⟨hg.os.trans h.os, hg.tape.trans h.tape, hg.output.trans h.output, Nat.le_trans (Grow.size h) hg.size, fun i hi hne => ?_⟩
  have hs := Grow.size h
  rw [← h.block i hi hne]
  exact hg.block i (by omega) (by intro e; have := hr i e.symm; omega)
theorem Cur.grown {w w' : World} {b K : Nat} {row : Option Nat} (h : Cur w b K) (hg : w.grownBy w' row) (hr : ∀ r, row = some r → b < r) : Cur w' b K :=
  h.same (fun i hi => hg.block i (by have := h.lt; omega) (by intro e; have := hr i e.symm; omega))
theorem Cur.start {W : World} {B n c : Nat} {A : Option Addr} {l : List Int} (t : TypeId) (hB : Bytes W B A n c l) (hf : BytesFit l) (hn : n ≤ 9223372036854775807) (hle : B ≤ W.heap.size) : Cur (W.alloc (.cells #[.slice A n c, .int .i64 0, .int .u64 0] t)) W.heap.size 0 :=
  ⟨A, n, c, l, 0, 0, Nat.le_refl _, hn, by simpa using Has.alloc3 (t := t) (a := .slice A n c) (b := .int .i64 0) (c := .int .u64 0) (Has.nil W),
    ⟨hB.1, hB.2.1, hB.2.2.1, fun h0 => by
      obtain ⟨g, off, rfl, hlt, hc⟩ := hB.2.2.2 h0
      exact ⟨g, off, rfl, by omega, fun i hi => (((Below.refl W.heap.size W).alloc (Nat.le_refl _) _).cell (p := ⟨g, _, none⟩) (show g < W.heap.size by omega)).trans (hc i hi)⟩⟩, hf⟩
theorem Cur.begin {w W : World} {n c : Nat} {A : Option Addr} {l : List Int} (t : TypeId) (hB : Bytes w w.heap.size A n c l) (hf : BytesFit l) (hn : n ≤ 9223372036854775807) (hW : Below w.heap.size w W) : Cur (W.alloc (.cells #[.slice A n c, .int .i64 0, .int .u64 0] t)) W.heap.size 0 :=
  Cur.start t (hB.same (fun i hi => hW.block i hi)) hf hn hW.size
theorem IntsAt.newAt {w : World} {cs : Array Value} {t : TypeId} {m g : Nat} (hg : g = w.heap.size) (h : allInts cs.toList = true) (hm : cs.size = m) : IntsAt (w.alloc (.cells cs t)) g m := by subst hg; exact IntsAt.new h hm
theorem Calls.cur {P : Program} {f : FuncId} {args : Array Value} {w : World} {b K : Nat} {R : Ending → Prop} (h : Calls P f args w fun e w' => R e ∧ Below w.heap.size w w') (hC : Cur w b K) : Calls P f args w fun e w' => R e ∧ Grow w b w' ∧ Cur w' b K :=
  h.mono fun _ _ ⟨h1, h2⟩ => ⟨h1, Grow.ofBelow h2, hC.below h2 hC.lt⟩
theorem Calls.curE {P : Program} {f : FuncId} {args : Array Value} {w : World} {b K : Nat} {R : Ending → Prop} (h : Calls P f args w fun e w' => R e ∧ w = w') (hC : Cur w b K) : Calls P f args w fun e w' => R e ∧ Grow w b w' ∧ Cur w' b K :=
  h.mono fun _ _ ⟨h1, h2⟩ => h2 ▸ ⟨h1, Grow.refl _ _, hC⟩

end Go.Proofs.YtgpjnffomheemaaDoor
end
