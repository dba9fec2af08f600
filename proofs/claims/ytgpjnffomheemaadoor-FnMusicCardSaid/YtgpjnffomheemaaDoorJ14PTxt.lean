import Derived.Test.YtgpjnffomheemaaDoorJ12Txt5
import Derived.Test.YtgpjnffomheemaaDoorJ13Txt3
import Derived.Lib.ItoaNum
/- Texts, plain: numbers that are written and read again; the two readers of a spot are one. -/
namespace Go.Proofs.YtgpjnffomheemaaDoor
open Go.RowKit
set_option linter.unusedVariables false
set_option linter.unusedSimpArgs false

def dgt (n : Nat) : UInt8 := UInt8.ofNat (48 + n)
theorem dgt_nat {n : Nat} (h : n < 10) : (dgt n).toNat = 48 + n := by
  rw [dgt, UInt8.toNat_ofNat', Nat.mod_eq_of_lt (by omega)]
theorem dgt_dig {n : Nat} (h : n < 10) : digB (dgt n) = true := by rw [digB_iff, dgt_nat h]; omega
theorem dgt_back {b : UInt8} (h : digB b = true) : dgt (b.toNat - 48) = b := by
  obtain ⟨h1, h2⟩ := (digB_iff b).1 h
  exact UInt8.toNat.inj (by rw [dgt_nat (by omega)]; omega)
def numL (n : Nat) : List UInt8 := if n < 10 then [dgt n] else numL (n / 10) ++ [dgt (n % 10)]
termination_by n
theorem numL_small {n : Nat} (h : n < 10) : numL n = [dgt n] := by rw [numL, if_pos h]
theorem numL_big {n : Nat} (h : ¬ n < 10) : numL n = numL (n / 10) ++ [dgt (n % 10)] := by rw [numL, if_neg h]
theorem numL_ind {P : Nat → Prop} (h0 : ∀ n, n < 10 → P n) (h1 : ∀ n, ¬ n < 10 → P (n / 10) → P n) (n : Nat) : P n := by
  induction n using Nat.strongRecOn with
  | _ n ih =>
    by_cases h : n < 10
    · exact h0 n h
    · exact h1 n h (ih _ (by omega))
theorem numL_dec (n : Nat) : numL n = Lib.decDigits n := by
  induction n using numL_ind with
  | h0 n h => rw [numL_small h, Lib.decDigits, dif_pos h]; rfl
  | h1 n h ih => rw [numL_big h, Lib.decDigits, dif_neg h, ih]; rfl
theorem numL_itoa (n : Nat) : Lib.itoa (n : Int) = numL n := by
  rw [Lib.itoa, if_neg (by omega), numL_dec]; rfl
theorem numL_all (n : Nat) : (numL n).all digB = true := by
  induction n using numL_ind with
  | h0 n h => rw [numL_small h]; simp [dgt_dig h]
  | h1 n h ih => rw [numL_big h, List.all_append, ih]; simp [dgt_dig (show n % 10 < 10 by omega)]
theorem valL_snoc (l : List UInt8) (b : UInt8) : valL (l ++ [b]) = 10 * valL l + (b.toNat - 48) := by
  rw [valL, List.foldl_append]; rfl
theorem numL_val (n : Nat) : valL (numL n) = n := by
  induction n using numL_ind with
  | h0 n h => rw [numL_small h]; simp [valL, dgt_nat h]
  | h1 n h ih => rw [numL_big h, valL_snoc, ih, dgt_nat (by omega)]; omega
theorem numL_pos (n : Nat) : 1 ≤ (numL n).length := by
  induction n using numL_ind with
  | h0 n h => rw [numL_small h]; simp
  | h1 n h ih => rw [numL_big h]; simp
theorem numL_head (n : Nat) : 1 ≤ n → (numL n).head? ≠ some 48 := by
  induction n using numL_ind with
  | h0 n h =>
    intro h1
    rw [numL_small h]
    intro e
    have e : dgt n = 48 := by simpa using e
    have := dgt_nat h
    rw [e] at this
    have : (48 : UInt8).toNat = 48 := rfl
    omega
  | h1 n h ih =>
    intro _
    rw [numL_big h, List.head?_append]
    have := ih (by omega)
    have hp := numL_pos (n / 10)
    cases hq : (numL (n / 10)).head? with
    | none => rw [List.head?_eq_none_iff] at hq; rw [hq] at hp; simp at hp
    | some b => rw [hq] at this; simpa using this
theorem numL_can (n : Nat) : canB (numL n) = true := by
  have h1 := numL_pos n
  rw [canB, numL_all]
  by_cases h : n < 10
  · rw [numL_small h]; simp
  · have := numL_head n (by omega)
    simp [this]; omega
theorem foldl_ge : ∀ (t : List UInt8) (n : Nat), 1 ≤ n → 1 ≤ t.foldl (fun n b => 10 * n + (b.toNat - 48)) n
  | [], n, h => h
  | b :: t, n, h => by rw [List.foldl_cons]; exact foldl_ge t _ (by omega)
theorem valL_ge {l : List UInt8} (h : l.all digB = true) (h0 : 1 ≤ l.length) (hh : l.head? ≠ some 48) : 1 ≤ valL l := by
  cases l with
  | nil => simp at h0
  | cons b t =>
    rw [valL, List.foldl_cons]
    apply foldl_ge
    rw [List.all_cons, Bool.and_eq_true] at h
    obtain ⟨h1, h2⟩ := (digB_iff b).1 h.1
    have : b.toNat ≠ 48 := fun e => hh (by rw [List.head?_cons, show b = 48 from UInt8.toNat.inj e])
    omega
theorem snoc_cases (l : List UInt8) (h : 1 ≤ l.length) : ∃ t b, l = t ++ [b] := by
  refine ⟨l.dropLast, l.getLast (by intro e; rw [e] at h; simp at h), ?_⟩
  rw [List.dropLast_concat_getLast]
theorem numL_back : ∀ (k : Nat) (l : List UInt8), l.length ≤ k → l.all digB = true → 1 ≤ l.length → (1 < l.length → l.head? ≠ some 48) → numL (valL l) = l
  | 0, l, hk, _, h1, _ => by omega
  | k + 1, l, hk, ha, h1, hh => by
    obtain ⟨t, b, rfl⟩ := snoc_cases l h1
    rw [List.all_append, Bool.and_eq_true] at ha
    obtain ⟨ha1, ha2⟩ := ha
    have hb : digB b = true := by simpa using ha2
    obtain ⟨b1, b2⟩ := (digB_iff b).1 hb
    rw [valL_snoc]
    rcases Nat.eq_zero_or_pos t.length with ht | ht
    · have : t = [] := List.length_eq_zero_iff.1 ht
      subst this
      rw [show 10 * valL [] + (b.toNat - 48) = b.toNat - 48 by simp [valL], numL_small (by omega), dgt_back hb]; rfl
    · have hlen : (t ++ [b]).length = t.length + 1 := by simp
      have hd : t.head? ≠ some 48 := by
        have := hh (by omega)
        cases t with
        | nil => simp at ht
        | cons c t => simpa using this
      have hv := valL_ge ha1 ht hd
      have ih := numL_back k t (by omega) ha1 ht (fun _ => hd)
      rw [numL_big (by omega), show (10 * valL t + (b.toNat - 48)) / 10 = valL t by omega, ih, show (10 * valL t + (b.toNat - 48)) % 10 = b.toNat - 48 by omega, dgt_back hb]
theorem canB_iff (l : List UInt8) : canB l = true ↔ l.all digB = true ∧ 1 ≤ l.length ∧ (1 < l.length → l.head? ≠ some 48) := by
  simp only [canB, Bool.and_eq_true, Bool.not_eq_true', Bool.and_eq_false_iff, decide_eq_true_eq, decide_eq_false_iff_not, beq_eq_false_iff_ne]
  constructor
  · rintro ⟨⟨h1, h2⟩, h3⟩
    exact ⟨h3, h1, fun h => by rcases h2 with h2 | h2; exact absurd h h2; exact h2⟩
  · rintro ⟨h1, h2, h3⟩
    refine ⟨⟨h2, ?_⟩, h1⟩
    by_cases h : 1 < l.length
    · exact .inr (h3 h)
    · exact .inl h
theorem numL_of_can {l : List UInt8} (h : canB l = true) : numL (valL l) = l := by
  obtain ⟨h1, h2, h3⟩ := (canB_iff l).1 h
  exact numL_back l.length l (Nat.le_refl _) h1 h2 h3
theorem numL_len (k : Nat) : ∀ n, n < 10 ^ k → 1 ≤ k → (numL n).length ≤ k := by
  induction k with
  | zero => intro n _ h; omega
  | succ k ih =>
    intro n hn _
    by_cases h : n < 10
    · rw [numL_small h]; simp
    · rw [numL_big h, List.length_append]
      rw [Nat.pow_succ] at hn
      have hk : 1 ≤ k := by
        rcases Nat.eq_zero_or_pos k with e | e
        · subst e; simp at hn; omega
        · exact e
      have := ih (n / 10) (by omega) hk
      simp; omega
/-- what both readers say of a numeral's text -/
theorem mNat_num {n : Nat} (h : n < 1000000000) : mNat (numL n) = ((n : Int), true) := by
  have := numL_len 9 n (by simpa using h) (by omega)
  rw [mNat, numL_can, numL_val]; simp [this]
theorem mRead_num {n : Nat} (h : n < 1000000) : mRead (numL n) = (n : Int) := by
  have := numL_len 6 n (by simpa using h) (by omega)
  rw [mRead, numL_can, numL_val]; simp [this]
theorem mNat_inv {l : List UInt8} {n : Int} (h : mNat l = (n, true)) : ∃ k : Nat, n = k ∧ l = numL k := by
  unfold mNat at h
  split at h
  · rename_i hc
    rw [Bool.and_eq_true] at hc
    injection h with h1
    exact ⟨valL l, h1.symm, (numL_of_can hc.1).symm⟩
  · injection h with _ h0; cases h0
theorem mRead_inv {l : List UInt8} {n : Int} (h : mRead l = n) (h0 : 0 ≤ n) : ∃ k : Nat, n = k ∧ l = numL k := by
  unfold mRead at h
  split at h
  · rename_i hc
    rw [Bool.and_eq_true] at hc
    exact ⟨valL l, h.symm, (numL_of_can hc.1).symm⟩
  · omega
theorem num_no (n : Nat) (c : UInt8) (h : digB c = false) : c ∉ numL n := fun hm => by
  have := List.all_eq_true.1 (numL_all n) c hm
  rw [h] at this; cases this

/-! ### cutting -/
theorem index_not : ∀ {l : List UInt8} {c : UInt8}, c ∉ l → Lib.indexByte l c = -1
  | [], _, _ => rfl
  | b :: l, c, h => by
    have h1 : ¬ (b == c) = true := fun e => h (by rw [beq_iff_eq.1 e]; exact List.mem_cons_self)
    have h2 := index_not (l := l) (c := c) (fun e => h (List.mem_cons_of_mem _ e))
    rw [Lib.indexByte, if_neg h1, h2]; rfl
theorem index_at : ∀ {a r : List UInt8} {c : UInt8}, c ∉ a → Lib.indexByte (a ++ c :: r) c = (a.length : Int)
  | [], r, c, _ => by simp [Lib.indexByte]
  | b :: a, r, c, h => by
    have h1 : ¬ (b == c) = true := fun e => h (by rw [beq_iff_eq.1 e]; exact List.mem_cons_self)
    have h2 := index_at (a := a) (r := r) (c := c) (fun e => h (List.mem_cons_of_mem _ e))
    rw [List.cons_append, Lib.indexByte, if_neg h1, h2, if_neg (by simp)]
    simp
theorem cutL_no {l : List UInt8} {c : UInt8} (h : c ∉ l) : cutL l c = (l, [], false) := by
  rw [cutL, index_not h]; rfl
theorem cutL_mid {a r : List UInt8} {c : UInt8} (h : c ∉ a) : cutL (a ++ c :: r) c = (a, r, true) := by
  rw [cutL, index_at h, if_neg (by omega), Int.toNat_natCast]
  have h2 : a ++ c :: r = (a ++ [c]) ++ r := by simp
  rw [List.take_left' rfl, h2, List.drop_left' (by simp)]
theorem cut_exists {l : List UInt8} {c : UInt8} (h : c ∈ l) : ∃ a r, c ∉ a ∧ l = a ++ c :: r := by
  induction l with
  | nil => cases h
  | cons b l ih =>
    by_cases e : b = c
    · exact ⟨[], l, by simp, by rw [e]; rfl⟩
    · obtain ⟨a, r, h1, h2⟩ := ih (by rcases List.mem_cons.1 h with h | h; exact absurd h.symm e; exact h)
      exact ⟨b :: a, r, fun hm => by rcases List.mem_cons.1 hm with h | h; exact e h.symm; exact h1 h, by rw [h2]; rfl⟩
theorem cutL_true {l : List UInt8} {c : UInt8} {a r : List UInt8} (h : cutL l c = (a, r, true)) : c ∉ a ∧ l = a ++ c :: r := by
  by_cases hm : c ∈ l
  · obtain ⟨a', r', h1, rfl⟩ := cut_exists hm
    rw [cutL_mid h1] at h
    injection h with e1 e2; injection e2 with e2 _; subst e1 e2
    exact ⟨h1, rfl⟩
  · rw [cutL_no hm] at h; injection h with _ h; injection h with _ h; cases h
theorem cutL_false {l : List UInt8} {c : UInt8} {a r : List UInt8} (h : cutL l c = (a, r, false)) : c ∉ l ∧ a = l ∧ r = [] := by
  by_cases hm : c ∈ l
  · obtain ⟨a', r', h1, rfl⟩ := cut_exists hm
    rw [cutL_mid h1] at h
    injection h with _ h; injection h with _ h; cases h
  · rw [cutL_no hm] at h; injection h with e1 e2; injection e2 with e2 _; exact ⟨hm, e1.symm, e2.symm⟩
theorem spl_no : ∀ {l : List UInt8} {c : UInt8}, c ∉ l → spl l c = [l]
  | [], _, _ => rfl
  | b :: l, c, h => by
    have h1 : ¬ (b == c) = true := fun e => h (by rw [beq_iff_eq.1 e]; exact List.mem_cons_self)
    have h2 := spl_no (l := l) (c := c) (fun e => h (List.mem_cons_of_mem _ e))
    rw [spl, if_neg h1, h2]; rfl
theorem spl_mid : ∀ {a r : List UInt8} {c : UInt8}, c ∉ a → spl (a ++ c :: r) c = a :: spl r c
  | [], r, c, _ => by simp [spl]
  | b :: a, r, c, h => by
    have h1 : ¬ (b == c) = true := fun e => h (by rw [beq_iff_eq.1 e]; exact List.mem_cons_self)
    have h2 := spl_mid (a := a) (r := r) (c := c) (fun e => h (List.mem_cons_of_mem _ e))
    rw [List.cons_append, spl, if_neg h1, h2]; rfl
theorem spl_one {l : List UInt8} {c : UInt8} {a : List UInt8} (h : spl l c = [a]) : c ∉ l ∧ l = a := by
  by_cases hm : c ∈ l
  · obtain ⟨a', r', h1, rfl⟩ := cut_exists hm
    rw [spl_mid h1] at h
    have := spl_len r' c
    injection h with _ h; rw [h] at this; simp at this
  · rw [spl_no hm] at h; injection h with h _; exact ⟨hm, h⟩
theorem spl_two {l : List UInt8} {c : UInt8} {a b : List UInt8} {q : List (List UInt8)} (h : spl l c = a :: b :: q) : c ∉ a ∧ ∃ r, l = a ++ c :: r ∧ spl r c = b :: q := by
  by_cases hm : c ∈ l
  · obtain ⟨a', r', h1, rfl⟩ := cut_exists hm
    rw [spl_mid h1] at h
    injection h with e1 e2; subst e1
    exact ⟨h1, r', rfl, e2⟩
  · rw [spl_no hm] at h; injection h with _ h; cases h

/-! ### the text of eighths, the text of a spot -/
def partL (n : Nat) : List UInt8 := if n % 8 = 0 then numL (n / 8) else numL (n / 8) ++ 43 :: numL (n % 8)
def textL (x y : Nat) : List UInt8 := partL x ++ 44 :: partL y
theorem part_no (n : Nat) (c : UInt8) (h : digB c = false) (h2 : c ≠ 43) : c ∉ partL n := by
  unfold partL
  split
  · exact num_no _ _ h
  · intro hm
    rcases List.mem_append.1 hm with hm | hm
    · exact num_no _ _ h hm
    · rcases List.mem_cons.1 hm with hm | hm
      · exact h2 hm
      · exact num_no _ _ h hm
theorem mSteps_part {n : Nat} (h : n < 8000000000) : mSteps (partL n) = ((n : Int), true) := by
  unfold partL
  split
  · rename_i h0
    rw [mSteps, cutL_no (num_no _ _ rfl), mNat_num (by omega)]
    simp; omega
  · rename_i h0
    rw [mSteps, cutL_mid (num_no _ _ rfl), mNat_num (by omega), mNat_num (by omega)]
    have : inB ((n % 8 : Nat) : Int) 1 7 = true := by rw [inB_iff]; omega
    simp only [this]
    simp; omega
theorem mSteps_inv {l : List UInt8} {x : Int} (h : mSteps l = (x, true)) : ∃ n : Nat, x = n ∧ l = partL n := by
  unfold mSteps at h
  obtain ⟨⟨a, r, f⟩, hc⟩ : ∃ p, cutL l 43 = p := ⟨_, rfl⟩
  obtain ⟨⟨n, ok⟩, hn⟩ : ∃ p, mNat a = p := ⟨_, rfl⟩
  obtain ⟨⟨k, ok2⟩, hk⟩ : ∃ p, mNat r = p := ⟨_, rfl⟩
  simp only [hc, hn, hk] at h
  cases ok
  · simp at h
  obtain ⟨n', rfl, rfl⟩ := mNat_inv hn
  cases f
  · obtain ⟨h1, h2, _⟩ := cutL_false hc
    simp at h
    refine ⟨8 * n', by omega, ?_⟩
    rw [partL, if_pos (by omega), ← h2, show 8 * n' / 8 = n' by omega]
  · obtain ⟨h1, h2⟩ := cutL_true hc
    cases ok2
    · simp at h
    obtain ⟨k', rfl, rfl⟩ := mNat_inv hk
    cases h7 : inB (k' : Int) 1 7
    · simp [h7] at h
    · rw [inB_iff] at h7
      simp [show inB (k' : Int) 1 7 = true by rw [inB_iff]; exact h7] at h
      refine ⟨8 * n' + k', by omega, ?_⟩
      rw [partL, if_neg (by omega), h2, show (8 * n' + k') / 8 = n' by omega, show (8 * n' + k') % 8 = k' by omega]
theorem mStRead_part {n : Nat} (h : n < 8000000) : mStRead (partL n) = (n : Int) := by
  unfold partL
  split
  · rename_i h0
    rw [mStRead, spl_no (num_no _ _ rfl), stReadQ, mRead_num (by omega), if_neg (by omega)]; omega
  · rename_i h0
    have : inB ((n % 8 : Nat) : Int) 1 7 = true := by rw [inB_iff]; omega
    rw [mStRead, spl_mid (num_no _ _ rfl), spl_no (num_no _ _ rfl), stReadQ, mRead_num (by omega), mRead_num (by omega), if_neg (by omega), if_pos this]; omega
/-- the reference's reader: a good spot whose text it is -/
def stParseQ (l : List UInt8) : List (List UInt8) → (Int × Int) × Bool
  | [a, b] => if 0 ≤ mStRead a ∧ 0 ≤ mStRead b ∧ goodB (mStRead a) (mStRead b) = true ∧ textL (mStRead a).toNat (mStRead b).toNat = l then ((mStRead a, mStRead b), true) else ((0, 0), false)
  | _ => ((0, 0), false)
def mStParse (l : List UInt8) : (Int × Int) × Bool := stParseQ l (spl l 44)
theorem text_spl (x y : Nat) : spl (textL x y) 44 = [partL x, partL y] := by
  rw [textL, spl_mid (part_no _ _ rfl (by decide)), spl_no (part_no _ _ rfl (by decide))]
theorem mParse_text {x y : Nat} (h : goodB (x : Int) (y : Int) = true) : mParse (textL x y) = (((x : Int), (y : Int)), true) := by
  have hg := h
  rw [goodB_iff] at hg
  rw [mParse, textL, cutL_mid (part_no _ _ rfl (by decide)), mSteps_part (by omega), mSteps_part (by omega)]
  simp [h]
theorem mStParse_text {x y : Nat} (h : goodB (x : Int) (y : Int) = true) : mStParse (textL x y) = (((x : Int), (y : Int)), true) := by
  have hg := h
  rw [goodB_iff] at hg
  rw [mStParse, text_spl, stParseQ, mStRead_part (by omega), mStRead_part (by omega), if_pos ⟨by omega, by omega, h, rfl⟩]
theorem mParse_cases (l : List UInt8) : (∃ x y : Nat, goodB (x : Int) (y : Int) = true ∧ l = textL x y) ∨ mParse l = ((0, 0), false) := by
  unfold mParse
  obtain ⟨⟨a, r, f⟩, hc⟩ : ∃ p, cutL l 44 = p := ⟨_, rfl⟩
  obtain ⟨⟨x, ok⟩, hn⟩ : ∃ p, mSteps a = p := ⟨_, rfl⟩
  obtain ⟨⟨y, ok2⟩, hk⟩ : ∃ p, mSteps r = p := ⟨_, rfl⟩
  simp only [hc, hn, hk]
  cases f
  · exact .inr rfl
  cases ok
  · exact .inr rfl
  cases ok2
  · exact .inr rfl
  cases hg : goodB x y
  · exact .inr rfl
  · obtain ⟨x', rfl, rfl⟩ := mSteps_inv hn
    obtain ⟨y', rfl, rfl⟩ := mSteps_inv hk
    exact .inl ⟨x', y', hg, (cutL_true hc).2⟩
theorem mStParse_cases (l : List UInt8) : (∃ x y : Nat, goodB (x : Int) (y : Int) = true ∧ l = textL x y) ∨ mStParse l = ((0, 0), false) := by
  unfold mStParse stParseQ
  split
  · split
    · rename_i h
      exact .inl ⟨_, _, by rw [Int.toNat_of_nonneg h.1, Int.toNat_of_nonneg h.2.1]; exact h.2.2.1, h.2.2.2.symm⟩
    · exact .inr rfl
  · exact .inr rfl
/-- THE TWO READERS OF A SPOT ARE ONE. -/
theorem parse_same (l : List UInt8) : mStParse l = mParse l := by
  rcases mParse_cases l with ⟨x, y, hg, rfl⟩ | h
  · rw [mParse_text hg, mStParse_text hg]
  · rcases mStParse_cases l with ⟨x, y, hg, rfl⟩ | h2
    · rw [mParse_text hg, mStParse_text hg]
    · rw [h, h2]

end Go.Proofs.YtgpjnffomheemaaDoor

