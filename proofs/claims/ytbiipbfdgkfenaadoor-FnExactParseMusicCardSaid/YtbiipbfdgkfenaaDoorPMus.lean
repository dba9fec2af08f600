/- Texts, plain: music that is written, and the two readers of music are one. -/
import Derived.Test.YtbiipbfdgkfenaaDoorPMvTxt
import Derived.Test.YtbiipbfdgkfenaaDoorMusic
import Derived.Lib.Join
namespace Go.Proofs.YtbiipbfdgkfenaaDoor
open Go.RowKit
set_option linter.unusedVariables false
set_option linter.unusedSimpArgs false

def wordL (p : Int × Int) : List UInt8 := numL p.1.toNat ++ 64 :: numL p.2.toNat
def musL (l : List (Int × Int)) : List UInt8 := Lib.join (l.map wordL) [32]
theorem join_snoc (xs : List (List UInt8)) (y sep : List UInt8) (h : xs ≠ []) : Lib.join (xs ++ [y]) sep = Lib.join xs sep ++ (sep ++ y) := by
  cases xs with
  | nil => exact absurd rfl h
  | cons x r =>
    rw [List.cons_append, Lib.join_cons, Lib.join_cons]
    simp [Lib.joinTail]
/-- the text of the first k measures -/
def musTo_ (l : List (Int × Int)) (k : Nat) : List UInt8 := musL (l.take k)
theorem musTo_zero_ (l : List (Int × Int)) : musTo_ l 0 = [] := rfl
theorem musTo_one_ {l : List (Int × Int)} {p : Int × Int} (h : l[0]? = some p) : musTo_ l 1 = wordL p := by
  cases l with
  | nil => simp at h
  | cons a l =>
    simp at h
    subst h
    simp [musTo_, musL, Lib.join_one]
theorem musTo_step_ {l : List (Int × Int)} {k : Nat} {p : Int × Int} (h : l[k]? = some p) (h0 : 0 < k) : musTo_ l (k + 1) = musTo_ l k ++ 32 :: wordL p := by
  have hk := (List.getElem?_eq_some_iff.1 h).1
  rw [musTo_, musL, List.take_add_one, h]
  simp only [Option.toList_some, List.map_append, List.map_cons, List.map_nil]
  rw [join_snoc _ _ _ (by intro e; have := congrArg List.length e; rw [List.length_map, List.length_take, List.length_nil] at this; omega)]
  simp [musTo_, musL]
theorem musTo_all_ (l : List (Int × Int)) : musTo_ l l.length = musL l := by rw [musTo_, List.take_length]
theorem wordL_le {x y : Int} (h : meB x y = true) : (wordL (x, y)).length ≤ 15 := by
  rw [meB_iff] at h
  have h1 := numL_le7 (show x.toNat ≤ 1000000 by omega)
  have h2 := numL_le7 (show y.toNat ≤ 1000000 by omega)
  rw [wordL]; simp; omega
theorem musTo_le_ {l : List (Int × Int)} (h : musB l = true) : ∀ k, k ≤ l.length → (musTo_ l k).length ≤ 16 * k
  | 0, _ => by simp [musTo_zero_]
  | k + 1, hk => by
    obtain ⟨⟨x, y⟩, hp⟩ : ∃ p, l[k]? = some p := ⟨l[k], List.getElem?_eq_getElem (by omega)⟩
    have hw := wordL_le (musB_get h hp)
    have ih := musTo_le_ h k (by omega)
    rcases Nat.eq_zero_or_pos k with h0 | h0
    · subst h0
      rw [musTo_one_ hp]; omega
    · rw [musTo_step_ hp h0]; simp; omega
theorem musL_le {l : List (Int × Int)} (h : musB l = true) : (musL l).length ≤ 640 := by
  have h1 := musTo_le_ h l.length (Nat.le_refl _)
  have h2 := musB_len h
  rw [musTo_all_] at h1
  omega

/-! ### cutting and joining -/
theorem join_spl (c : UInt8) : ∀ (k : Nat) (l : List UInt8), l.length ≤ k → Lib.join (spl l c) [c] = l
  | 0, l, h => by
    have : l = [] := List.length_eq_zero_iff.1 (by omega)
    subst this
    simp [spl, Lib.join_one]
  | k + 1, l, h => by
    by_cases hm : c ∈ l
    · obtain ⟨a, r, h1, rfl⟩ := cut_exists hm
      have ih := join_spl c k r (by simp at h; omega)
      rw [spl_mid h1]
      have hl := spl_len r c
      cases hq : spl r c with
      | nil => rw [hq] at hl; simp at hl
      | cons x q =>
        rw [hq] at ih
        rw [Lib.join_cons] at ih ⊢
        simp only [Lib.joinTail, List.map_cons, List.flatten_cons] at ih ⊢
        rw [← ih]; simp
    · rw [spl_no hm, Lib.join_one]
theorem spl_join (c : UInt8) : ∀ (q : List (List UInt8)), q ≠ [] → (∀ x ∈ q, c ∉ x) → spl (Lib.join q [c]) c = q
  | [], h, _ => absurd rfl h
  | [x], _, h => by rw [Lib.join_one, spl_no (h x (by simp))]
  | x :: y :: q, _, h => by
    have ih := spl_join c (y :: q) (by simp) (fun z hz => h z (List.mem_cons_of_mem _ hz))
    have e : Lib.join (x :: y :: q) [c] = x ++ c :: Lib.join (y :: q) [c] := by
      rw [Lib.join_cons, Lib.join_cons]; simp [Lib.joinTail]
    rw [e, spl_mid (h x (by simp)), ih]
theorem word_no (p : Int × Int) (c : UInt8) (h : digB c = false) (h2 : c ≠ 64) : c ∉ wordL p := by
  rw [wordL]
  intro hm
  rcases List.mem_append.1 hm with hm | hm
  · exact num_no _ _ h hm
  · rcases List.mem_cons.1 hm with hm | hm
    · exact h2 hm
    · exact num_no _ _ h hm
theorem mus_spl {l : List (Int × Int)} (h : l ≠ []) : spl (musL l) 32 = l.map wordL :=
  spl_join 32 _ (by intro e; exact h (List.map_eq_nil_iff.1 e)) (fun x hx => by
    obtain ⟨p, _, rfl⟩ := List.mem_map.1 hx
    exact word_no p 32 rfl (by decide))

/-- a word of the program's reader: is it one, its measure -/
def okW (p : List UInt8) : Bool := (cutL p 64).2.2 && ((mNat (cutL p 64).1).2 && (mNat (cutL p 64).2.1).2)
def valW (p : List UInt8) : Int × Int := ((mNat (cutL p 64).1).1, (mNat (cutL p 64).2.1).1)
def iPMus (l : List UInt8) : List (Int × Int) × Bool := if (spl l 32).all okW && musB ((spl l 32).map valW) then ((spl l 32).map valW, true) else ([], false)
/-- a word of the reference's reader -/
def okS (p : List UInt8) : Bool := (spl p 64).length == 2
def valS (p : List UInt8) : Int × Int := (mRead ((spl p 64).headD []), mRead ((spl p 64).tail.headD []))
def sPMus (l : List UInt8) : List (Int × Int) × Bool := if decide ((spl l 32).length ≤ 40) && ((spl l 32).all okS && (musB ((spl l 32).map valS) && (musL ((spl l 32).map valS) == l))) then ((spl l 32).map valS, true) else ([], false)
theorem okW_word (a b : Nat) (ha : a < 1000000) (hb : b < 1000000) : okW (wordL (a, b)) = true ∧ valW (wordL (a, b)) = ((a : Int), (b : Int)) := by
  have hc : cutL (wordL (a, b)) 64 = (numL a, numL b, true) := by rw [wordL]; exact cutL_mid (num_no _ _ rfl)
  rw [okW, valW, hc, mNat_num (by omega), mNat_num (by omega)]
  exact ⟨rfl, rfl⟩
theorem okS_word (a b : Nat) (ha : a < 1000000) (hb : b < 1000000) : okS (wordL (a, b)) = true ∧ valS (wordL (a, b)) = ((a : Int), (b : Int)) := by
  have hc : spl (wordL (a, b)) 64 = [numL a, numL b] := by rw [wordL]; exact (spl_mid (num_no _ _ rfl)).trans (by rw [spl_no (num_no _ _ rfl)]; rfl)
  rw [okS, valS, hc]
  refine ⟨rfl, ?_⟩
  simp only [List.headD_cons, List.tail_cons]
  rw [mRead_num ha, mRead_num hb]
theorem okW_inv {p : List UInt8} (h : okW p = true) : ∃ a b : Nat, p = wordL (a, b) ∧ valW p = ((a : Int), (b : Int)) := by
  obtain ⟨⟨a, r, f⟩, hc⟩ : ∃ q, cutL p 64 = q := ⟨_, rfl⟩
  unfold okW at h
  unfold valW
  rw [hc] at h ⊢
  simp only [Bool.and_eq_true] at h
  obtain ⟨rfl, h1, h2⟩ := h
  obtain ⟨x, hx, rfl⟩ := mNat_inv (n := (mNat a).1) (by rw [← h1])
  obtain ⟨y, hy, rfl⟩ := mNat_inv (n := (mNat r).1) (by rw [← h2])
  refine ⟨x, y, ?_, by simp only; rw [hx, hy]⟩
  rw [(cutL_true hc).2, wordL]; rfl
theorem mus_words {l : List (Int × Int)} (h : musB l = true) : ∀ p ∈ l, ∃ a b : Nat, p = ((a : Int), (b : Int)) ∧ a < 1000000 ∧ b < 1000000 := by
  rintro ⟨x, y⟩ hp
  obtain ⟨k, hk⟩ := List.getElem?_of_mem hp
  have := musB_get h hk
  rw [meB_iff] at this
  exact ⟨x.toNat, y.toNat, by rw [Int.toNat_of_nonneg (by omega), Int.toNat_of_nonneg (by omega)], by omega, by omega⟩
theorem map_back {f : List UInt8 → Int × Int} {l : List (Int × Int)} (h : ∀ p ∈ l, f (wordL p) = p) : (l.map wordL).map f = l := by
  rw [List.map_map]
  have : ∀ p ∈ l, (f ∘ wordL) p = id p := h
  rw [List.map_congr_left this, List.map_id]
theorem iPMus_text {l : List (Int × Int)} (h : musB l = true) : iPMus (musL l) = (l, true) := by
  have hn : l ≠ [] := by intro e; have := musB_len h; rw [e] at this; simp at this
  have hw := mus_words h
  have h1 : (l.map wordL).map valW = l := map_back fun p hp => by
    obtain ⟨a, b, rfl, ha, hb⟩ := hw p hp
    exact (okW_word a b ha hb).2
  have h2 : (l.map wordL).all okW = true := by
    rw [List.all_eq_true]
    intro x hx
    obtain ⟨p, hp, rfl⟩ := List.mem_map.1 hx
    obtain ⟨a, b, rfl, ha, hb⟩ := hw p hp
    exact (okW_word a b ha hb).1
  rw [iPMus, mus_spl hn, h1, h2, h]; rfl
theorem sPMus_text {l : List (Int × Int)} (h : musB l = true) : sPMus (musL l) = (l, true) := by
  have hlen := musB_len h
  have hn : l ≠ [] := by intro e; rw [e] at hlen; simp at hlen
  have hw := mus_words h
  have h1 : (l.map wordL).map valS = l := map_back fun p hp => by
    obtain ⟨a, b, rfl, ha, hb⟩ := hw p hp
    exact (okS_word a b ha hb).2
  have h2 : (l.map wordL).all okS = true := by
    rw [List.all_eq_true]
    intro x hx
    obtain ⟨p, hp, rfl⟩ := List.mem_map.1 hx
    obtain ⟨a, b, rfl, ha, hb⟩ := hw p hp
    exact (okS_word a b ha hb).1
  rw [sPMus, mus_spl hn, h1, h2, h]
  simp [hlen.2]
theorem iPMus_cases (l : List UInt8) : (∃ m, musB m = true ∧ l = musL m) ∨ iPMus l = ([], false) := by
  rcases tf ((spl l 32).all okW && musB ((spl l 32).map valW)) with h | h
  · left
    rw [Bool.and_eq_true] at h
    refine ⟨(spl l 32).map valW, h.2, ?_⟩
    have h1 : ((spl l 32).map valW).map wordL = spl l 32 := by
      rw [List.map_map]
      have : ∀ p ∈ spl l 32, (wordL ∘ valW) p = id p := fun p hp => by
        obtain ⟨a, b, hp2, hv⟩ := okW_inv (List.all_eq_true.1 h.1 p hp)
        show wordL (valW p) = p
        rw [hv, ← hp2]
      rw [List.map_congr_left this, List.map_id]
    rw [musL, h1, join_spl 32 l.length l (Nat.le_refl _)]
  · exact .inr (by rw [iPMus, if_neg (by rw [h]; decide)])
theorem sPMus_cases (l : List UInt8) : (∃ m, musB m = true ∧ l = musL m) ∨ sPMus l = ([], false) := by
  unfold sPMus
  split
  · rename_i h
    simp only [Bool.and_eq_true, beq_iff_eq] at h
    exact .inl ⟨_, h.2.2.1, h.2.2.2.symm⟩
  · exact .inr rfl
theorem pmus_same (l : List UInt8) : sPMus l = iPMus l := by
  rcases iPMus_cases l with ⟨m, hm, rfl⟩ | h
  · rw [iPMus_text hm, sPMus_text hm]
  · rcases sPMus_cases l with ⟨m, hm, rfl⟩ | h2
    · rw [iPMus_text hm, sPMus_text hm]
    · rw [h, h2]

end Go.Proofs.YtbiipbfdgkfenaaDoor

