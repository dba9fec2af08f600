import Derived.Test.YtgpjnffomheemaaDoorJ18Wrt2
import Derived.Test.YtgpjnffomheemaaDoorJ2Music
import Derived.Lib.Join

section
/- Texts, plain: the two readers of a move are one. -/
namespace Go.Proofs.YtgpjnffomheemaaDoor
open Go.RowKit
set_option linter.unusedVariables false
set_option linter.unusedSimpArgs false

abbrev Mv := (Int × Int) × (Int × Int) × Int
def noMv : Mv × Bool := (((0, 0), (0, 0), 0), false)
/-- the program's reader -/
def iPMoveQ : List (List UInt8) → Mv × Bool
  | [a, b, c] => if (mParse a).2 = true ∧ (mParse b).2 = true ∧ (mNat c).2 = true ∧ goodM (mParse a).1.1 (mParse a).1.2 (mParse b).1.1 (mParse b).1.2 (mNat c).1 = true then (((mParse a).1, (mParse b).1, (mNat c).1), true) else noMv
  | _ => noMv
def iPMove (l : List UInt8) : Mv × Bool := iPMoveQ (spl l 32)
/-- the reference's reader -/
def sPMoveQ (l : List UInt8) : List (List UInt8) → Mv × Bool
  | [a, b, c] => if (mParse a).2 = true ∧ (mParse b).2 = true ∧ goodM (mParse a).1.1 (mParse a).1.2 (mParse b).1.1 (mParse b).1.2 (mRead c) = true ∧ moveL (mParse a).1.1.toNat (mParse a).1.2.toNat (mParse b).1.1.toNat (mParse b).1.2.toNat (mRead c).toNat = l then (((mParse a).1, (mParse b).1, mRead c), true) else noMv
  | _ => noMv
def sPMove (l : List UInt8) : Mv × Bool := sPMoveQ l (spl l 32)

theorem text_no (x y : Nat) (c : UInt8) (h : digB c = false) (h2 : c ≠ 43) (h3 : c ≠ 44) : c ∉ textL x y := by
  rw [textL]
  intro hm
  rcases List.mem_append.1 hm with hm | hm
  · exact part_no _ _ h h2 hm
  · rcases List.mem_cons.1 hm with hm | hm
    · exact h3 hm
    · exact part_no _ _ h h2 hm
theorem move_spl (x1 y1 x2 y2 n : Nat) : spl (moveL x1 y1 x2 y2 n) 32 = [textL x1 y1, textL x2 y2, numL n] := by
  rw [moveL, spl_mid (text_no _ _ _ rfl (by decide) (by decide)), spl_mid (text_no _ _ _ rfl (by decide) (by decide)), spl_no (num_no _ _ rfl)]
theorem iPMove_text {x1 y1 x2 y2 n : Nat} (h : goodM (x1 : Int) y1 x2 y2 n = true) : iPMove (moveL x1 y1 x2 y2 n) = ((((x1 : Int), (y1 : Int)), ((x2 : Int), (y2 : Int)), (n : Int)), true) := by
  have hg := h
  rw [goodM_iff] at hg
  rw [iPMove, move_spl, iPMoveQ, mParse_text hg.1, mParse_text hg.2.1, mNat_num (by omega), if_pos ⟨rfl, rfl, rfl, h⟩]
theorem sPMove_text {x1 y1 x2 y2 n : Nat} (h : goodM (x1 : Int) y1 x2 y2 n = true) : sPMove (moveL x1 y1 x2 y2 n) = ((((x1 : Int), (y1 : Int)), ((x2 : Int), (y2 : Int)), (n : Int)), true) := by
  have hg := h
  rw [goodM_iff] at hg
  rw [sPMove, move_spl, sPMoveQ, mParse_text hg.1, mParse_text hg.2.1, mRead_num (by omega), if_pos ⟨rfl, rfl, h, rfl⟩]
theorem spl_three {l : List UInt8} {k : UInt8} {a b c : List UInt8} (h : spl l k = [a, b, c]) : l = a ++ k :: (b ++ k :: c) := by
  obtain ⟨_, r, rfl, h1⟩ := spl_two h
  obtain ⟨_, r2, rfl, h2⟩ := spl_two h1
  obtain ⟨_, rfl⟩ := spl_one h2
  rfl
theorem mParse_true {a : List UInt8} (h : (mParse a).2 = true) : ∃ x y : Nat, a = textL x y ∧ mParse a = (((x : Int), (y : Int)), true) := by
  rcases mParse_cases a with ⟨x, y, hg, rfl⟩ | h2
  · exact ⟨x, y, rfl, mParse_text hg⟩
  · rw [h2] at h; cases h
theorem iPMove_cases (l : List UInt8) : (∃ x1 y1 x2 y2 n : Nat, goodM (x1 : Int) y1 x2 y2 n = true ∧ l = moveL x1 y1 x2 y2 n) ∨ iPMove l = noMv := by
  unfold iPMove
  obtain ⟨q, hq⟩ : ∃ q, spl l 32 = q := ⟨_, rfl⟩
  rw [hq]
  unfold iPMoveQ
  split
  · split
    · rename_i a b c h
      obtain ⟨h1, h2, h3, h4⟩ := h
      obtain ⟨x1, y1, rfl, e1⟩ := mParse_true h1
      obtain ⟨x2, y2, rfl, e2⟩ := mParse_true h2
      obtain ⟨n, hn, rfl⟩ := mNat_inv (n := (mNat c).1) (by rw [← h3])
      rw [e1, e2, hn] at h4
      exact .inl ⟨x1, y1, x2, y2, n, h4, by rw [moveL, ← spl_three hq]⟩
    · exact .inr rfl
  · exact .inr rfl
theorem sPMove_cases (l : List UInt8) : (∃ x1 y1 x2 y2 n : Nat, goodM (x1 : Int) y1 x2 y2 n = true ∧ l = moveL x1 y1 x2 y2 n) ∨ sPMove l = noMv := by
  unfold sPMove
  obtain ⟨q, hq⟩ : ∃ q, spl l 32 = q := ⟨_, rfl⟩
  rw [hq]
  unfold sPMoveQ
  split
  · split
    · rename_i a b c h
      obtain ⟨h1, h2, h3, h4⟩ := h
      obtain ⟨x1, y1, _, e1⟩ := mParse_true h1
      obtain ⟨x2, y2, _, e2⟩ := mParse_true h2
      have h5 := h3
      rw [goodM_iff] at h5
      obtain ⟨n, hn⟩ : ∃ n : Nat, mRead c = n := ⟨(mRead c).toNat, by omega⟩
      rw [e1, e2, hn] at h3 h4
      exact .inl ⟨x1, y1, x2, y2, n, h3, h4.symm⟩
    · exact .inr rfl
  · exact .inr rfl
theorem pmove_same (l : List UInt8) : sPMove l = iPMove l := by
  rcases iPMove_cases l with ⟨x1, y1, x2, y2, n, hg, rfl⟩ | h
  · rw [iPMove_text hg, sPMove_text hg]
  · rcases sPMove_cases l with ⟨x1, y1, x2, y2, n, hg, rfl⟩ | h2
    · rw [iPMove_text hg, sPMove_text hg]
    · rw [h, h2]

/-- Split's pieces are the reference's -/
theorem index_iff_in (s : List UInt8) (c : UInt8) : (Lib.index s [c] = -1 ↔ c ∉ s) := by
  rw [Lib.index_one]
  constructor
  · intro h hm
    obtain ⟨i, hi, he⟩ := List.mem_iff_getElem.1 hm
    exact Lib.indexByte_none h i (by rw [List.getElem?_eq_getElem hi, he])
  · exact index_not
theorem splitK_eq (c : UInt8) : ∀ (k : Nat) (s : List UInt8), s.count c ≤ k → Lib.splitK [c] 0 k s = spl s c
  | 0, s, h => by
    have hm : c ∉ s := List.count_eq_zero.1 (by omega)
    rw [Lib.splitK, spl_no hm]
  | k + 1, s, h => by
    by_cases hm : c ∈ s
    · obtain ⟨a, r, h1, rfl⟩ := cut_exists hm
      have hi : Lib.index (a ++ c :: r) [c] = (a.length : Int) := by rw [Lib.index_one, index_at h1]
      rw [Lib.splitK, hi, if_neg (by simp), spl_mid h1]
      have h2 : a ++ c :: r = (a ++ [c]) ++ r := by simp
      have e1 : (a ++ c :: r).take ((a.length : Int).toNat + 0) = a := by rw [Int.toNat_natCast, Nat.add_zero, List.take_left' rfl]
      have e2 : (a ++ c :: r).drop ((a.length : Int).toNat + [c].length) = r := by rw [Int.toNat_natCast, h2, List.drop_left' (by simp)]
      rw [e1, e2, splitK_eq c k r (by
        have h3 : (a ++ c :: r).count c = a.count c + (r.count c + 1) := by rw [List.count_append, List.count_cons_self]
        omega)]
    · have hi := (index_iff_in s c).2 hm
      rw [Lib.splitK, hi, spl_no hm]; rfl
theorem split_spl (s : List UInt8) (c : UInt8) : Lib.splitK [c] 0 (Lib.count s [c]) s = spl s c := by
  rw [Lib.count_one]
  exact splitK_eq c _ s (Nat.le_refl _)
theorem splitB_spl (s : ByteArray) (c : UInt8) : (Lib.splitB ⟨#[c]⟩ 0 (Lib.countB s ⟨#[c]⟩) s).map Value.string = (spl s.data.toList c).map str := by
  have h := Lib.splitB_data ⟨#[c]⟩ 0 (Lib.countB s ⟨#[c]⟩) s
  have h2 : Lib.countB s ⟨#[c]⟩ = Lib.count s.data.toList [c] := rfl
  rw [h2] at h ⊢
  rw [show (⟨#[c]⟩ : ByteArray).data.toList = [c] from rfl, split_spl] at h
  rw [← h, List.map_map]
  apply List.map_congr_left
  intro x _
  exact str_self x
theorem countB_spl (s : ByteArray) (c : UInt8) : Lib.countB s ⟨#[c]⟩ + 1 = (spl s.data.toList c).length := by
  have h := congrArg List.length (splitB_spl s c)
  rw [List.length_map, List.length_map] at h
  have h2 := Lib.splitB_all ⟨#[c]⟩ (Nat.le_refl 1) 0 _ s rfl
  omega

end Go.Proofs.YtgpjnffomheemaaDoor
end

section
/- Texts, plain: music that is written, and the two readers of music are one. -/
namespace Go.Proofs.YtgpjnffomheemaaDoor
open Go.RowKit
set_option linter.unusedVariables false
set_option linter.unusedSimpArgs false

def wordL (p : Int × Int) : List UInt8 := numL p.1.toNat ++ 64 :: numL p.2.toNat
def musL (l : List (Int × Int)) : List UInt8 := Lib.join (l.map wordL) [32]
theorem join_snoc (xs : List (List UInt8)) (y sep : List UInt8) (h : xs ≠ []) : Lib.join (xs ++ [y]) sep = Lib.join xs sep ++ (sep ++ y) := by
  cases xs with
  | nil => exact absurd rfl h
  | cons x r =>
    rw [List.cons_append, Lib.join_cons, Lib.join_cons]
    simp [Lib.joinTail]
/-- the text of the first k measures -/
def musTo_ (l : List (Int × Int)) (k : Nat) : List UInt8 := musL (l.take k)
theorem musTo_zero_ (l : List (Int × Int)) : musTo_ l 0 = [] := rfl
theorem musTo_one_ {l : List (Int × Int)} {p : Int × Int} (h : l[0]? = some p) : musTo_ l 1 = wordL p := by
  cases l with
  | nil => simp at h
  | cons a l =>
    simp at h
    subst h
    simp [musTo_, musL, Lib.join_one]
theorem musTo_step_ {l : List (Int × Int)} {k : Nat} {p : Int × Int} (h : l[k]? = some p) (h0 : 0 < k) : musTo_ l (k + 1) = musTo_ l k ++ 32 :: wordL p := by
  have hk := (List.getElem?_eq_some_iff.1 h).1
  rw [musTo_, musL, List.take_add_one, h]
  simp only [Option.toList_some, List.map_append, List.map_cons, List.map_nil]
  rw [join_snoc _ _ _ (by intro e; have := congrArg List.length e; rw [List.length_map, List.length_take, List.length_nil] at this; omega)]
  simp [musTo_, musL]
theorem musTo_all_ (l : List (Int × Int)) : musTo_ l l.length = musL l := by rw [musTo_, List.take_length]
theorem wordL_le {x y : Int} (h : meB x y = true) : (wordL (x, y)).length ≤ 15 := by
  rw [meB_iff] at h
  have h1 := numL_le7 (show x.toNat ≤ 1000000 by omega)
  have h2 := numL_le7 (show y.toNat ≤ 1000000 by omega)
  rw [wordL]; simp; omega
theorem musTo_le_ {l : List (Int × Int)} (h : musB l = true) : ∀ k, k ≤ l.length → (musTo_ l k).length ≤ 16 * k
  | 0, _ => by simp [musTo_zero_]
  | k + 1, hk => by
    obtain ⟨⟨x, y⟩, hp⟩ : ∃ p, l[k]? = some p := ⟨l[k], List.getElem?_eq_getElem (by omega)⟩
    have hw := wordL_le (musB_get h hp)
    have ih := musTo_le_ h k (by omega)
    rcases Nat.eq_zero_or_pos k with h0 | h0
    · subst h0
      rw [musTo_one_ hp]; omega
    · rw [musTo_step_ hp h0]; simp; omega
theorem musL_le {l : List (Int × Int)} (h : musB l = true) : (musL l).length ≤ 640 := by
  have h1 := musTo_le_ h l.length (Nat.le_refl _)
  have h2 := musB_len h
  rw [musTo_all_] at h1
  omega

/-! ### cutting and joining -/
theorem join_spl (c : UInt8) : ∀ (k : Nat) (l : List UInt8), l.length ≤ k → Lib.join (spl l c) [c] = l
  | 0, l, h => by
    have : l = [] := List.length_eq_zero_iff.1 (by omega)
    subst this
    simp [spl, Lib.join_one]
  | k + 1, l, h => by
    by_cases hm : c ∈ l
    · obtain ⟨a, r, h1, rfl⟩ := cut_exists hm
      have ih := join_spl c k r (by simp at h; omega)
      rw [spl_mid h1]
      have hl := spl_len r c
      cases hq : spl r c with
      | nil => rw [hq] at hl; simp at hl
      | cons x q =>
        rw [hq] at ih
        rw [Lib.join_cons] at ih ⊢
        simp only [Lib.joinTail, List.map_cons, List.flatten_cons] at ih ⊢
        rw [← ih]; simp
    · rw [spl_no hm, Lib.join_one]
theorem spl_join (c : UInt8) : ∀ (q : List (List UInt8)), q ≠ [] → (∀ x ∈ q, c ∉ x) → spl (Lib.join q [c]) c = q
  | [], h, _ => absurd rfl h
  | [x], _, h => by rw [Lib.join_one, spl_no (h x (by simp))]
  | x :: y :: q, _, h => by
    have ih := spl_join c (y :: q) (by simp) (fun z hz => h z (List.mem_cons_of_mem _ hz))
    have e : Lib.join (x :: y :: q) [c] = x ++ c :: Lib.join (y :: q) [c] := by
      rw [Lib.join_cons, Lib.join_cons]; simp [Lib.joinTail]
    rw [e, spl_mid (h x (by simp)), ih]
theorem word_no (p : Int × Int) (c : UInt8) (h : digB c = false) (h2 : c ≠ 64) : c ∉ wordL p := by
  rw [wordL]
  intro hm
  rcases List.mem_append.1 hm with hm | hm
  · exact num_no _ _ h hm
  · rcases List.mem_cons.1 hm with hm | hm
    · exact h2 hm
    · exact num_no _ _ h hm
theorem mus_spl {l : List (Int × Int)} (h : l ≠ []) : spl (musL l) 32 = l.map wordL :=
  spl_join 32 _ (by intro e; exact h (List.map_eq_nil_iff.1 e)) (fun x hx => by
    obtain ⟨p, _, rfl⟩ := List.mem_map.1 hx
    exact word_no p 32 rfl (by decide))

/-- a word of the program's reader: is it one, its measure -/
def okW (p : List UInt8) : Bool := (cutL p 64).2.2 && ((mNat (cutL p 64).1).2 && (mNat (cutL p 64).2.1).2)
def valW (p : List UInt8) : Int × Int := ((mNat (cutL p 64).1).1, (mNat (cutL p 64).2.1).1)
def iPMus (l : List UInt8) : List (Int × Int) × Bool := if (spl l 32).all okW && musB ((spl l 32).map valW) then ((spl l 32).map valW, true) else ([], false)
/-- a word of the reference's reader -/
def okS (p : List UInt8) : Bool := (spl p 64).length == 2
def valS (p : List UInt8) : Int × Int := (mRead ((spl p 64).headD []), mRead ((spl p 64).tail.headD []))
def sPMus (l : List UInt8) : List (Int × Int) × Bool := if decide ((spl l 32).length ≤ 40) && ((spl l 32).all okS && (musB ((spl l 32).map valS) && (musL ((spl l 32).map valS) == l))) then ((spl l 32).map valS, true) else ([], false)
theorem okW_word (a b : Nat) (ha : a < 1000000) (hb : b < 1000000) : okW (wordL (a, b)) = true ∧ valW (wordL (a, b)) = ((a : Int), (b : Int)) := by
  have hc : cutL (wordL (a, b)) 64 = (numL a, numL b, true) := by rw [wordL]; exact cutL_mid (num_no _ _ rfl)
  rw [okW, valW, hc, mNat_num (by omega), mNat_num (by omega)]
  exact ⟨rfl, rfl⟩
theorem okS_word (a b : Nat) (ha : a < 1000000) (hb : b < 1000000) : okS (wordL (a, b)) = true ∧ valS (wordL (a, b)) = ((a : Int), (b : Int)) := by
  have hc : spl (wordL (a, b)) 64 = [numL a, numL b] := by rw [wordL]; exact (spl_mid (num_no _ _ rfl)).trans (by rw [spl_no (num_no _ _ rfl)]; rfl)
  rw [okS, valS, hc]
  refine ⟨rfl, ?_⟩
  simp only [List.headD_cons, List.tail_cons]
  rw [mRead_num ha, mRead_num hb]
theorem okW_inv {p : List UInt8} (h : okW p = true) : ∃ a b : Nat, p = wordL (a, b) ∧ valW p = ((a : Int), (b : Int)) := by
  obtain ⟨⟨a, r, f⟩, hc⟩ : ∃ q, cutL p 64 = q := ⟨_, rfl⟩
  unfold okW at h
  unfold valW
  rw [hc] at h ⊢
  simp only [Bool.and_eq_true] at h
  obtain ⟨rfl, h1, h2⟩ := h
  obtain ⟨x, hx, rfl⟩ := mNat_inv (n := (mNat a).1) (by rw [← h1])
  obtain ⟨y, hy, rfl⟩ := mNat_inv (n := (mNat r).1) (by rw [← h2])
  refine ⟨x, y, ?_, by simp only; rw [hx, hy]⟩
  rw [(cutL_true hc).2, wordL]; rfl
theorem mus_words {l : List (Int × Int)} (h : musB l = true) : ∀ p ∈ l, ∃ a b : Nat, p = ((a : Int), (b : Int)) ∧ a < 1000000 ∧ b < 1000000 := by
  rintro ⟨x, y⟩ hp
  obtain ⟨k, hk⟩ := List.getElem?_of_mem hp
  have := musB_get h hk
  rw [meB_iff] at this
  exact ⟨x.toNat, y.toNat, by rw [Int.toNat_of_nonneg (by omega), Int.toNat_of_nonneg (by omega)], by omega, by omega⟩
theorem map_back {f : List UInt8 → Int × Int} {l : List (Int × Int)} (h : ∀ p ∈ l, f (wordL p) = p) : (l.map wordL).map f = l := by
  rw [List.map_map]
  have : ∀ p ∈ l, (f ∘ wordL) p = id p := h
  rw [List.map_congr_left this, List.map_id]
theorem iPMus_text {l : List (Int × Int)} (h : musB l = true) : iPMus (musL l) = (l, true) := by
  have hn : l ≠ [] := by intro e; have := musB_len h; rw [e] at this; simp at this
  have hw := mus_words h
  have h1 : (l.map wordL).map valW = l := map_back fun p hp => by
    obtain ⟨a, b, rfl, ha, hb⟩ := hw p hp
    exact (okW_word a b ha hb).2
  have h2 : (l.map wordL).all okW = true := by
    rw [List.all_eq_true]
    intro x hx
    obtain ⟨p, hp, rfl⟩ := List.mem_map.1 hx
    obtain ⟨a, b, rfl, ha, hb⟩ := hw p hp
    exact (okW_word a b ha hb).1
  rw [iPMus, mus_spl hn, h1, h2, h]; rfl
theorem sPMus_text {l : List (Int × Int)} (h : musB l = true) : sPMus (musL l) = (l, true) := by
  have hlen := musB_len h
  have hn : l ≠ [] := by intro e; rw [e] at hlen; simp at hlen
  have hw := mus_words h
  have h1 : (l.map wordL).map valS = l := map_back fun p hp => by
    obtain ⟨a, b, rfl, ha, hb⟩ := hw p hp
    exact (okS_word a b ha hb).2
  have h2 : (l.map wordL).all okS = true := by
    rw [List.all_eq_true]
    intro x hx
    obtain ⟨p, hp, rfl⟩ := List.mem_map.1 hx
    obtain ⟨a, b, rfl, ha, hb⟩ := hw p hp
    exact (okS_word a b ha hb).1
  rw [sPMus, mus_spl hn, h1, h2, h]
  simp [hlen.2]
theorem iPMus_cases (l : List UInt8) : (∃ m, musB m = true ∧ l = musL m) ∨ iPMus l = ([], false) := by
  rcases tf ((spl l 32).all okW && musB ((spl l 32).map valW)) with h | h
  · left
    rw [Bool.and_eq_true] at h
    refine ⟨(spl l 32).map valW, h.2, ?_⟩
    have h1 : ((spl l 32).map valW).map wordL = spl l 32 := by
      rw [List.map_map]
      have : ∀ p ∈ spl l 32, (wordL ∘ valW) p = id p := fun p hp => by
        obtain ⟨a, b, hp2, hv⟩ := okW_inv (List.all_eq_true.1 h.1 p hp)
        show wordL (valW p) = p
        rw [hv, ← hp2]
      rw [List.map_congr_left this, List.map_id]
    rw [musL, h1, join_spl 32 l.length l (Nat.le_refl _)]
  · exact .inr (by rw [iPMus, if_neg (by rw [h]; decide)])
theorem sPMus_cases (l : List UInt8) : (∃ m, musB m = true ∧ l = musL m) ∨ sPMus l = ([], false) := by
  unfold sPMus
  split
  · rename_i h
    simp only [Bool.and_eq_true, beq_iff_eq] at h
    exact .inl ⟨_, h.2.2.1, h.2.2.2.symm⟩
  · exact .inr rfl
theorem pmus_same (l : List UInt8) : sPMus l = iPMus l := by
  rcases iPMus_cases l with ⟨m, hm, rfl⟩ | h
  · rw [iPMus_text hm, sPMus_text hm]
  · rcases sPMus_cases l with ⟨m, hm, rfl⟩ | h2
    · rw [iPMus_text hm, sPMus_text hm]
    · rw [h, h2]

end Go.Proofs.YtgpjnffomheemaaDoor
end
