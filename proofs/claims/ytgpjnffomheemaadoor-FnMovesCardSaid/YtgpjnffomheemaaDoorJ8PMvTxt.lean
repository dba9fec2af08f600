import Derived.Test.YtgpjnffomheemaaDoorJ7Wrt2
/- Texts, plain: the two readers of a move are one. -/
namespace Go.Proofs.YtgpjnffomheemaaDoor
open Go.RowKit
set_option linter.unusedVariables false
set_option linter.unusedSimpArgs false

abbrev Mv := (Int × Int) × (Int × Int) × Int
def noMv : Mv × Bool := (((0, 0), (0, 0), 0), false)
/-- the program's reader -/
def iPMoveQ : List (List UInt8) → Mv × Bool
  | [a, b, c] => if (mParse a).2 = true ∧ (mParse b).2 = true ∧ (mNat c).2 = true ∧ goodM (mParse a).1.1 (mParse a).1.2 (mParse b).1.1 (mParse b).1.2 (mNat c).1 = true then (((mParse a).1, (mParse b).1, (mNat c).1), true) else noMv
  | _ => noMv
def iPMove (l : List UInt8) : Mv × Bool := iPMoveQ (spl l 32)
/-- the reference's reader -/
def sPMoveQ (l : List UInt8) : List (List UInt8) → Mv × Bool
  | [a, b, c] => if (mParse a).2 = true ∧ (mParse b).2 = true ∧ goodM (mParse a).1.1 (mParse a).1.2 (mParse b).1.1 (mParse b).1.2 (mRead c) = true ∧ moveL (mParse a).1.1.toNat (mParse a).1.2.toNat (mParse b).1.1.toNat (mParse b).1.2.toNat (mRead c).toNat = l then (((mParse a).1, (mParse b).1, mRead c), true) else noMv
  | _ => noMv
def sPMove (l : List UInt8) : Mv × Bool := sPMoveQ l (spl l 32)

theorem text_no (x y : Nat) (c : UInt8) (h : digB c = false) (h2 : c ≠ 43) (h3 : c ≠ 44) : c ∉ textL x y := by
  rw [textL]
  intro hm
  rcases List.mem_append.1 hm with hm | hm
  · exact part_no _ _ h h2 hm
  · rcases List.mem_cons.1 hm with hm | hm
    · exact h3 hm
    · exact part_no _ _ h h2 hm
theorem move_spl (x1 y1 x2 y2 n : Nat) : spl (moveL x1 y1 x2 y2 n) 32 = [textL x1 y1, textL x2 y2, numL n] := by
  rw [moveL, spl_mid (text_no _ _ _ rfl (by decide) (by decide)), spl_mid (text_no _ _ _ rfl (by decide) (by decide)), spl_no (num_no _ _ rfl)]
theorem iPMove_text {x1 y1 x2 y2 n : Nat} (h : goodM (x1 : Int) y1 x2 y2 n = true) : iPMove (moveL x1 y1 x2 y2 n) = ((((x1 : Int), (y1 : Int)), ((x2 : Int), (y2 : Int)), (n : Int)), true) := by
  have hg := h
  rw [goodM_iff] at hg
  rw [iPMove, move_spl, iPMoveQ, mParse_text hg.1, mParse_text hg.2.1, mNat_num (by omega), if_pos ⟨rfl, rfl, rfl, h⟩]
theorem sPMove_text {x1 y1 x2 y2 n : Nat} (h : goodM (x1 : Int) y1 x2 y2 n = true) : sPMove (moveL x1 y1 x2 y2 n) = ((((x1 : Int), (y1 : Int)), ((x2 : Int), (y2 : Int)), (n : Int)), true) := by
  have hg := h
  rw [goodM_iff] at hg
  rw [sPMove, move_spl, sPMoveQ, mParse_text hg.1, mParse_text hg.2.1, mRead_num (by omega), if_pos ⟨rfl, rfl, h, rfl⟩]
theorem spl_three {l : List UInt8} {k : UInt8} {a b c : List UInt8} (h : spl l k = [a, b, c]) : l = a ++ k :: (b ++ k :: c) := by
  obtain ⟨_, r, rfl, h1⟩ := spl_two h
  obtain ⟨_, r2, rfl, h2⟩ := spl_two h1
  obtain ⟨_, rfl⟩ := spl_one h2
  rfl
theorem mParse_true {a : List UInt8} (h : (mParse a).2 = true) : ∃ x y : Nat, a = textL x y ∧ mParse a = (((x : Int), (y : Int)), true) := by
  rcases mParse_cases a with ⟨x, y, hg, rfl⟩ | h2
  · exact ⟨x, y, rfl, mParse_text hg⟩
  · rw [h2] at h; cases h
theorem iPMove_cases (l : List UInt8) : (∃ x1 y1 x2 y2 n : Nat, goodM (x1 : Int) y1 x2 y2 n = true ∧ l = moveL x1 y1 x2 y2 n) ∨ iPMove l = noMv := by
  unfold iPMove
  obtain ⟨q, hq⟩ : ∃ q, spl l 32 = q := ⟨_, rfl⟩
  rw [hq]
  unfold iPMoveQ
  split
  · split
    · rename_i a b c h
      obtain ⟨h1, h2, h3, h4⟩ := h
      obtain ⟨x1, y1, rfl, e1⟩ := mParse_true h1
      obtain ⟨x2, y2, rfl, e2⟩ := mParse_true h2
      obtain ⟨n, hn, rfl⟩ := mNat_inv (n := (mNat c).1) (by rw [← h3])
      rw [e1, e2, hn] at h4
      exact .inl ⟨x1, y1, x2, y2, n, h4, by rw [moveL, ← spl_three hq]⟩
    · exact .inr rfl
  · exact .inr rfl
theorem sPMove_cases (l : List UInt8) : (∃ x1 y1 x2 y2 n : Nat, goodM (x1 : Int) y1 x2 y2 n = true ∧ l = moveL x1 y1 x2 y2 n) ∨ sPMove l = noMv := by
  unfold sPMove
  obtain ⟨q, hq⟩ : ∃ q, spl l 32 = q := ⟨_, rfl⟩
  rw [hq]
  unfold sPMoveQ
  split
  · split
    · rename_i a b c h
      obtain ⟨h1, h2, h3, h4⟩ := h
      obtain ⟨x1, y1, _, e1⟩ := mParse_true h1
      obtain ⟨x2, y2, _, e2⟩ := mParse_true h2
      have h5 := h3
      rw [goodM_iff] at h5
      obtain ⟨n, hn⟩ : ∃ n : Nat, mRead c = n := ⟨(mRead c).toNat, by omega⟩
      rw [e1, e2, hn] at h3 h4
      exact .inl ⟨x1, y1, x2, y2, n, h3, h4.symm⟩
    · exact .inr rfl
  · exact .inr rfl
theorem pmove_same (l : List UInt8) : sPMove l = iPMove l := by
  rcases iPMove_cases l with ⟨x1, y1, x2, y2, n, hg, rfl⟩ | h
  · rw [iPMove_text hg, sPMove_text hg]
  · rcases sPMove_cases l with ⟨x1, y1, x2, y2, n, hg, rfl⟩ | h2
    · rw [iPMove_text hg, sPMove_text hg]
    · rw [h, h2]

/-- Split's pieces are the reference's -/
theorem index_iff_in (s : List UInt8) (c : UInt8) : (Lib.index s [c] = -1 ↔ c ∉ s) := by
  rw [Lib.index_one]
  constructor
  · intro h hm
    obtain ⟨i, hi, he⟩ := List.mem_iff_getElem.1 hm
    exact Lib.indexByte_none h i (by rw [List.getElem?_eq_getElem hi, he])
  · exact index_not
theorem splitK_eq (c : UInt8) : ∀ (k : Nat) (s : List UInt8), s.count c ≤ k → Lib.splitK [c] 0 k s = spl s c
  | 0, s, h => by
    have hm : c ∉ s := List.count_eq_zero.1 (by omega)
    rw [Lib.splitK, spl_no hm]
  | k + 1, s, h => by
    by_cases hm : c ∈ s
    · obtain ⟨a, r, h1, rfl⟩ := cut_exists hm
      have hi : Lib.index (a ++ c :: r) [c] = (a.length : Int) := by rw [Lib.index_one, index_at h1]
      rw [Lib.splitK, hi, if_neg (by simp), spl_mid h1]
      have h2 : a ++ c :: r = (a ++ [c]) ++ r := by simp
      have e1 : (a ++ c :: r).take ((a.length : Int).toNat + 0) = a := by rw [Int.toNat_natCast, Nat.add_zero, List.take_left' rfl]
      have e2 : (a ++ c :: r).drop ((a.length : Int).toNat + [c].length) = r := by rw [Int.toNat_natCast, h2, List.drop_left' (by simp)]
      rw [e1, e2, splitK_eq c k r (by
        have h3 : (a ++ c :: r).count c = a.count c + (r.count c + 1) := by rw [List.count_append, List.count_cons_self]
        omega)]
    · have hi := (index_iff_in s c).2 hm
      rw [Lib.splitK, hi, spl_no hm]; rfl
theorem split_spl (s : List UInt8) (c : UInt8) : Lib.splitK [c] 0 (Lib.count s [c]) s = spl s c := by
  rw [Lib.count_one]
  exact splitK_eq c _ s (Nat.le_refl _)
theorem splitB_spl (s : ByteArray) (c : UInt8) : (Lib.splitB ⟨#[c]⟩ 0 (Lib.countB s ⟨#[c]⟩) s).map Value.string = (spl s.data.toList c).map str := by
  have h := Lib.splitB_data ⟨#[c]⟩ 0 (Lib.countB s ⟨#[c]⟩) s
  have h2 : Lib.countB s ⟨#[c]⟩ = Lib.count s.data.toList [c] := rfl
  rw [h2] at h ⊢
  rw [show (⟨#[c]⟩ : ByteArray).data.toList = [c] from rfl, split_spl] at h
  rw [← h, List.map_map]
  apply List.map_congr_left
  intro x _
  exact str_self x
theorem countB_spl (s : ByteArray) (c : UInt8) : Lib.countB s ⟨#[c]⟩ + 1 = (spl s.data.toList c).length := by
  have h := congrArg List.length (splitB_spl s c)
  rw [List.length_map, List.length_map] at h
  have h2 := Lib.splitB_all ⟨#[c]⟩ (Nat.le_refl 1) 0 _ s rfl
  omega

end Go.Proofs.YtgpjnffomheemaaDoor

