import Derived.Test.YtgpjnffomheemaaDoorJ3Music2
import Derived.Test.YtgpjnffomheemaaDoorJ1
import Derived.Test.YtgpjnffomheemaaDoorWhole
import Derived.Laws.OwnMore
import Derived.Laws.AppendOwn
import Derived.OwnWalk
import Derived.Deep.QuietTactic
import Derived.BigQuiet
import Derived.Maps.AppendAt
import Derived.Deep.AppendLies

section
/- Contracts of LastsFrom and CountAt, of the program and of the reference. -/
namespace Go.Proofs.YtgpjnffomheemaaDoor
open Go.RowKit
set_option linter.unusedVariables false
set_option linter.unusedSimpArgs false
set_option maxRecDepth 100000

def mLastsFrom (l : List (Int × Int)) (a b : Int) : Int × Bool := if musB l && decide (0 ≤ a ∧ a ≤ b ∧ b ≤ sumL l) then (timeL l b - timeL l a, true) else (0, false)

/-- the last of the first k counts that has begun -/
def lastTo (l : List (Int × Int)) (time : Int) : Nat → Nat
  | 0 => 0
  | k + 1 => if timeL l k ≤ time then k else lastTo l time k
theorem lastTo_eq {l : List (Int × Int)} (hm : musB l = true) {time : Int} {k : Nat} (h1 : timeL l k ≤ time) (h2 : time < timeL l (k + 1)) : ∀ t : Nat, k < t → lastTo l time t = k
  | 0, h => absurd h (by omega)
  | t + 1, h => by
    simp only [lastTo]
    by_cases e : t = k
    · subst e; rw [if_pos h1]
    · have := timeL_le' hm (a := (k : Int) + 1) (b := t) (by omega) (by omega)
      rw [if_neg (by omega)]
      exact lastTo_eq hm h1 h2 t (by omega)
theorem lastTo_yes {l : List (Int × Int)} {time : Int} {k : Nat} (h : timeL l k ≤ time) : lastTo l time (k + 1) = k := by simp only [lastTo]; rw [if_pos h]
theorem lastTo_no {l : List (Int × Int)} {time : Int} {k : Nat} (h : ¬ timeL l k ≤ time) : lastTo l time (k + 1) = lastTo l time k := by simp only [lastTo]; rw [if_neg h]
def mCountAt (l : List (Int × Int)) (time : Int) : Int × Bool := if musB l && inB time 0 (timeL l (sumL l) - 1) then ((lastTo l time (sumL l).toNat : Int), true) else (0, false)

end Go.Proofs.YtgpjnffomheemaaDoor
end

section
/- Rows of measures of the call's own: append, comparison, marking, holding. -/
namespace Go.Proofs.YtgpjnffomheemaaDoor
open Go.RowKit
set_option linter.unusedVariables false
set_option linter.unusedSimpArgs false
set_option maxRecDepth 100000

def marks2 (n : Nat) : List (Int × Int) := List.map (fun i : Nat => (2 * (i : Int) + 1, 2 * (i : Int) + 1 + 1)) (List.range n)
theorem marks2_len (n : Nat) : (marks2 n).length = n := by simp [marks2]
theorem marks2_get (n i : Nat) (h : i < (marks2 n).length) : (marks2 n)[i] = (2 * (i : Int) + 1, 2 * (i : Int) + 1 + 1) := by simp [marks2]
theorem RowTo.weak0 {w : World} {g n k : Nat} {l : List (Int × Int)} (h : RowTo w g n k l) : RowTo w g n 0 (marks2 n) :=
  ⟨h.1, marks2_len n, h.2.2.1, fun i hi hk => absurd hk (by omega)⟩
theorem RowTo.cells {w : World} {g n k : Nat} {l : List (Int × Int)} (h : RowTo w g n k l) {j : Nat} (hj : j < n) : ∃ u u', Has w [(g, j * 2, u), (g, j * 2 + 1, u')] := by
  obtain ⟨⟨v, hv⟩, hf⟩ := h.2.2.1 (j * 2) (by omega)
  obtain ⟨⟨v', hv'⟩, hf'⟩ := h.2.2.1 (j * 2 + 1) (by omega)
  exact ⟨v, v', ⟨hv, hf⟩, ⟨hv', hf'⟩, trivial⟩
theorem grown_set1 (w : World) (g i : Nat) (v : Value) : w.grownBy (w.setCell ⟨g, i, none⟩ v) (some g) :=
  ⟨rfl, rfl, rfl, by simp [World.setCell], fun k _ hk => Below.heap_setCell w ⟨g, i, none⟩ v k (fun e => hk (by rw [e]))⟩
theorem grown_set2 (w : World) (g i j : Nat) (v v' : Value) : w.grownBy ((w.setCell ⟨g, i, none⟩ v).setCell ⟨g, j, none⟩ v') (some g) :=
  World.grownBy.trans (grown_set1 w g i v) (grown_set1 _ g j v')

def flat2 (l : List (Int × Int)) : List Value := l.flatMap fun p => [.int .i64 p.1, .int .i64 p.2]
theorem flat2_len : ∀ l : List (Int × Int), (flat2 l).length = l.length * 2
  | [] => rfl
  | p :: l => by simp [flat2] at *; have := flat2_len l; simp [flat2] at this; omega
theorem flat2_snoc (l : List (Int × Int)) (p : Int × Int) : flat2 (l ++ [p]) = flat2 l ++ [.int .i64 p.1, .int .i64 p.2] := by simp [flat2]
theorem flat2_get : ∀ (l : List (Int × Int)) (k : Nat) (h : k < l.length), (flat2 l)[k * 2]? = some (.int .i64 l[k].1) ∧ (flat2 l)[k * 2 + 1]? = some (.int .i64 l[k].2)
  | p :: l, 0, _ => by simp [flat2]
  | p :: l, k + 1, h => by
    have := flat2_get l k (by simpa using h)
    have e1 : (k + 1) * 2 = k * 2 + 2 := by omega
    rw [e1]
    simpa [flat2] using this

/-- a row of spots of the call's own, from block base on -/
def MRow (w : World) (base : Nat) (v : Value) (l : List (Int × Int)) : Prop := l.length ≤ 1048576 ∧ w.ownsRow base 68 2 v l.length (flat2 l)
theorem MRow.below {w w' : World} {base : Nat} {v : Value} {l : List (Int × Int)} (h : MRow w base v l) {B : Nat} (hb : Below B w w') (hB : w.heap.size ≤ B) : MRow w' base v l := by
  refine ⟨h.1, h.2.1, ?_⟩
  rcases h.2.2 with h0 | ⟨g, cap, cur, hv, hbg, hh, h1, h2, h3, h4⟩
  · exact .inl h0
  · have hlt : g < w.heap.size := by
      rcases Nat.lt_or_ge g w.heap.size with hlt | hge
      · exact hlt
      · rw [Array.getElem?_eq_none hge] at hh; cases hh
    exact .inr ⟨g, cap, cur, hv, hbg, (hb.block g (by omega)).trans hh, h1, h2, h3, h4⟩
theorem MRow.more {w : World} {b b' : Nat} {v : Value} {l : List (Int × Int)} (h : MRow w b v l) (hb : b' ≤ b) : MRow w b' v l := by
  refine ⟨h.1, h.2.1, ?_⟩
  rcases h.2.2 with h0 | ⟨g, cap, cur, hv, hbg, r⟩
  · exact .inl h0
  · exact .inr ⟨g, cap, cur, hv, by omega, r⟩
theorem MRow.snoc {w : World} {base : Nat} {v : Value} {l : List (Int × Int)} {p : Int × Int} (hl : l.length < 1048576) (h : w.ownsRow base 68 2 v (l.length + 1) (flat2 l ++ [.int .i64 p.1, .int .i64 p.2])) : MRow w base v (l ++ [p]) :=
  ⟨by simp; omega, by rw [flat2_snoc]; simpa using h⟩
theorem MRow.kept {w w' : World} {base : Nat} {v : Value} {l : List (Int × Int)} {row : Option Nat} (h : MRow w base v l) (hg : w.grownBy w' row) (hne : v.ownBlock = none ∨ v.ownBlock ≠ row) : MRow w' base v l := ⟨h.1, World.ownsRow.kept h.2 hg hne⟩
/-- it reads as a list -/
theorem MRow.lst {w : World} {base : Nat} {v : Value} {l : List (Int × Int)} (h : MRow w base v l) : ∃ A c, v = .slice A l.length c ∧ (l.length ≤ c ∧ c ≤ maxLen) ∧ Lst w A l.length l ∧ (0 < l.length → ∃ g, A = some ⟨g, 0, none⟩ ∧ base ≤ g ∧ g < w.heap.size ∧ v.ownBlock = some g) := by
  rcases h.2.2 with ⟨rfl, h0⟩ | ⟨g, cap, cur, rfl, hbg, hh, h1, h2, h3, h4⟩
  · exact ⟨none, 0, by rw [h0], ⟨by omega, by simp [maxLen]⟩, ⟨rfl, h.1, fun hl => absurd hl (by omega)⟩, fun hl => absurd hl (by omega)⟩
  · have hlt : g < w.heap.size := by
      rcases Nat.lt_or_ge g w.heap.size with hlt | hge
      · exact hlt
      · rw [Array.getElem?_eq_none hge] at hh; cases hh
    refine ⟨_, cap, rfl, ⟨h1, h2⟩, ⟨rfl, h.1, fun hl => ⟨g, rfl, hlt, fun i hi => ⟨⟨?_, World.ownsRow.frozenAt h.2 _⟩, ⟨?_, World.ownsRow.frozenAt h.2 _⟩⟩⟩⟩, fun hl => ⟨g, rfl, hbg, hlt, rfl⟩⟩
    · rw [World.ownsRow.cellAt h.2 (i * 2) (by omega)]; exact (flat2_get l i hi).1
    · rw [World.ownsRow.cellAt h.2 (i * 2 + 1) (by omega)]; exact (flat2_get l i hi).2

def Blk (w : World) (g cap : Nat) : Prop := ∃ cur, w.heap[g]? = some (.cells cur 68 (0, 0)) ∧ cur.size = cap * 2
theorem Blk.set {w : World} {g cap i : Nat} {v : Value} (h : Blk w g cap) : Blk (w.setCell ⟨g, i, none⟩ v) g cap := by
  obtain ⟨cur, hh, hs⟩ := h
  exact ⟨cur.setIfInBounds i v, by simp [World.setCell, Array.getElem?_modify, hh], by simpa using hs⟩
theorem mrow_of {w : World} {g n cap base : Nat} {l : List (Int × Int)} (hr : RowTo w g n n l) (hb : Blk w g cap) (h1 : n ≤ cap) (h2 : cap ≤ maxLen) (h3 : base ≤ g) (h4 : n ≤ 1048576) :
    MRow w base (.slice (some ⟨g, 0, none⟩) n cap) l := by
  obtain ⟨cur, hh, hs⟩ := hb
  have hl := hr.2.1
  subst hl
  refine ⟨h4, flat2_len l, .inr ⟨g, cap, cur, rfl, h3, hh, h1, h2, hs, ?_⟩⟩
  apply List.ext_getElem?
  intro i
  rw [List.getElem?_take]
  by_cases hi : i < l.length * 2
  · rw [if_pos hi, Array.getElem?_toList]
    have hc : ∀ j, w.cell? ⟨g, j, none⟩ = cur[j]? := fun j => cell_of_row _ _ _ _ _ (0, 0) hh
    have hk : i / 2 < l.length := by omega
    have a := hr.2.2.2 (i / 2) hk hk
    have f := flat2_get l (i / 2) hk
    rcases Nat.mod_two_eq_zero_or_one i with e | e
    · have e1 : i / 2 * 2 = i := by omega
      rw [e1] at a f
      rw [← hc, a.1, f.1]
    · have e1 : i / 2 * 2 + 1 = i := by omega
      rw [e1] at a f
      rw [← hc, a.2, f.2]
  · rw [if_neg hi, List.getElem?_eq_none (by rw [flat2_len]; omega)]

theorem MRow.rowTo {w : World} {base g n cap : Nat} {l : List (Int × Int)} (h : MRow w base (.slice (some ⟨g, 0, none⟩) n cap) l) (hl : l.length = n) (h0 : 0 < n) : RowTo w g n n l ∧ Blk w g cap ∧ base ≤ g := by
  subst hl
  obtain ⟨A, c, hv, hc, hL, hg⟩ := h.lst
  obtain ⟨g', hA, hb', hlt, _⟩ := hg h0
  injection hv with e1 e2 e3
  subst e1
  cases hA
  obtain ⟨g2, hA2, _, hcells⟩ := hL.2.2 h0
  cases hA2
  refine ⟨⟨hlt, rfl, fun j hj => ⟨?_, World.ownsRow.frozenAt h.2 j⟩, fun i hi _ => ⟨(hcells i hi).1.1, (hcells i hi).2.1⟩⟩, ?_, hb'⟩
  · rw [World.ownsRow.cellAt h.2 j (by omega)]
    exact ⟨_, List.getElem?_eq_getElem (by rw [flat2_len]; omega)⟩
  · rcases h.2.2 with ⟨hv0, _⟩ | ⟨g3, cap3, cur, hv3, _, hh, _, _, hs, _⟩
    · cases hv0
    · injection hv3 with f1 f2 f3
      cases f1
      subst f3
      exact ⟨cur, hh, hs⟩

/-- a list of spots in new memory, and a bool -/
def RetMeas (w : World) (l : List (Int × Int)) (ok : Bool) (e : Ending) (w' : World) : Prop := ∃ A c, e = .returned (.tuple #[.slice A l.length c, .bool ok]) ∧ MRow w' w.heap.size (.slice A l.length c) l ∧ Below w.heap.size w w'
theorem RetMeas.nil (w : World) {w' : World} (hb : Below w.heap.size w w') : RetMeas w [] false (.returned (.tuple #[.slice none 0 0, .bool false])) w' :=
  ⟨none, 0, rfl, ⟨by simp, World.ownsRow_nil _ _ _ _⟩, hb⟩
theorem MRow.ret {w w' : World} {b : Nat} {v : Value} {l : List (Int × Int)} {ok : Bool} (h : MRow w' b v l) (hb : w.heap.size ≤ b) (hB : Below w.heap.size w w') : RetMeas w l ok (.returned (.tuple #[v, .bool ok])) w' := by
  obtain ⟨A, c, rfl, _⟩ := h.lst
  exact ⟨A, c, rfl, h.more hb, hB⟩
theorem two_new (w : World) (x y : Value) (t : TypeId) : ∀ j u, [x, y][j]? = some u → (w.alloc (.cells #[x, y] t)).cell? ((⟨w.heap.size, 0, none⟩ : Addr).add j) = some u :=
  fun j u hu => World.news_of_block (heap_alloc_new w _) j u (by simpa using hu)
theorem two_cells (x y : Int) : ∀ u ∈ [Value.int .i64 x, Value.int .i64 y], u.oneCell' = true := by
  intro u hu; simp at hu; rcases hu with rfl | rfl <;> rfl
theorem MRow.nil (w : World) (base : Nat) : MRow w base (.slice none 0 0) [] := ⟨by simp, World.ownsRow_nil _ _ _ _⟩
theorem MRow.toLst {w : World} {b n c : Nat} {A : Option Addr} {l : List (Int × Int)} (h : MRow w b (.slice A n c) l) (hn : l.length = n) : Lst w A n l := by
  subst hn
  obtain ⟨A', c', hv, _, hL, _⟩ := h.lst
  injection hv with e
  subst e
  exact hL
theorem MRow.ne_ {w w1 : World} {b b1 : Nat} {v v1 : Value} {l l1 : List (Int × Int)} (h : MRow w b v l) (h1 : MRow w1 b1 v1 l1) (hw : w.heap.size ≤ b1) : v.ownBlock = none ∨ v.ownBlock ≠ v1.ownBlock := by
  rcases hv : v.ownBlock with _ | k
  · exact .inl rfl
  · right
    intro e
    have a := World.ownsRow.lt h.2 k hv
    have c := World.ownsRow.lt h1.2 k e.symm
    omega

end Go.Proofs.YtgpjnffomheemaaDoor
end
