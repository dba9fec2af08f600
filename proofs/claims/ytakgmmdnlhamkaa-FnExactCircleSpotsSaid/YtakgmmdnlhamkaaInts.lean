/- Slices of ints of the call's own: comparison, marking and holding, as the statements do it. -/
import Derived.Test.YtakgmmdnlhamkaaLists
import Derived.Laws.OwnMore
import Derived.Laws.AppendOwn
import Derived.OwnWalk
import Derived.Deep.QuietTactic
import Derived.BigQuiet
namespace Go.Proofs.Ytakgmmdnlhamkaa
open Go.RowKit
set_option linter.unusedVariables false
set_option linter.unusedSimpArgs false
set_option maxRecDepth 100000

/-- a row of ints of the call's own, from block base on -/
def IRow (w : World) (base : Nat) (v : Value) (l : List Int) : Prop := l.length ≤ 1048576 ∧ w.ownsRow base 3 1 v l.length (l.map (Value.int .i64))
theorem IRow.below {w w' : World} {base : Nat} {v : Value} {l : List Int} (h : IRow w base v l) {B : Nat} (hb : Below B w w') (hB : w.heap.size ≤ B) : IRow w' base v l := by
  refine ⟨h.1, h.2.1, ?_⟩
  rcases h.2.2 with h0 | ⟨g, cap, cur, hv, hbg, hh, h1, h2, h3, h4⟩
  · exact .inl h0
  · have hlt : g < w.heap.size := by
      rcases Nat.lt_or_ge g w.heap.size with hlt | hge
      · exact hlt
      · rw [Array.getElem?_eq_none hge] at hh; cases hh
    exact .inr ⟨g, cap, cur, hv, hbg, (hb.block g (by omega)).trans hh, h1, h2, h3, h4⟩
theorem IRow.form {w : World} {base : Nat} {v : Value} {l : List Int} (h : IRow w base v l) : ∃ A c, v = .slice A l.length c ∧ (l.length ≤ c ∧ c ≤ maxLen) ∧ (0 < l.length → ∃ g, A = some ⟨g, 0, none⟩ ∧ base ≤ g ∧ g < w.heap.size ∧ v.ownBlock = some g ∧
    ∀ j (hj : j < l.length), Has w [(g, j, .int .i64 l[j])]) := by
  rcases h.2.2 with ⟨rfl, h0⟩ | ⟨g, cap, cur, rfl, hbg, hh, h1, h2, h3, h4⟩
  · exact ⟨none, 0, by rw [h0], ⟨by omega, by simp [maxLen]⟩, fun hl => absurd hl (by omega)⟩
  · refine ⟨_, cap, rfl, ⟨h1, h2⟩, fun hl => ⟨g, rfl, hbg, ?_, rfl, fun j hj => ⟨⟨?_, ?_⟩, trivial⟩⟩⟩
    · rcases Nat.lt_or_ge g w.heap.size with hlt | hge
      · exact hlt
      · rw [Array.getElem?_eq_none hge] at hh; cases hh
    · have := World.ownsRow.cellAt h.2 j (by omega)
      rw [this]
      simp [hj]
    · exact World.ownsRow.frozenAt h.2 j
theorem IRow.ne_ {w w1 : World} {b b1 : Nat} {v v1 : Value} {l l1 : List Int} (h : IRow w b v l) (h1 : IRow w1 b1 v1 l1) (hw : w.heap.size ≤ b1) : v.ownBlock = none ∨ v.ownBlock ≠ v1.ownBlock := by
  rcases hv : v.ownBlock with _ | k
  · exact .inl rfl
  · right
    intro e
    have a := World.ownsRow.lt h.2 k hv
    have c := World.ownsRow.lt h1.2 k e.symm
    omega
theorem IRow.kept {w w' : World} {base : Nat} {v : Value} {l : List Int} {row : Option Nat} (h : IRow w base v l) (hg : w.grownBy w' row) (hne : v.ownBlock = none ∨ v.ownBlock ≠ row) : IRow w' base v l := ⟨h.1, World.ownsRow.kept h.2 hg hne⟩
def marks (n : Nat) : List Int := List.map (fun i : Nat => (i : Int) + 1) (List.range n)

set_option maxHeartbeats 2000000 in
theorem eqIntS_same (v v' : Value) (b b' : Nat) (l : List Int) (w : World) (hp : IRow w b v l) (hp' : IRow w b' v' l) :
    Calls Try.prog 20 #[v, v'] w fun e w' => e = .returned (.bool true) ∧ Below w.heap.size w w' := by
  obtain ⟨A, c, rfl, hc, hrow⟩ := hp.form
  obtain ⟨A', c', rfl, hc', hrow'⟩ := hp'.form
  have hn := hp.1
  obtain ⟨n, hnl⟩ : ∃ n, l.length = n := ⟨_, rfl⟩
  have HL := Lib.hid hnl
  rw [hnl] at hn ⊢
  clear hc hc' hnl hrow hrow'
  go_enter Try.func20, Try.ntmps20
  go_wp2
  go_loopw [5] (fun v wr => ∃ k : Nat, k ≤ n ∧ v = .int .i64 k ∧ Below w.heap.size w wr) (fun v _ => n - (intOf v).toNat)
  case atStart => exact ⟨0, by omega, rfl, (by (first | with_reducible exact Below.refl _ _ | with_reducible assumption | (repeat (with_reducible first | exact Below.refl _ _ | assumption | refine Below.drew ?_ | refine Below.alloc ?_ (by first | omega | (simp <;> omega)) _ | refine Below.setCell ?_ (by first | omega | (simp <;> omega)) _ | refine below_drewN ?_ _))))⟩
  case round =>
    obtain ⟨k, hk, rfl, hB⟩ := hrel
    by_cases hlt : k < n
    · obtain ⟨A1, c1, hv1, _, hr1⟩ := (hp.below hB (Nat.le_refl _)).form
      obtain ⟨A2, c2, hv2, _, hr2⟩ := (hp'.below hB (Nat.le_refl _)).form
      obtain ⟨g, hA, _, hgl, _, hcell⟩ := hr1 (by have := HL.out; omega)
      obtain ⟨g', hA', _, hgl', _, hcell'⟩ := hr2 (by have := HL.out; omega)
      obtain ⟨x, hx⟩ : ∃ x, l[k]'(by have := HL.out; omega) = x := ⟨_, rfl⟩
      have q1 := hcell k (by have := HL.out; omega)
      have q2 := hcell' k (by have := HL.out; omega)
      rw [hx] at q1 q2
      clear hcell hcell' hx hr1 hr2
      subst hA hA'
      injection hv1 with e1 e2 e3
      injection hv2 with e4 e5 e6
      subst e1 e4
      clear e2 e3 e5 e6
      simp only [Has, and_true] at q1 q2
      have hk1 : (k : Int) < n := by omega
      go_wp2_with fail
      go_quiet (fail)
      go_wp2_with fail
      go_roundw
      case rel => exact ⟨k + 1, by omega, by go_num, (by (first | with_reducible exact Below.refl _ _ | with_reducible assumption | (repeat (with_reducible first | exact Below.refl _ _ | assumption | refine Below.drew ?_ | refine Below.alloc ?_ (by first | omega | (simp <;> omega)) _ | refine Below.setCell ?_ (by first | omega | (simp <;> omega)) _ | refine below_drewN ?_ _))))⟩
      case measure => simp [intOf]; omega
    · obtain rfl : k = n := by omega
      go_wp2
      go_ret
      exact ⟨rfl, (by (first | with_reducible exact Below.refl _ _ | with_reducible assumption | (repeat (with_reducible first | exact Below.refl _ _ | assumption | refine Below.drew ?_ | refine Below.alloc ?_ (by first | omega | (simp <;> omega)) _ | refine Below.setCell ?_ (by first | omega | (simp <;> omega)) _ | refine below_drewN ?_ _))))⟩

theorem ownBlock_some {g : Nat} {n c : Nat} : (Value.slice (some ⟨g, 0, none⟩) n c).ownBlock = some g := rfl
/-- a row that is a block of ints at g, place by place -/
def MarkTo (w0 w : World) (cap g n k : Nat) : Prop := g < w0.heap.size ∧ w0.grownBy w (some g) ∧ (∃ cur, w.heap[g]? = some (.cells cur 3 (0, 0)) ∧ n ≤ cap ∧ cap ≤ maxLen ∧ cur.size = cap ∧ ∀ j, j < k → cur[j]? = some (.int .i64 ((j : Int) + 1)))
theorem MarkTo.has {w0 w : World} {cap g n k j : Nat} (h : MarkTo w0 w cap g n k) (hj : j < n) : ∃ u, Has w [(g, j, u)] := by
  obtain ⟨h1, h2, cur, hh, h3, h4, h5, h6⟩ := h
  have hjc : j < cur.size := by omega
  refine ⟨cur[j], ⟨?_, ?_⟩, trivial⟩
  · rw [cell_of_row _ _ _ _ _ (0, 0) hh]; exact Array.getElem?_eq_getElem hjc
  · unfold World.frozen?; rw [hh]; simp
theorem MarkTo.step {w0 w : World} {cap g n k : Nat} (h : MarkTo w0 w cap g n k) (hk : k < n) : MarkTo w0 (w.setCell ⟨g, k, none⟩ (.int .i64 ((k : Int) + 1))) cap g n (k + 1) := by
  obtain ⟨h1, h2, cur, hh, h3, h4, h5, h6⟩ := h
  refine ⟨h1, ⟨h2.os, h2.tape, h2.output, by simpa [World.setCell] using h2.size, fun i hi hne => (Below.heap_setCell w _ _ i (fun e => hne (by rw [e]))).trans (h2.block i hi hne)⟩, cur.setIfInBounds k (.int .i64 ((k : Int) + 1)), ?_, h3, h4, by simpa using h5, fun j hj => ?_⟩
  · simp [World.setCell, Array.getElem?_modify, hh]
  · by_cases e : j = k
    · subst e; rw [Array.getElem?_setIfInBounds_self_of_lt (by omega)]
    · rw [Array.getElem?_setIfInBounds_ne (by omega)]; exact h6 j (by omega)

def RetMark (w : World) (b : Nat) (v : Value) (n : Nat) (e : Ending) (w' : World) : Prop :=
  e = .returned (.int .i64 ((n : Int) + 1)) ∧ IRow w' b v (marks n) ∧ w.grownBy w' v.ownBlock

set_option maxHeartbeats 2000000 in
theorem markIntS_any (v : Value) (b : Nat) (l : List Int) (w : World) (hp : IRow w b v l) :
    Calls Try.prog 21 #[v, .int .i64 1] w (RetMark w b v l.length) := by
  have hn := hp.1
  obtain ⟨n, hnl⟩ : ∃ n, l.length = n := ⟨_, rfl⟩
  have HL := Lib.hid hnl
  rcases hp.2.2 with ⟨rfl, h0⟩ | ⟨g, cap, cur, rfl, hbg, hh, h1, h2, h3, h4⟩
  · have HP := hp
    rw [h0] at *
    go_enter Try.func21, Try.ntmps21
    go_wp2
    go_loop [1, 5] (fun s1 s5 => s1 = .int .i64 1 ∧ s5 = .int .i64 0) (fun _ _ => 0)
    case atStart => exact ⟨rfl, rfl⟩
    case round =>
      obtain ⟨rfl, rfl⟩ := hrel
      go_wp2
      go_ret
      exact ⟨rfl, ⟨by simp [marks], World.ownsRow_nil _ _ _ _⟩, World.grownBy.refl _ _⟩
  · rw [hnl] at hn h1 ⊢
    clear hnl
    have hgl : g < w.heap.size := by
      rcases Nat.lt_or_ge g w.heap.size with hlt | hge
      · exact hlt
      · rw [Array.getElem?_eq_none hge] at hh; cases hh
    have HM : MarkTo w w cap g n 0 := ⟨hgl, World.grownBy.refl _ _, cur, hh, h1, h2, by omega, fun j hj => absurd hj (by omega)⟩
    clear h4 h3 hh
    go_enter Try.func21, Try.ntmps21
    go_wp2
    go_loopw [1, 5] (fun s1 s5 wr => ∃ k : Nat, k ≤ n ∧ s5 = .int .i64 k ∧ s1 = .int .i64 ((k : Int) + 1) ∧ MarkTo w wr cap g n k) (fun _ v _ => n - (intOf v).toNat)
    case atStart => exact ⟨0, by omega, rfl, rfl, HM⟩
    case round =>
      obtain ⟨k, hk, rfl, rfl, HK⟩ := hrel
      by_cases hlt : k < n
      · obtain ⟨u, hq⟩ := HK.has hlt
        simp only [Has, and_true] at hq
        go_wp2
        go_roundw
        case rel => exact ⟨k + 1, by omega, by go_num, by go_num, HK.step hlt⟩
        case measure => simp [intOf]; omega
      · obtain rfl : k = n := by omega
        go_wp2
        go_ret
        obtain ⟨_, hg, cur', hh', c1, c2, c3, c4⟩ := HK
        refine ⟨rfl, ⟨by simpa [marks] using hn, by simp [marks], .inr ⟨g, cap, cur', by simp [marks], hbg, hh', by simpa [marks] using c1, c2, by omega, ?_⟩⟩, hg⟩
        apply List.ext_getElem?
        intro i
        rw [List.getElem?_take]
        simp only [marks, List.length_map, List.length_range, Nat.mul_one, List.getElem?_map]
        by_cases hi : i < k
        · rw [if_pos hi, Array.getElem?_toList, c4 i hi, List.getElem?_range hi]; rfl
        · rw [if_neg hi, List.getElem?_eq_none (by simp; omega)]; rfl

set_option maxHeartbeats 2000000 in
theorem heldIntS_marks (v : Value) (b n : Nat) (w : World) (hp : IRow w b v (marks n)) :
    Calls Try.prog 22 #[v, .int .i64 1] w fun e w' => e = .returned (.int .i64 ((n : Int) + 1)) ∧ w = w' := by
  have hml : (marks n).length = n := by simp [marks]
  obtain ⟨A, c, rfl, hc, hrow⟩ := hp.form
  have hn := hp.1
  rw [hml] at hn hc ⊢
  have HR : Hid (∀ k, k < n → ∃ g, A = some ⟨g, 0, none⟩ ∧ Has w [(g, k, .int .i64 ((k : Int) + 1))]) := by
    intro k hk
    obtain ⟨g, hA, _, _, _, hcell⟩ := hrow (by rw [hml]; omega)
    exact ⟨g, hA, by have := hcell k (by rw [hml]; exact hk); simpa [marks] using this⟩
  clear hrow hml
  go_enter Try.func22, Try.ntmps22
  go_wp2
  go_loop [1, 5] (fun s1 s5 => ∃ k : Nat, k ≤ n ∧ s5 = .int .i64 k ∧ s1 = .int .i64 ((k : Int) + 1)) (fun _ v => n - (intOf v).toNat)
  case atStart => exact ⟨0, by omega, rfl, rfl⟩
  case round =>
    obtain ⟨k, hk, rfl, rfl⟩ := hrel
    by_cases hlt : k < n
    · obtain ⟨g, rfl, hq⟩ := HR.out k hlt
      simp only [Has, and_true] at hq
      go_wp2
      go_round
      case rel => exact ⟨k + 1, by omega, by go_num, by go_num⟩
      case measure => simp [intOf]; omega
    · obtain rfl : k = n := by omega
      go_wp2
      go_ret
      exact ⟨rfl, rfl⟩

end Go.Proofs.Ytakgmmdnlhamkaa

