import Derived.Test.YtgpjnffomheemaaDoorWhole
import Derived.Test.YtgpjnffomheemaaDoorLists
import Derived.Deep.QuietTactic
import Derived.BigQuiet
import Derived.Test.YtgpjnffomheemaaDoorCur

section
/- Contracts of SpotsWithin, of the program and of the reference. -/
namespace Go.Proofs.YtgpjnffomheemaaDoor
open Go.RowKit
set_option linter.unusedVariables false
set_option linter.unusedSimpArgs false
set_option maxRecDepth 100000

def withinTo (x y s : Int) (l : List (Int × Int)) : Nat → List Int
  | 0 => []
  | j + 1 => if sq x y (l.getD j (0, 0)).1 (l.getD j (0, 0)).2 ≤ s then withinTo x y s l j ++ [(j : Int)] else withinTo x y s l j
theorem withinTo_yes {x y s p q : Int} {l : List (Int × Int)} {j : Nat} (hk : l[j]? = some (p, q)) (h : sq x y p q ≤ s) : withinTo x y s l (j + 1) = withinTo x y s l j ++ [(j : Int)] := by
  simp [withinTo, List.getD, hk, h]
theorem withinTo_no {x y s p q : Int} {l : List (Int × Int)} {j : Nat} (hk : l[j]? = some (p, q)) (h : ¬ sq x y p q ≤ s) : withinTo x y s l (j + 1) = withinTo x y s l j := by
  simp [withinTo, List.getD, hk, h]
def mWithin (x y s : Int) (l : List (Int × Int)) : List Int × Bool := if goodB x y && spotsB l && inB s 0 3000000 then (withinTo x y s l l.length, true) else ([], false)

end Go.Proofs.YtgpjnffomheemaaDoor
end

section
/- Copies, sizes and comparisons of measures in the statements. -/
namespace Go.Proofs.YtgpjnffomheemaaDoor
open Go.RowKit
set_option linter.unusedVariables false
set_option linter.unusedSimpArgs false
set_option maxRecDepth 100000

theorem infoMeasure : (Tryd.prog.info? 68).map (fun i => (i.zero, i.size, i.bytes)) = some (some (.agg #[.int .i64 0, .int .i64 0]), 2, 16) := by kernel_rfl

end Go.Proofs.YtgpjnffomheemaaDoor
end

section
/- The laws' own comparisons: two lists that read alike. -/
namespace Go.Proofs.YtgpjnffomheemaaDoor
open Go.RowKit
set_option linter.unusedVariables false
set_option linter.unusedSimpArgs false
set_option maxRecDepth 100000

set_option maxHeartbeats 2000000 in
theorem qMusic_same (A A' : Option Addr) (n c c' : Nat) (l : List (Int × Int)) (w : World) (hp : Lst w A n l) (hp' : Lst w A' n l) :
    Calls Tryd.prog 51 #[.slice A n c, .slice A' n c'] w fun e w' => e = .returned (.bool true) ∧ Below w.heap.size w w' := by
  have HL := Lib.hid hp.1
  have hn := hp.2.1
  go_enter Tryd.func51, Tryd.ntmps51
  go_wp2
  go_loopw [5, 13] (fun s v wr => ∃ k : Nat, k ≤ n ∧ v = .int .i64 k ∧ Below w.heap.size w wr) (fun _ v _ => n - (intOf v).toNat)
  case atStart => exact ⟨0, by omega, rfl, (by (first | with_reducible exact Below.refl _ _ | with_reducible assumption | (repeat (with_reducible first | exact Below.refl _ _ | assumption | refine Below.drew ?_ | refine Below.alloc ?_ (by first | omega | (simp <;> omega)) _ | refine Below.setCell ?_ (by first | omega | (simp <;> omega)) _ | refine below_drewN ?_ _))))⟩
  case round =>
    obtain ⟨k, hk, rfl, hB⟩ := hrel
    by_cases hlt : k < n
    · obtain ⟨g, x, y, rfl, hgl, hx, hh1⟩ := Lst.has (Lst.below hp hB (Nat.le_refl _)) hlt
      obtain ⟨g', x', y', rfl, hgl', hx', hh2⟩ := Lst.has (Lst.below hp' hB (Nat.le_refl _)) hlt
      rw [hx] at hx'
      cases hx'
      clear hx
      have hh := Has.app hh1 hh2
      simp only [List.cons_append, List.nil_append] at hh
      clear hh1 hh2
      have hq := hh
      simp only [Has, and_true] at hq
      have hwr := hB.size
      have hk1 : (k : Int) < n := by omega
      go_wp2_with fail
      go_quiet (fail)
      go_wp2_with fail
      go_roundw
      case rel => exact ⟨k + 1, by omega, by go_num, (by (first | with_reducible exact Below.refl _ _ | with_reducible assumption | (repeat (with_reducible first | exact Below.refl _ _ | assumption | refine Below.drew ?_ | refine Below.alloc ?_ (by first | omega | (simp <;> omega)) _ | refine Below.setCell ?_ (by first | omega | (simp <;> omega)) _ | refine below_drewN ?_ _))))⟩
      case measure => simp [intOf]; omega
    · obtain rfl : k = n := by omega
      go_wp2
      go_ret
      exact ⟨rfl, (by (first | with_reducible exact Below.refl _ _ | with_reducible assumption | (repeat (with_reducible first | exact Below.refl _ _ | assumption | refine Below.drew ?_ | refine Below.alloc ?_ (by first | omega | (simp <;> omega)) _ | refine Below.setCell ?_ (by first | omega | (simp <;> omega)) _ | refine below_drewN ?_ _))))⟩

def hasB (l : List Int) (x : Int) : Bool := l.contains x
theorem contains_take {l : List Int} {k : Nat} {x y : Int} (h : l[k]? = some y) : (l.take (k + 1)).contains x = ((l.take k).contains x || x == y) := by
  obtain ⟨hk, he⟩ := List.getElem?_eq_some_iff.1 h
  rw [List.take_succ_eq_append_getElem hk, he]
  rw [Bool.eq_iff_iff]; simp

theorem big_any (A A' : Option Addr) (n c n' c' : Nat) (w : World) (h1 : n ≤ 9223372036854775807) (h2 : n' ≤ 9223372036854775807) :
    Calls Tryd.prog 6 #[.slice A n c, .slice A' n' c'] w fun e w' => e = .returned (.bool (decide (1048576 < n + n'))) ∧ w = w' := by
  by_cases hn : 1048576 < n
  · have hd : decide (1048576 < n + n') = true := by simp; omega
    rw [hd]
    clear hd
    have hn' : (1048576 : Int) < n := by omega
    go_enter Tryd.func6, Tryd.ntmps6
    go_wp2
    go_ret
    exact ⟨rfl, rfl⟩
  · by_cases hs : 1048576 < n + n'
    · have hd : decide (1048576 < n + n') = true := by simp; omega
      rw [hd]
      clear hd
      have hn' : ¬ (1048576 : Int) < n := by omega
      have hs' : (1048576 : Int) - n < n' := by omega
      go_enter Tryd.func6, Tryd.ntmps6
      go_wp2
      go_ret
      exact ⟨rfl, rfl⟩
    · have hd : decide (1048576 < n + n') = false := by simp; omega
      rw [hd]
      clear hd
      have hn' : ¬ (1048576 : Int) < n := by omega
      have hs' : ¬ (1048576 : Int) - n < n' := by omega
      go_enter Tryd.func6, Tryd.ntmps6
      go_wp2
      go_ret
      exact ⟨rfl, rfl⟩

end Go.Proofs.YtgpjnffomheemaaDoor
end

section
/- A law's body in pieces: the code from a region on, a goal where the walk stands still, what is read of lists and bytes in later worlds. -/
namespace Go.Proofs.YtgpjnffomheemaaDoor
open Go.RowKit
set_option linter.unusedVariables false
set_option linter.unusedSimpArgs false

/-- the first region of a statement -/
def headReg : Code → Option Nat
  | .region n _ _ => some n
  | .seq a _ => headReg a
  | .scope a => headReg a
  | .block _ a => headReg a
  | _ => none
/-- the code from the statement on that begins with region n -/
def sufAt (n : Nat) : Code → Option Code
  | .seq a b => if headReg a = some n then some (.seq a b) else sufAt n b
  | _ => none
noncomputable def sfx (f : Func) (n : Nat) : Code := (f.body.bind (sufAt n)).getD .skip
/-- the walk does not open it -/
def Stop (p : Prop) : Prop := p
theorem stopAt {P : Program} {n : Nat} {o : Array Oper} {d : Bool} {a b : Code} {Q : Exit → Act → World → Prop} {f : Act} {w : World} (h : Stop (Code.wp P (Code.seq (Code.seq (Code.region n o d) a) b) Q f w)) : Code.wp P (Code.seq (Code.seq (Code.region n o d) a) b) Q f w := h
theorem stopAt1 {P : Program} {n : Nat} {o : Array Oper} {d : Bool} {b : Code} {Q : Exit → Act → World → Prop} {f : Act} {w : World} (h : Stop (Code.wp P (Code.seq (Code.region n o d) b) Q f w)) : Code.wp P (Code.seq (Code.region n o d) b) Q f w := h
theorem Bytes.later {w W : World} {n c : Nat} {A : Option Addr} {l : List Int} (h : Bytes w w.heap.size A n c l) (hb : Below w.heap.size w W) : Bytes W W.heap.size A n c l :=
  ⟨h.1, h.2.1, h.2.2.1, fun hn => by
    obtain ⟨g, off, e, hlt, hc⟩ := h.2.2.2 hn
    exact ⟨g, off, e, Nat.lt_of_lt_of_le hlt hb.size, fun i hi => (World.cell?_of_block (w := w) (w' := W) (a := ⟨g, _, none⟩) (hb.block g hlt)).trans (hc i hi)⟩⟩
theorem Lst.at {w : World} {g n k : Nat} {x y : Int} {l : List (Int × Int)} (h : Lst w (some ⟨g, 0, none⟩) n l) (hk : l[k]? = some (x, y)) : Has w [(g, k * 2, .int .i64 x), (g, k * 2 + 1, .int .i64 y)] := by
  have hkl := (List.getElem?_eq_some_iff.1 hk).1
  obtain ⟨g', x', y', e, _, hx, hh⟩ := Lst.has (k := k) h (by have := h.1; omega)
  injection e with e
  injection e with e
  subst e
  rw [hk] at hx
  injection hx with hx
  injection hx with h1 h2
  subst h1 h2
  exact hh
theorem Lst.blk {w : World} {n : Nat} {A : Option Addr} {l : List (Int × Int)} (h : Lst w A n l) (hn : 0 < n) : ∃ g, A = some ⟨g, 0, none⟩ ∧ g < w.heap.size := by
  obtain ⟨g, e, hlt, _⟩ := h.2.2 hn
  exact ⟨g, e, hlt⟩

end Go.Proofs.YtgpjnffomheemaaDoor
end
