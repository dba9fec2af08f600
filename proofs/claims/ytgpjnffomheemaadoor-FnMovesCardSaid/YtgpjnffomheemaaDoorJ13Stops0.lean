import Derived.Test.YtgpjnffomheemaaDoorCur
import Derived.Test.YtgpjnffomheemaaDoorJ2
/- A law's body in pieces: the code from a region on, a goal where the walk stands still, what is read of lists and bytes in later worlds. -/
namespace Go.Proofs.YtgpjnffomheemaaDoor
open Go.RowKit
set_option linter.unusedVariables false
set_option linter.unusedSimpArgs false

/-- the first region of a statement -/
def headReg : Code → Option Nat
  | .region n _ _ => some n
  | .seq a _ => headReg a
  | .scope a => headReg a
  | .block _ a => headReg a
  | _ => none
/-- the code from the statement on that begins with region n -/
def sufAt (n : Nat) : Code → Option Code
  | .seq a b => if headReg a = some n then some (.seq a b) else sufAt n b
  | _ => none
noncomputable def sfx (f : Func) (n : Nat) : Code := (f.body.bind (sufAt n)).getD .skip
/-- the walk does not open it -/
def Stop (p : Prop) : Prop := p
theorem stopAt {P : Program} {n : Nat} {o : Array Oper} {d : Bool} {a b : Code} {Q : Exit → Act → World → Prop} {f : Act} {w : World} (h : Stop (Code.wp P (Code.seq (Code.seq (Code.region n o d) a) b) Q f w)) : Code.wp P (Code.seq (Code.seq (Code.region n o d) a) b) Q f w := h
theorem stopAt1 {P : Program} {n : Nat} {o : Array Oper} {d : Bool} {b : Code} {Q : Exit → Act → World → Prop} {f : Act} {w : World} (h : Stop (Code.wp P (Code.seq (Code.region n o d) b) Q f w)) : Code.wp P (Code.seq (Code.region n o d) b) Q f w := h
theorem Bytes.later {w W : World} {n c : Nat} {A : Option Addr} {l : List Int} (h : Bytes w w.heap.size A n c l) (hb : Below w.heap.size w W) : Bytes W W.heap.size A n c l :=
  ⟨h.1, h.2.1, h.2.2.1, fun hn => by
    obtain ⟨g, off, e, hlt, hc⟩ := h.2.2.2 hn
    exact ⟨g, off, e, Nat.lt_of_lt_of_le hlt hb.size, fun i hi => (World.cell?_of_block (w := w) (w' := W) (a := ⟨g, _, none⟩) (hb.block g hlt)).trans (hc i hi)⟩⟩
theorem Lst.at {w : World} {g n k : Nat} {x y : Int} {l : List (Int × Int)} (h : Lst w (some ⟨g, 0, none⟩) n l) (hk : l[k]? = some (x, y)) : Has w [(g, k * 2, .int .i64 x), (g, k * 2 + 1, .int .i64 y)] := by
  have hkl := (List.getElem?_eq_some_iff.1 hk).1
  obtain ⟨g', x', y', e, _, hx, hh⟩ := Lst.has (k := k) h (by have := h.1; omega)
  injection e with e
  injection e with e
  subst e
  rw [hk] at hx
  injection hx with hx
  injection hx with h1 h2
  subst h1 h2
  exact hh
theorem Lst.blk {w : World} {n : Nat} {A : Option Addr} {l : List (Int × Int)} (h : Lst w A n l) (hn : 0 < n) : ∃ g, A = some ⟨g, 0, none⟩ ∧ g < w.heap.size := by
  obtain ⟨g, e, hlt, _⟩ := h.2.2 hn
  exact ⟨g, e, hlt⟩

end Go.Proofs.YtgpjnffomheemaaDoor

