/- How the arguments of a statement read: an int, a pair of ints, a move, a slice of pairs, a string, bytes; each as plain numbers. -/
import Derived.Test.YtgpjnffomheemaaDoorRows
import Derived.WalkKit
import Derived.ProofKit
import Derived.OpenShut
import Derived.ShutString
import Derived.ChangeOld
import Derived.Below
import Derived.Deep.Slices
namespace Go.Proofs.YtgpjnffomheemaaDoor
open Go.ChangeShapes Go.WideShapes Go.ChangeAt Go.RowKit Go.Deep
set_option linter.unusedVariables false
set_option linter.unusedSimpArgs false

/-- a slice of pairs of ints: its elements, and where they lie -/
def Pairs (w : World) (B : Nat) (A : Option Addr) (n c : Nat) (l : List (Int × Int)) : Prop :=
  l.length = n ∧ n ≤ c ∧ c ≤ maxLen ∧ (0 < n → ∃ b off, A = some ⟨b, off, none⟩ ∧ b < B ∧
    ∀ i (h : i < l.length), w.cell? ⟨b, off + i * 2, none⟩ = some (.int .i64 l[i].1) ∧ w.cell? ⟨b, off + i * 2 + 1, none⟩ = some (.int .i64 l[i].2))
/-- each number of a list of pairs fits an int -/
def PairsFit (l : List (Int × Int)) : Prop := ∀ p ∈ l, (Lit.int .i64 p.1).wf = true ∧ (Lit.int .i64 p.2).wf = true
/-- a slice of bytes -/
def Bytes (w : World) (B : Nat) (A : Option Addr) (n c : Nat) (l : List Int) : Prop :=
  l.length = n ∧ n ≤ c ∧ c ≤ maxLen ∧ (0 < n → ∃ b off, A = some ⟨b, off, none⟩ ∧ b < B ∧ ∀ i (h : i < l.length), w.cell? ⟨b, off + i, none⟩ = some (.int .u8 l[i]))
def BytesFit (l : List Int) : Prop := ∀ x ∈ l, (Lit.int .u8 x).wf = true

theorem addr_add (b off n : Nat) : (Addr.mk b off none).add n = ⟨b, off + n, none⟩ := by
  unfold Addr.add
  by_cases h : n = 0 <;> simp [h]

section
variable {H : Type} {enc : TypeId × Value → H} {P : Program} {w : World} {base : Nat} {spare : Nat → Bool} {held : Bool}

theorem trod_pair {t e : TypeId} {f0 f1 : Field} {fuel : Nat} {cs : List Value} {x : DataW H × List MemPlace} (hs : P.underlying t = some (.struct #[f0, f1])) (h0 : f0.type = e) (h1 : f1.type = e) (o0 : f0.offset = 0) (o1 : f1.offset = 1)
    (he : P.underlying e = some (.int .i64)) (hce : P.cellsOf e = 1) (hct : P.cellsOf t = 2) (h : DataW.trod enc P w base spare held fuel t cs = some x) :
    ∃ a b : Int, cs = [.int .i64 a, .int .i64 b] ∧ (Lit.int .i64 a).wf = true ∧ (Lit.int .i64 b).wf = true := by
  obtain ⟨xs, n, rfl, hx, hlen, hxl, hf⟩ := DataW.trod_struct hs h
  rw [hct] at hlen
  match cs, hlen with
  | [c0, c1], _ =>
    have g0 := hf 0 f0 rfl
    have g1 := hf 1 f1 rfl
    rw [h0, o0, hce] at g0
    rw [h1, o1, hce] at g1
    match xs, hxl with
    | [y0, y1], _ =>
      obtain ⟨a, ha, _, wa⟩ := DataW.trod_int he g0
      obtain ⟨b, hb, _, wb⟩ := DataW.trod_int he g1
      simp at ha hb
      subst ha hb
      exact ⟨a, b, rfl, wa, wb⟩

theorem open_pair {r : Reach} {b0 : Nat} {t e : TypeId} {f0 f1 : Field} {v : Value} {d : DataW H} {p : List MemPlace} (hs : P.underlying t = some (.struct #[f0, f1])) (h0 : f0.type = e) (h1 : f1.type = e) (o0 : f0.offset = 0) (o1 : f1.offset = 1)
    (he : P.underlying e = some (.int .i64)) (hce : P.cellsOf e = 1) (hct : P.cellsOf t = 2) (hv : Value.okWide P w r b0 t v) (h : DataW.Trod enc P w base spare held t v d p) :
    ∃ a b : Int, v = .agg #[.int .i64 a, .int .i64 b] ∧ (Lit.int .i64 a).wf = true ∧ (Lit.int .i64 b).wf = true := by
  obtain ⟨cs, rfl, hsz⟩ := okWide_struct hs hv
  obtain ⟨fuel, hf⟩ := h
  obtain ⟨a, b, hab, wa, wb⟩ := trod_pair hs h0 h1 o0 o1 he hce hct hf
  refine ⟨a, b, ?_, wa, wb⟩
  have : cs.toList = [.int .i64 a, .int .i64 b] := by simpa [Value.cells] using hab
  rw [← Array.toArray_toList (xs := cs), this]

theorem open_move {r : Reach} {b0 : Nat} {t s e : TypeId} {f0 f1 g0 g1 g2 : Field} {v : Value} {d : DataW H} {p : List MemPlace} (hs : P.underlying s = some (.struct #[f0, f1])) (h0 : f0.type = e) (h1 : f1.type = e) (o0 : f0.offset = 0) (o1 : f1.offset = 1)
    (he : P.underlying e = some (.int .i64)) (hce : P.cellsOf e = 1) (hcs : P.cellsOf s = 2) (ht : P.underlying t = some (.struct #[g0, g1, g2])) (k0 : g0.type = s) (k1 : g1.type = s) (k2 : g2.type = e)
    (p0 : g0.offset = 0) (p1 : g1.offset = 2) (p2 : g2.offset = 4) (hct : P.cellsOf t = 5) (hv : Value.okWide P w r b0 t v) (h : DataW.Trod enc P w base spare held t v d p) :
    ∃ a b a' b' c : Int, v = .agg #[.int .i64 a, .int .i64 b, .int .i64 a', .int .i64 b', .int .i64 c] ∧ (Lit.int .i64 a).wf = true ∧ (Lit.int .i64 b).wf = true ∧ (Lit.int .i64 a').wf = true ∧ (Lit.int .i64 b').wf = true ∧ (Lit.int .i64 c).wf = true := by
  obtain ⟨cs, rfl, hsz⟩ := okWide_struct ht hv
  obtain ⟨fuel, hf⟩ := h
  obtain ⟨xs, n, rfl, hx, hlen, hxl, hg⟩ := DataW.trod_struct ht hf
  obtain ⟨l⟩ := cs
  simp only [Value.cells] at hg hlen
  rw [hct] at hlen
  match l, hlen with
  | [c0, c1, c2, c3, c4], _ =>
    have q0 := hg 0 g0 rfl
    have q1 := hg 1 g1 rfl
    have q2 := hg 2 g2 rfl
    rw [k0, p0, hcs] at q0
    rw [k1, p1, hcs] at q1
    rw [k2, p2, hce] at q2
    match xs, hxl with
    | [y0, y1, y2], _ =>
      obtain ⟨a, b, ha, wa, wb⟩ := trod_pair hs h0 h1 o0 o1 he hce hcs q0
      obtain ⟨a', b', ha', wa', wb'⟩ := trod_pair hs h0 h1 o0 o1 he hce hcs q1
      obtain ⟨c, hc, _, wc⟩ := DataW.trod_int he q2
      simp at ha ha' hc
      obtain ⟨rfl, rfl⟩ := ha
      obtain ⟨rfl, rfl⟩ := ha'
      subst hc
      exact ⟨a, b, a', b', c, rfl, wa, wb, wa', wb', wc⟩

theorem open_pairs {r : Reach} {b0 : Nat} {t s e : TypeId} {f0 f1 : Field} {v : Value} {d : DataW H} {p : List MemPlace} (hs : P.underlying s = some (.struct #[f0, f1])) (h0 : f0.type = e) (h1 : f1.type = e) (o0 : f0.offset = 0) (o1 : f1.offset = 1)
    (he : P.underlying e = some (.int .i64)) (hce : P.cellsOf e = 1) (hcs : P.cellsOf s = 2) (ht : P.underlying t = some (.slice s)) (hv : Value.okWide P w r b0 t v) (h : DataW.Trod enc P w 0 (fun _ => true) held t v d p) :
    ∃ (A : Option Addr) (n c : Nat) (l : List (Int × Int)), v = .slice A n c ∧ Pairs w w.heap.size A n c l ∧ PairsFit l := by
  obtain ⟨A, n, c, rfl⟩ := okWide_slice ht hv
  obtain ⟨fuel, hf⟩ := h
  rcases open_slice ht hf with ⟨hcs', _⟩ | ⟨a, len, cap, m, n', D, Pl, hcs', hb, hl, hm, hmm, hx, hi⟩
  · simp [Value.cells] at hcs'
    obtain ⟨rfl, rfl, rfl⟩ := hcs'
    exact ⟨_, _, _, [], rfl, ⟨rfl, Nat.le_refl _, Nat.zero_le _, fun h => absurd h (by omega)⟩, fun p hp => by cases hp⟩
  · simp [Value.cells] at hcs'
    obtain ⟨rfl, rfl, rfl⟩ := hcs'
    have hlm : n ≤ m := by rw [hmm]; split <;> omega
    have key : ∀ i, i < n → ∃ q : Int × Int, w.cell? (a.add (i * 2)) = some (.int .i64 q.1) ∧ w.cell? (a.add (i * 2 + 1)) = some (.int .i64 q.2) ∧ (Lit.int .i64 q.1).wf = true ∧ (Lit.int .i64 q.2).wf = true := by
      intro i hin
      obtain ⟨cs1, hc1, ht1⟩ := hi i (by omega)
      rw [hcs] at hc1
      obtain ⟨_, hl1, hat⟩ := World.cells?_some hc1
      obtain ⟨x, y, rfl, wx, wy⟩ := trod_pair hs h0 h1 o0 o1 he hce hcs ht1
      have e0 := hat 0 (by omega)
      have e1 := hat 1 (by omega)
      rw [Go.Deep.add_add] at e0 e1
      exact ⟨(x, y), by simpa using e0, by simpa using e1, wx, wy⟩
    obtain ⟨V, hV⟩ := choose_lt (α := Int × Int) (p := fun i q => w.cell? (a.add (i * 2)) = some (.int .i64 q.1) ∧ w.cell? (a.add (i * 2 + 1)) = some (.int .i64 q.2) ∧ (Lit.int .i64 q.1).wf = true ∧ (Lit.int .i64 q.2).wf = true) key
    refine ⟨_, _, _, (List.range n).map V, rfl, ⟨by simp, hl, hm, fun hn => ?_⟩, ?_⟩
    · obtain ⟨b, off, sp⟩ := a
      have hs0 := (hV 0 hn).1
      have hsp : sp = none := by simpa [Addr.add] using World.cell?_spot hs0
      subst hsp
      refine ⟨b, off, rfl, ?_, fun i hil => ?_⟩
      · rw [addr_add] at hs0
        rcases Nat.lt_or_ge b w.heap.size with hlt | hge
        · exact hlt
        · simp [World.cell?, Array.getElem?_eq_none hge] at hs0
      · have := hV i (by simpa using hil)
        rw [addr_add, addr_add] at this
        simpa [Nat.add_assoc] using ⟨this.1, this.2.1⟩
    · intro q hq
      obtain ⟨i, hir, rfl⟩ := List.mem_map.1 hq
      have := hV i (by simpa using hir)
      exact ⟨this.2.2.1, this.2.2.2⟩

theorem open_bytes {r : Reach} {b0 : Nat} {t e : TypeId} {v : Value} {d : DataW H} {p : List MemPlace} (ht : P.underlying t = some (.slice e)) (he : P.underlying e = some (.int .u8)) (hce : P.cellsOf e = 1)
    (hv : Value.okWide P w r b0 t v) (h : DataW.Trod enc P w 0 (fun _ => true) held t v d p) :
    ∃ (A : Option Addr) (n c : Nat) (l : List Int), v = .slice A n c ∧ Bytes w w.heap.size A n c l ∧ BytesFit l := by
  obtain ⟨A, n, c, rfl⟩ := okWide_slice ht hv
  obtain ⟨fuel, hf⟩ := h
  rcases open_slice1 ht hce hf with ⟨hcs', _⟩ | ⟨a, len, cap, m, n', V, D, Pl, hcs', hb, hl, hm, hmm, hx, hi⟩
  · simp [Value.cells] at hcs'
    obtain ⟨rfl, rfl, rfl⟩ := hcs'
    exact ⟨_, _, _, [], rfl, ⟨rfl, Nat.le_refl _, Nat.zero_le _, fun h => absurd h (by omega)⟩, fun p hp => by cases hp⟩
  · simp [Value.cells] at hcs'
    obtain ⟨rfl, rfl, rfl⟩ := hcs'
    have hlm : n ≤ m := by rw [hmm]; split <;> omega
    have key : ∀ i, i < n → ∃ q : Int, w.cell? (a.add i) = some (.int .u8 q) ∧ (Lit.int .u8 q).wf = true := by
      intro i hin
      obtain ⟨hc1, ht1⟩ := hi i (by omega)
      obtain ⟨x, hx, _, wx⟩ := DataW.trod_int he ht1
      simp at hx
      rw [hx] at hc1
      exact ⟨x, hc1, wx⟩
    obtain ⟨U, hU⟩ := choose_lt (α := Int) (p := fun i q => w.cell? (a.add i) = some (.int .u8 q) ∧ (Lit.int .u8 q).wf = true) key
    refine ⟨_, _, _, (List.range n).map U, rfl, ⟨by simp, hl, hm, fun hn => ?_⟩, ?_⟩
    · obtain ⟨b, off, sp⟩ := a
      have hs0 := (hU 0 hn).1
      have hsp : sp = none := by simpa [Addr.add] using World.cell?_spot hs0
      subst hsp
      refine ⟨b, off, rfl, ?_, fun i hil => ?_⟩
      · rw [addr_add] at hs0
        rcases Nat.lt_or_ge b w.heap.size with hlt | hge
        · exact hlt
        · simp [World.cell?, Array.getElem?_eq_none hge] at hs0
      · have := hU i (by simpa using hil)
        rw [addr_add] at this
        simpa using this.1
    · intro q hq
      obtain ⟨i, hir, rfl⟩ := List.mem_map.1 hq
      exact (hU i (by simpa using hir)).2
end
end Go.Proofs.YtgpjnffomheemaaDoor

