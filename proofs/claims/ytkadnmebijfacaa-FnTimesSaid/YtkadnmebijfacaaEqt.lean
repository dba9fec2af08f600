/- Contracts of music's functions and draws with letters. -/
import Derived.Test.YtkadnmebijfacaaStops0
import Derived.Test.YtkadnmebijfacaaPTimes
import Derived.Test.YtkadnmebijfacaaMus2
import Derived.Test.YtkadnmebijfacaaWTempo
namespace Go.Proofs.Ytkadnmebijfacaa
open Go.RowKit
set_option linter.unusedVariables false
set_option linter.unusedSimpArgs false
set_option maxRecDepth 100000

theorem MRow.cap {w : World} {b n c : Nat} {A : Option Addr} {l : List (Int × Int)} (h : MRow w b (.slice A n c) l) (hn : l.length = n) : n ≤ c ∧ c ≤ maxLen := by
  obtain ⟨A', c', hv, hc, _⟩ := h.lst
  injection hv with e1 e2 e3
  subst e3
  rw [hn] at hc
  exact hc
theorem one_lst (w : World) (u g : Int) (t : TypeId) : Lst (w.alloc (.cells #[.int .i64 u, .int .i64 g] t)) (some ⟨w.heap.size, 0, none⟩) 1 [(u, g)] := by
  refine ⟨rfl, by omega, fun _ => ⟨w.heap.size, rfl, by simp, fun i hi => ?_⟩⟩
  have hi0 : i = 0 := by simpa using hi
  subst hi0
  have h := Has.alloc2 (t := t) (a := .int .i64 u) (b := .int .i64 g) (Has.nil w)
  exact ⟨⟨h.1.1, h.1.2⟩, ⟨h.2.1.1, h.2.1.2⟩⟩
theorem RetMeas.n {w : World} {l : List (Int × Int)} {ok : Bool} {n : Nat} {e : Ending} {w' : World} (h : RetMeas w l ok e w') (hn : l.length = n) : ∃ A c, e = .returned (.tuple #[.slice A n c, .bool ok]) ∧ Lst w' A n l ∧ Below w.heap.size w w' := by
  subst hn
  obtain ⟨A, c, h1, h2, h3⟩ := h
  exact ⟨A, c, h1, h2.toLst rfl, h3⟩

theorem iCountAt_eq (A : Option Addr) (n c : Nat) (l : List (Int × Int)) (p0 : Int) (k : Int) (ok : Bool) (w : World) (hp : Lst w A n l) (h : mCountAt l p0 = (k, ok)) :
    Calls Try.prog 73 #[.slice A n c, .int .i64 p0] w fun e w' => e = .returned (.tuple #[.int .i64 k, .bool ok]) ∧ Below w.heap.size w w' := by
  have := iCountAt_any A n c l p0 w hp; rw [h] at this; exact this

theorem sCountAt_eq (A : Option Addr) (n c : Nat) (l : List (Int × Int)) (p0 : Int) (k : Int) (ok : Bool) (w : World) (hp : Lst w A n l) (h : mCountAt l p0 = (k, ok)) :
    Calls Try.prog 74 #[.slice A n c, .int .i64 p0] w fun e w' => e = .returned (.tuple #[.int .i64 k, .bool ok]) ∧ Below w.heap.size w w' := by
  have := sCountAt_any A n c l p0 w hp; rw [h] at this; exact this

theorem iLastsFrom_eq (A : Option Addr) (n c : Nat) (l : List (Int × Int)) (p0 p1 : Int) (k : Int) (ok : Bool) (w : World) (hp : Lst w A n l) (h : mLastsFrom l p0 p1 = (k, ok)) :
    Calls Try.prog 76 #[.slice A n c, .int .i64 p0, .int .i64 p1] w fun e w' => e = .returned (.tuple #[.int .i64 k, .bool ok]) ∧ Below w.heap.size w w' := by
  have := iLastsFrom_any A n c l p0 p1 w hp; rw [h] at this; exact this

theorem sLastsFrom_eq (A : Option Addr) (n c : Nat) (l : List (Int × Int)) (p0 p1 : Int) (k : Int) (ok : Bool) (w : World) (hp : Lst w A n l) (h : mLastsFrom l p0 p1 = (k, ok)) :
    Calls Try.prog 77 #[.slice A n c, .int .i64 p0, .int .i64 p1] w fun e w' => e = .returned (.tuple #[.int .i64 k, .bool ok]) ∧ Below w.heap.size w w' := by
  have := sLastsFrom_any A n c l p0 p1 w hp; rw [h] at this; exact this

theorem iTimeOf_eq (A : Option Addr) (n c : Nat) (l : List (Int × Int)) (p0 : Int) (k : Int) (ok : Bool) (w : World) (hp : Lst w A n l) (h : mTimeOf l p0 = (k, ok)) :
    Calls Try.prog 88 #[.slice A n c, .int .i64 p0] w fun e w' => e = .returned (.tuple #[.int .i64 k, .bool ok]) ∧ Below w.heap.size w w' := by
  have := iTimeOf_any A n c l p0 w hp; rw [h] at this; exact this

theorem sTimeOf_eq (A : Option Addr) (n c : Nat) (l : List (Int × Int)) (p0 : Int) (k : Int) (ok : Bool) (w : World) (hp : Lst w A n l) (h : mTimeOf l p0 = (k, ok)) :
    Calls Try.prog 89 #[.slice A n c, .int .i64 p0] w fun e w' => e = .returned (.tuple #[.int .i64 k, .bool ok]) ∧ Below w.heap.size w w' := by
  have := sTimeOf_any A n c l p0 w hp; rw [h] at this; exact this

theorem iCountsOf_eq (A : Option Addr) (n c : Nat) (l : List (Int × Int)) (k : Int) (ok : Bool) (w : World) (hp : Lst w A n l) (h : mCountsOf l = (k, ok)) :
    Calls Try.prog 91 #[.slice A n c] w fun e w' => e = .returned (.tuple #[.int .i64 k, .bool ok]) ∧ Below w.heap.size w w' := by
  have := iCountsOf_any A n c l w hp; rw [h] at this; exact this

theorem iTempo_eq (c t k : Int) (ok : Bool) (w : World) (h : mTempo c t = (k, ok)) :
    Calls Try.prog 85 #[.int .i64 c, .int .i64 t] w fun e w' => e = .returned (.tuple #[.int .i64 k, .bool ok]) ∧ Below w.heap.size w w' := by
  have := iTempo_any c t w; rw [h] at this; exact this.mono fun e w' ⟨h1, h2⟩ => h2 ▸ ⟨h1, Below.refl _ _⟩

theorem iRepeat_n (A : Option Addr) (n c : Nat) (l : List (Int × Int)) (f t p : Int) (r : List (Int × Int)) (m : Nat) (ok : Bool) (w : World) (hp : Lst w A n l) (hc : n ≤ c ∧ c ≤ maxLen) (hm : mRepeat l f t p = (r, ok)) (hn : r.length = m) :
    Calls Try.prog 79 #[.slice A n c, .int .i64 f, .int .i64 t, .int .i64 p] w fun e w' => ∃ A c, e = .returned (.tuple #[.slice A m c, .bool ok]) ∧ Lst w' A m r ∧ Below w.heap.size w w' :=
  (iRepeat_cap A n c l f t p r ok w hp hc.1 hc.2 hm).mono fun e w' h => h.n hn

theorem iWTempo_n (A : Option Addr) (n c : Nat) (l : List (Int × Int)) (f t p : Int) (r : List (Int × Int)) (m : Nat) (ok : Bool) (w : World) (hp : Lst w A n l) (hm : mWithTempo l f t p = (r, ok)) (hn : r.length = m) :
    Calls Try.prog 82 #[.slice A n c, .int .i64 f, .int .i64 t, .int .i64 p] w fun e w' => ∃ A c, e = .returned (.tuple #[.slice A m c, .bool ok]) ∧ Lst w' A m r ∧ Below w.heap.size w w' :=
  (iWTempo_any A n c l f t p r ok w hp hm).mono fun e w' h => h.n hn

theorem sTempo_eq (c t k : Int) (ok : Bool) (w : World) (h : mTempo c t = (k, ok)) :
    Calls Try.prog 86 #[.int .i64 c, .int .i64 t] w fun e w' => e = .returned (.tuple #[.int .i64 k, .bool ok]) ∧ Below w.heap.size w w' := by
  have := sTempo_any c t w; rw [h] at this; exact this.mono fun e w' ⟨h1, h2⟩ => h2 ▸ ⟨h1, Below.refl _ _⟩

theorem sRepeat_n (A : Option Addr) (n c : Nat) (l : List (Int × Int)) (f t p : Int) (r : List (Int × Int)) (m : Nat) (ok : Bool) (w : World) (hp : Lst w A n l) (hc : n ≤ c ∧ c ≤ maxLen) (hm : mRepeat l f t p = (r, ok)) (hn : r.length = m) :
    Calls Try.prog 80 #[.slice A n c, .int .i64 f, .int .i64 t, .int .i64 p] w fun e w' => ∃ A c, e = .returned (.tuple #[.slice A m c, .bool ok]) ∧ Lst w' A m r ∧ Below w.heap.size w w' :=
  (sRepeat_cap A n c l f t p r ok w hp hc.1 hc.2 hm).mono fun e w' h => h.n hn

theorem sWTempo_n (A : Option Addr) (n c : Nat) (l : List (Int × Int)) (f t p : Int) (r : List (Int × Int)) (m : Nat) (ok : Bool) (w : World) (hp : Lst w A n l) (hm : mWithTempo l f t p = (r, ok)) (hn : r.length = m) :
    Calls Try.prog 83 #[.slice A n c, .int .i64 f, .int .i64 t, .int .i64 p] w fun e w' => ∃ A c, e = .returned (.tuple #[.slice A m c, .bool ok]) ∧ Lst w' A m r ∧ Below w.heap.size w w' :=
  (sWTempo_any A n c l f t p r ok w hp hm).mono fun e w' h => h.n hn

theorem drawCountAt_n (A : Option Addr) (n c : Nat) (l : List Int) (w : World) (hB : Bytes w w.heap.size A n c l) (hf : BytesFit l) (hn : n ≤ 9223372036854775807) :
    Calls Try.prog 72 #[.slice A n c] w fun e w' => ∃ (A : Option Addr) (n c : Nat) (q : List (Int × Int)) (k0 : Int), e = .returned (.tuple #[.slice A n c, .int .i64 k0]) ∧ (n ≤ c ∧ c ≤ maxLen) ∧ Lst w' A n q ∧ Below w.heap.size w w' :=
  (drawCountAt_any A n c l w hB hf hn).mono fun e w' ⟨A, c, q, k0, h1, h2, h3, h4⟩ => ⟨A, q.length, c, q, k0, h1, h3.cap rfl, h3.toLst rfl, h4⟩

theorem drawLastsFrom_n (A : Option Addr) (n c : Nat) (l : List Int) (w : World) (hB : Bytes w w.heap.size A n c l) (hf : BytesFit l) (hn : n ≤ 9223372036854775807) :
    Calls Try.prog 75 #[.slice A n c] w fun e w' => ∃ (A : Option Addr) (n c : Nat) (q : List (Int × Int)) (k0 k1 : Int), e = .returned (.tuple #[.slice A n c, .int .i64 k0, .int .i64 k1]) ∧ (n ≤ c ∧ c ≤ maxLen) ∧ Lst w' A n q ∧ Below w.heap.size w w' :=
  (drawLastsFrom_any A n c l w hB hf hn).mono fun e w' ⟨A, c, q, k0, k1, h1, h2, h3, h4⟩ => ⟨A, q.length, c, q, k0, k1, h1, h3.cap rfl, h3.toLst rfl, h4⟩

theorem drawRepeatMeasures_n (A : Option Addr) (n c : Nat) (l : List Int) (w : World) (hB : Bytes w w.heap.size A n c l) (hf : BytesFit l) (hn : n ≤ 9223372036854775807) :
    Calls Try.prog 78 #[.slice A n c] w fun e w' => ∃ (A : Option Addr) (n c : Nat) (q : List (Int × Int)) (k0 k1 k2 : Int), e = .returned (.tuple #[.slice A n c, .int .i64 k0, .int .i64 k1, .int .i64 k2]) ∧ (n ≤ c ∧ c ≤ maxLen) ∧ Lst w' A n q ∧ Below w.heap.size w w' :=
  (drawRepeatMeasures_any A n c l w hB hf hn).mono fun e w' ⟨A, c, q, k0, k1, k2, h1, h2, h3, h4⟩ => ⟨A, q.length, c, q, k0, k1, k2, h1, h3.cap rfl, h3.toLst rfl, h4⟩

theorem drawWithTempo_n (A : Option Addr) (n c : Nat) (l : List Int) (w : World) (hB : Bytes w w.heap.size A n c l) (hf : BytesFit l) (hn : n ≤ 9223372036854775807) :
    Calls Try.prog 81 #[.slice A n c] w fun e w' => ∃ (A : Option Addr) (n c : Nat) (q : List (Int × Int)) (k0 k1 k2 : Int), e = .returned (.tuple #[.slice A n c, .int .i64 k0, .int .i64 k1, .int .i64 k2]) ∧ (n ≤ c ∧ c ≤ maxLen) ∧ Lst w' A n q ∧ Below w.heap.size w w' :=
  (drawWithTempo_any A n c l w hB hf hn).mono fun e w' ⟨A, c, q, k0, k1, k2, h1, h2, h3, h4⟩ => ⟨A, q.length, c, q, k0, k1, k2, h1, h3.cap rfl, h3.toLst rfl, h4⟩

theorem drawTimeOf_n (A : Option Addr) (n c : Nat) (l : List Int) (w : World) (hB : Bytes w w.heap.size A n c l) (hf : BytesFit l) (hn : n ≤ 9223372036854775807) :
    Calls Try.prog 87 #[.slice A n c] w fun e w' => ∃ (A : Option Addr) (n c : Nat) (q : List (Int × Int)) (k0 : Int), e = .returned (.tuple #[.slice A n c, .int .i64 k0]) ∧ (n ≤ c ∧ c ≤ maxLen) ∧ Lst w' A n q ∧ Below w.heap.size w w' :=
  (drawTimeOf_any A n c l w hB hf hn).mono fun e w' ⟨A, c, q, k0, h1, h2, h3, h4⟩ => ⟨A, q.length, c, q, k0, h1, h3.cap rfl, h3.toLst rfl, h4⟩

end Go.Proofs.Ytkadnmebijfacaa

