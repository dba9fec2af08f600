/- The cursor of the drawn values: what it holds, what a step of it changes; next, pick, one, among. -/
import Derived.Test.YtgpjnffomheemaaDoorWhole
import Derived.Test.YtgpjnffomheemaaDoorOpen
import Derived.Deep.QuietTactic
import Derived.BigQuiet
import Derived.Laws.Bits64b
namespace Go.Proofs.YtgpjnffomheemaaDoor
open Go.RowKit
set_option linter.unusedVariables false
set_option linter.unusedSimpArgs false
set_option maxRecDepth 100000

/-- w' is w but for block b and new blocks -/
def Grow (w : World) (b : Nat) (w' : World) : Prop := w.grownBy w' (some b)
theorem Grow.refl (w : World) (b : Nat) : Grow w b w := World.grownBy.refl _ _
theorem Grow.trans {a w w' : World} {b : Nat} (h : Grow a b w) (h' : Grow w b w') : Grow a b w' := World.grownBy.trans h h'
theorem Grow.size {w w' : World} {b : Nat} (h : Grow w b w') : w.heap.size ≤ w'.heap.size := World.grownBy.size h
theorem Grow.drew {a w : World} {b : Nat} (h : Grow a b w) : Grow a b w.drew := ⟨h.os, h.tape, h.output, h.size, h.block⟩
theorem Grow.drewN {a w : World} {b n : Nat} (h : Grow a b w) : Grow a b (w.drewN n) := ⟨h.os, h.tape, h.output, h.size, h.block⟩
theorem Grow.set {a w : World} {b g o : Nat} {v : Value} (h : Grow a b w) (hg : g = b ∨ a.heap.size ≤ g) : Grow a b (w.setCell ⟨g, o, none⟩ v) := by
  refine ⟨h.os, h.tape, h.output, by simpa [World.setCell] using h.size, fun i hi hne => ?_⟩
  rw [← h.block i hi hne]
  refine Below.heap_setCell w _ _ i (fun e => ?_)
  have e' : i = g := e
  rcases hg with rfl | hg
  · exact hne (by rw [e'])
  · omega
theorem Grow.ofBelow {w w' : World} {b : Nat} (h : Below w.heap.size w w') : Grow w b w' := ⟨h.os, h.tape, h.output, h.size, fun i hi _ => h.block i hi⟩
theorem Grow.alloc {a w : World} {b : Nat} (h : Grow a b w) (o : Obj) : Grow a b (w.alloc o) := h.trans (Grow.ofBelow ((Below.refl _ _).alloc (Nat.le_refl _) o))
theorem Grow.below {w w' : World} {b B : Nat} (h : Grow w b w') (h1 : B ≤ b) (h2 : B ≤ w.heap.size) : Below B w w' := ⟨h.os, h.tape, h.output, h.size, fun i hi => h.block i (by omega) (by intro e; injection e; omega)⟩
theorem Has.grow {w w' : World} {b : Nat} {m : List (Nat × Nat × Value)} (h : Has w m) (hg : Grow w b w') (hne : ∀ e ∈ m, e.1 ≠ b) : Has w' m := Has.grown h hg (fun e he hr => hne e he (by injection hr))

/-- the cursor at block b: it has been moved at most K times -/
def Cur (w : World) (b K : Nat) : Prop := ∃ (A : Option Addr) (n c : Nat) (l : List Int) (p : Nat) (s : Int), p ≤ K ∧ n ≤ 9223372036854775807 ∧ Has w [(b, 0, .slice A n c), (b, 1, .int .i64 (p : Int)), (b, 2, .int .u64 s)] ∧ Bytes w b A n c l ∧ BytesFit l
theorem Cur.lt {w : World} {b K : Nat} (h : Cur w b K) : b < w.heap.size := by
  obtain ⟨A, n, c, l, p, s, _, _, hh, _⟩ := h
  exact cell_lt hh.1.1
theorem Bytes.same {w w' : World} {B n c : Nat} {A : Option Addr} {l : List Int} (h : Bytes w B A n c l) (hb : ∀ i, i < B → w'.heap[i]? = w.heap[i]?) : Bytes w' B A n c l :=
  ⟨h.1, h.2.1, h.2.2.1, fun hn => by
    obtain ⟨g, off, rfl, hlt, hc⟩ := h.2.2.2 hn
    exact ⟨g, off, rfl, hlt, fun i hi => (World.cell?_of_block (w := w) (w' := w') (a := ⟨g, _, none⟩) (hb g hlt)).trans (hc i hi)⟩⟩
theorem Cur.same {w w' : World} {b K : Nat} (h : Cur w b K) (hb : ∀ i, i ≤ b → w'.heap[i]? = w.heap[i]?) : Cur w' b K := by
  obtain ⟨A, n, c, l, p, s, h1, h2, hh, hB, hf⟩ := h
  refine ⟨A, n, c, l, p, s, h1, h2, ?_, hB.same (fun i hi => hb i (by omega)), hf⟩
  refine (Has_iff w' _).2 fun e he => ?_
  have := (Has_iff w _).1 hh e he
  have hbb := hb b (Nat.le_refl _)
  simp at he
  rcases he with rfl | rfl | rfl <;> exact ⟨(World.cell?_of_block (w := w) (w' := w') (a := ⟨b, _, none⟩) hbb).trans this.1, (World.frozen?_of_block (w := w) (w' := w') (a := ⟨b, _, none⟩) hbb).trans this.2⟩
theorem Cur.below {w w' : World} {b K B : Nat} (h : Cur w b K) (hb : Below B w w') (hB : b < B) : Cur w' b K := h.same (fun i hi => hb.block i (by omega))
theorem Cur.alloc {w : World} {b K : Nat} (h : Cur w b K) (o : Obj) : Cur (w.alloc o) b K := h.below ((Below.refl _ _).alloc (Nat.le_refl _) _) h.lt
theorem Cur.drew {w : World} {b K : Nat} (h : Cur w b K) : Cur w.drew b K := h.same (fun i _ => rfl)
theorem Cur.drewN {w : World} {b K n : Nat} (h : Cur w b K) : Cur (w.drewN n) b K := h.same (fun i _ => rfl)
theorem Cur.set {w : World} {b K g o : Nat} {v : Value} (h : Cur w b K) (hg : b < g) : Cur (w.setCell ⟨g, o, none⟩ v) b K := h.same (fun i hi => Below.heap_setCell w _ _ i (fun e => by have : i = g := e; omega))
theorem Cur.more {w : World} {b K K' : Nat} (h : Cur w b K) (hK : K ≤ K') : Cur w b K' := by
  obtain ⟨A, n, c, l, p, s, h1, h2, r⟩ := h
  exact ⟨A, n, c, l, p, s, by omega, h2, r⟩

/-- an int that meets P, and the cursor moved on -/
def RetCur (P : Int → Prop) (w : World) (b K : Nat) (e : Ending) (w' : World) : Prop := ∃ k, P k ∧ e = .returned (.int .i64 k) ∧ Grow w b w' ∧ Cur w' b K
/-- a bool, and the cursor moved on -/
def RetCurB (w : World) (b K : Nat) (e : Ending) (w' : World) : Prop := ∃ k : Bool, e = .returned (.bool k) ∧ Grow w b w' ∧ Cur w' b K

theorem Cur.step {w w' : World} {b K n c p : Nat} {A : Option Addr} {l : List Int} {s : Int} (hh : Has w' [(b, 0, .slice A n c), (b, 1, .int .i64 ((p : Int) + 1)), (b, 2, .int .u64 s)]) (hB : Bytes w b A n c l) (hf : BytesFit l) (hg : Grow w b w') (hlt : b < w.heap.size) (hp : p ≤ K) (hn : n ≤ 9223372036854775807) : Cur w' b (K + 1) :=
  ⟨A, n, c, l, p + 1, s, by omega, hn, by simpa using hh, hB.same (fun i hi => hg.block i (by omega) (by intro e; injection e; omega)), hf⟩
theorem and255 (E : Int) : 0 ≤ bits .and .u64 E 255 ∧ bits .and .u64 E 255 ≤ 255 := by
  show 0 ≤ IntKind.u64.wrap ((BitVec.ofInt 64 E &&& BitVec.ofInt 64 255).toNat : Int) ∧ IntKind.u64.wrap ((BitVec.ofInt 64 E &&& BitVec.ofInt 64 255).toNat : Int) ≤ 255
  rw [BitVec.toNat_and, show (BitVec.ofInt 64 (255 : Int)).toNat = 255 from by decide]
  have h : (BitVec.ofInt 64 E).toNat &&& 255 ≤ 255 := Nat.and_le_right
  rw [IntKind.wrap_u64]
  omega
theorem wrap255 (E : Int) : 0 ≤ wrap64 (bits .and .u64 E 255) ∧ wrap64 (bits .and .u64 E 255) ≤ 255 := by
  obtain ⟨a, b⟩ := and255 E
  rw [IntWalk.wrap64_in _ ⟨by omega, by omega⟩]
  exact ⟨a, b⟩

set_option maxHeartbeats 4000000 in
theorem next_any (b K : Nat) (w : World) (hC : Cur w b K) (hK : K ≤ 1000000) :
    Calls Tryd.prog 111 #[.pointer (some ⟨b, 0, none⟩)] w (RetCur (fun k => 0 ≤ k ∧ k ≤ 255) w b (K + 1)) := by
  obtain ⟨A, n, c, l, p, s, hp, hn, hh, hB, hf⟩ := hC
  have hblt := cell_lt hh.1.1
  have hq := hh
  simp only [Has, and_true] at hq
  have HB := Lib.hid hB
  have HF := Lib.hid hf
  by_cases hpn : p < n
  · obtain ⟨g, off, rfl, hg, hc⟩ := hB.2.2.2 (by omega)
    have hcell := hc p (by rw [hB.1]; exact hpn)
    obtain ⟨x, hx⟩ : ∃ x, l[p]'(by rw [hB.1]; exact hpn) = x := ⟨_, rfl⟩
    have hw := hf x (by rw [← hx]; exact List.getElem_mem _)
    rw [hx] at hcell
    have hxb : 0 ≤ x ∧ x ≤ 255 := by have h9 := hw; simp only [Lit.wf, Bool.and_eq_true, decide_eq_true_eq] at h9; exact ⟨h9.1, h9.2⟩
    obtain ⟨x1, x2⟩ := hxb
    clear hc hx hw hB hf
    have gb : g ≠ b := by omega
    have bg : b ≠ g := by omega
    have pI : (p : Int) < n := by omega
    go_enter Tryd.func111, Tryd.ntmps111
    go_wp2_with fail
    go_quiet (fail)
    go_wp2_with fail
    go_quiet (fail)
    go_wp2_with fail
    go_quiet (fail)
    go_wp2_with fail
    go_ret
    refine ⟨x, ⟨x1, x2⟩, rfl, (by (repeat (with_reducible first | exact Grow.refl _ _ | assumption | refine Grow.drew ?_ | refine Grow.drewN ?_ | refine Grow.alloc ?_ _ | refine Grow.set ?_ (Or.inl rfl) | refine Grow.set ?_ (Or.inr (by first | omega | (simp <;> omega)))))), Cur.step (s := IntKind.u64.wrap (IntKind.u64.wrap (IntKind.u64.wrap (s * 6364136223846793005) + x) + 1442695040888963407)) (by apply Has.weak; (focus (repeat (with_reducible first | assumption | apply Has.alloc5 | apply Has.alloc2 | apply Has.alloc1 | apply Has.alloc3 | apply Has.drew | apply Has.drewN | apply Has.set_ | apply Has.allocx | exact Has.nil _))); simp [upd, *]) HB.out HF.out (by (repeat (with_reducible first | exact Grow.refl _ _ | assumption | refine Grow.drew ?_ | refine Grow.drewN ?_ | refine Grow.alloc ?_ _ | refine Grow.set ?_ (Or.inl rfl) | refine Grow.set ?_ (Or.inr (by first | omega | (simp <;> omega)))))) hblt hp hn⟩
  · clear hB hf
    go_enter Tryd.func111, Tryd.ntmps111
    go_wp2_with fail
    go_quiet (fail)
    go_wp2_with fail
    go_quiet (fail)
    go_wp2_with fail
    go_ret
    refine ⟨_, wrap255 _, rfl, (by (repeat (with_reducible first | exact Grow.refl _ _ | assumption | refine Grow.drew ?_ | refine Grow.drewN ?_ | refine Grow.alloc ?_ _ | refine Grow.set ?_ (Or.inl rfl) | refine Grow.set ?_ (Or.inr (by first | omega | (simp <;> omega)))))), Cur.step (s := IntKind.u64.wrap (IntKind.u64.wrap (IntKind.u64.wrap (s * 6364136223846793005) + 0) + 1442695040888963407)) (by apply Has.weak; (focus (repeat (with_reducible first | assumption | apply Has.alloc5 | apply Has.alloc2 | apply Has.alloc1 | apply Has.alloc3 | apply Has.drew | apply Has.drewN | apply Has.set_ | apply Has.allocx | exact Has.nil _))); simp [upd, *]) HB.out HF.out (by (repeat (with_reducible first | exact Grow.refl _ _ | assumption | refine Grow.drew ?_ | refine Grow.drewN ?_ | refine Grow.alloc ?_ _ | refine Grow.set ?_ (Or.inl rfl) | refine Grow.set ?_ (Or.inr (by first | omega | (simp <;> omega)))))) hblt hp hn⟩

theorem mod_bd {x n : Int} (h1 : 1 ≤ n) : 0 ≤ x % n ∧ (1 ≤ n → x % n < n) := ⟨Int.emod_nonneg _ (by omega), fun _ => Int.emod_lt_of_pos _ (by omega)⟩

set_option maxHeartbeats 2000000 in
theorem pick_any (b K : Nat) (n : Int) (w : World) (hC : Cur w b K) (hK : K ≤ 999990) :
    Calls Tryd.prog 64 #[.pointer (some ⟨b, 0, none⟩), .int .i64 n] w (RetCur (fun k => 0 ≤ k ∧ (1 ≤ n → k < n)) w b (K + 2)) := by
  by_cases h1 : n ≤ 1
  · go_enter Tryd.func64, Tryd.ntmps64
    go_wp2_with fail
    go_ret
    exact ⟨0, ⟨by omega, by omega⟩, rfl, Grow.refl _ _, hC.more (by omega)⟩
  · by_cases h2 : n ≤ 200
    · go_enter Tryd.func64, Tryd.ntmps64
      go_wp2_with fail
      (go_at_call 111; refine (next_any _ _ _ hC (by omega)).mono ?_; rintro e w' ⟨k, ⟨k1, k2⟩, rfl, hg, hC⟩)
      go_wp2_with fail
      go_ret
      exact ⟨_, mod_bd (by omega), rfl, hg, hC.more (by omega)⟩
    · go_enter Tryd.func64, Tryd.ntmps64
      go_wp2_with fail
      (go_at_call 111; refine (next_any _ _ _ hC (by omega)).mono ?_; rintro e w' ⟨k, ⟨k1, k2⟩, rfl, hg, hC⟩)
      go_wp2_with fail
      (go_at_call 111; refine (next_any _ _ _ hC (by omega)).mono ?_; rintro e w2 ⟨k', ⟨k3, k4⟩, rfl, hg2, hC⟩)
      go_wp2_with fail
      go_ret
      exact ⟨_, mod_bd (by omega), rfl, hg.trans hg2, hC⟩

theorem one_any (b K : Nat) (n : Int) (w : World) (hC : Cur w b K) (hK : K ≤ 999990) :
    Calls Tryd.prog 92 #[.pointer (some ⟨b, 0, none⟩), .int .i64 n] w (RetCurB w b (K + 2)) := by
  go_enter Tryd.func92, Tryd.ntmps92
  go_wp2_with fail
  (go_at_call 64; refine (pick_any _ _ _ _ hC (by omega)).mono ?_; rintro e w' ⟨k, _, rfl, hg, hC⟩)
  go_wp2_with fail
  go_ret
  exact ⟨_, rfl, hg, hC⟩

/-- m ints lie at block g -/
def IntsAt (w : World) (g m : Nat) : Prop := ∀ i, i < m → ∃ k : Int, w.cell? ⟨g, i, none⟩ = some (.int .i64 k)
def allInts : List Value → Bool
  | [] => true
  | .int .i64 _ :: l => allInts l
  | _ => false
theorem allInts_get : ∀ {l : List Value}, allInts l = true → ∀ i, i < l.length → ∃ k : Int, l[i]? = some (.int .i64 k)
  | .int .i64 k :: l, h, 0, _ => ⟨k, rfl⟩
  | .int .i64 k :: l, h, i + 1, hi => by
    have := allInts_get (l := l) h i (by simpa using hi)
    simpa using this
theorem IntsAt.new {w : World} {cs : Array Value} {t : TypeId} {m : Nat} (h : allInts cs.toList = true) (hm : cs.size = m) : IntsAt (w.alloc (.cells cs t)) w.heap.size m := by
  subst hm
  intro i hi
  obtain ⟨k, hk⟩ := allInts_get h i (by simpa using hi)
  exact ⟨k, by rw [cell_of_row _ _ _ _ _ (0, 0) (heap_alloc_new w _)]; simpa using hk⟩
theorem IntsAt.alloc {w : World} {g m : Nat} (h : IntsAt w g m) (o : Obj) : IntsAt (w.alloc o) g m := fun i hi => by
  obtain ⟨k, hk⟩ := h i hi
  exact ⟨k, ((Below.refl w.heap.size w).alloc (Nat.le_refl _) o |>.cell (p := ⟨g, i, none⟩) (cell_lt hk)).trans hk⟩
theorem IntsAt.drew {w : World} {g m : Nat} (h : IntsAt w g m) : IntsAt w.drew g m := h
theorem IntsAt.grow {w w' : World} {b g m : Nat} (h : IntsAt w g m) (hg : Grow w b w') (hne : g ≠ b) : IntsAt w' g m := fun i hi => by
  obtain ⟨k, hk⟩ := h i hi
  exact ⟨k, (World.cell?_of_block (w := w) (w' := w') (a := ⟨g, i, none⟩) (hg.block g (cell_lt hk) (by intro e; injection e; omega))).trans hk⟩
theorem Cur.ne {w : World} {b K g : Nat} (h : Cur w b K) (hg : w.heap.size ≤ g) : g ≠ b := by have := h.lt; omega

set_option maxHeartbeats 2000000 in
theorem among_any (b K g m c : Nat) (w : World) (hC : Cur w b K) (hK : K ≤ 999980) (hI : IntsAt w g m) (hm : 1 ≤ m) (hm2 : m ≤ 1000) (hne : g ≠ b) :
    Calls Tryd.prog 65 #[.pointer (some ⟨b, 0, none⟩), .slice (some ⟨g, 0, none⟩) m c] w (RetCur (fun _ => True) w b (K + 2)) := by
  go_enter Tryd.func65, Tryd.ntmps65
  go_wp2_with fail
  (go_at_call 64; refine (pick_any _ _ _ _ hC (by omega)).mono ?_; rintro e w' ⟨k, ⟨k1, k2⟩, rfl, hg, hC⟩)
  have k3 := k2 (by omega)
  obtain ⟨q, rfl⟩ : ∃ q : Nat, k = q := ⟨k.toNat, by omega⟩
  obtain ⟨x, hx⟩ := (hI.grow hg hne) q (by omega)
  clear k2
  go_wp2_with fail
  go_ret
  exact ⟨_, trivial, rfl, hg, hC⟩

end Go.Proofs.YtgpjnffomheemaaDoor

