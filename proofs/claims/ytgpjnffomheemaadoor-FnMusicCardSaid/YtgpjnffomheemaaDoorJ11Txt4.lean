import Derived.Test.YtgpjnffomheemaaDoorJ10Txt2
import Derived.Laws.OwnMore
import Derived.Laws.AppendOwn
import Derived.OwnWalk
import Derived.Maps.AppendAt
import Derived.Deep.AppendLies
/- Texts: a text in pieces at a byte (the reference's l1Split). -/
namespace Go.Proofs.YtgpjnffomheemaaDoor
open Go.RowKit
set_option linter.unusedVariables false
set_option linter.unusedSimpArgs false
set_option maxRecDepth 100000

def spl : List UInt8 → UInt8 → List (List UInt8)
  | [], _ => [[]]
  | b :: l, c => if b == c then [] :: spl l c else ((b :: (spl l c).headD []) :: (spl l c).tail)
theorem spl_none : ∀ {l : List UInt8} {c : UInt8}, (∀ k : Nat, l[k]? ≠ some c) → spl l c = [l]
  | [], _, _ => rfl
  | b :: l, c, h => by
    have hb : (b == c) = false := by
      have := h 0
      simp at this
      simpa using this
    have ih := spl_none (l := l) (c := c) (fun k => by simpa using h (k + 1))
    simp only [spl, hb, ih]; rfl
theorem spl_at : ∀ {l : List UInt8} {c : UInt8} {o : Nat}, l[o]? = some c → (∀ k : Nat, k < o → l[k]? ≠ some c) → spl l c = l.take o :: spl (l.drop (o + 1)) c
  | [], _, _, h, _ => by simp at h
  | b :: l, c, 0, h, _ => by
    simp at h
    subst h
    simp [spl]
  | b :: l, c, o + 1, h, hn => by
    have hb : (b == c) = false := by
      have := hn 0 (by omega)
      simp at this
      simpa using this
    have ih := spl_at (l := l) (c := c) (o := o) (by simpa using h) (fun k hk => by simpa using hn (k + 1) (by omega))
    simp only [spl, hb, ih]; simp
theorem spl_len (l : List UInt8) (c : UInt8) : 1 ≤ (spl l c).length := by
  cases l with
  | nil => simp [spl]
  | cons b l => simp only [spl]; split <;> simp
theorem infoString : (Tryd.prog.info? 9).map (fun i => (i.zero, i.size, i.bytes)) = some (some (.string ⟨#[]⟩), 1, 16) := by kernel_rfl
theorem one_new (w : World) (x : Value) (t : TypeId) : ∀ j u, [x][j]? = some u → (w.alloc (.cells #[x] t)).cell? ((⟨w.heap.size, 0, none⟩ : Addr).add j) = some u :=
  fun j u hu => World.news_of_block (heap_alloc_new w _) j u (by simpa using hu)
theorem one_str (s : ByteArray) : ∀ u ∈ [Value.string s], u.oneCell' = true := by
  intro u hu; simp at hu; subst hu; rfl
/-- a row of texts of the call's own -/
def TRow (w : World) (base : Nat) (v : Value) (q : List (List UInt8)) : Prop := w.ownsRow base 9 1 v q.length (q.map str)
theorem str_sub (s : ByteArray) (a b : Nat) : Value.string (s.extract a b) = str ((s.data.toList.drop a).take (b - a)) := by rw [Lib.extract_eq]

set_option maxHeartbeats 8000000 in
theorem l1Split_any (s : ByteArray) (c : UInt8) (cv : Int) (hcv : cv = c.toNat) (w : World) (hs : s.size ≤ 1048576) :
    Calls Tryd.prog 93 #[.string s, .int .u8 cv] w fun e w' => ∃ A k, e = .returned (.slice A (spl s.data.toList c).length k) ∧ TRow w' w.heap.size (.slice A (spl s.data.toList c).length k) (spl s.data.toList c) ∧ Below w.heap.size w w' := by
  subst hcv
  have HS := Lib.hid (Lib.size_eq s)
  obtain ⟨i0, hi0, hz0, hz1, hz2⟩ := info_parts infoString
  have HI := Lib.hid hi0
  have HZ0 := Lib.hid hz0
  have HZ1 := Lib.hid hz1
  have HZ2 := Lib.hid hz2
  clear hi0 hz0 hz1 hz2
  go_enter Tryd.func93, Tryd.ntmps93
  go_wp2_with fail
  go_loopw [5, 6, 7] (fun s5 s6 s7 wr => ∃ (A : Option Addr) (m k f i : Nat) (q : List (List UInt8)), s5 = .slice A m k ∧ s6 = .int .i64 f ∧ s7 = .int .i64 i ∧ f ≤ i ∧ i ≤ s.size ∧ m ≤ i ∧ Hid (q.length = m) ∧ wr.ownsRow w.heap.size 9 1 (.slice A m k) m (q.map str) ∧ Hid (spl s.data.toList c = q ++ spl (s.data.toList.drop f) c) ∧ Hid (∀ j : Nat, f ≤ j → j < i → s.data.toList[j]? ≠ some c) ∧ Below w.heap.size w wr) (fun _ _ v _ => s.size - (intOf v).toNat)
  case atStart => exact ⟨none, 0, 0, 0, 0, [], rfl, rfl, rfl, by omega, by omega, by omega, Lib.hid rfl, World.ownsRow_nil _ _ _ _, Lib.hid (by simp), Lib.hid (fun j _ h => by omega), Below.refl _ _⟩
  case round =>
    obtain ⟨A, m, k, f, i, q, rfl, rfl, rfl, hfi, hin, hmi, HQ, hO, HP, HN, hB⟩ := hrel
    have hwr := hB.size
    by_cases hlt : i < s.size
    · obtain ⟨b, hb, hbs⟩ := byte_at s i hlt
      have i1 : (i : Int) < s.size := by omega
      have f1 : (f : Int) ≤ i := by omega
      have i2 : (i : Int) ≤ s.size := by omega
      by_cases hbc : b = c
      · subst hbc
        go_wp2_with (first
            | (at_builtin
               refine wpList_append_lies _ rfl _ _ 89 rfl w.heap.size 9 i0 (.string ⟨#[]⟩) 1 16 Tryd.underlying89 HI.out HZ0.out HZ1.out HZ2.out rfl (by decide) _ _ _ rfl (hO.alloc _) ⟨wr.heap.size, 0, none⟩ 1 1 [.string (s.extract f i)] rfl rfl (one_new _ _ _) (one_str _) (by omega) (by simp only [maxLen]; omega) (by omega) (by simp; omega) (wr.heap.size + 1) (by simp) ?_
               intro g cap w2 hown' hgrow hat hlt2
               rw [str_sub] at hown'
               have hO2 : w2.ownsRow w.heap.size 9 1 (.slice (some ⟨g, 0, none⟩) (m + 1) cap) (m + 1) ((q ++ [(s.data.toList.drop f).take (i - f)]).map str) := by rw [List.map_append]; exact hown'
               have hlow := World.ownsRow.lt hO
               have hB2 : Below w.heap.size w w2 := Below.grown (Below.alloc hB (by first | omega | (simp <;> omega)) _) hgrow (by first | omega | (simp <;> omega)) (fun r hr => (hlow r hr).1)
               have HQ2 : Hid ((q ++ [(s.data.toList.drop f).take (i - f)]).length = m + 1) := by show _ = _; simp [HQ.out]
               clear hown' hgrow hat hlow hO hB))
        go_roundw
        case rel => exact ⟨_, m + 1, cap, i + 1, i + 1, _, rfl, by go_num, by go_num, by omega, by omega, by omega, HQ2, hO2, Lib.hid (by
          have h1 := spl_at (l := s.data.toList.drop f) (c := b) (o := i - f) (by rw [List.getElem?_drop, show f + (i - f) = i by omega, hb]) (fun k hk => by rw [List.getElem?_drop]; exact HN.out (f + k) (by omega) (by omega))
          rw [HP.out, h1, List.drop_drop, show f + (i - f + 1) = i + 1 by omega, List.append_assoc]; rfl), Lib.hid (fun j h1 h2 => by omega), hB2⟩
        case measure => simp [intOf]; omega
      · have e1 : ¬ (b.toNat : Int) = c.toNat := by intro h; exact hbc (UInt8.toNat.inj (by omega))
        have e2 : ((b.toNat : Int) == c.toNat) = false := by simp [e1]
        go_wp2_with fail
        go_roundw
        case rel => exact ⟨_, m, k, f, i + 1, q, rfl, rfl, by go_num, by omega, by omega, by omega, HQ, hO, HP, Lib.hid (fun j h1 h2 => by
          by_cases e : j = i
          · subst e; rw [hb]; intro h; injection h with h; exact hbc h
          · exact HN.out j h1 (by omega)), hB⟩
        case measure => simp [intOf]; omega
    · obtain rfl : i = s.size := by omega
      have HE : Hid (spl s.data.toList c = q ++ [s.data.toList.drop f]) := by
        show _ = _
        rw [HP.out, spl_none (l := s.data.toList.drop f) (fun k => by
          rw [List.getElem?_drop]
          by_cases e : f + k < s.size
          · exact HN.out _ (by omega) e
          · rw [List.getElem?_eq_none (by have := HS.out; omega)]; simp)]
      have f2 : (f : Int) ≤ s.size := by omega
      go_wp2_with (first
            | (at_builtin
               refine wpList_append_lies _ rfl _ _ 89 rfl w.heap.size 9 i0 (.string ⟨#[]⟩) 1 16 Tryd.underlying89 HI.out HZ0.out HZ1.out HZ2.out rfl (by decide) _ _ _ rfl (hO.alloc _) ⟨wr.heap.size, 0, none⟩ 1 1 [.string (s.extract f s.size)] rfl rfl (one_new _ _ _) (one_str _) (by omega) (by simp only [maxLen]; omega) (by omega) (by simp; omega) (wr.heap.size + 1) (by simp) ?_
               intro g cap w2 hown' hgrow hat hlt2
               rw [show Value.string (s.extract f s.size) = str (s.data.toList.drop f) by rw [str_drop]] at hown'
               have hO2 : w2.ownsRow w.heap.size 9 1 (.slice (some ⟨g, 0, none⟩) (m + 1) cap) (m + 1) ((q ++ [s.data.toList.drop f]).map str) := by rw [List.map_append]; exact hown'
               have hlow := World.ownsRow.lt hO
               have hB2 : Below w.heap.size w w2 := Below.grown (Below.alloc hB (by first | omega | (simp <;> omega)) _) hgrow (by first | omega | (simp <;> omega)) (fun r hr => (hlow r hr).1)
               clear hown' hgrow hat hlow hO hB))
      go_ret
      have hlen : (spl s.data.toList c).length = m + 1 := by rw [HE.out]; simp [HQ.out]
      exact ⟨_, cap, by rw [hlen]; rfl, by rw [hlen, TRow, hlen, HE.out]; exact hO2, hB2⟩

end Go.Proofs.YtgpjnffomheemaaDoor

