import Derived.Test.YtgpjnffomheemaaDoorJ9
import Derived.Test.YtgpjnffomheemaaDoorJ21PMusic
import Derived.Test.YtgpjnffomheemaaDoorJ1
import Derived.Test.YtgpjnffomheemaaDoorJ23Drt3
import Derived.Test.YtgpjnffomheemaaDoorJ26Rd3
import Derived.Test.YtgpjnffomheemaaDoorJ27Rd4
import Derived.Test.YtgpjnffomheemaaDoorJ28Wrt4
import Derived.Test.YtgpjnffomheemaaDoorLists
import Derived.BigQuiet
import Derived.Deep.DeepCutAuto

section
/- Contracts of music's functions with letters, for the law on music. -/
namespace Go.Proofs.YtgpjnffomheemaaDoor
open Go.RowKit
set_option linter.unusedVariables false
set_option linter.unusedSimpArgs false
set_option maxRecDepth 100000

theorem iMeasureAt_eq (A : Option Addr) (n c : Nat) (l : List (Int × Int)) (p0 : Int) (i k : Int) (ok : Bool) (w : World) (hp : Lst w A n l) (h : mMeasureAt l p0 = (i, k, ok)) :
    Calls Tryd.prog 46 #[.slice A n c, .int .i64 p0] w fun e w' => e = .returned (.tuple #[.int .i64 i, .int .i64 k, .bool ok]) ∧ Below w.heap.size w w' := by
  have := iMeasureAt_any A n c l p0 w hp; rw [h] at this; exact this

theorem sMeasureAt_eq (A : Option Addr) (n c : Nat) (l : List (Int × Int)) (p0 : Int) (i k : Int) (ok : Bool) (w : World) (hp : Lst w A n l) (h : mMeasureAt l p0 = (i, k, ok)) :
    Calls Tryd.prog 47 #[.slice A n c, .int .i64 p0] w fun e w' => e = .returned (.tuple #[.int .i64 i, .int .i64 k, .bool ok]) ∧ Below w.heap.size w w' := by
  have := sMeasureAt_any A n c l p0 w hp; rw [h] at this; exact this

theorem iFastest_eq (A : Option Addr) (n c : Nat) (l : List (Int × Int)) (k : Int) (ok : Bool) (w : World) (hp : Lst w A n l) (h : mFastest l = (k, ok)) :
    Calls Tryd.prog 43 #[.slice A n c] w fun e w' => e = .returned (.tuple #[.int .i64 k, .bool ok]) ∧ Below w.heap.size w w' := by
  have := iFastest_any A n c l w hp; rw [h] at this; exact this

theorem sFastest_eq (A : Option Addr) (n c : Nat) (l : List (Int × Int)) (k : Int) (ok : Bool) (w : World) (hp : Lst w A n l) (h : mFastest l = (k, ok)) :
    Calls Tryd.prog 44 #[.slice A n c] w fun e w' => e = .returned (.tuple #[.int .i64 k, .bool ok]) ∧ Below w.heap.size w w' := by
  have := sFastest_any A n c l w hp; rw [h] at this; exact this

theorem iIsMusic_eq (A : Option Addr) (n c : Nat) (l : List (Int × Int)) (ok : Bool) (w : World) (hp : Lst w A n l) (h : musB l = ok) :
    Calls Tryd.prog 52 #[.slice A n c] w fun e w' => e = .returned (.bool ok) ∧ Below w.heap.size w w' := by
  have := iIsMusic_any A n c l w hp; rw [h] at this; exact this

theorem drawMeasureAt_n (A : Option Addr) (n c : Nat) (l : List Int) (w : World) (hB : Bytes w w.heap.size A n c l) (hf : BytesFit l) (hn : n ≤ 9223372036854775807) :
    Calls Tryd.prog 45 #[.slice A n c] w fun e w' => ∃ (A : Option Addr) (n c : Nat) (q : List (Int × Int)) (k0 : Int), e = .returned (.tuple #[.slice A n c, .int .i64 k0]) ∧ (n ≤ c ∧ c ≤ maxLen) ∧ Lst w' A n q ∧ Below w.heap.size w w' :=
  (drawMeasureAt_any A n c l w hB hf hn).mono fun e w' ⟨A, c, q, k0, h1, h2, h3, h4⟩ => ⟨A, q.length, c, q, k0, h1, h3.cap rfl, h3.toLst rfl, h4⟩

theorem iPMus_n (l : List UInt8) (r : List (Int × Int)) (ok : Bool) (n : Nat) (w : World) (hml : ML w) (hs : l.length ≤ 1048576) (hm : iPMus l = (r, ok)) (hn : r.length = n) :
    Calls Tryd.prog 49 #[str l] w fun e w' => ∃ A c, e = .returned (.tuple #[.slice A n c, .bool ok]) ∧ Lst w' A n r ∧ Below w.heap.size w w' :=
  (iPMus_any l r ok w hml hs hm).mono fun e w' h => h.n hn

theorem sPMus_n (l : List UInt8) (r : List (Int × Int)) (ok : Bool) (n : Nat) (w : World) (hs : l.length ≤ 1048576) (hm : iPMus l = (r, ok)) (hn : r.length = n) :
    Calls Tryd.prog 50 #[str l] w fun e w' => ∃ A c, e = .returned (.tuple #[.slice A n c, .bool ok]) ∧ Lst w' A n r ∧ Below w.heap.size w w' :=
  (sPMus_any l r ok w hs ((pmus_same l).trans hm)).mono fun e w' h => h.n hn

end Go.Proofs.YtgpjnffomheemaaDoor
end

section
/- FnMusic: the code from region 41 on (the fastest measure). -/
namespace Go.Proofs.YtgpjnffomheemaaDoor
open Go.RowKit
set_option linter.unusedVariables false
set_option linter.unusedSimpArgs false
set_option maxRecDepth 1000000

set_option maxHeartbeats 40000000 in
theorem fnMusic_41 {z0 z1 z2 z3 z4 z6 z7 z8 z9 z10 z11 z12 z13 z14 z15 z17 z18 z19 z20 z21 z22 z23 z24 z25 z26 z27 z28 z29 z30 z31 z32 z33 z34 z35 z36 z37 z38 z39 z40 z41 z42 z43 z44 z45 z46 z47 z48 z49 z50 z51 z52 z53 z54 z55 z56 z57 z58 z59 z60 z61 z62 z63 z64 z65 z66 z67 z68 z69 z70 z71 z72 z73 z74 z75 z76 z77 z78 z79 z80 z81 z82 z83 z84 z85 z86 z87 z88 z89 z90 z91 z92 z93 z94 z95 z96 z97 z98 z99 z100 z101 z102 z103 z104 z105 z106 z107 z108 z109 z110 z111 z112 z113 z114 z115 z116 z117 z118 z119 z120 z121 z122 z123 z124 z125 z126 z127 z128 z129 z130 z131 z132 z133 z134 z135 z136 z137 z138 z139 z140 z141 z142 z143 z144 z145 z146 z147 z148 z149 z150 z151 z152 z153 z154 z155 z156 z157 z158 z159 z160 z161 z162 z163 z164 z165 z166 z167 z168 z169 z170 z171 z172 z173 z174 z175 z176 z177 z178 z179 z180 z181 z182 z183 z184 z185 z186 z187 z188 z189 z190 z191 z192 z193 z194 z195 z196 z197 z198 z199 z200 z201 z202 z203 z204 z205 z206 z207 z208 z209 z210 z211 z212 z213 z214 z215 z216 z217 z218 z219 z220 z221 z222 z223 z224 z225 z226 z227 z228 z229 z230 z231 z232 z233 z234 z235 z236 z237 z238 z239 z240 z241 z242 z243 z244 z245 z246 z247 z248 z249 z250 z251 z252 z253 z254 z255 z256 z257 z258 z259 z260 z261 z262 z263 z264 z265 z266 z267 z268 z269 z270 z271 z272 z273 z274 z275 z276 z277 z278 z279 z280 z281 z282 z283 z284 z285 z286 z287 z288 z289 z290 z291 z292 z293 z294 : Value} {A5 : Option Addr} {n5 c5 F : Nat} {u9 v9 : Int} {l5 : List (Int × Int)} (w wk : World) (hB : Below w.heap.size w wk) (hL5 : Lst wk A5 n5 l5) (hF : F < n5) (HE : Hid (l5[F]? = some (u9, v9))) (HA : Hid (∀ (i : Nat) (u v : Int), l5[i]? = some (u, v) → v ≤ v9 ∧ (v = v9 → F ≤ i))) :
    Code.wp Tryd.prog (sfx Tryd.f5 41) (bodyPost Tryd.prog Tryd.f5 fun e w' => e = Ending.returned (Value.bool true) ∧ Below w.heap.size w w') ⟨List.toArray (α := Value) (z0 :: z1 :: z2 :: z3 :: z4 :: (.slice A5 n5 c5) :: z6 :: z7 :: z8 :: z9 :: z10 :: z11 :: z12 :: z13 :: z14 :: z15 :: (.int .i64 (F : Int)) :: z17 :: z18 :: z19 :: z20 :: z21 :: z22 :: z23 :: z24 :: z25 :: z26 :: z27 :: z28 :: z29 :: z30 :: z31 :: z32 :: z33 :: z34 :: z35 :: z36 :: z37 :: z38 :: z39 :: z40 :: z41 :: z42 :: z43 :: z44 :: z45 :: z46 :: z47 :: z48 :: z49 :: z50 :: z51 :: z52 :: z53 :: z54 :: z55 :: z56 :: z57 :: z58 :: z59 :: z60 :: z61 :: z62 :: z63 :: z64 :: z65 :: z66 :: z67 :: z68 :: z69 :: z70 :: z71 :: z72 :: z73 :: z74 :: z75 :: z76 :: z77 :: z78 :: z79 :: z80 :: z81 :: z82 :: z83 :: z84 :: z85 :: z86 :: z87 :: z88 :: z89 :: z90 :: z91 :: z92 :: z93 :: z94 :: z95 :: z96 :: z97 :: z98 :: z99 :: z100 :: z101 :: z102 :: z103 :: z104 :: z105 :: z106 :: z107 :: z108 :: z109 :: z110 :: z111 :: z112 :: z113 :: z114 :: z115 :: z116 :: z117 :: z118 :: z119 :: z120 :: z121 :: z122 :: z123 :: z124 :: z125 :: z126 :: z127 :: z128 :: z129 :: z130 :: z131 :: z132 :: z133 :: z134 :: z135 :: z136 :: z137 :: z138 :: z139 :: z140 :: z141 :: z142 :: z143 :: z144 :: z145 :: z146 :: z147 :: z148 :: z149 :: z150 :: z151 :: z152 :: z153 :: z154 :: z155 :: z156 :: z157 :: z158 :: z159 :: z160 :: z161 :: z162 :: z163 :: z164 :: z165 :: z166 :: z167 :: z168 :: z169 :: z170 :: z171 :: z172 :: z173 :: z174 :: z175 :: z176 :: z177 :: z178 :: z179 :: z180 :: z181 :: z182 :: z183 :: z184 :: z185 :: z186 :: z187 :: z188 :: z189 :: z190 :: z191 :: z192 :: z193 :: z194 :: z195 :: z196 :: z197 :: z198 :: z199 :: z200 :: z201 :: z202 :: z203 :: z204 :: z205 :: z206 :: z207 :: z208 :: z209 :: z210 :: z211 :: z212 :: z213 :: z214 :: z215 :: z216 :: z217 :: z218 :: z219 :: z220 :: z221 :: z222 :: z223 :: z224 :: z225 :: z226 :: z227 :: z228 :: z229 :: z230 :: z231 :: z232 :: z233 :: z234 :: z235 :: z236 :: z237 :: z238 :: z239 :: z240 :: z241 :: z242 :: z243 :: z244 :: z245 :: z246 :: z247 :: z248 :: z249 :: z250 :: z251 :: z252 :: z253 :: z254 :: z255 :: z256 :: z257 :: z258 :: z259 :: z260 :: z261 :: z262 :: z263 :: z264 :: z265 :: z266 :: z267 :: z268 :: z269 :: z270 :: z271 :: z272 :: z273 :: z274 :: z275 :: z276 :: z277 :: z278 :: z279 :: z280 :: z281 :: z282 :: z283 :: z284 :: z285 :: z286 :: z287 :: z288 :: z289 :: z290 :: z291 :: z292 :: z293 :: z294 :: []), []⟩ wk := by
  conv => arg 2; whnf
  obtain ⟨g, rfl, hg⟩ := hL5.blk (by omega)
  have hB9 := hB
  have hwb := hB.size
  have HN := Lib.hid hL5.1
  have hn9 := hL5.2.1
  have hh := Has.nil wk
  go_wp2_with fail
  go_loopw [42, 43, 266] (fun s42 s43 s wx => ∃ j : Nat, j ≤ n5 ∧ s = .int .i64 j ∧ Below wk.heap.size wk wx) (fun _ _ s _ => n5 - (intOf s).toNat)
  case atStart => exact ⟨0, by omega, rfl, Below.refl _ _⟩
  case round =>
    clear hB hh
    obtain ⟨j, hj, rfl, hW⟩ := hrel
    have hws := hW.size
    have hB := Below.trans hB9 (Below.mono hW hwb)
    have hwr := hB.size
    by_cases hlt : j < n5
    · obtain ⟨⟨x, y⟩, ex⟩ : ∃ p, l5[j]? = some p := ⟨_, List.getElem?_eq_getElem (by have := HN.out; omega)⟩
      obtain ⟨hle, htie⟩ := HA.out j x y ex
      have hne1 : g ≠ wr.heap.size := by omega
      have hne2 : wr.heap.size ≠ g := by omega
      have j1 : (j : Int) < n5 := by omega
      have f1 : (F : Int) < n5 := by omega
      have hh := Has.app ((Lst.below hL5 hW (Nat.le_refl _)).at ex) ((Lst.below hL5 hW (Nat.le_refl _)).at HE.out)
      simp only [List.cons_append, List.nil_append] at hh
      have hq := hh
      simp only [Has, and_true] at hq
      have n1 : ¬ v9 < y := by omega
      clear ex
      by_cases hy : y = v9
      · have ht := htie hy
        have n2 : ¬ (j : Int) < F := by omega
        clear htie hle
        subst hy
        go_upto_region 44 with fail
        have hh2 := Has.alloc2 (t := 68) (a := .int .i64 x) (b := .int .i64 y) hh
        simp only [Has, and_true] at hh2
        go_quiet (fail)
        go_wp2_with fail
        go_roundw
        case rel => exact ⟨j + 1, by omega, by go_num, (by (first | with_reducible exact Below.refl _ _ | with_reducible assumption | (repeat (with_reducible first | exact Below.refl _ _ | assumption | refine Below.drew ?_ | refine Below.alloc ?_ (by first | omega | (simp <;> omega)) _ | refine Below.setCell ?_ (by first | omega | (simp <;> omega)) _ | refine below_drewN ?_ _))))⟩
        case measure => simp [intOf]; omega
      · have n2 : ¬ y = v9 := hy
        clear htie hle
        go_upto_region 44 with fail
        have hh2 := Has.alloc2 (t := 68) (a := .int .i64 x) (b := .int .i64 y) hh
        simp only [Has, and_true] at hh2
        (refine wp_region_quiet_lit (by kernel_rfl) (by kernel_rfl) ?_; (repeat (any_goals (first | go_big_quiet_step (fail) | quiet_step (fail) | (refine wpQuiet_step (fun K hK => ?_); go_simp; split <;> (refine hK _ ?_; clear hK K))))); all_goals (refine wpQuiet_nil ?_; intro _ hw'; obtain ⟨nq, hw''⟩ := hw'; subst hw''))
        go_wp2_with fail
        go_roundw
        case rel => exact ⟨j + 1, by omega, by go_num, (by (first | with_reducible exact Below.refl _ _ | with_reducible assumption | (repeat (with_reducible first | exact Below.refl _ _ | assumption | refine Below.drew ?_ | refine Below.alloc ?_ (by first | omega | (simp <;> omega)) _ | refine Below.setCell ?_ (by first | omega | (simp <;> omega)) _ | refine below_drewN ?_ _))))⟩
        case measure => simp [intOf]; omega
    · obtain rfl : j = n5 := by omega
      have hh := Has.nil wr
      go_wp2_with fail
      go_ret
      exact ⟨rfl, (by (first | with_reducible exact Below.refl _ _ | with_reducible assumption | (repeat (with_reducible first | exact Below.refl _ _ | assumption | refine Below.drew ?_ | refine Below.alloc ?_ (by first | omega | (simp <;> omega)) _ | refine Below.setCell ?_ (by first | omega | (simp <;> omega)) _ | refine below_drewN ?_ _))))⟩

end Go.Proofs.YtgpjnffomheemaaDoor
end
