/- FnSpotLists: the code from region 25 on (those within a square). -/
import Derived.Test.YtkadnmebijfacaaKFnSpotListsD
import Derived.Deep.DeepCutAuto
namespace Go.Proofs.Ytkadnmebijfacaa
open Go.RowKit
set_option linter.unusedVariables false
set_option linter.unusedSimpArgs false
set_option maxRecDepth 1000000

theorem pIn_eq (v : Value) (b : Nat) (l : List Int) (x : Int) (r : Bool) (w : World) (hp : IRow w b v l) (h : hasB l x = r) :
    Calls Try.prog 18 #[v, .int .i64 x] w fun e w' => e = .returned (.bool r) ∧ w = w' := by
  have := pIn_any v b l x w hp; rw [h] at this; exact this

set_option maxHeartbeats 40000000 in
theorem fnSpotLists_25 {z0 z2 z3 z4 z5 z6 z7 z8 z9 z10 z11 z12 z13 z14 z15 z16 z17 z18 z22 z25 z26 z27 z28 z29 z30 z31 z32 z33 z34 z35 z36 z37 z38 z39 z40 z41 z42 z43 z44 z45 z46 z47 z48 z49 z50 z51 z52 z53 z54 z55 z56 z57 z58 z59 z60 z61 z62 z63 z64 z65 z66 z67 z68 z69 z70 z71 z72 z73 z74 z75 z76 z77 z78 z79 z80 z81 z82 z83 z84 z85 z86 z87 z88 z89 z90 z91 z92 z93 z94 z95 z96 z97 z98 z99 z100 z101 z102 z103 z104 z105 z106 z107 z108 z109 z110 z111 z112 z113 z114 z115 z116 z117 z118 z119 z120 z121 z122 z123 z124 z125 z126 z127 z128 z129 z130 z131 z132 z133 z134 z135 z136 z137 z138 z139 z140 z141 z142 z143 z144 z145 z146 z147 z148 z149 z150 z151 z152 z153 z154 z155 z156 z157 z158 z159 z160 z161 z162 z163 z164 z165 z166 z167 z168 z169 z170 z171 z172 z173 z174 z175 z176 z177 z178 z179 z180 z181 z182 z183 z184 z185 z186 z187 z188 z189 z190 z191 z192 z193 z194 z195 z196 z197 z198 z199 z200 z201 z202 z203 z204 z205 z206 z207 z208 z209 z210 z211 z212 z213 z214 z215 z216 z217 z218 z219 z220 z221 z222 z223 z224 z225 z226 z227 z228 z229 z230 z231 z232 z233 z234 z235 z236 z237 z238 z239 z240 z241 z242 z243 z244 z245 z246 z247 z248 z249 z250 z251 z252 z253 z254 z255 z256 z257 z258 z259 z260 z261 z262 z263 z264 z265 z266 z267 z268 z269 z270 z271 z272 z273 z274 z275 z276 z277 z278 z279 z280 z281 z282 z283 z284 z285 z286 z287 z288 z289 z290 z291 z292 z293 z294 z295 z296 z297 z298 z299 z300 z301 z302 z303 z304 z305 z306 z307 z308 z309 z310 z311 z312 z313 z314 z315 z316 z317 z318 z319 z320 z321 z322 z323 z324 z325 z326 z327 z328 z329 z330 z331 z332 z333 z334 z335 z336 z337 z338 z339 z340 z341 z342 z343 z344 z345 z346 z347 z348 z349 z350 z351 z352 z353 z354 z355 z356 z357 z358 : Value} {mA : Option Addr} {mn mc : Nat} {ml : List Int} {gu n k bI : Nat} {A : Option Addr} {u1 u2 q : Int} {lv : List (Int × Int)} {lr : List Int} {v24 : Value} {ok : Bool} (w wk : World) (hB : Below w.heap.size w wk) (hm2 : mn ≤ 9223372036854775807) (H2 : Hid (Bytes w w.heap.size mA mn mc ml)) (F2 : Hid (BytesFit ml)) (HW : Hid (mWithin u1 u2 q lv = (lr, ok))) (hL : Lst wk A n lv) (hI : IRow wk bI v24 lr) (hU : Has wk [(gu, 0, .int .i64 u1), (gu, 1, .int .i64 u2)]) :
    Code.wp Try.prog (sfx Try.f3 25) (bodyPost Try.prog Try.f3 fun e w' => e = Ending.returned (Value.bool true) ∧ Below w.heap.size w w') ⟨List.toArray (α := Value) (z0 :: (.slice mA mn mc) :: z2 :: z3 :: z4 :: z5 :: z6 :: z7 :: z8 :: z9 :: z10 :: z11 :: z12 :: z13 :: z14 :: z15 :: z16 :: z17 :: z18 :: (.pointer (some ⟨gu, 0, none⟩)) :: (.slice A n k) :: (.int .i64 q) :: z22 :: (.bool ok) :: (v24) :: z25 :: z26 :: z27 :: z28 :: z29 :: z30 :: z31 :: z32 :: z33 :: z34 :: z35 :: z36 :: z37 :: z38 :: z39 :: z40 :: z41 :: z42 :: z43 :: z44 :: z45 :: z46 :: z47 :: z48 :: z49 :: z50 :: z51 :: z52 :: z53 :: z54 :: z55 :: z56 :: z57 :: z58 :: z59 :: z60 :: z61 :: z62 :: z63 :: z64 :: z65 :: z66 :: z67 :: z68 :: z69 :: z70 :: z71 :: z72 :: z73 :: z74 :: z75 :: z76 :: z77 :: z78 :: z79 :: z80 :: z81 :: z82 :: z83 :: z84 :: z85 :: z86 :: z87 :: z88 :: z89 :: z90 :: z91 :: z92 :: z93 :: z94 :: z95 :: z96 :: z97 :: z98 :: z99 :: z100 :: z101 :: z102 :: z103 :: z104 :: z105 :: z106 :: z107 :: z108 :: z109 :: z110 :: z111 :: z112 :: z113 :: z114 :: z115 :: z116 :: z117 :: z118 :: z119 :: z120 :: z121 :: z122 :: z123 :: z124 :: z125 :: z126 :: z127 :: z128 :: z129 :: z130 :: z131 :: z132 :: z133 :: z134 :: z135 :: z136 :: z137 :: z138 :: z139 :: z140 :: z141 :: z142 :: z143 :: z144 :: z145 :: z146 :: z147 :: z148 :: z149 :: z150 :: z151 :: z152 :: z153 :: z154 :: z155 :: z156 :: z157 :: z158 :: z159 :: z160 :: z161 :: z162 :: z163 :: z164 :: z165 :: z166 :: z167 :: z168 :: z169 :: z170 :: z171 :: z172 :: z173 :: z174 :: z175 :: z176 :: z177 :: z178 :: z179 :: z180 :: z181 :: z182 :: z183 :: z184 :: z185 :: z186 :: z187 :: z188 :: z189 :: z190 :: z191 :: z192 :: z193 :: z194 :: z195 :: z196 :: z197 :: z198 :: z199 :: z200 :: z201 :: z202 :: z203 :: z204 :: z205 :: z206 :: z207 :: z208 :: z209 :: z210 :: z211 :: z212 :: z213 :: z214 :: z215 :: z216 :: z217 :: z218 :: z219 :: z220 :: z221 :: z222 :: z223 :: z224 :: z225 :: z226 :: z227 :: z228 :: z229 :: z230 :: z231 :: z232 :: z233 :: z234 :: z235 :: z236 :: z237 :: z238 :: z239 :: z240 :: z241 :: z242 :: z243 :: z244 :: z245 :: z246 :: z247 :: z248 :: z249 :: z250 :: z251 :: z252 :: z253 :: z254 :: z255 :: z256 :: z257 :: z258 :: z259 :: z260 :: z261 :: z262 :: z263 :: z264 :: z265 :: z266 :: z267 :: z268 :: z269 :: z270 :: z271 :: z272 :: z273 :: z274 :: z275 :: z276 :: z277 :: z278 :: z279 :: z280 :: z281 :: z282 :: z283 :: z284 :: z285 :: z286 :: z287 :: z288 :: z289 :: z290 :: z291 :: z292 :: z293 :: z294 :: z295 :: z296 :: z297 :: z298 :: z299 :: z300 :: z301 :: z302 :: z303 :: z304 :: z305 :: z306 :: z307 :: z308 :: z309 :: z310 :: z311 :: z312 :: z313 :: z314 :: z315 :: z316 :: z317 :: z318 :: z319 :: z320 :: z321 :: z322 :: z323 :: z324 :: z325 :: z326 :: z327 :: z328 :: z329 :: z330 :: z331 :: z332 :: z333 :: z334 :: z335 :: z336 :: z337 :: z338 :: z339 :: z340 :: z341 :: z342 :: z343 :: z344 :: z345 :: z346 :: z347 :: z348 :: z349 :: z350 :: z351 :: z352 :: z353 :: z354 :: z355 :: z356 :: z357 :: z358 :: []), []⟩ wk := by
  conv => arg 2; whnf
  rcases tf ok with rfl | rfl
  rotate_left
  · go_upto_if 99999 with (first | (with_reducible refine stopAt1 (n := 33) ?_))
    exact fnSpotLists_33 w wk hB hm2 H2 F2
  · obtain ⟨l40, hall⟩ := within_law HW.out
    have HA := Lib.hid hall
    have HL := Lib.hid hL.1
    have hn40 : n ≤ 40 := by have := HL.out; omega
    clear hall l40
    have lu := cell_lt hU.1.1
    have hwb := hB.size
    have hB0 := hB
    go_wp2_with fail
    go_loopw [26, 27, 28, 29, 176] (fun s26 s27 s28 s29 s wx => ∃ j : Nat, j ≤ n ∧ s = .int .i64 j ∧ Below wk.heap.size wk wx) (fun _ _ _ _ s _ => n - (intOf s).toNat)
    case atStart => exact ⟨0, by omega, rfl, Below.refl _ _⟩
    case round =>
      obtain ⟨j, hj, rfl, hW⟩ := hrel
      have hws := hW.size
      have hB := Below.trans hB0 (Below.mono hW hwb)
      have hwr := hB.size
      by_cases hlt : j < n
      · obtain ⟨xa, ya, ea⟩ : ∃ xa ya, lv[j]? = some (xa, ya) := ⟨_, _, List.getElem?_eq_getElem (by have := HL.out; omega)⟩
        obtain ⟨t, et, eh⟩ := HA.out j _ _ ea
        have ET := Lib.hid et
        have hI2 := IRow.below hI hW (Nat.le_refl _)
        obtain ⟨g, rfl, hg⟩ := hL.blk (by omega)
        have hh := Has.app (Has.below hU hW) ((Lst.below hL hW (Nat.le_refl _)).at ea)
        simp only [List.cons_append, List.nil_append] at hh
        clear ea et
        have hq := hh
        simp only [Has, and_true] at hq
        have ta0 : gu < wr.heap.size := by omega
        have tb0 : gu ≠ wr.heap.size := by omega
        have tc0 : wr.heap.size ≠ gu := by omega
        have ta1 : g < wr.heap.size := by omega
        have tb1 : g ≠ wr.heap.size := by omega
        have tc1 : wr.heap.size ≠ g := by omega
        have j1 : (j : Int) < n := by omega
        by_cases ht : t ≤ q
        · have EH := Lib.hid (eh.trans (show decide (t ≤ q) = true by simpa using ht))
          clear eh
          go_wp2_with fail
          (go_at_call 12; refine (iSquareOf_eq _ _ _ _ _ _ _ ET.out).mono ?_; rintro e w' ⟨rfl, hb⟩; have hBn : Below w.heap.size w w' := (by refine Below.trans ?_ (hb.mono (by first | omega | (simp <;> omega))); (first | with_reducible exact Below.refl _ _ | with_reducible assumption | (repeat (with_reducible first | exact Below.refl _ _ | assumption | refine Below.drew ?_ | refine Below.alloc ?_ (by first | omega | (simp <;> omega)) _ | refine Below.setCell ?_ (by first | omega | (simp <;> omega)) _ | refine below_drewN ?_ _)))); have hhn := Has.below (by (repeat (with_reducible first | assumption | apply Has.alloc5 | apply Has.alloc2 | apply Has.alloc1 | apply Has.alloc3 | apply Has.drew | apply Has.drewN | apply Has.set_ | apply Has.allocx | exact Has.nil _))) hb; (try simp only [World.size_alloc, World.size_setCell, World.size_drew, World.heap_drewN] at hhn); have hqn := hhn; simp only [Has, upd, World.size_alloc, World.size_setCell, World.size_drew, World.heap_drewN, and_true, true_and, ite_true, ite_false, and_self, Nat.add_right_cancel_iff, Nat.add_eq_left, Nat.left_eq_add, reduceCtorEq, Nat.reduceEqDiff, if_true, if_false] at hqn; (try clear hs); have hs := hb.size; (try simp only [World.size_alloc, World.size_setCell, World.size_drew, World.heap_drewN] at hs); have hW := Below.trans (show Below wk.heap.size wk _ from (by (first | with_reducible exact Below.refl _ _ | with_reducible assumption | (repeat (with_reducible first | exact Below.refl _ _ | assumption | refine Below.drew ?_ | refine Below.alloc ?_ (by first | omega | (simp <;> omega)) _ | refine Below.setCell ?_ (by first | omega | (simp <;> omega)) _ | refine below_drewN ?_ _))))) (hb.mono (by first | omega | (simp <;> omega))); have hws := hW.size; have hI2 := IRow.below hI2 (by refine Below.trans ?_ (Below.mono hb (by first | omega | (simp <;> omega))); (first | with_reducible exact Below.refl _ _ | with_reducible assumption | (repeat (with_reducible first | exact Below.refl _ _ | assumption | refine Below.drew ?_ | refine Below.alloc ?_ (by first | omega | (simp <;> omega)) _ | refine Below.setCell ?_ (by first | omega | (simp <;> omega)) _ | refine below_drewN ?_ _)))) (Nat.le_refl _); clear hb hB hh; (try clear hq); have hB := hBn; have hh := hhn; have hq := hqn; clear hBn hhn hqn; (try clear hz); have hz := hB.size)
          go_wp2_with fail
          (go_at_call 18; refine (pIn_eq _ _ _ _ _ _ hI2 EH.out).mono ?_; rintro e w' ⟨rfl, rfl⟩)
          go_wp2_with fail
          go_roundw
          case rel => exact ⟨j + 1, by omega, by go_num, (by (first | with_reducible exact Below.refl _ _ | with_reducible assumption | (repeat (with_reducible first | exact Below.refl _ _ | assumption | refine Below.drew ?_ | refine Below.alloc ?_ (by first | omega | (simp <;> omega)) _ | refine Below.setCell ?_ (by first | omega | (simp <;> omega)) _ | refine below_drewN ?_ _))))⟩
          case measure => simp [intOf]; omega
        · have EH := Lib.hid (eh.trans (show decide (t ≤ q) = false by simpa using ht))
          clear eh
          go_wp2_with fail
          (go_at_call 12; refine (iSquareOf_eq _ _ _ _ _ _ _ ET.out).mono ?_; rintro e w' ⟨rfl, hb⟩; have hBn : Below w.heap.size w w' := (by refine Below.trans ?_ (hb.mono (by first | omega | (simp <;> omega))); (first | with_reducible exact Below.refl _ _ | with_reducible assumption | (repeat (with_reducible first | exact Below.refl _ _ | assumption | refine Below.drew ?_ | refine Below.alloc ?_ (by first | omega | (simp <;> omega)) _ | refine Below.setCell ?_ (by first | omega | (simp <;> omega)) _ | refine below_drewN ?_ _)))); have hhn := Has.below (by (repeat (with_reducible first | assumption | apply Has.alloc5 | apply Has.alloc2 | apply Has.alloc1 | apply Has.alloc3 | apply Has.drew | apply Has.drewN | apply Has.set_ | apply Has.allocx | exact Has.nil _))) hb; (try simp only [World.size_alloc, World.size_setCell, World.size_drew, World.heap_drewN] at hhn); have hqn := hhn; simp only [Has, upd, World.size_alloc, World.size_setCell, World.size_drew, World.heap_drewN, and_true, true_and, ite_true, ite_false, and_self, Nat.add_right_cancel_iff, Nat.add_eq_left, Nat.left_eq_add, reduceCtorEq, Nat.reduceEqDiff, if_true, if_false] at hqn; (try clear hs); have hs := hb.size; (try simp only [World.size_alloc, World.size_setCell, World.size_drew, World.heap_drewN] at hs); have hW := Below.trans (show Below wk.heap.size wk _ from (by (first | with_reducible exact Below.refl _ _ | with_reducible assumption | (repeat (with_reducible first | exact Below.refl _ _ | assumption | refine Below.drew ?_ | refine Below.alloc ?_ (by first | omega | (simp <;> omega)) _ | refine Below.setCell ?_ (by first | omega | (simp <;> omega)) _ | refine below_drewN ?_ _))))) (hb.mono (by first | omega | (simp <;> omega))); have hws := hW.size; have hI2 := IRow.below hI2 (by refine Below.trans ?_ (Below.mono hb (by first | omega | (simp <;> omega))); (first | with_reducible exact Below.refl _ _ | with_reducible assumption | (repeat (with_reducible first | exact Below.refl _ _ | assumption | refine Below.drew ?_ | refine Below.alloc ?_ (by first | omega | (simp <;> omega)) _ | refine Below.setCell ?_ (by first | omega | (simp <;> omega)) _ | refine below_drewN ?_ _)))) (Nat.le_refl _); clear hb hB hh; (try clear hq); have hB := hBn; have hh := hhn; have hq := hqn; clear hBn hhn hqn; (try clear hz); have hz := hB.size)
          go_wp2_with fail
          (go_at_call 18; refine (pIn_eq _ _ _ _ _ _ hI2 EH.out).mono ?_; rintro e w' ⟨rfl, rfl⟩)
          go_wp2_with fail
          go_roundw
          case rel => exact ⟨j + 1, by omega, by go_num, (by (first | with_reducible exact Below.refl _ _ | with_reducible assumption | (repeat (with_reducible first | exact Below.refl _ _ | assumption | refine Below.drew ?_ | refine Below.alloc ?_ (by first | omega | (simp <;> omega)) _ | refine Below.setCell ?_ (by first | omega | (simp <;> omega)) _ | refine below_drewN ?_ _))))⟩
          case measure => simp [intOf]; omega
      · obtain rfl : j = n := by omega
        go_upto_if 99999 with (first | (with_reducible refine stopAt1 (n := 33) ?_))
        exact fnSpotLists_33 w wr hB hm2 H2 F2

end Go.Proofs.Ytkadnmebijfacaa

