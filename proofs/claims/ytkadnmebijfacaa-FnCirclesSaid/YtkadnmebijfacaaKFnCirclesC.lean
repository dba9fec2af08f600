/- FnCircles: the code from region 34 on (the least gap). -/
import Derived.Test.YtkadnmebijfacaaKFnCirclesD
import Derived.Deep.DeepCutAuto
namespace Go.Proofs.Ytkadnmebijfacaa
open Go.RowKit
set_option linter.unusedVariables false
set_option linter.unusedSimpArgs false
set_option maxRecDepth 1000000

set_option maxHeartbeats 40000000 in
theorem fnCircles_34 {z0 z1 z2 z3 z4 z10 z11 z12 z13 z14 z15 z16 z17 z18 z19 z20 z21 z22 z23 z24 z25 z27 z30 z31 z32 z33 z34 z35 z36 z37 z38 z39 z40 z41 z42 z43 z44 z45 z46 z47 z48 z49 z50 z51 z52 z53 z54 z55 z56 z57 z58 z59 z60 z61 z62 z63 z64 z65 z66 z67 z68 z69 z70 z71 z72 z73 z74 z75 z76 z77 z78 z79 z80 z81 z82 z83 z84 z85 z86 z87 z88 z89 z90 z91 z92 z93 z94 z95 z96 z97 z98 z99 z100 z101 z102 z103 z104 z105 z106 z107 z108 z109 z110 z111 z112 z113 z114 z115 z116 z117 z118 z119 z120 z121 z122 z123 z124 z125 z126 z127 z128 z129 z130 z131 z132 z133 z134 z135 z136 z137 z138 z139 z140 z141 z142 z143 z144 z145 z146 z147 z148 z149 z150 z151 z152 z153 z154 z155 z156 z157 z158 z159 z160 z161 z162 z163 z164 z165 z166 z167 z168 z169 z170 z171 z172 z173 z174 z175 z176 z177 z178 z179 z180 z181 z182 z183 z184 z185 z186 z187 z188 z189 z190 z191 z192 z193 z194 z195 z196 z197 z198 z199 z200 z201 z202 z203 z204 z205 z206 z207 z208 z209 z210 z211 z212 z213 z214 z215 z216 z217 z218 z219 z220 z221 z222 z223 z224 z225 z226 z227 z228 z229 z230 z231 z232 z233 z234 z235 z236 z237 z238 z239 z240 z241 z242 z243 z244 z245 z246 z247 z248 z249 z250 z251 z252 z253 z254 z255 z256 z257 z258 z259 z260 z261 z262 z263 z264 z265 z266 z267 z268 z269 z270 z271 z272 z273 z274 z275 z276 z277 z278 z279 z280 z281 z282 z283 z284 z285 z286 z287 z288 z289 z290 z291 z292 z293 z294 z295 z296 z297 z298 z299 z300 z301 z302 z303 z304 z305 z306 z307 z308 z309 z310 z311 z312 z313 z314 z315 z316 z317 z318 z319 z320 z321 z322 z323 z324 z325 z326 z327 z328 z329 z330 z331 z332 z333 z334 z335 z336 z337 z338 z339 z340 z341 z342 z343 z344 z345 z346 z347 z348 z349 z350 z351 z352 z353 z354 z355 z356 z357 z358 z359 z360 z361 z362 z363 z364 z365 z366 z367 z368 z369 z370 z371 z372 z373 z374 z375 z376 z377 z378 z379 z380 : Value} {gm n1 c1 c2 : Nat} {r x y : Int} {A1 A2 : Option Addr} {okc : Bool} {lc : List (Int × Int)} {n5 c5 : Nat} {g : Int} {A5 : Option Addr} {okg : Bool} {lv : List (Int × Int)} (w wk : World) (hB : Below w.heap.size w wk) (HC : Hid (mCirc x y r = (lc, okc))) (HN1 : Hid (lc.length = n1)) (hL1 : Lst wk A1 n1 lc) (hL2 : Lst wk A2 n1 lc) (hm : Has wk [(gm, 0, .int .i64 x), (gm, 1, .int .i64 y)]) (HG : Hid (mLeastGap lv = (g, okg))) (hL5 : Lst wk A5 n5 lv) :
    Code.wp Try.prog (sfx Try.f6 34) (bodyPost Try.prog Try.f6 fun e w' => e = Ending.returned (Value.bool true) ∧ Below w.heap.size w w') ⟨List.toArray (α := Value) (z0 :: z1 :: z2 :: z3 :: z4 :: (.pointer (some ⟨gm, 0, none⟩)) :: (.int .i64 r) :: (.slice A1 n1 c1) :: (.bool okc) :: (.slice A2 n1 c2) :: z10 :: z11 :: z12 :: z13 :: z14 :: z15 :: z16 :: z17 :: z18 :: z19 :: z20 :: z21 :: z22 :: z23 :: z24 :: z25 :: (.slice A5 n5 c5) :: z27 :: (.bool okg) :: (.int .i64 g) :: z30 :: z31 :: z32 :: z33 :: z34 :: z35 :: z36 :: z37 :: z38 :: z39 :: z40 :: z41 :: z42 :: z43 :: z44 :: z45 :: z46 :: z47 :: z48 :: z49 :: z50 :: z51 :: z52 :: z53 :: z54 :: z55 :: z56 :: z57 :: z58 :: z59 :: z60 :: z61 :: z62 :: z63 :: z64 :: z65 :: z66 :: z67 :: z68 :: z69 :: z70 :: z71 :: z72 :: z73 :: z74 :: z75 :: z76 :: z77 :: z78 :: z79 :: z80 :: z81 :: z82 :: z83 :: z84 :: z85 :: z86 :: z87 :: z88 :: z89 :: z90 :: z91 :: z92 :: z93 :: z94 :: z95 :: z96 :: z97 :: z98 :: z99 :: z100 :: z101 :: z102 :: z103 :: z104 :: z105 :: z106 :: z107 :: z108 :: z109 :: z110 :: z111 :: z112 :: z113 :: z114 :: z115 :: z116 :: z117 :: z118 :: z119 :: z120 :: z121 :: z122 :: z123 :: z124 :: z125 :: z126 :: z127 :: z128 :: z129 :: z130 :: z131 :: z132 :: z133 :: z134 :: z135 :: z136 :: z137 :: z138 :: z139 :: z140 :: z141 :: z142 :: z143 :: z144 :: z145 :: z146 :: z147 :: z148 :: z149 :: z150 :: z151 :: z152 :: z153 :: z154 :: z155 :: z156 :: z157 :: z158 :: z159 :: z160 :: z161 :: z162 :: z163 :: z164 :: z165 :: z166 :: z167 :: z168 :: z169 :: z170 :: z171 :: z172 :: z173 :: z174 :: z175 :: z176 :: z177 :: z178 :: z179 :: z180 :: z181 :: z182 :: z183 :: z184 :: z185 :: z186 :: z187 :: z188 :: z189 :: z190 :: z191 :: z192 :: z193 :: z194 :: z195 :: z196 :: z197 :: z198 :: z199 :: z200 :: z201 :: z202 :: z203 :: z204 :: z205 :: z206 :: z207 :: z208 :: z209 :: z210 :: z211 :: z212 :: z213 :: z214 :: z215 :: z216 :: z217 :: z218 :: z219 :: z220 :: z221 :: z222 :: z223 :: z224 :: z225 :: z226 :: z227 :: z228 :: z229 :: z230 :: z231 :: z232 :: z233 :: z234 :: z235 :: z236 :: z237 :: z238 :: z239 :: z240 :: z241 :: z242 :: z243 :: z244 :: z245 :: z246 :: z247 :: z248 :: z249 :: z250 :: z251 :: z252 :: z253 :: z254 :: z255 :: z256 :: z257 :: z258 :: z259 :: z260 :: z261 :: z262 :: z263 :: z264 :: z265 :: z266 :: z267 :: z268 :: z269 :: z270 :: z271 :: z272 :: z273 :: z274 :: z275 :: z276 :: z277 :: z278 :: z279 :: z280 :: z281 :: z282 :: z283 :: z284 :: z285 :: z286 :: z287 :: z288 :: z289 :: z290 :: z291 :: z292 :: z293 :: z294 :: z295 :: z296 :: z297 :: z298 :: z299 :: z300 :: z301 :: z302 :: z303 :: z304 :: z305 :: z306 :: z307 :: z308 :: z309 :: z310 :: z311 :: z312 :: z313 :: z314 :: z315 :: z316 :: z317 :: z318 :: z319 :: z320 :: z321 :: z322 :: z323 :: z324 :: z325 :: z326 :: z327 :: z328 :: z329 :: z330 :: z331 :: z332 :: z333 :: z334 :: z335 :: z336 :: z337 :: z338 :: z339 :: z340 :: z341 :: z342 :: z343 :: z344 :: z345 :: z346 :: z347 :: z348 :: z349 :: z350 :: z351 :: z352 :: z353 :: z354 :: z355 :: z356 :: z357 :: z358 :: z359 :: z360 :: z361 :: z362 :: z363 :: z364 :: z365 :: z366 :: z367 :: z368 :: z369 :: z370 :: z371 :: z372 :: z373 :: z374 :: z375 :: z376 :: z377 :: z378 :: z379 :: z380 :: []), []⟩ wk := by
  conv => arg 2; whnf
  rcases tf okg with rfl | rfl
  rotate_left
  · go_upto_if 99999 with (first | (with_reducible refine stopAt (n := 41) ?_))
    exact fnCircles_41 w wk hB HC HN1 hL1 hL2 hm
  · obtain ⟨hsp, l2, l40, hgap⟩ := gap_law HG.out
    have HGA := Lib.hid hgap
    have h5 := hL5.1
    have HN5 := Lib.hid h5
    have hn2 : 2 ≤ n5 := by omega
    have hn40 : n5 ≤ 40 := by omega
    clear hgap hsp h5 l2 l40
    obtain ⟨g6, rfl, hg6⟩ := hL5.blk (by omega)
    go_wp2_with fail
    go_loopw [38] (fun s wx => ∃ j : Nat, j + 1 ≤ n5 ∧ s = .int .i64 ((j : Int) + 1) ∧ Below wk.heap.size wk wx) (fun s _ => n5 - (intOf s).toNat)
    case atStart => exact ⟨0, by omega, by go_num, Below.refl _ _⟩
    case round =>
      obtain ⟨j, hj, rfl, hW⟩ := hrel
      have hws := hW.size
      have hwb := hB.size
      have hB := Below.trans hB (Below.mono hW hwb)
      have hwr := hB.size
      by_cases hlt : j + 1 < n5
      · obtain ⟨xa, ya, ea⟩ : ∃ xa ya, lv[j]? = some (xa, ya) := ⟨_, _, List.getElem?_eq_getElem (by have := HN5.out; omega)⟩
        obtain ⟨ub, vb, eb⟩ : ∃ xa ya, lv[j + 1]? = some (xa, ya) := ⟨_, _, List.getElem?_eq_getElem (by have := HN5.out; omega)⟩
        obtain ⟨es, hge⟩ := HGA.out j _ _ _ _ ea eb
        have ES := Lib.hid es
        obtain ⟨z, hz9⟩ : ∃ z, sq xa ya ub vb = z := ⟨_, rfl⟩
        rw [hz9] at hge ES
        clear es hz9
        have hh := Has.app ((Lst.below hL5 hW (Nat.le_refl _)).at ea) ((Lst.below hL5 hW (Nat.le_refl _)).at eb)
        simp only [List.cons_append, List.nil_append] at hh
        clear ea eb
        have hq := hh
        simp only [Has, and_true] at hq
        have j1 : (j : Int) + 1 < n5 := by omega
        have i1 : (j : Int) < n5 := by omega
        have i3 : IntKind.i64.wrap ((j : Int)) = (j : Int) := IntWalk.i64_in _ (by omega)
        have i4 : ((j : Int) + 1).toNat = j + 1 := by omega
        have i5 : (0 : Int) ≤ (j : Int) + 1 := by omega
        go_wp2_with fail
        go_region_held3 (fun w' => w'.cell? ⟨g6, j * 2, none⟩ = some (.int .i64 xa) ∧ w'.cell? ⟨g6, j * 2 + 1, none⟩ = some (.int .i64 ya) ∧ w'.cell? ⟨g6, (j + 1) * 2, none⟩ = some (.int .i64 ub) ∧ w'.cell? ⟨g6, (j + 1) * 2 + 1, none⟩ = some (.int .i64 vb)) (first | (go_keep; done) | ((repeat' apply And.intro) <;> (apply Has.get; (focus (repeat (with_reducible first | assumption | apply Has.alloc5 | apply Has.alloc2 | apply Has.alloc1 | apply Has.alloc3 | apply Has.drew | apply Has.drewN | apply Has.set_ | apply Has.allocx | exact Has.nil _))); simp [upd, *]))) (first | (go_at_call 12; refine (iSquareOf_eq _ _ _ _ _ _ _ ES.out).mono ?_; rintro e w' ⟨rfl, hb⟩; have hBn : Below w.heap.size w w' := (by refine Below.trans ?_ (hb.mono (by first | omega | (simp <;> omega))); (first | with_reducible exact Below.refl _ _ | with_reducible assumption | (repeat (with_reducible first | exact Below.refl _ _ | assumption | refine Below.drew ?_ | refine Below.alloc ?_ (by first | omega | (simp <;> omega)) _ | refine Below.setCell ?_ (by first | omega | (simp <;> omega)) _ | refine below_drewN ?_ _)))); have hhn := Has.below (by (repeat (with_reducible first | assumption | apply Has.alloc5 | apply Has.alloc2 | apply Has.alloc1 | apply Has.alloc3 | apply Has.drew | apply Has.drewN | apply Has.set_ | apply Has.allocx | exact Has.nil _))) hb; (try simp only [World.size_alloc, World.size_setCell, World.size_drew, World.heap_drewN] at hhn); have hqn := hhn; simp only [Has, upd, World.size_alloc, World.size_setCell, World.size_drew, World.heap_drewN, and_true, true_and, ite_true, ite_false, and_self, Nat.add_right_cancel_iff, Nat.add_eq_left, Nat.left_eq_add, reduceCtorEq, Nat.reduceEqDiff, if_true, if_false] at hqn; (try clear hs); have hs := hb.size; (try simp only [World.size_alloc, World.size_setCell, World.size_drew, World.heap_drewN] at hs); have hW := Below.trans (show Below wk.heap.size wk _ from (by (first | with_reducible exact Below.refl _ _ | with_reducible assumption | (repeat (with_reducible first | exact Below.refl _ _ | assumption | refine Below.drew ?_ | refine Below.alloc ?_ (by first | omega | (simp <;> omega)) _ | refine Below.setCell ?_ (by first | omega | (simp <;> omega)) _ | refine below_drewN ?_ _))))) (hb.mono (by first | omega | (simp <;> omega))); have hws := hW.size; clear hb hB hh; (try clear hq); have hB := hBn; have hh := hhn; have hq := hqn; clear hBn hhn hqn; (try clear hz); have hz := hB.size))
        go_wp2_with fail
        go_roundw
        case rel => exact ⟨j + 1, by omega, by go_num, (by (first | with_reducible exact Below.refl _ _ | with_reducible assumption | (repeat (with_reducible first | exact Below.refl _ _ | assumption | refine Below.drew ?_ | refine Below.alloc ?_ (by first | omega | (simp <;> omega)) _ | refine Below.setCell ?_ (by first | omega | (simp <;> omega)) _ | refine below_drewN ?_ _))))⟩
        case measure => simp [intOf]; omega
      · have j1 : ¬ (j : Int) + 1 < n5 := by omega
        go_upto_if 99999 with (first | (with_reducible refine stopAt (n := 41) ?_))
        exact fnCircles_41 w wr hB HC HN1 (Lst.below hL1 hW (Nat.le_refl _)) (Lst.below hL2 hW (Nat.le_refl _)) (Has.below hm hW)

end Go.Proofs.Ytkadnmebijfacaa

