/- FnCircles: the code from region 41 on (the circle). -/
import Derived.Test.YtkadnmebijfacaaStops
import Derived.Test.YtkadnmebijfacaaPCirc
import Derived.Test.YtkadnmebijfacaaEqs
import Derived.Deep.DeepCutAuto
namespace Go.Proofs.Ytkadnmebijfacaa
open Go.RowKit
set_option linter.unusedVariables false
set_option linter.unusedSimpArgs false
set_option maxRecDepth 1000000

set_option maxHeartbeats 40000000 in
theorem fnCircles_41 {z0 z1 z2 z3 z4 z10 z11 z12 z13 z14 z15 z16 z17 z18 z19 z20 z21 z22 z23 z24 z25 z26 z27 z28 z29 z30 z31 z32 z33 z34 z35 z36 z37 z38 z39 z40 z41 z42 z43 z44 z45 z46 z47 z48 z49 z50 z51 z52 z53 z54 z55 z56 z57 z58 z59 z60 z61 z62 z63 z64 z65 z66 z67 z68 z69 z70 z71 z72 z73 z74 z75 z76 z77 z78 z79 z80 z81 z82 z83 z84 z85 z86 z87 z88 z89 z90 z91 z92 z93 z94 z95 z96 z97 z98 z99 z100 z101 z102 z103 z104 z105 z106 z107 z108 z109 z110 z111 z112 z113 z114 z115 z116 z117 z118 z119 z120 z121 z122 z123 z124 z125 z126 z127 z128 z129 z130 z131 z132 z133 z134 z135 z136 z137 z138 z139 z140 z141 z142 z143 z144 z145 z146 z147 z148 z149 z150 z151 z152 z153 z154 z155 z156 z157 z158 z159 z160 z161 z162 z163 z164 z165 z166 z167 z168 z169 z170 z171 z172 z173 z174 z175 z176 z177 z178 z179 z180 z181 z182 z183 z184 z185 z186 z187 z188 z189 z190 z191 z192 z193 z194 z195 z196 z197 z198 z199 z200 z201 z202 z203 z204 z205 z206 z207 z208 z209 z210 z211 z212 z213 z214 z215 z216 z217 z218 z219 z220 z221 z222 z223 z224 z225 z226 z227 z228 z229 z230 z231 z232 z233 z234 z235 z236 z237 z238 z239 z240 z241 z242 z243 z244 z245 z246 z247 z248 z249 z250 z251 z252 z253 z254 z255 z256 z257 z258 z259 z260 z261 z262 z263 z264 z265 z266 z267 z268 z269 z270 z271 z272 z273 z274 z275 z276 z277 z278 z279 z280 z281 z282 z283 z284 z285 z286 z287 z288 z289 z290 z291 z292 z293 z294 z295 z296 z297 z298 z299 z300 z301 z302 z303 z304 z305 z306 z307 z308 z309 z310 z311 z312 z313 z314 z315 z316 z317 z318 z319 z320 z321 z322 z323 z324 z325 z326 z327 z328 z329 z330 z331 z332 z333 z334 z335 z336 z337 z338 z339 z340 z341 z342 z343 z344 z345 z346 z347 z348 z349 z350 z351 z352 z353 z354 z355 z356 z357 z358 z359 z360 z361 z362 z363 z364 z365 z366 z367 z368 z369 z370 z371 z372 z373 z374 z375 z376 z377 z378 z379 z380 : Value} {gm n1 c1 c2 : Nat} {r x y : Int} {A1 A2 : Option Addr} {okc : Bool} {lc : List (Int × Int)} (w wk : World) (hB : Below w.heap.size w wk) (HC : Hid (mCirc x y r = (lc, okc))) (HN1 : Hid (lc.length = n1)) (hL1 : Lst wk A1 n1 lc) (hL2 : Lst wk A2 n1 lc) (hm : Has wk [(gm, 0, .int .i64 x), (gm, 1, .int .i64 y)]) :
    Code.wp Try.prog (sfx Try.f6 41) (bodyPost Try.prog Try.f6 fun e w' => e = Ending.returned (Value.bool true) ∧ Below w.heap.size w w') ⟨List.toArray (α := Value) (z0 :: z1 :: z2 :: z3 :: z4 :: (.pointer (some ⟨gm, 0, none⟩)) :: (.int .i64 r) :: (.slice A1 n1 c1) :: (.bool okc) :: (.slice A2 n1 c2) :: z10 :: z11 :: z12 :: z13 :: z14 :: z15 :: z16 :: z17 :: z18 :: z19 :: z20 :: z21 :: z22 :: z23 :: z24 :: z25 :: z26 :: z27 :: z28 :: z29 :: z30 :: z31 :: z32 :: z33 :: z34 :: z35 :: z36 :: z37 :: z38 :: z39 :: z40 :: z41 :: z42 :: z43 :: z44 :: z45 :: z46 :: z47 :: z48 :: z49 :: z50 :: z51 :: z52 :: z53 :: z54 :: z55 :: z56 :: z57 :: z58 :: z59 :: z60 :: z61 :: z62 :: z63 :: z64 :: z65 :: z66 :: z67 :: z68 :: z69 :: z70 :: z71 :: z72 :: z73 :: z74 :: z75 :: z76 :: z77 :: z78 :: z79 :: z80 :: z81 :: z82 :: z83 :: z84 :: z85 :: z86 :: z87 :: z88 :: z89 :: z90 :: z91 :: z92 :: z93 :: z94 :: z95 :: z96 :: z97 :: z98 :: z99 :: z100 :: z101 :: z102 :: z103 :: z104 :: z105 :: z106 :: z107 :: z108 :: z109 :: z110 :: z111 :: z112 :: z113 :: z114 :: z115 :: z116 :: z117 :: z118 :: z119 :: z120 :: z121 :: z122 :: z123 :: z124 :: z125 :: z126 :: z127 :: z128 :: z129 :: z130 :: z131 :: z132 :: z133 :: z134 :: z135 :: z136 :: z137 :: z138 :: z139 :: z140 :: z141 :: z142 :: z143 :: z144 :: z145 :: z146 :: z147 :: z148 :: z149 :: z150 :: z151 :: z152 :: z153 :: z154 :: z155 :: z156 :: z157 :: z158 :: z159 :: z160 :: z161 :: z162 :: z163 :: z164 :: z165 :: z166 :: z167 :: z168 :: z169 :: z170 :: z171 :: z172 :: z173 :: z174 :: z175 :: z176 :: z177 :: z178 :: z179 :: z180 :: z181 :: z182 :: z183 :: z184 :: z185 :: z186 :: z187 :: z188 :: z189 :: z190 :: z191 :: z192 :: z193 :: z194 :: z195 :: z196 :: z197 :: z198 :: z199 :: z200 :: z201 :: z202 :: z203 :: z204 :: z205 :: z206 :: z207 :: z208 :: z209 :: z210 :: z211 :: z212 :: z213 :: z214 :: z215 :: z216 :: z217 :: z218 :: z219 :: z220 :: z221 :: z222 :: z223 :: z224 :: z225 :: z226 :: z227 :: z228 :: z229 :: z230 :: z231 :: z232 :: z233 :: z234 :: z235 :: z236 :: z237 :: z238 :: z239 :: z240 :: z241 :: z242 :: z243 :: z244 :: z245 :: z246 :: z247 :: z248 :: z249 :: z250 :: z251 :: z252 :: z253 :: z254 :: z255 :: z256 :: z257 :: z258 :: z259 :: z260 :: z261 :: z262 :: z263 :: z264 :: z265 :: z266 :: z267 :: z268 :: z269 :: z270 :: z271 :: z272 :: z273 :: z274 :: z275 :: z276 :: z277 :: z278 :: z279 :: z280 :: z281 :: z282 :: z283 :: z284 :: z285 :: z286 :: z287 :: z288 :: z289 :: z290 :: z291 :: z292 :: z293 :: z294 :: z295 :: z296 :: z297 :: z298 :: z299 :: z300 :: z301 :: z302 :: z303 :: z304 :: z305 :: z306 :: z307 :: z308 :: z309 :: z310 :: z311 :: z312 :: z313 :: z314 :: z315 :: z316 :: z317 :: z318 :: z319 :: z320 :: z321 :: z322 :: z323 :: z324 :: z325 :: z326 :: z327 :: z328 :: z329 :: z330 :: z331 :: z332 :: z333 :: z334 :: z335 :: z336 :: z337 :: z338 :: z339 :: z340 :: z341 :: z342 :: z343 :: z344 :: z345 :: z346 :: z347 :: z348 :: z349 :: z350 :: z351 :: z352 :: z353 :: z354 :: z355 :: z356 :: z357 :: z358 :: z359 :: z360 :: z361 :: z362 :: z363 :: z364 :: z365 :: z366 :: z367 :: z368 :: z369 :: z370 :: z371 :: z372 :: z373 :: z374 :: z375 :: z376 :: z377 :: z378 :: z379 :: z380 :: []), []⟩ wk := by
  conv => arg 2; whnf
  rcases tf okc with rfl | rfl
  rotate_left
  · go_wp2_with fail
    go_ret
    exact ⟨rfl, hB⟩
  · obtain ⟨h8, hgm, r1, r2, hall⟩ := circ_law HC.out
    obtain rfl : n1 = 8 := by rw [← HN1.out]; exact h8
    have HALL := Lib.hid hall
    clear h8 hall
    obtain ⟨p1, p2, p3, p4⟩ := (goodB_iff _ _).1 hgm
    obtain ⟨gA, rfl, hgA⟩ := hL1.blk (by omega)
    obtain ⟨gB, rfl, hgB⟩ := hL2.blk (by omega)
    have hgm9 := cell_lt hm.1.1
    go_wp2_with fail
    go_loopw [41, 42, 307] (fun s1 s2 s3 wx => ∃ k : Nat, k ≤ 8 ∧ s3 = .int .i64 k ∧ Below wk.heap.size wk wx) (fun _ _ s _ => 8 - (intOf s).toNat)
    case atStart => exact ⟨0, by omega, rfl, Below.refl _ _⟩
    case round =>
      obtain ⟨k, hk, rfl, hW⟩ := hrel
      have hws := hW.size
      have hwb := hB.size
      have hB := Below.trans hB (Below.mono hW hwb)
      have hwr := hB.size
      by_cases hlt : k < 8
      · obtain ⟨xa, ya, ub, vb, qq, ea, eb, er, ga, gb, b1, b2, s1, s2⟩ := HALL.out k hlt
        have ER := Lib.hid er
        clear er
        obtain ⟨a1, a2, a3, a4⟩ := (goodB_iff _ _).1 ga
        obtain ⟨a5, a6, a7, a8⟩ := (goodB_iff _ _).1 gb
        clear ga gb
        have hh := Has.app (Has.below hm hW) (Has.app ((Lst.below hL1 hW (Nat.le_refl _)).at ea) (Has.app ((Lst.below hL2 hW (Nat.le_refl _)).at ea) ((Lst.below hL2 hW (Nat.le_refl _)).at eb)))
        simp only [List.cons_append, List.nil_append] at hh
        clear ea eb
        have hq := hh
        simp only [Has, and_true] at hq
        have sa0 : gm < wr.heap.size := by omega
        have sb0 : gm ≠ wr.heap.size := by omega
        have sc0 : wr.heap.size ≠ gm := by omega
        have sa1 : gA < wr.heap.size := by omega
        have sb1 : gA ≠ wr.heap.size := by omega
        have sc1 : wr.heap.size ≠ gA := by omega
        have sa2 : gB < wr.heap.size := by omega
        have sb2 : gB ≠ wr.heap.size := by omega
        have sc2 : wr.heap.size ≠ gB := by omega
        have k1 : (k : Int) < 8 := by omega
        go_wp2_with fail
        go_region_held3 (fun w' => w'.cell? ⟨gm, 0, none⟩ = some (.int .i64 x) ∧ w'.cell? ⟨gm, 1, none⟩ = some (.int .i64 y) ∧ w'.cell? ⟨gA, k * 2, none⟩ = some (.int .i64 xa) ∧ w'.cell? ⟨gA, k * 2 + 1, none⟩ = some (.int .i64 ya)) (first | (go_keep; done) | ((repeat' apply And.intro) <;> (apply Has.get; (focus (repeat (with_reducible first | assumption | apply Has.alloc5 | apply Has.alloc2 | apply Has.alloc1 | apply Has.alloc3 | apply Has.drew | apply Has.drewN | apply Has.set_ | apply Has.allocx | exact Has.nil _))); simp [upd, *]))) (first | (go_at_call 57; refine (iRadius_eq _ _ _ _ _ _ _ ER.out).mono ?_; rintro e w' ⟨rfl, hb⟩; have hBn : Below w.heap.size w w' := (by refine Below.trans ?_ (hb.mono (by first | omega | (simp <;> omega))); (first | with_reducible exact Below.refl _ _ | with_reducible assumption | (repeat (with_reducible first | exact Below.refl _ _ | assumption | refine Below.drew ?_ | refine Below.alloc ?_ (by first | omega | (simp <;> omega)) _ | refine Below.setCell ?_ (by first | omega | (simp <;> omega)) _ | refine below_drewN ?_ _)))); have hhn := Has.below (by (repeat (with_reducible first | assumption | apply Has.alloc5 | apply Has.alloc2 | apply Has.alloc1 | apply Has.alloc3 | apply Has.drew | apply Has.drewN | apply Has.set_ | apply Has.allocx | exact Has.nil _))) hb; (try simp only [World.size_alloc, World.size_setCell, World.size_drew, World.heap_drewN] at hhn); have hqn := hhn; simp only [Has, upd, World.size_alloc, World.size_setCell, World.size_drew, World.heap_drewN, and_true, true_and, ite_true, ite_false, and_self, Nat.add_right_cancel_iff, Nat.add_eq_left, Nat.left_eq_add, reduceCtorEq, Nat.reduceEqDiff, if_true, if_false] at hqn; (try clear hs); have hs := hb.size; (try simp only [World.size_alloc, World.size_setCell, World.size_drew, World.heap_drewN] at hs); have hW := Below.trans (show Below wk.heap.size wk _ from (by (first | with_reducible exact Below.refl _ _ | with_reducible assumption | (repeat (with_reducible first | exact Below.refl _ _ | assumption | refine Below.drew ?_ | refine Below.alloc ?_ (by first | omega | (simp <;> omega)) _ | refine Below.setCell ?_ (by first | omega | (simp <;> omega)) _ | refine below_drewN ?_ _))))) (hb.mono (by first | omega | (simp <;> omega))); have hws := hW.size; clear hb hB hh; (try clear hq); have hB := hBn; have hh := hhn; have hq := hqn; clear hBn hhn hqn; (try clear hz); have hz := hB.size))
        have va0 : gm < w'.heap.size := by omega
        have vb0 : gm ≠ w'.heap.size := by omega
        have vc0 : w'.heap.size ≠ gm := by omega
        have va1 : gA < w'.heap.size := by omega
        have vb1 : gA ≠ w'.heap.size := by omega
        have vc1 : w'.heap.size ≠ gA := by omega
        have va2 : gB < w'.heap.size := by omega
        have vb2 : gB ≠ w'.heap.size := by omega
        have vc2 : w'.heap.size ≠ gB := by omega
        have va3 : wr.heap.size < w'.heap.size := by omega
        have vb3 : wr.heap.size ≠ w'.heap.size := by omega
        have vc3 : w'.heap.size ≠ wr.heap.size := by omega
        go_wp2_with fail
        (go_at_call 58; refine (sRadius_eq _ _ _ _ _ _ _ ER.out).mono ?_; rintro e w' ⟨rfl, hb⟩; have hBn : Below w.heap.size w w' := (by refine Below.trans ?_ (hb.mono (by first | omega | (simp <;> omega))); (first | with_reducible exact Below.refl _ _ | with_reducible assumption | (repeat (with_reducible first | exact Below.refl _ _ | assumption | refine Below.drew ?_ | refine Below.alloc ?_ (by first | omega | (simp <;> omega)) _ | refine Below.setCell ?_ (by first | omega | (simp <;> omega)) _ | refine below_drewN ?_ _)))); have hhn := Has.below (by (repeat (with_reducible first | assumption | apply Has.alloc5 | apply Has.alloc2 | apply Has.alloc1 | apply Has.alloc3 | apply Has.drew | apply Has.drewN | apply Has.set_ | apply Has.allocx | exact Has.nil _))) hb; (try simp only [World.size_alloc, World.size_setCell, World.size_drew, World.heap_drewN] at hhn); have hqn := hhn; simp only [Has, upd, World.size_alloc, World.size_setCell, World.size_drew, World.heap_drewN, and_true, true_and, ite_true, ite_false, and_self, Nat.add_right_cancel_iff, Nat.add_eq_left, Nat.left_eq_add, reduceCtorEq, Nat.reduceEqDiff, if_true, if_false] at hqn; (try clear hs); have hs := hb.size; (try simp only [World.size_alloc, World.size_setCell, World.size_drew, World.heap_drewN] at hs); have hW := Below.trans (show Below wk.heap.size wk _ from (by (first | with_reducible exact Below.refl _ _ | with_reducible assumption | (repeat (with_reducible first | exact Below.refl _ _ | assumption | refine Below.drew ?_ | refine Below.alloc ?_ (by first | omega | (simp <;> omega)) _ | refine Below.setCell ?_ (by first | omega | (simp <;> omega)) _ | refine below_drewN ?_ _))))) (hb.mono (by first | omega | (simp <;> omega))); have hws := hW.size; clear hb hB hh; (try clear hq); have hB := hBn; have hh := hhn; have hq := hqn; clear hBn hhn hqn; (try clear hz); have hz := hB.size)
        have ta0 : gm < w'.heap.size := by omega
        have tb0 : gm ≠ w'.heap.size := by omega
        have tc0 : w'.heap.size ≠ gm := by omega
        have ta1 : gA < w'.heap.size := by omega
        have tb1 : gA ≠ w'.heap.size := by omega
        have tc1 : w'.heap.size ≠ gA := by omega
        have ta2 : gB < w'.heap.size := by omega
        have tb2 : gB ≠ w'.heap.size := by omega
        have tc2 : w'.heap.size ≠ gB := by omega
        have ta3 : wr.heap.size < w'.heap.size := by omega
        have tb3 : wr.heap.size ≠ w'.heap.size := by omega
        have tc3 : w'.heap.size ≠ wr.heap.size := by omega
        go_wp2_with fail
        go_roundw
        case rel => exact ⟨k + 1, by omega, by go_num, (by (first | with_reducible exact Below.refl _ _ | with_reducible assumption | (repeat (with_reducible first | exact Below.refl _ _ | assumption | refine Below.drew ?_ | refine Below.alloc ?_ (by first | omega | (simp <;> omega)) _ | refine Below.setCell ?_ (by first | omega | (simp <;> omega)) _ | refine below_drewN ?_ _))))⟩
        case measure => simp [intOf]; omega
      · obtain rfl : k = 8 := by omega
        go_wp2_with fail
        go_ret
        exact ⟨rfl, hB⟩

end Go.Proofs.Ytkadnmebijfacaa

