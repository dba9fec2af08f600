/- FnCircles: the code from region 17 on (the arc). -/
import Derived.Test.YtkadnmebijfacaaKFnCirclesB
import Derived.Deep.DeepCutAuto
namespace Go.Proofs.Ytkadnmebijfacaa
open Go.RowKit
set_option linter.unusedVariables false
set_option linter.unusedSimpArgs false
set_option maxRecDepth 1000000

set_option maxHeartbeats 40000000 in
theorem fnCircles_17 {z0 z1 z2 z3 z4 z10 z16 z19 z22 z25 z27 z30 z31 z32 z33 z34 z35 z36 z37 z38 z39 z40 z41 z42 z43 z44 z45 z46 z47 z48 z49 z50 z51 z52 z53 z54 z55 z56 z57 z58 z59 z60 z61 z62 z63 z64 z65 z66 z67 z68 z69 z70 z71 z72 z73 z74 z75 z76 z77 z78 z79 z80 z81 z82 z83 z84 z85 z86 z87 z88 z89 z90 z91 z92 z93 z94 z95 z96 z97 z98 z99 z100 z101 z102 z103 z104 z105 z106 z107 z108 z109 z110 z111 z112 z113 z114 z115 z116 z117 z118 z119 z120 z121 z122 z123 z124 z125 z126 z127 z128 z129 z130 z131 z132 z133 z134 z135 z136 z137 z138 z139 z140 z141 z142 z143 z144 z145 z146 z147 z148 z149 z150 z151 z152 z153 z154 z155 z156 z157 z158 z159 z160 z161 z162 z163 z164 z165 z166 z167 z168 z169 z170 z171 z172 z173 z174 z175 z176 z177 z178 z179 z180 z181 z182 z183 z184 z185 z186 z187 z188 z189 z190 z191 z192 z193 z194 z195 z196 z197 z198 z199 z200 z201 z202 z203 z204 z205 z206 z207 z208 z209 z210 z211 z212 z213 z214 z215 z216 z217 z218 z219 z220 z221 z222 z223 z224 z225 z226 z227 z228 z229 z230 z231 z232 z233 z234 z235 z236 z237 z238 z239 z240 z241 z242 z243 z244 z245 z246 z247 z248 z249 z250 z251 z252 z253 z254 z255 z256 z257 z258 z259 z260 z261 z262 z263 z264 z265 z266 z267 z268 z269 z270 z271 z272 z273 z274 z275 z276 z277 z278 z279 z280 z281 z282 z283 z284 z285 z286 z287 z288 z289 z290 z291 z292 z293 z294 z295 z296 z297 z298 z299 z300 z301 z302 z303 z304 z305 z306 z307 z308 z309 z310 z311 z312 z313 z314 z315 z316 z317 z318 z319 z320 z321 z322 z323 z324 z325 z326 z327 z328 z329 z330 z331 z332 z333 z334 z335 z336 z337 z338 z339 z340 z341 z342 z343 z344 z345 z346 z347 z348 z349 z350 z351 z352 z353 z354 z355 z356 z357 z358 z359 z360 z361 z362 z363 z364 z365 z366 z367 z368 z369 z370 z371 z372 z373 z374 z375 z376 z377 z378 z379 z380 : Value} {gm n1 c1 c2 : Nat} {r x y : Int} {A1 A2 : Option Addr} {okc : Bool} {lc : List (Int × Int)} {n5 c5 : Nat} {g : Int} {A5 : Option Addr} {okg : Bool} {lv : List (Int × Int)} {u v d : Int} {okd : Bool} {ga n4 c4 : Nat} {s f t n p q : Int} {A4 : Option Addr} {oka : Bool} {la : List (Int × Int)} (w wk : World) (hB : Below w.heap.size w wk) (HC : Hid (mCirc x y r = (lc, okc))) (HN1 : Hid (lc.length = n1)) (hL1 : Lst wk A1 n1 lc) (hL2 : Lst wk A2 n1 lc) (hm : Has wk [(gm, 0, .int .i64 x), (gm, 1, .int .i64 y)]) (HG : Hid (mLeastGap lv = (g, okg))) (hL5 : Lst wk A5 n5 lv) (HD : Hid (mChord u v = (d, okd))) (HA : Hid (mArc p q s f t n = (la, oka))) (hL4 : Lst wk A4 n4 la) (hma : Has wk [(ga, 0, .int .i64 p), (ga, 1, .int .i64 q)]) :
    Code.wp Try.prog (sfx Try.f6 17) (bodyPost Try.prog Try.f6 fun e w' => e = Ending.returned (Value.bool true) ∧ Below w.heap.size w w') ⟨List.toArray (α := Value) (z0 :: z1 :: z2 :: z3 :: z4 :: (.pointer (some ⟨gm, 0, none⟩)) :: (.int .i64 r) :: (.slice A1 n1 c1) :: (.bool okc) :: (.slice A2 n1 c2) :: z10 :: (.pointer (some ⟨ga, 0, none⟩)) :: (.int .i64 s) :: (.int .i64 f) :: (.int .i64 t) :: (.int .i64 n) :: z16 :: (.bool oka) :: (.slice A4 n4 c4) :: z19 :: (.int .i64 u) :: (.int .i64 v) :: z22 :: (.bool okd) :: (.int .i64 d) :: z25 :: (.slice A5 n5 c5) :: z27 :: (.bool okg) :: (.int .i64 g) :: z30 :: z31 :: z32 :: z33 :: z34 :: z35 :: z36 :: z37 :: z38 :: z39 :: z40 :: z41 :: z42 :: z43 :: z44 :: z45 :: z46 :: z47 :: z48 :: z49 :: z50 :: z51 :: z52 :: z53 :: z54 :: z55 :: z56 :: z57 :: z58 :: z59 :: z60 :: z61 :: z62 :: z63 :: z64 :: z65 :: z66 :: z67 :: z68 :: z69 :: z70 :: z71 :: z72 :: z73 :: z74 :: z75 :: z76 :: z77 :: z78 :: z79 :: z80 :: z81 :: z82 :: z83 :: z84 :: z85 :: z86 :: z87 :: z88 :: z89 :: z90 :: z91 :: z92 :: z93 :: z94 :: z95 :: z96 :: z97 :: z98 :: z99 :: z100 :: z101 :: z102 :: z103 :: z104 :: z105 :: z106 :: z107 :: z108 :: z109 :: z110 :: z111 :: z112 :: z113 :: z114 :: z115 :: z116 :: z117 :: z118 :: z119 :: z120 :: z121 :: z122 :: z123 :: z124 :: z125 :: z126 :: z127 :: z128 :: z129 :: z130 :: z131 :: z132 :: z133 :: z134 :: z135 :: z136 :: z137 :: z138 :: z139 :: z140 :: z141 :: z142 :: z143 :: z144 :: z145 :: z146 :: z147 :: z148 :: z149 :: z150 :: z151 :: z152 :: z153 :: z154 :: z155 :: z156 :: z157 :: z158 :: z159 :: z160 :: z161 :: z162 :: z163 :: z164 :: z165 :: z166 :: z167 :: z168 :: z169 :: z170 :: z171 :: z172 :: z173 :: z174 :: z175 :: z176 :: z177 :: z178 :: z179 :: z180 :: z181 :: z182 :: z183 :: z184 :: z185 :: z186 :: z187 :: z188 :: z189 :: z190 :: z191 :: z192 :: z193 :: z194 :: z195 :: z196 :: z197 :: z198 :: z199 :: z200 :: z201 :: z202 :: z203 :: z204 :: z205 :: z206 :: z207 :: z208 :: z209 :: z210 :: z211 :: z212 :: z213 :: z214 :: z215 :: z216 :: z217 :: z218 :: z219 :: z220 :: z221 :: z222 :: z223 :: z224 :: z225 :: z226 :: z227 :: z228 :: z229 :: z230 :: z231 :: z232 :: z233 :: z234 :: z235 :: z236 :: z237 :: z238 :: z239 :: z240 :: z241 :: z242 :: z243 :: z244 :: z245 :: z246 :: z247 :: z248 :: z249 :: z250 :: z251 :: z252 :: z253 :: z254 :: z255 :: z256 :: z257 :: z258 :: z259 :: z260 :: z261 :: z262 :: z263 :: z264 :: z265 :: z266 :: z267 :: z268 :: z269 :: z270 :: z271 :: z272 :: z273 :: z274 :: z275 :: z276 :: z277 :: z278 :: z279 :: z280 :: z281 :: z282 :: z283 :: z284 :: z285 :: z286 :: z287 :: z288 :: z289 :: z290 :: z291 :: z292 :: z293 :: z294 :: z295 :: z296 :: z297 :: z298 :: z299 :: z300 :: z301 :: z302 :: z303 :: z304 :: z305 :: z306 :: z307 :: z308 :: z309 :: z310 :: z311 :: z312 :: z313 :: z314 :: z315 :: z316 :: z317 :: z318 :: z319 :: z320 :: z321 :: z322 :: z323 :: z324 :: z325 :: z326 :: z327 :: z328 :: z329 :: z330 :: z331 :: z332 :: z333 :: z334 :: z335 :: z336 :: z337 :: z338 :: z339 :: z340 :: z341 :: z342 :: z343 :: z344 :: z345 :: z346 :: z347 :: z348 :: z349 :: z350 :: z351 :: z352 :: z353 :: z354 :: z355 :: z356 :: z357 :: z358 :: z359 :: z360 :: z361 :: z362 :: z363 :: z364 :: z365 :: z366 :: z367 :: z368 :: z369 :: z370 :: z371 :: z372 :: z373 :: z374 :: z375 :: z376 :: z377 :: z378 :: z379 :: z380 :: []), []⟩ wk := by
  conv => arg 2; whnf
  rcases tf oka with rfl | rfl
  rotate_left
  · go_upto_if 99999 with (first | (with_reducible refine stopAt (n := 27) ?_))
    exact fnCircles_27 w wk hB HC HN1 hL1 hL2 hm HG hL5 HD
  · obtain ⟨N, rfl, N2, N40, hln, ⟨x0, y0, e0, o0⟩, ⟨x1, y1, e1, o1⟩, hmono⟩ := arc_law HA.out
    obtain rfl : N = n4 := by rw [← hL4.1]; exact hln.symm
    have O0 := Lib.hid o0
    have O1 := Lib.hid o1
    have HM := Lib.hid hmono
    clear o0 o1 hmono hln
    obtain ⟨g4, rfl, hg4⟩ := hL4.blk (by omega)
    have hg9 := cell_lt hma.1.1
    have hh := Has.app hma (Has.app (hL4.at e0) (hL4.at e1))
    simp only [List.cons_append, List.nil_append, Nat.zero_mul, Nat.zero_add] at hh
    clear e0 e1
    have hq := hh
    simp only [Has, and_true] at hq
    have n2 : (2 : Int) ≤ N := by omega
    have hB0 := hB
    have hW := Below.refl wk.heap.size wk
    have hws := hW.size
    have hwb := hB.size
    go_wp2_with fail
    (go_at_call 45; refine (iOnArc_eq _ _ _ _ _ _ _ _ O0.out).mono ?_; rintro e w' ⟨rfl, hb⟩; have hBn : Below w.heap.size w w' := (by refine Below.trans ?_ (hb.mono (by first | omega | (simp <;> omega))); (first | with_reducible exact Below.refl _ _ | with_reducible assumption | (repeat (with_reducible first | exact Below.refl _ _ | assumption | refine Below.drew ?_ | refine Below.alloc ?_ (by first | omega | (simp <;> omega)) _ | refine Below.setCell ?_ (by first | omega | (simp <;> omega)) _ | refine below_drewN ?_ _)))); have hhn := Has.below (by (repeat (with_reducible first | assumption | apply Has.alloc5 | apply Has.alloc2 | apply Has.alloc1 | apply Has.alloc3 | apply Has.drew | apply Has.drewN | apply Has.set_ | apply Has.allocx | exact Has.nil _))) hb; (try simp only [World.size_alloc, World.size_setCell, World.size_drew, World.heap_drewN] at hhn); have hqn := hhn; simp only [Has, upd, World.size_alloc, World.size_setCell, World.size_drew, World.heap_drewN, and_true, true_and, ite_true, ite_false, and_self, Nat.add_right_cancel_iff, Nat.add_eq_left, Nat.left_eq_add, reduceCtorEq, Nat.reduceEqDiff, if_true, if_false] at hqn; (try clear hs); have hs := hb.size; (try simp only [World.size_alloc, World.size_setCell, World.size_drew, World.heap_drewN] at hs); have hW := Below.trans (show Below wk.heap.size wk _ from (by (first | with_reducible exact Below.refl _ _ | with_reducible assumption | (repeat (with_reducible first | exact Below.refl _ _ | assumption | refine Below.drew ?_ | refine Below.alloc ?_ (by first | omega | (simp <;> omega)) _ | refine Below.setCell ?_ (by first | omega | (simp <;> omega)) _ | refine below_drewN ?_ _))))) (hb.mono (by first | omega | (simp <;> omega))); have hws := hW.size; (obtain ⟨w1, rfl⟩ : ∃ z : World, z = w' := ⟨_, rfl⟩); clear hb hB hh; (try clear hq); have hB := hBn; have hh := hhn; have hq := hqn; clear hBn hhn hqn; (try clear hz); have hz := hB.size)
    have sa0 : ga < w1.heap.size := by omega
    have sb0 : ga ≠ w1.heap.size := by omega
    have sc0 : w1.heap.size ≠ ga := by omega
    have sa1 : g4 < w1.heap.size := by omega
    have sb1 : g4 ≠ w1.heap.size := by omega
    have sc1 : w1.heap.size ≠ g4 := by omega
    go_wp2_with fail
    (go_at_call 45; refine (iOnArc_eq _ _ _ _ _ _ _ _ O1.out).mono ?_; rintro e w' ⟨rfl, hb⟩; have hBn : Below w.heap.size w w' := (by refine Below.trans ?_ (hb.mono (by first | omega | (simp <;> omega))); (first | with_reducible exact Below.refl _ _ | with_reducible assumption | (repeat (with_reducible first | exact Below.refl _ _ | assumption | refine Below.drew ?_ | refine Below.alloc ?_ (by first | omega | (simp <;> omega)) _ | refine Below.setCell ?_ (by first | omega | (simp <;> omega)) _ | refine below_drewN ?_ _)))); have hhn := Has.below (by (repeat (with_reducible first | assumption | apply Has.alloc5 | apply Has.alloc2 | apply Has.alloc1 | apply Has.alloc3 | apply Has.drew | apply Has.drewN | apply Has.set_ | apply Has.allocx | exact Has.nil _))) hb; (try simp only [World.size_alloc, World.size_setCell, World.size_drew, World.heap_drewN] at hhn); have hqn := hhn; simp only [Has, upd, World.size_alloc, World.size_setCell, World.size_drew, World.heap_drewN, and_true, true_and, ite_true, ite_false, and_self, Nat.add_right_cancel_iff, Nat.add_eq_left, Nat.left_eq_add, reduceCtorEq, Nat.reduceEqDiff, if_true, if_false] at hqn; (try clear hs); have hs := hb.size; (try simp only [World.size_alloc, World.size_setCell, World.size_drew, World.heap_drewN] at hs); have hW := Below.trans (show Below wk.heap.size wk _ from (by (first | with_reducible exact Below.refl _ _ | with_reducible assumption | (repeat (with_reducible first | exact Below.refl _ _ | assumption | refine Below.drew ?_ | refine Below.alloc ?_ (by first | omega | (simp <;> omega)) _ | refine Below.setCell ?_ (by first | omega | (simp <;> omega)) _ | refine below_drewN ?_ _))))) (hb.mono (by first | omega | (simp <;> omega))); have hws := hW.size; (obtain ⟨w2, rfl⟩ : ∃ z : World, z = w' := ⟨_, rfl⟩); clear hb hB hh; (try clear hq); have hB := hBn; have hh := hhn; have hq := hqn; clear hBn hhn hqn; (try clear hz); have hz := hB.size)
    have ta0 : ga < w2.heap.size := by omega
    have tb0 : ga ≠ w2.heap.size := by omega
    have tc0 : w2.heap.size ≠ ga := by omega
    have ta1 : g4 < w2.heap.size := by omega
    have tb1 : g4 ≠ w2.heap.size := by omega
    have tc1 : w2.heap.size ≠ g4 := by omega
    have ta2 : w1.heap.size < w2.heap.size := by omega
    have tb2 : w1.heap.size ≠ w2.heap.size := by omega
    have tc2 : w2.heap.size ≠ w1.heap.size := by omega
    go_wp2_with fail
    go_quiet (fail)
    go_wp2_with fail
    go_loopw [35] (fun s wx => ∃ j : Nat, j + 1 ≤ N ∧ s = .int .i64 ((j : Int) + 1) ∧ Below wk.heap.size wk wx) (fun s _ => N - (intOf s).toNat)
    case atStart => exact ⟨0, by omega, by go_num, (by (first | with_reducible exact Below.refl _ _ | with_reducible assumption | (repeat (with_reducible first | exact Below.refl _ _ | assumption | refine Below.drew ?_ | refine Below.alloc ?_ (by first | omega | (simp <;> omega)) _ | refine Below.setCell ?_ (by first | omega | (simp <;> omega)) _ | refine below_drewN ?_ _))))⟩
    case round =>
      clear hW hB hh hq hs hz
      obtain ⟨j, hj, rfl, hW⟩ := hrel
      have hws := hW.size
      have hB := Below.trans hB0 (Below.mono hW hwb)
      have hwr := hB.size
      by_cases hlt : j + 1 < N
      · obtain ⟨xa, ya, ub, vb, ea, eb, hup, hdn⟩ := HM.out j hlt
        have hh := Has.app ((Lst.below hL4 hW (Nat.le_refl _)).at ea) ((Lst.below hL4 hW (Nat.le_refl _)).at eb)
        simp only [List.cons_append, List.nil_append] at hh
        clear ea eb
        have hq := hh
        simp only [Has, and_true] at hq
        have j1 : (j : Int) + 1 < N := by omega
        rcases Int.lt_trichotomy f t with h9 | h9 | h9
        · have m1 := hup (by omega)
          have m2 : ¬ t ≤ f := by omega
          clear hup hdn
          go_wp2_with fail
          (refine wp_region_quiet_lit (by kernel_rfl) (by kernel_rfl) ?_; (repeat (any_goals (first | go_big_quiet_step (fail) | quiet_step (fail) | (refine wpQuiet_step (fun K hK => ?_); go_simp; split <;> (refine hK _ ?_; clear hK K))))); all_goals (refine wpQuiet_nil ?_; intro _ hw'; obtain ⟨nq, hw''⟩ := hw'; subst hw''))
          all_goals (go_wp2_with fail)
          all_goals (go_roundw; (case rel => exact ⟨j + 1, by omega, by go_num, (by (first | with_reducible exact Below.refl _ _ | with_reducible assumption | (repeat (with_reducible first | exact Below.refl _ _ | assumption | refine Below.drew ?_ | refine Below.alloc ?_ (by first | omega | (simp <;> omega)) _ | refine Below.setCell ?_ (by first | omega | (simp <;> omega)) _ | refine below_drewN ?_ _))))⟩); (case measure => simp [intOf]; omega))
        · subst h9
          have m1 := hup (by omega)
          have m2 := hdn (by omega)
          clear hup hdn
          go_wp2_with fail
          (refine wp_region_quiet_lit (by kernel_rfl) (by kernel_rfl) ?_; (repeat (any_goals (first | go_big_quiet_step (fail) | quiet_step (fail) | (refine wpQuiet_step (fun K hK => ?_); go_simp; split <;> (refine hK _ ?_; clear hK K))))); all_goals (refine wpQuiet_nil ?_; intro _ hw'; obtain ⟨nq, hw''⟩ := hw'; subst hw''))
          all_goals (go_wp2_with fail)
          all_goals (go_roundw; (case rel => exact ⟨j + 1, by omega, by go_num, (by (first | with_reducible exact Below.refl _ _ | with_reducible assumption | (repeat (with_reducible first | exact Below.refl _ _ | assumption | refine Below.drew ?_ | refine Below.alloc ?_ (by first | omega | (simp <;> omega)) _ | refine Below.setCell ?_ (by first | omega | (simp <;> omega)) _ | refine below_drewN ?_ _))))⟩); (case measure => simp [intOf]; omega))
        · have m1 := hdn (by omega)
          have m2 : ¬ f ≤ t := by omega
          have m3 : decide (f ≤ t) = false := by simpa using h9
          clear hup hdn
          go_wp2_with fail
          (refine wp_region_quiet_lit (by kernel_rfl) (by kernel_rfl) ?_; (repeat (any_goals (first | go_big_quiet_step (fail) | quiet_step (fail) | (refine wpQuiet_step (fun K hK => ?_); go_simp; split <;> (refine hK _ ?_; clear hK K))))); all_goals (refine wpQuiet_nil ?_; intro _ hw'; obtain ⟨nq, hw''⟩ := hw'; subst hw''))
          all_goals (go_wp2_with fail)
          all_goals (go_roundw; (case rel => exact ⟨j + 1, by omega, by go_num, (by (first | with_reducible exact Below.refl _ _ | with_reducible assumption | (repeat (with_reducible first | exact Below.refl _ _ | assumption | refine Below.drew ?_ | refine Below.alloc ?_ (by first | omega | (simp <;> omega)) _ | refine Below.setCell ?_ (by first | omega | (simp <;> omega)) _ | refine below_drewN ?_ _))))⟩); (case measure => simp [intOf]; omega))
      · have j1 : ¬ (j : Int) + 1 < N := by omega
        go_upto_if 99999 with (first | (with_reducible refine stopAt (n := 27) ?_))
        exact fnCircles_27 w wr hB HC HN1 (Lst.below hL1 hW (Nat.le_refl _)) (Lst.below hL2 hW (Nat.le_refl _)) (Has.below hm hW) HG (Lst.below hL5 hW (Nat.le_refl _)) HD

end Go.Proofs.Ytkadnmebijfacaa

