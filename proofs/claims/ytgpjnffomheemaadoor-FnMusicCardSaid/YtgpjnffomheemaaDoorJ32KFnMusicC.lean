import Derived.Test.YtgpjnffomheemaaDoorJ31KFnMusicD
import Derived.Deep.DeepCutAuto
/- FnMusic: the code from region 18 on (counts before a measure). -/
namespace Go.Proofs.YtgpjnffomheemaaDoor
open Go.RowKit
set_option linter.unusedVariables false
set_option linter.unusedSimpArgs false
set_option maxRecDepth 1000000

set_option maxHeartbeats 40000000 in
theorem fnMusic_18 {z0 z1 z2 z3 z4 z8 z9 z10 z11 z13 z14 z15 z17 z20 z21 z25 z26 z27 z28 z29 z30 z31 z32 z33 z34 z35 z36 z37 z38 z39 z40 z41 z42 z43 z44 z45 z46 z47 z48 z49 z50 z51 z52 z53 z54 z55 z56 z57 z58 z59 z60 z61 z62 z63 z64 z65 z66 z67 z68 z69 z70 z71 z72 z73 z74 z75 z76 z77 z78 z79 z80 z81 z82 z83 z84 z85 z86 z87 z88 z89 z90 z91 z92 z93 z94 z95 z96 z97 z98 z99 z100 z101 z102 z103 z104 z105 z106 z107 z108 z109 z110 z111 z112 z113 z114 z115 z116 z117 z118 z119 z120 z121 z122 z123 z124 z125 z126 z127 z128 z129 z130 z131 z132 z133 z134 z135 z136 z137 z138 z139 z140 z141 z142 z143 z144 z145 z146 z147 z148 z149 z150 z151 z152 z153 z154 z155 z156 z157 z158 z159 z160 z161 z162 z163 z164 z165 z166 z167 z168 z169 z170 z171 z172 z173 z174 z175 z176 z177 z178 z179 z180 z181 z182 z183 z184 z185 z186 z187 z188 z189 z190 z191 z192 z193 z194 z195 z196 z197 z198 z199 z200 z201 z202 z203 z204 z205 z206 z207 z208 z209 z210 z211 z212 z213 z214 z215 z216 z217 z218 z219 z220 z221 z222 z223 z224 z225 z226 z227 z228 z229 z230 z231 z232 z233 z234 z235 z236 z237 z238 z239 z240 z241 z242 z243 z244 z245 z246 z247 z248 z249 z250 z251 z252 z253 z254 z255 z256 z257 z258 z259 z260 z261 z262 z263 z264 z265 z266 z267 z268 z269 z270 z271 z272 z273 z274 z275 z276 z277 z278 z279 z280 z281 z282 z283 z284 z285 z286 z287 z288 z289 z290 z291 z292 z293 z294 : Value} {A5 : Option Addr} {n5 c5 : Nat} {k5 f5 : Int} {l5 : List (Int × Int)} {t5 : List UInt8} {ok : Bool} {A2 : Option Addr} {n2 c2 : Nat} {q2 i2 p2 : Int} {l2 : List (Int × Int)} {five : Bool} (w wk : World) (hB : Below w.heap.size w wk) (hml : ML w) (hL5 : Lst wk A5 n5 l5) (HL : Hid (MusLaw l5 ok t5 k5 f5)) (HM : Hid (mMeasureAt l2 q2 = (i2, p2, five))) (hL2 : Lst wk A2 n2 l2) (hc2 : n2 ≤ c2 ∧ c2 ≤ maxLen) :
    Code.wp Tryd.prog (sfx Tryd.f5 18) (bodyPost Tryd.prog Tryd.f5 fun e w' => e = Ending.returned (Value.bool true) ∧ Below w.heap.size w w') ⟨List.toArray (α := Value) (z0 :: z1 :: z2 :: z3 :: z4 :: (.slice A5 n5 c5) :: (str t5) :: (.bool ok) :: z8 :: z9 :: z10 :: z11 :: (.int .i64 k5) :: z13 :: z14 :: z15 :: (.int .i64 f5) :: z17 :: (.slice A2 n2 c2) :: (.int .i64 q2) :: z20 :: z21 :: (.bool five) :: (.int .i64 i2) :: (.int .i64 p2) :: z25 :: z26 :: z27 :: z28 :: z29 :: z30 :: z31 :: z32 :: z33 :: z34 :: z35 :: z36 :: z37 :: z38 :: z39 :: z40 :: z41 :: z42 :: z43 :: z44 :: z45 :: z46 :: z47 :: z48 :: z49 :: z50 :: z51 :: z52 :: z53 :: z54 :: z55 :: z56 :: z57 :: z58 :: z59 :: z60 :: z61 :: z62 :: z63 :: z64 :: z65 :: z66 :: z67 :: z68 :: z69 :: z70 :: z71 :: z72 :: z73 :: z74 :: z75 :: z76 :: z77 :: z78 :: z79 :: z80 :: z81 :: z82 :: z83 :: z84 :: z85 :: z86 :: z87 :: z88 :: z89 :: z90 :: z91 :: z92 :: z93 :: z94 :: z95 :: z96 :: z97 :: z98 :: z99 :: z100 :: z101 :: z102 :: z103 :: z104 :: z105 :: z106 :: z107 :: z108 :: z109 :: z110 :: z111 :: z112 :: z113 :: z114 :: z115 :: z116 :: z117 :: z118 :: z119 :: z120 :: z121 :: z122 :: z123 :: z124 :: z125 :: z126 :: z127 :: z128 :: z129 :: z130 :: z131 :: z132 :: z133 :: z134 :: z135 :: z136 :: z137 :: z138 :: z139 :: z140 :: z141 :: z142 :: z143 :: z144 :: z145 :: z146 :: z147 :: z148 :: z149 :: z150 :: z151 :: z152 :: z153 :: z154 :: z155 :: z156 :: z157 :: z158 :: z159 :: z160 :: z161 :: z162 :: z163 :: z164 :: z165 :: z166 :: z167 :: z168 :: z169 :: z170 :: z171 :: z172 :: z173 :: z174 :: z175 :: z176 :: z177 :: z178 :: z179 :: z180 :: z181 :: z182 :: z183 :: z184 :: z185 :: z186 :: z187 :: z188 :: z189 :: z190 :: z191 :: z192 :: z193 :: z194 :: z195 :: z196 :: z197 :: z198 :: z199 :: z200 :: z201 :: z202 :: z203 :: z204 :: z205 :: z206 :: z207 :: z208 :: z209 :: z210 :: z211 :: z212 :: z213 :: z214 :: z215 :: z216 :: z217 :: z218 :: z219 :: z220 :: z221 :: z222 :: z223 :: z224 :: z225 :: z226 :: z227 :: z228 :: z229 :: z230 :: z231 :: z232 :: z233 :: z234 :: z235 :: z236 :: z237 :: z238 :: z239 :: z240 :: z241 :: z242 :: z243 :: z244 :: z245 :: z246 :: z247 :: z248 :: z249 :: z250 :: z251 :: z252 :: z253 :: z254 :: z255 :: z256 :: z257 :: z258 :: z259 :: z260 :: z261 :: z262 :: z263 :: z264 :: z265 :: z266 :: z267 :: z268 :: z269 :: z270 :: z271 :: z272 :: z273 :: z274 :: z275 :: z276 :: z277 :: z278 :: z279 :: z280 :: z281 :: z282 :: z283 :: z284 :: z285 :: z286 :: z287 :: z288 :: z289 :: z290 :: z291 :: z292 :: z293 :: z294 :: []), []⟩ wk := by
  conv => arg 2; whnf
  have hh := Has.nil wk
  rcases tf five with rfl | rfl
  rotate_left
  · go_upto_if 99999 with (first | (with_reducible refine stopAt (n := 27) ?_))
    exact fnMusic_27 w wk hB hml hL5 HL
  · obtain ⟨I, x, y, rfl, hI, h40, ex, p0, p1, hsum, k480, hbd⟩ := measure_law HM.out
    have hlen := hL2.1
    rw [hlen] at hI h40 hbd
    have HN := Lib.hid hlen
    have HBD := Lib.hid hbd
    have HX := Lib.hid ex
    have HS0 := Lib.hid hsum
    have bI := hbd I (by omega)
    clear hlen hbd ex hsum
    obtain ⟨g, rfl, hg⟩ := hL2.blk (by omega)
    obtain ⟨hc, hcm⟩ := hc2
    simp only [maxLen] at hcm
    have k1 : (0 : Int) ≤ I := by omega
    have k2 : (I : Int) ≤ c2 := by omega
    have k3 : (n2 : Int) ≤ c2 := by omega
    have k4 : (I : Int) < n2 := by omega
    have hB9 := hB
    have hwb9 := hB.size
    go_wp2_with fail
    go_loopw [31, 33, 188] (fun s31 s33 s wx => ∃ (j : Nat) (p : Int), j ≤ I ∧ s = .int .i64 j ∧ s31 = .int .i64 p ∧ Hid (sumTo l2 j = p) ∧ Below wk.heap.size wk wx) (fun _ _ s _ => I - (intOf s).toNat)
    case atStart => exact ⟨0, 0, by omega, rfl, rfl, Lib.hid rfl, Below.refl _ _⟩
    case round =>
      clear hB hh
      obtain ⟨j, p, hj, rfl, rfl, HS, hW⟩ := hrel
      have hws := hW.size
      have hB := Below.trans hB9 (Below.mono hW hwb9)
      have hwr := hB.size
      have bdj := HBD.out j (by omega)
      have hpj := HS.out
      by_cases hlt : j < I
      · obtain ⟨⟨x', y'⟩, ex⟩ : ∃ p, l2[j]? = some p := ⟨_, List.getElem?_eq_getElem (by have := HN.out; omega)⟩
        have hh := (Lst.below hL2 hW (Nat.le_refl _)).at ex
        have hs2 := sumTo_step ex
        have bdk := HBD.out (j + 1) (by omega)
        have HS2 : Hid (sumTo l2 (j + 1) = p + x') := by show _ = _; omega
        clear ex
        have hq := hh
        simp only [Has, and_true] at hq
        have hne1 : g ≠ wr.heap.size := by omega
        have hne2 : wr.heap.size ≠ g := by omega
        have j1 : (j : Int) < I := by omega
        have x1 : -1000 ≤ x' := by omega
        have x2 : x' ≤ 1000 := by omega
        have p1 : -1000 ≤ p := by omega
        have p2 : p ≤ 1000 := by omega
        clear hs2 bdk hpj bdj
        go_wp2_with fail
        go_roundw
        case rel => exact ⟨j + 1, p + x', by omega, by go_num, by go_num, HS2, (by (first | with_reducible exact Below.refl _ _ | with_reducible assumption | (repeat (with_reducible first | exact Below.refl _ _ | assumption | refine Below.drew ?_ | refine Below.alloc ?_ (by first | omega | (simp <;> omega)) _ | refine Below.setCell ?_ (by first | omega | (simp <;> omega)) _ | refine below_drewN ?_ _))))⟩
        case measure => simp [intOf]; omega
      · obtain rfl : j = I := by omega
        obtain rfl : q2 = p + p2 := by have := HS0.out; omega
        have hh := (Lst.below hL2 hW (Nat.le_refl _)).at HX.out
        have hq := hh
        simp only [Has, and_true] at hq
        have m1 : ¬ p2 < 0 := by omega
        have m2 : ¬ x ≤ p2 := by omega
        have b0 : 0 ≤ p := by omega
        have b1 : p ≤ 480 := by omega
        have b2 : p2 ≤ 480 := by omega
        clear hpj bdj HS
        go_upto_if 99999 with (first | (with_reducible refine stopAt (n := 27) ?_))
        exact fnMusic_27 w _ (by (first | with_reducible exact Below.refl _ _ | with_reducible assumption | (repeat (with_reducible first | exact Below.refl _ _ | assumption | refine Below.drew ?_ | refine Below.alloc ?_ (by first | omega | (simp <;> omega)) _ | refine Below.setCell ?_ (by first | omega | (simp <;> omega)) _ | refine below_drewN ?_ _)))) hml (Lst.below hL5 hW (Nat.le_refl _)) HL

end Go.Proofs.YtgpjnffomheemaaDoor

