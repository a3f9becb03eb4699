/-
  The laws' own 'tells': what is made of two shares, and of a number, by the program and by the reference.
-/
import Derived.Test.YtjffikiebeneaaaAwake17
import Derived.Deep.RegionHeld3
namespace Go.Proofs.Ytjffikiebeneaaa
open Go.RowKit

set_option maxRecDepth 100000 in
set_option maxHeartbeats 4000000 in
theorem tells_any (a b c d n : Int) (W : World) (ha : a ≤ 9223372036854775807) (hd : d ≤ 9223372036854775807) :
    Calls Try.prog 21 #[shr a b, shr c d, .int .i64 n] W fun e w' => e = .returned (.bool true) ∧ GrewS W w' := by
  have H9' := fun w => plus_any a b c d w
  have H11' := fun w => refPlus_any a b c d w
  have H13' := fun w => less_any a b c d w
  have H15' := fun w => refLess_any a b c d w
  have H17' := fun w => times_any a b c d w
  have H19' := fun w => refTimes_any a b c d w
  have H21' := fun w => over_any a b c d w
  have H23' := fun w => refOver_any a b c d w
  have H25' := fun w => of_any (n := a) (d := d) w ha hd
  have H27' := fun w => refOf_any (n := a) (d := d) w ha hd
  have HR1' := fun w => right_any a b w
  have HR2' := fun w => refRight_any a b w
  have HC1' := fun w => cmp_any a b c d w
  have HC2' := fun w => refCompare_any a b c d w
  have HS1' := fun w => scale_any a b n w
  have HS2' := fun w => refScale_any a b n w
  have HM1' := fun w A (hc : IsPrs w A 3 [(a, b), (c, d), (a, b)]) => sum_any w A 3 3 [(a, b), (c, d), (a, b)] rfl (by decide) hc
  have HM2' := fun w A (hc : IsPrs w A 3 [(a, b), (c, d), (a, b)]) => refSum_any w A 3 3 [(a, b), (c, d), (a, b)] rfl (by decide) hc
  have HP := fun w (t : TypeId) => prs_new w [(a, b), (c, d), (a, b)] t
  generalize plN a b c d = x1 at *
  generalize plD a b c d = y1 at *
  generalize plE a b c d = e1 at *
  generalize leN a b c d = x2 at *
  generalize leD a b c d = y2 at *
  generalize leE a b c d = e2 at *
  generalize tmN a b c d = x3 at *
  generalize tmD a b c d = y3 at *
  generalize tmE a b c d = e3 at *
  generalize ovN a b c d = x4 at *
  generalize ovD a b c d = y4 at *
  generalize ovE a b c d = e4 at *
  generalize ofN a d = x5 at *
  generalize ofD a d = y5 at *
  generalize ofE a d = e5 at *
  generalize rightS a b = qr at *
  generalize cmN a b c d = cn at *
  generalize cmE a b c d = ce at *
  generalize scK a b n = sk at *
  generalize scN a b n = sn at *
  generalize scD a b n = sd at *
  generalize scE a b n = se at *
  generalize sum3 [(a, b), (c, d), (a, b)] = sm at *
  obtain ⟨mn, md, me⟩ := sm
  dsimp only at HM1' HM2'
  have H9 := fun w => Lib.hid (H9' w)
  have H11 := fun w => Lib.hid (H11' w)
  have H13 := fun w => Lib.hid (H13' w)
  have H15 := fun w => Lib.hid (H15' w)
  have H17 := fun w => Lib.hid (H17' w)
  have H19 := fun w => Lib.hid (H19' w)
  have H21 := fun w => Lib.hid (H21' w)
  have H23 := fun w => Lib.hid (H23' w)
  have H25 := fun w => Lib.hid (H25' w)
  have H27 := fun w => Lib.hid (H27' w)
  have HR1 := fun w => Lib.hid (HR1' w)
  have HR2 := fun w => Lib.hid (HR2' w)
  have HC1 := fun w => Lib.hid (HC1' w)
  have HC2 := fun w => Lib.hid (HC2' w)
  have HS1 := fun w => Lib.hid (HS1' w)
  have HS2 := fun w => Lib.hid (HS2' w)
  have HM1 := fun w A hc => Lib.hid (HM1' w A hc)
  have HM2 := fun w A hc => Lib.hid (HM2' w A hc)
  have HE := fun w x y e => Lib.hid (same_any x y e w)
  clear H9' H11' H13' H15' H17' H19' H21' H23' H25' H27' HR1' HR2' HC1' HC2' HS1' HS2' HM1' HM2' ha hd
  go_enter Try.func21, Try.ntmps21
  go_upto_region 1 with fail
  have X := (C2.new W (.int .i64 a) (.int .i64 b) 25).alloc (.cells #[.int .i64 c, .int .i64 d] 25)
  have Y : C2 ((W.alloc (.cells #[.int .i64 a, .int .i64 b] 25)).alloc (.cells #[.int .i64 c, .int .i64 d] 25)) (W.heap.size + 1) (.int .i64 c) (.int .i64 d) := by simpa using C2.new (W.alloc (.cells #[.int .i64 a, .int .i64 b] 25)) (.int .i64 c) (.int .i64 d) 25
  have hg := Lib.hid (((GrewS.refl W).alloc (.cells #[.int .i64 a, .int .i64 b] 25)).alloc (.cells #[.int .i64 c, .int .i64 d] 25))
  generalize (W.alloc (.cells #[.int .i64 a, .int .i64 b] 25)).alloc (.cells #[.int .i64 c, .int .i64 d] 25) = V at *
  go_cut [7, 8] from 37 to 39 (fun p q w' => ∃ B C : Nat, p = .pointer (some ⟨B, 0, none⟩) ∧ q = .pointer (some ⟨C, 0, none⟩) ∧ C2 w' B (.int .i64 a) (.int .i64 b) ∧ C2 w' C (.int .i64 c) (.int .i64 d) ∧ C2 w' W.heap.size (.int .i64 a) (.int .i64 b) ∧ C2 w' (W.heap.size + 1) (.int .i64 c) (.int .i64 d) ∧ GrewS W w')
  case first =>
    have X0 := X.c0
    have X1 := X.c1
    have Y0 := Y.c0
    have Y1 := Y.c1
    have Xl := X.lt
    have Yl := Y.lt
    go_region
    all_goals
      go_wp2_with fail
      go_meet
      case rel =>
        first
        | exact ⟨V.heap.size, V.heap.size + 1, rfl, rfl, ((C2.new V _ _ 67).alloc _).drew, (show C2 _ _ _ _ by simpa using C2.new (V.alloc (.cells #[.int .i64 a, .int .i64 b] 67)) (.int .i64 c) (.int .i64 d) 67).drew, ((X.alloc _).alloc _).drew, ((Y.alloc _).alloc _).drew, ((hg.out.alloc _).alloc _).drew⟩
        | exact ⟨V.heap.size + 1, V.heap.size, rfl, rfl, (show C2 _ _ _ _ by simpa using C2.new (V.alloc (.cells #[.int .i64 c, .int .i64 d] 67)) (.int .i64 a) (.int .i64 b) 67).drew, ((C2.new V _ _ 67).alloc _).drew, ((X.alloc _).alloc _).drew, ((Y.alloc _).alloc _).drew, ((hg.out.alloc _).alloc _).drew⟩
  case rest =>
  clear X Y hg
  obtain ⟨bA, bB, rfl, rfl, A, B, X, Y, hg0⟩ := hcut
  have hg := Lib.hid hg0
  clear hg0
  have X0 := X.c0
  have X1 := X.c1
  have Xl := X.lt
  have Y0 := Y.c0
  have Y1 := Y.c1
  have Yl := Y.lt
  go_wp2_with fail
  (with_reducible refine (H9 _).out.mono ?_)
  clear X0 X1 Xl Y0 Y1 Yl
  rintro e w1 ⟨rfl, hg1⟩
  have k1 := hg1.kp
  replace A := (A).kp k1
  replace B := (B).kp k1
  replace X := (X).kp k1
  replace Y := (Y).kp k1
  replace hg := Lib.hid (GrewS.trans (hg.out) hg1)
  clear k1 hg1
  have A0 := A.c0
  have A1 := A.c1
  have Al := A.lt
  have B0 := B.c0
  have B1 := B.c1
  have Bl := B.lt
  go_wp2_with fail
  (with_reducible refine (H11 _).out.mono ?_)
  clear A0 A1 Al B0 B1 Bl
  rintro e w2 ⟨rfl, hg1⟩
  have k1 := hg1.kp
  replace A := (A.alloc _).kp k1
  replace B := (B.alloc _).kp k1
  replace X := (X.alloc _).kp k1
  replace Y := (Y.alloc _).kp k1
  have Z9 := ((C2.new w1 (.int .i64 x1) (.int .i64 y1) 25)).kp k1
  replace hg := Lib.hid (GrewS.trans (hg.out.alloc _) hg1)
  clear k1 hg1
  generalize w1.heap.size = bZ9 at *
  have X0 := X.c0
  have X1 := X.c1
  have Xl := X.lt
  have Y0 := Y.c0
  have Y1 := Y.c1
  have Yl := Y.lt
  go_wp2_with fail
  (with_reducible refine (H13 _).out.mono ?_)
  clear X0 X1 Xl Y0 Y1 Yl
  rintro e w3 ⟨rfl, hg1⟩
  have k1 := hg1.kp
  replace A := (A.alloc _).kp k1
  replace B := (B.alloc _).kp k1
  replace X := (X.alloc _).kp k1
  replace Y := (Y.alloc _).kp k1
  replace Z9 := (Z9.alloc _).kp k1
  have Z11 := ((C2.new w2 (.int .i64 x1) (.int .i64 y1) 67)).kp k1
  replace hg := Lib.hid (GrewS.trans (hg.out.alloc _) hg1)
  clear k1 hg1
  generalize w2.heap.size = bZ11 at *
  have A0 := A.c0
  have A1 := A.c1
  have Al := A.lt
  have B0 := B.c0
  have B1 := B.c1
  have Bl := B.lt
  go_wp2_with fail
  (with_reducible refine (H15 _).out.mono ?_)
  clear A0 A1 Al B0 B1 Bl
  rintro e w4 ⟨rfl, hg1⟩
  have k1 := hg1.kp
  replace A := (A.alloc _).kp k1
  replace B := (B.alloc _).kp k1
  replace X := (X.alloc _).kp k1
  replace Y := (Y.alloc _).kp k1
  replace Z9 := (Z9.alloc _).kp k1
  replace Z11 := (Z11.alloc _).kp k1
  have Z13 := ((C2.new w3 (.int .i64 x2) (.int .i64 y2) 25)).kp k1
  replace hg := Lib.hid (GrewS.trans (hg.out.alloc _) hg1)
  clear k1 hg1
  generalize w3.heap.size = bZ13 at *
  have X0 := X.c0
  have X1 := X.c1
  have Xl := X.lt
  have Y0 := Y.c0
  have Y1 := Y.c1
  have Yl := Y.lt
  go_wp2_with fail
  (with_reducible refine (H17 _).out.mono ?_)
  clear X0 X1 Xl Y0 Y1 Yl
  rintro e w5 ⟨rfl, hg1⟩
  have k1 := hg1.kp
  replace A := (A.alloc _).kp k1
  replace B := (B.alloc _).kp k1
  replace X := (X.alloc _).kp k1
  replace Y := (Y.alloc _).kp k1
  replace Z9 := (Z9.alloc _).kp k1
  replace Z11 := (Z11.alloc _).kp k1
  replace Z13 := (Z13.alloc _).kp k1
  have Z15 := ((C2.new w4 (.int .i64 x2) (.int .i64 y2) 67)).kp k1
  replace hg := Lib.hid (GrewS.trans (hg.out.alloc _) hg1)
  clear k1 hg1
  generalize w4.heap.size = bZ15 at *
  have A0 := A.c0
  have A1 := A.c1
  have Al := A.lt
  have B0 := B.c0
  have B1 := B.c1
  have Bl := B.lt
  go_wp2_with fail
  (with_reducible refine (H19 _).out.mono ?_)
  clear A0 A1 Al B0 B1 Bl
  rintro e w6 ⟨rfl, hg1⟩
  have k1 := hg1.kp
  replace A := (A.alloc _).kp k1
  replace B := (B.alloc _).kp k1
  replace X := (X.alloc _).kp k1
  replace Y := (Y.alloc _).kp k1
  replace Z9 := (Z9.alloc _).kp k1
  replace Z11 := (Z11.alloc _).kp k1
  replace Z13 := (Z13.alloc _).kp k1
  replace Z15 := (Z15.alloc _).kp k1
  have Z17 := ((C2.new w5 (.int .i64 x3) (.int .i64 y3) 25)).kp k1
  replace hg := Lib.hid (GrewS.trans (hg.out.alloc _) hg1)
  clear k1 hg1
  generalize w5.heap.size = bZ17 at *
  have X0 := X.c0
  have X1 := X.c1
  have Xl := X.lt
  have Y0 := Y.c0
  have Y1 := Y.c1
  have Yl := Y.lt
  go_wp2_with fail
  (with_reducible refine (H21 _).out.mono ?_)
  clear X0 X1 Xl Y0 Y1 Yl
  rintro e w7 ⟨rfl, hg1⟩
  have k1 := hg1.kp
  replace A := (A.alloc _).kp k1
  replace B := (B.alloc _).kp k1
  replace X := (X.alloc _).kp k1
  replace Y := (Y.alloc _).kp k1
  replace Z9 := (Z9.alloc _).kp k1
  replace Z11 := (Z11.alloc _).kp k1
  replace Z13 := (Z13.alloc _).kp k1
  replace Z15 := (Z15.alloc _).kp k1
  replace Z17 := (Z17.alloc _).kp k1
  have Z19 := ((C2.new w6 (.int .i64 x3) (.int .i64 y3) 67)).kp k1
  replace hg := Lib.hid (GrewS.trans (hg.out.alloc _) hg1)
  clear k1 hg1
  generalize w6.heap.size = bZ19 at *
  have A0 := A.c0
  have A1 := A.c1
  have Al := A.lt
  have B0 := B.c0
  have B1 := B.c1
  have Bl := B.lt
  go_wp2_with fail
  (with_reducible refine (H23 _).out.mono ?_)
  clear A0 A1 Al B0 B1 Bl
  rintro e w8 ⟨rfl, hg1⟩
  have k1 := hg1.kp
  replace A := (A.alloc _).kp k1
  replace B := (B.alloc _).kp k1
  replace X := (X.alloc _).kp k1
  replace Y := (Y.alloc _).kp k1
  replace Z9 := (Z9.alloc _).kp k1
  replace Z11 := (Z11.alloc _).kp k1
  replace Z13 := (Z13.alloc _).kp k1
  replace Z15 := (Z15.alloc _).kp k1
  replace Z17 := (Z17.alloc _).kp k1
  replace Z19 := (Z19.alloc _).kp k1
  have Z21 := ((C2.new w7 (.int .i64 x4) (.int .i64 y4) 25)).kp k1
  replace hg := Lib.hid (GrewS.trans (hg.out.alloc _) hg1)
  clear k1 hg1
  generalize w7.heap.size = bZ21 at *
  have X0 := X.c0
  have X1 := X.c1
  have Xl := X.lt
  have Y0 := Y.c0
  have Y1 := Y.c1
  have Yl := Y.lt
  go_wp2_with fail
  (with_reducible refine (H25 _).out.mono ?_)
  clear X0 X1 Xl Y0 Y1 Yl
  rintro e w9 ⟨rfl, hg1⟩
  have k1 := hg1.kp
  replace A := (A.alloc _).kp k1
  replace B := (B.alloc _).kp k1
  replace X := (X.alloc _).kp k1
  replace Y := (Y.alloc _).kp k1
  replace Z9 := (Z9.alloc _).kp k1
  replace Z11 := (Z11.alloc _).kp k1
  replace Z13 := (Z13.alloc _).kp k1
  replace Z15 := (Z15.alloc _).kp k1
  replace Z17 := (Z17.alloc _).kp k1
  replace Z19 := (Z19.alloc _).kp k1
  replace Z21 := (Z21.alloc _).kp k1
  have Z23 := ((C2.new w8 (.int .i64 x4) (.int .i64 y4) 67)).kp k1
  replace hg := Lib.hid (GrewS.trans (hg.out.alloc _) hg1)
  clear k1 hg1
  generalize w8.heap.size = bZ23 at *
  have X0 := X.c0
  have X1 := X.c1
  have Xl := X.lt
  have Y0 := Y.c0
  have Y1 := Y.c1
  have Yl := Y.lt
  go_wp2_with fail
  (with_reducible refine (H27 _).out.mono ?_)
  clear X0 X1 Xl Y0 Y1 Yl
  rintro e w10 ⟨rfl, hg1⟩
  have k1 := hg1.kp
  replace A := (A.alloc _).kp k1
  replace B := (B.alloc _).kp k1
  replace X := (X.alloc _).kp k1
  replace Y := (Y.alloc _).kp k1
  replace Z9 := (Z9.alloc _).kp k1
  replace Z11 := (Z11.alloc _).kp k1
  replace Z13 := (Z13.alloc _).kp k1
  replace Z15 := (Z15.alloc _).kp k1
  replace Z17 := (Z17.alloc _).kp k1
  replace Z19 := (Z19.alloc _).kp k1
  replace Z21 := (Z21.alloc _).kp k1
  replace Z23 := (Z23.alloc _).kp k1
  have Z25 := ((C2.new w9 (.int .i64 x5) (.int .i64 y5) 25)).kp k1
  replace hg := Lib.hid (GrewS.trans (hg.out.alloc _) hg1)
  clear k1 hg1
  generalize w9.heap.size = bZ25 at *
  go_upto_region 12 with fail
  have Z27 := C2.new w10 (.int .i64 x5) (.int .i64 y5) 67
  replace A := A.alloc (.cells #[.int .i64 x5, .int .i64 y5] 67)
  replace B := B.alloc (.cells #[.int .i64 x5, .int .i64 y5] 67)
  replace X := X.alloc (.cells #[.int .i64 x5, .int .i64 y5] 67)
  replace Y := Y.alloc (.cells #[.int .i64 x5, .int .i64 y5] 67)
  replace Z9 := Z9.alloc (.cells #[.int .i64 x5, .int .i64 y5] 67)
  replace Z11 := Z11.alloc (.cells #[.int .i64 x5, .int .i64 y5] 67)
  replace Z13 := Z13.alloc (.cells #[.int .i64 x5, .int .i64 y5] 67)
  replace Z15 := Z15.alloc (.cells #[.int .i64 x5, .int .i64 y5] 67)
  replace Z17 := Z17.alloc (.cells #[.int .i64 x5, .int .i64 y5] 67)
  replace Z19 := Z19.alloc (.cells #[.int .i64 x5, .int .i64 y5] 67)
  replace Z21 := Z21.alloc (.cells #[.int .i64 x5, .int .i64 y5] 67)
  replace Z23 := Z23.alloc (.cells #[.int .i64 x5, .int .i64 y5] 67)
  replace Z25 := Z25.alloc (.cells #[.int .i64 x5, .int .i64 y5] 67)
  replace hg := Lib.hid (hg.out.alloc (.cells #[.int .i64 x5, .int .i64 y5] 67))
  generalize w10.alloc (.cells #[.int .i64 x5, .int .i64 y5] 67) = v0 at *
  generalize w10.heap.size = bZ27 at *
  have HB := Lib.hid (show ∀ w', GrewS v0 w' → (w'.cell? ⟨bA, 0, none⟩ = some (.int .i64 a) ∧ w'.cell? ⟨bA, 1, none⟩ = some (.int .i64 b) ∧ w'.cell? ⟨W.heap.size, 0, none⟩ = some (.int .i64 a) ∧ w'.cell? ⟨W.heap.size, 1, none⟩ = some (.int .i64 b) ∧ w'.cell? ⟨bZ9, 0, none⟩ = some (.int .i64 x1) ∧ w'.cell? ⟨bZ9, 1, none⟩ = some (.int .i64 y1) ∧ w'.cell? ⟨bZ11, 0, none⟩ = some (.int .i64 x1) ∧ w'.cell? ⟨bZ11, 1, none⟩ = some (.int .i64 y1) ∧ w'.cell? ⟨bZ13, 0, none⟩ = some (.int .i64 x2) ∧ w'.cell? ⟨bZ13, 1, none⟩ = some (.int .i64 y2) ∧ w'.cell? ⟨bZ15, 0, none⟩ = some (.int .i64 x2) ∧ w'.cell? ⟨bZ15, 1, none⟩ = some (.int .i64 y2) ∧ w'.cell? ⟨bZ17, 0, none⟩ = some (.int .i64 x3) ∧ w'.cell? ⟨bZ17, 1, none⟩ = some (.int .i64 y3) ∧ w'.cell? ⟨bZ19, 0, none⟩ = some (.int .i64 x3) ∧ w'.cell? ⟨bZ19, 1, none⟩ = some (.int .i64 y3) ∧ w'.cell? ⟨bZ21, 0, none⟩ = some (.int .i64 x4) ∧ w'.cell? ⟨bZ21, 1, none⟩ = some (.int .i64 y4) ∧ w'.cell? ⟨bZ23, 0, none⟩ = some (.int .i64 x4) ∧ w'.cell? ⟨bZ23, 1, none⟩ = some (.int .i64 y4) ∧ w'.cell? ⟨bZ25, 0, none⟩ = some (.int .i64 x5) ∧ w'.cell? ⟨bZ25, 1, none⟩ = some (.int .i64 y5) ∧ w'.cell? ⟨bZ27, 0, none⟩ = some (.int .i64 x5) ∧ w'.cell? ⟨bZ27, 1, none⟩ = some (.int .i64 y5)) from fun w' g => ⟨(A.kp g.kp).c0, (A.kp g.kp).c1, (X.kp g.kp).c0, (X.kp g.kp).c1, (Z9.kp g.kp).c0, (Z9.kp g.kp).c1, (Z11.kp g.kp).c0, (Z11.kp g.kp).c1, (Z13.kp g.kp).c0, (Z13.kp g.kp).c1, (Z15.kp g.kp).c0, (Z15.kp g.kp).c1, (Z17.kp g.kp).c0, (Z17.kp g.kp).c1, (Z19.kp g.kp).c0, (Z19.kp g.kp).c1, (Z21.kp g.kp).c0, (Z21.kp g.kp).c1, (Z23.kp g.kp).c0, (Z23.kp g.kp).c1, (Z25.kp g.kp).c0, (Z25.kp g.kp).c1, (Z27.kp g.kp).c0, (Z27.kp g.kp).c1⟩)
  have h0 := Lib.hid (GrewS.refl v0)
  go_region_held3 (fun w' => w'.cell? ⟨bA, 0, none⟩ = some (.int .i64 a) ∧ w'.cell? ⟨bA, 1, none⟩ = some (.int .i64 b) ∧ w'.cell? ⟨W.heap.size, 0, none⟩ = some (.int .i64 a) ∧ w'.cell? ⟨W.heap.size, 1, none⟩ = some (.int .i64 b) ∧ w'.cell? ⟨bZ9, 0, none⟩ = some (.int .i64 x1) ∧ w'.cell? ⟨bZ9, 1, none⟩ = some (.int .i64 y1) ∧ w'.cell? ⟨bZ11, 0, none⟩ = some (.int .i64 x1) ∧ w'.cell? ⟨bZ11, 1, none⟩ = some (.int .i64 y1) ∧ w'.cell? ⟨bZ13, 0, none⟩ = some (.int .i64 x2) ∧ w'.cell? ⟨bZ13, 1, none⟩ = some (.int .i64 y2) ∧ w'.cell? ⟨bZ15, 0, none⟩ = some (.int .i64 x2) ∧ w'.cell? ⟨bZ15, 1, none⟩ = some (.int .i64 y2) ∧ w'.cell? ⟨bZ17, 0, none⟩ = some (.int .i64 x3) ∧ w'.cell? ⟨bZ17, 1, none⟩ = some (.int .i64 y3) ∧ w'.cell? ⟨bZ19, 0, none⟩ = some (.int .i64 x3) ∧ w'.cell? ⟨bZ19, 1, none⟩ = some (.int .i64 y3) ∧ w'.cell? ⟨bZ21, 0, none⟩ = some (.int .i64 x4) ∧ w'.cell? ⟨bZ21, 1, none⟩ = some (.int .i64 y4) ∧ w'.cell? ⟨bZ23, 0, none⟩ = some (.int .i64 x4) ∧ w'.cell? ⟨bZ23, 1, none⟩ = some (.int .i64 y4) ∧ w'.cell? ⟨bZ25, 0, none⟩ = some (.int .i64 x5) ∧ w'.cell? ⟨bZ25, 1, none⟩ = some (.int .i64 y5) ∧ w'.cell? ⟨bZ27, 0, none⟩ = some (.int .i64 x5) ∧ w'.cell? ⟨bZ27, 1, none⟩ = some (.int .i64 y5))
    (first | exact HB.out _ h0.out | exact HB.out _ h0.out.drew | exact HB.out _ (h0.out.drewN _))
    (first | (go_at_call 35; refine (HE _ _ _ _).out.mono ?_; rintro e wx ⟨rfl, hg1⟩; replace h0 := Lib.hid (GrewS.trans (by first | exact h0.out | exact h0.out.drew) hg1); clear hg1) | (go_at_call 28; refine (HR1 _).out.mono ?_; rintro e wx ⟨rfl, hg1⟩; replace h0 := Lib.hid (h0.out.trans hg1.s)) | (go_at_call 43; refine (HR2 _).out.mono ?_; rintro e wx ⟨rfl, hg1⟩; replace h0 := Lib.hid (h0.out.trans hg1.s)))
  replace hg := Lib.hid (hg.out.trans h0.out)
  have k1 := h0.out.kp
  replace A := A.kp k1
  replace B := B.kp k1
  replace X := X.kp k1
  replace Y := Y.kp k1
  clear k1 h0 HB Z9 Z11 Z13 Z15 Z17 Z19 Z21 Z23 Z25 Z27 HR1 HR2
  have X0 := X.c0
  have X1 := X.c1
  have Xl := X.lt
  have Y0 := Y.c0
  have Y1 := Y.c1
  have Yl := Y.lt
  go_wp2_with fail
  (with_reducible refine (HC1 _).out.mono ?_)
  clear X0 X1 Xl Y0 Y1 Yl
  rintro e y1 ⟨rfl, hg1⟩
  have k1 := hg1.kp
  replace A := (A).kp k1
  replace B := (B).kp k1
  replace X := (X).kp k1
  replace Y := (Y).kp k1
  replace hg := Lib.hid (GrewS.trans (hg.out) hg1)
  clear k1 hg1
  have A0 := A.c0
  have A1 := A.c1
  have Al := A.lt
  have B0 := B.c0
  have B1 := B.c1
  have Bl := B.lt
  go_wp2_with fail
  (with_reducible refine (HC2 _).out.mono ?_)
  clear A0 A1 Al B0 B1 Bl
  rintro e y2 ⟨rfl, hg1⟩
  have k1 := hg1.kp
  replace A := (A).kp k1
  replace B := (B).kp k1
  replace X := (X).kp k1
  replace Y := (Y).kp k1
  replace hg := Lib.hid (GrewS.trans (hg.out) hg1)
  clear k1 hg1
  have X0 := X.c0
  have X1 := X.c1
  have Xl := X.lt
  go_wp2_with fail
  (with_reducible refine (HS1 _).out.mono ?_)
  clear X0 X1 Xl
  rintro e y3 ⟨rfl, hg1⟩
  have k1 := hg1.kp
  replace A := (A).kp k1
  replace B := (B).kp k1
  replace X := (X).kp k1
  replace Y := (Y).kp k1
  replace hg := Lib.hid (GrewS.trans (hg.out) hg1)
  clear k1 hg1
  have A0 := A.c0
  have A1 := A.c1
  have Al := A.lt
  go_wp2_with fail
  (with_reducible refine (HS2 _).out.mono ?_)
  clear A0 A1 Al
  rintro e y4 ⟨rfl, hg1⟩
  have k1 := hg1.kp
  replace A := (A.alloc _).kp k1
  replace B := (B.alloc _).kp k1
  replace X := (X.alloc _).kp k1
  replace Y := (Y.alloc _).kp k1
  have ZS := ((C2.new y3 (.int .i64 sn) (.int .i64 sd) 25)).kp k1
  replace hg := Lib.hid (GrewS.trans (hg.out.alloc _) hg1)
  clear k1 hg1
  generalize y3.heap.size = bZS at *
  have X0 := X.c0
  have X1 := X.c1
  have Xl := X.lt
  have Y0 := Y.c0
  have Y1 := Y.c1
  have Yl := Y.lt
  go_wp2_with fail
  have P := HP (y4.alloc (.cells #[.int .i64 sn, .int .i64 sd] 67)) 25
  rw [show (World.alloc y4 _).heap.size = y4.heap.size + 1 by simp] at P
  (with_reducible refine (HM1 _ _ P).out.mono ?_)
  clear P
  clear X0 X1 Xl Y0 Y1 Yl
  rintro e y5 ⟨rfl, hg1⟩
  have k1 := hg1.kp
  replace A := ((A.alloc _).alloc _).kp k1
  replace B := ((B.alloc _).alloc _).kp k1
  replace X := ((X.alloc _).alloc _).kp k1
  replace Y := ((Y.alloc _).alloc _).kp k1
  replace ZS := ((ZS.alloc _).alloc _).kp k1
  have ZT := ((C2.new y4 (.int .i64 sn) (.int .i64 sd) 67).alloc _).kp k1
  replace hg := Lib.hid (GrewS.trans ((hg.out.alloc _).alloc _) hg1)
  clear k1 hg1
  generalize y4.heap.size = bZT at *
  have A0 := A.c0
  have A1 := A.c1
  have Al := A.lt
  have B0 := B.c0
  have B1 := B.c1
  have Bl := B.lt
  go_wp2_with fail
  have P := HP (y5.alloc (.cells #[.int .i64 mn, .int .i64 md] 25)) 67
  rw [show (World.alloc y5 _).heap.size = y5.heap.size + 1 by simp] at P
  (with_reducible refine (HM2 _ _ P).out.mono ?_)
  clear P
  clear A0 A1 Al B0 B1 Bl
  rintro e y6 ⟨rfl, hg1⟩
  have k1 := hg1.kp
  replace A := ((A.alloc _).alloc _).kp k1
  replace B := ((B.alloc _).alloc _).kp k1
  replace X := ((X.alloc _).alloc _).kp k1
  replace Y := ((Y.alloc _).alloc _).kp k1
  replace ZS := ((ZS.alloc _).alloc _).kp k1
  replace ZT := ((ZT.alloc _).alloc _).kp k1
  have ZU := ((C2.new y5 (.int .i64 mn) (.int .i64 md) 25).alloc _).kp k1
  replace hg := Lib.hid (GrewS.trans ((hg.out.alloc _).alloc _) hg1)
  clear k1 hg1
  generalize y5.heap.size = bZU at *
  have A0 := A.c0
  have A1 := A.c1
  have Al := A.lt
  have B0 := B.c0
  have B1 := B.c1
  have Bl := B.lt
  have X0 := X.c0
  have X1 := X.c1
  have Xl := X.lt
  have Y0 := Y.c0
  have Y1 := Y.c1
  have Yl := Y.lt
  have ZS0 := ZS.c0
  have ZS1 := ZS.c1
  have ZSl := ZS.lt
  have ZT0 := ZT.c0
  have ZT1 := ZT.c1
  have ZTl := ZT.lt
  have ZU0 := ZU.c0
  have ZU1 := ZU.c1
  have ZUl := ZU.lt
  go_wp2_with fail
  (with_reducible refine (HE _ _ _ _).out.mono ?_)
  rintro e y7 ⟨rfl, hg1⟩
  have k1 := hg1.kp
  have ZU' := (ZU.alloc (.cells #[.int .i64 mn, .int .i64 md] 67)).kp k1
  have ZV' := (C2.new y6 (.int .i64 mn) (.int .i64 md) 67).kp k1
  replace hg := Lib.hid ((hg.out.alloc (.cells #[.int .i64 mn, .int .i64 md] 67)).trans hg1)
  have u0 := ZU'.c0
  have u1 := ZU'.c1
  have u2 := ZV'.c0
  have u3 := ZV'.c1
  clear k1 hg1
  go_wp2_with fail
  (with_reducible refine (HE _ _ _ _).out.mono ?_)
  rintro e y8 ⟨rfl, hg1⟩
  have hg2 := Lib.hid (hg.out.trans hg1)
  clear hg1
  go_wp2_with fail
  go_ret
  exact ⟨rfl, hg2.out⟩
end Go.Proofs.Ytjffikiebeneaaa
