/-
  The law MoveMoves, walked.
-/
import Derived.Test.YtmlapjaccmoleaaMadeM
import Derived.Deep.Cut
namespace Go.Proofs.Ytmlapjaccmoleaa
open Go.RowKit

theorem in_iff {b : Bool} {y t : Int} (t0 : 0 ≤ t) (t1 : t ≤ 18446744073709551615) : inB b y t = true ↔ lowV b y ≤ t ∧ t ≤ highV b y := by
  unfold inB lowV highV
  cases b <;> simp <;> omega

set_option maxRecDepth 100000 in
set_option maxHeartbeats 8000000 in
theorem mm_a {v r w f t : Int} (W : World) (b : EB v r w) (f0 : 0 ≤ f) (f1 : f ≤ 18446744073709551615) (t0 : 0 ≤ t) (t1 : t ≤ 18446744073709551615)
    (hcase : offB v f = true ∨ ahV v f ≠ 18446744073709551615) :
    Calls Try.prog 14 #[ent v r w, .int .u64 f, .int .u64 t] W fun e w' => e = .returned (.bool true) ∧ GrewS W w' := by
  obtain ⟨R, M, hb, hr, HM'⟩ := madeM_ent b
  have HA := fun W => Lib.hid (awakeM_any W)
  have HM := fun W => Lib.hid (HM' W)
  have hbo := off_eb hb f0 f1
  have hro := off_right (f := f) hr
  have H1' := fun W => off_t W hb f0 f1 hr
  have H2' := fun W => on_t W hbo t0 t1 hro
  simp only [on_off, onR_off] at H2'
  have H3 := fun W => Lib.hid (moved_t W hb f0 f1 t0 t1 hr)
  have hbm := mv_eb (f := f) hb t0 t1
  have hrm := mv_right (f := f) hb t0 t1 hr
  have H4' := fun W => off_t W hbm t0 t1 hrm
  have H5' := fun W => on_t W hbo f0 f1 hro
  rw [(on_back hb hr).1, (on_back hb hr).2] at H5'
  have H6' := fun W => reach_t W hbo hro hcase
  have H7' := fun W => relRight_t W hbo hro
  have HIN : inB (offB v f) (ahV v f) t = true → offB (mvV v f t) t = offB v f ∧ ahV (mvV v f t) t = ahV v f ∧ mvR v R f t = R := by
    intro h
    have h2 := on_in (r := R) hbo.v0 t0 t1 (fun h => off_pos h) h
    rw [on_off, onR_off] at h2
    exact h2.2
  have HOUT : inB (offB v f) (ahV v f) t = false → mvV v f t = 0 ∨ mvV v f t = 18446744073709551615 := by
    intro h
    have h2 := on_out h
    rwa [on_off] at h2
  have hq : offB v f = decide (v < f) := rfl
  have HI := in_iff (b := offB v f) (y := ahV v f) t0 t1
  generalize lowV (offB v f) (ahV v f) = lo at *
  generalize highV (offB v f) (ahV v f) = hi at *
  generalize offB (mvV v f t) t = qa at *
  generalize ahV (mvV v f t) t = ya at *
  generalize ahV v f = y at *
  rw [hq] at H1' H2' H5' H6' H7' HIN HOUT HI
  generalize mvR v R f t = NR at *
  generalize mvV v f t = N at *
  have H1 := fun W => Lib.hid (H1' W)
  have H2 := fun W => Lib.hid (H2' W)
  have H4 := fun W => Lib.hid (H4' W)
  have H5 := fun W => Lib.hid (H5' W)
  have H6 := fun W => Lib.hid (H6' W)
  have H7 := fun W => Lib.hid (H7' W)
  replace HIN := Lib.hid HIN
  replace HOUT := Lib.hid HOUT
  clear hb hr b f0 f1 t0 t1 hbo hro hbm hrm HM' H1' H2' H4' H5' H6' H7' hq hcase
  go_enter Try.func14, Try.ntmps14
  go_wp2_with fail
  refine (HA _).out.mono ?_
  rintro e w1 ⟨rfl, hg1⟩
  have X := C3.kp (C3.new W _ _ _ _) hg1.kp
  have FX := Fz.kp (Fz.new W _ _) hg1.kp
  have hg := Lib.hid (((GrewS.refl W).alloc _).trans hg1)
  clear hg1
  have X_0 := X.c0
  have X_1 := X.c1
  have X_2 := X.c2
  have X_l := X.lt
  go_wp2_with fail
  clear X_0 X_1 X_2 X_l
  refine (HM _).out.mono ?_
  rintro e w2 ⟨rfl, hw2⟩
  have kw2 := hw2.kp
  replace X := C3.kp (by repeat with_reducible first | exact X | apply C3.alloc | apply C3.drew | apply C3.drewN) kw2
  replace hg := Lib.hid (GrewS.trans (by repeat with_reducible first | exact hg.out | apply GrewS.alloc | apply GrewS.drew | apply GrewS.drewN) hw2)
  replace FX := FX.kp kw2
  have FX2 := FX.2
  clear kw2 hw2
  have X_0 := X.c0
  have X_1 := X.c1
  have X_2 := X.c2
  have X_l := X.lt
  clear HM
  go_wp2_with fail
  clear X_0 X_1 X_2 X_l
  clear FX2
  replace X := X.set (.int .u64 v) (.int .u32 R) (.int .u32 M)
  replace hg := Lib.hid (hg.out.set3 (Nat.le_refl _) (.int .u64 v) (.int .u32 R) (.int .u32 M))
  generalize World.setCell _ _ _ = w2 at *
  have X_0 := X.c0
  have X_1 := X.c1
  have X_2 := X.c2
  have X_l := X.lt
  clear X_0 X_1 X_2 X_l
  refine (H1 _).out.mono ?_
  rintro e w3 ⟨rfl, hw3⟩
  have kw3 := hw3.kp
  replace X := C3.kp (by repeat with_reducible first | exact X | apply C3.alloc | apply C3.drew | apply C3.drewN) kw3
  replace hg := Lib.hid (GrewS.trans (by repeat with_reducible first | exact hg.out | apply GrewS.alloc | apply GrewS.drew | apply GrewS.drewN) hw3)
  clear kw3 hw3
  have X_0 := X.c0
  have X_1 := X.c1
  have X_2 := X.c2
  have X_l := X.lt
  clear H1
  go_wp2_with fail
  clear X_0 X_1 X_2 X_l
  refine (H2 _).out.mono ?_
  rintro e w4 ⟨rfl, hw4⟩
  have kw4 := hw4.kp
  replace X := C3.kp (by repeat with_reducible first | exact X | apply C3.alloc | apply C3.drew | apply C3.drewN) kw4
  have O := C4.kp (C4.new w3 _ _ _ _ _) kw4
  replace hg := Lib.hid (GrewS.trans (by repeat with_reducible first | exact hg.out | apply GrewS.alloc | apply GrewS.drew | apply GrewS.drewN) hw4)
  clear kw4 hw4
  have X_0 := X.c0
  have X_1 := X.c1
  have X_2 := X.c2
  have X_l := X.lt
  have O_0 := O.c0
  have O_1 := O.c1
  have O_2 := O.c2
  have O_3 := O.c3
  have O_l := O.lt
  clear H2
  go_wp2_with fail
  clear X_0 X_1 X_2 X_l O_0 O_1 O_2 O_3 O_l
  refine (H3 _).out.mono ?_
  rintro e w5 ⟨rfl, hw5⟩
  have kw5 := hw5.kp
  replace X := C3.kp (by repeat with_reducible first | exact X | apply C3.alloc | apply C3.drew | apply C3.drewN) kw5
  replace O := C4.kp (by repeat with_reducible first | exact O | apply C4.alloc | apply C4.drew | apply C4.drewN) kw5
  have N1 := C3.kp (C3.new w4 _ _ _ _) kw5
  replace hg := Lib.hid (GrewS.trans (by repeat with_reducible first | exact hg.out | apply GrewS.alloc | apply GrewS.drew | apply GrewS.drewN) hw5.s)
  clear kw5 hw5
  have X_0 := X.c0
  have X_1 := X.c1
  have X_2 := X.c2
  have X_l := X.lt
  have O_0 := O.c0
  have O_1 := O.c1
  have O_2 := O.c2
  have O_3 := O.c3
  have O_l := O.lt
  have N1_0 := N1.c0
  have N1_1 := N1.c1
  have N1_2 := N1.c2
  have N1_l := N1.lt
  clear H3
  go_wp2_with fail
  clear X_0 X_1 X_2 X_l O_0 O_1 O_2 O_3 O_l N1_0 N1_1 N1_2 N1_l
  refine (H4 _).out.mono ?_
  rintro e w6 ⟨rfl, hw6⟩
  have kw6 := hw6.kp
  replace X := C3.kp (by repeat with_reducible first | exact X | apply C3.alloc | apply C3.drew | apply C3.drewN) kw6
  replace O := C4.kp (by repeat with_reducible first | exact O | apply C4.alloc | apply C4.drew | apply C4.drewN) kw6
  replace N1 := C3.kp (by repeat with_reducible first | exact N1 | apply C3.alloc | apply C3.drew | apply C3.drewN) kw6
  have T1 := C3.kp (C3.new w5 _ _ _ _) kw6
  replace hg := Lib.hid (GrewS.trans (by repeat with_reducible first | exact hg.out | apply GrewS.alloc | apply GrewS.drew | apply GrewS.drewN) hw6)
  clear kw6 hw6
  have X_0 := X.c0
  have X_1 := X.c1
  have X_2 := X.c2
  have X_l := X.lt
  have O_0 := O.c0
  have O_1 := O.c1
  have O_2 := O.c2
  have O_3 := O.c3
  have O_l := O.lt
  have N1_0 := N1.c0
  have N1_1 := N1.c1
  have N1_2 := N1.c2
  have N1_l := N1.lt
  have T1_0 := T1.c0
  have T1_1 := T1.c1
  have T1_2 := T1.c2
  have T1_l := T1.lt
  clear H4
  go_wp2_with fail
  clear X_0 X_1 X_2 X_l O_0 O_1 O_2 O_3 O_l N1_0 N1_1 N1_2 N1_l T1_0 T1_1 T1_2 T1_l
  refine (H5 _).out.mono ?_
  rintro e w7 ⟨rfl, hw7⟩
  have kw7 := hw7.kp
  replace X := C3.kp (by repeat with_reducible first | exact X | apply C3.alloc | apply C3.drew | apply C3.drewN) kw7
  replace O := C4.kp (by repeat with_reducible first | exact O | apply C4.alloc | apply C4.drew | apply C4.drewN) kw7
  replace N1 := C3.kp (by repeat with_reducible first | exact N1 | apply C3.alloc | apply C3.drew | apply C3.drewN) kw7
  replace T1 := C3.kp (by repeat with_reducible first | exact T1 | apply C3.alloc | apply C3.drew | apply C3.drewN) kw7
  have G1 := C4.kp (C4.new w6 _ _ _ _ _) kw7
  replace hg := Lib.hid (GrewS.trans (by repeat with_reducible first | exact hg.out | apply GrewS.alloc | apply GrewS.drew | apply GrewS.drewN) hw7)
  clear kw7 hw7
  have X_0 := X.c0
  have X_1 := X.c1
  have X_2 := X.c2
  have X_l := X.lt
  have O_0 := O.c0
  have O_1 := O.c1
  have O_2 := O.c2
  have O_3 := O.c3
  have O_l := O.lt
  have N1_0 := N1.c0
  have N1_1 := N1.c1
  have N1_2 := N1.c2
  have N1_l := N1.lt
  have T1_0 := T1.c0
  have T1_1 := T1.c1
  have T1_2 := T1.c2
  have T1_l := T1.lt
  have G1_0 := G1.c0
  have G1_1 := G1.c1
  have G1_2 := G1.c2
  have G1_3 := G1.c3
  have G1_l := G1.lt
  clear H5
  go_wp2_with fail
  clear X_0 X_1 X_2 X_l O_0 O_1 O_2 O_3 O_l N1_0 N1_1 N1_2 N1_l T1_0 T1_1 T1_2 T1_l G1_0 G1_1 G1_2 G1_3 G1_l
  refine (H6 _).out.mono ?_
  rintro e w8 ⟨rfl, hw8⟩
  have kw8 := hw8.kp
  replace X := C3.kp (by repeat with_reducible first | exact X | apply C3.alloc | apply C3.drew | apply C3.drewN) kw8
  replace O := C4.kp (by repeat with_reducible first | exact O | apply C4.alloc | apply C4.drew | apply C4.drewN) kw8
  replace N1 := C3.kp (by repeat with_reducible first | exact N1 | apply C3.alloc | apply C3.drew | apply C3.drewN) kw8
  replace T1 := C3.kp (by repeat with_reducible first | exact T1 | apply C3.alloc | apply C3.drew | apply C3.drewN) kw8
  replace G1 := C4.kp (by repeat with_reducible first | exact G1 | apply C4.alloc | apply C4.drew | apply C4.drewN) kw8
  have U1 := C3.kp (C3.new w7 _ _ _ _) kw8
  replace hg := Lib.hid (GrewS.trans (by repeat with_reducible first | exact hg.out | apply GrewS.alloc | apply GrewS.drew | apply GrewS.drewN) hw8)
  clear kw8 hw8
  have X_0 := X.c0
  have X_1 := X.c1
  have X_2 := X.c2
  have X_l := X.lt
  have O_0 := O.c0
  have O_1 := O.c1
  have O_2 := O.c2
  have O_3 := O.c3
  have O_l := O.lt
  have N1_0 := N1.c0
  have N1_1 := N1.c1
  have N1_2 := N1.c2
  have N1_l := N1.lt
  have T1_0 := T1.c0
  have T1_1 := T1.c1
  have T1_2 := T1.c2
  have T1_l := T1.lt
  have G1_0 := G1.c0
  have G1_1 := G1.c1
  have G1_2 := G1.c2
  have G1_3 := G1.c3
  have G1_l := G1.lt
  have U1_0 := U1.c0
  have U1_1 := U1.c1
  have U1_2 := U1.c2
  have U1_l := U1.lt
  clear H6
  go_wp2_with fail
  clear X_0 X_1 X_2 X_l O_0 O_1 O_2 O_3 O_l N1_0 N1_1 N1_2 N1_l T1_0 T1_1 T1_2 T1_l G1_0 G1_1 G1_2 G1_3 G1_l U1_0 U1_1 U1_2 U1_l
  refine (H7 _).out.mono ?_
  rintro e w9 ⟨rfl, hw9⟩
  have kw9 := hw9.kp
  replace X := C3.kp (by repeat with_reducible first | exact X | apply C3.alloc | apply C3.drew | apply C3.drewN) kw9
  replace O := C4.kp (by repeat with_reducible first | exact O | apply C4.alloc | apply C4.drew | apply C4.drewN) kw9
  replace N1 := C3.kp (by repeat with_reducible first | exact N1 | apply C3.alloc | apply C3.drew | apply C3.drewN) kw9
  replace T1 := C3.kp (by repeat with_reducible first | exact T1 | apply C3.alloc | apply C3.drew | apply C3.drewN) kw9
  replace G1 := C4.kp (by repeat with_reducible first | exact G1 | apply C4.alloc | apply C4.drew | apply C4.drewN) kw9
  replace U1 := C3.kp (by repeat with_reducible first | exact U1 | apply C3.alloc | apply C3.drew | apply C3.drewN) kw9
  replace hg := Lib.hid (GrewS.trans (by repeat with_reducible first | exact hg.out | apply GrewS.alloc | apply GrewS.drew | apply GrewS.drewN) hw9)
  clear kw9 hw9
  have X_0 := X.c0
  have X_1 := X.c1
  have X_2 := X.c2
  have X_l := X.lt
  have O_0 := O.c0
  have O_1 := O.c1
  have O_2 := O.c2
  have O_3 := O.c3
  have O_l := O.lt
  have N1_0 := N1.c0
  have N1_1 := N1.c1
  have N1_2 := N1.c2
  have N1_l := N1.lt
  have T1_0 := T1.c0
  have T1_1 := T1.c1
  have T1_2 := T1.c2
  have T1_l := T1.lt
  have G1_0 := G1.c0
  have G1_1 := G1.c1
  have G1_2 := G1.c2
  have G1_3 := G1.c3
  have G1_l := G1.lt
  have U1_0 := U1.c0
  have U1_1 := U1.c1
  have U1_2 := U1.c2
  have U1_l := U1.lt
  clear H7
  go_upto_region 12 with fail
  by_cases h1 : lo ≤ t
  · by_cases h2 : t ≤ hi
    · obtain ⟨e1, e2, e3⟩ := HIN.out (HI.2 ⟨h1, h2⟩)
      clear HI HIN HOUT
      subst e1 e2 e3
      go_wp2_with fail
      all_goals
        go_ret
        refine ⟨by simp [*], ?_⟩
        repeat with_reducible first | exact hg.out | apply GrewS.drewN | apply GrewS.drew | apply GrewS.alloc
    · have hno : inB (decide (v < f)) y t = false := by
        cases hx : inB (decide (v < f)) y t with
        | false => rfl
        | true => exact absurd (HI.1 hx).2 h2
      rcases HOUT.out hno with hN | hN
      all_goals
        clear HI HIN HOUT hno
        subst hN
        go_wp2_with fail
        all_goals
          go_ret
          refine ⟨by simp [*], ?_⟩
          repeat with_reducible first | exact hg.out | apply GrewS.drewN | apply GrewS.drew | apply GrewS.alloc
  · have hno : inB (decide (v < f)) y t = false := by
      cases hx : inB (decide (v < f)) y t with
      | false => rfl
      | true => exact absurd (HI.1 hx).1 h1
    rcases HOUT.out hno with hN | hN
    all_goals
      clear HI HIN HOUT hno
      subst hN
      go_wp2_with fail
      all_goals
        go_ret
        refine ⟨by simp [*], ?_⟩
        repeat with_reducible first | exact hg.out | apply GrewS.drewN | apply GrewS.drew | apply GrewS.alloc

set_option maxRecDepth 100000 in
set_option maxHeartbeats 8000000 in
theorem mm_b {v r w f t : Int} (W : World) (b : EB v r w) (f0 : 0 ≤ f) (f1 : f ≤ 18446744073709551615) (t0 : 0 ≤ t) (t1 : t ≤ 18446744073709551615)
    (hcase : offB v f = false ∧ ahV v f = 18446744073709551615) :
    Calls Try.prog 14 #[ent v r w, .int .u64 f, .int .u64 t] W fun e w' => e = .returned (.bool true) ∧ GrewS W w' := by
  obtain ⟨R, M, hb, hr, HM'⟩ := madeM_ent b
  have HA := fun W => Lib.hid (awakeM_any W)
  have HM := fun W => Lib.hid (HM' W)
  have hbo := off_eb hb f0 f1
  have hro := off_right (f := f) hr
  have H1' := fun W => off_t W hb f0 f1 hr
  have H2' := fun W => on_t W hbo t0 t1 hro
  simp only [on_off, onR_off] at H2'
  have H3 := fun W => Lib.hid (moved_t W hb f0 f1 t0 t1 hr)
  have hbm := mv_eb (f := f) hb t0 t1
  have hrm := mv_right (f := f) hb t0 t1 hr
  have H4' := fun W => off_t W hbm t0 t1 hrm
  have H5' := fun W => on_t W hbo f0 f1 hro
  rw [(on_back hb hr).1, (on_back hb hr).2] at H5'
  have H6' := fun W => reach_n W hbo hro hcase.1 hcase.2
  have H7' := fun W => relRight_t W hbo hro
  have HIN : inB (offB v f) (ahV v f) t = true → offB (mvV v f t) t = offB v f ∧ ahV (mvV v f t) t = ahV v f ∧ mvR v R f t = R := by
    intro h
    have h2 := on_in (r := R) hbo.v0 t0 t1 (fun h => off_pos h) h
    rw [on_off, onR_off] at h2
    exact h2.2
  have HOUT : inB (offB v f) (ahV v f) t = false → mvV v f t = 0 ∨ mvV v f t = 18446744073709551615 := by
    intro h
    have h2 := on_out h
    rwa [on_off] at h2
  have hq : offB v f = decide (v < f) := rfl
  have hno : inB (offB v f) (ahV v f) t = false := by rw [hcase.1, hcase.2]; exact decide_eq_false (by omega)
  generalize offB (mvV v f t) t = qa at *
  generalize ahV (mvV v f t) t = ya at *
  generalize ahV v f = y at *
  rw [hq] at H1' H2' H5' H6' H7' HIN HOUT hno
  generalize mvR v R f t = NR at *
  generalize mvV v f t = N at *
  have H1 := fun W => Lib.hid (H1' W)
  have H2 := fun W => Lib.hid (H2' W)
  have H4 := fun W => Lib.hid (H4' W)
  have H5 := fun W => Lib.hid (H5' W)
  have H6 := fun W => Lib.hid (H6' W)
  have H7 := fun W => Lib.hid (H7' W)
  replace HIN := Lib.hid HIN
  replace HOUT := Lib.hid HOUT
  clear hb hr b f0 f1 t0 t1 hbo hro hbm hrm HM' H1' H2' H4' H5' H6' H7' hq hcase
  go_enter Try.func14, Try.ntmps14
  go_wp2_with fail
  refine (HA _).out.mono ?_
  rintro e w1 ⟨rfl, hg1⟩
  have X := C3.kp (C3.new W _ _ _ _) hg1.kp
  have FX := Fz.kp (Fz.new W _ _) hg1.kp
  have hg := Lib.hid (((GrewS.refl W).alloc _).trans hg1)
  clear hg1
  have X_0 := X.c0
  have X_1 := X.c1
  have X_2 := X.c2
  have X_l := X.lt
  go_wp2_with fail
  clear X_0 X_1 X_2 X_l
  refine (HM _).out.mono ?_
  rintro e w2 ⟨rfl, hw2⟩
  have kw2 := hw2.kp
  replace X := C3.kp (by repeat with_reducible first | exact X | apply C3.alloc | apply C3.drew | apply C3.drewN) kw2
  replace hg := Lib.hid (GrewS.trans (by repeat with_reducible first | exact hg.out | apply GrewS.alloc | apply GrewS.drew | apply GrewS.drewN) hw2)
  replace FX := FX.kp kw2
  have FX2 := FX.2
  clear kw2 hw2
  have X_0 := X.c0
  have X_1 := X.c1
  have X_2 := X.c2
  have X_l := X.lt
  clear HM
  go_wp2_with fail
  clear X_0 X_1 X_2 X_l
  clear FX2
  replace X := X.set (.int .u64 v) (.int .u32 R) (.int .u32 M)
  replace hg := Lib.hid (hg.out.set3 (Nat.le_refl _) (.int .u64 v) (.int .u32 R) (.int .u32 M))
  generalize World.setCell _ _ _ = w2 at *
  have X_0 := X.c0
  have X_1 := X.c1
  have X_2 := X.c2
  have X_l := X.lt
  clear X_0 X_1 X_2 X_l
  refine (H1 _).out.mono ?_
  rintro e w3 ⟨rfl, hw3⟩
  have kw3 := hw3.kp
  replace X := C3.kp (by repeat with_reducible first | exact X | apply C3.alloc | apply C3.drew | apply C3.drewN) kw3
  replace hg := Lib.hid (GrewS.trans (by repeat with_reducible first | exact hg.out | apply GrewS.alloc | apply GrewS.drew | apply GrewS.drewN) hw3)
  clear kw3 hw3
  have X_0 := X.c0
  have X_1 := X.c1
  have X_2 := X.c2
  have X_l := X.lt
  clear H1
  go_wp2_with fail
  clear X_0 X_1 X_2 X_l
  refine (H2 _).out.mono ?_
  rintro e w4 ⟨rfl, hw4⟩
  have kw4 := hw4.kp
  replace X := C3.kp (by repeat with_reducible first | exact X | apply C3.alloc | apply C3.drew | apply C3.drewN) kw4
  have O := C4.kp (C4.new w3 _ _ _ _ _) kw4
  replace hg := Lib.hid (GrewS.trans (by repeat with_reducible first | exact hg.out | apply GrewS.alloc | apply GrewS.drew | apply GrewS.drewN) hw4)
  clear kw4 hw4
  have X_0 := X.c0
  have X_1 := X.c1
  have X_2 := X.c2
  have X_l := X.lt
  have O_0 := O.c0
  have O_1 := O.c1
  have O_2 := O.c2
  have O_3 := O.c3
  have O_l := O.lt
  clear H2
  go_wp2_with fail
  clear X_0 X_1 X_2 X_l O_0 O_1 O_2 O_3 O_l
  refine (H3 _).out.mono ?_
  rintro e w5 ⟨rfl, hw5⟩
  have kw5 := hw5.kp
  replace X := C3.kp (by repeat with_reducible first | exact X | apply C3.alloc | apply C3.drew | apply C3.drewN) kw5
  replace O := C4.kp (by repeat with_reducible first | exact O | apply C4.alloc | apply C4.drew | apply C4.drewN) kw5
  have N1 := C3.kp (C3.new w4 _ _ _ _) kw5
  replace hg := Lib.hid (GrewS.trans (by repeat with_reducible first | exact hg.out | apply GrewS.alloc | apply GrewS.drew | apply GrewS.drewN) hw5.s)
  clear kw5 hw5
  have X_0 := X.c0
  have X_1 := X.c1
  have X_2 := X.c2
  have X_l := X.lt
  have O_0 := O.c0
  have O_1 := O.c1
  have O_2 := O.c2
  have O_3 := O.c3
  have O_l := O.lt
  have N1_0 := N1.c0
  have N1_1 := N1.c1
  have N1_2 := N1.c2
  have N1_l := N1.lt
  clear H3
  go_wp2_with fail
  clear X_0 X_1 X_2 X_l O_0 O_1 O_2 O_3 O_l N1_0 N1_1 N1_2 N1_l
  refine (H4 _).out.mono ?_
  rintro e w6 ⟨rfl, hw6⟩
  have kw6 := hw6.kp
  replace X := C3.kp (by repeat with_reducible first | exact X | apply C3.alloc | apply C3.drew | apply C3.drewN) kw6
  replace O := C4.kp (by repeat with_reducible first | exact O | apply C4.alloc | apply C4.drew | apply C4.drewN) kw6
  replace N1 := C3.kp (by repeat with_reducible first | exact N1 | apply C3.alloc | apply C3.drew | apply C3.drewN) kw6
  have T1 := C3.kp (C3.new w5 _ _ _ _) kw6
  replace hg := Lib.hid (GrewS.trans (by repeat with_reducible first | exact hg.out | apply GrewS.alloc | apply GrewS.drew | apply GrewS.drewN) hw6)
  clear kw6 hw6
  have X_0 := X.c0
  have X_1 := X.c1
  have X_2 := X.c2
  have X_l := X.lt
  have O_0 := O.c0
  have O_1 := O.c1
  have O_2 := O.c2
  have O_3 := O.c3
  have O_l := O.lt
  have N1_0 := N1.c0
  have N1_1 := N1.c1
  have N1_2 := N1.c2
  have N1_l := N1.lt
  have T1_0 := T1.c0
  have T1_1 := T1.c1
  have T1_2 := T1.c2
  have T1_l := T1.lt
  clear H4
  go_wp2_with fail
  clear X_0 X_1 X_2 X_l O_0 O_1 O_2 O_3 O_l N1_0 N1_1 N1_2 N1_l T1_0 T1_1 T1_2 T1_l
  refine (H5 _).out.mono ?_
  rintro e w7 ⟨rfl, hw7⟩
  have kw7 := hw7.kp
  replace X := C3.kp (by repeat with_reducible first | exact X | apply C3.alloc | apply C3.drew | apply C3.drewN) kw7
  replace O := C4.kp (by repeat with_reducible first | exact O | apply C4.alloc | apply C4.drew | apply C4.drewN) kw7
  replace N1 := C3.kp (by repeat with_reducible first | exact N1 | apply C3.alloc | apply C3.drew | apply C3.drewN) kw7
  replace T1 := C3.kp (by repeat with_reducible first | exact T1 | apply C3.alloc | apply C3.drew | apply C3.drewN) kw7
  have G1 := C4.kp (C4.new w6 _ _ _ _ _) kw7
  replace hg := Lib.hid (GrewS.trans (by repeat with_reducible first | exact hg.out | apply GrewS.alloc | apply GrewS.drew | apply GrewS.drewN) hw7)
  clear kw7 hw7
  have X_0 := X.c0
  have X_1 := X.c1
  have X_2 := X.c2
  have X_l := X.lt
  have O_0 := O.c0
  have O_1 := O.c1
  have O_2 := O.c2
  have O_3 := O.c3
  have O_l := O.lt
  have N1_0 := N1.c0
  have N1_1 := N1.c1
  have N1_2 := N1.c2
  have N1_l := N1.lt
  have T1_0 := T1.c0
  have T1_1 := T1.c1
  have T1_2 := T1.c2
  have T1_l := T1.lt
  have G1_0 := G1.c0
  have G1_1 := G1.c1
  have G1_2 := G1.c2
  have G1_3 := G1.c3
  have G1_l := G1.lt
  clear H5
  go_wp2_with fail
  clear X_0 X_1 X_2 X_l O_0 O_1 O_2 O_3 O_l N1_0 N1_1 N1_2 N1_l T1_0 T1_1 T1_2 T1_l G1_0 G1_1 G1_2 G1_3 G1_l
  refine (H6 _).out.mono ?_
  rintro e w8 ⟨rfl, hw8⟩
  have kw8 := hw8.kp
  replace X := C3.kp (by repeat with_reducible first | exact X | apply C3.alloc | apply C3.drew | apply C3.drewN) kw8
  replace O := C4.kp (by repeat with_reducible first | exact O | apply C4.alloc | apply C4.drew | apply C4.drewN) kw8
  replace N1 := C3.kp (by repeat with_reducible first | exact N1 | apply C3.alloc | apply C3.drew | apply C3.drewN) kw8
  replace T1 := C3.kp (by repeat with_reducible first | exact T1 | apply C3.alloc | apply C3.drew | apply C3.drewN) kw8
  replace G1 := C4.kp (by repeat with_reducible first | exact G1 | apply C4.alloc | apply C4.drew | apply C4.drewN) kw8
  have U1 := C3.kp (C3.new w7 _ _ _ _) kw8
  replace hg := Lib.hid (GrewS.trans (by repeat with_reducible first | exact hg.out | apply GrewS.alloc | apply GrewS.drew | apply GrewS.drewN) hw8)
  clear kw8 hw8
  have X_0 := X.c0
  have X_1 := X.c1
  have X_2 := X.c2
  have X_l := X.lt
  have O_0 := O.c0
  have O_1 := O.c1
  have O_2 := O.c2
  have O_3 := O.c3
  have O_l := O.lt
  have N1_0 := N1.c0
  have N1_1 := N1.c1
  have N1_2 := N1.c2
  have N1_l := N1.lt
  have T1_0 := T1.c0
  have T1_1 := T1.c1
  have T1_2 := T1.c2
  have T1_l := T1.lt
  have G1_0 := G1.c0
  have G1_1 := G1.c1
  have G1_2 := G1.c2
  have G1_3 := G1.c3
  have G1_l := G1.lt
  have U1_0 := U1.c0
  have U1_1 := U1.c1
  have U1_2 := U1.c2
  have U1_l := U1.lt
  clear H6
  go_wp2_with fail
  clear X_0 X_1 X_2 X_l O_0 O_1 O_2 O_3 O_l N1_0 N1_1 N1_2 N1_l T1_0 T1_1 T1_2 T1_l G1_0 G1_1 G1_2 G1_3 G1_l U1_0 U1_1 U1_2 U1_l
  refine (H7 _).out.mono ?_
  rintro e w9 ⟨rfl, hw9⟩
  have kw9 := hw9.kp
  replace X := C3.kp (by repeat with_reducible first | exact X | apply C3.alloc | apply C3.drew | apply C3.drewN) kw9
  replace O := C4.kp (by repeat with_reducible first | exact O | apply C4.alloc | apply C4.drew | apply C4.drewN) kw9
  replace N1 := C3.kp (by repeat with_reducible first | exact N1 | apply C3.alloc | apply C3.drew | apply C3.drewN) kw9
  replace T1 := C3.kp (by repeat with_reducible first | exact T1 | apply C3.alloc | apply C3.drew | apply C3.drewN) kw9
  replace G1 := C4.kp (by repeat with_reducible first | exact G1 | apply C4.alloc | apply C4.drew | apply C4.drewN) kw9
  replace U1 := C3.kp (by repeat with_reducible first | exact U1 | apply C3.alloc | apply C3.drew | apply C3.drewN) kw9
  replace hg := Lib.hid (GrewS.trans (by repeat with_reducible first | exact hg.out | apply GrewS.alloc | apply GrewS.drew | apply GrewS.drewN) hw9)
  clear kw9 hw9
  have X_0 := X.c0
  have X_1 := X.c1
  have X_2 := X.c2
  have X_l := X.lt
  have O_0 := O.c0
  have O_1 := O.c1
  have O_2 := O.c2
  have O_3 := O.c3
  have O_l := O.lt
  have N1_0 := N1.c0
  have N1_1 := N1.c1
  have N1_2 := N1.c2
  have N1_l := N1.lt
  have T1_0 := T1.c0
  have T1_1 := T1.c1
  have T1_2 := T1.c2
  have T1_l := T1.lt
  have G1_0 := G1.c0
  have G1_1 := G1.c1
  have G1_2 := G1.c2
  have G1_3 := G1.c3
  have G1_l := G1.lt
  have U1_0 := U1.c0
  have U1_1 := U1.c1
  have U1_2 := U1.c2
  have U1_l := U1.lt
  clear H7
  go_upto_region 12 with fail
  rcases HOUT.out hno with hN | hN
  all_goals
    subst hN
    go_wp2_with fail
    all_goals
      go_ret
      refine ⟨by simp [*], ?_⟩
      repeat with_reducible first | exact hg.out | apply GrewS.drewN | apply GrewS.drew | apply GrewS.alloc

theorem law14 {v r w : Int} {W : World} (b : EB v r w) (f : Int) (wf : (Lit.int .u64 f).wf = true) (t : Int) (wt : (Lit.int .u64 t).wf = true) :
    Calls Try.prog 14 #[ent v r w, .int .u64 f, .int .u64 t] W fun e w' => e = .returned (.bool true) ∧ Kp W.heap.size W w' := by
  by_cases h : offB v f = true ∨ ahV v f ≠ 18446744073709551615
  · exact (mm_a W b (bounds_u64 wf).1 (bounds_u64 wf).2 (bounds_u64 wt).1 (bounds_u64 wt).2 h).mono fun _ _ ⟨he, hw⟩ => ⟨he, hw.kp⟩
  · have h2 : offB v f = false ∧ ahV v f = 18446744073709551615 := by
      cases hq : offB v f with
      | true => exact absurd (Or.inl hq) h
      | false => exact ⟨rfl, by by_cases hy : ahV v f = 18446744073709551615
                                · exact hy
                                · exact absurd (Or.inr hy) h⟩
    exact (mm_b W b (bounds_u64 wf).1 (bounds_u64 wf).2 (bounds_u64 wt).1 (bounds_u64 wt).2 h2).mono fun _ _ ⟨he, hw⟩ => ⟨he, hw.kp⟩
end Go.Proofs.Ytmlapjaccmoleaa
