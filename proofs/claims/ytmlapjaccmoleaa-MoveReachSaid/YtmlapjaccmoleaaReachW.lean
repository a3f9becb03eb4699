/-
  The law MoveReach, walked.
-/
import Derived.Test.YtmlapjaccmoleaaMoves
import Derived.Test.YtmlapjaccmoleaaCells3
import Derived.Deep.Cut
namespace Go.Proofs.Ytmlapjaccmoleaa
open Go.RowKit

theorem right_gr {v r w : Int} (W : World) (h : rightB v r w = true) : Calls Try.prog 25 #[ent v r w] W fun e w' => e = .returned (.bool true) ∧ Grew 1 W w' :=
  (right_t W h).mono fun _ _ ⟨he, hw⟩ => ⟨he, hw ▸ (Grew.zero W).alloc _⟩

set_option maxRecDepth 100000 in
set_option maxHeartbeats 8000000 in
theorem mr_none {b0 : Bool} {y r w f R M : Int} (W : World) (hb : EB y R M) (hr : relB false y R M = true) (hy : y = 18446744073709551615)
    (HM' : ∀ W, Calls Try.prog 39 #[rel b0 y r w] W fun e w' => e = .returned (rel false y R M) ∧ GrewS W w') :
    Calls Try.prog 13 #[rel b0 y r w, .int .u64 f] W fun e w' => e = .returned (.bool true) ∧ GrewS W w' := by
  have HA := fun W => Lib.hid (awakeM_any W)
  have HM := fun W => Lib.hid (HM' W)
  have H1 := fun W => Lib.hid (reach_n W hb hr rfl hy)
  clear HM' hb hr
  subst hy
  go_enter Try.func13, Try.ntmps13
  go_wp2_with fail
  refine (HA _).out.mono ?_
  rintro e w1 ⟨rfl, hg1⟩
  have X := C4.kp (C4.new W _ _ _ _ _) hg1.kp
  have FX := Fz.kp (Fz.new W _ _) hg1.kp
  have hg := Lib.hid (((GrewS.refl W).alloc _).trans hg1)
  clear hg1
  have X_0 := X.c0
  have X_1 := X.c1
  have X_2 := X.c2
  have X_3 := X.c3
  have X_l := X.lt
  go_wp2_with fail
  clear X_0 X_1 X_2 X_3 X_l
  refine (HM _).out.mono ?_
  rintro e w2 ⟨rfl, hw2⟩
  have kw2 := hw2.kp
  replace X := C4.kp (by repeat with_reducible first | exact X | apply C4.alloc | apply C4.drew | apply C4.drewN) kw2
  replace hg := Lib.hid (GrewS.trans (by repeat with_reducible first | exact hg.out | apply GrewS.alloc | apply GrewS.drew | apply GrewS.drewN) hw2)
  replace FX := FX.kp kw2
  have FX2 := FX.2
  clear kw2 hw2
  have X_0 := X.c0
  have X_1 := X.c1
  have X_2 := X.c2
  have X_3 := X.c3
  have X_l := X.lt
  clear HM
  go_wp2_with fail
  clear X_0 X_1 X_2 X_3 X_l
  clear FX2
  replace X := X.set (.bool false) (.int .u64 18446744073709551615) (.int .u32 R) (.int .u32 M)
  replace hg := Lib.hid (hg.out.set4 (Nat.le_refl _) (.bool false) (.int .u64 18446744073709551615) (.int .u32 R) (.int .u32 M))
  generalize World.setCell _ _ _ = w2 at *
  have X_0 := X.c0
  have X_1 := X.c1
  have X_2 := X.c2
  have X_3 := X.c3
  have X_l := X.lt
  clear X_0 X_1 X_2 X_3 X_l
  refine (H1 _).out.mono ?_
  rintro e w3 ⟨rfl, hw3⟩
  have kw3 := hw3.kp
  replace X := C4.kp (by repeat with_reducible first | exact X | apply C4.alloc | apply C4.drew | apply C4.drewN) kw3
  replace hg := Lib.hid (GrewS.trans (by repeat with_reducible first | exact hg.out | apply GrewS.alloc | apply GrewS.drew | apply GrewS.drewN) hw3)
  clear kw3 hw3
  have X_0 := X.c0
  have X_1 := X.c1
  have X_2 := X.c2
  have X_3 := X.c3
  have X_l := X.lt
  clear H1
  go_wp2_with fail
  go_ret
  refine ⟨by simp, ?_⟩
  repeat with_reducible first | exact hg.out | apply GrewS.drewN | apply GrewS.drew | apply GrewS.alloc


set_option maxRecDepth 100000 in
set_option maxHeartbeats 8000000 in
theorem mr_true {b0 : Bool} {y r w f R M : Int} (W : World) (hb : EB y R M) (hr : relB true y R M = true) (f0 : 0 ≤ f) (f1 : f ≤ 18446744073709551615)
    (HM' : ∀ W, Calls Try.prog 39 #[rel b0 y r w] W fun e w' => e = .returned (rel true y R M) ∧ GrewS W w') :
    Calls Try.prog 13 #[rel b0 y r w, .int .u64 f] W fun e w' => e = .returned (.bool true) ∧ GrewS W w' := by
  have HA := fun W => Lib.hid (awakeM_any W)
  have HM := fun W => Lib.hid (HM' W)
  have H1 := fun W => Lib.hid (reach_t W hb hr (Or.inl rfl))
  have HI := Lib.hid (fun t t0 t1 => in_iff (b := true) (y := y) (t := t) t0 t1)
  have HB := Lib.hid hb
  have HR := Lib.hid hr
  have l0 : 0 ≤ lowV true y := by unfold lowV; have := hb.v0; simp; try omega
  have l1 : lowV true y ≤ 18446744073709551615 := by unfold lowV; have := hb.v1; simp; try omega
  have h0 : 0 ≤ highV true y := by unfold highV; have := hb.v0; have := hb.v1; simp; try omega
  have h1 : highV true y ≤ 18446744073709551615 := by unfold highV; have := hb.v0; simp; try omega
  have h2 : lowV true y ≤ highV true y := by unfold lowV highV; have := hb.v0; have := hb.v1; simp; try omega
  generalize lowV true y = lo at *
  generalize highV true y = hi at *
  clear HM' hb hr
  go_enter Try.func13, Try.ntmps13
  go_wp2_with fail
  refine (HA _).out.mono ?_
  rintro e w1 ⟨rfl, hg1⟩
  have X := C4.kp (C4.new W _ _ _ _ _) hg1.kp
  have FX := Fz.kp (Fz.new W _ _) hg1.kp
  have hg := Lib.hid (((GrewS.refl W).alloc _).trans hg1)
  clear hg1
  have X_0 := X.c0
  have X_1 := X.c1
  have X_2 := X.c2
  have X_3 := X.c3
  have X_l := X.lt
  go_wp2_with fail
  clear X_0 X_1 X_2 X_3 X_l
  refine (HM _).out.mono ?_
  rintro e w2 ⟨rfl, hw2⟩
  have kw2 := hw2.kp
  replace X := C4.kp (by repeat with_reducible first | exact X | apply C4.alloc | apply C4.drew | apply C4.drewN) kw2
  replace hg := Lib.hid (GrewS.trans (by repeat with_reducible first | exact hg.out | apply GrewS.alloc | apply GrewS.drew | apply GrewS.drewN) hw2)
  replace FX := FX.kp kw2
  have FX2 := FX.2
  clear kw2 hw2
  have X_0 := X.c0
  have X_1 := X.c1
  have X_2 := X.c2
  have X_3 := X.c3
  have X_l := X.lt
  clear HM
  go_wp2_with fail
  clear X_0 X_1 X_2 X_3 X_l
  clear FX2
  replace X := X.set (.bool true) (.int .u64 y) (.int .u32 R) (.int .u32 M)
  replace hg := Lib.hid (hg.out.set4 (Nat.le_refl _) (.bool true) (.int .u64 y) (.int .u32 R) (.int .u32 M))
  generalize World.setCell _ _ _ = w2 at *
  have X_0 := X.c0
  have X_1 := X.c1
  have X_2 := X.c2
  have X_3 := X.c3
  have X_l := X.lt
  clear X_0 X_1 X_2 X_3 X_l
  refine (H1 _).out.mono ?_
  rintro e w3 ⟨rfl, hw3⟩
  have kw3 := hw3.kp
  replace X := C4.kp (by repeat with_reducible first | exact X | apply C4.alloc | apply C4.drew | apply C4.drewN) kw3
  replace hg := Lib.hid (GrewS.trans (by repeat with_reducible first | exact hg.out | apply GrewS.alloc | apply GrewS.drew | apply GrewS.drewN) hw3)
  clear kw3 hw3
  have X_0 := X.c0
  have X_1 := X.c1
  have X_2 := X.c2
  have X_3 := X.c3
  have X_l := X.lt
  clear H1
  go_wp2_with fail
  go_loopw [51] (fun i wr => ∃ (k : Nat) (zs : List Int), k ≤ 7 ∧ i = .int .i64 k ∧ zs.length = 7 ∧ U64s zs ∧ GrewS W wr ∧ C4 wr W.heap.size (.bool true) (.int .u64 y) (.int .u32 R) (.int .u32 M) ∧ IsInts wr .u64 (some ⟨w3.heap.size, 0, none⟩) 7 zs) (fun i _ => 7 - (intOf i).toNat)
  case atStart =>
    refine ⟨0, [f, lo, hi, IntKind.u64.wrap (lo + 1), IntKind.u64.wrap (hi - 1), IntKind.u64.wrap (lo - 1), IntKind.u64.wrap (hi + 1)], by omega, rfl, rfl, u64s_of ?_, hg.out.alloc _, X.alloc _, isInts_new (k := .u64) w3 [f, lo, hi, IntKind.u64.wrap (lo + 1), IntKind.u64.wrap (hi - 1), IntKind.u64.wrap (lo - 1), IntKind.u64.wrap (hi + 1)] 22⟩
    intro z hz
    simp only [List.mem_cons, List.not_mem_nil, or_false] at hz
    rcases hz with rfl | rfl | rfl | rfl | rfl | rfl | rfl
    · exact ⟨f0, f1⟩
    · exact ⟨l0, l1⟩
    · exact ⟨h0, h1⟩
    all_goals exact bounds_u64 (wf_wrap .u64 _)
  case round =>
    clear hg X X_0 X_1 X_2 X_3 X_l l0 l1 h0 h1 f0 f1
    obtain ⟨k, zs, hk, rfl, hl, hzs, hg, X, hI⟩ := hrel
    by_cases hlt : (k : Int) < 7
    · obtain ⟨bb, off, he, hbl, hc⟩ := hI k (by omega)
      cases he
      rw [Nat.zero_add] at hc
      have hz := hzs k
      generalize zs.getD k 0 = z at *
      have hpos : true = true → 0 < y := (relB_of HR.out).2
      have H40' := fun W => on_t W HB.out hz.1 hz.2 HR.out
      have HRt' := fun W => right_gr W (on_right HB.out hz.1 hz.2 HR.out)
      have hzz := Lib.hid hzs
      have y0 := HB.out.v0
      have y1 := HB.out.v1
      have z0 := hz.1
      have z1 := hz.2
      have hgg := Lib.hid hg
      by_cases hin : lo ≤ z ∧ z ≤ hi
      · have h := on_in (b := true) (r := R) HB.out.v0 hz.1 hz.2 hpos ((HI.out z hz.1 hz.2).2 hin)
        have hV := h.1
        rw [h.2.2.2] at H40' HRt'
        simp only [Bool.false_eq_true, if_true, if_false] at hV
        have hib := (HI.out z hz.1 hz.2).2 hin
        unfold inB at hib
        simp only [Bool.false_eq_true, if_true, if_false, decide_eq_true_eq] at hib
        have p1 := hpos
        generalize onV true y z = V at *
        have q1 : V ≤ z := by omega
        have q2 : z - V = y := by omega
        have q3 : V ≠ 18446744073709551615 := by first | omega | (have := p1 rfl; omega)
        have q3' : (V != 18446744073709551615) = true := bne_iff_ne.2 q3
        obtain ⟨q4, q5⟩ := hin
        have H40 := fun W => Lib.hid (H40' W)
        have HRt := fun W => Lib.hid (HRt' W)
        clear H40' HRt' h hV hib p1 hpos hzs hg HB HR HI
        have X_0 := X.c0
        have X_1 := X.c1
        have X_2 := X.c2
        have X_3 := X.c3
        have X_l := X.lt
        go_wp2_with fail
        refine (H40 _).out.mono ?_
        rintro e w4 ⟨rfl, hg4⟩
        have k4 := hg4.kp
        replace X := X.kp k4
        replace hI := hI.below k4
        replace hgg := Lib.hid (hgg.out.trans hg4)
        clear k4 hg4 X_0 X_1 X_2 X_3 X_l
        have X_0 := X.c0
        have X_1 := X.c1
        have X_2 := X.c2
        have X_3 := X.c3
        have X_l := X.lt
        go_wp2_with fail
        refine (HRt _).out.mono ?_
        rintro e w5 ⟨rfl, hg5⟩
        have k5 := hg5.kp
        have Y := C3.kp (C3.new w4 _ _ _ _) k5
        replace X := (X.alloc _).kp k5
        replace hI := IsInts.below (hI.below ((Kp.refl _ _).alloc (Nat.le_refl _) _)) k5
        replace hgg := Lib.hid ((hgg.out.alloc _).trans hg5.s)
        clear k5 hg5 X_0 X_1 X_2 X_3 X_l
        have X_0 := X.c0
        have X_1 := X.c1
        have X_2 := X.c2
        have X_3 := X.c3
        have X_l := X.lt
        have Y_0 := Y.c0
        have Y_1 := Y.c1
        have Y_2 := Y.c2
        have Y_l := Y.lt
        go_wp2_with fail
        go_roundw
        case rel => exact ⟨k + 1, zs, by omega, by go_num, hl, hzz.out, hgg.out, X, hI⟩
        case measure => simp [intOf]; omega
      · have hno : inB true y z = false := by
          cases hx : inB true y z with
          | false => rfl
          | true => exact absurd ((HI.out z hz.1 hz.2).1 hx) hin
        have hib := hno
        unfold inB at hib
        simp only [Bool.false_eq_true, if_true, if_false, decide_eq_false_iff_not] at hib
        have hV : onV true y z = 0 := by unfold onV lessV andV; simp; omega
        rw [hV] at H40' HRt'
        generalize onR true y R z = RR at *
        have q4 : ¬ (lo ≤ z ∧ z ≤ hi) := hin
        have H40 := fun W => Lib.hid (H40' W)
        have HRt := fun W => Lib.hid (HRt' W)
        have q7 : (z == y) = false := beq_eq_false_iff_ne.2 (by omega)
        clear H40' HRt' hV hib hno hpos hzs hg HB HR HI
        rcases (show (z < lo) ∨ (lo ≤ z ∧ hi < z) by omega) with q5 | ⟨q5, q6⟩
        all_goals
          have X_0 := X.c0
          have X_1 := X.c1
          have X_2 := X.c2
          have X_3 := X.c3
          have X_l := X.lt
          go_wp2_with fail
          refine (H40 _).out.mono ?_
          rintro e w4 ⟨rfl, hg4⟩
          have k4 := hg4.kp
          replace X := X.kp k4
          replace hI := hI.below k4
          replace hgg := Lib.hid (hgg.out.trans hg4)
          clear k4 hg4 X_0 X_1 X_2 X_3 X_l
          have X_0 := X.c0
          have X_1 := X.c1
          have X_2 := X.c2
          have X_3 := X.c3
          have X_l := X.lt
          go_wp2_with fail
          refine (HRt _).out.mono ?_
          rintro e w5 ⟨rfl, hg5⟩
          have k5 := hg5.kp
          have Y := C3.kp (C3.new w4 _ _ _ _) k5
          replace X := (X.alloc _).kp k5
          replace hI := IsInts.below (hI.below ((Kp.refl _ _).alloc (Nat.le_refl _) _)) k5
          replace hgg := Lib.hid ((hgg.out.alloc _).trans hg5.s)
          clear k5 hg5 X_0 X_1 X_2 X_3 X_l
          have X_0 := X.c0
          have X_1 := X.c1
          have X_2 := X.c2
          have X_3 := X.c3
          have X_l := X.lt
          have Y_0 := Y.c0
          have Y_1 := Y.c1
          have Y_2 := Y.c2
          have Y_l := Y.lt
          go_wp2_with fail
          go_roundw
          case rel => exact ⟨k + 1, zs, by omega, by go_num, hl, hzz.out, hgg.out, X, hI⟩
          case measure => simp [intOf]; omega
    · have hk7 : k = 7 := by omega
      subst hk7
      have hgg := Lib.hid hg
      clear hg hzs hI hlt hk
      go_wp2_with fail
      go_ret
      exact ⟨by simp; try omega, hgg.out⟩

set_option maxRecDepth 100000 in
set_option maxHeartbeats 8000000 in
theorem mr_false {b0 : Bool} {y r w f R M : Int} (W : World) (hb : EB y R M) (hr : relB false y R M = true) (f0 : 0 ≤ f) (f1 : f ≤ 18446744073709551615) (hy : y ≠ 18446744073709551615)
    (HM' : ∀ W, Calls Try.prog 39 #[rel b0 y r w] W fun e w' => e = .returned (rel false y R M) ∧ GrewS W w') :
    Calls Try.prog 13 #[rel b0 y r w, .int .u64 f] W fun e w' => e = .returned (.bool true) ∧ GrewS W w' := by
  have HA := fun W => Lib.hid (awakeM_any W)
  have HM := fun W => Lib.hid (HM' W)
  have H1 := fun W => Lib.hid (reach_t W hb hr (Or.inr hy))
  have HI := Lib.hid (fun t t0 t1 => in_iff (b := false) (y := y) (t := t) t0 t1)
  have HB := Lib.hid hb
  have HR := Lib.hid hr
  have l0 : 0 ≤ lowV false y := by unfold lowV; have := hb.v0; simp; try omega
  have l1 : lowV false y ≤ 18446744073709551615 := by unfold lowV; have := hb.v1; simp; try omega
  have h0 : 0 ≤ highV false y := by unfold highV; have := hb.v0; have := hb.v1; simp; try omega
  have h1 : highV false y ≤ 18446744073709551615 := by unfold highV; have := hb.v0; simp; try omega
  have h2 : lowV false y ≤ highV false y := by unfold lowV highV; have := hb.v0; have := hb.v1; simp; try omega
  generalize lowV false y = lo at *
  generalize highV false y = hi at *
  clear HM' hb hr
  go_enter Try.func13, Try.ntmps13
  go_wp2_with fail
  refine (HA _).out.mono ?_
  rintro e w1 ⟨rfl, hg1⟩
  have X := C4.kp (C4.new W _ _ _ _ _) hg1.kp
  have FX := Fz.kp (Fz.new W _ _) hg1.kp
  have hg := Lib.hid (((GrewS.refl W).alloc _).trans hg1)
  clear hg1
  have X_0 := X.c0
  have X_1 := X.c1
  have X_2 := X.c2
  have X_3 := X.c3
  have X_l := X.lt
  go_wp2_with fail
  clear X_0 X_1 X_2 X_3 X_l
  refine (HM _).out.mono ?_
  rintro e w2 ⟨rfl, hw2⟩
  have kw2 := hw2.kp
  replace X := C4.kp (by repeat with_reducible first | exact X | apply C4.alloc | apply C4.drew | apply C4.drewN) kw2
  replace hg := Lib.hid (GrewS.trans (by repeat with_reducible first | exact hg.out | apply GrewS.alloc | apply GrewS.drew | apply GrewS.drewN) hw2)
  replace FX := FX.kp kw2
  have FX2 := FX.2
  clear kw2 hw2
  have X_0 := X.c0
  have X_1 := X.c1
  have X_2 := X.c2
  have X_3 := X.c3
  have X_l := X.lt
  clear HM
  go_wp2_with fail
  clear X_0 X_1 X_2 X_3 X_l
  clear FX2
  replace X := X.set (.bool false) (.int .u64 y) (.int .u32 R) (.int .u32 M)
  replace hg := Lib.hid (hg.out.set4 (Nat.le_refl _) (.bool false) (.int .u64 y) (.int .u32 R) (.int .u32 M))
  generalize World.setCell _ _ _ = w2 at *
  have X_0 := X.c0
  have X_1 := X.c1
  have X_2 := X.c2
  have X_3 := X.c3
  have X_l := X.lt
  clear X_0 X_1 X_2 X_3 X_l
  refine (H1 _).out.mono ?_
  rintro e w3 ⟨rfl, hw3⟩
  have kw3 := hw3.kp
  replace X := C4.kp (by repeat with_reducible first | exact X | apply C4.alloc | apply C4.drew | apply C4.drewN) kw3
  replace hg := Lib.hid (GrewS.trans (by repeat with_reducible first | exact hg.out | apply GrewS.alloc | apply GrewS.drew | apply GrewS.drewN) hw3)
  clear kw3 hw3
  have X_0 := X.c0
  have X_1 := X.c1
  have X_2 := X.c2
  have X_3 := X.c3
  have X_l := X.lt
  clear H1
  go_wp2_with fail
  go_loopw [51] (fun i wr => ∃ (k : Nat) (zs : List Int), k ≤ 7 ∧ i = .int .i64 k ∧ zs.length = 7 ∧ U64s zs ∧ GrewS W wr ∧ C4 wr W.heap.size (.bool false) (.int .u64 y) (.int .u32 R) (.int .u32 M) ∧ IsInts wr .u64 (some ⟨w3.heap.size, 0, none⟩) 7 zs) (fun i _ => 7 - (intOf i).toNat)
  case atStart =>
    refine ⟨0, [f, lo, hi, IntKind.u64.wrap (lo + 1), IntKind.u64.wrap (hi - 1), IntKind.u64.wrap (lo - 1), IntKind.u64.wrap (hi + 1)], by omega, rfl, rfl, u64s_of ?_, hg.out.alloc _, X.alloc _, isInts_new (k := .u64) w3 [f, lo, hi, IntKind.u64.wrap (lo + 1), IntKind.u64.wrap (hi - 1), IntKind.u64.wrap (lo - 1), IntKind.u64.wrap (hi + 1)] 22⟩
    intro z hz
    simp only [List.mem_cons, List.not_mem_nil, or_false] at hz
    rcases hz with rfl | rfl | rfl | rfl | rfl | rfl | rfl
    · exact ⟨f0, f1⟩
    · exact ⟨l0, l1⟩
    · exact ⟨h0, h1⟩
    all_goals exact bounds_u64 (wf_wrap .u64 _)
  case round =>
    clear hg X X_0 X_1 X_2 X_3 X_l l0 l1 h0 h1 f0 f1
    obtain ⟨k, zs, hk, rfl, hl, hzs, hg, X, hI⟩ := hrel
    by_cases hlt : (k : Int) < 7
    · obtain ⟨bb, off, he, hbl, hc⟩ := hI k (by omega)
      cases he
      rw [Nat.zero_add] at hc
      have hz := hzs k
      generalize zs.getD k 0 = z at *
      have hpos : false = true → 0 < y := (relB_of HR.out).2
      have H40' := fun W => on_t W HB.out hz.1 hz.2 HR.out
      have HRt' := fun W => right_gr W (on_right HB.out hz.1 hz.2 HR.out)
      have hzz := Lib.hid hzs
      have y0 := HB.out.v0
      have y1 := HB.out.v1
      have z0 := hz.1
      have z1 := hz.2
      have hgg := Lib.hid hg
      by_cases hin : lo ≤ z ∧ z ≤ hi
      · have h := on_in (b := false) (r := R) HB.out.v0 hz.1 hz.2 hpos ((HI.out z hz.1 hz.2).2 hin)
        have hV := h.1
        rw [h.2.2.2] at H40' HRt'
        simp only [Bool.false_eq_true, if_true, if_false] at hV
        have hib := (HI.out z hz.1 hz.2).2 hin
        unfold inB at hib
        simp only [Bool.false_eq_true, if_true, if_false, decide_eq_true_eq] at hib
        have p1 := hpos
        generalize onV false y z = V at *
        have q1 : z ≤ V := by omega
        have q2 : V - z = y := by omega
        have q3 : V ≠ 18446744073709551615 := by first | omega | (have := p1 rfl; omega)
        have q3' : (V != 18446744073709551615) = true := bne_iff_ne.2 q3
        obtain ⟨q4, q5⟩ := hin
        have H40 := fun W => Lib.hid (H40' W)
        have HRt := fun W => Lib.hid (HRt' W)
        clear H40' HRt' h hV hib p1 hpos hzs hg HB HR HI
        have X_0 := X.c0
        have X_1 := X.c1
        have X_2 := X.c2
        have X_3 := X.c3
        have X_l := X.lt
        go_wp2_with fail
        refine (H40 _).out.mono ?_
        rintro e w4 ⟨rfl, hg4⟩
        have k4 := hg4.kp
        replace X := X.kp k4
        replace hI := hI.below k4
        replace hgg := Lib.hid (hgg.out.trans hg4)
        clear k4 hg4 X_0 X_1 X_2 X_3 X_l
        have X_0 := X.c0
        have X_1 := X.c1
        have X_2 := X.c2
        have X_3 := X.c3
        have X_l := X.lt
        go_wp2_with fail
        refine (HRt _).out.mono ?_
        rintro e w5 ⟨rfl, hg5⟩
        have k5 := hg5.kp
        have Y := C3.kp (C3.new w4 _ _ _ _) k5
        replace X := (X.alloc _).kp k5
        replace hI := IsInts.below (hI.below ((Kp.refl _ _).alloc (Nat.le_refl _) _)) k5
        replace hgg := Lib.hid ((hgg.out.alloc _).trans hg5.s)
        clear k5 hg5 X_0 X_1 X_2 X_3 X_l
        have X_0 := X.c0
        have X_1 := X.c1
        have X_2 := X.c2
        have X_3 := X.c3
        have X_l := X.lt
        have Y_0 := Y.c0
        have Y_1 := Y.c1
        have Y_2 := Y.c2
        have Y_l := Y.lt
        go_wp2_with fail
        go_roundw
        case rel => exact ⟨k + 1, zs, by omega, by go_num, hl, hzz.out, hgg.out, X, hI⟩
        case measure => simp [intOf]; omega
      · have hno : inB false y z = false := by
          cases hx : inB false y z with
          | false => rfl
          | true => exact absurd ((HI.out z hz.1 hz.2).1 hx) hin
        have hib := hno
        unfold inB at hib
        simp only [Bool.false_eq_true, if_true, if_false, decide_eq_false_iff_not] at hib
        have hV : onV false y z = 18446744073709551615 := by unfold onV lessV andV; simp; omega
        rw [hV] at H40' HRt'
        generalize onR false y R z = RR at *
        have q4 : ¬ (lo ≤ z ∧ z ≤ hi) := hin
        have H40 := fun W => Lib.hid (H40' W)
        have HRt := fun W => Lib.hid (HRt' W)
        clear H40' HRt' hV hib hno hpos hzs hg HB HR HI
        rcases (show (z < lo ∧ 18446744073709551615 - z = y) ∨ (z < lo ∧ ¬ 18446744073709551615 - z = y) ∨ (lo ≤ z ∧ hi < z ∧ 18446744073709551615 - z = y) ∨ (lo ≤ z ∧ hi < z ∧ ¬ 18446744073709551615 - z = y) by omega) with ⟨q5, q8⟩ | ⟨q5, q8⟩ | ⟨q5, q6, q8⟩ | ⟨q5, q6, q8⟩
        all_goals
          have X_0 := X.c0
          have X_1 := X.c1
          have X_2 := X.c2
          have X_3 := X.c3
          have X_l := X.lt
          go_wp2_with fail
          refine (H40 _).out.mono ?_
          rintro e w4 ⟨rfl, hg4⟩
          have k4 := hg4.kp
          replace X := X.kp k4
          replace hI := hI.below k4
          replace hgg := Lib.hid (hgg.out.trans hg4)
          clear k4 hg4 X_0 X_1 X_2 X_3 X_l
          have X_0 := X.c0
          have X_1 := X.c1
          have X_2 := X.c2
          have X_3 := X.c3
          have X_l := X.lt
          go_wp2_with fail
          refine (HRt _).out.mono ?_
          rintro e w5 ⟨rfl, hg5⟩
          have k5 := hg5.kp
          have Y := C3.kp (C3.new w4 _ _ _ _) k5
          replace X := (X.alloc _).kp k5
          replace hI := IsInts.below (hI.below ((Kp.refl _ _).alloc (Nat.le_refl _) _)) k5
          replace hgg := Lib.hid ((hgg.out.alloc _).trans hg5.s)
          clear k5 hg5 X_0 X_1 X_2 X_3 X_l
          have X_0 := X.c0
          have X_1 := X.c1
          have X_2 := X.c2
          have X_3 := X.c3
          have X_l := X.lt
          have Y_0 := Y.c0
          have Y_1 := Y.c1
          have Y_2 := Y.c2
          have Y_l := Y.lt
          go_wp2_with fail
          go_roundw
          case rel => exact ⟨k + 1, zs, by omega, by go_num, hl, hzz.out, hgg.out, X, hI⟩
          case measure => simp [intOf]; omega
    · have hk7 : k = 7 := by omega
      subst hk7
      have hgg := Lib.hid hg
      clear hg hzs hI hlt hk
      go_wp2_with fail
      go_ret
      exact ⟨by simp; try omega, hgg.out⟩

theorem law13 {b0 : Bool} {y r w : Int} {W : World} (b : EB y r w) (f : Int) (wf : (Lit.int .u64 f).wf = true) :
    Calls Try.prog 13 #[rel b0 y r w, .int .u64 f] W fun e w' => e = .returned (.bool true) ∧ Kp W.heap.size W w' := by
  obtain ⟨b', R, M, h1, h2, H⟩ := relM_ent (b := b0) b
  have hf := bounds_u64 wf
  cases b'
  · by_cases hy : y = 18446744073709551615
    · exact (mr_none W h1 h2 hy H).mono fun _ _ ⟨he, hw⟩ => ⟨he, hw.kp⟩
    · exact (mr_false W h1 h2 hf.1 hf.2 hy H).mono fun _ _ ⟨he, hw⟩ => ⟨he, hw.kp⟩
  · exact (mr_true W h1 h2 hf.1 hf.2 H).mono fun _ _ ⟨he, hw⟩ => ⟨he, hw.kp⟩
end Go.Proofs.Ytmlapjaccmoleaa
