/-
  The law MoveOrder, walked.
-/
import Derived.Test.YtmlapjaccmoleaaMoves
namespace Go.Proofs.Ytmlapjaccmoleaa
open Go.RowKit

theorem mv_strict {v u f t : Int} (t0 : 0 ≤ t) (t1 : t ≤ 18446744073709551615) (h : v < u) : mvV v f t < mvV u f t ∨ (mvV u f t = mvV v f t ∧ (mvV v f t = 0 ∨ mvV v f t = 18446744073709551615)) := by
  simp only [mvV, andV, lessV]
  repeat' split
  all_goals omega

set_option maxRecDepth 100000 in
set_option maxHeartbeats 8000000 in
theorem mo_eq {v r w r2 w2 f t : Int} (W : World) (b1 : EB v r w) (b2 : EB v r2 w2) (f0 : 0 ≤ f) (f1 : f ≤ 18446744073709551615) (t0 : 0 ≤ t) (t1 : t ≤ 18446744073709551615) :
    Calls Try.prog 18 #[ent v r w, ent v r2 w2, .int .u64 f, .int .u64 t] W fun e w' => e = .returned (.bool true) ∧ GrewS W w' := by
  obtain ⟨R, M, hb, hr, HM'⟩ := madeM_ent b1
  obtain ⟨R2, M2, hb2, hr2, HN'⟩ := madeM_ent b2
  have HA := fun W => Lib.hid (awakeM_any W)
  have HM := fun W => Lib.hid (HM' W)
  have HN := fun W => Lib.hid (HN' W)
  have hbo := off_eb hb f0 f1
  have hro := off_right (f := f) hr
  have hbp := off_eb hb2 f0 f1
  have hrp := off_right (f := f) hr2
  have H1' := fun W => off_t W hb f0 f1 hr
  have H2' := fun W => off_t W hb2 f0 f1 hr2
  have H3' := fun W => cmp_t W hbo hbp hro hrp
  have H4' := fun W => cmp_t W hbp hbo hrp hro
  have H5' := fun W => on_t W hbo t0 t1 hro
  have H6' := fun W => on_t W hbp t0 t1 hrp
  simp only [on_off, onR_off] at H5' H6'
  rw [cm_off] at H3' H4'
  have e1 : cmpI v v = 0 := by unfold cmpI; (repeat' split) <;> omega
  have e2 : cmpI v v = 0 := by unfold cmpI; (repeat' split) <;> omega
  rw [e1] at H3'
  rw [e2] at H4'
  generalize offB v f = q at *
  generalize ahV v f = y at *
  generalize mvR v R f t = PR at *
  generalize mvV v f t = P at *
  generalize mvR v R2 f t = QR at *
  have H1 := fun W => Lib.hid (H1' W)
  have H2 := fun W => Lib.hid (H2' W)
  have H3 := fun W => Lib.hid (H3' W)
  have H4 := fun W => Lib.hid (H4' W)
  have H5 := fun W => Lib.hid (H5' W)
  have H6 := fun W => Lib.hid (H6' W)
  clear hb hr hb2 hr2 b1 b2 f0 f1 t0 t1 hbo hro hbp hrp HM' HN' H1' H2' H3' H4' H5' H6' e1 e2
  go_enter Try.func18, Try.ntmps18
  go_wp2_with fail
  refine (HA _).out.mono ?_
  rintro e w1 ⟨rfl, hg1⟩
  have X := C3.kp ((C3.new W _ _ _ _).alloc _) hg1.kp
  have FX := Fz.kp ((Fz.new W _ _).alloc _) hg1.kp
  have Y : C3 w1 (W.heap.size + 1) (.int .u64 v) (.int .u32 r2) (.int .u32 w2) := by simpa using C3.kp (C3.new (W.alloc _) _ _ _ _) hg1.kp
  have FY : Fz w1 (W.heap.size + 1) := by simpa using Fz.kp (Fz.new (W.alloc _) _ _) hg1.kp
  have hg := Lib.hid ((((GrewS.refl W).alloc _).alloc _).trans hg1)
  clear hg1
  have X_0 := X.c0
  have X_1 := X.c1
  have X_2 := X.c2
  have X_l := X.lt
  have Y_0 := Y.c0
  have Y_1 := Y.c1
  have Y_2 := Y.c2
  have Y_l := Y.lt
  go_wp2_with fail
  clear X_0 X_1 X_2 X_l Y_0 Y_1 Y_2 Y_l
  refine wp_region_anyN (fun w' => w'.cell? ⟨W.heap.size, 0, none⟩ = some (.int .u64 v) ∧ w'.cell? ⟨W.heap.size, 1, none⟩ = some (.int .u32 r) ∧ w'.cell? ⟨W.heap.size, 2, none⟩ = some (.int .u32 w) ∧ w'.cell? ⟨(W.heap.size + 1), 0, none⟩ = some (.int .u64 v) ∧ w'.cell? ⟨(W.heap.size + 1), 1, none⟩ = some (.int .u32 r2) ∧ w'.cell? ⟨(W.heap.size + 1), 2, none⟩ = some (.int .u32 w2)) 4 (by kernel_rfl) ?_
  replace X := X.drew
  replace Y := Y.drew
  replace FX := FX.drew
  replace FY := FY.drew
  replace hg := Lib.hid hg.out.drew
  generalize w1.drew = w1 at *
  have hS : w1.cell? ⟨W.heap.size, 0, none⟩ = some (.int .u64 v) ∧ w1.cell? ⟨W.heap.size, 1, none⟩ = some (.int .u32 r) ∧ w1.cell? ⟨W.heap.size, 2, none⟩ = some (.int .u32 w) ∧ w1.cell? ⟨(W.heap.size + 1), 0, none⟩ = some (.int .u64 v) ∧ w1.cell? ⟨(W.heap.size + 1), 1, none⟩ = some (.int .u32 r2) ∧ w1.cell? ⟨(W.heap.size + 1), 2, none⟩ = some (.int .u32 w2) := ⟨X.c0, X.c1, X.c2, Y.c0, Y.c1, Y.c2⟩
  refine anyN_take 0 (v := ?_) rfl (by kernel_rfl) (by kernel_rfl) (by kernel_rfl) (by kernel_rfl) (by kernel_rfl) (fun _ _ _ h => h) (Or.inl ⟨by rfl, ?_⟩) (by assumption) ?_
  rotate_left
  · intro w hSw
    obtain ⟨_, _, _, _, _, _⟩ := hSw
    go_simp
    try with_reducible rfl
  simp only [Act.put, List.setIfInBounds_toArray, List.set_cons_zero, List.set_cons_succ]
  refine anyN_take 2 (v := ?_) rfl (by kernel_rfl) (by kernel_rfl) (by kernel_rfl) (by kernel_rfl) (by kernel_rfl) (fun _ _ _ h => h) (Or.inl ⟨by rfl, ?_⟩) (by assumption) ?_
  rotate_left
  · intro w hSw
    obtain ⟨_, _, _, _, _, _⟩ := hSw
    go_simp
    try with_reducible rfl
  simp only [Act.put, List.setIfInBounds_toArray, List.set_cons_zero, List.set_cons_succ]
  refine anyN_one 1 rfl (by kernel_rfl) rfl ?_
  go_simp
  refine (HM _).out.mono ?_
  rintro e wr1 ⟨rfl, hg1⟩
  have k1 := hg1.kp
  replace X := X.kp k1
  replace Y := Y.kp k1
  replace FX := FX.kp k1
  replace FY := FY.kp k1
  replace hg := Lib.hid (hg.out.trans hg1)
  clear k1 hg1
  dsimp only
  refine and_keep ⟨X.c0, X.c1, X.c2, Y.c0, Y.c1, Y.c2⟩ (fun hS => ?_)
  refine anyN_one 3 rfl (by kernel_rfl) rfl ?_
  go_simp
  refine (HN _).out.mono ?_
  rintro e wr2 ⟨rfl, hg1⟩
  have k1 := hg1.kp
  replace X := X.kp k1
  replace Y := Y.kp k1
  replace FX := FX.kp k1
  replace FY := FY.kp k1
  replace hg := Lib.hid (hg.out.trans hg1)
  clear k1 hg1
  dsimp only
  refine and_keep ⟨X.c0, X.c1, X.c2, Y.c0, Y.c1, Y.c2⟩ (fun hS => ?_)
  clear hS
  have X_c0 := X.c0
  have X_c1 := X.c1
  have X_c2 := X.c2
  have FX2 := FX.2
  refine anyN_one 4 rfl (by kernel_rfl) rfl ?_
  go_simp
  clear X_c0 X_c1 X_c2 FX2
  have hxy : W.heap.size ≠ (W.heap.size + 1) := by omega
  replace X := X.set (.int .u64 v) (.int .u32 R) (.int .u32 M)
  replace Y := Y.far3 hxy (.int .u64 v) (.int .u32 R) (.int .u32 M)
  replace FY := FY.set3 ⟨W.heap.size, 0, none⟩ ⟨W.heap.size, 1, none⟩ ⟨W.heap.size, 2, none⟩ (.int .u64 v) (.int .u32 R) (.int .u32 M)
  replace hg := Lib.hid (hg.out.set3 (B := W.heap.size) (by omega) (.int .u64 v) (.int .u32 R) (.int .u32 M))
  generalize World.setCell _ _ _ = ws1 at *
  have Y_c0 := Y.c0
  have Y_c1 := Y.c1
  have Y_c2 := Y.c2
  have FY2 := FY.2
  refine anyN_one 5 rfl (by kernel_rfl) rfl ?_
  go_simp
  clear Y_c0 Y_c1 Y_c2 FY2
  refine anyN_done (by kernel_rfl) ?_
  replace Y := Y.set (.int .u64 v) (.int .u32 R2) (.int .u32 M2)
  replace X := X.far3 hxy.symm (.int .u64 v) (.int .u32 R2) (.int .u32 M2)
  replace hg := Lib.hid (hg.out.set3 (B := (W.heap.size + 1)) (by omega) (.int .u64 v) (.int .u32 R2) (.int .u32 M2))
  generalize World.setCell _ _ _ = ws2 at *
  clear hxy FX FY
  have X_0 := X.c0
  have X_1 := X.c1
  have X_2 := X.c2
  have X_l := X.lt
  have Y_0 := Y.c0
  have Y_1 := Y.c1
  have Y_2 := Y.c2
  have Y_l := Y.lt
  clear HM HN HA
  go_wp2_with fail
  clear X_0 X_1 X_2 X_l Y_0 Y_1 Y_2 Y_l
  refine (H1 _).out.mono ?_
  rintro e w3 ⟨rfl, hw3⟩
  have kw3 := hw3.kp
  replace X := C3.kp (by repeat with_reducible first | exact X | apply C3.alloc | apply C3.drew | apply C3.drewN) kw3
  replace Y := C3.kp (by repeat with_reducible first | exact Y | apply C3.alloc | apply C3.drew | apply C3.drewN) kw3
  replace hg := Lib.hid (GrewS.trans (by repeat with_reducible first | exact hg.out | apply GrewS.alloc | apply GrewS.drew | apply GrewS.drewN) hw3)
  clear kw3 hw3
  have X_0 := X.c0
  have X_1 := X.c1
  have X_2 := X.c2
  have X_l := X.lt
  have Y_0 := Y.c0
  have Y_1 := Y.c1
  have Y_2 := Y.c2
  have Y_l := Y.lt
  clear H1
  go_wp2_with fail
  clear X_0 X_1 X_2 X_l Y_0 Y_1 Y_2 Y_l
  refine (H2 _).out.mono ?_
  rintro e w4 ⟨rfl, hw4⟩
  have kw4 := hw4.kp
  replace X := C3.kp (by repeat with_reducible first | exact X | apply C3.alloc | apply C3.drew | apply C3.drewN) kw4
  replace Y := C3.kp (by repeat with_reducible first | exact Y | apply C3.alloc | apply C3.drew | apply C3.drewN) kw4
  have O := C4.kp (C4.new w3 _ _ _ _ _) kw4
  replace hg := Lib.hid (GrewS.trans (by repeat with_reducible first | exact hg.out | apply GrewS.alloc | apply GrewS.drew | apply GrewS.drewN) hw4)
  clear kw4 hw4
  have X_0 := X.c0
  have X_1 := X.c1
  have X_2 := X.c2
  have X_l := X.lt
  have Y_0 := Y.c0
  have Y_1 := Y.c1
  have Y_2 := Y.c2
  have Y_l := Y.lt
  have O_0 := O.c0
  have O_1 := O.c1
  have O_2 := O.c2
  have O_3 := O.c3
  have O_l := O.lt
  clear H2
  go_wp2_with fail
  clear X_0 X_1 X_2 X_l Y_0 Y_1 Y_2 Y_l O_0 O_1 O_2 O_3 O_l
  refine (H3 _).out.mono ?_
  rintro e w5 ⟨rfl, hw5⟩
  have kw5 := hw5.kp
  replace X := C3.kp (by repeat with_reducible first | exact X | apply C3.alloc | apply C3.drew | apply C3.drewN) kw5
  replace Y := C3.kp (by repeat with_reducible first | exact Y | apply C3.alloc | apply C3.drew | apply C3.drewN) kw5
  replace O := C4.kp (by repeat with_reducible first | exact O | apply C4.alloc | apply C4.drew | apply C4.drewN) kw5
  have N1 := C4.kp (C4.new w4 _ _ _ _ _) kw5
  replace hg := Lib.hid (GrewS.trans (by repeat with_reducible first | exact hg.out | apply GrewS.alloc | apply GrewS.drew | apply GrewS.drewN) hw5)
  clear kw5 hw5
  have X_0 := X.c0
  have X_1 := X.c1
  have X_2 := X.c2
  have X_l := X.lt
  have Y_0 := Y.c0
  have Y_1 := Y.c1
  have Y_2 := Y.c2
  have Y_l := Y.lt
  have O_0 := O.c0
  have O_1 := O.c1
  have O_2 := O.c2
  have O_3 := O.c3
  have O_l := O.lt
  have N1_0 := N1.c0
  have N1_1 := N1.c1
  have N1_2 := N1.c2
  have N1_3 := N1.c3
  have N1_l := N1.lt
  clear H3
  go_wp2_with fail
  clear X_0 X_1 X_2 X_l Y_0 Y_1 Y_2 Y_l O_0 O_1 O_2 O_3 O_l N1_0 N1_1 N1_2 N1_3 N1_l
  refine (H4 _).out.mono ?_
  rintro e w6 ⟨rfl, hw6⟩
  have kw6 := hw6.kp
  replace X := C3.kp (by repeat with_reducible first | exact X | apply C3.alloc | apply C3.drew | apply C3.drewN) kw6
  replace Y := C3.kp (by repeat with_reducible first | exact Y | apply C3.alloc | apply C3.drew | apply C3.drewN) kw6
  replace O := C4.kp (by repeat with_reducible first | exact O | apply C4.alloc | apply C4.drew | apply C4.drewN) kw6
  replace N1 := C4.kp (by repeat with_reducible first | exact N1 | apply C4.alloc | apply C4.drew | apply C4.drewN) kw6
  replace hg := Lib.hid (GrewS.trans (by repeat with_reducible first | exact hg.out | apply GrewS.alloc | apply GrewS.drew | apply GrewS.drewN) hw6)
  clear kw6 hw6
  have X_0 := X.c0
  have X_1 := X.c1
  have X_2 := X.c2
  have X_l := X.lt
  have Y_0 := Y.c0
  have Y_1 := Y.c1
  have Y_2 := Y.c2
  have Y_l := Y.lt
  have O_0 := O.c0
  have O_1 := O.c1
  have O_2 := O.c2
  have O_3 := O.c3
  have O_l := O.lt
  have N1_0 := N1.c0
  have N1_1 := N1.c1
  have N1_2 := N1.c2
  have N1_3 := N1.c3
  have N1_l := N1.lt
  clear H4
  go_wp2_with fail
  clear X_0 X_1 X_2 X_l Y_0 Y_1 Y_2 Y_l O_0 O_1 O_2 O_3 O_l N1_0 N1_1 N1_2 N1_3 N1_l
  refine (H5 _).out.mono ?_
  rintro e w7 ⟨rfl, hw7⟩
  have kw7 := hw7.kp
  replace X := C3.kp (by repeat with_reducible first | exact X | apply C3.alloc | apply C3.drew | apply C3.drewN) kw7
  replace Y := C3.kp (by repeat with_reducible first | exact Y | apply C3.alloc | apply C3.drew | apply C3.drewN) kw7
  replace O := C4.kp (by repeat with_reducible first | exact O | apply C4.alloc | apply C4.drew | apply C4.drewN) kw7
  replace N1 := C4.kp (by repeat with_reducible first | exact N1 | apply C4.alloc | apply C4.drew | apply C4.drewN) kw7
  replace hg := Lib.hid (GrewS.trans (by repeat with_reducible first | exact hg.out | apply GrewS.alloc | apply GrewS.drew | apply GrewS.drewN) hw7)
  clear kw7 hw7
  have X_0 := X.c0
  have X_1 := X.c1
  have X_2 := X.c2
  have X_l := X.lt
  have Y_0 := Y.c0
  have Y_1 := Y.c1
  have Y_2 := Y.c2
  have Y_l := Y.lt
  have O_0 := O.c0
  have O_1 := O.c1
  have O_2 := O.c2
  have O_3 := O.c3
  have O_l := O.lt
  have N1_0 := N1.c0
  have N1_1 := N1.c1
  have N1_2 := N1.c2
  have N1_3 := N1.c3
  have N1_l := N1.lt
  clear H5
  go_wp2_with fail
  clear X_0 X_1 X_2 X_l Y_0 Y_1 Y_2 Y_l O_0 O_1 O_2 O_3 O_l N1_0 N1_1 N1_2 N1_3 N1_l
  refine (H6 _).out.mono ?_
  rintro e w8 ⟨rfl, hw8⟩
  have kw8 := hw8.kp
  replace X := C3.kp (by repeat with_reducible first | exact X | apply C3.alloc | apply C3.drew | apply C3.drewN) kw8
  replace Y := C3.kp (by repeat with_reducible first | exact Y | apply C3.alloc | apply C3.drew | apply C3.drewN) kw8
  replace O := C4.kp (by repeat with_reducible first | exact O | apply C4.alloc | apply C4.drew | apply C4.drewN) kw8
  replace N1 := C4.kp (by repeat with_reducible first | exact N1 | apply C4.alloc | apply C4.drew | apply C4.drewN) kw8
  have U1 := C3.kp (C3.new w7 _ _ _ _) kw8
  replace hg := Lib.hid (GrewS.trans (by repeat with_reducible first | exact hg.out | apply GrewS.alloc | apply GrewS.drew | apply GrewS.drewN) hw8)
  clear kw8 hw8
  have X_0 := X.c0
  have X_1 := X.c1
  have X_2 := X.c2
  have X_l := X.lt
  have Y_0 := Y.c0
  have Y_1 := Y.c1
  have Y_2 := Y.c2
  have Y_l := Y.lt
  have O_0 := O.c0
  have O_1 := O.c1
  have O_2 := O.c2
  have O_3 := O.c3
  have O_l := O.lt
  have N1_0 := N1.c0
  have N1_1 := N1.c1
  have N1_2 := N1.c2
  have N1_3 := N1.c3
  have N1_l := N1.lt
  have U1_0 := U1.c0
  have U1_1 := U1.c1
  have U1_2 := U1.c2
  have U1_l := U1.lt
  clear H6
  go_upto_region 12 with fail
  by_cases z1 : P = 0
  · subst z1
    go_wp2_with fail
    all_goals
      go_ret
      refine ⟨by first | (simp; done) | (simp; omega), ?_⟩
      repeat with_reducible first | exact hg.out | apply GrewS.drewN | apply GrewS.drew | apply GrewS.alloc
  by_cases z2 : P = 18446744073709551615
  · subst z2
    go_wp2_with fail
    all_goals
      go_ret
      refine ⟨by first | (simp; done) | (simp; omega), ?_⟩
      repeat with_reducible first | exact hg.out | apply GrewS.drewN | apply GrewS.drew | apply GrewS.alloc
  · have z3 : (P == 0) = false := beq_eq_false_iff_ne.2 z1
    have z4 : (P == 18446744073709551615) = false := beq_eq_false_iff_ne.2 z2
    clear z1 z2
    go_wp2_with fail
    all_goals
      go_ret
      refine ⟨by first | (simp; done) | (simp; omega), ?_⟩
      repeat with_reducible first | exact hg.out | apply GrewS.drewN | apply GrewS.drew | apply GrewS.alloc

set_option maxRecDepth 100000 in
set_option maxHeartbeats 8000000 in
theorem mo_lt {v r w v2 r2 w2 f t : Int} (W : World) (b1 : EB v r w) (b2 : EB v2 r2 w2) (f0 : 0 ≤ f) (f1 : f ≤ 18446744073709551615) (t0 : 0 ≤ t) (t1 : t ≤ 18446744073709551615) (hc : v < v2) :
    Calls Try.prog 18 #[ent v r w, ent v2 r2 w2, .int .u64 f, .int .u64 t] W fun e w' => e = .returned (.bool true) ∧ GrewS W w' := by
  obtain ⟨R, M, hb, hr, HM'⟩ := madeM_ent b1
  obtain ⟨R2, M2, hb2, hr2, HN'⟩ := madeM_ent b2
  have HA := fun W => Lib.hid (awakeM_any W)
  have HM := fun W => Lib.hid (HM' W)
  have HN := fun W => Lib.hid (HN' W)
  have hbo := off_eb hb f0 f1
  have hro := off_right (f := f) hr
  have hbp := off_eb hb2 f0 f1
  have hrp := off_right (f := f) hr2
  have H1' := fun W => off_t W hb f0 f1 hr
  have H2' := fun W => off_t W hb2 f0 f1 hr2
  have H3' := fun W => cmp_t W hbo hbp hro hrp
  have H4' := fun W => cmp_t W hbp hbo hrp hro
  have H5' := fun W => on_t W hbo t0 t1 hro
  have H6' := fun W => on_t W hbp t0 t1 hrp
  simp only [on_off, onR_off] at H5' H6'
  rw [cm_off] at H3' H4'
  have e1 : cmpI v v2 = (-1) := by unfold cmpI; (repeat' split) <;> omega
  have e2 : cmpI v2 v = 1 := by unfold cmpI; (repeat' split) <;> omega
  rw [e1] at H3'
  rw [e2] at H4'
  have hs := mv_strict (f := f) t0 t1 hc
  generalize offB v f = q at *
  generalize ahV v f = y at *
  generalize offB v2 f = q2 at *
  generalize ahV v2 f = y2 at *
  generalize mvR v R f t = PR at *
  generalize mvV v f t = P at *
  generalize mvR v2 R2 f t = QR at *
  generalize mvV v2 f t = Q at *
  have H1 := fun W => Lib.hid (H1' W)
  have H2 := fun W => Lib.hid (H2' W)
  have H3 := fun W => Lib.hid (H3' W)
  have H4 := fun W => Lib.hid (H4' W)
  have H5 := fun W => Lib.hid (H5' W)
  have H6 := fun W => Lib.hid (H6' W)
  clear hb hr hb2 hr2 b1 b2 f0 f1 t0 t1 hbo hro hbp hrp HM' HN' H1' H2' H3' H4' H5' H6' e1 e2
  go_enter Try.func18, Try.ntmps18
  go_wp2_with fail
  refine (HA _).out.mono ?_
  rintro e w1 ⟨rfl, hg1⟩
  have X := C3.kp ((C3.new W _ _ _ _).alloc _) hg1.kp
  have FX := Fz.kp ((Fz.new W _ _).alloc _) hg1.kp
  have Y : C3 w1 (W.heap.size + 1) (.int .u64 v2) (.int .u32 r2) (.int .u32 w2) := by simpa using C3.kp (C3.new (W.alloc _) _ _ _ _) hg1.kp
  have FY : Fz w1 (W.heap.size + 1) := by simpa using Fz.kp (Fz.new (W.alloc _) _ _) hg1.kp
  have hg := Lib.hid ((((GrewS.refl W).alloc _).alloc _).trans hg1)
  clear hg1
  have X_0 := X.c0
  have X_1 := X.c1
  have X_2 := X.c2
  have X_l := X.lt
  have Y_0 := Y.c0
  have Y_1 := Y.c1
  have Y_2 := Y.c2
  have Y_l := Y.lt
  go_wp2_with fail
  clear X_0 X_1 X_2 X_l Y_0 Y_1 Y_2 Y_l
  refine wp_region_anyN (fun w' => w'.cell? ⟨W.heap.size, 0, none⟩ = some (.int .u64 v) ∧ w'.cell? ⟨W.heap.size, 1, none⟩ = some (.int .u32 r) ∧ w'.cell? ⟨W.heap.size, 2, none⟩ = some (.int .u32 w) ∧ w'.cell? ⟨(W.heap.size + 1), 0, none⟩ = some (.int .u64 v2) ∧ w'.cell? ⟨(W.heap.size + 1), 1, none⟩ = some (.int .u32 r2) ∧ w'.cell? ⟨(W.heap.size + 1), 2, none⟩ = some (.int .u32 w2)) 4 (by kernel_rfl) ?_
  replace X := X.drew
  replace Y := Y.drew
  replace FX := FX.drew
  replace FY := FY.drew
  replace hg := Lib.hid hg.out.drew
  generalize w1.drew = w1 at *
  have hS : w1.cell? ⟨W.heap.size, 0, none⟩ = some (.int .u64 v) ∧ w1.cell? ⟨W.heap.size, 1, none⟩ = some (.int .u32 r) ∧ w1.cell? ⟨W.heap.size, 2, none⟩ = some (.int .u32 w) ∧ w1.cell? ⟨(W.heap.size + 1), 0, none⟩ = some (.int .u64 v2) ∧ w1.cell? ⟨(W.heap.size + 1), 1, none⟩ = some (.int .u32 r2) ∧ w1.cell? ⟨(W.heap.size + 1), 2, none⟩ = some (.int .u32 w2) := ⟨X.c0, X.c1, X.c2, Y.c0, Y.c1, Y.c2⟩
  refine anyN_take 0 (v := ?_) rfl (by kernel_rfl) (by kernel_rfl) (by kernel_rfl) (by kernel_rfl) (by kernel_rfl) (fun _ _ _ h => h) (Or.inl ⟨by rfl, ?_⟩) (by assumption) ?_
  rotate_left
  · intro w hSw
    obtain ⟨_, _, _, _, _, _⟩ := hSw
    go_simp
    try with_reducible rfl
  simp only [Act.put, List.setIfInBounds_toArray, List.set_cons_zero, List.set_cons_succ]
  refine anyN_take 2 (v := ?_) rfl (by kernel_rfl) (by kernel_rfl) (by kernel_rfl) (by kernel_rfl) (by kernel_rfl) (fun _ _ _ h => h) (Or.inl ⟨by rfl, ?_⟩) (by assumption) ?_
  rotate_left
  · intro w hSw
    obtain ⟨_, _, _, _, _, _⟩ := hSw
    go_simp
    try with_reducible rfl
  simp only [Act.put, List.setIfInBounds_toArray, List.set_cons_zero, List.set_cons_succ]
  refine anyN_one 1 rfl (by kernel_rfl) rfl ?_
  go_simp
  refine (HM _).out.mono ?_
  rintro e wr1 ⟨rfl, hg1⟩
  have k1 := hg1.kp
  replace X := X.kp k1
  replace Y := Y.kp k1
  replace FX := FX.kp k1
  replace FY := FY.kp k1
  replace hg := Lib.hid (hg.out.trans hg1)
  clear k1 hg1
  dsimp only
  refine and_keep ⟨X.c0, X.c1, X.c2, Y.c0, Y.c1, Y.c2⟩ (fun hS => ?_)
  refine anyN_one 3 rfl (by kernel_rfl) rfl ?_
  go_simp
  refine (HN _).out.mono ?_
  rintro e wr2 ⟨rfl, hg1⟩
  have k1 := hg1.kp
  replace X := X.kp k1
  replace Y := Y.kp k1
  replace FX := FX.kp k1
  replace FY := FY.kp k1
  replace hg := Lib.hid (hg.out.trans hg1)
  clear k1 hg1
  dsimp only
  refine and_keep ⟨X.c0, X.c1, X.c2, Y.c0, Y.c1, Y.c2⟩ (fun hS => ?_)
  clear hS
  have X_c0 := X.c0
  have X_c1 := X.c1
  have X_c2 := X.c2
  have FX2 := FX.2
  refine anyN_one 4 rfl (by kernel_rfl) rfl ?_
  go_simp
  clear X_c0 X_c1 X_c2 FX2
  have hxy : W.heap.size ≠ (W.heap.size + 1) := by omega
  replace X := X.set (.int .u64 v) (.int .u32 R) (.int .u32 M)
  replace Y := Y.far3 hxy (.int .u64 v) (.int .u32 R) (.int .u32 M)
  replace FY := FY.set3 ⟨W.heap.size, 0, none⟩ ⟨W.heap.size, 1, none⟩ ⟨W.heap.size, 2, none⟩ (.int .u64 v) (.int .u32 R) (.int .u32 M)
  replace hg := Lib.hid (hg.out.set3 (B := W.heap.size) (by omega) (.int .u64 v) (.int .u32 R) (.int .u32 M))
  generalize World.setCell _ _ _ = ws1 at *
  have Y_c0 := Y.c0
  have Y_c1 := Y.c1
  have Y_c2 := Y.c2
  have FY2 := FY.2
  refine anyN_one 5 rfl (by kernel_rfl) rfl ?_
  go_simp
  clear Y_c0 Y_c1 Y_c2 FY2
  refine anyN_done (by kernel_rfl) ?_
  replace Y := Y.set (.int .u64 v2) (.int .u32 R2) (.int .u32 M2)
  replace X := X.far3 hxy.symm (.int .u64 v2) (.int .u32 R2) (.int .u32 M2)
  replace hg := Lib.hid (hg.out.set3 (B := (W.heap.size + 1)) (by omega) (.int .u64 v2) (.int .u32 R2) (.int .u32 M2))
  generalize World.setCell _ _ _ = ws2 at *
  clear hxy FX FY
  have X_0 := X.c0
  have X_1 := X.c1
  have X_2 := X.c2
  have X_l := X.lt
  have Y_0 := Y.c0
  have Y_1 := Y.c1
  have Y_2 := Y.c2
  have Y_l := Y.lt
  clear HM HN HA
  go_wp2_with fail
  clear X_0 X_1 X_2 X_l Y_0 Y_1 Y_2 Y_l
  refine (H1 _).out.mono ?_
  rintro e w3 ⟨rfl, hw3⟩
  have kw3 := hw3.kp
  replace X := C3.kp (by repeat with_reducible first | exact X | apply C3.alloc | apply C3.drew | apply C3.drewN) kw3
  replace Y := C3.kp (by repeat with_reducible first | exact Y | apply C3.alloc | apply C3.drew | apply C3.drewN) kw3
  replace hg := Lib.hid (GrewS.trans (by repeat with_reducible first | exact hg.out | apply GrewS.alloc | apply GrewS.drew | apply GrewS.drewN) hw3)
  clear kw3 hw3
  have X_0 := X.c0
  have X_1 := X.c1
  have X_2 := X.c2
  have X_l := X.lt
  have Y_0 := Y.c0
  have Y_1 := Y.c1
  have Y_2 := Y.c2
  have Y_l := Y.lt
  clear H1
  go_wp2_with fail
  clear X_0 X_1 X_2 X_l Y_0 Y_1 Y_2 Y_l
  refine (H2 _).out.mono ?_
  rintro e w4 ⟨rfl, hw4⟩
  have kw4 := hw4.kp
  replace X := C3.kp (by repeat with_reducible first | exact X | apply C3.alloc | apply C3.drew | apply C3.drewN) kw4
  replace Y := C3.kp (by repeat with_reducible first | exact Y | apply C3.alloc | apply C3.drew | apply C3.drewN) kw4
  have O := C4.kp (C4.new w3 _ _ _ _ _) kw4
  replace hg := Lib.hid (GrewS.trans (by repeat with_reducible first | exact hg.out | apply GrewS.alloc | apply GrewS.drew | apply GrewS.drewN) hw4)
  clear kw4 hw4
  have X_0 := X.c0
  have X_1 := X.c1
  have X_2 := X.c2
  have X_l := X.lt
  have Y_0 := Y.c0
  have Y_1 := Y.c1
  have Y_2 := Y.c2
  have Y_l := Y.lt
  have O_0 := O.c0
  have O_1 := O.c1
  have O_2 := O.c2
  have O_3 := O.c3
  have O_l := O.lt
  clear H2
  go_wp2_with fail
  clear X_0 X_1 X_2 X_l Y_0 Y_1 Y_2 Y_l O_0 O_1 O_2 O_3 O_l
  refine (H3 _).out.mono ?_
  rintro e w5 ⟨rfl, hw5⟩
  have kw5 := hw5.kp
  replace X := C3.kp (by repeat with_reducible first | exact X | apply C3.alloc | apply C3.drew | apply C3.drewN) kw5
  replace Y := C3.kp (by repeat with_reducible first | exact Y | apply C3.alloc | apply C3.drew | apply C3.drewN) kw5
  replace O := C4.kp (by repeat with_reducible first | exact O | apply C4.alloc | apply C4.drew | apply C4.drewN) kw5
  have N1 := C4.kp (C4.new w4 _ _ _ _ _) kw5
  replace hg := Lib.hid (GrewS.trans (by repeat with_reducible first | exact hg.out | apply GrewS.alloc | apply GrewS.drew | apply GrewS.drewN) hw5)
  clear kw5 hw5
  have X_0 := X.c0
  have X_1 := X.c1
  have X_2 := X.c2
  have X_l := X.lt
  have Y_0 := Y.c0
  have Y_1 := Y.c1
  have Y_2 := Y.c2
  have Y_l := Y.lt
  have O_0 := O.c0
  have O_1 := O.c1
  have O_2 := O.c2
  have O_3 := O.c3
  have O_l := O.lt
  have N1_0 := N1.c0
  have N1_1 := N1.c1
  have N1_2 := N1.c2
  have N1_3 := N1.c3
  have N1_l := N1.lt
  clear H3
  go_wp2_with fail
  clear X_0 X_1 X_2 X_l Y_0 Y_1 Y_2 Y_l O_0 O_1 O_2 O_3 O_l N1_0 N1_1 N1_2 N1_3 N1_l
  refine (H4 _).out.mono ?_
  rintro e w6 ⟨rfl, hw6⟩
  have kw6 := hw6.kp
  replace X := C3.kp (by repeat with_reducible first | exact X | apply C3.alloc | apply C3.drew | apply C3.drewN) kw6
  replace Y := C3.kp (by repeat with_reducible first | exact Y | apply C3.alloc | apply C3.drew | apply C3.drewN) kw6
  replace O := C4.kp (by repeat with_reducible first | exact O | apply C4.alloc | apply C4.drew | apply C4.drewN) kw6
  replace N1 := C4.kp (by repeat with_reducible first | exact N1 | apply C4.alloc | apply C4.drew | apply C4.drewN) kw6
  replace hg := Lib.hid (GrewS.trans (by repeat with_reducible first | exact hg.out | apply GrewS.alloc | apply GrewS.drew | apply GrewS.drewN) hw6)
  clear kw6 hw6
  have X_0 := X.c0
  have X_1 := X.c1
  have X_2 := X.c2
  have X_l := X.lt
  have Y_0 := Y.c0
  have Y_1 := Y.c1
  have Y_2 := Y.c2
  have Y_l := Y.lt
  have O_0 := O.c0
  have O_1 := O.c1
  have O_2 := O.c2
  have O_3 := O.c3
  have O_l := O.lt
  have N1_0 := N1.c0
  have N1_1 := N1.c1
  have N1_2 := N1.c2
  have N1_3 := N1.c3
  have N1_l := N1.lt
  clear H4
  go_wp2_with fail
  clear X_0 X_1 X_2 X_l Y_0 Y_1 Y_2 Y_l O_0 O_1 O_2 O_3 O_l N1_0 N1_1 N1_2 N1_3 N1_l
  refine (H5 _).out.mono ?_
  rintro e w7 ⟨rfl, hw7⟩
  have kw7 := hw7.kp
  replace X := C3.kp (by repeat with_reducible first | exact X | apply C3.alloc | apply C3.drew | apply C3.drewN) kw7
  replace Y := C3.kp (by repeat with_reducible first | exact Y | apply C3.alloc | apply C3.drew | apply C3.drewN) kw7
  replace O := C4.kp (by repeat with_reducible first | exact O | apply C4.alloc | apply C4.drew | apply C4.drewN) kw7
  replace N1 := C4.kp (by repeat with_reducible first | exact N1 | apply C4.alloc | apply C4.drew | apply C4.drewN) kw7
  replace hg := Lib.hid (GrewS.trans (by repeat with_reducible first | exact hg.out | apply GrewS.alloc | apply GrewS.drew | apply GrewS.drewN) hw7)
  clear kw7 hw7
  have X_0 := X.c0
  have X_1 := X.c1
  have X_2 := X.c2
  have X_l := X.lt
  have Y_0 := Y.c0
  have Y_1 := Y.c1
  have Y_2 := Y.c2
  have Y_l := Y.lt
  have O_0 := O.c0
  have O_1 := O.c1
  have O_2 := O.c2
  have O_3 := O.c3
  have O_l := O.lt
  have N1_0 := N1.c0
  have N1_1 := N1.c1
  have N1_2 := N1.c2
  have N1_3 := N1.c3
  have N1_l := N1.lt
  clear H5
  go_wp2_with fail
  clear X_0 X_1 X_2 X_l Y_0 Y_1 Y_2 Y_l O_0 O_1 O_2 O_3 O_l N1_0 N1_1 N1_2 N1_3 N1_l
  refine (H6 _).out.mono ?_
  rintro e w8 ⟨rfl, hw8⟩
  have kw8 := hw8.kp
  replace X := C3.kp (by repeat with_reducible first | exact X | apply C3.alloc | apply C3.drew | apply C3.drewN) kw8
  replace Y := C3.kp (by repeat with_reducible first | exact Y | apply C3.alloc | apply C3.drew | apply C3.drewN) kw8
  replace O := C4.kp (by repeat with_reducible first | exact O | apply C4.alloc | apply C4.drew | apply C4.drewN) kw8
  replace N1 := C4.kp (by repeat with_reducible first | exact N1 | apply C4.alloc | apply C4.drew | apply C4.drewN) kw8
  have U1 := C3.kp (C3.new w7 _ _ _ _) kw8
  replace hg := Lib.hid (GrewS.trans (by repeat with_reducible first | exact hg.out | apply GrewS.alloc | apply GrewS.drew | apply GrewS.drewN) hw8)
  clear kw8 hw8
  have X_0 := X.c0
  have X_1 := X.c1
  have X_2 := X.c2
  have X_l := X.lt
  have Y_0 := Y.c0
  have Y_1 := Y.c1
  have Y_2 := Y.c2
  have Y_l := Y.lt
  have O_0 := O.c0
  have O_1 := O.c1
  have O_2 := O.c2
  have O_3 := O.c3
  have O_l := O.lt
  have N1_0 := N1.c0
  have N1_1 := N1.c1
  have N1_2 := N1.c2
  have N1_3 := N1.c3
  have N1_l := N1.lt
  have U1_0 := U1.c0
  have U1_1 := U1.c1
  have U1_2 := U1.c2
  have U1_l := U1.lt
  clear H6
  go_upto_region 12 with fail
  rcases hs with hs | ⟨hs, hs2 | hs2⟩
  all_goals
    (try subst hs)
    (try subst hs2)
    go_wp2_with fail
    all_goals
      go_ret
      refine ⟨by first | (simp; done) | (simp; omega), ?_⟩
      repeat with_reducible first | exact hg.out | apply GrewS.drewN | apply GrewS.drew | apply GrewS.alloc

set_option maxRecDepth 100000 in
set_option maxHeartbeats 8000000 in
theorem mo_gt {v r w v2 r2 w2 f t : Int} (W : World) (b1 : EB v r w) (b2 : EB v2 r2 w2) (f0 : 0 ≤ f) (f1 : f ≤ 18446744073709551615) (t0 : 0 ≤ t) (t1 : t ≤ 18446744073709551615) (hc : v2 < v) :
    Calls Try.prog 18 #[ent v r w, ent v2 r2 w2, .int .u64 f, .int .u64 t] W fun e w' => e = .returned (.bool true) ∧ GrewS W w' := by
  obtain ⟨R, M, hb, hr, HM'⟩ := madeM_ent b1
  obtain ⟨R2, M2, hb2, hr2, HN'⟩ := madeM_ent b2
  have HA := fun W => Lib.hid (awakeM_any W)
  have HM := fun W => Lib.hid (HM' W)
  have HN := fun W => Lib.hid (HN' W)
  have hbo := off_eb hb f0 f1
  have hro := off_right (f := f) hr
  have hbp := off_eb hb2 f0 f1
  have hrp := off_right (f := f) hr2
  have H1' := fun W => off_t W hb f0 f1 hr
  have H2' := fun W => off_t W hb2 f0 f1 hr2
  have H3' := fun W => cmp_t W hbo hbp hro hrp
  have H4' := fun W => cmp_t W hbp hbo hrp hro
  have H5' := fun W => on_t W hbo t0 t1 hro
  have H6' := fun W => on_t W hbp t0 t1 hrp
  simp only [on_off, onR_off] at H5' H6'
  rw [cm_off] at H3' H4'
  have e1 : cmpI v v2 = 1 := by unfold cmpI; (repeat' split) <;> omega
  have e2 : cmpI v2 v = (-1) := by unfold cmpI; (repeat' split) <;> omega
  rw [e1] at H3'
  rw [e2] at H4'
  have hs := mv_strict (f := f) t0 t1 hc
  generalize offB v f = q at *
  generalize ahV v f = y at *
  generalize offB v2 f = q2 at *
  generalize ahV v2 f = y2 at *
  generalize mvR v R f t = PR at *
  generalize mvV v f t = P at *
  generalize mvR v2 R2 f t = QR at *
  generalize mvV v2 f t = Q at *
  have H1 := fun W => Lib.hid (H1' W)
  have H2 := fun W => Lib.hid (H2' W)
  have H3 := fun W => Lib.hid (H3' W)
  have H4 := fun W => Lib.hid (H4' W)
  have H5 := fun W => Lib.hid (H5' W)
  have H6 := fun W => Lib.hid (H6' W)
  clear hb hr hb2 hr2 b1 b2 f0 f1 t0 t1 hbo hro hbp hrp HM' HN' H1' H2' H3' H4' H5' H6' e1 e2
  go_enter Try.func18, Try.ntmps18
  go_wp2_with fail
  refine (HA _).out.mono ?_
  rintro e w1 ⟨rfl, hg1⟩
  have X := C3.kp ((C3.new W _ _ _ _).alloc _) hg1.kp
  have FX := Fz.kp ((Fz.new W _ _).alloc _) hg1.kp
  have Y : C3 w1 (W.heap.size + 1) (.int .u64 v2) (.int .u32 r2) (.int .u32 w2) := by simpa using C3.kp (C3.new (W.alloc _) _ _ _ _) hg1.kp
  have FY : Fz w1 (W.heap.size + 1) := by simpa using Fz.kp (Fz.new (W.alloc _) _ _) hg1.kp
  have hg := Lib.hid ((((GrewS.refl W).alloc _).alloc _).trans hg1)
  clear hg1
  have X_0 := X.c0
  have X_1 := X.c1
  have X_2 := X.c2
  have X_l := X.lt
  have Y_0 := Y.c0
  have Y_1 := Y.c1
  have Y_2 := Y.c2
  have Y_l := Y.lt
  go_wp2_with fail
  clear X_0 X_1 X_2 X_l Y_0 Y_1 Y_2 Y_l
  refine wp_region_anyN (fun w' => w'.cell? ⟨W.heap.size, 0, none⟩ = some (.int .u64 v) ∧ w'.cell? ⟨W.heap.size, 1, none⟩ = some (.int .u32 r) ∧ w'.cell? ⟨W.heap.size, 2, none⟩ = some (.int .u32 w) ∧ w'.cell? ⟨(W.heap.size + 1), 0, none⟩ = some (.int .u64 v2) ∧ w'.cell? ⟨(W.heap.size + 1), 1, none⟩ = some (.int .u32 r2) ∧ w'.cell? ⟨(W.heap.size + 1), 2, none⟩ = some (.int .u32 w2)) 4 (by kernel_rfl) ?_
  replace X := X.drew
  replace Y := Y.drew
  replace FX := FX.drew
  replace FY := FY.drew
  replace hg := Lib.hid hg.out.drew
  generalize w1.drew = w1 at *
  have hS : w1.cell? ⟨W.heap.size, 0, none⟩ = some (.int .u64 v) ∧ w1.cell? ⟨W.heap.size, 1, none⟩ = some (.int .u32 r) ∧ w1.cell? ⟨W.heap.size, 2, none⟩ = some (.int .u32 w) ∧ w1.cell? ⟨(W.heap.size + 1), 0, none⟩ = some (.int .u64 v2) ∧ w1.cell? ⟨(W.heap.size + 1), 1, none⟩ = some (.int .u32 r2) ∧ w1.cell? ⟨(W.heap.size + 1), 2, none⟩ = some (.int .u32 w2) := ⟨X.c0, X.c1, X.c2, Y.c0, Y.c1, Y.c2⟩
  refine anyN_take 0 (v := ?_) rfl (by kernel_rfl) (by kernel_rfl) (by kernel_rfl) (by kernel_rfl) (by kernel_rfl) (fun _ _ _ h => h) (Or.inl ⟨by rfl, ?_⟩) (by assumption) ?_
  rotate_left
  · intro w hSw
    obtain ⟨_, _, _, _, _, _⟩ := hSw
    go_simp
    try with_reducible rfl
  simp only [Act.put, List.setIfInBounds_toArray, List.set_cons_zero, List.set_cons_succ]
  refine anyN_take 2 (v := ?_) rfl (by kernel_rfl) (by kernel_rfl) (by kernel_rfl) (by kernel_rfl) (by kernel_rfl) (fun _ _ _ h => h) (Or.inl ⟨by rfl, ?_⟩) (by assumption) ?_
  rotate_left
  · intro w hSw
    obtain ⟨_, _, _, _, _, _⟩ := hSw
    go_simp
    try with_reducible rfl
  simp only [Act.put, List.setIfInBounds_toArray, List.set_cons_zero, List.set_cons_succ]
  refine anyN_one 1 rfl (by kernel_rfl) rfl ?_
  go_simp
  refine (HM _).out.mono ?_
  rintro e wr1 ⟨rfl, hg1⟩
  have k1 := hg1.kp
  replace X := X.kp k1
  replace Y := Y.kp k1
  replace FX := FX.kp k1
  replace FY := FY.kp k1
  replace hg := Lib.hid (hg.out.trans hg1)
  clear k1 hg1
  dsimp only
  refine and_keep ⟨X.c0, X.c1, X.c2, Y.c0, Y.c1, Y.c2⟩ (fun hS => ?_)
  refine anyN_one 3 rfl (by kernel_rfl) rfl ?_
  go_simp
  refine (HN _).out.mono ?_
  rintro e wr2 ⟨rfl, hg1⟩
  have k1 := hg1.kp
  replace X := X.kp k1
  replace Y := Y.kp k1
  replace FX := FX.kp k1
  replace FY := FY.kp k1
  replace hg := Lib.hid (hg.out.trans hg1)
  clear k1 hg1
  dsimp only
  refine and_keep ⟨X.c0, X.c1, X.c2, Y.c0, Y.c1, Y.c2⟩ (fun hS => ?_)
  clear hS
  have X_c0 := X.c0
  have X_c1 := X.c1
  have X_c2 := X.c2
  have FX2 := FX.2
  refine anyN_one 4 rfl (by kernel_rfl) rfl ?_
  go_simp
  clear X_c0 X_c1 X_c2 FX2
  have hxy : W.heap.size ≠ (W.heap.size + 1) := by omega
  replace X := X.set (.int .u64 v) (.int .u32 R) (.int .u32 M)
  replace Y := Y.far3 hxy (.int .u64 v) (.int .u32 R) (.int .u32 M)
  replace FY := FY.set3 ⟨W.heap.size, 0, none⟩ ⟨W.heap.size, 1, none⟩ ⟨W.heap.size, 2, none⟩ (.int .u64 v) (.int .u32 R) (.int .u32 M)
  replace hg := Lib.hid (hg.out.set3 (B := W.heap.size) (by omega) (.int .u64 v) (.int .u32 R) (.int .u32 M))
  generalize World.setCell _ _ _ = ws1 at *
  have Y_c0 := Y.c0
  have Y_c1 := Y.c1
  have Y_c2 := Y.c2
  have FY2 := FY.2
  refine anyN_one 5 rfl (by kernel_rfl) rfl ?_
  go_simp
  clear Y_c0 Y_c1 Y_c2 FY2
  refine anyN_done (by kernel_rfl) ?_
  replace Y := Y.set (.int .u64 v2) (.int .u32 R2) (.int .u32 M2)
  replace X := X.far3 hxy.symm (.int .u64 v2) (.int .u32 R2) (.int .u32 M2)
  replace hg := Lib.hid (hg.out.set3 (B := (W.heap.size + 1)) (by omega) (.int .u64 v2) (.int .u32 R2) (.int .u32 M2))
  generalize World.setCell _ _ _ = ws2 at *
  clear hxy FX FY
  have X_0 := X.c0
  have X_1 := X.c1
  have X_2 := X.c2
  have X_l := X.lt
  have Y_0 := Y.c0
  have Y_1 := Y.c1
  have Y_2 := Y.c2
  have Y_l := Y.lt
  clear HM HN HA
  go_wp2_with fail
  clear X_0 X_1 X_2 X_l Y_0 Y_1 Y_2 Y_l
  refine (H1 _).out.mono ?_
  rintro e w3 ⟨rfl, hw3⟩
  have kw3 := hw3.kp
  replace X := C3.kp (by repeat with_reducible first | exact X | apply C3.alloc | apply C3.drew | apply C3.drewN) kw3
  replace Y := C3.kp (by repeat with_reducible first | exact Y | apply C3.alloc | apply C3.drew | apply C3.drewN) kw3
  replace hg := Lib.hid (GrewS.trans (by repeat with_reducible first | exact hg.out | apply GrewS.alloc | apply GrewS.drew | apply GrewS.drewN) hw3)
  clear kw3 hw3
  have X_0 := X.c0
  have X_1 := X.c1
  have X_2 := X.c2
  have X_l := X.lt
  have Y_0 := Y.c0
  have Y_1 := Y.c1
  have Y_2 := Y.c2
  have Y_l := Y.lt
  clear H1
  go_wp2_with fail
  clear X_0 X_1 X_2 X_l Y_0 Y_1 Y_2 Y_l
  refine (H2 _).out.mono ?_
  rintro e w4 ⟨rfl, hw4⟩
  have kw4 := hw4.kp
  replace X := C3.kp (by repeat with_reducible first | exact X | apply C3.alloc | apply C3.drew | apply C3.drewN) kw4
  replace Y := C3.kp (by repeat with_reducible first | exact Y | apply C3.alloc | apply C3.drew | apply C3.drewN) kw4
  have O := C4.kp (C4.new w3 _ _ _ _ _) kw4
  replace hg := Lib.hid (GrewS.trans (by repeat with_reducible first | exact hg.out | apply GrewS.alloc | apply GrewS.drew | apply GrewS.drewN) hw4)
  clear kw4 hw4
  have X_0 := X.c0
  have X_1 := X.c1
  have X_2 := X.c2
  have X_l := X.lt
  have Y_0 := Y.c0
  have Y_1 := Y.c1
  have Y_2 := Y.c2
  have Y_l := Y.lt
  have O_0 := O.c0
  have O_1 := O.c1
  have O_2 := O.c2
  have O_3 := O.c3
  have O_l := O.lt
  clear H2
  go_wp2_with fail
  clear X_0 X_1 X_2 X_l Y_0 Y_1 Y_2 Y_l O_0 O_1 O_2 O_3 O_l
  refine (H3 _).out.mono ?_
  rintro e w5 ⟨rfl, hw5⟩
  have kw5 := hw5.kp
  replace X := C3.kp (by repeat with_reducible first | exact X | apply C3.alloc | apply C3.drew | apply C3.drewN) kw5
  replace Y := C3.kp (by repeat with_reducible first | exact Y | apply C3.alloc | apply C3.drew | apply C3.drewN) kw5
  replace O := C4.kp (by repeat with_reducible first | exact O | apply C4.alloc | apply C4.drew | apply C4.drewN) kw5
  have N1 := C4.kp (C4.new w4 _ _ _ _ _) kw5
  replace hg := Lib.hid (GrewS.trans (by repeat with_reducible first | exact hg.out | apply GrewS.alloc | apply GrewS.drew | apply GrewS.drewN) hw5)
  clear kw5 hw5
  have X_0 := X.c0
  have X_1 := X.c1
  have X_2 := X.c2
  have X_l := X.lt
  have Y_0 := Y.c0
  have Y_1 := Y.c1
  have Y_2 := Y.c2
  have Y_l := Y.lt
  have O_0 := O.c0
  have O_1 := O.c1
  have O_2 := O.c2
  have O_3 := O.c3
  have O_l := O.lt
  have N1_0 := N1.c0
  have N1_1 := N1.c1
  have N1_2 := N1.c2
  have N1_3 := N1.c3
  have N1_l := N1.lt
  clear H3
  go_wp2_with fail
  clear X_0 X_1 X_2 X_l Y_0 Y_1 Y_2 Y_l O_0 O_1 O_2 O_3 O_l N1_0 N1_1 N1_2 N1_3 N1_l
  refine (H4 _).out.mono ?_
  rintro e w6 ⟨rfl, hw6⟩
  have kw6 := hw6.kp
  replace X := C3.kp (by repeat with_reducible first | exact X | apply C3.alloc | apply C3.drew | apply C3.drewN) kw6
  replace Y := C3.kp (by repeat with_reducible first | exact Y | apply C3.alloc | apply C3.drew | apply C3.drewN) kw6
  replace O := C4.kp (by repeat with_reducible first | exact O | apply C4.alloc | apply C4.drew | apply C4.drewN) kw6
  replace N1 := C4.kp (by repeat with_reducible first | exact N1 | apply C4.alloc | apply C4.drew | apply C4.drewN) kw6
  replace hg := Lib.hid (GrewS.trans (by repeat with_reducible first | exact hg.out | apply GrewS.alloc | apply GrewS.drew | apply GrewS.drewN) hw6)
  clear kw6 hw6
  have X_0 := X.c0
  have X_1 := X.c1
  have X_2 := X.c2
  have X_l := X.lt
  have Y_0 := Y.c0
  have Y_1 := Y.c1
  have Y_2 := Y.c2
  have Y_l := Y.lt
  have O_0 := O.c0
  have O_1 := O.c1
  have O_2 := O.c2
  have O_3 := O.c3
  have O_l := O.lt
  have N1_0 := N1.c0
  have N1_1 := N1.c1
  have N1_2 := N1.c2
  have N1_3 := N1.c3
  have N1_l := N1.lt
  clear H4
  go_wp2_with fail
  clear X_0 X_1 X_2 X_l Y_0 Y_1 Y_2 Y_l O_0 O_1 O_2 O_3 O_l N1_0 N1_1 N1_2 N1_3 N1_l
  refine (H5 _).out.mono ?_
  rintro e w7 ⟨rfl, hw7⟩
  have kw7 := hw7.kp
  replace X := C3.kp (by repeat with_reducible first | exact X | apply C3.alloc | apply C3.drew | apply C3.drewN) kw7
  replace Y := C3.kp (by repeat with_reducible first | exact Y | apply C3.alloc | apply C3.drew | apply C3.drewN) kw7
  replace O := C4.kp (by repeat with_reducible first | exact O | apply C4.alloc | apply C4.drew | apply C4.drewN) kw7
  replace N1 := C4.kp (by repeat with_reducible first | exact N1 | apply C4.alloc | apply C4.drew | apply C4.drewN) kw7
  replace hg := Lib.hid (GrewS.trans (by repeat with_reducible first | exact hg.out | apply GrewS.alloc | apply GrewS.drew | apply GrewS.drewN) hw7)
  clear kw7 hw7
  have X_0 := X.c0
  have X_1 := X.c1
  have X_2 := X.c2
  have X_l := X.lt
  have Y_0 := Y.c0
  have Y_1 := Y.c1
  have Y_2 := Y.c2
  have Y_l := Y.lt
  have O_0 := O.c0
  have O_1 := O.c1
  have O_2 := O.c2
  have O_3 := O.c3
  have O_l := O.lt
  have N1_0 := N1.c0
  have N1_1 := N1.c1
  have N1_2 := N1.c2
  have N1_3 := N1.c3
  have N1_l := N1.lt
  clear H5
  go_wp2_with fail
  clear X_0 X_1 X_2 X_l Y_0 Y_1 Y_2 Y_l O_0 O_1 O_2 O_3 O_l N1_0 N1_1 N1_2 N1_3 N1_l
  refine (H6 _).out.mono ?_
  rintro e w8 ⟨rfl, hw8⟩
  have kw8 := hw8.kp
  replace X := C3.kp (by repeat with_reducible first | exact X | apply C3.alloc | apply C3.drew | apply C3.drewN) kw8
  replace Y := C3.kp (by repeat with_reducible first | exact Y | apply C3.alloc | apply C3.drew | apply C3.drewN) kw8
  replace O := C4.kp (by repeat with_reducible first | exact O | apply C4.alloc | apply C4.drew | apply C4.drewN) kw8
  replace N1 := C4.kp (by repeat with_reducible first | exact N1 | apply C4.alloc | apply C4.drew | apply C4.drewN) kw8
  have U1 := C3.kp (C3.new w7 _ _ _ _) kw8
  replace hg := Lib.hid (GrewS.trans (by repeat with_reducible first | exact hg.out | apply GrewS.alloc | apply GrewS.drew | apply GrewS.drewN) hw8)
  clear kw8 hw8
  have X_0 := X.c0
  have X_1 := X.c1
  have X_2 := X.c2
  have X_l := X.lt
  have Y_0 := Y.c0
  have Y_1 := Y.c1
  have Y_2 := Y.c2
  have Y_l := Y.lt
  have O_0 := O.c0
  have O_1 := O.c1
  have O_2 := O.c2
  have O_3 := O.c3
  have O_l := O.lt
  have N1_0 := N1.c0
  have N1_1 := N1.c1
  have N1_2 := N1.c2
  have N1_3 := N1.c3
  have N1_l := N1.lt
  have U1_0 := U1.c0
  have U1_1 := U1.c1
  have U1_2 := U1.c2
  have U1_l := U1.lt
  clear H6
  go_upto_region 12 with fail
  rcases hs with hs | ⟨hs, hs2 | hs2⟩
  all_goals
    (try subst hs)
    (try subst hs2)
    go_wp2_with fail
    all_goals
      go_ret
      refine ⟨by first | (simp; done) | (simp; omega), ?_⟩
      repeat with_reducible first | exact hg.out | apply GrewS.drewN | apply GrewS.drew | apply GrewS.alloc

theorem law18 {v r w v2 r2 w2 : Int} {W : World} (b1 : EB v r w) (b2 : EB v2 r2 w2) (f : Int) (wf : (Lit.int .u64 f).wf = true) (t : Int) (wt : (Lit.int .u64 t).wf = true) :
    Calls Try.prog 18 #[ent v r w, ent v2 r2 w2, .int .u64 f, .int .u64 t] W fun e w' => e = .returned (.bool true) ∧ Kp W.heap.size W w' := by
  have hf := bounds_u64 wf
  have ht := bounds_u64 wt
  rcases Int.lt_trichotomy v v2 with h | h | h
  · exact (mo_lt W b1 b2 hf.1 hf.2 ht.1 ht.2 h).mono fun _ _ ⟨he, hw⟩ => ⟨he, hw.kp⟩
  · subst h
    exact (mo_eq W b1 b2 hf.1 hf.2 ht.1 ht.2).mono fun _ _ ⟨he, hw⟩ => ⟨he, hw.kp⟩
  · exact (mo_gt W b1 b2 hf.1 hf.2 ht.1 ht.2 h).mono fun _ _ ⟨he, hw⟩ => ⟨he, hw.kp⟩
end Go.Proofs.Ytmlapjaccmoleaa
