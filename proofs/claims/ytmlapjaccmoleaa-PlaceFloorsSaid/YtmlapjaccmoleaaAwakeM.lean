/-
  Layer 26's examples: awake holds.
-/
import Derived.Test.YtmlapjaccmoleaaThru
import Derived.Test.YtmlapjaccmoleaaReach
namespace Go.Proofs.Ytmlapjaccmoleaa
open Go.RowKit

theorem isInts_new {k : IntKind} (w : World) (zs : List Int) (t : TypeId) : IsInts (w.alloc (.cells (zs.map (Value.int k)).toArray t)) k (some ⟨w.heap.size, 0, none⟩) zs.length zs := by
  intro i hi
  refine ⟨w.heap.size, 0, rfl, by simp, ?_⟩
  have h := cell_of_row (w.alloc (.cells (zs.map (Value.int k)).toArray t)) w.heap.size (0 + i) _ t (0, 0) (heap_alloc_new w _)
  rw [h]
  simp [hi]
theorem isInts_at {k : IntKind} (w : World) (zs : List Int) (t : TypeId) {B : Nat} (hB : w.heap.size = B) : IsInts (w.alloc (.cells (zs.map (Value.int k)).toArray t)) k (some ⟨B, 0, none⟩) zs.length zs := hB ▸ isInts_new w zs t
theorem u64s_of {fs : List Int} (h : ∀ z ∈ fs, 0 ≤ z ∧ z ≤ 18446744073709551615) : U64s fs := by
  intro j
  rcases Nat.lt_or_ge j fs.length with hj | hj
  · rw [List.getD_eq_getElem?_getD, List.getElem?_eq_getElem hj]
    exact h _ (List.getElem_mem _)
  · rw [List.getD_eq_getElem?_getD, List.getElem?_eq_none hj]
    exact ⟨Int.le_refl _, by decide⟩
theorem ex_r : rightB 100 3 5 = true := by decide
theorem ey_b : EB 20 3 5 := ⟨by omega, by omega, by omega, by omega, by omega, by omega⟩
theorem ez_b : EB 10 3 5 := ⟨by omega, by omega, by omega, by omega, by omega, by omega⟩
theorem eu_b : EB 18446744073709551615 0 1 := ⟨by omega, by omega, by omega, by omega, by omega, by omega⟩
theorem ex_off1 (W : World) : Calls Try.prog 37 #[ent 100 3 5, .int .u64 120] W fun e w' => e = .returned (.tuple #[rel true 20 3 5, .int .i64 0]) ∧ GrewS W w' := off_t W eb_ex (by omega) (by omega) ex_r
theorem ex_off2 (W : World) : Calls Try.prog 37 #[ent 100 3 5, .int .u64 90] W fun e w' => e = .returned (.tuple #[rel false 10 3 5, .int .i64 0]) ∧ GrewS W w' := off_t W eb_ex (by omega) (by omega) ex_r
theorem ex_on1 (W : World) : Calls Try.prog 40 #[rel true 20 3 5, .int .u64 1000] W fun e w' => e = .returned (.tuple #[ent 980 3 5, .int .i64 0]) ∧ GrewS W w' := on_t W ey_b (by omega) (by omega) (by decide)
theorem ex_on2 (W : World) : Calls Try.prog 40 #[rel true 20 3 5, .int .u64 7] W fun e w' => e = .returned (.tuple #[ent 0 3 5, .int .i64 0]) ∧ GrewS W w' := on_t W ey_b (by omega) (by omega) (by decide)
theorem ex_on3 (W : World) : Calls Try.prog 40 #[rel false 10 3 5, .int .u64 18446744073709551605] W fun e w' => e = .returned (.tuple #[ent 18446744073709551615 0 5, .int .i64 0]) ∧ GrewS W w' := on_t W ez_b (by omega) (by omega) (by decide)
theorem ex_re1 (W : World) : Calls Try.prog 38 #[rel true 20 3 5] W fun e w' => e = .returned (.tuple #[.int .u64 20, .int .u64 18446744073709551615, .int .i64 0]) ∧ GrewS W w' := reach_t W ey_b (by decide) (Or.inl rfl)
theorem ex_re2 (W : World) : Calls Try.prog 38 #[rel false 10 3 5] W fun e w' => e = .returned (.tuple #[.int .u64 0, .int .u64 18446744073709551604, .int .i64 0]) ∧ GrewS W w' := reach_t W ez_b (by decide) (Or.inr (by omega))
theorem ex_re3 (W : World) : Calls Try.prog 38 #[rel false 18446744073709551615 0 1] W fun e w' => e = .returned (.tuple #[.int .u64 0, .int .u64 0, .int .i64 6]) ∧ GrewS W w' := reach_n W eu_b (by decide) rfl rfl
theorem ex_th1 (W : World) (A : Option Addr) (h : IsInts W .u64 A 3 [120, 1000, 50]) : Calls Try.prog 36 #[ent 100 3 5, .slice A 3 3] W fun e w' => e = .returned (.tuple #[ent 30 3 5, .int .i64 0]) ∧ GrewS W w' :=
  through_t W eb_ex ex_r A 3 3 _ (by omega) h (u64s_of (by simp))
theorem ex_th2 (W : World) (A : Option Addr) (h : IsInts W .u64 A 3 [120, 7, 1000]) : Calls Try.prog 36 #[ent 100 3 5, .slice A 3 3] W fun e w' => e = .returned (.tuple #[ent 993 3 5, .int .i64 0]) ∧ GrewS W w' :=
  through_t W eb_ex ex_r A 3 3 _ (by omega) h (u64s_of (by simp))

set_option maxRecDepth 100000 in
set_option maxHeartbeats 2000000 in
theorem awakeM_any (W : World) : Calls Try.prog 34 #[] W fun e w' => e = .returned (.bool true) ∧ GrewS W w' := by
  have H1 := fun W => Lib.hid (ex_off1 W)
  have H2 := fun W => Lib.hid (ex_on1 W)
  have H3 := fun W => Lib.hid (ex_on2 W)
  have H4 := fun W => Lib.hid (ex_off2 W)
  have H5 := fun W => Lib.hid (ex_on3 W)
  have H6 := fun W => Lib.hid (ex_re1 W)
  have H7 := fun W => Lib.hid (ex_re2 W)
  have H8 := fun W => Lib.hid (ex_re3 W)
  have H9 := fun W A h => Lib.hid (ex_th1 W A h)
  have H10 := fun W A h => Lib.hid (ex_th2 W A h)
  have hg := Lib.hid (GrewS.refl W)
  go_enter Try.func34, Try.ntmps34
  go_wp2_with fail
  refine (H1 _).out.mono ?_
  rintro e w1 ⟨rfl, hw1⟩
  have kw1 := hw1.kp
  have X := C3.kp (C3.new W _ _ _ _) kw1
  replace hg := Lib.hid (GrewS.trans (by repeat with_reducible first | exact hg.out | apply GrewS.alloc | apply GrewS.drew | apply GrewS.drewN) hw1)
  clear kw1 hw1
  have X_0 := X.c0
  have X_1 := X.c1
  have X_2 := X.c2
  have X_l := X.lt
  clear H1
  go_wp2_with fail
  clear X_0 X_1 X_2 X_l
  refine (H2 _).out.mono ?_
  rintro e w2 ⟨rfl, hw2⟩
  have kw2 := hw2.kp
  replace X := C3.kp (by repeat with_reducible first | exact X | apply C3.alloc | apply C3.drew | apply C3.drewN) kw2
  have Y := C4.kp (C4.new w1 _ _ _ _ _) kw2
  replace hg := Lib.hid (GrewS.trans (by repeat with_reducible first | exact hg.out | apply GrewS.alloc | apply GrewS.drew | apply GrewS.drewN) hw2)
  clear kw2 hw2
  have X_0 := X.c0
  have X_1 := X.c1
  have X_2 := X.c2
  have X_l := X.lt
  have Y_0 := Y.c0
  have Y_1 := Y.c1
  have Y_2 := Y.c2
  have Y_3 := Y.c3
  have Y_l := Y.lt
  clear H2
  go_wp2_with fail
  clear X_0 X_1 X_2 X_l Y_0 Y_1 Y_2 Y_3 Y_l
  refine (H3 _).out.mono ?_
  rintro e w3 ⟨rfl, hw3⟩
  have kw3 := hw3.kp
  replace X := C3.kp (by repeat with_reducible first | exact X | apply C3.alloc | apply C3.drew | apply C3.drewN) kw3
  replace Y := C4.kp (by repeat with_reducible first | exact Y | apply C4.alloc | apply C4.drew | apply C4.drewN) kw3
  have A := C3.kp (C3.new w2 _ _ _ _) kw3
  replace hg := Lib.hid (GrewS.trans (by repeat with_reducible first | exact hg.out | apply GrewS.alloc | apply GrewS.drew | apply GrewS.drewN) hw3)
  clear kw3 hw3
  have X_0 := X.c0
  have X_1 := X.c1
  have X_2 := X.c2
  have X_l := X.lt
  have Y_0 := Y.c0
  have Y_1 := Y.c1
  have Y_2 := Y.c2
  have Y_3 := Y.c3
  have Y_l := Y.lt
  have A_0 := A.c0
  have A_1 := A.c1
  have A_2 := A.c2
  have A_l := A.lt
  clear H3
  go_wp2_with fail
  clear X_0 X_1 X_2 X_l Y_0 Y_1 Y_2 Y_3 Y_l A_0 A_1 A_2 A_l
  refine (H4 _).out.mono ?_
  rintro e w4 ⟨rfl, hw4⟩
  have kw4 := hw4.kp
  replace X := C3.kp (by repeat with_reducible first | exact X | apply C3.alloc | apply C3.drew | apply C3.drewN) kw4
  replace Y := C4.kp (by repeat with_reducible first | exact Y | apply C4.alloc | apply C4.drew | apply C4.drewN) kw4
  replace A := C3.kp (by repeat with_reducible first | exact A | apply C3.alloc | apply C3.drew | apply C3.drewN) kw4
  have B := C3.kp (C3.new w3 _ _ _ _) kw4
  replace hg := Lib.hid (GrewS.trans (by repeat with_reducible first | exact hg.out | apply GrewS.alloc | apply GrewS.drew | apply GrewS.drewN) hw4)
  clear kw4 hw4
  have X_0 := X.c0
  have X_1 := X.c1
  have X_2 := X.c2
  have X_l := X.lt
  have Y_0 := Y.c0
  have Y_1 := Y.c1
  have Y_2 := Y.c2
  have Y_3 := Y.c3
  have Y_l := Y.lt
  have A_0 := A.c0
  have A_1 := A.c1
  have A_2 := A.c2
  have A_l := A.lt
  have B_0 := B.c0
  have B_1 := B.c1
  have B_2 := B.c2
  have B_l := B.lt
  clear H4
  go_wp2_with fail
  clear X_0 X_1 X_2 X_l Y_0 Y_1 Y_2 Y_3 Y_l A_0 A_1 A_2 A_l B_0 B_1 B_2 B_l
  refine (H5 _).out.mono ?_
  rintro e w5 ⟨rfl, hw5⟩
  have kw5 := hw5.kp
  replace X := C3.kp (by repeat with_reducible first | exact X | apply C3.alloc | apply C3.drew | apply C3.drewN) kw5
  replace Y := C4.kp (by repeat with_reducible first | exact Y | apply C4.alloc | apply C4.drew | apply C4.drewN) kw5
  replace A := C3.kp (by repeat with_reducible first | exact A | apply C3.alloc | apply C3.drew | apply C3.drewN) kw5
  replace B := C3.kp (by repeat with_reducible first | exact B | apply C3.alloc | apply C3.drew | apply C3.drewN) kw5
  have Z := C4.kp (C4.new w4 _ _ _ _ _) kw5
  replace hg := Lib.hid (GrewS.trans (by repeat with_reducible first | exact hg.out | apply GrewS.alloc | apply GrewS.drew | apply GrewS.drewN) hw5)
  clear kw5 hw5
  have X_0 := X.c0
  have X_1 := X.c1
  have X_2 := X.c2
  have X_l := X.lt
  have Y_0 := Y.c0
  have Y_1 := Y.c1
  have Y_2 := Y.c2
  have Y_3 := Y.c3
  have Y_l := Y.lt
  have A_0 := A.c0
  have A_1 := A.c1
  have A_2 := A.c2
  have A_l := A.lt
  have B_0 := B.c0
  have B_1 := B.c1
  have B_2 := B.c2
  have B_l := B.lt
  have Z_0 := Z.c0
  have Z_1 := Z.c1
  have Z_2 := Z.c2
  have Z_3 := Z.c3
  have Z_l := Z.lt
  clear H5
  go_wp2_with fail
  clear X_0 X_1 X_2 X_l Y_0 Y_1 Y_2 Y_3 Y_l A_0 A_1 A_2 A_l B_0 B_1 B_2 B_l Z_0 Z_1 Z_2 Z_3 Z_l
  refine (H6 _).out.mono ?_
  rintro e w6 ⟨rfl, hw6⟩
  have kw6 := hw6.kp
  replace X := C3.kp (by repeat with_reducible first | exact X | apply C3.alloc | apply C3.drew | apply C3.drewN) kw6
  replace Y := C4.kp (by repeat with_reducible first | exact Y | apply C4.alloc | apply C4.drew | apply C4.drewN) kw6
  replace A := C3.kp (by repeat with_reducible first | exact A | apply C3.alloc | apply C3.drew | apply C3.drewN) kw6
  replace B := C3.kp (by repeat with_reducible first | exact B | apply C3.alloc | apply C3.drew | apply C3.drewN) kw6
  replace Z := C4.kp (by repeat with_reducible first | exact Z | apply C4.alloc | apply C4.drew | apply C4.drewN) kw6
  have C := C3.kp (C3.new w5 _ _ _ _) kw6
  replace hg := Lib.hid (GrewS.trans (by repeat with_reducible first | exact hg.out | apply GrewS.alloc | apply GrewS.drew | apply GrewS.drewN) hw6)
  clear kw6 hw6
  have X_0 := X.c0
  have X_1 := X.c1
  have X_2 := X.c2
  have X_l := X.lt
  have Y_0 := Y.c0
  have Y_1 := Y.c1
  have Y_2 := Y.c2
  have Y_3 := Y.c3
  have Y_l := Y.lt
  have A_0 := A.c0
  have A_1 := A.c1
  have A_2 := A.c2
  have A_l := A.lt
  have B_0 := B.c0
  have B_1 := B.c1
  have B_2 := B.c2
  have B_l := B.lt
  have Z_0 := Z.c0
  have Z_1 := Z.c1
  have Z_2 := Z.c2
  have Z_3 := Z.c3
  have Z_l := Z.lt
  have C_0 := C.c0
  have C_1 := C.c1
  have C_2 := C.c2
  have C_l := C.lt
  clear H6
  go_wp2_with fail
  clear X_0 X_1 X_2 X_l Y_0 Y_1 Y_2 Y_3 Y_l A_0 A_1 A_2 A_l B_0 B_1 B_2 B_l Z_0 Z_1 Z_2 Z_3 Z_l C_0 C_1 C_2 C_l
  refine (H7 _).out.mono ?_
  rintro e w7 ⟨rfl, hw7⟩
  have kw7 := hw7.kp
  replace X := C3.kp (by repeat with_reducible first | exact X | apply C3.alloc | apply C3.drew | apply C3.drewN) kw7
  replace Y := C4.kp (by repeat with_reducible first | exact Y | apply C4.alloc | apply C4.drew | apply C4.drewN) kw7
  replace A := C3.kp (by repeat with_reducible first | exact A | apply C3.alloc | apply C3.drew | apply C3.drewN) kw7
  replace B := C3.kp (by repeat with_reducible first | exact B | apply C3.alloc | apply C3.drew | apply C3.drewN) kw7
  replace Z := C4.kp (by repeat with_reducible first | exact Z | apply C4.alloc | apply C4.drew | apply C4.drewN) kw7
  replace C := C3.kp (by repeat with_reducible first | exact C | apply C3.alloc | apply C3.drew | apply C3.drewN) kw7
  replace hg := Lib.hid (GrewS.trans (by repeat with_reducible first | exact hg.out | apply GrewS.alloc | apply GrewS.drew | apply GrewS.drewN) hw7)
  clear kw7 hw7
  have X_0 := X.c0
  have X_1 := X.c1
  have X_2 := X.c2
  have X_l := X.lt
  have Y_0 := Y.c0
  have Y_1 := Y.c1
  have Y_2 := Y.c2
  have Y_3 := Y.c3
  have Y_l := Y.lt
  have A_0 := A.c0
  have A_1 := A.c1
  have A_2 := A.c2
  have A_l := A.lt
  have B_0 := B.c0
  have B_1 := B.c1
  have B_2 := B.c2
  have B_l := B.lt
  have Z_0 := Z.c0
  have Z_1 := Z.c1
  have Z_2 := Z.c2
  have Z_3 := Z.c3
  have Z_l := Z.lt
  have C_0 := C.c0
  have C_1 := C.c1
  have C_2 := C.c2
  have C_l := C.lt
  clear H7
  go_wp2_with fail
  clear X_0 X_1 X_2 X_l Y_0 Y_1 Y_2 Y_3 Y_l A_0 A_1 A_2 A_l B_0 B_1 B_2 B_l Z_0 Z_1 Z_2 Z_3 Z_l C_0 C_1 C_2 C_l
  refine (H8 _).out.mono ?_
  rintro e w8 ⟨rfl, hw8⟩
  have kw8 := hw8.kp
  replace X := C3.kp (by repeat with_reducible first | exact X | apply C3.alloc | apply C3.drew | apply C3.drewN) kw8
  replace Y := C4.kp (by repeat with_reducible first | exact Y | apply C4.alloc | apply C4.drew | apply C4.drewN) kw8
  replace A := C3.kp (by repeat with_reducible first | exact A | apply C3.alloc | apply C3.drew | apply C3.drewN) kw8
  replace B := C3.kp (by repeat with_reducible first | exact B | apply C3.alloc | apply C3.drew | apply C3.drewN) kw8
  replace Z := C4.kp (by repeat with_reducible first | exact Z | apply C4.alloc | apply C4.drew | apply C4.drewN) kw8
  replace C := C3.kp (by repeat with_reducible first | exact C | apply C3.alloc | apply C3.drew | apply C3.drewN) kw8
  replace hg := Lib.hid (GrewS.trans (by repeat with_reducible first | exact hg.out | apply GrewS.alloc | apply GrewS.drew | apply GrewS.drewN) hw8)
  clear kw8 hw8
  have X_0 := X.c0
  have X_1 := X.c1
  have X_2 := X.c2
  have X_l := X.lt
  have Y_0 := Y.c0
  have Y_1 := Y.c1
  have Y_2 := Y.c2
  have Y_3 := Y.c3
  have Y_l := Y.lt
  have A_0 := A.c0
  have A_1 := A.c1
  have A_2 := A.c2
  have A_l := A.lt
  have B_0 := B.c0
  have B_1 := B.c1
  have B_2 := B.c2
  have B_l := B.lt
  have Z_0 := Z.c0
  have Z_1 := Z.c1
  have Z_2 := Z.c2
  have Z_3 := Z.c3
  have Z_l := Z.lt
  have C_0 := C.c0
  have C_1 := C.c1
  have C_2 := C.c2
  have C_l := C.lt
  clear H8
  go_wp2_with fail
  clear X_0 X_1 X_2 X_l Y_0 Y_1 Y_2 Y_3 Y_l A_0 A_1 A_2 A_l B_0 B_1 B_2 B_l Z_0 Z_1 Z_2 Z_3 Z_l C_0 C_1 C_2 C_l
  refine (H9 _ _ ?hI).out.mono ?_
  case hI => exact isInts_new (k := .u64) _ [120, 1000, 50] 22
  rintro e w9 ⟨rfl, hw9⟩
  have kw9 := hw9.kp
  replace X := C3.kp (by repeat with_reducible first | exact X | apply C3.alloc | apply C3.drew | apply C3.drewN) kw9
  replace Y := C4.kp (by repeat with_reducible first | exact Y | apply C4.alloc | apply C4.drew | apply C4.drewN) kw9
  replace A := C3.kp (by repeat with_reducible first | exact A | apply C3.alloc | apply C3.drew | apply C3.drewN) kw9
  replace B := C3.kp (by repeat with_reducible first | exact B | apply C3.alloc | apply C3.drew | apply C3.drewN) kw9
  replace Z := C4.kp (by repeat with_reducible first | exact Z | apply C4.alloc | apply C4.drew | apply C4.drewN) kw9
  replace C := C3.kp (by repeat with_reducible first | exact C | apply C3.alloc | apply C3.drew | apply C3.drewN) kw9
  replace hg := Lib.hid (GrewS.trans (by repeat with_reducible first | exact hg.out | apply GrewS.alloc | apply GrewS.drew | apply GrewS.drewN) hw9)
  clear kw9 hw9
  have X_0 := X.c0
  have X_1 := X.c1
  have X_2 := X.c2
  have X_l := X.lt
  have Y_0 := Y.c0
  have Y_1 := Y.c1
  have Y_2 := Y.c2
  have Y_3 := Y.c3
  have Y_l := Y.lt
  have A_0 := A.c0
  have A_1 := A.c1
  have A_2 := A.c2
  have A_l := A.lt
  have B_0 := B.c0
  have B_1 := B.c1
  have B_2 := B.c2
  have B_l := B.lt
  have Z_0 := Z.c0
  have Z_1 := Z.c1
  have Z_2 := Z.c2
  have Z_3 := Z.c3
  have Z_l := Z.lt
  have C_0 := C.c0
  have C_1 := C.c1
  have C_2 := C.c2
  have C_l := C.lt
  clear H9
  go_wp2_with fail
  clear X_0 X_1 X_2 X_l Y_0 Y_1 Y_2 Y_3 Y_l A_0 A_1 A_2 A_l B_0 B_1 B_2 B_l Z_0 Z_1 Z_2 Z_3 Z_l C_0 C_1 C_2 C_l
  refine (H10 _ _ ?hJ).out.mono ?_
  case hJ => exact isInts_at (k := .u64) _ [120, 7, 1000] 22 (by simp)
  rintro e w10 ⟨rfl, hw10⟩
  have kw10 := hw10.kp
  replace X := C3.kp (by repeat with_reducible first | exact X | apply C3.alloc | apply C3.drew | apply C3.drewN) kw10
  replace Y := C4.kp (by repeat with_reducible first | exact Y | apply C4.alloc | apply C4.drew | apply C4.drewN) kw10
  replace A := C3.kp (by repeat with_reducible first | exact A | apply C3.alloc | apply C3.drew | apply C3.drewN) kw10
  replace B := C3.kp (by repeat with_reducible first | exact B | apply C3.alloc | apply C3.drew | apply C3.drewN) kw10
  replace Z := C4.kp (by repeat with_reducible first | exact Z | apply C4.alloc | apply C4.drew | apply C4.drewN) kw10
  replace C := C3.kp (by repeat with_reducible first | exact C | apply C3.alloc | apply C3.drew | apply C3.drewN) kw10
  have D := C3.kp (C3.new w9 _ _ _ _ |>.alloc _) kw10
  replace hg := Lib.hid (GrewS.trans (by repeat with_reducible first | exact hg.out | apply GrewS.alloc | apply GrewS.drew | apply GrewS.drewN) hw10)
  clear kw10 hw10
  have X_0 := X.c0
  have X_1 := X.c1
  have X_2 := X.c2
  have X_l := X.lt
  have Y_0 := Y.c0
  have Y_1 := Y.c1
  have Y_2 := Y.c2
  have Y_3 := Y.c3
  have Y_l := Y.lt
  have A_0 := A.c0
  have A_1 := A.c1
  have A_2 := A.c2
  have A_l := A.lt
  have B_0 := B.c0
  have B_1 := B.c1
  have B_2 := B.c2
  have B_l := B.lt
  have Z_0 := Z.c0
  have Z_1 := Z.c1
  have Z_2 := Z.c2
  have Z_3 := Z.c3
  have Z_l := Z.lt
  have C_0 := C.c0
  have C_1 := C.c1
  have C_2 := C.c2
  have C_l := C.lt
  have D_0 := D.c0
  have D_1 := D.c1
  have D_2 := D.c2
  have D_l := D.lt
  clear H10
  go_wp2_with fail
  go_ret
  refine ⟨by simp, ?_⟩
  repeat with_reducible first | exact hg.out | apply GrewS.drewN | apply GrewS.drew | apply GrewS.alloc
end Go.Proofs.Ytmlapjaccmoleaa
