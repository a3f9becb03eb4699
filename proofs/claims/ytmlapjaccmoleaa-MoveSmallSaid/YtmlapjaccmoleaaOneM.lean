/-
  What layer 26's 'one' compares; the law MoveTells, walked.
-/
import Derived.Test.YtmlapjaccmoleaaRefCmp
namespace Go.Proofs.Ytmlapjaccmoleaa
open Go.RowKit

theorem off_both {v r w f : Int} (b : EB v r w) (f0 : 0 ≤ f) (f1 : f ≤ 18446744073709551615) : ∃ (q : Bool) (a c d k : Int), 0 ≤ k ∧ k ≤ 6 ∧
    (∀ W, Hid (Calls Try.prog 37 #[ent v r w, .int .u64 f] W fun e w' => e = .returned (.tuple #[rel q a c d, .int .i64 k]) ∧ GrewS W w')) ∧
    (∀ W, Hid (Calls Try.prog 68 #[ent v r w, .int .u64 f] W fun e w' => e = .returned (.tuple #[rel q a c d, .int .i64 k]) ∧ GrewS W w')) := by
  cases h : rightB v r w with
  | false => exact ⟨_, _, _, _, _, by omega, by omega, fun W => Lib.hid (off_f W b h), fun W => Lib.hid (refOff_f W b h)⟩
  | true => exact ⟨_, _, _, _, _, by omega, by omega, fun W => Lib.hid (off_t W b f0 f1 h), fun W => Lib.hid (refOff_t W b f0 f1 h)⟩
theorem on_both {q : Bool} {y r w f : Int} (b : EB y r w) (f0 : 0 ≤ f) (f1 : f ≤ 18446744073709551615) : ∃ (a c d k : Int), 0 ≤ k ∧ k ≤ 6 ∧
    (∀ W, Hid (Calls Try.prog 40 #[rel q y r w, .int .u64 f] W fun e w' => e = .returned (.tuple #[ent a c d, .int .i64 k]) ∧ GrewS W w')) ∧
    (∀ W, Hid (Calls Try.prog 69 #[rel q y r w, .int .u64 f] W fun e w' => e = .returned (.tuple #[ent a c d, .int .i64 k]) ∧ GrewS W w')) := by
  cases h : relB q y r w with
  | false => exact ⟨_, _, _, _, by omega, by omega, fun W => Lib.hid (on_f W b h), fun W => Lib.hid (refOn_f W b h)⟩
  | true => exact ⟨_, _, _, _, by omega, by omega, fun W => Lib.hid (on_t W b f0 f1 h), fun W => Lib.hid (refOn_t W b f0 f1 h)⟩
theorem cmp_both {q q' : Bool} {y r w y' r' w' : Int} (b : EB y r w) (b' : EB y' r' w') : ∃ (n k : Int), 0 ≤ k ∧ k ≤ 6 ∧
    (∀ W, Hid (Calls Try.prog 45 #[rel q y r w, rel q' y' r' w'] W fun e w1 => e = .returned (.tuple #[.int .i64 n, .int .i64 k]) ∧ GrewS W w1)) ∧
    (∀ W, Hid (Calls Try.prog 71 #[rel q y r w, rel q' y' r' w'] W fun e w1 => e = .returned (.tuple #[.int .i64 n, .int .i64 k]) ∧ GrewS W w1)) := by
  cases h : relB q y r w with
  | false => exact ⟨_, _, by omega, by omega, fun W => Lib.hid (cmp_f W b b' (Or.inl h)), fun W => Lib.hid (refCmp_f W b b' (Or.inl h))⟩
  | true =>
    cases h' : relB q' y' r' w' with
    | false => exact ⟨_, _, by omega, by omega, fun W => Lib.hid (cmp_f W b b' (Or.inr h')), fun W => Lib.hid (refCmp_f W b b' (Or.inr h'))⟩
    | true => exact ⟨_, _, by omega, by omega, fun W => Lib.hid (cmp_t W b b' h h'), fun W => Lib.hid (refCmp_t W b b' h h')⟩
theorem reach_both {q : Bool} {y r w : Int} (b : EB y r w) : ∃ (n m k : Int), 0 ≤ k ∧ k ≤ 6 ∧
    (∀ W, Hid (Calls Try.prog 38 #[rel q y r w] W fun e w' => e = .returned (.tuple #[.int .u64 n, .int .u64 m, .int .i64 k]) ∧ GrewS W w')) ∧
    (∀ W, Hid (Calls Try.prog 72 #[rel q y r w] W fun e w' => e = .returned (.tuple #[.int .u64 n, .int .u64 m, .int .i64 k]) ∧ GrewS W w')) := by
  cases h : relB q y r w with
  | false => exact ⟨_, _, _, by omega, by omega, fun W => Lib.hid (reach_f W b h), fun W => Lib.hid (refReach_f W b h)⟩
  | true =>
    by_cases hy : q = true ∨ y ≠ 18446744073709551615
    · exact ⟨_, _, _, by omega, by omega, fun W => Lib.hid (reach_t W b h hy), fun W => Lib.hid (refReach_t W b h hy)⟩
    · have hq : q = false := by
        cases q
        · rfl
        · exact absurd (Or.inl rfl) hy
      have hy2 : y = 18446744073709551615 := by
        by_cases hz : y = 18446744073709551615
        · exact hz
        · exact absurd (Or.inr hz) hy
      subst hq
      exact ⟨_, _, _, by omega, by omega, fun W => Lib.hid (reach_n W b h rfl hy2), fun W => Lib.hid (refReach_3 W b h hy2)⟩

set_option maxRecDepth 100000 in
set_option maxHeartbeats 4000000 in
theorem one_any {v r w f y ry wy z rz wz : Int} {by' bz : Bool} (W : World) (b : EB v r w) (hy : EB y ry wy) (hz : EB z rz wz) (f0 : 0 ≤ f) (f1 : f ≤ 18446744073709551615) :
    Calls Try.prog 44 #[ent v r w, rel by' y ry wy, rel bz z rz wz, .int .u64 f] W fun e w' => e = .returned (.bool true) ∧ GrewS W w' := by
  obtain ⟨q1, a1, c1, d1, k1, k10, k11, H1, H2⟩ := off_both b f0 f1
  obtain ⟨a2, c2, d2, k2, k20, k21, H3, H4⟩ := on_both (q := by') hy f0 f1
  obtain ⟨n3, k3, k30, k31, H7, H8⟩ := cmp_both (q := by') (q' := bz) hy hz
  obtain ⟨n4, m4, k4, k40, k41, H9, H10⟩ := reach_both (q := by') hy
  have H5 := fun W => Lib.hid (relRight_any (b := by') W hy)
  have H6 := fun W => Lib.hid (refRel_any (b := by') W hy)
  generalize relB by' y ry wy = B at *
  clear b hy hz f0 f1
  have hg := Lib.hid (GrewS.refl W)
  go_enter Try.func44, Try.ntmps44
  go_wp2_with fail
  refine (H1 _).out.mono ?_
  rintro e w1 ⟨rfl, hw1⟩
  have kw1 := hw1.kp
  have X := C3.kp (((C3.new W _ _ _ _).alloc _).alloc _) kw1
  have Y : C4 w1 (W.heap.size + 1) (.bool by') (.int .u64 y) (.int .u32 ry) (.int .u32 wy) := by simpa using C4.kp ((C4.new (W.alloc _) _ _ _ _ _).alloc _) kw1
  have Z : C4 w1 (W.heap.size + 2) (.bool bz) (.int .u64 z) (.int .u32 rz) (.int .u32 wz) := by simpa using C4.kp (C4.new ((W.alloc _).alloc _) _ _ _ _ _) kw1
  replace hg := Lib.hid ((((hg.out.alloc _).alloc _).alloc _).trans hw1)
  clear kw1 hw1 H1
  have X_0 := X.c0
  have X_1 := X.c1
  have X_2 := X.c2
  have X_l := X.lt
  have Y_0 := Y.c0
  have Y_1 := Y.c1
  have Y_2 := Y.c2
  have Y_3 := Y.c3
  have Y_l := Y.lt
  have Z_0 := Z.c0
  have Z_1 := Z.c1
  have Z_2 := Z.c2
  have Z_3 := Z.c3
  have Z_l := Z.lt
  go_wp2_with fail
  clear X_0 X_1 X_2 X_l Y_0 Y_1 Y_2 Y_3 Y_l Z_0 Z_1 Z_2 Z_3 Z_l
  refine (H2 _).out.mono ?_
  rintro e w2 ⟨rfl, hw2⟩
  have kw2 := hw2.kp
  replace X := C3.kp (by repeat with_reducible first | exact X | apply C3.alloc | apply C3.drew | apply C3.drewN) kw2
  replace Y := C4.kp (by repeat with_reducible first | exact Y | apply C4.alloc | apply C4.drew | apply C4.drewN) kw2
  replace Z := C4.kp (by repeat with_reducible first | exact Z | apply C4.alloc | apply C4.drew | apply C4.drewN) kw2
  have O1 := C4.kp (C4.new w1 _ _ _ _ _) kw2
  replace hg := Lib.hid (GrewS.trans (by repeat with_reducible first | exact hg.out | apply GrewS.alloc | apply GrewS.drew | apply GrewS.drewN) hw2)
  clear kw2 hw2
  have X_0 := X.c0
  have X_1 := X.c1
  have X_2 := X.c2
  have X_l := X.lt
  have Y_0 := Y.c0
  have Y_1 := Y.c1
  have Y_2 := Y.c2
  have Y_3 := Y.c3
  have Y_l := Y.lt
  have Z_0 := Z.c0
  have Z_1 := Z.c1
  have Z_2 := Z.c2
  have Z_3 := Z.c3
  have Z_l := Z.lt
  have O1_0 := O1.c0
  have O1_1 := O1.c1
  have O1_2 := O1.c2
  have O1_3 := O1.c3
  have O1_l := O1.lt
  clear H2
  go_wp2_with fail
  clear X_0 X_1 X_2 X_l Y_0 Y_1 Y_2 Y_3 Y_l Z_0 Z_1 Z_2 Z_3 Z_l O1_0 O1_1 O1_2 O1_3 O1_l
  refine (H3 _).out.mono ?_
  rintro e w3 ⟨rfl, hw3⟩
  have kw3 := hw3.kp
  replace X := C3.kp (by repeat with_reducible first | exact X | apply C3.alloc | apply C3.drew | apply C3.drewN) kw3
  replace Y := C4.kp (by repeat with_reducible first | exact Y | apply C4.alloc | apply C4.drew | apply C4.drewN) kw3
  replace Z := C4.kp (by repeat with_reducible first | exact Z | apply C4.alloc | apply C4.drew | apply C4.drewN) kw3
  replace O1 := C4.kp (by repeat with_reducible first | exact O1 | apply C4.alloc | apply C4.drew | apply C4.drewN) kw3
  have O2 := C4.kp (C4.new w2 _ _ _ _ _) kw3
  replace hg := Lib.hid (GrewS.trans (by repeat with_reducible first | exact hg.out | apply GrewS.alloc | apply GrewS.drew | apply GrewS.drewN) hw3)
  clear kw3 hw3
  have X_0 := X.c0
  have X_1 := X.c1
  have X_2 := X.c2
  have X_l := X.lt
  have Y_0 := Y.c0
  have Y_1 := Y.c1
  have Y_2 := Y.c2
  have Y_3 := Y.c3
  have Y_l := Y.lt
  have Z_0 := Z.c0
  have Z_1 := Z.c1
  have Z_2 := Z.c2
  have Z_3 := Z.c3
  have Z_l := Z.lt
  have O1_0 := O1.c0
  have O1_1 := O1.c1
  have O1_2 := O1.c2
  have O1_3 := O1.c3
  have O1_l := O1.lt
  have O2_0 := O2.c0
  have O2_1 := O2.c1
  have O2_2 := O2.c2
  have O2_3 := O2.c3
  have O2_l := O2.lt
  clear H3
  go_wp2_with fail
  clear X_0 X_1 X_2 X_l Y_0 Y_1 Y_2 Y_3 Y_l Z_0 Z_1 Z_2 Z_3 Z_l O1_0 O1_1 O1_2 O1_3 O1_l O2_0 O2_1 O2_2 O2_3 O2_l
  refine (H4 _).out.mono ?_
  rintro e w4 ⟨rfl, hw4⟩
  have kw4 := hw4.kp
  replace X := C3.kp (by repeat with_reducible first | exact X | apply C3.alloc | apply C3.drew | apply C3.drewN) kw4
  replace Y := C4.kp (by repeat with_reducible first | exact Y | apply C4.alloc | apply C4.drew | apply C4.drewN) kw4
  replace Z := C4.kp (by repeat with_reducible first | exact Z | apply C4.alloc | apply C4.drew | apply C4.drewN) kw4
  replace O1 := C4.kp (by repeat with_reducible first | exact O1 | apply C4.alloc | apply C4.drew | apply C4.drewN) kw4
  replace O2 := C4.kp (by repeat with_reducible first | exact O2 | apply C4.alloc | apply C4.drew | apply C4.drewN) kw4
  have N1 := C3.kp (C3.new w3 _ _ _ _) kw4
  replace hg := Lib.hid (GrewS.trans (by repeat with_reducible first | exact hg.out | apply GrewS.alloc | apply GrewS.drew | apply GrewS.drewN) hw4)
  clear kw4 hw4
  have X_0 := X.c0
  have X_1 := X.c1
  have X_2 := X.c2
  have X_l := X.lt
  have Y_0 := Y.c0
  have Y_1 := Y.c1
  have Y_2 := Y.c2
  have Y_3 := Y.c3
  have Y_l := Y.lt
  have Z_0 := Z.c0
  have Z_1 := Z.c1
  have Z_2 := Z.c2
  have Z_3 := Z.c3
  have Z_l := Z.lt
  have O1_0 := O1.c0
  have O1_1 := O1.c1
  have O1_2 := O1.c2
  have O1_3 := O1.c3
  have O1_l := O1.lt
  have O2_0 := O2.c0
  have O2_1 := O2.c1
  have O2_2 := O2.c2
  have O2_3 := O2.c3
  have O2_l := O2.lt
  have N1_0 := N1.c0
  have N1_1 := N1.c1
  have N1_2 := N1.c2
  have N1_l := N1.lt
  clear H4
  go_wp2_with fail
  clear X_0 X_1 X_2 X_l Y_0 Y_1 Y_2 Y_3 Y_l Z_0 Z_1 Z_2 Z_3 Z_l O1_0 O1_1 O1_2 O1_3 O1_l O2_0 O2_1 O2_2 O2_3 O2_l N1_0 N1_1 N1_2 N1_l
  have N2 := C3.new w4 (.int .u64 a2) (.int .u32 c2) (.int .u32 d2) 74
  replace X := X.alloc (.cells #[.int .u64 a2, .int .u32 c2, .int .u32 d2] 74)
  replace Y := Y.alloc (.cells #[.int .u64 a2, .int .u32 c2, .int .u32 d2] 74)
  replace Z := Z.alloc (.cells #[.int .u64 a2, .int .u32 c2, .int .u32 d2] 74)
  replace O1 := O1.alloc (.cells #[.int .u64 a2, .int .u32 c2, .int .u32 d2] 74)
  replace O2 := O2.alloc (.cells #[.int .u64 a2, .int .u32 c2, .int .u32 d2] 74)
  replace N1 := N1.alloc (.cells #[.int .u64 a2, .int .u32 c2, .int .u32 d2] 74)
  replace hg := Lib.hid (hg.out.alloc (.cells #[.int .u64 a2, .int .u32 c2, .int .u32 d2] 74))
  generalize hN : w4.heap.size = nb at *
  generalize w4.alloc _ = w4 at *
  go_region_held3 (fun w' => w'.cell? ⟨w1.heap.size, 0, none⟩ = some (.bool q1) ∧ w'.cell? ⟨w1.heap.size, 1, none⟩ = some (.int .u64 a1) ∧ w'.cell? ⟨w1.heap.size, 2, none⟩ = some (.int .u32 c1) ∧ w'.cell? ⟨w1.heap.size, 3, none⟩ = some (.int .u32 d1) ∧ w'.cell? ⟨w2.heap.size, 0, none⟩ = some (.bool q1) ∧ w'.cell? ⟨w2.heap.size, 1, none⟩ = some (.int .u64 a1) ∧ w'.cell? ⟨w2.heap.size, 2, none⟩ = some (.int .u32 c1) ∧ w'.cell? ⟨w2.heap.size, 3, none⟩ = some (.int .u32 d1) ∧ w'.cell? ⟨w3.heap.size, 0, none⟩ = some (.int .u64 a2) ∧ w'.cell? ⟨w3.heap.size, 1, none⟩ = some (.int .u32 c2) ∧ w'.cell? ⟨w3.heap.size, 2, none⟩ = some (.int .u32 d2) ∧ w'.cell? ⟨nb, 0, none⟩ = some (.int .u64 a2) ∧ w'.cell? ⟨nb, 1, none⟩ = some (.int .u32 c2) ∧ w'.cell? ⟨nb, 2, none⟩ = some (.int .u32 d2) ∧ w'.cell? ⟨(W.heap.size + 1), 0, none⟩ = some (.bool by') ∧ w'.cell? ⟨(W.heap.size + 1), 1, none⟩ = some (.int .u64 y) ∧ w'.cell? ⟨(W.heap.size + 1), 2, none⟩ = some (.int .u32 ry) ∧ w'.cell? ⟨(W.heap.size + 1), 3, none⟩ = some (.int .u32 wy))
    (first | exact ⟨O1.drew.c0, O1.drew.c1, O1.drew.c2, O1.drew.c3, O2.drew.c0, O2.drew.c1, O2.drew.c2, O2.drew.c3, N1.drew.c0, N1.drew.c1, N1.drew.c2, N2.drew.c0, N2.drew.c1, N2.drew.c2, Y.drew.c0, Y.drew.c1, Y.drew.c2, Y.drew.c3⟩ | (have k5 := hg5.kp; exact ⟨(O1.drew.kp k5).c0, (O1.drew.kp k5).c1, (O1.drew.kp k5).c2, (O1.drew.kp k5).c3, (O2.drew.kp k5).c0, (O2.drew.kp k5).c1, (O2.drew.kp k5).c2, (O2.drew.kp k5).c3, (N1.drew.kp k5).c0, (N1.drew.kp k5).c1, (N1.drew.kp k5).c2, (N2.drew.kp k5).c0, (N2.drew.kp k5).c1, (N2.drew.kp k5).c2, (Y.drew.kp k5).c0, (Y.drew.kp k5).c1, (Y.drew.kp k5).c2, (Y.drew.kp k5).c3⟩) | (have k6 := hg6.kp; have k5 := hg5.kp; exact ⟨((O1.drew.kp k5).kp k6).c0, ((O1.drew.kp k5).kp k6).c1, ((O1.drew.kp k5).kp k6).c2, ((O1.drew.kp k5).kp k6).c3, ((O2.drew.kp k5).kp k6).c0, ((O2.drew.kp k5).kp k6).c1, ((O2.drew.kp k5).kp k6).c2, ((O2.drew.kp k5).kp k6).c3, ((N1.drew.kp k5).kp k6).c0, ((N1.drew.kp k5).kp k6).c1, ((N1.drew.kp k5).kp k6).c2, ((N2.drew.kp k5).kp k6).c0, ((N2.drew.kp k5).kp k6).c1, ((N2.drew.kp k5).kp k6).c2, ((Y.drew.kp k5).kp k6).c0, ((Y.drew.kp k5).kp k6).c1, ((Y.drew.kp k5).kp k6).c2, ((Y.drew.kp k5).kp k6).c3⟩))
    (first | (go_at_call 41; refine (H5 _).out.mono ?_; rintro e w5 ⟨rfl, hg5⟩) | (go_at_call 70; refine (H6 _).out.mono ?_; rintro e w6 ⟨rfl, hg6⟩))
  replace Y := (Y.drew.kp hg5.kp).kp hg6.kp
  replace Z := (Z.drew.kp hg5.kp).kp hg6.kp
  replace hg := Lib.hid ((hg.out.drew.trans hg5).trans hg6)
  clear X O1 O2 N1 N2 hg5 hg6 H5 H6
  have Y_0 := Y.c0
  have Y_1 := Y.c1
  have Y_2 := Y.c2
  have Y_3 := Y.c3
  have Y_l := Y.lt
  have Z_0 := Z.c0
  have Z_1 := Z.c1
  have Z_2 := Z.c2
  have Z_3 := Z.c3
  have Z_l := Z.lt
  go_wp2_with fail
  clear Y_0 Y_1 Y_2 Y_3 Y_l Z_0 Z_1 Z_2 Z_3 Z_l
  refine (H7 _).out.mono ?_
  rintro e w7 ⟨rfl, hw7⟩
  have kw7 := hw7.kp
  replace Y := C4.kp (by repeat with_reducible first | exact Y | apply C4.alloc | apply C4.drew | apply C4.drewN) kw7
  replace Z := C4.kp (by repeat with_reducible first | exact Z | apply C4.alloc | apply C4.drew | apply C4.drewN) kw7
  replace hg := Lib.hid (GrewS.trans (by repeat with_reducible first | exact hg.out | apply GrewS.alloc | apply GrewS.drew | apply GrewS.drewN) hw7)
  clear kw7 hw7
  have Y_0 := Y.c0
  have Y_1 := Y.c1
  have Y_2 := Y.c2
  have Y_3 := Y.c3
  have Y_l := Y.lt
  have Z_0 := Z.c0
  have Z_1 := Z.c1
  have Z_2 := Z.c2
  have Z_3 := Z.c3
  have Z_l := Z.lt
  clear H7
  go_wp2_with fail
  clear Y_0 Y_1 Y_2 Y_3 Y_l Z_0 Z_1 Z_2 Z_3 Z_l
  refine (H8 _).out.mono ?_
  rintro e w8 ⟨rfl, hw8⟩
  have kw8 := hw8.kp
  replace Y := C4.kp (by repeat with_reducible first | exact Y | apply C4.alloc | apply C4.drew | apply C4.drewN) kw8
  replace Z := C4.kp (by repeat with_reducible first | exact Z | apply C4.alloc | apply C4.drew | apply C4.drewN) kw8
  replace hg := Lib.hid (GrewS.trans (by repeat with_reducible first | exact hg.out | apply GrewS.alloc | apply GrewS.drew | apply GrewS.drewN) hw8)
  clear kw8 hw8
  have Y_0 := Y.c0
  have Y_1 := Y.c1
  have Y_2 := Y.c2
  have Y_3 := Y.c3
  have Y_l := Y.lt
  have Z_0 := Z.c0
  have Z_1 := Z.c1
  have Z_2 := Z.c2
  have Z_3 := Z.c3
  have Z_l := Z.lt
  clear H8
  go_wp2_with fail
  clear Y_0 Y_1 Y_2 Y_3 Y_l Z_0 Z_1 Z_2 Z_3 Z_l
  refine (H9 _).out.mono ?_
  rintro e w9 ⟨rfl, hw9⟩
  have kw9 := hw9.kp
  replace Y := C4.kp (by repeat with_reducible first | exact Y | apply C4.alloc | apply C4.drew | apply C4.drewN) kw9
  replace Z := C4.kp (by repeat with_reducible first | exact Z | apply C4.alloc | apply C4.drew | apply C4.drewN) kw9
  replace hg := Lib.hid (GrewS.trans (by repeat with_reducible first | exact hg.out | apply GrewS.alloc | apply GrewS.drew | apply GrewS.drewN) hw9)
  clear kw9 hw9
  have Y_0 := Y.c0
  have Y_1 := Y.c1
  have Y_2 := Y.c2
  have Y_3 := Y.c3
  have Y_l := Y.lt
  have Z_0 := Z.c0
  have Z_1 := Z.c1
  have Z_2 := Z.c2
  have Z_3 := Z.c3
  have Z_l := Z.lt
  clear H9
  go_wp2_with fail
  clear Y_0 Y_1 Y_2 Y_3 Y_l Z_0 Z_1 Z_2 Z_3 Z_l
  refine (H10 _).out.mono ?_
  rintro e w10 ⟨rfl, hw10⟩
  have kw10 := hw10.kp
  replace Y := C4.kp (by repeat with_reducible first | exact Y | apply C4.alloc | apply C4.drew | apply C4.drewN) kw10
  replace Z := C4.kp (by repeat with_reducible first | exact Z | apply C4.alloc | apply C4.drew | apply C4.drewN) kw10
  replace hg := Lib.hid (GrewS.trans (by repeat with_reducible first | exact hg.out | apply GrewS.alloc | apply GrewS.drew | apply GrewS.drewN) hw10)
  clear kw10 hw10
  have Y_0 := Y.c0
  have Y_1 := Y.c1
  have Y_2 := Y.c2
  have Y_3 := Y.c3
  have Y_l := Y.lt
  have Z_0 := Z.c0
  have Z_1 := Z.c1
  have Z_2 := Z.c2
  have Z_3 := Z.c3
  have Z_l := Z.lt
  clear H10
  go_wp2_with fail
  go_ret
  refine ⟨by first | (simp; done) | (simp; omega), ?_⟩
  repeat with_reducible first | exact hg.out | apply GrewS.drewN | apply GrewS.drew | apply GrewS.alloc

set_option maxHeartbeats 400000 in
theorem walk17 {v r w f y ry wy z rz wz : Int} {by' bz : Bool} (W : World) (b : EB v r w) (hy : EB y ry wy) (hz : EB z rz wz) (f0 : 0 ≤ f) (f1 : f ≤ 18446744073709551615) :
    Calls Try.prog 17 #[ent v r w, rel by' y ry wy, rel bz z rz wz, .int .u64 f] W fun e w' => e = .returned (.bool true) ∧ GrewS W w' := by
  have H1 := fun W => Lib.hid (one_any (by' := by') (bz := bz) W b hy hz f0 f1)
  have H2 := fun W => Lib.hid (awakeM_any W)
  clear b hy hz f0 f1
  go_enter Try.func17, Try.ntmps17
  go_wp2_with fail
  refine (H1 _).out.mono ?_
  rintro e w1 ⟨rfl, hg1⟩
  go_wp2_with fail
  refine (H2 _).out.mono ?_
  rintro e w2 ⟨rfl, hg2⟩
  go_wp2_with fail
  go_ret
  exact ⟨rfl, (((((GrewS.refl W).alloc _).alloc _).alloc _).trans hg1).trans hg2⟩

theorem law17 {v r w y ry wy z rz wz : Int} {by' bz : Bool} {W : World} (b : EB v r w) (hy : EB y ry wy) (hz : EB z rz wz) (f : Int) (wf : (Lit.int .u64 f).wf = true) :
    Calls Try.prog 17 #[ent v r w, rel by' y ry wy, rel bz z rz wz, .int .u64 f] W fun e w' => e = .returned (.bool true) ∧ Kp W.heap.size W w' :=
  (walk17 W b hy hz (bounds_u64 wf).1 (bounds_u64 wf).2).mono fun _ _ ⟨he, hw⟩ => ⟨he, hw.kp⟩
end Go.Proofs.Ytmlapjaccmoleaa
