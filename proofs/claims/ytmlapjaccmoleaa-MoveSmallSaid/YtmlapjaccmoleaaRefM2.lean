/-
  The reference's On, Compare and Reach of layer 26.
-/
import Derived.Test.YtmlapjaccmoleaaRefM
namespace Go.Proofs.Ytmlapjaccmoleaa
open Go.RowKit


set_option maxHeartbeats 1000000 in
theorem refOn_1 {y r w f : Int} (W : World) (hb : EB y r w) (_f0 : 0 ≤ f) (_f1 : f ≤ 18446744073709551615) (h : relB true y r w = true) (hc : f < y) :
    Calls Try.prog 69 #[rel true y r w, .int .u64 f] W fun e w' => e = .returned (.tuple #[ent (0) r w, .int .i64 0]) ∧ GrewS W w' := by
  have H := fun W => Lib.hid (refRel_t W hb h)
  have y0 := hb.v0
  have y1 := hb.v1
  have g1 := decide_eq_true hc
  clear h hb
  go_enter Try.func69, Try.ntmps69
  go_wp2_with fail
  refine (H _).out.mono ?_
  rintro e w0 ⟨rfl, hg0⟩
  have k0 := hg0.kp
  have X := C4.kp ((C4.new W _ _ _ _ _).alloc _) k0
  have R : C3 w0 (W.heap.size + 1) (.int .u64 0) (.int .u32 0) (.int .u32 0) := by simpa using C3.kp (C3.new (W.alloc _) _ _ _ _) k0
  have F : Fz w0 (W.heap.size + 1) := by simpa using Fz.kp (Fz.new (W.alloc _) _ _) k0
  have hg := Lib.hid ((((GrewS.refl W).alloc _).alloc _).trans hg0)
  have X0 := X.c0
  have X1 := X.c1
  have X2 := X.c2
  have X3 := X.c3
  have X4 := X.lt
  have R0 := R.c0
  have R1 := R.c1
  have R2 := R.c2
  have R3 := R.lt
  have F2 := F.2
  clear X R F k0 hg0
  go_wp2_with fail
  exact bodyPost_ret (v := .tuple #[ent (0) r w, .int .i64 0]) (by simp [results, Try.results69, go_sem, R0, R1, R2, R3]) rfl ⟨rfl, by
    repeat with_reducible first | exact hg.out | apply GrewS.alloc | (refine GrewS.setCell ?_ (by first | (simp; done) | (simp; omega)) _)⟩

set_option maxHeartbeats 1000000 in
theorem refOn_2 {y r w f : Int} (W : World) (hb : EB y r w) (f0 : 0 ≤ f) (f1 : f ≤ 18446744073709551615) (h : relB true y r w = true) (hc : y ≤ f) :
    Calls Try.prog 69 #[rel true y r w, .int .u64 f] W fun e w' => e = .returned (.tuple #[ent (f - y) r w, .int .i64 0]) ∧ GrewS W w' := by
  have H := fun W => Lib.hid (refRel_t W hb h)
  have y0 := hb.v0
  have y1 := hb.v1
  have g1 := decide_eq_false (show ¬ f < y by omega)
  clear h hb
  go_enter Try.func69, Try.ntmps69
  go_wp2_with fail
  refine (H _).out.mono ?_
  rintro e w0 ⟨rfl, hg0⟩
  have k0 := hg0.kp
  have X := C4.kp ((C4.new W _ _ _ _ _).alloc _) k0
  have R : C3 w0 (W.heap.size + 1) (.int .u64 0) (.int .u32 0) (.int .u32 0) := by simpa using C3.kp (C3.new (W.alloc _) _ _ _ _) k0
  have F : Fz w0 (W.heap.size + 1) := by simpa using Fz.kp (Fz.new (W.alloc _) _ _) k0
  have hg := Lib.hid ((((GrewS.refl W).alloc _).alloc _).trans hg0)
  have X0 := X.c0
  have X1 := X.c1
  have X2 := X.c2
  have X3 := X.c3
  have X4 := X.lt
  have R0 := R.c0
  have R1 := R.c1
  have R2 := R.c2
  have R3 := R.lt
  have F2 := F.2
  clear X R F k0 hg0
  go_wp2_with fail
  exact bodyPost_ret (v := .tuple #[ent (f - y) r w, .int .i64 0]) (by simp [results, Try.results69, go_sem, R0, R1, R2, R3]) rfl ⟨rfl, by
    repeat with_reducible first | exact hg.out | apply GrewS.alloc | (refine GrewS.setCell ?_ (by first | (simp; done) | (simp; omega)) _)⟩

set_option maxHeartbeats 1000000 in
theorem refOn_3 {y r w f : Int} (W : World) (hb : EB y r w) (f0 : 0 ≤ f) (f1 : f ≤ 18446744073709551615) (h : relB false y r w = true) (hc : f + y < 18446744073709551615) :
    Calls Try.prog 69 #[rel false y r w, .int .u64 f] W fun e w' => e = .returned (.tuple #[ent (f + y) r w, .int .i64 0]) ∧ GrewS W w' := by
  have H := fun W => Lib.hid (refRel_t W hb h)
  have y0 := hb.v0
  have y1 := hb.v1
  have g1 := decide_eq_false (show ¬ f + y < f by omega)
  have g2 : (f + y == 18446744073709551615) = false := beq_eq_false_iff_ne.2 (by omega)
  clear h hb
  go_enter Try.func69, Try.ntmps69
  go_wp2_with fail
  refine (H _).out.mono ?_
  rintro e w0 ⟨rfl, hg0⟩
  have k0 := hg0.kp
  have X := C4.kp ((C4.new W _ _ _ _ _).alloc _) k0
  have R : C3 w0 (W.heap.size + 1) (.int .u64 0) (.int .u32 0) (.int .u32 0) := by simpa using C3.kp (C3.new (W.alloc _) _ _ _ _) k0
  have F : Fz w0 (W.heap.size + 1) := by simpa using Fz.kp (Fz.new (W.alloc _) _ _) k0
  have hg := Lib.hid ((((GrewS.refl W).alloc _).alloc _).trans hg0)
  have X0 := X.c0
  have X1 := X.c1
  have X2 := X.c2
  have X3 := X.c3
  have X4 := X.lt
  have R0 := R.c0
  have R1 := R.c1
  have R2 := R.c2
  have R3 := R.lt
  have F2 := F.2
  clear X R F k0 hg0
  go_wp2_with fail
  exact bodyPost_ret (v := .tuple #[ent (f + y) r w, .int .i64 0]) (by simp [results, Try.results69, go_sem, R0, R1, R2, R3]) rfl ⟨rfl, by
    repeat with_reducible first | exact hg.out | apply GrewS.alloc | (refine GrewS.setCell ?_ (by first | (simp; done) | (simp; omega)) _)⟩

set_option maxHeartbeats 1000000 in
theorem refOn_4 {y r w f : Int} (W : World) (hb : EB y r w) (_f0 : 0 ≤ f) (f1 : f ≤ 18446744073709551615) (h : relB false y r w = true) (hc : f + y = 18446744073709551615) :
    Calls Try.prog 69 #[rel false y r w, .int .u64 f] W fun e w' => e = .returned (.tuple #[ent (18446744073709551615) 0 w, .int .i64 0]) ∧ GrewS W w' := by
  have H := fun W => Lib.hid (refRel_t W hb h)
  have y0 := hb.v0
  have y1 := hb.v1
  clear h hb
  go_enter Try.func69, Try.ntmps69
  go_wp2_with fail
  refine (H _).out.mono ?_
  rintro e w0 ⟨rfl, hg0⟩
  have k0 := hg0.kp
  have X := C4.kp ((C4.new W _ _ _ _ _).alloc _) k0
  have R : C3 w0 (W.heap.size + 1) (.int .u64 0) (.int .u32 0) (.int .u32 0) := by simpa using C3.kp (C3.new (W.alloc _) _ _ _ _) k0
  have F : Fz w0 (W.heap.size + 1) := by simpa using Fz.kp (Fz.new (W.alloc _) _ _) k0
  have hg := Lib.hid ((((GrewS.refl W).alloc _).alloc _).trans hg0)
  have X0 := X.c0
  have X1 := X.c1
  have X2 := X.c2
  have X3 := X.c3
  have X4 := X.lt
  have R0 := R.c0
  have R1 := R.c1
  have R2 := R.c2
  have R3 := R.lt
  have F2 := F.2
  clear X R F k0 hg0
  go_wp2_with fail
  exact bodyPost_ret (v := .tuple #[ent (18446744073709551615) 0 w, .int .i64 0]) (by simp [results, Try.results69, go_sem, R0, R1, R2, R3]) rfl ⟨rfl, by
    repeat with_reducible first | exact hg.out | apply GrewS.alloc | (refine GrewS.setCell ?_ (by first | (simp; done) | (simp; omega)) _)⟩

set_option maxHeartbeats 1000000 in
theorem refOn_5 {y r w f : Int} (W : World) (hb : EB y r w) (f0 : 0 ≤ f) (f1 : f ≤ 18446744073709551615) (h : relB false y r w = true) (hc : 18446744073709551615 < f + y) :
    Calls Try.prog 69 #[rel false y r w, .int .u64 f] W fun e w' => e = .returned (.tuple #[ent (18446744073709551615) 0 w, .int .i64 0]) ∧ GrewS W w' := by
  have H := fun W => Lib.hid (refRel_t W hb h)
  have y0 := hb.v0
  have y1 := hb.v1
  have g1 : IntKind.u64.wrap (f + y) = f + y - 18446744073709551616 := by rw [IntKind.wrap_u64]; omega
  have g2 := decide_eq_true (show f + y - 18446744073709551616 < f by omega)
  clear h hb
  go_enter Try.func69, Try.ntmps69
  go_wp2_with fail
  refine (H _).out.mono ?_
  rintro e w0 ⟨rfl, hg0⟩
  have k0 := hg0.kp
  have X := C4.kp ((C4.new W _ _ _ _ _).alloc _) k0
  have R : C3 w0 (W.heap.size + 1) (.int .u64 0) (.int .u32 0) (.int .u32 0) := by simpa using C3.kp (C3.new (W.alloc _) _ _ _ _) k0
  have F : Fz w0 (W.heap.size + 1) := by simpa using Fz.kp (Fz.new (W.alloc _) _ _) k0
  have hg := Lib.hid ((((GrewS.refl W).alloc _).alloc _).trans hg0)
  have X0 := X.c0
  have X1 := X.c1
  have X2 := X.c2
  have X3 := X.c3
  have X4 := X.lt
  have R0 := R.c0
  have R1 := R.c1
  have R2 := R.c2
  have R3 := R.lt
  have F2 := F.2
  clear X R F k0 hg0
  go_wp2_with fail
  exact bodyPost_ret (v := .tuple #[ent (18446744073709551615) 0 w, .int .i64 0]) (by simp [results, Try.results69, go_sem, R0, R1, R2, R3]) rfl ⟨rfl, by
    repeat with_reducible first | exact hg.out | apply GrewS.alloc | (refine GrewS.setCell ?_ (by first | (simp; done) | (simp; omega)) _)⟩

theorem refOn_t {b : Bool} {y r w f : Int} (W : World) (hb : EB y r w) (f0 : 0 ≤ f) (f1 : f ≤ 18446744073709551615) (h : relB b y r w = true) :
    Calls Try.prog 69 #[rel b y r w, .int .u64 f] W fun e w' => e = .returned (.tuple #[ent (onV b y f) (onR b y r f) w, .int .i64 0]) ∧ GrewS W w' := by
  have y0 := hb.v0
  cases b
  · by_cases h1 : f + y < 18446744073709551615
    · have e : onV false y f = f + y := if_pos h1
      have e2 : onR false y r f = r := by unfold onR; rw [e]; split <;> omega
      rw [e, e2]
      exact refOn_3 W hb f0 f1 h h1
    · have e : onV false y f = 18446744073709551615 := if_neg h1
      have e2 : onR false y r f = 0 := by unfold onR; rw [e]; rfl
      rw [e, e2]
      by_cases h2 : f + y = 18446744073709551615
      · exact refOn_4 W hb f0 f1 h h2
      · exact refOn_5 W hb f0 f1 h (by omega)
  · have hp := (relB_of h).2 rfl
    by_cases h1 : f < y
    · have e : onV true y f = 0 := by unfold onV lessV; simp; omega
      have e2 : onR true y r f = r := by unfold onR; rw [e]; rfl
      rw [e, e2]
      exact refOn_1 W hb f0 f1 h h1
    · have e : onV true y f = f - y := by unfold onV lessV; simp; omega
      have e2 : onR true y r f = r := by unfold onR; rw [e]; split <;> omega
      rw [e, e2]
      exact refOn_2 W hb f0 f1 h (by omega)

theorem refOn_f {b : Bool} {y r w f : Int} (W : World) (hb : EB y r w) (h : relB b y r w = false) :
    Calls Try.prog 69 #[rel b y r w, .int .u64 f] W fun e w' => e = .returned (.tuple #[ent 0 0 0, .int .i64 2]) ∧ GrewS W w' := by
  have H := fun W => Lib.hid (refRel_f W hb h)
  clear h hb
  go_enter Try.func69, Try.ntmps69
  go_wp2_with fail
  refine (H _).out.mono ?_
  rintro e w0 ⟨rfl, hg0⟩
  have k0 := hg0.kp
  have R : C3 w0 (W.heap.size + 1) (.int .u64 0) (.int .u32 0) (.int .u32 0) := by simpa using C3.kp (C3.new (W.alloc _) _ _ _ _) k0
  have F : Fz w0 (W.heap.size + 1) := by simpa using Fz.kp (Fz.new (W.alloc _) _ _) k0
  have hg := Lib.hid ((((GrewS.refl W).alloc _).alloc _).trans hg0)
  have R0 := R.c0
  have R1 := R.c1
  have R2 := R.c2
  have F2 := F.2
  clear R F k0 hg0
  go_wp2_with fail
  exact bodyPost_ret (v := .tuple #[ent 0 0 0, .int .i64 2]) (by simp [results, Try.results69, go_sem, R0, R1, R2]) rfl ⟨rfl, by
    repeat with_reducible first | exact hg.out | apply GrewS.alloc | (refine GrewS.setCell ?_ (by first | (simp; done) | (simp; omega)) _)⟩

set_option maxHeartbeats 400000 in
theorem refReach_f {b : Bool} {y r w : Int} (W : World) (hb : EB y r w) (h : relB b y r w = false) :
    Calls Try.prog 72 #[rel b y r w] W fun e w' => e = .returned (.tuple #[.int .u64 0, .int .u64 0, .int .i64 2]) ∧ GrewS W w' := by
  have H := fun W => Lib.hid (refRel_f W hb h)
  clear h hb
  go_enter Try.func72, Try.ntmps72
  go_wp2_with fail
  refine (H _).out.mono ?_
  rintro e w0 ⟨rfl, hg0⟩
  go_wp2_with fail
  go_ret3
  exact ⟨rfl, ((GrewS.refl W).alloc _).trans hg0⟩

set_option maxHeartbeats 1000000 in
theorem refReach_1 {y r w : Int} (W : World) (hb : EB y r w) (h : relB true y r w = true) :
    Calls Try.prog 72 #[rel true y r w] W fun e w' => e = .returned (.tuple #[.int .u64 y, .int .u64 18446744073709551615, .int .i64 0]) ∧ GrewS W w' := by
  have H := fun W => Lib.hid (refRel_t W hb h)
  have y0 := hb.v0
  have y1 := hb.v1
  clear h hb
  go_enter Try.func72, Try.ntmps72
  go_wp2_with fail
  refine (H _).out.mono ?_
  rintro e w0 ⟨rfl, hg0⟩
  have X := C4.kp (C4.new W _ _ _ _ _) hg0.kp
  have hg := Lib.hid (((GrewS.refl W).alloc _).trans hg0)
  have X0 := X.c0
  have X1 := X.c1
  have X2 := X.c2
  have X3 := X.c3
  clear X hg0
  go_wp2_with fail
  go_ret3
  exact ⟨rfl, by repeat with_reducible first | exact hg.out | apply GrewS.drewN | apply GrewS.drew⟩

set_option maxHeartbeats 1000000 in
theorem refReach_2 {y r w : Int} (W : World) (hb : EB y r w) (h : relB false y r w = true) (hy : y ≠ 18446744073709551615) :
    Calls Try.prog 72 #[rel false y r w] W fun e w' => e = .returned (.tuple #[.int .u64 0, .int .u64 (18446744073709551614 - y), .int .i64 0]) ∧ GrewS W w' := by
  have H := fun W => Lib.hid (refRel_t W hb h)
  have y0 := hb.v0
  have y1 := hb.v1
  have g : (y == 18446744073709551615) = false := beq_eq_false_iff_ne.2 hy
  clear h hb
  go_enter Try.func72, Try.ntmps72
  go_wp2_with fail
  refine (H _).out.mono ?_
  rintro e w0 ⟨rfl, hg0⟩
  have X := C4.kp (C4.new W _ _ _ _ _) hg0.kp
  have hg := Lib.hid (((GrewS.refl W).alloc _).trans hg0)
  have X0 := X.c0
  have X1 := X.c1
  have X2 := X.c2
  have X3 := X.c3
  clear X hg0
  go_wp2_with fail
  go_quiet (fail)
  go_wp2_with fail
  go_ret3
  exact ⟨rfl, by repeat with_reducible first | exact hg.out | apply GrewS.drewN | apply GrewS.drew⟩

set_option maxHeartbeats 1000000 in
theorem refReach_3 {y r w : Int} (W : World) (hb : EB y r w) (h : relB false y r w = true) (hy : y = 18446744073709551615) :
    Calls Try.prog 72 #[rel false y r w] W fun e w' => e = .returned (.tuple #[.int .u64 0, .int .u64 0, .int .i64 6]) ∧ GrewS W w' := by
  have H := fun W => Lib.hid (refRel_t W hb h)
  have y0 := hb.v0
  have y1 := hb.v1
  subst hy
  clear h hb
  go_enter Try.func72, Try.ntmps72
  go_wp2_with fail
  refine (H _).out.mono ?_
  rintro e w0 ⟨rfl, hg0⟩
  have X := C4.kp (C4.new W _ _ _ _ _) hg0.kp
  have hg := Lib.hid (((GrewS.refl W).alloc _).trans hg0)
  have X0 := X.c0
  have X1 := X.c1
  have X2 := X.c2
  have X3 := X.c3
  clear X hg0
  go_wp2_with fail
  go_ret3
  exact ⟨rfl, by repeat with_reducible first | exact hg.out | apply GrewS.drewN | apply GrewS.drew⟩

theorem refReach_t {b : Bool} {y r w : Int} (W : World) (hb : EB y r w) (h : relB b y r w = true) (hy : b = true ∨ y ≠ 18446744073709551615) :
    Calls Try.prog 72 #[rel b y r w] W fun e w' => e = .returned (.tuple #[.int .u64 (lowV b y), .int .u64 (highV b y), .int .i64 0]) ∧ GrewS W w' := by
  cases b
  · rcases hy with hy | hy
    · cases hy
    · have e : highV false y = 18446744073709551614 - y := by unfold highV; simp; omega
      rw [e]
      exact refReach_2 W hb h hy
  · exact refReach_1 W hb h
end Go.Proofs.Ytmlapjaccmoleaa
