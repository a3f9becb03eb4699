/-
  The contracts of move's Reach and Compare.
-/
import Derived.Test.YtmlapjaccmoleaaMoveOn
namespace Go.Proofs.Ytmlapjaccmoleaa
open Go.RowKit

def lowV (b : Bool) (y : Int) : Int := if b then y else 0
def highV (b : Bool) (y : Int) : Int := if b then 18446744073709551615 else 18446744073709551615 - y - 1

theorem relRight_t {b : Bool} {y r w : Int} (W : World) (hb : EB y r w) (h : relB b y r w = true) : Calls Try.prog 41 #[rel b y r w] W fun e w' => e = .returned (.bool true) ∧ GrewS W w' := by
  have H := relRight_any (b := b) W hb
  rwa [h] at H
theorem relRight_f {b : Bool} {y r w : Int} (W : World) (hb : EB y r w) (h : relB b y r w = false) : Calls Try.prog 41 #[rel b y r w] W fun e w' => e = .returned (.bool false) ∧ GrewS W w' := by
  have H := relRight_any (b := b) W hb
  rwa [h] at H

set_option maxHeartbeats 400000 in
theorem reach_f {b : Bool} {y r w : Int} (W : World) (hb : EB y r w) (h : relB b y r w = false) :
    Calls Try.prog 38 #[rel b y r w] W fun e w' => e = .returned (.tuple #[.int .u64 0, .int .u64 0, .int .i64 2]) ∧ GrewS W w' := by
  have H := fun W => Lib.hid (relRight_f W hb h)
  clear h hb
  go_enter Try.func38, Try.ntmps38
  go_wp2_with fail
  refine (H _).out.mono ?_
  rintro e w0 ⟨rfl, hg0⟩
  go_wp2_with fail
  go_ret3
  exact ⟨rfl, ((GrewS.refl W).alloc _).trans hg0⟩

set_option maxRecDepth 100000 in
set_option maxHeartbeats 1000000 in
theorem reach_1 {y r w : Int} (W : World) (hb : EB y r w) (h : relB true y r w = true) :
    Calls Try.prog 38 #[rel true y r w] W fun e w' => e = .returned (.tuple #[.int .u64 y, .int .u64 18446744073709551615, .int .i64 0]) ∧ GrewS W w' := by
  have H := fun W => Lib.hid (relRight_t W hb h)
  have HW' := fun W => way_any (b := true) (y := y) (r := r) (w := w) W
  simp only [wayV, if_true] at HW'
  have HW := fun W => Lib.hid (HW' W)
  have F0 := fun w => field1 79 80 w
  have HM := fun W => Lib.hid (way2_any (y := y) W)
  clear HW' h hb
  go_enter Try.func38, Try.ntmps38
  go_wp2_with fail
  refine (H _).out.mono ?_
  rintro e w0 ⟨rfl, hg0⟩
  have X := C4.kp (C4.new W _ _ _ _ _) hg0.kp
  replace hg0 := Lib.hid (((GrewS.refl W).alloc _).trans hg0)
  have X0 := X.c0
  have X1 := X.c1
  have X2 := X.c2
  have X3 := X.c3
  have X4 := X.lt
  go_wp2_with fail
  go_region_held3 (fun w' => w'.cell? ⟨W.heap.size, 0, none⟩ = some (.bool true) ∧ w'.cell? ⟨W.heap.size, 1, none⟩ = some (.int .u64 y) ∧ w'.cell? ⟨W.heap.size, 2, none⟩ = some (.int .u32 r) ∧ w'.cell? ⟨W.heap.size, 3, none⟩ = some (.int .u32 w))
    (first | exact ⟨X0, X1, X2, X3⟩ | (have k1 := hg1.kp; exact ⟨(X.drew.kp k1).c0, (X.drew.kp k1).c1, (X.drew.kp k1).c2, (X.drew.kp k1).c3⟩))
    (first | (go_at_call 63; refine (HW _).out.mono ?_; rintro e w1 ⟨rfl, hg1⟩) | (refine (HM _).out.mono ?_; rintro e w' ⟨rfl, rfl⟩))
  all_goals
    go_wp2_with fail
    go_ret3
    exact ⟨rfl, (hg0.out.drew).trans hg1.s⟩

set_option maxRecDepth 100000 in
set_option maxHeartbeats 1000000 in
theorem reach_2 {y r w : Int} (W : World) (hb : EB y r w) (h : relB false y r w = true) (y1 : y < 18446744073709551615) :
    Calls Try.prog 38 #[rel false y r w] W fun e w' => e = .returned (.tuple #[.int .u64 0, .int .u64 (18446744073709551615 - y - 1), .int .i64 0]) ∧ GrewS W w' := by
  have H := fun W => Lib.hid (relRight_t W hb h)
  have HW' := fun W => way_any (b := false) (y := y) (r := r) (w := w) W
  simp only [wayV, Bool.false_eq_true, if_false] at HW'
  have HW := fun W => Lib.hid (HW' W)
  have F0 := fun w => field1 81 82 w
  have HM := fun W => Lib.hid (way4_t (y := y) W hb.v0 y1)
  clear HW' h hb y1
  go_enter Try.func38, Try.ntmps38
  go_wp2_with fail
  refine (H _).out.mono ?_
  rintro e w0 ⟨rfl, hg0⟩
  have X := C4.kp (C4.new W _ _ _ _ _) hg0.kp
  replace hg0 := Lib.hid (((GrewS.refl W).alloc _).trans hg0)
  have X0 := X.c0
  have X1 := X.c1
  have X2 := X.c2
  have X3 := X.c3
  have X4 := X.lt
  go_wp2_with fail
  go_region_held3 (fun w' => w'.cell? ⟨W.heap.size, 0, none⟩ = some (.bool false) ∧ w'.cell? ⟨W.heap.size, 1, none⟩ = some (.int .u64 y) ∧ w'.cell? ⟨W.heap.size, 2, none⟩ = some (.int .u32 r) ∧ w'.cell? ⟨W.heap.size, 3, none⟩ = some (.int .u32 w))
    (first | exact ⟨X0, X1, X2, X3⟩ | (have k1 := hg1.kp; exact ⟨(X.drew.kp k1).c0, (X.drew.kp k1).c1, (X.drew.kp k1).c2, (X.drew.kp k1).c3⟩))
    (first | (go_at_call 63; refine (HW _).out.mono ?_; rintro e w1 ⟨rfl, hg1⟩) | (refine (HM _).out.mono ?_; rintro e w' ⟨rfl, rfl⟩))
  all_goals
    go_wp2_with fail
    go_ret3
    exact ⟨rfl, (hg0.out.drew).trans hg1.s⟩

set_option maxRecDepth 100000 in
set_option maxHeartbeats 1000000 in
theorem reach_3 {r w : Int} (W : World) (hb : EB 18446744073709551615 r w) (h : relB false 18446744073709551615 r w = true) :
    Calls Try.prog 38 #[rel false 18446744073709551615 r w] W fun e w' => e = .returned (.tuple #[.int .u64 0, .int .u64 0, .int .i64 6]) ∧ GrewS W w' := by
  have H := fun W => Lib.hid (relRight_t W hb h)
  have HW' := fun W => way_any (b := false) (y := 18446744073709551615) (r := r) (w := w) W
  simp only [wayV, Bool.false_eq_true, if_false] at HW'
  have HW := fun W => Lib.hid (HW' W)
  have F0 := fun w => field1 81 82 w
  have HM := fun W => Lib.hid (way4_f W)
  clear HW' h hb
  go_enter Try.func38, Try.ntmps38
  go_wp2_with fail
  refine (H _).out.mono ?_
  rintro e w0 ⟨rfl, hg0⟩
  have X := C4.kp (C4.new W _ _ _ _ _) hg0.kp
  replace hg0 := Lib.hid (((GrewS.refl W).alloc _).trans hg0)
  have X0 := X.c0
  have X1 := X.c1
  have X2 := X.c2
  have X3 := X.c3
  have X4 := X.lt
  go_wp2_with fail
  go_region_held3 (fun w' => w'.cell? ⟨W.heap.size, 0, none⟩ = some (.bool false) ∧ w'.cell? ⟨W.heap.size, 1, none⟩ = some (.int .u64 18446744073709551615) ∧ w'.cell? ⟨W.heap.size, 2, none⟩ = some (.int .u32 r) ∧ w'.cell? ⟨W.heap.size, 3, none⟩ = some (.int .u32 w))
    (first | exact ⟨X0, X1, X2, X3⟩ | (have k1 := hg1.kp; exact ⟨(X.drew.kp k1).c0, (X.drew.kp k1).c1, (X.drew.kp k1).c2, (X.drew.kp k1).c3⟩))
    (first | (go_at_call 63; refine (HW _).out.mono ?_; rintro e w1 ⟨rfl, hg1⟩) | (refine (HM _).out.mono ?_; rintro e w' ⟨rfl, rfl⟩))
  all_goals
    go_wp2_with fail
    go_ret3
    exact ⟨rfl, (hg0.out.drew).trans hg1.s⟩

theorem reach_t {b : Bool} {y r w : Int} (W : World) (hb : EB y r w) (h : relB b y r w = true) (hy : b = true ∨ y ≠ 18446744073709551615) :
    Calls Try.prog 38 #[rel b y r w] W fun e w' => e = .returned (.tuple #[.int .u64 (lowV b y), .int .u64 (highV b y), .int .i64 0]) ∧ GrewS W w' := by
  cases b
  · rcases hy with hy | hy
    · cases hy
    · exact reach_2 W hb h (by have := hb.v1; omega)
  · exact reach_1 W hb h
theorem reach_n {b : Bool} {y r w : Int} (W : World) (hb : EB y r w) (h : relB b y r w = true) (hy : b = false) (hy2 : y = 18446744073709551615) :
    Calls Try.prog 38 #[rel b y r w] W fun e w' => e = .returned (.tuple #[.int .u64 0, .int .u64 0, .int .i64 6]) ∧ GrewS W w' := by
  subst hy hy2
  exact reach_3 W hb h

/-- Compare: of what is not right. -/
theorem cmp_f {b b' : Bool} {y r w y' r' w' : Int} (W : World) (hb : EB y r w) (hb' : EB y' r' w') (h : relB b y r w = false ∨ relB b' y' r' w' = false) :
    Calls Try.prog 45 #[rel b y r w, rel b' y' r' w'] W fun e w1 => e = .returned (.tuple #[.int .i64 0, .int .i64 2]) ∧ GrewS W w1 := by
  cases h1 : relB b y r w with
  | false =>
    have H := fun W => Lib.hid (relRight_f W hb h1)
    clear h h1 hb hb'
    go_enter Try.func45, Try.ntmps45
    go_wp2_with fail
    refine (H _).out.mono ?_
    rintro e w0 ⟨rfl, hg0⟩
    go_wp2_with fail
    go_ret2
    exact ⟨rfl, (((GrewS.refl W).alloc _).alloc _).trans hg0⟩
  | true =>
    have h2 : relB b' y' r' w' = false := by
      rcases h with h | h
      · rw [h1] at h; cases h
      · exact h
    have H := fun W => Lib.hid (relRight_t W hb h1)
    have H2 := fun W => Lib.hid (relRight_f W hb' h2)
    clear h h1 h2 hb hb'
    go_enter Try.func45, Try.ntmps45
    go_wp2_with fail
    refine (H _).out.mono ?_
    rintro e w0 ⟨rfl, hg0⟩
    have Y : C4 w0 (W.heap.size + 1) (.bool b') (.int .u64 y') (.int .u32 r') (.int .u32 w') := by simpa using C4.kp (C4.new (W.alloc _) _ _ _ _ _) hg0.kp
    replace hg0 := Lib.hid ((((GrewS.refl W).alloc _).alloc _).trans hg0)
    have Y0 := Y.c0
    have Y1 := Y.c1
    have Y2 := Y.c2
    have Y3 := Y.c3
    go_wp2_with fail
    refine (H2 _).out.mono ?_
    rintro e w1 ⟨rfl, hg1⟩
    go_wp2_with fail
    go_ret2
    exact ⟨rfl, hg0.out.trans hg1⟩

set_option maxHeartbeats 1000000 in
theorem cmp_t {b b' : Bool} {y r w y' r' w' : Int} (W : World) (hb : EB y r w) (hb' : EB y' r' w') (h1 : relB b y r w = true) (h2 : relB b' y' r' w' = true) :
    Calls Try.prog 45 #[rel b y r w, rel b' y' r' w'] W fun e w1 => e = .returned (.tuple #[.int .i64 (cmV b y b' y'), .int .i64 0]) ∧ GrewS W w1 := by
  have H := fun W => Lib.hid (relRight_t W hb h1)
  have H2 := fun W => Lib.hid (relRight_t W hb' h2)
  clear h1 h2 hb hb'
  by_cases hs : b = b' ∧ y = y' ∧ r = r' ∧ w = w'
  · obtain ⟨rfl, rfl, rfl, rfl⟩ := hs
    have e0 : cmV b y b y = 0 := by cases b <;> simp [cmV, cmpI]
    rw [e0]
    clear e0
    go_enter Try.func45, Try.ntmps45
    go_wp2_with fail
    refine (H _).out.mono ?_
    rintro e w0 ⟨rfl, hg0⟩
    have X := C4.kp ((C4.new W (.bool b) (.int .u64 y) (.int .u32 r) (.int .u32 w) 56).alloc _) hg0.kp
    have Y : C4 w0 (W.heap.size + 1) (.bool b) (.int .u64 y) (.int .u32 r) (.int .u32 w) := by simpa using C4.kp (C4.new (W.alloc _) _ _ _ _ _) hg0.kp
    replace hg0 := Lib.hid ((((GrewS.refl W).alloc _).alloc _).trans hg0)
    have Y0 := Y.c0
    have Y1 := Y.c1
    have Y2 := Y.c2
    have Y3 := Y.c3
    go_wp2_with fail
    refine (H2 _).out.mono ?_
    rintro e w1 ⟨rfl, hg1⟩
    replace X := X.kp hg1.kp
    replace Y := Y.kp hg1.kp
    replace hg1 := Lib.hid (hg0.out.trans hg1)
    clear Y0 Y1 Y2 Y3 hg0
    have Y0 := Y.c0
    have Y1 := Y.c1
    have Y2 := Y.c2
    have Y3 := Y.c3
    have X0 := X.c0
    have X1 := X.c1
    have X2 := X.c2
    have X3 := X.c3
    go_wp2_with fail
    go_ret2
    exact ⟨rfl, hg1.out⟩
  · cases b <;> cases b'
    all_goals
      go_enter Try.func45, Try.ntmps45
      go_wp2_with fail
      refine (H _).out.mono ?_
      rintro e w0 ⟨rfl, hg0⟩
      have X := C4.kp ((C4.new W _ (.int .u64 y) (.int .u32 r) (.int .u32 w) 56).alloc _) hg0.kp
      have Y := C4.kp (C4.new (W.alloc _) _ _ _ _ _) hg0.kp
      rw [show ∀ o, (W.alloc o).heap.size = W.heap.size + 1 from fun o => by simp] at Y
      replace hg0 := Lib.hid ((((GrewS.refl W).alloc _).alloc _).trans hg0)
      have Y0 := Y.c0
      have Y1 := Y.c1
      have Y2 := Y.c2
      have Y3 := Y.c3
      go_wp2_with fail
      refine (H2 _).out.mono ?_
      rintro e w1 ⟨rfl, hg1⟩
      replace X := X.kp hg1.kp
      replace Y := Y.kp hg1.kp
      replace hg1 := Lib.hid (hg0.out.trans hg1)
      clear Y0 Y1 Y2 Y3 hg0
      have Y0 := Y.c0
      have Y1 := Y.c1
      have Y2 := Y.c2
      have Y3 := Y.c3
      have X0 := X.c0
      have X1 := X.c1
      have X2 := X.c2
      have X3 := X.c3
      go_wp2_with fail
      all_goals first
        | exact absurd ⟨by first | trivial | rfl, by assumption, by assumption, by assumption⟩ hs
        | (refine (compare_any _ _ _).mono ?_
           rintro e w' ⟨rfl, rfl⟩
           go_wp2_with fail
           go_ret2
           first
             | exact ⟨rfl, hg1.out⟩
             | exact ⟨ret2 (by simp [cmV, *]) rfl, hg1.out⟩)
        | (go_ret2
           exact ⟨rfl, hg1.out⟩)
end Go.Proofs.Ytmlapjaccmoleaa
