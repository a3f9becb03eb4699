/-
  The reference's Compare; what layer 26's 'one' compares; the law MoveTells, walked.
-/
import Derived.Test.YtmlapjaccmoleaaRefM2
namespace Go.Proofs.Ytmlapjaccmoleaa
open Go.RowKit

theorem refCmp_f {b b' : Bool} {y r w y' r' w' : Int} (W : World) (hb : EB y r w) (hb' : EB y' r' w') (h : relB b y r w = false ∨ relB b' y' r' w' = false) :
    Calls Try.prog 71 #[rel b y r w, rel b' y' r' w'] W fun e w1 => e = .returned (.tuple #[.int .i64 0, .int .i64 2]) ∧ GrewS W w1 := by
  cases h1 : relB b y r w with
  | false =>
    have H := fun W => Lib.hid (refRel_f W hb h1)
    clear h h1 hb hb'
    go_enter Try.func71, Try.ntmps71
    go_wp2_with fail
    refine (H _).out.mono ?_
    rintro e w0 ⟨rfl, hg0⟩
    go_wp2_with fail
    go_ret2
    exact ⟨rfl, (((GrewS.refl W).alloc _).alloc _).trans hg0⟩
  | true =>
    have h2 : relB b' y' r' w' = false := by
      rcases h with h | h
      · rw [h1] at h; cases h
      · exact h
    have H := fun W => Lib.hid (refRel_t W hb h1)
    have H2 := fun W => Lib.hid (refRel_f W hb' h2)
    clear h h1 h2 hb hb'
    go_enter Try.func71, Try.ntmps71
    go_wp2_with fail
    refine (H _).out.mono ?_
    rintro e w0 ⟨rfl, hg0⟩
    have X := C4.kp ((C4.new W _ (.int .u64 y) (.int .u32 r) (.int .u32 w) 102).alloc _) hg0.kp
    have Y := C4.kp (C4.new (W.alloc _) _ (.int .u64 y') (.int .u32 r') (.int .u32 w') 102) hg0.kp
    rw [show ∀ o, (W.alloc o).heap.size = W.heap.size + 1 from fun o => by simp] at Y
    replace hg0 := Lib.hid ((((GrewS.refl W).alloc _).alloc _).trans hg0)
    have X0 := X.c0
    have X1 := X.c1
    have X2 := X.c2
    have X3 := X.c3
    have Y0 := Y.c0
    have Y1 := Y.c1
    have Y2 := Y.c2
    have Y3 := Y.c3
    go_wp2_with fail
    refine (H2 _).out.mono ?_
    rintro e w1 ⟨rfl, hg1⟩
    go_wp2_with fail
    go_ret2
    exact ⟨rfl, hg0.out.trans hg1⟩


set_option maxHeartbeats 1000000 in
theorem refCmp_1 {y r w y' r' w' : Int} (W : World) (hb : EB y r w) (hb' : EB y' r' w') (h1 : relB true y r w = true) (h2 : relB false y' r' w' = true) :
    Calls Try.prog 71 #[rel true y r w, rel false y' r' w'] W fun e w1 => e = .returned (.tuple #[.int .i64 (-1), .int .i64 0]) ∧ GrewS W w1 := by
  have H := fun W => Lib.hid (refRel_t W hb h1)
  have H2 := fun W => Lib.hid (refRel_t W hb' h2)
  clear h1 h2 hb hb'
  go_enter Try.func71, Try.ntmps71
  go_wp2_with fail
  refine (H _).out.mono ?_
  rintro e w0 ⟨rfl, hg0⟩
  have X := C4.kp ((C4.new W _ (.int .u64 y) (.int .u32 r) (.int .u32 w) 102).alloc _) hg0.kp
  have Y := C4.kp (C4.new (W.alloc _) _ (.int .u64 y') (.int .u32 r') (.int .u32 w') 102) hg0.kp
  rw [show ∀ o, (W.alloc o).heap.size = W.heap.size + 1 from fun o => by simp] at Y
  replace hg0 := Lib.hid ((((GrewS.refl W).alloc _).alloc _).trans hg0)
  have X0 := X.c0
  have X1 := X.c1
  have X2 := X.c2
  have X3 := X.c3
  have Y0 := Y.c0
  have Y1 := Y.c1
  have Y2 := Y.c2
  have Y3 := Y.c3
  go_wp2_with fail
  refine (H2 _).out.mono ?_
  rintro e w1 ⟨rfl, hg1⟩
  replace X := X.kp hg1.kp
  replace Y := Y.kp hg1.kp
  replace hg1 := Lib.hid (hg0.out.trans hg1)
  clear X0 X1 X2 X3 Y0 Y1 Y2 Y3 hg0
  have Y0 := Y.c0
  have Y1 := Y.c1
  have Y2 := Y.c2
  have Y3 := Y.c3
  have X0 := X.c0
  have X1 := X.c1
  have X2 := X.c2
  have X3 := X.c3
  go_wp2_with fail
  go_ret2
  exact ⟨rfl, hg1.out⟩

set_option maxHeartbeats 1000000 in
theorem refCmp_2 {y r w y' r' w' : Int} (W : World) (hb : EB y r w) (hb' : EB y' r' w') (h1 : relB false y r w = true) (h2 : relB true y' r' w' = true) :
    Calls Try.prog 71 #[rel false y r w, rel true y' r' w'] W fun e w1 => e = .returned (.tuple #[.int .i64 1, .int .i64 0]) ∧ GrewS W w1 := by
  have H := fun W => Lib.hid (refRel_t W hb h1)
  have H2 := fun W => Lib.hid (refRel_t W hb' h2)
  clear h1 h2 hb hb'
  go_enter Try.func71, Try.ntmps71
  go_wp2_with fail
  refine (H _).out.mono ?_
  rintro e w0 ⟨rfl, hg0⟩
  have X := C4.kp ((C4.new W _ (.int .u64 y) (.int .u32 r) (.int .u32 w) 102).alloc _) hg0.kp
  have Y := C4.kp (C4.new (W.alloc _) _ (.int .u64 y') (.int .u32 r') (.int .u32 w') 102) hg0.kp
  rw [show ∀ o, (W.alloc o).heap.size = W.heap.size + 1 from fun o => by simp] at Y
  replace hg0 := Lib.hid ((((GrewS.refl W).alloc _).alloc _).trans hg0)
  have X0 := X.c0
  have X1 := X.c1
  have X2 := X.c2
  have X3 := X.c3
  have Y0 := Y.c0
  have Y1 := Y.c1
  have Y2 := Y.c2
  have Y3 := Y.c3
  go_wp2_with fail
  refine (H2 _).out.mono ?_
  rintro e w1 ⟨rfl, hg1⟩
  replace X := X.kp hg1.kp
  replace Y := Y.kp hg1.kp
  replace hg1 := Lib.hid (hg0.out.trans hg1)
  clear X0 X1 X2 X3 Y0 Y1 Y2 Y3 hg0
  have Y0 := Y.c0
  have Y1 := Y.c1
  have Y2 := Y.c2
  have Y3 := Y.c3
  have X0 := X.c0
  have X1 := X.c1
  have X2 := X.c2
  have X3 := X.c3
  go_wp2_with fail
  go_ret2
  exact ⟨rfl, hg1.out⟩

set_option maxHeartbeats 1000000 in
theorem refCmp_3 {y r w y' r' w' : Int} (W : World) (hb : EB y r w) (hb' : EB y' r' w') (h1 : relB true y r w = true) (h2 : relB true y' r' w' = true) (g2 : decide (y < y') = true) (g1 : (y == y') = false) :
    Calls Try.prog 71 #[rel true y r w, rel true y' r' w'] W fun e w1 => e = .returned (.tuple #[.int .i64 1, .int .i64 0]) ∧ GrewS W w1 := by
  have H := fun W => Lib.hid (refRel_t W hb h1)
  have H2 := fun W => Lib.hid (refRel_t W hb' h2)
  clear h1 h2 hb hb'
  go_enter Try.func71, Try.ntmps71
  go_wp2_with fail
  refine (H _).out.mono ?_
  rintro e w0 ⟨rfl, hg0⟩
  have X := C4.kp ((C4.new W _ (.int .u64 y) (.int .u32 r) (.int .u32 w) 102).alloc _) hg0.kp
  have Y := C4.kp (C4.new (W.alloc _) _ (.int .u64 y') (.int .u32 r') (.int .u32 w') 102) hg0.kp
  rw [show ∀ o, (W.alloc o).heap.size = W.heap.size + 1 from fun o => by simp] at Y
  replace hg0 := Lib.hid ((((GrewS.refl W).alloc _).alloc _).trans hg0)
  have X0 := X.c0
  have X1 := X.c1
  have X2 := X.c2
  have X3 := X.c3
  have Y0 := Y.c0
  have Y1 := Y.c1
  have Y2 := Y.c2
  have Y3 := Y.c3
  go_wp2_with fail
  refine (H2 _).out.mono ?_
  rintro e w1 ⟨rfl, hg1⟩
  replace X := X.kp hg1.kp
  replace Y := Y.kp hg1.kp
  replace hg1 := Lib.hid (hg0.out.trans hg1)
  clear X0 X1 X2 X3 Y0 Y1 Y2 Y3 hg0
  have Y0 := Y.c0
  have Y1 := Y.c1
  have Y2 := Y.c2
  have Y3 := Y.c3
  have X0 := X.c0
  have X1 := X.c1
  have X2 := X.c2
  have X3 := X.c3
  go_wp2_with fail
  go_ret2
  exact ⟨rfl, hg1.out⟩

set_option maxHeartbeats 1000000 in
theorem refCmp_4 {y r w r' w' : Int} (W : World) (hb : EB y r w) (hb' : EB y r' w') (h1 : relB true y r w = true) (h2 : relB true y r' w' = true) :
    Calls Try.prog 71 #[rel true y r w, rel true y r' w'] W fun e w1 => e = .returned (.tuple #[.int .i64 0, .int .i64 0]) ∧ GrewS W w1 := by
  have H := fun W => Lib.hid (refRel_t W hb h1)
  have H2 := fun W => Lib.hid (refRel_t W hb' h2)
  clear h1 h2 hb hb'
  go_enter Try.func71, Try.ntmps71
  go_wp2_with fail
  refine (H _).out.mono ?_
  rintro e w0 ⟨rfl, hg0⟩
  have X := C4.kp ((C4.new W _ (.int .u64 y) (.int .u32 r) (.int .u32 w) 102).alloc _) hg0.kp
  have Y := C4.kp (C4.new (W.alloc _) _ (.int .u64 y) (.int .u32 r') (.int .u32 w') 102) hg0.kp
  rw [show ∀ o, (W.alloc o).heap.size = W.heap.size + 1 from fun o => by simp] at Y
  replace hg0 := Lib.hid ((((GrewS.refl W).alloc _).alloc _).trans hg0)
  have X0 := X.c0
  have X1 := X.c1
  have X2 := X.c2
  have X3 := X.c3
  have Y0 := Y.c0
  have Y1 := Y.c1
  have Y2 := Y.c2
  have Y3 := Y.c3
  go_wp2_with fail
  refine (H2 _).out.mono ?_
  rintro e w1 ⟨rfl, hg1⟩
  replace X := X.kp hg1.kp
  replace Y := Y.kp hg1.kp
  replace hg1 := Lib.hid (hg0.out.trans hg1)
  clear X0 X1 X2 X3 Y0 Y1 Y2 Y3 hg0
  have Y0 := Y.c0
  have Y1 := Y.c1
  have Y2 := Y.c2
  have Y3 := Y.c3
  have X0 := X.c0
  have X1 := X.c1
  have X2 := X.c2
  have X3 := X.c3
  go_wp2_with fail
  go_ret2
  exact ⟨rfl, hg1.out⟩

set_option maxHeartbeats 1000000 in
theorem refCmp_5 {y r w y' r' w' : Int} (W : World) (hb : EB y r w) (hb' : EB y' r' w') (h1 : relB true y r w = true) (h2 : relB true y' r' w' = true) (g2 : decide (y < y') = false) (g1 : (y == y') = false) :
    Calls Try.prog 71 #[rel true y r w, rel true y' r' w'] W fun e w1 => e = .returned (.tuple #[.int .i64 (-1), .int .i64 0]) ∧ GrewS W w1 := by
  have H := fun W => Lib.hid (refRel_t W hb h1)
  have H2 := fun W => Lib.hid (refRel_t W hb' h2)
  clear h1 h2 hb hb'
  go_enter Try.func71, Try.ntmps71
  go_wp2_with fail
  refine (H _).out.mono ?_
  rintro e w0 ⟨rfl, hg0⟩
  have X := C4.kp ((C4.new W _ (.int .u64 y) (.int .u32 r) (.int .u32 w) 102).alloc _) hg0.kp
  have Y := C4.kp (C4.new (W.alloc _) _ (.int .u64 y') (.int .u32 r') (.int .u32 w') 102) hg0.kp
  rw [show ∀ o, (W.alloc o).heap.size = W.heap.size + 1 from fun o => by simp] at Y
  replace hg0 := Lib.hid ((((GrewS.refl W).alloc _).alloc _).trans hg0)
  have X0 := X.c0
  have X1 := X.c1
  have X2 := X.c2
  have X3 := X.c3
  have Y0 := Y.c0
  have Y1 := Y.c1
  have Y2 := Y.c2
  have Y3 := Y.c3
  go_wp2_with fail
  refine (H2 _).out.mono ?_
  rintro e w1 ⟨rfl, hg1⟩
  replace X := X.kp hg1.kp
  replace Y := Y.kp hg1.kp
  replace hg1 := Lib.hid (hg0.out.trans hg1)
  clear X0 X1 X2 X3 Y0 Y1 Y2 Y3 hg0
  have Y0 := Y.c0
  have Y1 := Y.c1
  have Y2 := Y.c2
  have Y3 := Y.c3
  have X0 := X.c0
  have X1 := X.c1
  have X2 := X.c2
  have X3 := X.c3
  go_wp2_with fail
  go_ret2
  exact ⟨rfl, hg1.out⟩

set_option maxHeartbeats 1000000 in
theorem refCmp_6 {y r w y' r' w' : Int} (W : World) (hb : EB y r w) (hb' : EB y' r' w') (h1 : relB false y r w = true) (h2 : relB false y' r' w' = true) (g2 : decide (y < y') = true) (g1 : (y == y') = false) :
    Calls Try.prog 71 #[rel false y r w, rel false y' r' w'] W fun e w1 => e = .returned (.tuple #[.int .i64 (-1), .int .i64 0]) ∧ GrewS W w1 := by
  have H := fun W => Lib.hid (refRel_t W hb h1)
  have H2 := fun W => Lib.hid (refRel_t W hb' h2)
  clear h1 h2 hb hb'
  go_enter Try.func71, Try.ntmps71
  go_wp2_with fail
  refine (H _).out.mono ?_
  rintro e w0 ⟨rfl, hg0⟩
  have X := C4.kp ((C4.new W _ (.int .u64 y) (.int .u32 r) (.int .u32 w) 102).alloc _) hg0.kp
  have Y := C4.kp (C4.new (W.alloc _) _ (.int .u64 y') (.int .u32 r') (.int .u32 w') 102) hg0.kp
  rw [show ∀ o, (W.alloc o).heap.size = W.heap.size + 1 from fun o => by simp] at Y
  replace hg0 := Lib.hid ((((GrewS.refl W).alloc _).alloc _).trans hg0)
  have X0 := X.c0
  have X1 := X.c1
  have X2 := X.c2
  have X3 := X.c3
  have Y0 := Y.c0
  have Y1 := Y.c1
  have Y2 := Y.c2
  have Y3 := Y.c3
  go_wp2_with fail
  refine (H2 _).out.mono ?_
  rintro e w1 ⟨rfl, hg1⟩
  replace X := X.kp hg1.kp
  replace Y := Y.kp hg1.kp
  replace hg1 := Lib.hid (hg0.out.trans hg1)
  clear X0 X1 X2 X3 Y0 Y1 Y2 Y3 hg0
  have Y0 := Y.c0
  have Y1 := Y.c1
  have Y2 := Y.c2
  have Y3 := Y.c3
  have X0 := X.c0
  have X1 := X.c1
  have X2 := X.c2
  have X3 := X.c3
  go_wp2_with fail
  go_ret2
  exact ⟨rfl, hg1.out⟩

set_option maxHeartbeats 1000000 in
theorem refCmp_7 {y r w r' w' : Int} (W : World) (hb : EB y r w) (hb' : EB y r' w') (h1 : relB false y r w = true) (h2 : relB false y r' w' = true) :
    Calls Try.prog 71 #[rel false y r w, rel false y r' w'] W fun e w1 => e = .returned (.tuple #[.int .i64 0, .int .i64 0]) ∧ GrewS W w1 := by
  have H := fun W => Lib.hid (refRel_t W hb h1)
  have H2 := fun W => Lib.hid (refRel_t W hb' h2)
  clear h1 h2 hb hb'
  go_enter Try.func71, Try.ntmps71
  go_wp2_with fail
  refine (H _).out.mono ?_
  rintro e w0 ⟨rfl, hg0⟩
  have X := C4.kp ((C4.new W _ (.int .u64 y) (.int .u32 r) (.int .u32 w) 102).alloc _) hg0.kp
  have Y := C4.kp (C4.new (W.alloc _) _ (.int .u64 y) (.int .u32 r') (.int .u32 w') 102) hg0.kp
  rw [show ∀ o, (W.alloc o).heap.size = W.heap.size + 1 from fun o => by simp] at Y
  replace hg0 := Lib.hid ((((GrewS.refl W).alloc _).alloc _).trans hg0)
  have X0 := X.c0
  have X1 := X.c1
  have X2 := X.c2
  have X3 := X.c3
  have Y0 := Y.c0
  have Y1 := Y.c1
  have Y2 := Y.c2
  have Y3 := Y.c3
  go_wp2_with fail
  refine (H2 _).out.mono ?_
  rintro e w1 ⟨rfl, hg1⟩
  replace X := X.kp hg1.kp
  replace Y := Y.kp hg1.kp
  replace hg1 := Lib.hid (hg0.out.trans hg1)
  clear X0 X1 X2 X3 Y0 Y1 Y2 Y3 hg0
  have Y0 := Y.c0
  have Y1 := Y.c1
  have Y2 := Y.c2
  have Y3 := Y.c3
  have X0 := X.c0
  have X1 := X.c1
  have X2 := X.c2
  have X3 := X.c3
  go_wp2_with fail
  go_ret2
  exact ⟨rfl, hg1.out⟩

set_option maxHeartbeats 1000000 in
theorem refCmp_8 {y r w y' r' w' : Int} (W : World) (hb : EB y r w) (hb' : EB y' r' w') (h1 : relB false y r w = true) (h2 : relB false y' r' w' = true) (g2 : decide (y < y') = false) (g1 : (y == y') = false) :
    Calls Try.prog 71 #[rel false y r w, rel false y' r' w'] W fun e w1 => e = .returned (.tuple #[.int .i64 1, .int .i64 0]) ∧ GrewS W w1 := by
  have H := fun W => Lib.hid (refRel_t W hb h1)
  have H2 := fun W => Lib.hid (refRel_t W hb' h2)
  clear h1 h2 hb hb'
  go_enter Try.func71, Try.ntmps71
  go_wp2_with fail
  refine (H _).out.mono ?_
  rintro e w0 ⟨rfl, hg0⟩
  have X := C4.kp ((C4.new W _ (.int .u64 y) (.int .u32 r) (.int .u32 w) 102).alloc _) hg0.kp
  have Y := C4.kp (C4.new (W.alloc _) _ (.int .u64 y') (.int .u32 r') (.int .u32 w') 102) hg0.kp
  rw [show ∀ o, (W.alloc o).heap.size = W.heap.size + 1 from fun o => by simp] at Y
  replace hg0 := Lib.hid ((((GrewS.refl W).alloc _).alloc _).trans hg0)
  have X0 := X.c0
  have X1 := X.c1
  have X2 := X.c2
  have X3 := X.c3
  have Y0 := Y.c0
  have Y1 := Y.c1
  have Y2 := Y.c2
  have Y3 := Y.c3
  go_wp2_with fail
  refine (H2 _).out.mono ?_
  rintro e w1 ⟨rfl, hg1⟩
  replace X := X.kp hg1.kp
  replace Y := Y.kp hg1.kp
  replace hg1 := Lib.hid (hg0.out.trans hg1)
  clear X0 X1 X2 X3 Y0 Y1 Y2 Y3 hg0
  have Y0 := Y.c0
  have Y1 := Y.c1
  have Y2 := Y.c2
  have Y3 := Y.c3
  have X0 := X.c0
  have X1 := X.c1
  have X2 := X.c2
  have X3 := X.c3
  go_wp2_with fail
  go_ret2
  exact ⟨rfl, hg1.out⟩

theorem refCmp_t {b b' : Bool} {y r w y' r' w' : Int} (W : World) (hb : EB y r w) (hb' : EB y' r' w') (h1 : relB b y r w = true) (h2 : relB b' y' r' w' = true) :
    Calls Try.prog 71 #[rel b y r w, rel b' y' r' w'] W fun e w1 => e = .returned (.tuple #[.int .i64 (cmV b y b' y'), .int .i64 0]) ∧ GrewS W w1 := by
  rcases Int.lt_trichotomy y y' with h | h | h
  · have g2 := decide_eq_true h
    have g1 : (y == y') = false := beq_eq_false_iff_ne.2 (by omega)
    have e1 : cmpI y y' = -1 := by unfold cmpI; rw [if_pos h]
    have e2 : cmpI y' y = 1 := by unfold cmpI; rw [if_neg (by omega), if_pos h]
    cases b <;> cases b' <;> simp only [cmV, Bool.false_eq_true, if_true, if_false, e1, e2]
    · exact refCmp_6 W hb hb' h1 h2 g2 g1
    · exact refCmp_2 W hb hb' h1 h2
    · exact refCmp_1 W hb hb' h1 h2
    · exact refCmp_3 W hb hb' h1 h2 g2 g1
  · subst h
    have e1 : cmpI y y = 0 := by unfold cmpI; rw [if_neg (by omega), if_neg (by omega)]
    cases b <;> cases b' <;> simp only [cmV, Bool.false_eq_true, if_true, if_false, e1]
    · exact refCmp_7 W hb hb' h1 h2
    · exact refCmp_2 W hb hb' h1 h2
    · exact refCmp_1 W hb hb' h1 h2
    · exact refCmp_4 W hb hb' h1 h2
  · have g2 := decide_eq_false (show ¬ y < y' by omega)
    have g1 : (y == y') = false := beq_eq_false_iff_ne.2 (by omega)
    have e1 : cmpI y y' = 1 := by unfold cmpI; rw [if_neg (by omega), if_pos h]
    have e2 : cmpI y' y = -1 := by unfold cmpI; rw [if_pos h]
    cases b <;> cases b' <;> simp only [cmV, Bool.false_eq_true, if_true, if_false, e1, e2]
    · exact refCmp_8 W hb hb' h1 h2 g2 g1
    · exact refCmp_2 W hb hb' h1 h2
    · exact refCmp_1 W hb hb' h1 h2
    · exact refCmp_5 W hb hb' h1 h2 g2 g1

end Go.Proofs.Ytmlapjaccmoleaa
