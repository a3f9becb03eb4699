/-
  The contract of layer 23's 'tells': it returns true.
-/
import Derived.Test.YtmlapjaccmoleaaAwakeP
import Derived.OpenShut
namespace Go.Proofs.Ytmlapjaccmoleaa
open Go.RowKit

set_option maxRecDepth 100000 in
set_option maxHeartbeats 1000000 in
theorem tellsP_any {v r w a b m : Int} (W : World) (hE : EB v r w) (a0 : 0 ≤ a) (a1 : a ≤ 18446744073709551615) (b0 : 0 ≤ b) (b1 : b ≤ 18446744073709551615) :
    Calls Try.prog 21 #[ent v r w, .int .u64 a, .int .u64 b, .int .i64 m] W fun e w' => e = .returned (.bool true) ∧ GrewS W w' := by
  have H1 := fun W => Lib.hid (new_any (f := a) (w := m) W a0 a1)
  have H2 := fun W => Lib.hid (refNew_any (f := a) (w := m) W)
  have H3 := fun W => Lib.hid (woken_any W hE a0 a1 b0 b1)
  have H4 := fun W => Lib.hid (refWoken_any W hE a0 a1 b0 b1)
  have H5 := fun W => Lib.hid (moved_any W hE a0 a1 b0 b1)
  have H6 := fun W => Lib.hid (refMoved_any W hE a0 a1 b0 b1)
  have H7 := fun W => Lib.hid (ahead_any W hE a0 a1)
  have H8 := fun W => Lib.hid (refAhead_any W hE a0 a1)
  have H9 := fun W => Lib.hid (gain_any W hE a0 a1 b0 b1)
  have H10 := fun W => Lib.hid (refGain_any W hE a0 a1 b0 b1)
  have hn : nwN m = 2 ∨ nwN m = 3 := by unfold nwN; split <;> simp
  clear hE a0 a1 b0 b1
  generalize nwN m = n at *
  generalize iff (weB m) a = n1 at *
  generalize iff (weB m) m = n2 at *
  generalize weE m = n3 at *
  generalize iff (rightB v r w) (wkV v a b) = n4 at *
  generalize iff (rightB v r w) (wkR v r a b) = n5 at *
  generalize iff (rightB v r w) w = n6 at *
  generalize xE v r w = n7 at *
  generalize iff (rightB v r w) (mvV v a b) = n8 at *
  generalize iff (rightB v r w) (mvR v r a b) = n9 at *
  generalize iff (rightB v r w) (ahV v a) = n10 at *
  generalize andB (rightB v r w) (ahB v a) = n11 at *
  generalize iff (rightB v r w) (wkV v a b - v) = n12 at *
  rcases hn with rfl | rfl
  all_goals
    go_enter Try.func21, Try.ntmps21
    go_wp2_with fail
    refine ((H1 _).out).mono ?_
    rintro e w' ⟨rfl, os1, k1, hl1, rfl⟩
    go_wp2_with fail
    refine ((H2 _).out).mono ?_
    rintro e w' ⟨rfl, os2, k2, hl2, rfl⟩
    go_wp2_with fail
    refine ((H3 _).out).mono ?_
    rintro e w' ⟨rfl, os3, k3, hl3, rfl⟩
    go_wp2_with fail
    refine ((H4 _).out).mono ?_
    rintro e w' ⟨rfl, os4, k4, hl4, rfl⟩
    go_wp2_with fail
    refine ((H5 _).out).mono ?_
    rintro e w' ⟨rfl, os5, k5, hl5, rfl⟩
    go_wp2_with fail
    refine ((H6 _).out).mono ?_
    rintro e w' ⟨rfl, os6, k6, hl6, rfl⟩
    go_wp2_with fail
    refine ((H7 _).out).mono ?_
    rintro e w' ⟨rfl, os7, k7, hl7, rfl⟩
    go_wp2_with fail
    refine ((H8 _).out).mono ?_
    rintro e w' ⟨rfl, os8, k8, hl8, rfl⟩
    go_wp2_with fail
    refine ((H9 _).out).mono ?_
    rintro e w' ⟨rfl, os9, k9, hl9, rfl⟩
    go_wp2_with fail
    refine ((H10 _).out).mono ?_
    rintro e w' ⟨rfl, os10, k10, hl10, rfl⟩
    go_wp2_with fail
    go_ret
    refine ⟨rfl, ?_⟩
    repeat first | exact GrewS.refl _ | apply GrewS.drewN | apply GrewS.more | apply GrewS.alloc

set_option maxHeartbeats 1000000 in
theorem walk3 {v r w a b m : Int} (W : World) (hE : EB v r w) (a0 : 0 ≤ a) (a1 : a ≤ 18446744073709551615) (b0 : 0 ≤ b) (b1 : b ≤ 18446744073709551615) :
    Calls Try.prog 3 #[ent v r w, .int .u64 a, .int .u64 b, .int .i64 m] W fun e w' => e = .returned (.bool true) ∧ GrewS W w' := by
  have H1 := fun W => Lib.hid (tellsP_any (m := m) W hE a0 a1 b0 b1)
  have H2 := fun W => Lib.hid (awakeP_any W)
  go_enter Try.func3, Try.ntmps3
  go_wp2_with fail
  refine ((H1 _).out).mono ?_
  rintro e w1 ⟨rfl, hg1⟩
  have hg1 := Lib.hid hg1
  go_wp2_with fail
  refine ((H2 _).out).mono ?_
  rintro e w2 ⟨rfl, hg2⟩
  have hg2 := Lib.hid hg2
  go_wp2_with fail
  go_ret
  refine ⟨rfl, GrewS.trans (GrewS.trans ?_ hg1.out) hg2.out⟩
  repeat first | exact GrewS.refl _ | apply GrewS.drewN | apply GrewS.more | apply GrewS.alloc

theorem law3 {v r w : Int} {W : World} (hE : EB v r w) (a : Int) (wa : (Lit.int .u64 a).wf = true) (b : Int) (wb : (Lit.int .u64 b).wf = true) (m : Int) (_ : (Lit.int .i64 m).wf = true) :
    Calls Try.prog 3 #[ent v r w, .int .u64 a, .int .u64 b, .int .i64 m] W fun e w' => e = .returned (.bool true) ∧ Kp W.heap.size W w' :=
  (walk3 W hE (bounds_u64 wa).1 (bounds_u64 wa).2 (bounds_u64 wb).1 (bounds_u64 wb).2).mono fun _ _ ⟨he, hw⟩ => ⟨he, hw.kp⟩
end Go.Proofs.Ytmlapjaccmoleaa
