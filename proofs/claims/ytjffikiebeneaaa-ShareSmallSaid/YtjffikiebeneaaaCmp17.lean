/-
  The contract of Compare.
-/
import Derived.Test.YtjffikiebeneaaaTimes17
namespace Go.Proofs.Ytjffikiebeneaaa
open Go.RowKit

theorem cmpc_any (a b : Int) (W : World) : Calls Try.prog 30 #[.int .i64 a, .int .i64 b] W fun e w' => e = .returned (.int .i64 (sgV a b)) ∧ W = w' := by
  by_cases h1 : a < b
  · rw [sgV_neg h1]
    go_enter Try.func30, Try.ntmps30
    go_wp2
    go_ret
    exact ⟨rfl, rfl⟩
  by_cases h2 : b < a
  · have g : decide (a < b) = false := decide_eq_false h1
    rw [sgV_pos h2]
    clear h1
    go_enter Try.func30, Try.ntmps30
    go_wp2
    go_ret
    exact ⟨rfl, rfl⟩
  · have g : a = b := by omega
    subst g
    rw [sgV_same]
    clear h1 h2
    go_enter Try.func30, Try.ntmps30
    go_wp2
    go_ret
    exact ⟨rfl, rfl⟩
theorem cm_bad {a b c d : Int} (h : okS a b c d = false) : cmE a b c d = 2 ∧ cmN a b c d = 0 := by
  unfold cmE cmN
  rw [h]
  exact ⟨rfl, rfl⟩
theorem cm_good {a b c d : Int} (h1 : rightS a b = true) (h2 : rightS c d = true) : cmE a b c d = 0 ∧ cmN a b c d = sgV (a * d) (c * b) := by
  unfold cmE cmN
  rw [okS_t h1 h2]
  exact ⟨rfl, rfl⟩
/-- What is known behind the two parameters' boxes. -/
structure B2 (W w : World) (a b c d : Int) : Prop where
  X : C2 w W.heap.size (.int .i64 a) (.int .i64 b)
  Y : C2 w (W.heap.size + 1) (.int .i64 c) (.int .i64 d)
  G : GrewS W w
theorem B2.new (W : World) (a b c d : Int) (t : TypeId) : B2 W ((W.alloc (.cells #[.int .i64 a, .int .i64 b] t)).alloc (.cells #[.int .i64 c, .int .i64 d] t)) a b c d := by
  refine ⟨(C2.new W _ _ t).alloc _, ?_, (((GrewS.refl W).alloc _).alloc _)⟩
  simpa using C2.new (W.alloc (.cells #[.int .i64 a, .int .i64 b] t)) (.int .i64 c) (.int .i64 d) t
theorem B2.grew {W w w' : World} {a b c d : Int} (h : B2 W w a b c d) (g : GrewS w w') : B2 W w' a b c d := ⟨h.X.kp g.kp, h.Y.kp g.kp, h.G.trans g⟩

set_option maxHeartbeats 1000000 in
theorem cmp_any (a b c d : Int) (W : World) :
    Calls Try.prog 19 #[shr a b, shr c d] W fun e w' => e = .returned (.tuple #[.int .i64 (cmN a b c d), .int .i64 (cmE a b c d)]) ∧ GrewS W w' := by
  cases h1 : rightS a b with
  | false =>
    obtain ⟨e1, e2⟩ := cm_bad (okS_f1 (c := c) (d := d) h1)
    rw [e1, e2]
    have H1 := fun W => Lib.hid (right_f W h1)
    clear h1 e1 e2
    go_enter Try.func19, Try.ntmps19
    go_wp2_with fail
    refine (H1 _).out.mono ?_
    rintro e w1 ⟨rfl, hg⟩
    have HG := Lib.hid ((B2.new W a b c d 25).grew hg.s).G
    clear hg
    go_wp2_with fail
    go_ret2
    exact ⟨rfl, HG.out⟩
  | true =>
    cases h2 : rightS c d with
    | false =>
      obtain ⟨e1, e2⟩ := cm_bad (okS_f2 (a := a) (b := b) h2)
      rw [e1, e2]
      have H1 := fun W => Lib.hid (right_t W h1)
      have H2 := fun W => Lib.hid (right_f W h2)
      clear h1 h2 e1 e2
      go_enter Try.func19, Try.ntmps19
      go_wp2_with fail
      refine (H1 _).out.mono ?_
      rintro e w1 ⟨rfl, hg⟩
      have B := (B2.new W a b c d 25).grew hg.s
      clear hg
      have Y0 := B.Y.c0
      have Y1 := B.Y.c1
      go_wp2_with fail
      refine (H2 _).out.mono ?_
      rintro e w2 ⟨rfl, hg⟩
      have HG := Lib.hid (B.grew hg.s).G
      clear hg Y0 Y1 B
      go_wp2_with fail
      go_ret2
      exact ⟨rfl, HG.out⟩
    | true =>
      obtain ⟨e1, e2⟩ := cm_good h1 h2
      rw [e1, e2]
      obtain ⟨s0, s1, p0, p1, q0, q1, t0, t1⟩ := cross_fits h1 h2
      have H1 := fun W => Lib.hid (right_t W h1)
      have H2 := fun W => Lib.hid (right_t W h2)
      have H3 := fun W => Lib.hid (cmpc_any (a * d) (c * b) W)
      have w1 := wrap_in (x := a * d) (by omega) (by omega)
      have w2 := wrap_in (x := c * b) (by omega) (by omega)
      generalize sgV (a * d) (c * b) = s at *
      clear h1 h2 e1 e2 s0 s1 p0 p1 q0 q1 t0 t1
      go_enter Try.func19, Try.ntmps19
      go_wp2_with fail
      refine (H1 _).out.mono ?_
      rintro e u1 ⟨rfl, hg⟩
      have B := (B2.new W a b c d 25).grew hg.s
      clear hg
      have Y0 := B.Y.c0
      have Y1 := B.Y.c1
      go_wp2_with fail
      refine (H2 _).out.mono ?_
      rintro e u2 ⟨rfl, hg⟩
      replace B := B.grew hg.s
      clear hg Y0 Y1
      have X0 := B.X.c0
      have X1 := B.X.c1
      have Y0 := B.Y.c0
      have Y1 := B.Y.c1
      have HG := Lib.hid B.G
      clear B
      go_wp2_with fail
      (with_reducible refine (H3 _).out.mono ?_)
      rintro e u3 ⟨rfl, rfl⟩
      go_wp2_with fail
      go_ret2
      exact ⟨rfl, HG.out⟩
end Go.Proofs.Ytjffikiebeneaaa
