/-
  The contracts of Plus and its like.
-/
import Derived.Test.YtjffikiebeneaaaOf17
namespace Go.Proofs.Ytjffikiebeneaaa
open Go.RowKit

theorem wrap_in {x : Int} (h0 : -9223372036854775808 ≤ x) (h1 : x ≤ 9223372036854775807) : IntKind.i64.wrap x = x := by rw [IntKind.wrap_i64]; omega
theorem okS_f1 {a b c d : Int} (h : rightS a b = false) : okS a b c d = false := by unfold okS; rw [h]; rfl
theorem okS_f2 {a b c d : Int} (h : rightS c d = false) : okS a b c d = false := by unfold okS; rw [h]; split <;> rfl
theorem pl_bad {a b c d : Int} (h : okS a b c d = false) : plE a b c d = 2 ∧ plN a b c d = 0 ∧ plD a b c d = 0 := by
  unfold plE plN plD
  rw [h]
  exact ⟨rfl, rfl, rfl⟩
/-- What is known behind the two parameters' boxes and the result's cell. -/
structure Bx (W w : World) (a b c d : Int) : Prop where
  X : C2 w W.heap.size (.int .i64 a) (.int .i64 b)
  Y : C2 w (W.heap.size + 1) (.int .i64 c) (.int .i64 d)
  R : C2 w (W.heap.size + 1 + 1) (.int .i64 0) (.int .i64 0)
  F : Fz w (W.heap.size + 1 + 1)
  G : GrewS W w
theorem Bx.new (W : World) (a b c d : Int) (t : TypeId) : Bx W (((W.alloc (.cells #[.int .i64 a, .int .i64 b] t)).alloc (.cells #[.int .i64 c, .int .i64 d] t)).alloc (.cells #[.int .i64 0, .int .i64 0] t)) a b c d := by
  refine ⟨((C2.new W _ _ t).alloc _).alloc _, ?_, ?_, ?_, ((((GrewS.refl W).alloc _).alloc _).alloc _)⟩
  · simpa using (C2.new (W.alloc (.cells #[.int .i64 a, .int .i64 b] t)) (.int .i64 c) (.int .i64 d) t).alloc (.cells #[.int .i64 0, .int .i64 0] t)
  · simpa using C2.new ((W.alloc (.cells #[.int .i64 a, .int .i64 b] t)).alloc (.cells #[.int .i64 c, .int .i64 d] t)) (.int .i64 0) (.int .i64 0) t
  · simpa using Fz.new ((W.alloc (.cells #[.int .i64 a, .int .i64 b] t)).alloc (.cells #[.int .i64 c, .int .i64 d] t)) #[.int .i64 0, .int .i64 0] t
theorem Bx.grew {W w w' : World} {a b c d : Int} (h : Bx W w a b c d) (g : GrewS w w') : Bx W w' a b c d := ⟨h.X.kp g.kp, h.Y.kp g.kp, h.R.kp g.kp, h.F.kp g.kp, h.G.trans g⟩

set_option maxHeartbeats 1000000 in
theorem plus_any (a b c d : Int) (W : World) :
    Calls Try.prog 15 #[shr a b, shr c d] W fun e w' => e = .returned (.tuple #[shr (plN a b c d) (plD a b c d), .int .i64 (plE a b c d)]) ∧ GrewS W w' := by
  cases h1 : rightS a b with
  | false =>
    obtain ⟨e1, e2, e3⟩ := pl_bad (okS_f1 (c := c) (d := d) h1)
    rw [e1, e2, e3]
    have H1 := fun W => Lib.hid (right_f W h1)
    clear h1 e1 e2 e3
    go_enter Try.func15, Try.ntmps15
    go_wp2_with fail
    refine (H1 _).out.mono ?_
    rintro e w1 ⟨rfl, hg⟩
    have B := (Bx.new W a b c d 25).grew hg.s
    clear hg
    have R0 := B.R.c0
    have R1 := B.R.c1
    have F2 := B.F.2
    have HG := Lib.hid B.G
    clear B
    go_wp2_with fail
    exact bodyPost_ret (v := .tuple #[shr 0 0, .int .i64 2]) (by simp [results, Try.results15, go_sem, R0, R1]) rfl ⟨rfl, HG.out.set2 (B := W.heap.size + 1 + 1) (by omega) _ _⟩
  | true =>
    cases h2 : rightS c d with
    | false =>
      obtain ⟨e1, e2, e3⟩ := pl_bad (okS_f2 (a := a) (b := b) h2)
      rw [e1, e2, e3]
      have H1 := fun W => Lib.hid (right_t W h1)
      have H2 := fun W => Lib.hid (right_f W h2)
      clear h1 h2 e1 e2 e3
      go_enter Try.func15, Try.ntmps15
      go_wp2_with fail
      refine (H1 _).out.mono ?_
      rintro e w1 ⟨rfl, hg⟩
      have B := (Bx.new W a b c d 25).grew hg.s
      clear hg
      have Y0 := B.Y.c0
      have Y1 := B.Y.c1
      go_wp2_with fail
      refine (H2 _).out.mono ?_
      rintro e w2 ⟨rfl, hg⟩
      replace B := B.grew hg.s
      clear hg Y0 Y1
      have R0 := B.R.c0
      have R1 := B.R.c1
      have F2 := B.F.2
      have HG := Lib.hid B.G
      clear B
      go_wp2_with fail
      exact bodyPost_ret (v := .tuple #[shr 0 0, .int .i64 2]) (by simp [results, Try.results15, go_sem, R0, R1]) rfl ⟨rfl, HG.out.set2 (B := W.heap.size + 1 + 1) (by omega) _ _⟩
    | true =>
      obtain ⟨e1, e2, e3⟩ := pl_spec h1 h2
      rw [e1, e2, e3]
      obtain ⟨s0, s1, p0, p1, q0, q1, t0, t1⟩ := cross_fits h1 h2
      have H1 := fun W => Lib.hid (right_t W h1)
      have H2 := fun W => Lib.hid (right_t W h2)
      have H3' := fun W => of_any (n := a * d + c * b) (d := b * d) W s1 (by omega)
      have w1 := wrap_in (x := a * d) (by omega) (by omega)
      have w2 := wrap_in (x := c * b) (by omega) (by omega)
      have w3 := wrap_in (x := a * d + c * b) (by omega) (by omega)
      have w4 := wrap_in (x := b * d) (by omega) (by omega)
      generalize ofN (a * d + c * b) (b * d) = rn at *
      generalize ofD (a * d + c * b) (b * d) = rd at *
      generalize ofE (a * d + c * b) (b * d) = re at *
      have H3 := fun W => Lib.hid (H3' W)
      clear h1 h2 e1 e2 e3 H3' s0 s1 p0 p1 q0 q1 t0 t1
      go_enter Try.func15, Try.ntmps15
      go_wp2_with fail
      refine (H1 _).out.mono ?_
      rintro e u1 ⟨rfl, hg⟩
      have B := (Bx.new W a b c d 25).grew hg.s
      clear hg
      have Y0 := B.Y.c0
      have Y1 := B.Y.c1
      go_wp2_with fail
      refine (H2 _).out.mono ?_
      rintro e u2 ⟨rfl, hg⟩
      replace B := B.grew hg.s
      clear hg Y0 Y1
      have X0 := B.X.c0
      have X1 := B.X.c1
      have Y0 := B.Y.c0
      have Y1 := B.Y.c1
      go_wp2_with fail
      (with_reducible refine (H3 _).out.mono ?_)
      rintro e u3 ⟨rfl, hg⟩
      replace B := B.grew hg
      clear hg X0 X1 Y0 Y1
      have R0 := B.R.c0
      have R1 := B.R.c1
      have F2 := B.F.2
      have HG := Lib.hid B.G
      clear B
      go_wp2_with fail
      exact bodyPost_ret (v := .tuple #[shr rn rd, .int .i64 re]) (by simp [results, Try.results15, go_sem, R0, R1]) rfl ⟨rfl, HG.out.set2 (B := W.heap.size + 1 + 1) (by omega) _ _⟩
end Go.Proofs.Ytjffikiebeneaaa
