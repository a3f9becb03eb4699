/-
  The contract of Over.
-/
import Derived.Test.YtjffikiebeneaaaLess17
namespace Go.Proofs.Ytjffikiebeneaaa
open Go.RowKit

theorem ov_bad {a b c d : Int} (h : okS a b c d = false) : ovE a b c d = 2 ∧ ovN a b c d = 0 ∧ ovD a b c d = 0 := by
  unfold ovE ovN ovD
  rw [h]
  exact ⟨rfl, rfl, rfl⟩
set_option maxHeartbeats 1000000 in
theorem over_any (a b c d : Int) (W : World) :
    Calls Try.prog 18 #[shr a b, shr c d] W fun e w' => e = .returned (.tuple #[shr (ovN a b c d) (ovD a b c d), .int .i64 (ovE a b c d)]) ∧ GrewS W w' := by
  cases h1 : rightS a b with
  | false =>
    obtain ⟨e1, e2, e3⟩ := ov_bad (okS_f1 (c := c) (d := d) h1)
    rw [e1, e2, e3]
    have H1 := fun W => Lib.hid (right_f W h1)
    clear h1 e1 e2 e3
    go_enter Try.func18, Try.ntmps18
    go_wp2_with fail
    refine (H1 _).out.mono ?_
    rintro e w1 ⟨rfl, hg⟩
    have B := (Bx.new W a b c d 25).grew hg.s
    clear hg
    have R0 := B.R.c0
    have R1 := B.R.c1
    have F2 := B.F.2
    have HG := Lib.hid B.G
    clear B
    go_wp2_with fail
    exact bodyPost_ret (v := .tuple #[shr 0 0, .int .i64 2]) (by simp [results, Try.results18, go_sem, R0, R1]) rfl ⟨rfl, HG.out.set2 (B := W.heap.size + 1 + 1) (by omega) _ _⟩
  | true =>
    cases h2 : rightS c d with
    | false =>
      obtain ⟨e1, e2, e3⟩ := ov_bad (okS_f2 (a := a) (b := b) h2)
      rw [e1, e2, e3]
      have H1 := fun W => Lib.hid (right_t W h1)
      have H2 := fun W => Lib.hid (right_f W h2)
      clear h1 h2 e1 e2 e3
      go_enter Try.func18, Try.ntmps18
      go_wp2_with fail
      refine (H1 _).out.mono ?_
      rintro e w1 ⟨rfl, hg⟩
      have B := (Bx.new W a b c d 25).grew hg.s
      clear hg
      have Y0 := B.Y.c0
      have Y1 := B.Y.c1
      go_wp2_with fail
      refine (H2 _).out.mono ?_
      rintro e w2 ⟨rfl, hg⟩
      replace B := B.grew hg.s
      clear hg Y0 Y1
      have R0 := B.R.c0
      have R1 := B.R.c1
      have F2 := B.F.2
      have HG := Lib.hid B.G
      clear B
      go_wp2_with fail
      exact bodyPost_ret (v := .tuple #[shr 0 0, .int .i64 2]) (by simp [results, Try.results18, go_sem, R0, R1]) rfl ⟨rfl, HG.out.set2 (B := W.heap.size + 1 + 1) (by omega) _ _⟩
    | true =>
      by_cases hc : 0 < c
      · obtain ⟨e1, e2, e3⟩ := ov_spec h1 h2 hc
        rw [e1, e2, e3]
        obtain ⟨s0, s1, p0, p1, q0, q1, t0, t1⟩ := cross_fits h1 h2
        rw [Int.mul_comm c b] at t0 t1
        have H1 := fun W => Lib.hid (right_t W h1)
        have H2 := fun W => Lib.hid (right_t W h2)
        have H3' := fun W => of_any (n := a * d) (d := b * c) W (by omega) (by omega)
        have w1 := wrap_in (x := a * d) (by omega) (by omega)
        have w4 := wrap_in (x := b * c) (by omega) (by omega)
        have hcn : (c == 0) = false := beq_eq_false_iff_ne.2 (by omega)
        generalize ofN (a * d) (b * c) = rn at *
        generalize ofD (a * d) (b * c) = rd at *
        generalize ofE (a * d) (b * c) = re at *
        have H3 := fun W => Lib.hid (H3' W)
        clear h1 h2 hc e1 e2 e3 H3' s0 s1 p0 p1 q0 q1 t0 t1
        go_enter Try.func18, Try.ntmps18
        go_wp2_with fail
        refine (H1 _).out.mono ?_
        rintro e u1 ⟨rfl, hg⟩
        have B := (Bx.new W a b c d 25).grew hg.s
        clear hg
        have Y0 := B.Y.c0
        have Y1 := B.Y.c1
        go_wp2_with fail
        refine (H2 _).out.mono ?_
        rintro e u2 ⟨rfl, hg⟩
        replace B := B.grew hg.s
        clear hg Y0 Y1
        have X0 := B.X.c0
        have X1 := B.X.c1
        have Y0 := B.Y.c0
        have Y1 := B.Y.c1
        go_wp2_with fail
        (with_reducible refine (H3 _).out.mono ?_)
        rintro e u3 ⟨rfl, hg⟩
        replace B := B.grew hg
        clear hg X0 X1 Y0 Y1
        have R0 := B.R.c0
        have R1 := B.R.c1
        have F2 := B.F.2
        have HG := Lib.hid B.G
        clear B
        go_wp2_with fail
        exact bodyPost_ret (v := .tuple #[shr rn rd, .int .i64 re]) (by simp [results, Try.results18, go_sem, R0, R1]) rfl ⟨rfl, HG.out.set2 (B := W.heap.size + 1 + 1) (by omega) _ _⟩
      · have c0 := (rightS_of h2).1
        have e : c = 0 := by omega
        subst e
        have e1 : ovE a b 0 d = 6 ∧ ovN a b 0 d = 0 ∧ ovD a b 0 d = 0 := by
          unfold ovE ovN ovD
          rw [okS_t h1 h2]
          exact ⟨rfl, rfl, rfl⟩
        rw [e1.1, e1.2.1, e1.2.2]
        have H1 := fun W => Lib.hid (right_t W h1)
        have H2 := fun W => Lib.hid (right_t W h2)
        clear h1 h2 e1 c0 hc
        go_enter Try.func18, Try.ntmps18
        go_wp2_with fail
        refine (H1 _).out.mono ?_
        rintro e u1 ⟨rfl, hg⟩
        have B := (Bx.new W a b 0 d 25).grew hg.s
        clear hg
        have Y0 := B.Y.c0
        have Y1 := B.Y.c1
        go_wp2_with fail
        refine (H2 _).out.mono ?_
        rintro e u2 ⟨rfl, hg⟩
        replace B := B.grew hg.s
        clear hg Y0 Y1
        have Y0 := B.Y.c0
        have Y1 := B.Y.c1
        have R0 := B.R.c0
        have R1 := B.R.c1
        have F2 := B.F.2
        have HG := Lib.hid B.G
        clear B
        go_wp2_with fail
        exact bodyPost_ret (v := .tuple #[shr 0 0, .int .i64 6]) (by simp [results, Try.results18, go_sem, R0, R1]) rfl ⟨rfl, HG.out.set2 (B := W.heap.size + 1 + 1) (by omega) _ _⟩
end Go.Proofs.Ytjffikiebeneaaa
