/-
  The contract of the reference's Times.
-/
import Derived.Test.YtjffikiebeneaaaOver17
namespace Go.Proofs.Ytjffikiebeneaaa
open Go.RowKit

set_option maxHeartbeats 1000000 in
theorem refTimes_any (a b c d : Int) (W : World) :
    Calls Try.prog 40 #[shr a b, shr c d] W fun e w' => e = .returned (.tuple #[shr (tmN a b c d) (tmD a b c d), .int .i64 (tmE a b c d)]) ∧ GrewS W w' := by
  cases h1 : rightS a b with
  | false =>
    obtain ⟨e1, e2, e3⟩ := tm_bad (okS_f1 (c := c) (d := d) h1)
    rw [e1, e2, e3]
    have H1 := fun W => Lib.hid (refRight_f W h1)
    clear h1 e1 e2 e3
    go_enter Try.func40, Try.ntmps40
    go_wp2_with fail
    refine (H1 _).out.mono ?_
    rintro e w1 ⟨rfl, hg⟩
    have B := (Bx.new W a b c d 67).grew hg.s
    clear hg
    have R0 := B.R.c0
    have R1 := B.R.c1
    have F2 := B.F.2
    have HG := Lib.hid B.G
    clear B
    go_wp2_with fail
    exact bodyPost_ret (v := .tuple #[shr 0 0, .int .i64 2]) (by simp [results, Try.results40, go_sem, R0, R1]) rfl ⟨rfl, HG.out.set2 (B := W.heap.size + 1 + 1) (by omega) _ _⟩
  | true =>
    cases h2 : rightS c d with
    | false =>
      obtain ⟨e1, e2, e3⟩ := tm_bad (okS_f2 (a := a) (b := b) h2)
      rw [e1, e2, e3]
      have H1 := fun W => Lib.hid (refRight_t W h1)
      have H2 := fun W => Lib.hid (refRight_f W h2)
      clear h1 h2 e1 e2 e3
      go_enter Try.func40, Try.ntmps40
      go_wp2_with fail
      refine (H1 _).out.mono ?_
      rintro e w1 ⟨rfl, hg⟩
      have B := (Bx.new W a b c d 67).grew hg.s
      clear hg
      have Y0 := B.Y.c0
      have Y1 := B.Y.c1
      go_wp2_with fail
      refine (H2 _).out.mono ?_
      rintro e w2 ⟨rfl, hg⟩
      replace B := B.grew hg.s
      clear hg Y0 Y1
      have R0 := B.R.c0
      have R1 := B.R.c1
      have F2 := B.F.2
      have HG := Lib.hid B.G
      clear B
      go_wp2_with fail
      exact bodyPost_ret (v := .tuple #[shr 0 0, .int .i64 2]) (by simp [results, Try.results40, go_sem, R0, R1]) rfl ⟨rfl, HG.out.set2 (B := W.heap.size + 1 + 1) (by omega) _ _⟩
    | true =>
      obtain ⟨e1, e2, e3⟩ := tm_spec h1 h2
      rw [e1, e2, e3]
      obtain ⟨p0, p1, q0, q1⟩ := prod_fits h1 h2
      have H1 := fun W => Lib.hid (refRight_t W h1)
      have H2 := fun W => Lib.hid (refRight_t W h2)
      have H3' := fun W => refOf_any (n := a * c) (d := b * d) W (by omega) (by omega)
      have w1 := wrap_in (x := a * c) (by omega) (by omega)
      have w4 := wrap_in (x := b * d) (by omega) (by omega)
      generalize ofN (a * c) (b * d) = rn at *
      generalize ofD (a * c) (b * d) = rd at *
      generalize ofE (a * c) (b * d) = re at *
      have H3 := fun W => Lib.hid (H3' W)
      clear h1 h2 e1 e2 e3 H3' p0 p1 q0 q1
      go_enter Try.func40, Try.ntmps40
      go_wp2_with fail
      refine (H1 _).out.mono ?_
      rintro e u1 ⟨rfl, hg⟩
      have B := (Bx.new W a b c d 67).grew hg.s
      clear hg
      have Y0 := B.Y.c0
      have Y1 := B.Y.c1
      go_wp2_with fail
      refine (H2 _).out.mono ?_
      rintro e u2 ⟨rfl, hg⟩
      replace B := B.grew hg.s
      clear hg Y0 Y1
      have X0 := B.X.c0
      have X1 := B.X.c1
      have Y0 := B.Y.c0
      have Y1 := B.Y.c1
      go_wp2_with fail
      (with_reducible refine (H3 _).out.mono ?_)
      rintro e u3 ⟨rfl, hg⟩
      replace B := B.grew hg
      clear hg X0 X1 Y0 Y1
      have R0 := B.R.c0
      have R1 := B.R.c1
      have F2 := B.F.2
      have HG := Lib.hid B.G
      clear B
      go_wp2_with fail
      exact bodyPost_ret (v := .tuple #[shr rn rd, .int .i64 re]) (by simp [results, Try.results40, go_sem, R0, R1]) rfl ⟨rfl, HG.out.set2 (B := W.heap.size + 1 + 1) (by omega) _ _⟩
end Go.Proofs.Ytjffikiebeneaaa
