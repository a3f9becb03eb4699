/-
  The contract of Times.
-/
import Derived.Test.YtjffikiebeneaaaPlus17
namespace Go.Proofs.Ytjffikiebeneaaa
open Go.RowKit

theorem tm_bad {a b c d : Int} (h : okS a b c d = false) : tmE a b c d = 2 ∧ tmN a b c d = 0 ∧ tmD a b c d = 0 := by
  unfold tmE tmN tmD
  rw [h]
  exact ⟨rfl, rfl, rfl⟩
theorem prod_fits {a b c d : Int} (h1 : rightS a b = true) (h2 : rightS c d = true) : 0 ≤ a * c ∧ a * c ≤ 4611686018427387904 ∧ 0 < b * d ∧ b * d ≤ 4611686018427387904 := by
  obtain ⟨a0, a1, b0, b1, _⟩ := rightS_of h1
  obtain ⟨c0, c1, d0, d1, _⟩ := rightS_of h2
  have x1 := mul_le' a0 a1 c0 c1
  have y1 := mul_le' (show 0 ≤ b by omega) b1 (show 0 ≤ d by omega) d1
  exact ⟨Int.mul_nonneg a0 c0, by omega, Int.mul_pos (by omega) (by omega), by omega⟩

set_option maxHeartbeats 1000000 in
theorem times_any (a b c d : Int) (W : World) :
    Calls Try.prog 16 #[shr a b, shr c d] W fun e w' => e = .returned (.tuple #[shr (tmN a b c d) (tmD a b c d), .int .i64 (tmE a b c d)]) ∧ GrewS W w' := by
  cases h1 : rightS a b with
  | false =>
    obtain ⟨e1, e2, e3⟩ := tm_bad (okS_f1 (c := c) (d := d) h1)
    rw [e1, e2, e3]
    have H1 := fun W => Lib.hid (right_f W h1)
    clear h1 e1 e2 e3
    go_enter Try.func16, Try.ntmps16
    go_wp2_with fail
    refine (H1 _).out.mono ?_
    rintro e w1 ⟨rfl, hg⟩
    have B := (Bx.new W a b c d 25).grew hg.s
    clear hg
    have R0 := B.R.c0
    have R1 := B.R.c1
    have F2 := B.F.2
    have HG := Lib.hid B.G
    clear B
    go_wp2_with fail
    exact bodyPost_ret (v := .tuple #[shr 0 0, .int .i64 2]) (by simp [results, Try.results16, go_sem, R0, R1]) rfl ⟨rfl, HG.out.set2 (B := W.heap.size + 1 + 1) (by omega) _ _⟩
  | true =>
    cases h2 : rightS c d with
    | false =>
      obtain ⟨e1, e2, e3⟩ := tm_bad (okS_f2 (a := a) (b := b) h2)
      rw [e1, e2, e3]
      have H1 := fun W => Lib.hid (right_t W h1)
      have H2 := fun W => Lib.hid (right_f W h2)
      clear h1 h2 e1 e2 e3
      go_enter Try.func16, Try.ntmps16
      go_wp2_with fail
      refine (H1 _).out.mono ?_
      rintro e w1 ⟨rfl, hg⟩
      have B := (Bx.new W a b c d 25).grew hg.s
      clear hg
      have Y0 := B.Y.c0
      have Y1 := B.Y.c1
      go_wp2_with fail
      refine (H2 _).out.mono ?_
      rintro e w2 ⟨rfl, hg⟩
      replace B := B.grew hg.s
      clear hg Y0 Y1
      have R0 := B.R.c0
      have R1 := B.R.c1
      have F2 := B.F.2
      have HG := Lib.hid B.G
      clear B
      go_wp2_with fail
      exact bodyPost_ret (v := .tuple #[shr 0 0, .int .i64 2]) (by simp [results, Try.results16, go_sem, R0, R1]) rfl ⟨rfl, HG.out.set2 (B := W.heap.size + 1 + 1) (by omega) _ _⟩
    | true =>
      obtain ⟨e1, e2, e3⟩ := tm_spec h1 h2
      rw [e1, e2, e3]
      obtain ⟨p0, p1, q0, q1⟩ := prod_fits h1 h2
      have H1 := fun W => Lib.hid (right_t W h1)
      have H2 := fun W => Lib.hid (right_t W h2)
      have H3' := fun W => of_any (n := a * c) (d := b * d) W (by omega) (by omega)
      have w1 := wrap_in (x := a * c) (by omega) (by omega)
      have w4 := wrap_in (x := b * d) (by omega) (by omega)
      generalize ofN (a * c) (b * d) = rn at *
      generalize ofD (a * c) (b * d) = rd at *
      generalize ofE (a * c) (b * d) = re at *
      have H3 := fun W => Lib.hid (H3' W)
      clear h1 h2 e1 e2 e3 H3' p0 p1 q0 q1
      go_enter Try.func16, Try.ntmps16
      go_wp2_with fail
      refine (H1 _).out.mono ?_
      rintro e u1 ⟨rfl, hg⟩
      have B := (Bx.new W a b c d 25).grew hg.s
      clear hg
      have Y0 := B.Y.c0
      have Y1 := B.Y.c1
      go_wp2_with fail
      refine (H2 _).out.mono ?_
      rintro e u2 ⟨rfl, hg⟩
      replace B := B.grew hg.s
      clear hg Y0 Y1
      have X0 := B.X.c0
      have X1 := B.X.c1
      have Y0 := B.Y.c0
      have Y1 := B.Y.c1
      go_wp2_with fail
      (with_reducible refine (H3 _).out.mono ?_)
      rintro e u3 ⟨rfl, hg⟩
      replace B := B.grew hg
      clear hg X0 X1 Y0 Y1
      have R0 := B.R.c0
      have R1 := B.R.c1
      have F2 := B.F.2
      have HG := Lib.hid B.G
      clear B
      go_wp2_with fail
      exact bodyPost_ret (v := .tuple #[shr rn rd, .int .i64 re]) (by simp [results, Try.results16, go_sem, R0, R1]) rfl ⟨rfl, HG.out.set2 (B := W.heap.size + 1 + 1) (by omega) _ _⟩
end Go.Proofs.Ytjffikiebeneaaa
