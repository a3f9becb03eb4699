/-
  The contract of Less.
-/
import Derived.Test.YtjffikiebeneaaaCmp17
namespace Go.Proofs.Ytjffikiebeneaaa
open Go.RowKit

theorem le_no {a b c d : Int} (h : okS a b c d = false ∨ (okS a b c d = true ∧ a * d < c * b)) : leE a b c d = 2 ∧ leN a b c d = 0 ∧ leD a b c d = 0 := by
  unfold leE leN leD
  rcases h with h | ⟨h, h2⟩
  · rw [h]
    exact ⟨rfl, rfl, rfl⟩
  · rw [h, if_pos rfl, if_pos rfl, if_pos rfl, if_pos h2, if_pos h2, if_pos h2]
    exact ⟨rfl, rfl, rfl⟩
theorem okS_parts {a b c d : Int} (h : okS a b c d = true) : rightS a b = true ∧ rightS c d = true := by
  unfold okS at h
  cases h1 : rightS a b with
  | false => rw [h1] at h; cases h
  | true => rw [h1] at h; exact ⟨rfl, h⟩

set_option maxHeartbeats 1000000 in
theorem less_any (a b c d : Int) (W : World) :
    Calls Try.prog 17 #[shr a b, shr c d] W fun e w' => e = .returned (.tuple #[shr (leN a b c d) (leD a b c d), .int .i64 (leE a b c d)]) ∧ GrewS W w' := by
  have H1' := fun W => cmp_any a b c d W
  cases hk : okS a b c d with
  | false =>
    obtain ⟨e1, e2, e3⟩ := le_no (Or.inl hk)
    obtain ⟨f1, f2⟩ := cm_bad hk
    rw [e1, e2, e3]
    rw [f1, f2] at H1'
    have H1 := fun W => Lib.hid (H1' W)
    clear hk e1 e2 e3 f1 f2 H1'
    go_enter Try.func17, Try.ntmps17
    go_wp2_with fail
    refine (H1 _).out.mono ?_
    rintro e w1 ⟨rfl, hg⟩
    have B := (Bx.new W a b c d 25).grew hg
    clear hg
    have R0 := B.R.c0
    have R1 := B.R.c1
    have F2 := B.F.2
    have HG := Lib.hid B.G
    clear B
    go_wp2_with fail
    exact bodyPost_ret (v := .tuple #[shr 0 0, .int .i64 2]) (by simp [results, Try.results17, go_sem, R0, R1]) rfl ⟨rfl, HG.out.set2 (B := W.heap.size + 1 + 1) (by omega) _ _⟩
  | true =>
    obtain ⟨h1, h2⟩ := okS_parts hk
    obtain ⟨f1, f2⟩ := cm_good h1 h2
    rw [f1, f2] at H1'
    by_cases hlt : a * d < c * b
    · obtain ⟨e1, e2, e3⟩ := le_no (Or.inr ⟨hk, hlt⟩)
      rw [e1, e2, e3]
      rw [sgV_neg hlt] at H1'
      have H1 := fun W => Lib.hid (H1' W)
      clear hk h1 h2 e1 e2 e3 f1 f2 H1' hlt
      go_enter Try.func17, Try.ntmps17
      go_wp2_with fail
      refine (H1 _).out.mono ?_
      rintro e w1 ⟨rfl, hg⟩
      have B := (Bx.new W a b c d 25).grew hg
      clear hg
      have R0 := B.R.c0
      have R1 := B.R.c1
      have F2 := B.F.2
      have HG := Lib.hid B.G
      clear B
      go_wp2_with fail
      exact bodyPost_ret (v := .tuple #[shr 0 0, .int .i64 2]) (by simp [results, Try.results17, go_sem, R0, R1]) rfl ⟨rfl, HG.out.set2 (B := W.heap.size + 1 + 1) (by omega) _ _⟩
    · obtain ⟨e1, e2, e3⟩ := le_spec h1 h2 (by omega)
      rw [e1, e2, e3]
      obtain ⟨s0, s1, p0, p1, q0, q1, t0, t1⟩ := cross_fits h1 h2
      have hs : 0 ≤ sgV (a * d) (c * b) := by
        rcases Int.lt_or_le (sgV (a * d) (c * b)) 0 with h | h
        · exact absurd (sgV_lt.1 h) hlt
        · exact h
      have H3' := fun W => of_any (n := a * d - c * b) (d := b * d) W (by omega) (by omega)
      have w1 := wrap_in (x := a * d) (by omega) (by omega)
      have w2 := wrap_in (x := c * b) (by omega) (by omega)
      have w3 := wrap_in (x := a * d - c * b) (by omega) (by omega)
      have w4 := wrap_in (x := b * d) (by omega) (by omega)
      generalize sgV (a * d) (c * b) = s at *
      generalize ofN (a * d - c * b) (b * d) = rn at *
      generalize ofD (a * d - c * b) (b * d) = rd at *
      generalize ofE (a * d - c * b) (b * d) = re at *
      have H1 := fun W => Lib.hid (H1' W)
      have H3 := fun W => Lib.hid (H3' W)
      clear hk h1 h2 e1 e2 e3 f1 f2 H1' H3' hlt s0 s1 p0 p1 q0 q1 t0 t1
      go_enter Try.func17, Try.ntmps17
      go_wp2_with fail
      refine (H1 _).out.mono ?_
      rintro e u1 ⟨rfl, hg⟩
      have B := (Bx.new W a b c d 25).grew hg
      clear hg
      have X0 := B.X.c0
      have X1 := B.X.c1
      have Y0 := B.Y.c0
      have Y1 := B.Y.c1
      go_wp2_with fail
      (with_reducible refine (H3 _).out.mono ?_)
      rintro e u3 ⟨rfl, hg⟩
      replace B := B.grew hg
      clear hg X0 X1 Y0 Y1
      have R0 := B.R.c0
      have R1 := B.R.c1
      have F2 := B.F.2
      have HG := Lib.hid B.G
      clear B
      go_wp2_with fail
      exact bodyPost_ret (v := .tuple #[shr rn rd, .int .i64 re]) (by simp [results, Try.results17, go_sem, R0, R1]) rfl ⟨rfl, HG.out.set2 (B := W.heap.size + 1 + 1) (by omega) _ _⟩
end Go.Proofs.Ytjffikiebeneaaa
