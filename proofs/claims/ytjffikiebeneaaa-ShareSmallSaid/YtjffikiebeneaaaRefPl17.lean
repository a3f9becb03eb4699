/-
  The contracts of the reference's Plus and Less.
-/
import Derived.Test.YtjffikiebeneaaaPairs17
import Derived.Test.YtjffikiebeneaaaCut4
import Derived.Deep.CutRange
namespace Go.Proofs.Ytjffikiebeneaaa
open Go.RowKit

theorem ref_fits {a b c d : Int} (h1 : rightS a b = true) (h2 : rightS c d = true) :
    0 < gcdV b d ∧ gcdV b d ≤ 2147483648 ∧ 0 ≤ a * (d / gcdV b d) ∧ a * (d / gcdV b d) ≤ a * d ∧ 0 ≤ c * (b / gcdV b d) ∧ c * (b / gcdV b d) ≤ c * b ∧ 0 < b / gcdV b d * d ∧ b / gcdV b d * d ≤ b * d := by
  obtain ⟨a0, a1, b0, b1, _⟩ := rightS_of h1
  obtain ⟨c0, c1, d0, d1, _⟩ := rightS_of h2
  have hg := gcdV_pos (a := b) (b := d) (by omega)
  have hl := gcdV_le (a := b) (b := d) (by omega)
  have r := (ref_plus h1 h2).2.1
  generalize gcdV b d = g at *
  have p0 : 0 ≤ b / g := Int.ediv_nonneg (by omega) (by omega)
  have q0 : 0 ≤ d / g := Int.ediv_nonneg (by omega) (by omega)
  have p1 : b / g ≤ b := Int.ediv_le_self _ (by omega)
  have q1 : d / g ≤ d := Int.ediv_le_self _ (by omega)
  exact ⟨hg, by omega, Int.mul_nonneg a0 q0, Int.mul_le_mul_of_nonneg_left q1 a0, Int.mul_nonneg c0 p0, Int.mul_le_mul_of_nonneg_left p1 c0, r, Int.mul_le_mul_of_nonneg_right p1 (by omega)⟩
theorem ref_less {a b c d : Int} (h1 : rightS a b = true) (h2 : rightS c d = true) :
    (a * (d / gcdV b d) - c * (b / gcdV b d) < 0 ↔ a * d < c * b) ∧
    (c * b ≤ a * d → ofE (a * (d / gcdV b d) - c * (b / gcdV b d)) (b / gcdV b d * d) = ofE (a * d - c * b) (b * d) ∧ ofN (a * (d / gcdV b d) - c * (b / gcdV b d)) (b / gcdV b d * d) = ofN (a * d - c * b) (b * d) ∧
    ofD (a * (d / gcdV b d) - c * (b / gcdV b d)) (b / gcdV b d * d) = ofD (a * d - c * b) (b * d)) := by
  obtain ⟨hg, _, _, _, _, _, p1, _⟩ := ref_fits h1 h2
  obtain ⟨a0, a1, b0, b1, _⟩ := rightS_of h1
  obtain ⟨c0, c1, d0, d1, _⟩ := rightS_of h2
  obtain ⟨x, y, x0, y0, e1, e2, _⟩ := gcdV_dvd (a := b) (b := d) (by omega) (by omega)
  have hx : b / gcdV b d = x := by
    generalize gcdV b d = g at *
    rw [e1, Int.mul_ediv_cancel_left _ (by omega)]
  have hy : d / gcdV b d = y := by
    generalize gcdV b d = g at *
    rw [e2, Int.mul_ediv_cancel_left _ (by omega)]
  rw [hx] at p1
  rw [hx, hy]
  generalize gcdV b d = g at *
  have q1 : g * (a * y - c * x) = a * d - c * b := by grind
  have q2 : g * (x * d) = b * d := by grind
  have key : a * y - c * x < 0 ↔ a * d < c * b := by
    constructor
    · intro h
      have := Int.mul_lt_mul_of_pos_left h hg
      rw [q1, Int.mul_zero] at this
      omega
    · intro h
      rcases Int.lt_or_le (a * y - c * x) 0 with h3 | h3
      · exact h3
      · have := Int.mul_nonneg (Int.le_of_lt hg) h3
        rw [q1] at this
        omega
  refine ⟨key, fun h => ?_⟩
  have p0 : 0 ≤ a * y - c * x := by omega
  have hs := of_scale p0 p1 hg
  rw [q1, q2] at hs
  exact ⟨hs.1.symm, hs.2.1.symm, hs.2.2.symm⟩
theorem le_bad {a b c d : Int} (h : okS a b c d = false) : leE a b c d = 2 ∧ leN a b c d = 0 ∧ leD a b c d = 0 := by
  unfold leE leN leD
  rw [h]
  exact ⟨rfl, rfl, rfl⟩

set_option maxRecDepth 100000 in
set_option maxHeartbeats 1000000 in
theorem refPlus_any (a b c d : Int) (W : World) :
    Calls Try.prog 38 #[shr a b, shr c d] W fun e w' => e = .returned (.tuple #[shr (plN a b c d) (plD a b c d), .int .i64 (plE a b c d)]) ∧ GrewS W w' := by
  cases h1 : rightS a b with
  | false =>
    obtain ⟨e1, e2, e3⟩ := pl_bad (okS_f1 (c := c) (d := d) h1)
    rw [e1, e2, e3]
    have H1 := fun W => Lib.hid (refRight_f W h1)
    clear h1 e1 e2 e3
    go_enter Try.func38, Try.ntmps38
    go_wp2_with fail
    refine (H1 _).out.mono ?_
    rintro e w1 ⟨rfl, hg⟩
    have B := (Bx.new W a b c d 67).grew hg.s
    clear hg
    have R0 := B.R.c0
    have R1 := B.R.c1
    have F2 := B.F.2
    have HG := Lib.hid B.G
    clear B
    go_wp2_with fail
    exact bodyPost_ret (v := .tuple #[shr 0 0, .int .i64 2]) (by simp [results, Try.results38, go_sem, R0, R1]) rfl ⟨rfl, HG.out.set2 (B := W.heap.size + 1 + 1) (by omega) _ _⟩
  | true =>
    cases h2 : rightS c d with
    | false =>
      obtain ⟨e1, e2, e3⟩ := pl_bad (okS_f2 (a := a) (b := b) h2)
      rw [e1, e2, e3]
      have H1 := fun W => Lib.hid (refRight_t W h1)
      have H2 := fun W => Lib.hid (refRight_f W h2)
      clear h1 h2 e1 e2 e3
      go_enter Try.func38, Try.ntmps38
      go_wp2_with fail
      refine (H1 _).out.mono ?_
      rintro e w1 ⟨rfl, hg⟩
      have B := (Bx.new W a b c d 67).grew hg.s
      clear hg
      have Y0 := B.Y.c0
      have Y1 := B.Y.c1
      go_wp2_with fail
      refine (H2 _).out.mono ?_
      rintro e w2 ⟨rfl, hg⟩
      replace B := B.grew hg.s
      clear hg Y0 Y1
      have R0 := B.R.c0
      have R1 := B.R.c1
      have F2 := B.F.2
      have HG := Lib.hid B.G
      clear B
      go_wp2_with fail
      exact bodyPost_ret (v := .tuple #[shr 0 0, .int .i64 2]) (by simp [results, Try.results38, go_sem, R0, R1]) rfl ⟨rfl, HG.out.set2 (B := W.heap.size + 1 + 1) (by omega) _ _⟩
    | true =>
      obtain ⟨e1, e2, e3⟩ := pl_spec h1 h2
      rw [e1, e2, e3]
      obtain ⟨r0, r1, r2, r3, r4⟩ := ref_plus h1 h2
      rw [← r2, ← r3, ← r4]
      obtain ⟨s0, s1, p0, p1, q0, q1, t0, t1⟩ := cross_fits h1 h2
      obtain ⟨g0, g1, m0, m1, m2, m3, m4, m5⟩ := ref_fits h1 h2
      obtain ⟨_, _, b0, b1, _⟩ := rightS_of h1
      obtain ⟨_, _, d0, d1, _⟩ := rightS_of h2
      have H1 := fun W => Lib.hid (refRight_t W h1)
      have H2 := fun W => Lib.hid (refRight_t W h2)
      have HD' := fun W => divisor_any (a := b) (b := d) W (by omega) (by omega) (by omega) (by omega)
      have H3' := fun W => refOf_any (n := a * (d / gcdV b d) + c * (b / gcdV b d)) (d := b / gcdV b d * d) W (by omega) (by omega)
      generalize gcdV b d = g at *
      have hq0 : 0 ≤ b / g := Int.ediv_nonneg (by omega) (by omega)
      have hq1 : 0 ≤ d / g := Int.ediv_nonneg (by omega) (by omega)
      have z1 : g ≠ 0 := by omega
      have z2 : (g == 0) = false := beq_eq_false_iff_ne.2 z1
      have z3 : Int.tdiv d g = d / g := Int.tdiv_eq_ediv_of_nonneg (by omega)
      have z4 : Int.tdiv b g = b / g := Int.tdiv_eq_ediv_of_nonneg (by omega)
      have z5 := wrap_in (x := d / g) (by omega) (by have := Int.ediv_le_self g (show 0 ≤ d by omega); omega)
      have z6 := wrap_in (x := b / g) (by omega) (by have := Int.ediv_le_self g (show 0 ≤ b by omega); omega)
      have w1 := wrap_in (x := a * (d / g)) (by omega) (by omega)
      have w2 := wrap_in (x := c * (b / g)) (by omega) (by omega)
      have w3 := wrap_in (x := a * (d / g) + c * (b / g)) (by omega) (by omega)
      have w4 := wrap_in (x := b / g * d) (by omega) (by omega)
      generalize ofN (a * (d / g) + c * (b / g)) (b / g * d) = rn at *
      generalize ofD (a * (d / g) + c * (b / g)) (b / g * d) = rd at *
      generalize ofE (a * (d / g) + c * (b / g)) (b / g * d) = re at *
      have H3 := fun W => Lib.hid (H3' W)
      have HD := fun W => Lib.hid (HD' W)
      clear h1 h2 e1 e2 e3 H3' HD' s0 s1 p0 p1 q0 q1 t0 t1 r0 r1 r2 r3 r4 m0 m1 m2 m3 m4 m5
      go_enter Try.func38, Try.ntmps38
      go_wp2_with fail
      refine (H1 _).out.mono ?_
      rintro e u1 ⟨rfl, hg⟩
      have B := (Bx.new W a b c d 67).grew hg.s
      clear hg
      have Y0 := B.Y.c0
      have Y1 := B.Y.c1
      go_wp2_with fail
      refine (H2 _).out.mono ?_
      rintro e u2 ⟨rfl, hg⟩
      replace B := B.grew hg.s
      clear hg Y0 Y1
      have X0 := B.X.c0
      have X1 := B.X.c1
      have Y0 := B.Y.c0
      have Y1 := B.Y.c1
      go_wp2_with fail
      refine (HD _).out.mono ?_
      rintro e u3 ⟨rfl, rfl⟩
      go_wp2_with fail
      
      obtain ⟨X, Y, R, FR, HGG⟩ := B
      have hg := Lib.hid HGG
      have ne_R_X : W.heap.size + 1 + 1 ≠ W.heap.size := by omega
      have ne_R_Y : W.heap.size + 1 + 1 ≠ W.heap.size + 1 := by omega
      have le_R : W.heap.size ≤ W.heap.size + 1 + 1 := by omega
      clear HGG X0 X1 Y0 Y1
      refine wp_region_anyN (fun w' => w'.cell? ⟨W.heap.size, 0, none⟩ = some (.int .i64 a) ∧ w'.cell? ⟨W.heap.size, 1, none⟩ = some (.int .i64 b) ∧ w'.cell? ⟨W.heap.size + 1, 0, none⟩ = some (.int .i64 c) ∧ w'.cell? ⟨W.heap.size + 1, 1, none⟩ = some (.int .i64 d)) 25 (by kernel_rfl) ?_
      replace X := X.drew
      replace Y := Y.drew
      replace R := R.drew
      replace FR := FR.drew
      replace hg := Lib.hid hg.out.drew
      generalize u2.drew = u2 at *
      have hS : u2.cell? ⟨W.heap.size, 0, none⟩ = some (.int .i64 a) ∧ u2.cell? ⟨W.heap.size, 1, none⟩ = some (.int .i64 b) ∧ u2.cell? ⟨W.heap.size + 1, 0, none⟩ = some (.int .i64 c) ∧ u2.cell? ⟨W.heap.size + 1, 1, none⟩ = some (.int .i64 d) := ⟨X.c0, X.c1, Y.c0, Y.c1⟩
      refine anyN_take 0 (v := ?_) rfl (by kernel_rfl) (by kernel_rfl) (by kernel_rfl) (by kernel_rfl) (by kernel_rfl) (fun _ _ _ h => h) (Or.inl ⟨by rfl, ?_⟩) (by assumption) ?_
      rotate_left
      · intro w hSw
        obtain ⟨_, _, _, _⟩ := hSw
        go_simp
        try with_reducible rfl
      simp only [Act.put, List.setIfInBounds_toArray, List.set_cons_zero, List.set_cons_succ]
      refine anyN_take 1 (v := ?_) rfl (by kernel_rfl) (by kernel_rfl) (by kernel_rfl) (by kernel_rfl) (by kernel_rfl) (fun _ _ _ h => h) (Or.inl ⟨by rfl, ?_⟩) (by assumption) ?_
      rotate_left
      · intro w hSw
        obtain ⟨_, _, _, _⟩ := hSw
        go_simp
        try with_reducible rfl
      simp only [Act.put, List.setIfInBounds_toArray, List.set_cons_zero, List.set_cons_succ]
      refine anyN_take 2 (v := ?_) rfl (by kernel_rfl) (by kernel_rfl) (by kernel_rfl) (by kernel_rfl) (by kernel_rfl) (fun _ _ _ h => h) (Or.inl ⟨by rfl, ?_⟩) (by assumption) ?_
      rotate_left
      · intro w hSw
        obtain ⟨_, _, _, _⟩ := hSw
        go_simp
        try with_reducible rfl
      simp only [Act.put, List.setIfInBounds_toArray, List.set_cons_zero, List.set_cons_succ]
      refine anyN_take 3 (v := ?_) rfl (by kernel_rfl) (by kernel_rfl) (by kernel_rfl) (by kernel_rfl) (by kernel_rfl) (fun _ _ _ h => h) (Or.inl ⟨by rfl, ?_⟩) (by assumption) ?_
      rotate_left
      · intro w hSw
        obtain ⟨_, _, _, _⟩ := hSw
        go_simp
        try with_reducible rfl
      simp only [Act.put, List.setIfInBounds_toArray, List.set_cons_zero, List.set_cons_succ]
      refine anyN_take 4 (v := ?_) rfl (by kernel_rfl) (by kernel_rfl) (by kernel_rfl) (by kernel_rfl) (by kernel_rfl) (fun _ _ _ h => h) (Or.inl ⟨by rfl, ?_⟩) (by assumption) ?_
      rotate_left
      · intro w hSw
        obtain ⟨_, _, _, _⟩ := hSw
        go_simp
        try with_reducible rfl
      simp only [Act.put, List.setIfInBounds_toArray, List.set_cons_zero, List.set_cons_succ]
      refine anyN_take 5 (v := ?_) rfl (by kernel_rfl) (by kernel_rfl) (by kernel_rfl) (by kernel_rfl) (by kernel_rfl) (fun _ _ _ h => h) (Or.inl ⟨by rfl, ?_⟩) (by assumption) ?_
      rotate_left
      · intro w hSw
        obtain ⟨_, _, _, _⟩ := hSw
        go_simp
        try with_reducible rfl
      simp only [Act.put, List.setIfInBounds_toArray, List.set_cons_zero, List.set_cons_succ]
      refine anyN_take 6 (v := ?_) rfl (by kernel_rfl) (by kernel_rfl) (by kernel_rfl) (by kernel_rfl) (by kernel_rfl) (fun _ _ _ h => h) (Or.inl ⟨by rfl, ?_⟩) (by assumption) ?_
      rotate_left
      · intro w hSw
        obtain ⟨_, _, _, _⟩ := hSw
        go_simp
        try with_reducible rfl
      simp only [Act.put, List.setIfInBounds_toArray, List.set_cons_zero, List.set_cons_succ]
      refine anyN_take 7 (v := ?_) rfl (by kernel_rfl) (by kernel_rfl) (by kernel_rfl) (by kernel_rfl) (by kernel_rfl) (fun _ _ _ h => h) (Or.inl ⟨by rfl, ?_⟩) (by assumption) ?_
      rotate_left
      · intro w hSw
        obtain ⟨_, _, _, _⟩ := hSw
        go_simp
        try with_reducible rfl
      simp only [Act.put, List.setIfInBounds_toArray, List.set_cons_zero, List.set_cons_succ]
      refine anyN_take 8 (v := ?_) rfl (by kernel_rfl) (by kernel_rfl) (by kernel_rfl) (by kernel_rfl) (by kernel_rfl) (fun _ _ _ h => h) (Or.inl ⟨by rfl, ?_⟩) (by assumption) ?_
      rotate_left
      · intro w hSw
        obtain ⟨_, _, _, _⟩ := hSw
        go_simp
        try with_reducible rfl
      simp only [Act.put, List.setIfInBounds_toArray, List.set_cons_zero, List.set_cons_succ]
      refine anyN_take 9 (v := ?_) rfl (by kernel_rfl) (by kernel_rfl) (by kernel_rfl) (by kernel_rfl) (by kernel_rfl) (fun _ _ _ h => h) (Or.inl ⟨by rfl, ?_⟩) (by assumption) ?_
      rotate_left
      · intro w hSw
        obtain ⟨_, _, _, _⟩ := hSw
        go_simp
        try with_reducible rfl
      simp only [Act.put, List.setIfInBounds_toArray, List.set_cons_zero, List.set_cons_succ]
      refine anyN_take 10 (v := ?_) rfl (by kernel_rfl) (by kernel_rfl) (by kernel_rfl) (by kernel_rfl) (by kernel_rfl) (fun _ _ _ h => h) (Or.inl ⟨by rfl, ?_⟩) (by assumption) ?_
      rotate_left
      · intro w hSw
        obtain ⟨_, _, _, _⟩ := hSw
        go_simp
        try with_reducible rfl
      simp only [Act.put, List.setIfInBounds_toArray, List.set_cons_zero, List.set_cons_succ]
      refine anyN_take 11 (v := ?_) rfl (by kernel_rfl) (by kernel_rfl) (by kernel_rfl) (by kernel_rfl) (by kernel_rfl) (fun _ _ _ h => h) (Or.inl ⟨by rfl, ?_⟩) (by assumption) ?_
      rotate_left
      · intro w hSw
        obtain ⟨_, _, _, _⟩ := hSw
        go_simp
        try with_reducible rfl
      simp only [Act.put, List.setIfInBounds_toArray, List.set_cons_zero, List.set_cons_succ]
      refine anyN_take 12 (v := ?_) rfl (by kernel_rfl) (by kernel_rfl) (by kernel_rfl) (by kernel_rfl) (by kernel_rfl) (fun _ _ _ h => h) (Or.inl ⟨by rfl, ?_⟩) (by assumption) ?_
      rotate_left
      · intro w hSw
        obtain ⟨_, _, _, _⟩ := hSw
        go_simp
        try with_reducible rfl
      simp only [Act.put, List.setIfInBounds_toArray, List.set_cons_zero, List.set_cons_succ]
      refine anyN_take 13 (v := ?_) rfl (by kernel_rfl) (by kernel_rfl) (by kernel_rfl) (by kernel_rfl) (by kernel_rfl) (fun _ _ _ h => h) (Or.inl ⟨by rfl, ?_⟩) (by assumption) ?_
      rotate_left
      · intro w hSw
        obtain ⟨_, _, _, _⟩ := hSw
        go_simp
        try with_reducible rfl
      simp only [Act.put, List.setIfInBounds_toArray, List.set_cons_zero, List.set_cons_succ]
      refine anyN_take 14 (v := ?_) rfl (by kernel_rfl) (by kernel_rfl) (by kernel_rfl) (by kernel_rfl) (by kernel_rfl) (fun _ _ _ h => h) (Or.inl ⟨by rfl, ?_⟩) (by assumption) ?_
      rotate_left
      · intro w hSw
        obtain ⟨_, _, _, _⟩ := hSw
        go_simp
        try with_reducible rfl
      simp only [Act.put, List.setIfInBounds_toArray, List.set_cons_zero, List.set_cons_succ]
      refine anyN_take 15 (v := ?_) rfl (by kernel_rfl) (by kernel_rfl) (by kernel_rfl) (by kernel_rfl) (by kernel_rfl) (fun _ _ _ h => h) (Or.inl ⟨by rfl, ?_⟩) (by assumption) ?_
      rotate_left
      · intro w hSw
        obtain ⟨_, _, _, _⟩ := hSw
        go_simp
        try with_reducible rfl
      simp only [Act.put, List.setIfInBounds_toArray, List.set_cons_zero, List.set_cons_succ]
      refine anyN_take 16 (v := ?_) rfl (by kernel_rfl) (by kernel_rfl) (by kernel_rfl) (by kernel_rfl) (by kernel_rfl) (fun _ _ _ h => h) (Or.inl ⟨by rfl, ?_⟩) (by assumption) ?_
      rotate_left
      · intro w hSw
        obtain ⟨_, _, _, _⟩ := hSw
        go_simp
        try with_reducible rfl
      simp only [Act.put, List.setIfInBounds_toArray, List.set_cons_zero, List.set_cons_succ]
      refine anyN_take 17 (v := ?_) rfl (by kernel_rfl) (by kernel_rfl) (by kernel_rfl) (by kernel_rfl) (by kernel_rfl) (fun _ _ _ h => h) (Or.inl ⟨by rfl, ?_⟩) (by assumption) ?_
      rotate_left
      · intro w hSw
        obtain ⟨_, _, _, _⟩ := hSw
        go_simp
        try with_reducible rfl
      simp only [Act.put, List.setIfInBounds_toArray, List.set_cons_zero, List.set_cons_succ]
      refine anyN_take 18 (v := ?_) rfl (by kernel_rfl) (by kernel_rfl) (by kernel_rfl) (by kernel_rfl) (by kernel_rfl) (fun _ _ _ h => h) (Or.inl ⟨by rfl, ?_⟩) (by assumption) ?_
      rotate_left
      · intro w hSw
        obtain ⟨_, _, _, _⟩ := hSw
        go_simp
        try with_reducible rfl
      simp only [Act.put, List.setIfInBounds_toArray, List.set_cons_zero, List.set_cons_succ]
      refine anyN_take 19 (v := ?_) rfl (by kernel_rfl) (by kernel_rfl) (by kernel_rfl) (by kernel_rfl) (by kernel_rfl) (fun _ _ _ h => h) (Or.inl ⟨by rfl, ?_⟩) (by assumption) ?_
      rotate_left
      · intro w hSw
        obtain ⟨_, _, _, _⟩ := hSw
        go_simp
        try with_reducible rfl
      simp only [Act.put, List.setIfInBounds_toArray, List.set_cons_zero, List.set_cons_succ]
      refine anyN_take 20 (v := ?_) rfl (by kernel_rfl) (by kernel_rfl) (by kernel_rfl) (by kernel_rfl) (by kernel_rfl) (fun _ _ _ h => h) (Or.inl ⟨by rfl, ?_⟩) (by assumption) ?_
      rotate_left
      · intro w hSw
        obtain ⟨_, _, _, _⟩ := hSw
        go_simp
        try with_reducible rfl
      simp only [Act.put, List.setIfInBounds_toArray, List.set_cons_zero, List.set_cons_succ]
      refine anyN_take 21 (v := ?_) rfl (by kernel_rfl) (by kernel_rfl) (by kernel_rfl) (by kernel_rfl) (by kernel_rfl) (fun _ _ _ h => h) (Or.inl ⟨by rfl, ?_⟩) (by assumption) ?_
      rotate_left
      · intro w hSw
        obtain ⟨_, _, _, _⟩ := hSw
        go_simp
        try with_reducible rfl
      simp only [Act.put, List.setIfInBounds_toArray, List.set_cons_zero, List.set_cons_succ]
      refine anyN_one 22 rfl (by kernel_rfl) rfl ?_
      go_simp
      (with_reducible refine (H3 _).out.mono ?_)
      rintro e wv1 ⟨rfl, hg1⟩
      have k1 := hg1.kp
      replace X := X.kp k1
      replace Y := Y.kp k1
      replace R := R.kp k1
      replace FR := FR.kp k1
      replace hg := Lib.hid (hg.out.trans hg1)
      clear k1 hg1
      dsimp only
      refine and_keep ⟨X.c0, X.c1, Y.c0, Y.c1⟩ (fun hS => ?_)
      refine anyN_take 23 (v := ?_) rfl (by kernel_rfl) (by kernel_rfl) (by kernel_rfl) (by kernel_rfl) (by kernel_rfl) (fun _ _ _ h => h) (Or.inl ⟨by rfl, ?_⟩) (by assumption) ?_
      rotate_left
      · intro w hSw
        obtain ⟨_, _, _, _⟩ := hSw
        go_simp
        try with_reducible rfl
      simp only [Act.put, List.setIfInBounds_toArray, List.set_cons_zero, List.set_cons_succ]
      refine anyN_take 24 (v := ?_) rfl (by kernel_rfl) (by kernel_rfl) (by kernel_rfl) (by kernel_rfl) (by kernel_rfl) (fun _ _ _ h => h) (Or.inl ⟨by rfl, ?_⟩) (by assumption) ?_
      rotate_left
      · intro w hSw
        obtain ⟨_, _, _, _⟩ := hSw
        go_simp
        try with_reducible rfl
      simp only [Act.put, List.setIfInBounds_toArray, List.set_cons_zero, List.set_cons_succ]
      have R_0 := R.c0
      have R_1 := R.c1
      have FR_2 := FR.2
      refine anyN_one 25 rfl (by kernel_rfl) rfl ?_
      go_simp
      clear R_0 R_1 FR_2
      replace X := X.far2 ne_R_X (.int .i64 rn) (.int .i64 rd)
      replace Y := Y.far2 ne_R_Y (.int .i64 rn) (.int .i64 rd)
      replace R := R.set (.int .i64 rn) (.int .i64 rd)
      replace FR := (FR.set ⟨(W.heap.size + 1 + 1), 0, none⟩ (.int .i64 rn)).set ⟨(W.heap.size + 1 + 1), 1, none⟩ (.int .i64 rd)
      replace hg := Lib.hid (hg.out.set2 (B := (W.heap.size + 1 + 1)) le_R (.int .i64 rn) (.int .i64 rd))
      generalize World.setCell _ _ _ = ws2 at *
      refine anyN_one 26 rfl (by kernel_rfl) rfl ?_
      go_simp
      refine anyN_done (by kernel_rfl) ?_
      clear hS
      clear X Y
      have R0 := R.c0
      have R1 := R.c1
      go_wp2_with fail
      exact bodyPost_ret (v := .tuple #[shr rn rd, .int .i64 re]) (by simp [results, Try.results38, go_sem, R0, R1]) rfl ⟨rfl, hg.out⟩

set_option maxRecDepth 100000 in
set_option maxHeartbeats 1000000 in
theorem refLess_any (a b c d : Int) (W : World) :
    Calls Try.prog 39 #[shr a b, shr c d] W fun e w' => e = .returned (.tuple #[shr (leN a b c d) (leD a b c d), .int .i64 (leE a b c d)]) ∧ GrewS W w' := by
  cases h1 : rightS a b with
  | false =>
    obtain ⟨e1, e2, e3⟩ := le_bad (okS_f1 (c := c) (d := d) h1)
    rw [e1, e2, e3]
    have H1 := fun W => Lib.hid (refRight_f W h1)
    clear h1 e1 e2 e3
    go_enter Try.func39, Try.ntmps39
    go_wp2_with fail
    refine (H1 _).out.mono ?_
    rintro e w1 ⟨rfl, hg⟩
    have B := (Bx.new W a b c d 67).grew hg.s
    clear hg
    have R0 := B.R.c0
    have R1 := B.R.c1
    have F2 := B.F.2
    have HG := Lib.hid B.G
    clear B
    go_wp2_with fail
    exact bodyPost_ret (v := .tuple #[shr 0 0, .int .i64 2]) (by simp [results, Try.results39, go_sem, R0, R1]) rfl ⟨rfl, HG.out.set2 (B := W.heap.size + 1 + 1) (by omega) _ _⟩
  | true =>
    cases h2 : rightS c d with
    | false =>
      obtain ⟨e1, e2, e3⟩ := le_bad (okS_f2 (a := a) (b := b) h2)
      rw [e1, e2, e3]
      have H1 := fun W => Lib.hid (refRight_t W h1)
      have H2 := fun W => Lib.hid (refRight_f W h2)
      clear h1 h2 e1 e2 e3
      go_enter Try.func39, Try.ntmps39
      go_wp2_with fail
      refine (H1 _).out.mono ?_
      rintro e w1 ⟨rfl, hg⟩
      have B := (Bx.new W a b c d 67).grew hg.s
      clear hg
      have Y0 := B.Y.c0
      have Y1 := B.Y.c1
      go_wp2_with fail
      refine (H2 _).out.mono ?_
      rintro e w2 ⟨rfl, hg⟩
      replace B := B.grew hg.s
      clear hg Y0 Y1
      have R0 := B.R.c0
      have R1 := B.R.c1
      have F2 := B.F.2
      have HG := Lib.hid B.G
      clear B
      go_wp2_with fail
      exact bodyPost_ret (v := .tuple #[shr 0 0, .int .i64 2]) (by simp [results, Try.results39, go_sem, R0, R1]) rfl ⟨rfl, HG.out.set2 (B := W.heap.size + 1 + 1) (by omega) _ _⟩
    | true =>
      obtain ⟨s0, s1, p0, p1, q0, q1, t0, t1⟩ := cross_fits h1 h2
      obtain ⟨g0, g1, m0, m1, m2, m3, m4, m5⟩ := ref_fits h1 h2
      obtain ⟨_, _, b0, b1, _⟩ := rightS_of h1
      obtain ⟨_, _, d0, d1, _⟩ := rightS_of h2
      have H1 := fun W => Lib.hid (refRight_t W h1)
      have H2 := fun W => Lib.hid (refRight_t W h2)
      have HD' := fun W => divisor_any (a := b) (b := d) W (by omega) (by omega) (by omega) (by omega)
      obtain ⟨k1, k2⟩ := ref_less h1 h2
      by_cases hlt : a * d < c * b
      · have e1 : leE a b c d = 2 ∧ leN a b c d = 0 ∧ leD a b c d = 0 := by
          unfold leE leN leD
          rw [okS_t h1 h2]
          simp [hlt]
        rw [e1.1, e1.2.1, e1.2.2]
        have hneg := k1.2 hlt
        generalize gcdV b d = g at *
        have hq0 : 0 ≤ b / g := Int.ediv_nonneg (by omega) (by omega)
        have hq1 : 0 ≤ d / g := Int.ediv_nonneg (by omega) (by omega)
        have z1 : g ≠ 0 := by omega
        have z2 : (g == 0) = false := beq_eq_false_iff_ne.2 z1
        have z3 : Int.tdiv d g = d / g := Int.tdiv_eq_ediv_of_nonneg (by omega)
        have z4 : Int.tdiv b g = b / g := Int.tdiv_eq_ediv_of_nonneg (by omega)
        have z5 := wrap_in (x := d / g) (by omega) (by have := Int.ediv_le_self g (show 0 ≤ d by omega); omega)
        have z6 := wrap_in (x := b / g) (by omega) (by have := Int.ediv_le_self g (show 0 ≤ b by omega); omega)
        have w1 := wrap_in (x := a * (d / g)) (by omega) (by omega)
        have w2 := wrap_in (x := c * (b / g)) (by omega) (by omega)
        have w3 := wrap_in (x := a * (d / g) - c * (b / g)) (by omega) (by omega)
        have HD := fun W => Lib.hid (HD' W)
        clear h1 h2 e1 HD' s0 s1 p0 p1 q0 q1 t0 t1 m0 m1 m2 m3 m4 m5 k1 k2 hlt
        go_enter Try.func39, Try.ntmps39
        go_wp2_with fail
        refine (H1 _).out.mono ?_
        rintro e u1 ⟨rfl, hg⟩
        have B := (Bx.new W a b c d 67).grew hg.s
        clear hg
        have Y0 := B.Y.c0
        have Y1 := B.Y.c1
        go_wp2_with fail
        refine (H2 _).out.mono ?_
        rintro e u2 ⟨rfl, hg⟩
        replace B := B.grew hg.s
        clear hg Y0 Y1
        have X0 := B.X.c0
        have X1 := B.X.c1
        have Y0 := B.Y.c0
        have Y1 := B.Y.c1
        go_wp2_with fail
        refine (HD _).out.mono ?_
        rintro e u3 ⟨rfl, rfl⟩
        go_wp2_with fail
        
        go_region
        all_goals
          clear X0 X1 Y0 Y1
          have R0 := B.R.c0
          have R1 := B.R.c1
          have F2 := B.F.2
          have HG := Lib.hid B.G
          clear B
          go_wp2_with fail
          exact bodyPost_ret (v := .tuple #[shr 0 0, .int .i64 2]) (by simp [results, Try.results39, go_sem, R0, R1]) rfl ⟨rfl, (HG.out.set2 (B := W.heap.size + 1 + 1) (by omega) _ _).drew⟩
      · obtain ⟨e1, e2, e3⟩ := le_spec h1 h2 (by omega)
        rw [e1, e2, e3]
        obtain ⟨r2, r3, r4⟩ := k2 (by omega)
        rw [← r2, ← r3, ← r4]
        have hneg : ¬ (a * (d / gcdV b d) - c * (b / gcdV b d) < 0) := fun h => hlt (k1.1 h)
        have H3' := fun W => refOf_any (n := a * (d / gcdV b d) - c * (b / gcdV b d)) (d := b / gcdV b d * d) W (by omega) (by omega)
        generalize gcdV b d = g at *
        have hq0 : 0 ≤ b / g := Int.ediv_nonneg (by omega) (by omega)
        have hq1 : 0 ≤ d / g := Int.ediv_nonneg (by omega) (by omega)
        have z1 : g ≠ 0 := by omega
        have z2 : (g == 0) = false := beq_eq_false_iff_ne.2 z1
        have z3 : Int.tdiv d g = d / g := Int.tdiv_eq_ediv_of_nonneg (by omega)
        have z4 : Int.tdiv b g = b / g := Int.tdiv_eq_ediv_of_nonneg (by omega)
        have z5 := wrap_in (x := d / g) (by omega) (by have := Int.ediv_le_self g (show 0 ≤ d by omega); omega)
        have z6 := wrap_in (x := b / g) (by omega) (by have := Int.ediv_le_self g (show 0 ≤ b by omega); omega)
        have w1 := wrap_in (x := a * (d / g)) (by omega) (by omega)
        have w2 := wrap_in (x := c * (b / g)) (by omega) (by omega)
        have w3 := wrap_in (x := a * (d / g) - c * (b / g)) (by omega) (by omega)
        have w4 := wrap_in (x := b / g * d) (by omega) (by omega)
        generalize ofN (a * (d / g) - c * (b / g)) (b / g * d) = rn at *
        generalize ofD (a * (d / g) - c * (b / g)) (b / g * d) = rd at *
        generalize ofE (a * (d / g) - c * (b / g)) (b / g * d) = re at *
        have H3 := fun W => Lib.hid (H3' W)
        have HD := fun W => Lib.hid (HD' W)
        clear h1 h2 e1 e2 e3 H3' HD' s0 s1 p0 p1 q0 q1 t0 t1 r2 r3 r4 m0 m1 m2 m3 m4 m5 k1 k2 hlt
        go_enter Try.func39, Try.ntmps39
        go_wp2_with fail
        refine (H1 _).out.mono ?_
        rintro e u1 ⟨rfl, hg⟩
        have B := (Bx.new W a b c d 67).grew hg.s
        clear hg
        have Y0 := B.Y.c0
        have Y1 := B.Y.c1
        go_wp2_with fail
        refine (H2 _).out.mono ?_
        rintro e u2 ⟨rfl, hg⟩
        replace B := B.grew hg.s
        clear hg Y0 Y1
        have X0 := B.X.c0
        have X1 := B.X.c1
        have Y0 := B.Y.c0
        have Y1 := B.Y.c1
        go_wp2_with fail
        refine (HD _).out.mono ?_
        rintro e u3 ⟨rfl, rfl⟩
        go_wp2_with fail
        
        go_region
        clear X0 X1 Y0 Y1
        replace B := B.grew ((GrewS.refl u2).drew)
        generalize u2.drew = u4 at *
        have X0 := B.X.c0
        have X1 := B.X.c1
        have Y0 := B.Y.c0
        have Y1 := B.Y.c1
        go_upto_region 7 with fail
        obtain ⟨X, Y, R, FR, HGG⟩ := B
        have hg := Lib.hid HGG
        have ne_R_X : W.heap.size + 1 + 1 ≠ W.heap.size := by omega
        have ne_R_Y : W.heap.size + 1 + 1 ≠ W.heap.size + 1 := by omega
        have le_R : W.heap.size ≤ W.heap.size + 1 + 1 := by omega
        clear HGG X0 X1 Y0 Y1
        refine wp_region_anyN (fun w' => w'.cell? ⟨W.heap.size, 0, none⟩ = some (.int .i64 a) ∧ w'.cell? ⟨W.heap.size, 1, none⟩ = some (.int .i64 b) ∧ w'.cell? ⟨W.heap.size + 1, 0, none⟩ = some (.int .i64 c) ∧ w'.cell? ⟨W.heap.size + 1, 1, none⟩ = some (.int .i64 d)) 11 (by kernel_rfl) ?_
        replace X := X.drew
        replace Y := Y.drew
        replace R := R.drew
        replace FR := FR.drew
        replace hg := Lib.hid hg.out.drew
        generalize u4.drew = u4 at *
        have hS : u4.cell? ⟨W.heap.size, 0, none⟩ = some (.int .i64 a) ∧ u4.cell? ⟨W.heap.size, 1, none⟩ = some (.int .i64 b) ∧ u4.cell? ⟨W.heap.size + 1, 0, none⟩ = some (.int .i64 c) ∧ u4.cell? ⟨W.heap.size + 1, 1, none⟩ = some (.int .i64 d) := ⟨X.c0, X.c1, Y.c0, Y.c1⟩
        refine anyN_take 0 (v := ?_) rfl (by kernel_rfl) (by kernel_rfl) (by kernel_rfl) (by kernel_rfl) (by kernel_rfl) (fun _ _ _ h => h) (Or.inl ⟨by rfl, ?_⟩) (by assumption) ?_
        rotate_left
        · intro w hSw
          obtain ⟨_, _, _, _⟩ := hSw
          go_simp
          try with_reducible rfl
        simp only [Act.put, List.setIfInBounds_toArray, List.set_cons_zero, List.set_cons_succ]
        refine anyN_take 1 (v := ?_) rfl (by kernel_rfl) (by kernel_rfl) (by kernel_rfl) (by kernel_rfl) (by kernel_rfl) (fun _ _ _ h => h) (Or.inl ⟨by rfl, ?_⟩) (by assumption) ?_
        rotate_left
        · intro w hSw
          obtain ⟨_, _, _, _⟩ := hSw
          go_simp
          try with_reducible rfl
        simp only [Act.put, List.setIfInBounds_toArray, List.set_cons_zero, List.set_cons_succ]
        refine anyN_take 2 (v := ?_) rfl (by kernel_rfl) (by kernel_rfl) (by kernel_rfl) (by kernel_rfl) (by kernel_rfl) (fun _ _ _ h => h) (Or.inl ⟨by rfl, ?_⟩) (by assumption) ?_
        rotate_left
        · intro w hSw
          obtain ⟨_, _, _, _⟩ := hSw
          go_simp
          try with_reducible rfl
        simp only [Act.put, List.setIfInBounds_toArray, List.set_cons_zero, List.set_cons_succ]
        refine anyN_take 3 (v := ?_) rfl (by kernel_rfl) (by kernel_rfl) (by kernel_rfl) (by kernel_rfl) (by kernel_rfl) (fun _ _ _ h => h) (Or.inl ⟨by rfl, ?_⟩) (by assumption) ?_
        rotate_left
        · intro w hSw
          obtain ⟨_, _, _, _⟩ := hSw
          go_simp
          try with_reducible rfl
        simp only [Act.put, List.setIfInBounds_toArray, List.set_cons_zero, List.set_cons_succ]
        refine anyN_take 4 (v := ?_) rfl (by kernel_rfl) (by kernel_rfl) (by kernel_rfl) (by kernel_rfl) (by kernel_rfl) (fun _ _ _ h => h) (Or.inl ⟨by rfl, ?_⟩) (by assumption) ?_
        rotate_left
        · intro w hSw
          obtain ⟨_, _, _, _⟩ := hSw
          go_simp
          try with_reducible rfl
        simp only [Act.put, List.setIfInBounds_toArray, List.set_cons_zero, List.set_cons_succ]
        refine anyN_take 5 (v := ?_) rfl (by kernel_rfl) (by kernel_rfl) (by kernel_rfl) (by kernel_rfl) (by kernel_rfl) (fun _ _ _ h => h) (Or.inl ⟨by rfl, ?_⟩) (by assumption) ?_
        rotate_left
        · intro w hSw
          obtain ⟨_, _, _, _⟩ := hSw
          go_simp
          try with_reducible rfl
        simp only [Act.put, List.setIfInBounds_toArray, List.set_cons_zero, List.set_cons_succ]
        refine anyN_take 6 (v := ?_) rfl (by kernel_rfl) (by kernel_rfl) (by kernel_rfl) (by kernel_rfl) (by kernel_rfl) (fun _ _ _ h => h) (Or.inl ⟨by rfl, ?_⟩) (by assumption) ?_
        rotate_left
        · intro w hSw
          obtain ⟨_, _, _, _⟩ := hSw
          go_simp
          try with_reducible rfl
        simp only [Act.put, List.setIfInBounds_toArray, List.set_cons_zero, List.set_cons_succ]
        refine anyN_take 7 (v := ?_) rfl (by kernel_rfl) (by kernel_rfl) (by kernel_rfl) (by kernel_rfl) (by kernel_rfl) (fun _ _ _ h => h) (Or.inl ⟨by rfl, ?_⟩) (by assumption) ?_
        rotate_left
        · intro w hSw
          obtain ⟨_, _, _, _⟩ := hSw
          go_simp
          try with_reducible rfl
        simp only [Act.put, List.setIfInBounds_toArray, List.set_cons_zero, List.set_cons_succ]
        refine anyN_one 8 rfl (by kernel_rfl) rfl ?_
        go_simp
        (with_reducible refine (H3 _).out.mono ?_)
        rintro e wv1 ⟨rfl, hg1⟩
        have k1 := hg1.kp
        replace X := X.kp k1
        replace Y := Y.kp k1
        replace R := R.kp k1
        replace FR := FR.kp k1
        replace hg := Lib.hid (hg.out.trans hg1)
        clear k1 hg1
        dsimp only
        refine and_keep ⟨X.c0, X.c1, Y.c0, Y.c1⟩ (fun hS => ?_)
        refine anyN_take 9 (v := ?_) rfl (by kernel_rfl) (by kernel_rfl) (by kernel_rfl) (by kernel_rfl) (by kernel_rfl) (fun _ _ _ h => h) (Or.inl ⟨by rfl, ?_⟩) (by assumption) ?_
        rotate_left
        · intro w hSw
          obtain ⟨_, _, _, _⟩ := hSw
          go_simp
          try with_reducible rfl
        simp only [Act.put, List.setIfInBounds_toArray, List.set_cons_zero, List.set_cons_succ]
        refine anyN_take 10 (v := ?_) rfl (by kernel_rfl) (by kernel_rfl) (by kernel_rfl) (by kernel_rfl) (by kernel_rfl) (fun _ _ _ h => h) (Or.inl ⟨by rfl, ?_⟩) (by assumption) ?_
        rotate_left
        · intro w hSw
          obtain ⟨_, _, _, _⟩ := hSw
          go_simp
          try with_reducible rfl
        simp only [Act.put, List.setIfInBounds_toArray, List.set_cons_zero, List.set_cons_succ]
        have R_0 := R.c0
        have R_1 := R.c1
        have FR_2 := FR.2
        refine anyN_one 11 rfl (by kernel_rfl) rfl ?_
        go_simp
        clear R_0 R_1 FR_2
        replace X := X.far2 ne_R_X (.int .i64 rn) (.int .i64 rd)
        replace Y := Y.far2 ne_R_Y (.int .i64 rn) (.int .i64 rd)
        replace R := R.set (.int .i64 rn) (.int .i64 rd)
        replace FR := (FR.set ⟨(W.heap.size + 1 + 1), 0, none⟩ (.int .i64 rn)).set ⟨(W.heap.size + 1 + 1), 1, none⟩ (.int .i64 rd)
        replace hg := Lib.hid (hg.out.set2 (B := (W.heap.size + 1 + 1)) le_R (.int .i64 rn) (.int .i64 rd))
        generalize World.setCell _ _ _ = ws2 at *
        refine anyN_one 12 rfl (by kernel_rfl) rfl ?_
        go_simp
        refine anyN_done (by kernel_rfl) ?_
        clear hS
        clear X Y
        have R0 := R.c0
        have R1 := R.c1
        go_wp2_with fail
        exact bodyPost_ret (v := .tuple #[shr rn rd, .int .i64 re]) (by simp [results, Try.results39, go_sem, R0, R1]) rfl ⟨rfl, hg.out⟩
end Go.Proofs.Ytjffikiebeneaaa
