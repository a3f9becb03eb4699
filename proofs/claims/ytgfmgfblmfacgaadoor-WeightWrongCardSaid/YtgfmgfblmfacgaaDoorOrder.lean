/-
  The walk of the law WeightOrder.
-/
import Derived.Test.YtgfmgfblmfacgaaDoorAwake
import Derived.Deep.RegionWith
namespace Go.Proofs.YtgfmgfblmfacgaaDoor
open Go.RowKit

set_option maxHeartbeats 400000 in
theorem weighed_any (w d : Int) (W : World) :
    Calls Tryd.prog 18 #[.int .i64 w, .int .i64 d] W fun e w' => e = .returned (.tuple #[.int .i64 (1 + w % 65536), .int .i64 (d % 1073741824)]) ∧ W = w' := by
  have m1 := fun W => Lib.hid (modulo_any w 65536 W (by omega) (by omega))
  have m2 := fun W => Lib.hid (modulo_any d 1073741824 W (by omega) (by omega))
  have x0 := Int.emod_nonneg w (b := 65536) (by omega)
  have x1 := Int.emod_lt_of_pos w (b := 65536) (by omega)
  go_enter Tryd.func18, Tryd.ntmps18
  go_wp2_with fail
  refine ((m1 _).out).mono ?_
  rintro e w' ⟨rfl, rfl⟩
  go_wp2_with fail
  refine ((m2 _).out).mono ?_
  rintro e w' ⟨rfl, rfl⟩
  go_wp2_with fail
  go_ret2
  exact ⟨rfl, rfl⟩

theorem two_div (q w : Int) (hw : 1 ≤ w) : 0 ≤ 2 * q / w - 2 * (q / w) ∧ 2 * q / w - 2 * (q / w) ≤ 1 := by
  have h := Int.emod_add_mul_ediv q w
  have h0 := Int.emod_nonneg q (b := w) (by omega)
  have h1 := Int.emod_lt_of_pos q (b := w) (by omega)
  have e : 2 * q = 2 * (q % w) + w * (2 * (q / w)) := by rw [Int.mul_left_comm w 2]; omega
  rw [e, Int.add_mul_ediv_left _ _ (by omega : w ≠ 0)]
  have a0 : 0 ≤ 2 * (q % w) / w := Int.ediv_nonneg (by omega) (by omega)
  have a1 : 2 * (q % w) / w < 2 := by rw [Int.ediv_lt_iff_lt_mul (by omega)]; omega
  omega

set_option maxRecDepth 100000 in
set_option maxHeartbeats 4000000 in
/-- The walk, the values being whatever they are: 'P' says which way each comparison goes. -/
theorem weightOrder_core (w0 x0 d0 c0 w x d c a b h t half r1 r2 r3 r4 r5 : Int) (W : World) (hT : TabW W)
    (g1 : ∀ W, Hid (Calls Tryd.prog 18 #[.int .i64 w0, .int .i64 d0] W fun e w' => e = .returned (.tuple #[.int .i64 w, .int .i64 d]) ∧ W = w'))
    (g2 : ∀ W, Hid (Calls Tryd.prog 18 #[.int .i64 x0, .int .i64 c0] W fun e w' => e = .returned (.tuple #[.int .i64 x, .int .i64 c]) ∧ W = w'))
    (s1 : ∀ W, Hid (Calls Tryd.prog 16 #[.int .i64 d, .int .i64 w] W fun e w' => e = .returned (.tuple #[.int .i64 a, .int .i64 r1, .int .i64 0]) ∧ ∃ n, w' = W.drewN n))
    (s2 : ∀ W, Hid (Calls Tryd.prog 16 #[.int .i64 c, .int .i64 w] W fun e w' => e = .returned (.tuple #[.int .i64 b, .int .i64 r2, .int .i64 0]) ∧ ∃ n, w' = W.drewN n))
    (s3 : ∀ W, Hid (Calls Tryd.prog 16 #[.int .i64 d, .int .i64 x] W fun e w' => e = .returned (.tuple #[.int .i64 h, .int .i64 r3, .int .i64 0]) ∧ ∃ n, w' = W.drewN n))
    (s4 : ∀ W, Hid (Calls Tryd.prog 16 #[.int .i64 (2 * d), .int .i64 w] W fun e w' => e = .returned (.tuple #[.int .i64 t, .int .i64 r4, .int .i64 0]) ∧ ∃ n, w' = W.drewN n))
    (s5 : ∀ W, 2 * w ≤ 65536 → Hid (Calls Tryd.prog 16 #[.int .i64 d, .int .i64 (2 * w)] W fun e w' => e = .returned (.tuple #[.int .i64 half, .int .i64 r5, .int .i64 0]) ∧ ∃ n, w' = W.drewN n))
    (hw0 : 0 ≤ w) (hw1 : w ≤ 65536) (hd0 : 0 ≤ d) (hd1 : d ≤ 1073741824) (ha0 : 0 ≤ a) (ha1 : a ≤ 4503599626321920) (_ : 0 ≤ t) (_ : t ≤ 4503599626321920) (hh0 : 0 ≤ half) (hh1 : half ≤ 4503599626321920)
    (c1 : (decide (d ≤ c) = true ∧ decide (a ≤ b) = true) ∨ (decide (d ≤ c) = false ∧ decide (a ≤ b) = false) ∨ (decide (d ≤ c) = false ∧ decide (a ≤ b) = true ∧ (a != b) = false))
    (c2 : (decide (w ≤ x) = true ∧ decide (h ≤ a) = true) ∨ (decide (w ≤ x) = false ∧ decide (h ≤ a) = false) ∨ (decide (w ≤ x) = false ∧ decide (h ≤ a) = true ∧ (a != h) = false))
    (c3 : 0 ≤ t - 2 * a) (c4 : t - 2 * a ≤ 1) (c5 : 0 ≤ a - 2 * half) (c6 : a - 2 * half ≤ 1) :
    Calls Tryd.prog 6 #[.int .i64 w0, .int .i64 x0, .int .i64 d0, .int .i64 c0] W fun e w' => e = .returned (.bool true) ∧ Kp W.heap.size W w' := by
  have c3' : decide (t - 2 * a < 0) = false := decide_eq_false (by omega)
  have c4' : decide (1 < t - 2 * a) = false := decide_eq_false (by omega)
  have c7 : (2 * w ≤ 65536 ∧ decide (65536 < 2 * w) = false) ∨ (65536 < 2 * w) := by
    by_cases h : 2 * w ≤ 65536
    · exact Or.inl ⟨h, decide_eq_false (by omega)⟩
    · exact Or.inr (by omega)
  rcases c1 with ⟨c1, c1'⟩ | ⟨c1, c1'⟩ | ⟨c1, c1', c1''⟩ <;> rcases c2 with ⟨c2, c2'⟩ | ⟨c2, c2'⟩ | ⟨c2, c2', c2''⟩ <;> rcases c7 with ⟨c7, c8⟩ | c7
  all_goals
    go_enter Tryd.func6, Tryd.ntmps6
    go_wp2_with fail
    refine (awake_any _ hT).mono ?_
    rintro e w' ⟨rfl, hk⟩
    go_wp2_with fail
    refine ((g1 _).out).mono ?_
    rintro e w' ⟨rfl, rfl⟩
    go_wp2_with fail
    refine ((g2 _).out).mono ?_
    rintro e w' ⟨rfl, rfl⟩
    go_wp2_with fail
    refine ((s1 _).out).mono ?_
    rintro e w' ⟨rfl, n1, rfl⟩
    go_wp2_with fail
    refine ((s2 _).out).mono ?_
    rintro e w' ⟨rfl, n2, rfl⟩
    go_wp2_with fail
    refine ((s3 _).out).mono ?_
    rintro e w' ⟨rfl, n3, rfl⟩
    go_wp2_with fail
    refine ((s4 _).out).mono ?_
    rintro e w' ⟨rfl, n4, rfl⟩
    go_wp2_with fail
    first
      | (refine ((s5 _ (by omega)).out).mono ?_
         rintro e w' ⟨rfl, n5, rfl⟩
         go_wp2_with fail
         go_ret
         exact ⟨rfl, hk.drewN _⟩)
      | (go_ret
         exact ⟨rfl, hk.drewN _⟩)

theorem ediv_mono {p q w : Int} (hw : 1 ≤ w) (h : p ≤ q) : p / w ≤ q / w := Int.ediv_le_ediv (by omega) h
theorem ediv_anti {p w x : Int} (hp : 0 ≤ p) (hw : 1 ≤ w) (h : w ≤ x) : p / x ≤ p / w := by
  rw [Int.le_ediv_iff_mul_le (by omega)]
  have h1 : p / x * w ≤ p / x * x := Int.mul_le_mul_of_nonneg_left h (Int.ediv_nonneg hp (by omega))
  have h2 := Int.ediv_mul_le p (b := x) (by omega)
  omega

theorem weightOrder_walk (w0 : Int) (_ : (Lit.int .i64 w0).wf = true) (x0 : Int) (_ : (Lit.int .i64 x0).wf = true) (d0 : Int) (_ : (Lit.int .i64 d0).wf = true) (c0 : Int) (_ : (Lit.int .i64 c0).wf = true) {W : World} (hT : TabW W) :
    Calls Tryd.prog 6 #[.int .i64 w0, .int .i64 x0, .int .i64 d0, .int .i64 c0] W fun e w' => e = .returned (.bool true) ∧ Kp W.heap.size W w' := by
  have G1 := fun W => Lib.hid (weighed_any w0 d0 W)
  have G2 := fun W => Lib.hid (weighed_any x0 c0 W)
  have p0 := Int.emod_nonneg w0 (b := 65536) (by omega)
  have p1 := Int.emod_lt_of_pos w0 (b := 65536) (by omega)
  have q0 := Int.emod_nonneg x0 (b := 65536) (by omega)
  have q1 := Int.emod_lt_of_pos x0 (b := 65536) (by omega)
  have r0 := Int.emod_nonneg d0 (b := 1073741824) (by omega)
  have r1 := Int.emod_lt_of_pos d0 (b := 1073741824) (by omega)
  have s0 := Int.emod_nonneg c0 (b := 1073741824) (by omega)
  have s1 := Int.emod_lt_of_pos c0 (b := 1073741824) (by omega)
  generalize hw : 1 + w0 % 65536 = w at *
  generalize hx : 1 + x0 % 65536 = x at *
  generalize d0 % 1073741824 = d at *
  generalize c0 % 1073741824 = c at *
  have hT2 := two_div (d * 1048576) w (by omega)
  have hH : d * 1048576 / (2 * w) = d * 1048576 / w / 2 := by
    rw [Int.mul_comm 2 w, Int.ediv_ediv_of_nonneg (by omega)]
  have hm1 : d ≤ c → d * 1048576 / w ≤ c * 1048576 / w := fun h => ediv_mono (by omega) (by omega)
  have hm2 : c ≤ d → c * 1048576 / w ≤ d * 1048576 / w := fun h => ediv_mono (by omega) (by omega)
  have hm3 : w ≤ x → d * 1048576 / x ≤ d * 1048576 / w := fun h => ediv_anti (by omega) (by omega) h
  have hm4 : x ≤ w → d * 1048576 / w ≤ d * 1048576 / x := fun h => ediv_anti (by omega) (by omega) h
  have ha0 : 0 ≤ d * 1048576 / w := Int.ediv_nonneg (by omega) (by omega)
  have ha1 : d * 1048576 / w ≤ d * 1048576 := Int.ediv_le_self _ (by omega)
  refine weightOrder_core w0 x0 d0 c0 w x d c (d * 1048576 / w) (c * 1048576 / w) (d * 1048576 / x) (2 * d * 1048576 / w) (d * 1048576 / (2 * w)) (d * 1048576 % w) (c * 1048576 % w) (d * 1048576 % x) (2 * d * 1048576 % w) (d * 1048576 % (2 * w)) W hT G1 G2
    (fun W => scaled_yes d w W (by omega) (by omega) (by omega) (by omega)) (fun W => scaled_yes c w W (by omega) (by omega) (by omega) (by omega)) (fun W => scaled_yes d x W (by omega) (by omega) (by omega) (by omega))
    (fun W => scaled_yes (2 * d) w W (by omega) (by omega) (by omega) (by omega)) (fun W h => scaled_yes d (2 * w) W (by omega) (by omega) (by omega) h)
    (by omega) (by omega) (by omega) (by omega) ha0 (by omega) ?_ ?_ ?_ ?_ ?_ ?_ ?_ ?_ ?_ ?_
  · rw [Int.mul_assoc]; omega
  · rw [Int.mul_assoc]; omega
  · rw [hH]; omega
  · rw [hH]; omega
  · generalize d * 1048576 / w = a at *
    generalize c * 1048576 / w = b at *
    simp only [decide_eq_true_eq, decide_eq_false_iff_not, bne_eq_false_iff_eq]
    omega
  · generalize d * 1048576 / w = a at *
    generalize d * 1048576 / x = b at *
    simp only [decide_eq_true_eq, decide_eq_false_iff_not, bne_eq_false_iff_eq]
    omega
  · rw [Int.mul_assoc]; omega
  · rw [Int.mul_assoc]; omega
  · rw [hH]; omega
  · rw [hH]; omega
end Go.Proofs.YtgfmgfblmfacgaaDoor
