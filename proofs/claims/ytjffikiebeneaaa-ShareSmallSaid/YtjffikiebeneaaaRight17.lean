/-
  The contracts of Right, the program's and the reference's.
-/
import Derived.Test.YtjffikiebeneaaaKit17
namespace Go.Proofs.Ytjffikiebeneaaa
open Go.RowKit

theorem rightS_not {n d : Int} (h : rightS n d = false) : n < 0 ∨ 2147483648 < n ∨ d < 1 ∨ 2147483648 < d ∨ (0 ≤ n ∧ n ≤ 2147483648 ∧ 1 ≤ d ∧ d ≤ 2147483648 ∧ gcdV n d ≠ 1) := by
  have h := of_decide_eq_false h
  by_cases h1 : gcdV n d = 1
  · omega
  · omega

set_option maxHeartbeats 400000 in
theorem right_t {n d : Int} (W : World) (h : rightS n d = true) : Calls Try.prog 28 #[shr n d] W fun e w' => e = .returned (.bool true) ∧ Grew 1 W w' := by
  obtain ⟨n0, n1, d0, d1, hg⟩ := rightS_of h
  have H1 := fun W => Lib.hid (in_t (n := n) (l := 0) (h := 2147483648) W n0 n1)
  have H2 := fun W => Lib.hid (in_t (n := d) (l := 1) (h := 2147483648) W d0 d1)
  have H3' := fun W => gcd_any (a := n) (b := d) W n0 (by omega) (by omega) (by omega)
  rw [hg] at H3'
  have H3 := fun W => Lib.hid (H3' W)
  clear h hg H3'
  go_enter Try.func28, Try.ntmps28
  go_wp2_with fail
  refine (H1 _).out.mono ?_
  rintro e w' ⟨rfl, rfl⟩
  go_wp2_with fail
  refine (H2 _).out.mono ?_
  rintro e w' ⟨rfl, rfl⟩
  go_wp2_with fail
  refine (H3 _).out.mono ?_
  rintro e w' ⟨rfl, k, rfl⟩
  go_wp2_with fail
  go_region
  all_goals
    go_wp2
    go_ret
    exact ⟨by first | rfl | (simp; done), by first | exact ((Grew.zero W).alloc _).drewN _ | exact (((Grew.zero W).alloc _).drewN _).drewN 1 | exact (Grew.zero W).alloc _⟩

set_option maxHeartbeats 400000 in
theorem right_f {n d : Int} (W : World) (h : rightS n d = false) : Calls Try.prog 28 #[shr n d] W fun e w' => e = .returned (.bool false) ∧ Grew 1 W w' := by
  have h := rightS_not h
  by_cases h1 : n < 0 ∨ 2147483648 < n
  · have H1 := fun W => Lib.hid (in_f (n := n) (l := 0) (h := 2147483648) W h1)
    clear h h1
    go_enter Try.func28, Try.ntmps28
    go_wp2_with fail
    refine (H1 _).out.mono ?_
    rintro e w' ⟨rfl, rfl⟩
    go_wp2_with fail
    go_ret
    exact ⟨rfl, (Grew.zero W).alloc _⟩
  · have H1 := fun W => Lib.hid (in_t (n := n) (l := 0) (h := 2147483648) W (by omega) (by omega))
    by_cases h2 : d < 1 ∨ 2147483648 < d
    · have H2 := fun W => Lib.hid (in_f (n := d) (l := 1) (h := 2147483648) W h2)
      clear h h1 h2
      go_enter Try.func28, Try.ntmps28
      go_wp2_with fail
      refine (H1 _).out.mono ?_
      rintro e w' ⟨rfl, rfl⟩
      go_wp2_with fail
      refine (H2 _).out.mono ?_
      rintro e w' ⟨rfl, rfl⟩
      go_wp2_with fail
      go_ret
      exact ⟨rfl, (Grew.zero W).alloc _⟩
    · have H2 := fun W => Lib.hid (in_t (n := d) (l := 1) (h := 2147483648) W (by omega) (by omega))
      have n0 : 0 ≤ n := by omega
      have n1 : n ≤ 2147483648 := by omega
      have d0 : 1 ≤ d := by omega
      have d1 : d ≤ 2147483648 := by omega
      have hg : gcdV n d ≠ 1 := by omega
      have hp := gcdV_pos (a := n) (b := d) (by omega)
      have hl := gcdV_le (a := n) (b := d) (by omega)
      have H3' := fun W => gcd_any (a := n) (b := d) W n0 (by omega) (by omega) (by omega)
      generalize gcdV n d = g at *
      have H3 := fun W => Lib.hid (H3' W)
      have hlt : d / g < d := Int.ediv_lt_self_of_pos_of_ne_one (by omega) (by omega)
      have hne : (d == d / g) = false := beq_eq_false_iff_ne.2 (by omega)
      have hq0 : 0 ≤ d / g := Int.ediv_nonneg (by omega) (by omega)
      have hq1 : 0 ≤ n / g := Int.ediv_nonneg (by omega) (by omega)
      clear h h1 h2 H3' hlt hg
      go_enter Try.func28, Try.ntmps28
      go_wp2_with fail
      refine (H1 _).out.mono ?_
      rintro e w' ⟨rfl, rfl⟩
      go_wp2_with fail
      refine (H2 _).out.mono ?_
      rintro e w' ⟨rfl, rfl⟩
      go_wp2_with fail
      refine (H3 _).out.mono ?_
      rintro e w' ⟨rfl, k, rfl⟩
      go_wp2_with fail
      go_region
      all_goals
        go_wp2
        go_ret
        exact ⟨by first | rfl | (simp; done), by first | exact ((Grew.zero W).alloc _).drewN _ | exact (((Grew.zero W).alloc _).drewN _).drewN 1 | exact (Grew.zero W).alloc _⟩
theorem right_any (n d : Int) (W : World) : Calls Try.prog 28 #[shr n d] W fun e w' => e = .returned (.bool (rightS n d)) ∧ Grew 1 W w' := by
  cases h : rightS n d
  · exact right_f W h
  · exact right_t W h

set_option maxHeartbeats 400000 in
theorem refRight_t {n d : Int} (W : World) (h : rightS n d = true) : Calls Try.prog 43 #[shr n d] W fun e w' => e = .returned (.bool true) ∧ Grew 1 W w' := by
  obtain ⟨n0, n1, d0, d1, hg⟩ := rightS_of h
  have H3' := fun W => divisor_any (a := n) (b := d) W n0 (by omega) (by omega) (by omega)
  rw [hg] at H3'
  have H3 := fun W => Lib.hid (H3' W)
  clear h hg H3'
  go_enter Try.func43, Try.ntmps43
  go_wp2_with fail
  refine (H3 _).out.mono ?_
  rintro e w' ⟨rfl, rfl⟩
  go_wp2_with fail
  go_ret
  exact ⟨rfl, (Grew.zero W).alloc _⟩
set_option maxHeartbeats 400000 in
theorem refRight_f {n d : Int} (W : World) (h : rightS n d = false) : Calls Try.prog 43 #[shr n d] W fun e w' => e = .returned (.bool false) ∧ Grew 1 W w' := by
  have h := rightS_not h
  by_cases h1 : n < 0
  · clear h
    go_enter Try.func43, Try.ntmps43
    go_wp2_with fail
    go_ret
    exact ⟨rfl, (Grew.zero W).alloc _⟩
  by_cases h2 : 2147483648 < n
  · clear h h1
    go_enter Try.func43, Try.ntmps43
    go_wp2_with fail
    go_ret
    exact ⟨rfl, (Grew.zero W).alloc _⟩
  have n0 : 0 ≤ n := by omega
  have n1 : n ≤ 2147483648 := by omega
  by_cases h3 : d < 1
  · clear h h1 h2
    go_enter Try.func43, Try.ntmps43
    go_wp2_with fail
    go_ret
    exact ⟨rfl, (Grew.zero W).alloc _⟩
  have d0 : 1 ≤ d := by omega
  by_cases h4 : 2147483648 < d
  · clear h h1 h2 h3
    go_enter Try.func43, Try.ntmps43
    go_wp2_with fail
    go_ret
    exact ⟨rfl, (Grew.zero W).alloc _⟩
  have d1 : d ≤ 2147483648 := by omega
  have hg : gcdV n d ≠ 1 := by omega
  have H3' := fun W => divisor_any (a := n) (b := d) W n0 (by omega) (by omega) (by omega)
  generalize gcdV n d = g at *
  have H3 := fun W => Lib.hid (H3' W)
  have hne : (g == 1) = false := beq_eq_false_iff_ne.2 hg
  clear h h1 h2 h3 h4 hg H3'
  go_enter Try.func43, Try.ntmps43
  go_wp2_with fail
  refine (H3 _).out.mono ?_
  rintro e w' ⟨rfl, rfl⟩
  go_wp2_with fail
  go_ret
  exact ⟨rfl, (Grew.zero W).alloc _⟩
theorem refRight_any (n d : Int) (W : World) : Calls Try.prog 43 #[shr n d] W fun e w' => e = .returned (.bool (rightS n d)) ∧ Grew 1 W w' := by
  cases h : rightS n d
  · exact refRight_f W h
  · exact refRight_t W h
end Go.Proofs.Ytjffikiebeneaaa
