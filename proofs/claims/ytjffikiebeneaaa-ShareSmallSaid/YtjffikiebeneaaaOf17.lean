/-
  The contracts of Of, the program's and the reference's.
-/
import Derived.Test.YtjffikiebeneaaaRight17
import Derived.Test.YtjffikiebeneaaaCells4
namespace Go.Proofs.Ytjffikiebeneaaa
open Go.RowKit

theorem retS {a a' b b' k k' : Int} (h1 : a = a') (h2 : b = b') (h3 : k = k') : Ending.returned (.tuple #[shr a b, .int .i64 k]) = Ending.returned (.tuple #[shr a' b', .int .i64 k']) := by rw [h1, h2, h3]
theorem of_bad {n d : Int} (h : n < 0 ∨ d < 1) : ofE n d = 2 ∧ ofN n d = 0 ∧ ofD n d = 0 := by
  have e : ofE n d = 2 := by unfold ofE; rw [if_pos h]
  unfold ofN ofD
  rw [e]
  exact ⟨rfl, rfl, rfl⟩
theorem of_long {n d : Int} (h : ¬ (n < 0 ∨ d < 1)) (h2 : ¬ (rdN n d ≤ 2147483648 ∧ rdD n d ≤ 2147483648)) : ofE n d = 3 ∧ ofN n d = 0 ∧ ofD n d = 0 := by
  have e : ofE n d = 3 := by unfold ofE; rw [if_neg h, if_neg h2]
  unfold ofN ofD
  rw [e]
  exact ⟨rfl, rfl, rfl⟩
theorem rd_right {n d : Int} (h0 : 0 ≤ n) (h1 : 0 < d) : rightS (rdN n d) (rdD n d) = decide (rdN n d ≤ 2147483648 ∧ rdD n d ≤ 2147483648) := by
  obtain ⟨a0, b0, g, _⟩ := rd_spec h0 h1
  unfold rightS
  by_cases h : rdN n d ≤ 2147483648 ∧ rdD n d ≤ 2147483648
  · rw [decide_eq_true h, decide_eq_true (by omega)]
  · rw [decide_eq_false h, decide_eq_false (by omega)]

set_option maxHeartbeats 400000 in
theorem of_any {n d : Int} (W : World) (n1 : n ≤ 9223372036854775807) (d1 : d ≤ 9223372036854775807) :
    Calls Try.prog 25 #[.int .i64 n, .int .i64 d] W fun e w' => e = .returned (.tuple #[shr (ofN n d) (ofD n d), .int .i64 (ofE n d)]) ∧ GrewS W w' := by
  by_cases hb : n < 0 ∨ d < 1
  · obtain ⟨e1, e2, e3⟩ := of_bad hb
    rw [e1, e2, e3]
    clear e1 e2 e3
    by_cases h1 : n < 0
    · clear hb
      go_enter Try.func25, Try.ntmps25
      go_wp2_with fail
      exact bodyPost_ret (v := .tuple #[shr 0 0, .int .i64 2]) (by simp [results, Try.results25, go_sem]) rfl ⟨rfl, by repeat with_reducible first | exact GrewS.refl _ | apply GrewS.drewN | apply GrewS.drew | apply GrewS.alloc⟩
    · have h2 : d < 1 := by omega
      clear hb
      go_enter Try.func25, Try.ntmps25
      go_wp2_with fail
      exact bodyPost_ret (v := .tuple #[shr 0 0, .int .i64 2]) (by simp [results, Try.results25, go_sem]) rfl ⟨rfl, by repeat with_reducible first | exact GrewS.refl _ | apply GrewS.drewN | apply GrewS.drew | apply GrewS.alloc⟩
  · have n0 : 0 ≤ n := by omega
    have d0 : 1 ≤ d := by omega
    have H3' := fun W => gcd_any (a := n) (b := d) W n0 n1 (by omega) d1
    have hp := gcdV_pos (a := n) (b := d) (by omega)
    have HR' := fun W => right_any (rdN n d) (rdD n d) W
    rw [rd_right n0 (by omega)] at HR'
    have hN : n / gcdV n d = rdN n d := rfl
    have hD : d / gcdV n d = rdD n d := rfl
    by_cases hf : rdN n d ≤ 2147483648 ∧ rdD n d ≤ 2147483648
    · have e := ofE_ok n0 (by omega) hf.1 hf.2
      rw [(of_val e).1, (of_val e).2, e]
      rw [decide_eq_true hf] at HR'
      generalize rdN n d = x at *
      generalize rdD n d = y at *
      generalize gcdV n d = g at *
      have H3 := fun W => Lib.hid (H3' W)
      have HR := fun W => Lib.hid (HR' W)
      clear hb hf e H3' HR'
      go_enter Try.func25, Try.ntmps25
      go_wp2_with fail
      refine (H3 _).out.mono ?_
      rintro e w' ⟨rfl, k, rfl⟩
      go_wp2_with fail
      go_region
      all_goals
        go_wp2_with fail
        refine (HR _).out.mono ?_
        rintro e w' ⟨rfl, hg⟩
        have R : C2 w' W.heap.size (.int .i64 0) (.int .i64 0) := C2.kp (by repeat with_reducible first | exact C2.new W _ _ _ | apply C2.drewN | apply C2.drew | apply C2.alloc) hg.kp
        have X : C2 w' (W.heap.size + 1) (.int .i64 x) (.int .i64 y) := C2.kp (by simpa using C2.new ((W.alloc _).drewN _) (.int .i64 x) (.int .i64 y) 25) hg.kp
        have F : Fz w' W.heap.size := Fz.kp ((((Fz.new W _ _).kp ((Kp.refl _ _).drewN _))).alloc _) hg.kp
        have HG : GrewS W w' := GrewS.trans (by repeat with_reducible first | exact GrewS.refl _ | apply GrewS.drewN | apply GrewS.drew | apply GrewS.alloc) hg.s
        clear hg
        have R0 := R.c0
        have R1 := R.c1
        have X0 := X.c0
        have X1 := X.c1
        have F2 := F.2
        go_wp2_with fail
        exact bodyPost_ret (v := .tuple #[shr x y, .int .i64 0]) (by simp [results, Try.results25, go_sem, R0, R1]) rfl ⟨rfl, HG.set2 (Nat.le_refl _) _ _⟩
    · obtain ⟨e1, e2, e3⟩ := of_long hb hf
      rw [e1, e2, e3]
      rw [decide_eq_false hf] at HR'
      generalize rdN n d = x at *
      generalize rdD n d = y at *
      generalize gcdV n d = g at *
      have H3 := fun W => Lib.hid (H3' W)
      have HR := fun W => Lib.hid (HR' W)
      clear hb hf e1 e2 e3 H3' HR'
      go_enter Try.func25, Try.ntmps25
      go_wp2_with fail
      refine (H3 _).out.mono ?_
      rintro e w' ⟨rfl, k, rfl⟩
      go_wp2_with fail
      go_region
      all_goals
        go_wp2_with fail
        refine (HR _).out.mono ?_
        rintro e w' ⟨rfl, hg⟩
        have R : C2 w' W.heap.size (.int .i64 0) (.int .i64 0) := C2.kp (by repeat with_reducible first | exact C2.new W _ _ _ | apply C2.drewN | apply C2.drew | apply C2.alloc) hg.kp
        have X : C2 w' (W.heap.size + 1) (.int .i64 x) (.int .i64 y) := C2.kp (by simpa using C2.new ((W.alloc _).drewN _) (.int .i64 x) (.int .i64 y) 25) hg.kp
        have F : Fz w' W.heap.size := Fz.kp ((((Fz.new W _ _).kp ((Kp.refl _ _).drewN _))).alloc _) hg.kp
        have HG : GrewS W w' := GrewS.trans (by repeat with_reducible first | exact GrewS.refl _ | apply GrewS.drewN | apply GrewS.drew | apply GrewS.alloc) hg.s
        clear hg
        have R0 := R.c0
        have R1 := R.c1
        have X0 := X.c0
        have X1 := X.c1
        have F2 := F.2
        go_wp2_with fail
        exact bodyPost_ret (v := .tuple #[shr 0 0, .int .i64 3]) (by simp [results, Try.results25, go_sem, R0, R1]) rfl ⟨rfl, HG.set2 (Nat.le_refl _) _ _⟩

set_option maxHeartbeats 400000 in
theorem refOf_any {n d : Int} (W : World) (n1 : n ≤ 9223372036854775807) (d1 : d ≤ 9223372036854775807) :
    Calls Try.prog 42 #[.int .i64 n, .int .i64 d] W fun e w' => e = .returned (.tuple #[shr (ofN n d) (ofD n d), .int .i64 (ofE n d)]) ∧ GrewS W w' := by
  by_cases hb : n < 0 ∨ d < 1
  · obtain ⟨e1, e2, e3⟩ := of_bad hb
    rw [e1, e2, e3]
    clear e1 e2 e3
    by_cases h1 : n < 0
    · clear hb
      go_enter Try.func42, Try.ntmps42
      go_wp2_with fail
      exact bodyPost_ret (v := .tuple #[shr 0 0, .int .i64 2]) (by simp [results, Try.results42, go_sem]) rfl ⟨rfl, by repeat with_reducible first | exact GrewS.refl _ | apply GrewS.drewN | apply GrewS.drew | apply GrewS.alloc⟩
    · have h2 : d < 1 := by omega
      clear hb
      go_enter Try.func42, Try.ntmps42
      go_wp2_with fail
      exact bodyPost_ret (v := .tuple #[shr 0 0, .int .i64 2]) (by simp [results, Try.results42, go_sem]) rfl ⟨rfl, by repeat with_reducible first | exact GrewS.refl _ | apply GrewS.drewN | apply GrewS.drew | apply GrewS.alloc⟩
  · have n0 : 0 ≤ n := by omega
    have d0 : 1 ≤ d := by omega
    have H3' := fun W => divisor_any (a := n) (b := d) W n0 n1 (by omega) d1
    have hp := gcdV_pos (a := n) (b := d) (by omega)
    have hN : n / gcdV n d = rdN n d := rfl
    have hD : d / gcdV n d = rdD n d := rfl
    by_cases hf : rdN n d ≤ 2147483648 ∧ rdD n d ≤ 2147483648
    · have e := ofE_ok n0 (by omega) hf.1 hf.2
      rw [(of_val e).1, (of_val e).2, e]
      have hf1 := hf.1
      have hf2 := hf.2
      generalize rdN n d = x at *
      generalize rdD n d = y at *
      generalize gcdV n d = g at *
      have H3 := fun W => Lib.hid (H3' W)
      clear hb hf e H3'
      go_enter Try.func42, Try.ntmps42
      go_wp2_with fail
      refine (H3 _).out.mono ?_
      rintro e w' ⟨rfl, rfl⟩
      go_wp2_with fail
      go_region
      all_goals
        go_wp2_with fail
        exact bodyPost_ret (v := .tuple #[shr x y, .int .i64 0]) (by simp [results, Try.results42, go_sem]) rfl ⟨rfl, by repeat with_reducible first | exact GrewS.refl _ | apply GrewS.drewN | apply GrewS.drew | apply GrewS.more | apply GrewS.alloc | (refine GrewS.setCell ?_ (by first | (simp; done) | (simp; omega)) _)⟩
    · obtain ⟨e1, e2, e3⟩ := of_long hb hf
      rw [e1, e2, e3]
      have hf' : 2147483648 < rdN n d ∨ (rdN n d ≤ 2147483648 ∧ 2147483648 < rdD n d) := by omega
      generalize rdN n d = x at *
      generalize rdD n d = y at *
      generalize gcdV n d = g at *
      have H3 := fun W => Lib.hid (H3' W)
      clear hb hf e1 e2 e3 H3'
      rcases hf' with h | ⟨h, h'⟩
      all_goals
        go_enter Try.func42, Try.ntmps42
        go_wp2_with fail
        refine (H3 _).out.mono ?_
        rintro e w' ⟨rfl, rfl⟩
        go_wp2_with fail
        exact bodyPost_ret (v := .tuple #[shr 0 0, .int .i64 3]) (by simp [results, Try.results42, go_sem]) rfl ⟨rfl, by repeat with_reducible first | exact GrewS.refl _ | apply GrewS.drewN | apply GrewS.drew | apply GrewS.alloc⟩
end Go.Proofs.Ytjffikiebeneaaa
