/-
  The contract of Equal, of whole numbers.
-/
import Derived.Test.YticgdfbknaholaaSame27
namespace Go.Proofs.Yticgdfbknaholaa
open Go.RowKit

set_option maxRecDepth 100000 in
set_option maxHeartbeats 1000000 in
theorem equalI_any (W : World) {A B : Option Addr} {n c m d : Nat} {zs ys : List Int} (hn : zs.length = n) (hm : ys.length = m) (hmax : n ≤ 3000000000000000000) (hmax2 : m ≤ 3000000000000000000) (ha : IsInts W .i64 A n zs) (hb : IsInts W .i64 B m ys) :
    Calls Try.prog 28 #[.slice A n c, .slice B m d] W fun e w' => e = .returned (.bool (decide (zs = ys))) ∧ ∃ m, w' = W.drewN m := by
  obtain ⟨R, hR⟩ : ∃ R, R = decide (zs = ys) := ⟨_, rfl⟩
  rw [← hR]
  have HR := Lib.hid hR
  have HA := Lib.hid ha
  have HB := Lib.hid hb
  have HN := Lib.hid hn
  have HM := Lib.hid hm
  clear hR ha hb hn hm
  by_cases hnm : n = m
  rotate_left
  · have h1 : ((n : Int) != (m : Int)) = true := bne_iff_ne.2 (by omega)
    have hf : R = false := by
      rw [HR.out]
      exact decide_eq_false (fun e => hnm (by rw [← HN.out, ← HM.out, e]))
    have HF := Lib.hid hf
    clear hf hnm
    go_enter Try.func28, Try.ntmps28
    go_wp2_with fail
    go_ret
    exact ⟨by rw [HF.out]; rfl, 0, rfl⟩
  subst hnm
  go_enter Try.func28, Try.ntmps28
  go_wp2_with fail
  go_loopw [13] (fun i wr => ∃ j : Nat, j ≤ n ∧ i = .int .i64 (j : Int) ∧ (∀ k, k < j → zs.getD k 0 = ys.getD k 0) ∧ ∃ m, wr = W.drewN m) (fun i _ => n - (intOf i).toNat)
  case atStart => exact ⟨0, Nat.zero_le _, rfl, fun k h => absurd h (Nat.not_lt_zero k), 0, rfl⟩
  case round =>
    obtain ⟨j, hj, rfl, hall, md, rfl⟩ := hrel
    have HALL := Lib.hid hall
    have HK := Lib.hid (show Kp W.heap.size W (W.drewN md) from (Kp.refl _ _).drewN md)
    clear hall
    by_cases hlt : j < n
    · have hji : (j : Int) < n := by omega
      obtain ⟨b1, o1, rfl, hlt1, c1⟩ := HA.out j hlt
      obtain ⟨b2, o2, rfl, hlt2, c2⟩ := HB.out j hlt
      obtain ⟨x, hx⟩ : ∃ x, x = zs.getD j 0 := ⟨_, rfl⟩
      obtain ⟨y, hy⟩ : ∃ y, y = ys.getD j 0 := ⟨_, rfl⟩
      rw [← hx] at c1
      rw [← hy] at c2
      have HX := Lib.hid hx
      have HY := Lib.hid hy
      clear hx hy
      by_cases he : x = y
      · subst he
        go_wp2_with fail
        go_quiet (fail)
        all_goals go_wp2_with fail
        all_goals
          go_roundw
          case rel =>
            refine ⟨j + 1, by omega, by go_num, fun k hk => ?_, md + nq, by first | rfl | exact World.drewN_drewN _ _ _⟩
            rcases Nat.lt_or_ge k j with h | h
            · exact HALL.out k h
            · have : k = j := by omega
              subst this
              rw [← HX.out, ← HY.out]
          case measure => simp [intOf]; omega
      · have hne : (x != y) = true := bne_iff_ne.2 he
        have hf : R = false := by
          rw [HR.out]
          exact decide_eq_false (fun e => he (by rw [HX.out, HY.out, e]))
        have HF := Lib.hid hf
        clear hf
        go_wp2_with fail
        go_quiet (fail)
        all_goals go_wp2_with fail
        all_goals
          go_ret
          exact ⟨by rw [HF.out]; rfl, md + nq, by first | rfl | exact World.drewN_drewN _ _ _⟩
    · have hje : j = n := by omega
      subst hje
      have hjn : ¬ ((j : Int) < (j : Int)) := by omega
      have hf : R = true := by
        rw [HR.out]
        exact decide_eq_true (list_eq_of (by rw [HN.out, HM.out]) (by rw [HN.out]; exact HALL.out))
      have HF := Lib.hid hf
      clear hf
      go_wp2_with fail
      go_ret
      exact ⟨by rw [HF.out]; rfl, md, rfl⟩
end Go.Proofs.Yticgdfbknaholaa
