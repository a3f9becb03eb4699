/-
  The contracts of Equal, of tasks and of moves.
-/
import Derived.Test.YticgdfbknaholaaEqual27
namespace Go.Proofs.Yticgdfbknaholaa
open Go.RowKit

theorem KpS.drewN' {W w : World} (h : KpS W w) (n : Nat) : KpS W (w.drewN n) := Kp.drewN h n
theorem listT_eq_of {zs ys : List Tk} (hl : zs.length = ys.length) (h : ∀ k, k < zs.length → zs.getD k t0 = ys.getD k t0) : zs = ys := by
  refine List.ext_getElem hl (fun i h1 h2 => ?_)
  have := h i h1
  rw [List.getD_eq_getElem?_getD, List.getD_eq_getElem?_getD, List.getElem?_eq_getElem h1, List.getElem?_eq_getElem h2] at this
  exact this
instance : DecidableEq Tk := fun a b => by
  obtain ⟨i1, g1, w1, p1, m1, r1, v1, x1⟩ := a
  obtain ⟨i2, g2, w2, p2, m2, r2, v2, x2⟩ := b
  rw [Tk.mk.injEq]
  infer_instance
set_option maxRecDepth 100000 in
set_option maxHeartbeats 1000000 in
theorem equalT_any (W : World) {A B : Option Addr} {n c m d : Nat} {zs ys : List Tk} (hn : zs.length = n) (hm : ys.length = m) (hmax : n ≤ 3000000000000000000) (hmax2 : m ≤ 3000000000000000000) (ha : IsTks W A n zs) (hb : IsTks W B m ys) :
    Calls Try.prog 14 #[.slice A n c, .slice B m d] W fun e w' => e = .returned (.bool (decide (zs = ys))) ∧ ∃ m, w' = W.drewN m := by
  obtain ⟨R, hR⟩ : ∃ R, R = decide (zs = ys) := ⟨_, rfl⟩
  rw [← hR]
  have HR := Lib.hid hR
  have HA := Lib.hid ha
  have HB := Lib.hid hb
  have HN := Lib.hid hn
  have HM := Lib.hid hm
  clear hR ha hb hn hm
  by_cases hnm : n = m
  rotate_left
  · have h1 : ((n : Int) != (m : Int)) = true := bne_iff_ne.2 (by omega)
    have hf : R = false := by
      rw [HR.out]
      exact decide_eq_false (fun e => hnm (by rw [← HN.out, ← HM.out, e]))
    have HF := Lib.hid hf
    clear hf hnm
    go_enter Try.func14, Try.ntmps14
    go_wp2_with fail
    go_ret
    exact ⟨by rw [HF.out]; rfl, 0, rfl⟩
  subst hnm
  go_enter Try.func14, Try.ntmps14
  go_wp2_with fail
  go_loopw [13] (fun i wr => ∃ j : Nat, j ≤ n ∧ i = .int .i64 (j : Int) ∧ (∀ k, k < j → zs.getD k t0 = ys.getD k t0) ∧ ∃ m, wr = W.drewN m) (fun i _ => n - (intOf i).toNat)
  case atStart => exact ⟨0, Nat.zero_le _, rfl, fun k h => absurd h (Nat.not_lt_zero k), 0, rfl⟩
  case round =>
    obtain ⟨j, hj, rfl, hall, md, rfl⟩ := hrel
    have HALL := Lib.hid hall
    have HK := Lib.hid (show Kp W.heap.size W (W.drewN md) from (Kp.refl _ _).drewN md)
    clear hall
    by_cases hlt : j < n
    · have hji : (j : Int) < n := by omega
      obtain ⟨b1, o1, rfl, T1⟩ := HA.out j hlt
      obtain ⟨b2, o2, rfl, T2⟩ := HB.out j hlt
      obtain ⟨x, hx⟩ : ∃ x, x = zs.getD j t0 := ⟨_, rfl⟩
      obtain ⟨y, hy⟩ : ∃ y, y = ys.getD j t0 := ⟨_, rfl⟩
      rw [← hx] at T1
      rw [← hy] at T2
      have HX := Lib.hid hx
      have HY := Lib.hid hy
      clear hx hy
      by_cases he : x = y
      · subst he
        obtain ⟨c0, c1, c2, c3, c4, c5, c6, c7, cl⟩ := T1
        obtain ⟨d0, d1, d2, d3, d4, d5, d6, d7, dl⟩ := T2
        go_wp2_with fail
        go_quiet (fail)
        all_goals go_wp2_with fail
        all_goals
          go_roundw
          case rel =>
            refine ⟨j + 1, by omega, by go_num, fun k hk => ?_, md + nq, by first | rfl | exact World.drewN_drewN _ _ _⟩
            rcases Nat.lt_or_ge k j with h | h
            · exact HALL.out k h
            · have : k = j := by omega
              subst this
              rw [← HX.out, ← HY.out]
          case measure => simp [intOf]; omega
      · have hf : R = false := by
          rw [HR.out]
          exact decide_eq_false (fun e => he (by rw [HX.out, HY.out, e]))
        have HF := Lib.hid hf
        clear hf
        obtain ⟨i1, g1, w1, p1, m1, r1, v1, x1⟩ := x
        obtain ⟨i2, g2, w2, p2, m2, r2, v2, x2⟩ := y
        have hne : (!(i1 == i2 && (g1 == g2 && (w1 == w2 && (p1 == p2 && (m1 == m2 && (r1 == r2 && (v1 == v2 && x1 == x2)))))))) = true := by
          cases hq : (i1 == i2 && (g1 == g2 && (w1 == w2 && (p1 == p2 && (m1 == m2 && (r1 == r2 && (v1 == v2 && x1 == x2))))))) with
          | false => rfl
          | true =>
            simp only [Bool.and_eq_true, beq_iff_eq] at hq
            exact absurd ((Tk.mk.injEq ..).mpr hq) he
        obtain ⟨c0, c1, c2, c3, c4, c5, c6, c7, cl⟩ := T1
        obtain ⟨d0, d1, d2, d3, d4, d5, d6, d7, dl⟩ := T2
        go_wp2_with fail
        refine wp_region_quiet_lit (by kernel_rfl) (by kernel_rfl) ?_
        repeat (quiet_step (fail))
        refine wpQuiet_step (fun K hK => ?_)
        go_simp
        refine ⟨.bool true, fun a => ?_, ?_⟩
        · clear hK K
          have he' : ¬ (i1 = i2 ∧ g1 = g2 ∧ w1 = w2 ∧ p1 = p2 ∧ m1 = m2 ∧ r1 = r2 ∧ v1 = v2 ∧ x1 = x2) := fun h => he ((Tk.mk.injEq ..).mpr h)
          by_cases q1 : i1 = i2
          · rw [if_pos q1]
            by_cases q2 : g1 = g2
            · rw [if_pos q2]
              by_cases q3 : w1 = w2
              · rw [if_pos q3]
                by_cases q4 : p1 = p2
                · rw [if_pos q4]
                  by_cases q5 : m1 = m2
                  · rw [if_pos q5]
                    by_cases q6 : r1 = r2
                    · rw [if_pos q6]
                      by_cases q7 : v1 = v2
                      · rw [if_pos q7]
                        by_cases q8 : x1 = x2
                        · exact absurd ⟨q1, q2, q3, q4, q5, q6, q7, q8⟩ he'
                        · rw [if_neg q8]
                          exact ⟨rfl, rfl⟩
                      · rw [if_neg q7]
                        exact ⟨rfl, rfl⟩
                    · rw [if_neg q6]
                      exact ⟨rfl, rfl⟩
                  · rw [if_neg q5]
                    exact ⟨rfl, rfl⟩
                · rw [if_neg q4]
                  exact ⟨rfl, rfl⟩
              · rw [if_neg q3]
                exact ⟨rfl, rfl⟩
            · rw [if_neg q2]
              exact ⟨rfl, rfl⟩
          · rw [if_neg q1]
            exact ⟨rfl, rfl⟩
        · refine hK _ ?_
          clear hK K
          refine wpQuiet_nil ?_
          intro _ hw'
          obtain ⟨nq, hw''⟩ := hw'
          subst hw''
          go_wp2_with fail
          go_ret
          exact ⟨by rw [HF.out]; rfl, md + nq, by first | rfl | exact World.drewN_drewN _ _ _⟩
    · have hje : j = n := by omega
      subst hje
      have hjn : ¬ ((j : Int) < (j : Int)) := by omega
      have hf : R = true := by
        rw [HR.out]
        exact decide_eq_true (listT_eq_of (by rw [HN.out, HM.out]) (by rw [HN.out]; exact HALL.out))
      have HF := Lib.hid hf
      clear hf
      go_wp2_with fail
      go_ret
      exact ⟨by rw [HF.out]; rfl, md, rfl⟩
end Go.Proofs.Yticgdfbknaholaa
