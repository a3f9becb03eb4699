/-
  The walk of the law WeightLevels.
-/
import Derived.Test.YtgfmgfblmfacgaaDoorAwake
import Derived.Deep.RegionWith
namespace Go.Proofs.YtgfmgfblmfacgaaDoor
open Go.RowKit

theorem lev_back : ∀ l : Fin 36, lvV (tab.getD l 0) = l ∧ weE (tab.getD l 0) = 0 := by decide
theorem lev_falls : ∀ l : Fin 35, tab.getD (l + 1) 0 < tab.getD l 0 ∧ 1 ≤ tab.getD (l + 1) 0 ∧ 4 * tab.getD l 0 - 9 ≤ 5 * tab.getD (l + 1) 0 ∧ 5 * tab.getD (l + 1) 0 ≤ 4 * tab.getD l 0 + 9 := by decide

theorem levF_spec (w : Int) : ∀ f k, k + f = 36 → (∀ j, j < k → w < tab.getD j 0) →
    levF w f k ≤ 35 ∧ (∀ j, j < levF w f k → w < tab.getD j 0) ∧ (tab.getD (levF w f k) 0 ≤ w ∨ (levF w f k = 35 ∧ w < tab.getD 35 0))
  | 0, k, hk, h => by
    have h35 : w < tab.getD 35 0 := h 35 (by omega)
    exact ⟨Nat.le_refl _, fun j hj => h j (by simp only [levF] at hj; omega), Or.inr ⟨rfl, h35⟩⟩
  | f + 1, k, hk, h => by
    unfold levF
    by_cases hc : tab.getD k 0 ≤ w
    · rw [if_pos hc]
      exact ⟨by omega, h, Or.inl hc⟩
    · rw [if_neg hc]
      refine levF_spec w f (k + 1) (by omega) (fun j hj => ?_)
      rcases Nat.lt_or_ge j k with h1 | h1
      · exact h j h1
      · have : j = k := by omega
        subst this
        omega

set_option maxRecDepth 100000 in
set_option maxHeartbeats 1000000 in
theorem weightLevels_walk (w0 : Int) (_ : (Lit.int .i64 w0).wf = true) {W : World} (hT : TabW W) :
    Calls Tryd.prog 8 #[.int .i64 w0] W fun e w' => e = .returned (.bool true) ∧ Kp W.heap.size W w' := by
  have m1 := fun W => Lib.hid (modulo_any w0 65536 W (by omega) (by omega))
  have p0 := Int.emod_nonneg w0 (b := 65536) (by omega)
  have p1 := Int.emod_lt_of_pos w0 (b := 65536) (by omega)
  have hpos := hT.pos
  generalize w0 % 65536 = w at *
  go_enter Tryd.func8, Tryd.ntmps8
  go_wp2_with fail
  refine (awake_any _ hT).mono ?_
  rintro e w' ⟨rfl, hk⟩
  have hT2 : TabW w' := hT.kp hk hpos
  have HK := Lib.hid hk
  have HT := Lib.hid hT2
  clear hk hT hT2
  go_wp2_with fail
  refine ((m1 _).out).mono ?_
  rintro e w' ⟨rfl, rfl⟩
  go_wp2_with fail
  go_loop [3, 19] (fun t i => ∃ k : Nat, k ≤ 36 ∧ i = .int .i64 k ∧ t = .int .i64 (match k with | 0 => 65537 | m + 1 => tab.getD m 0)) (fun _ i => 36 - (intOf i).toNat)
  case atStart => exact ⟨0, Nat.zero_le _, rfl, rfl⟩
  case round =>
    obtain ⟨k, hk, rfl, rfl⟩ := hrel
    by_cases hlt : (k : Int) < 36
    · cases k with
      | zero =>
        have ho := Lib.hid (of_yes 0 w' HT.out (by decide))
        have hl := Lib.hid (level_any 56856 w' HT.out)
        rw [show lvV 56856 = 0 by decide, show weE 56856 = 0 by decide] at hl
        go_wp2_with fail
        refine (ho.out).mono ?_
        rintro e w' ⟨rfl, rfl⟩
        go_wp2_with fail
        refine (hl.out).mono ?_
        rintro e w' ⟨rfl, rfl⟩
        go_wp2_with fail
        go_round
        case rel => exact ⟨1, by omega, rfl, rfl⟩
        case measure => simp [intOf]
      | succ m =>
        have ho := of_yes (m + 1) w' HT.out (by omega)
        have hl := level_any (tab.getD (m + 1) 0) w' HT.out
        have hb := lev_back ⟨m + 1, by omega⟩
        simp only at hb
        rw [hb.1, hb.2] at hl
        have hf := lev_falls ⟨m, by omega⟩
        have hd := tab_bd ⟨m, by omega⟩
        simp only at hf hd
        obtain ⟨f1, f2, f3, f4⟩ := hf
        obtain ⟨d1, d2⟩ := hd
        clear hb
        simp only
        generalize hxe : tab.getD (m + 1) 0 = x at *
        generalize tab.getD m 0 = last at *
        have HX := Lib.hid hxe
        have g1 : decide (last ≤ x) = false := decide_eq_false (by omega)
        have g2 : decide (x < 1) = false := decide_eq_false (by omega)
        have g3 : decide (5 * x < 4 * last - 9) = false := decide_eq_false (by omega)
        have g4 : decide (4 * last + 9 < 5 * x) = false := decide_eq_false (by omega)
        have HO := Lib.hid ho
        have HL := Lib.hid hl
        clear ho hl hxe
        go_wp2_with fail
        refine (HO.out).mono ?_
        rintro e w' ⟨rfl, rfl⟩
        go_wp2_with fail
        refine (HL.out).mono ?_
        rintro e w' ⟨rfl, rfl⟩
        go_wp2_with fail
        go_round
        case rel => exact ⟨m + 2, by omega, by go_num, by simp only [HX.out]⟩
        case measure => simp [intOf]; omega
    · have hz : k = 36 := by omega
      subst hz
      clear hlt hk
      obtain ⟨s1, s2, s3⟩ := levF_spec (1 + w) 36 0 rfl (fun j hj => by omega)
      have hl := level_yes (1 + w) w' HT.out (by omega) (by omega)
      generalize levF (1 + w) 36 0 = L at *
      have ho := of_yes L w' HT.out (by omega)
      have HL := Lib.hid hl
      have HO := Lib.hid ho
      clear hl ho
      rcases s3 with s3 | ⟨rfl, s3⟩
      · cases L with
        | zero =>
          have s4 : (56856 : Int) ≤ 1 + w := s3
          have g : decide (1 + w < 65537) = true := decide_eq_true (by omega)
          have HO2 : Hid (Calls Tryd.prog 22 #[.int .i64 0] w' fun e w1 => e = .returned (.tuple #[.int .i64 56856, .int .i64 0]) ∧ w' = w1) := HO
          have HL2 : Hid (Calls Tryd.prog 23 #[.int .i64 (1 + w)] w' fun e w1 => e = .returned (.tuple #[.int .i64 0, .int .i64 0]) ∧ w' = w1) := HL
          clear s1 s2 s3 HO HL
          go_wp2_with fail
          refine (HL2.out).mono ?_
          rintro e w' ⟨rfl, rfl⟩
          go_wp2_with fail
          refine (HO2.out).mono ?_
          rintro e w' ⟨rfl, rfl⟩
          go_wp2_with fail
          go_ret
          exact ⟨rfl, HK.out⟩
        | succ m =>
          have s4 := s2 m (by omega)
          have hp := of_yes m w' HT.out (by omega)
          have hd := tab_bd ⟨m, by omega⟩
          have hd2 := tab_bd ⟨m + 1, by omega⟩
          simp only at hd hd2
          obtain ⟨d1, d2⟩ := hd
          obtain ⟨d3, d4⟩ := hd2
          clear s2
          generalize tab.getD (m + 1) 0 = x at *
          generalize tab.getD m 0 = more at *
          have HP := Lib.hid hp
          clear hp
          have hm34 : m ≤ 34 := by omega
          have g1 : decide (1 + w < x) = false := decide_eq_false (by omega)
          by_cases h34 : ((m : Int) + 1 == 35) = true
          · clear s1
            go_wp2_with fail
            refine (HL.out).mono ?_
            rintro e w' ⟨rfl, rfl⟩
            go_wp2_with fail
            refine (HO.out).mono ?_
            rintro e w' ⟨rfl, rfl⟩
            go_wp2_with fail
            refine (HP.out).mono ?_
            rintro e w' ⟨rfl, rfl⟩
            go_wp2_with fail
            go_ret
            exact ⟨rfl, HK.out⟩
          · have h35 : ((m : Int) + 1 == 35) = false := by simpa using h34
            clear s1 h34
            go_wp2_with fail
            refine (HL.out).mono ?_
            rintro e w' ⟨rfl, rfl⟩
            go_wp2_with fail
            refine (HO.out).mono ?_
            rintro e w' ⟨rfl, rfl⟩
            go_wp2_with fail
            refine (HP.out).mono ?_
            rintro e w' ⟨rfl, rfl⟩
            go_wp2_with fail
            go_ret
            exact ⟨rfl, HK.out⟩
      · have s4 : 1 + w < 23 := s3
        have HO2 : Hid (Calls Tryd.prog 22 #[.int .i64 35] w' fun e w1 => e = .returned (.tuple #[.int .i64 23, .int .i64 0]) ∧ w' = w1) := HO
        have HL2 : Hid (Calls Tryd.prog 23 #[.int .i64 (1 + w)] w' fun e w1 => e = .returned (.tuple #[.int .i64 35, .int .i64 0]) ∧ w' = w1) := HL
        clear s1 s2 s3 HO HL
        go_wp2_with fail
        refine (HL2.out).mono ?_
        rintro e w' ⟨rfl, rfl⟩
        go_wp2_with fail
        refine (HO2.out).mono ?_
        rintro e w' ⟨rfl, rfl⟩
        go_wp2_with fail
        go_ret
        exact ⟨rfl, HK.out⟩
end Go.Proofs.YtgfmgfblmfacgaaDoor
