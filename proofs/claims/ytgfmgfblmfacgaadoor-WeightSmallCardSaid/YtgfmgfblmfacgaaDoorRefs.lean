/-
  The contracts of the reference's Scaled, Inverse, Ticks, Approx and Error.
-/
import Derived.Test.YtgfmgfblmfacgaaDoorMore
namespace Go.Proofs.YtgfmgfblmfacgaaDoor
open Go.RowKit

theorem refWeighs_low (w : Int) (W : World) (h1 : w < 1) :
    Calls Tryd.prog 40 #[.int .i64 w] W fun e w' => e = .returned (.bool false) ∧ W = w' := by
  go_enter Tryd.func40, Tryd.ntmps40
  go_wp2
  go_ret
  exact ⟨rfl, rfl⟩
theorem refWeighs_high (w : Int) (W : World) (h1 : 65536 < w) :
    Calls Tryd.prog 40 #[.int .i64 w] W fun e w' => e = .returned (.bool false) ∧ W = w' := by
  have h2 : 1 ≤ w := by omega
  have h6 : decide (w ≤ 65536) = false := decide_eq_false (by omega)
  clear h1
  go_enter Tryd.func40, Tryd.ntmps40
  go_wp2
  go_ret
  exact ⟨rfl, rfl⟩
theorem refWeighs_no (w : Int) (W : World) (h : w < 1 ∨ 65536 < w) :
    Calls Tryd.prog 40 #[.int .i64 w] W fun e w' => e = .returned (.bool false) ∧ W = w' := by
  rcases h with h | h
  · exact refWeighs_low w W h
  · exact refWeighs_high w W h

set_option maxHeartbeats 400000 in
theorem refInverse_any (w : Int) (W : World) :
    Calls Tryd.prog 30 #[.int .i64 w] W fun e w' => e = .returned (.tuple #[.int .i64 (inV w), .int .i64 (weE w)]) ∧ W = w' := by
  by_cases h : w < 1 ∨ 65536 < w
  · have hb := weB_false h
    refine Calls.mono (R := fun e w' => e = .returned (.tuple #[.int .i64 0, .int .i64 2]) ∧ W = w') ?_ fun e w' ⟨he, hw⟩ => ⟨he.trans (ret2 ?_ ?_), hw⟩
    · have H := fun W => Lib.hid (refWeighs_no w W h)
      clear hb h
      go_enter Tryd.func30, Tryd.ntmps30
      go_wp2_with (go_at_call 40; refine ((H _).out).mono ?_; rintro e w' ⟨rfl, rfl⟩)
      go_ret2
      exact ⟨rfl, rfl⟩
    · simp [inV, hb]
    · simp [weE, hb]
  · have h1 : 1 ≤ w := by omega
    have h2 : w ≤ 65536 := by omega
    have hb := weB_true h1 h2
    refine Calls.mono (R := fun e w' => e = .returned (.tuple #[.int .i64 (4294967296 / w), .int .i64 0]) ∧ W = w') ?_ fun e w' ⟨he, hw⟩ => ⟨he.trans (ret2 ?_ ?_), hw⟩
    · clear hb h
      go_enter Tryd.func30, Tryd.ntmps30
      go_wp2_with (go_at_call 40; refine (refWeighs_yes _ _ h1 h2).mono ?_; rintro e w' ⟨rfl, rfl⟩)
      go_ret2
      exact ⟨rfl, rfl⟩
    · simp [inV, hb]
    · simp [weE, hb]

theorem sub_mod (a w : Int) : a - a / w * w = a % w := by
  have := Int.emod_add_mul_ediv a w
  rw [Int.mul_comm] at this
  omega

set_option maxHeartbeats 400000 in
theorem refScaled_yes (d w : Int) (W : World) (h1 : 0 ≤ d) (h2 : d ≤ 4294967295) (h3 : 1 ≤ w) (h4 : w ≤ 65536) :
    Calls Tryd.prog 26 #[.int .i64 d, .int .i64 w] W fun e w' => e = .returned (.tuple #[.int .i64 (d * 1048576 / w), .int .i64 (d * 1048576 % w), .int .i64 0]) ∧ W = w' := by
  have HS := Lib.hid (sub_mod (d * 1048576) w)
  have hn : 0 ≤ d * 1048576 / w * w := Int.mul_nonneg (Int.ediv_nonneg (by omega) (by omega)) (by omega)
  have hm : d * 1048576 / w * w ≤ d * 1048576 := Int.ediv_mul_le _ (by omega)
  go_enter Tryd.func26, Tryd.ntmps26
  go_wp2_with (go_at_call 40; refine (refWeighs_yes _ _ h3 h4).mono ?_; rintro e w' ⟨rfl, rfl⟩)
  go_ret3
  exact ⟨ret3 rfl HS.out rfl, rfl⟩

set_option maxHeartbeats 400000 in
theorem refScaled_no (d w : Int) (W : World) (h : d < 0 ∨ 4294967295 < d ∨ w < 1 ∨ 65536 < w) :
    Calls Tryd.prog 26 #[.int .i64 d, .int .i64 w] W fun e w' => e = .returned (.tuple #[.int .i64 0, .int .i64 0, .int .i64 2]) ∧ W = w' := by
  by_cases h0 : d < 0
  · go_enter Tryd.func26, Tryd.ntmps26
    go_wp2
    go_ret3
    exact ⟨rfl, rfl⟩
  by_cases h1 : 4294967295 < d
  · have h2 : 0 ≤ d := by omega
    go_enter Tryd.func26, Tryd.ntmps26
    go_wp2
    go_ret3
    exact ⟨rfl, rfl⟩
  have h2 : 0 ≤ d := by omega
  have h3 : d ≤ 4294967295 := by omega
  have H := fun W => Lib.hid (refWeighs_no w W (by omega))
  clear h h0 h1
  go_enter Tryd.func26, Tryd.ntmps26
  go_wp2_with (go_at_call 40; refine ((H _).out).mono ?_; rintro e w' ⟨rfl, rfl⟩)
  go_ret3
  exact ⟨rfl, rfl⟩

theorem refScaled_any (d w : Int) (W : World) :
    Calls Tryd.prog 26 #[.int .i64 d, .int .i64 w] W fun e w' => e = .returned (.tuple #[.int .i64 (scV d w), .int .i64 (scR d w), .int .i64 (scE d w)]) ∧ W = w' := by
  rcases okB_cases d w with ⟨h1, h2, h3, h4⟩ | h
  · refine (refScaled_yes d w W h1 h2 h3 h4).mono fun e w' ⟨he, hw⟩ => ⟨he.trans (ret3 ?_ ?_ ?_), hw⟩ <;> simp [scV, scR, scE, okB_true h1 h2 h3 h4]
  · refine (refScaled_no d w W h).mono fun e w' ⟨he, hw⟩ => ⟨he.trans (ret3 ?_ ?_ ?_), hw⟩ <;> simp [scV, scR, scE, okB_false h]

/-- v * w by units. -/
theorem by_units (v rest w : Int) : v * w + rest = v / 1048576 * w * 1048576 + (v % 1048576 * w + rest) := by
  have h := Int.emod_add_mul_ediv v 1048576
  generalize v % 1048576 = r at *
  generalize v / 1048576 = q at *
  rw [← h, Int.add_mul, Int.mul_assoc, Int.mul_comm 1048576]
  omega

set_option maxHeartbeats 400000 in
theorem refTicks_yes (v rest w : Int) (W : World) (h1 : 1 ≤ w) (h2 : w ≤ 65536) (h3 : 0 ≤ v) (h4 : v ≤ 4503599626321920) (h5 : 0 ≤ rest) (h6 : rest ≤ w - 1) (h7 : v * w + rest ≤ 4503599627370495) :
    Calls Tryd.prog 29 #[.int .i64 v, .int .i64 rest, .int .i64 w] W fun e w' => e = .returned (.tuple #[.int .i64 ((v * w + rest) / 1048576), .int .i64 ((v * w + rest) % 1048576), .int .i64 0]) ∧ W = w' := by
  have e := by_units v rest w
  rw [e] at h7 ⊢
  have a0 : 0 ≤ v / 1048576 * w := Int.mul_nonneg (by omega) (by omega)
  have b0 : 0 ≤ v % 1048576 * w := Int.mul_nonneg (by omega) (by omega)
  have a1 : v / 1048576 * w ≤ 4294967295 := by omega
  have b1 : v % 1048576 * w ≤ 1048575 * 65536 := Int.mul_le_mul (by omega) h2 (by omega) (by omega)
  have c1 : v / 1048576 * w + (v % 1048576 * w + rest) / 1048576 ≤ 4294967295 := by omega
  have E1 := Lib.hid (show v / 1048576 * w + (v % 1048576 * w + rest) / 1048576 = (v / 1048576 * w * 1048576 + (v % 1048576 * w + rest)) / 1048576 by omega)
  have E2 := Lib.hid (show (v % 1048576 * w + rest) % 1048576 = (v / 1048576 * w * 1048576 + (v % 1048576 * w + rest)) % 1048576 by omega)
  clear e h7
  go_enter Tryd.func29, Tryd.ntmps29
  go_wp2_with (go_at_call 40; refine (refWeighs_yes _ _ h1 h2).mono ?_; rintro e w' ⟨rfl, rfl⟩)
  go_ret3
  exact ⟨ret3 E1.out E2.out rfl, rfl⟩

set_option maxHeartbeats 400000 in
theorem refTicks_long (v rest w : Int) (W : World) (h1 : 1 ≤ w) (h2 : w ≤ 65536) (h3 : 0 ≤ v) (h4 : v ≤ 4503599626321920) (h5 : 0 ≤ rest) (h6 : rest ≤ w - 1) (h7 : ¬ v * w + rest ≤ 4503599627370495) :
    Calls Tryd.prog 29 #[.int .i64 v, .int .i64 rest, .int .i64 w] W fun e w' => e = .returned (.tuple #[.int .i64 0, .int .i64 0, .int .i64 3]) ∧ W = w' := by
  have e := by_units v rest w
  rw [e] at h7
  have a0 : 0 ≤ v / 1048576 * w := Int.mul_nonneg (by omega) (by omega)
  have b0 : 0 ≤ v % 1048576 * w := Int.mul_nonneg (by omega) (by omega)
  have a1 : v / 1048576 * w ≤ 4294967295 * 65536 := Int.mul_le_mul (by omega) h2 (by omega) (by omega)
  have b1 : v % 1048576 * w ≤ 1048575 * 65536 := Int.mul_le_mul (by omega) h2 (by omega) (by omega)
  have c1 : 4294967295 < v / 1048576 * w + (v % 1048576 * w + rest) / 1048576 := by omega
  clear e h7
  go_enter Tryd.func29, Tryd.ntmps29
  go_wp2_with (go_at_call 40; refine (refWeighs_yes _ _ h1 h2).mono ?_; rintro e w' ⟨rfl, rfl⟩)
  go_ret3
  exact ⟨rfl, rfl⟩

set_option maxHeartbeats 1000000 in
theorem refTicks_bad (v rest w : Int) (W : World) (h : w < 1 ∨ 65536 < w ∨ v < 0 ∨ 4503599626321920 < v ∨ rest < 0 ∨ w - 1 < rest) :
    Calls Tryd.prog 29 #[.int .i64 v, .int .i64 rest, .int .i64 w] W fun e w' => e = .returned (.tuple #[.int .i64 0, .int .i64 0, .int .i64 2]) ∧ W = w' := by
  by_cases a1 : w < 1 ∨ 65536 < w
  · have H := fun W => Lib.hid (refWeighs_no w W a1)
    clear h a1
    go_enter Tryd.func29, Tryd.ntmps29
    go_wp2_with (go_at_call 40; refine ((H _).out).mono ?_; rintro e w' ⟨rfl, rfl⟩)
    go_ret3
    exact ⟨rfl, rfl⟩
  have b1 : 1 ≤ w := by omega
  have b2 : w ≤ 65536 := by omega
  by_cases a3 : v < 0
  · clear h a1
    go_enter Tryd.func29, Tryd.ntmps29
    go_wp2_with (go_at_call 40; refine (refWeighs_yes _ _ b1 b2).mono ?_; rintro e w' ⟨rfl, rfl⟩)
    go_ret3
    exact ⟨rfl, rfl⟩
  have b3 : 0 ≤ v := by omega
  by_cases a4 : 4503599626321920 < v
  · clear h a1 a3
    go_enter Tryd.func29, Tryd.ntmps29
    go_wp2_with (go_at_call 40; refine (refWeighs_yes _ _ b1 b2).mono ?_; rintro e w' ⟨rfl, rfl⟩)
    go_ret3
    exact ⟨rfl, rfl⟩
  have b4 : v ≤ 4503599626321920 := by omega
  by_cases a5 : rest < 0
  · clear h a1 a3 a4
    go_enter Tryd.func29, Tryd.ntmps29
    go_wp2_with (go_at_call 40; refine (refWeighs_yes _ _ b1 b2).mono ?_; rintro e w' ⟨rfl, rfl⟩)
    go_ret3
    exact ⟨rfl, rfl⟩
  have b5 : 0 ≤ rest := by omega
  have h6 : w ≤ rest := by omega
  clear h a1 a3 a4 a5
  go_enter Tryd.func29, Tryd.ntmps29
  go_wp2_with (go_at_call 40; refine (refWeighs_yes _ _ b1 b2).mono ?_; rintro e w' ⟨rfl, rfl⟩)
  go_ret3
  exact ⟨rfl, rfl⟩

theorem refTicks_any (v rest w : Int) (W : World) :
    Calls Tryd.prog 29 #[.int .i64 v, .int .i64 rest, .int .i64 w] W fun e w' => e = .returned (.tuple #[.int .i64 (tiV v rest w), .int .i64 (tiR v rest w), .int .i64 (tiE v rest w)]) ∧ W = w' := by
  by_cases h : w < 1 ∨ 65536 < w ∨ v < 0 ∨ 4503599626321920 < v ∨ rest < 0 ∨ w - 1 < rest
  · refine (refTicks_bad v rest w W h).mono fun e w' ⟨he, hw⟩ => ⟨he.trans (ret3 ?_ ?_ ?_), hw⟩ <;> simp [tiV, tiR, tiE, tiA_false h]
  · by_cases h7 : v * w + rest ≤ 4503599627370495
    · refine (refTicks_yes v rest w W (by omega) (by omega) (by omega) (by omega) (by omega) (by omega) h7).mono fun e w' ⟨he, hw⟩ => ⟨he.trans (ret3 ?_ ?_ ?_), hw⟩ <;> simp [tiV, tiR, tiE, tiA_true (v := v) (rest := rest) (w := w) (by omega) (by omega) (by omega) (by omega) (by omega) (by omega), tiB_true h7]
    · refine (refTicks_long v rest w W (by omega) (by omega) (by omega) (by omega) (by omega) (by omega) h7).mono fun e w' ⟨he, hw⟩ => ⟨he.trans (ret3 ?_ ?_ ?_), hw⟩ <;> simp [tiV, tiR, tiE, tiA_true (v := v) (rest := rest) (w := w) (by omega) (by omega) (by omega) (by omega) (by omega) (by omega), tiB_false h7]


theorem inv_ediv_bd (inv : Int) (m : Nat) (h0 : 0 ≤ inv) : 0 ≤ inv / 2 ^ m ∧ inv / 2 ^ m ≤ inv := by
  constructor
  · exact Int.ediv_nonneg h0 (Int.le_of_lt (Int.pow_pos (by omega)))
  · exact Int.ediv_le_self _ h0


theorem two_pow_half (inv : Int) (m : Nat) : inv / 2 ^ (m + 1) = inv / 2 ^ m / 2 := by
  rw [Int.pow_succ, Int.ediv_ediv_of_nonneg (Int.le_of_lt (Int.pow_pos (by omega)))]

/-- A round of the product, bit by bit: the bit is 1. -/
theorem bit_one (n p : Int) (hb : p % 2 = 1) :
    2 * (n * (p / 2) / 4294967296) + n / 4294967296 + (2 * (n * (p / 2) % 4294967296) + n % 4294967296) / 4294967296 = n * p / 4294967296 ∧
    (2 * (n * (p / 2) % 4294967296) + n % 4294967296) % 4294967296 = n * p % 4294967296 := by
  have e : n * p = 2 * (n * (p / 2)) + n := by
    have : p = 2 * (p / 2) + 1 := by omega
    conv => lhs; rw [this]
    rw [Int.mul_add, Int.mul_one, ← Int.mul_assoc, Int.mul_comm n 2, Int.mul_assoc]
  rw [e]
  generalize n * (p / 2) = q
  omega
theorem bit_zero (n p : Int) (hb : p % 2 = 0) :
    2 * (n * (p / 2) / 4294967296) + 2 * (n * (p / 2) % 4294967296) / 4294967296 = n * p / 4294967296 ∧
    2 * (n * (p / 2) % 4294967296) % 4294967296 = n * p % 4294967296 := by
  have e : n * p = 2 * (n * (p / 2)) := by
    have : p = 2 * (p / 2) := by omega
    conv => lhs; rw [this]
    rw [← Int.mul_assoc, Int.mul_comm n 2, Int.mul_assoc]
  rw [e]
  generalize n * (p / 2) = q
  omega

set_option maxHeartbeats 400000 in
theorem refApprox_yes (d w : Int) (W : World) (h1 : 0 ≤ d) (h2 : d ≤ 4294967295) (h3 : 1 ≤ w) (h4 : w ≤ 65536) :
    Calls Tryd.prog 31 #[.int .i64 d, .int .i64 w] W fun e w' => e = .returned (.tuple #[.int .i64 (d * 1048576 * (4294967296 / w) / 4294967296), .int .i64 0]) ∧ W = w' := by
  have hI := inv_bd w h3 h4
  have HV : ∀ W, Calls Tryd.prog 30 #[.int .i64 w] W fun e w' => e = .returned (.tuple #[.int .i64 (4294967296 / w), .int .i64 0]) ∧ W = w' := fun W => by
    refine (refInverse_any w W).mono fun e w' ⟨he, hw⟩ => ⟨he.trans (ret2 ?_ ?_), hw⟩ <;> simp [inV, weE, weB_true h3 h4]
  generalize hinv : 4294967296 / w = inv at hI HV ⊢
  have H := fun W => Lib.hid (HV W)
  clear HV hinv
  obtain ⟨i0, i1⟩ := hI
  go_enter Tryd.func31, Tryd.ntmps31
  go_wp2_with (first | (go_at_call 40; refine (refWeighs_yes _ _ h3 h4).mono ?_; rintro e w' ⟨rfl, rfl⟩) | (go_at_call 30; refine ((H _).out).mono ?_; rintro e w' ⟨rfl, rfl⟩))
  go_loop [8, 9, 10] (fun a b i => ∃ k : Nat, k ≤ 33 ∧ i = .int .i64 ((k : Int) - 1) ∧ a = .int .i64 (d * 1048576 * (inv / 2 ^ k) / 4294967296) ∧ b = .int .i64 (d * 1048576 * (inv / 2 ^ k) % 4294967296)) (fun _ _ i => (intOf i + 1).toNat)
  case atStart =>
    have e : inv / 2 ^ 33 = 0 := Int.ediv_eq_zero_of_lt (by omega) (by omega)
    exact ⟨33, Nat.le_refl _, rfl, by rw [e]; simp, by rw [e]; simp⟩
  case round =>
    obtain ⟨k, hk, rfl, rfl, rfl⟩ := hrel
    cases k with
    | zero =>
      go_wp2
      go_ret2
      exact ⟨ret2 (by simp) rfl, rfl⟩
    | succ m =>
      obtain ⟨q1, q2⟩ := inv_ediv_bd inv m (by omega)
      have ek : ((m + 1 : Nat) : Int) - 1 = m := by omega
      have hm : m ≤ 32 := by omega
      rw [ek, two_pow_half]
      have P1 := fun hb => Lib.hid (bit_one (d * 1048576) (inv / 2 ^ m) hb)
      have P0 := fun hb => Lib.hid (bit_zero (d * 1048576) (inv / 2 ^ m) hb)
      have A0 : 0 ≤ d * 1048576 * (inv / 2 ^ m / 2) := Int.mul_nonneg (by omega) (by omega)
      have A1 : d * 1048576 * (inv / 2 ^ m / 2) ≤ 4294967295 * 1048576 * 4294967296 := Int.mul_le_mul (by omega) (by omega) (by omega) (by omega)
      have A2 : d * 1048576 * (inv / 2 ^ m / 2) / 4294967296 ≤ 4503599626321920 := by omega
      have A3 : 0 ≤ d * 1048576 * (inv / 2 ^ m / 2) / 4294967296 := by omega
      have B0 : 0 ≤ d * 1048576 * (inv / 2 ^ m / 2) % 4294967296 := by omega
      have B1 : d * 1048576 * (inv / 2 ^ m / 2) % 4294967296 ≤ 4294967295 := by omega
      clear A0 A1 ek hk
      generalize d * 1048576 * (inv / 2 ^ m / 2) / 4294967296 = A at *
      generalize d * 1048576 * (inv / 2 ^ m / 2) % 4294967296 = B at *
      by_cases hb : inv / 2 ^ m % 2 = 1
      · have hb' : (inv / 2 ^ m % 2 == 1) = true := beq_iff_eq.2 hb
        have P := P1 hb
        clear hb P1 P0
        go_wp2
        go_round
        case rel => exact ⟨m, by omega, rfl, by rw [P.out.1], by rw [P.out.2]⟩
        case measure => simp [intOf]
      · have hb' : (inv / 2 ^ m % 2 == 1) = false := beq_eq_false_iff_ne.2 hb
        have P := P0 (by omega)
        clear hb P1 P0
        go_wp2
        go_round
        case rel => exact ⟨m, by omega, rfl, by rw [P.out.1], by rw [P.out.2]⟩
        case measure => simp [intOf]

set_option maxHeartbeats 400000 in
theorem refApprox_no (d w : Int) (W : World) (h : d < 0 ∨ 4294967295 < d ∨ w < 1 ∨ 65536 < w) :
    Calls Tryd.prog 31 #[.int .i64 d, .int .i64 w] W fun e w' => e = .returned (.tuple #[.int .i64 0, .int .i64 2]) ∧ W = w' := by
  by_cases h0 : d < 0
  · go_enter Tryd.func31, Tryd.ntmps31
    go_wp2
    go_ret2
    exact ⟨rfl, rfl⟩
  by_cases h1 : 4294967295 < d
  · have h2 : 0 ≤ d := by omega
    go_enter Tryd.func31, Tryd.ntmps31
    go_wp2
    go_ret2
    exact ⟨rfl, rfl⟩
  have h2 : 0 ≤ d := by omega
  have h3 : d ≤ 4294967295 := by omega
  have H := fun W => Lib.hid (refWeighs_no w W (by omega))
  clear h h0 h1
  go_enter Tryd.func31, Tryd.ntmps31
  go_wp2_with (go_at_call 40; refine ((H _).out).mono ?_; rintro e w' ⟨rfl, rfl⟩)
  go_ret2
  exact ⟨rfl, rfl⟩

theorem refApprox_any (d w : Int) (W : World) :
    Calls Tryd.prog 31 #[.int .i64 d, .int .i64 w] W fun e w' => e = .returned (.tuple #[.int .i64 (apV d w), .int .i64 (scE d w)]) ∧ W = w' := by
  rcases okB_cases d w with ⟨h1, h2, h3, h4⟩ | h
  · refine (refApprox_yes d w W h1 h2 h3 h4).mono fun e w' ⟨he, hw⟩ => ⟨he.trans (ret2 ?_ ?_), hw⟩ <;> simp [apV, scE, okB_true h1 h2 h3 h4]
  · refine (refApprox_no d w W h).mono fun e w' ⟨he, hw⟩ => ⟨he.trans (ret2 ?_ ?_), hw⟩ <;> simp [apV, scE, okB_false h]

set_option maxHeartbeats 400000 in
theorem refError_any (d w : Int) (W : World) :
    Calls Tryd.prog 32 #[.int .i64 d, .int .i64 w] W fun e w' => e = .returned (.tuple #[.int .i64 (scV d w - apV d w), .int .i64 (scE d w)]) ∧ W = w' := by
  obtain ⟨a1, a2⟩ := scV_bd d w
  obtain ⟨b1, b2⟩ := apV_bd d w
  go_enter Tryd.func32, Tryd.ntmps32
  go_wp2_with (first | (go_at_call 26; refine (refScaled_any _ _ _).mono ?_; rintro e w' ⟨rfl, rfl⟩) | (go_at_call 31; refine (refApprox_any _ _ _).mono ?_; rintro e w' ⟨rfl, rfl⟩))
  go_ret2
  exact ⟨rfl, rfl⟩
end Go.Proofs.YtgfmgfblmfacgaaDoor
