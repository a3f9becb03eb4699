/-
  The walk of the law WeightApprox.
-/
import Derived.Test.YtgfmgfblmfacgaaDoorAwake
import Derived.Deep.RegionWith
import Derived.OpenShut
namespace Go.Proofs.YtgfmgfblmfacgaaDoor
open Go.RowKit

/-- At a power of 2 nothing is lost. -/
theorem pow_same (d : Int) (h1 : 0 ≤ d) (h2 : d ≤ 4294967295) : ∀ j : Fin 17, scV d (2 ^ (j : Nat)) - apV d (2 ^ (j : Nat)) = 0 ∧ scE d (2 ^ (j : Nat)) = 0 := by
  intro j
  have hb : ∀ j : Fin 17, (1 : Int) ≤ 2 ^ (j : Nat) ∧ (2 : Int) ^ (j : Nat) ≤ 65536 := by decide
  have hi : ∀ j : Fin 17, (4294967296 : Int) / 2 ^ (j : Nat) * 2 ^ (j : Nat) = 4294967296 := by decide
  obtain ⟨b1, b2⟩ := hb j
  have h := hi j
  generalize (2 : Int) ^ (j : Nat) = w at *
  simp only [scV, apV, scE, okB_true h1 h2 b1 b2, if_true, and_true]
  have e : d * 1048576 / w = d * 1048576 * (4294967296 / w) / 4294967296 := by
    have h3 : (0 : Int) < 4294967296 / w := by
      rcases Int.lt_or_le 0 (4294967296 / w) with h4 | h4
      · exact h4
      · have := Int.mul_le_mul_of_nonneg_right h4 (by omega : 0 ≤ w)
        omega
    generalize hq : 4294967296 / w = q at *
    rw [← h, Int.mul_comm q w, Int.mul_ediv_mul_of_pos_left _ _ h3]
  omega

theorem wrap_pow (j : Fin 17) : wrap64 (2 ^ (j : Nat)) = 2 ^ (j : Nat) := by
  have hb : ∀ j : Fin 17, (1 : Int) ≤ 2 ^ (j : Nat) ∧ (2 : Int) ^ (j : Nat) ≤ 65536 := by decide
  have h := hb j
  exact IntWalk.wrap64_in _ (by omega)

theorem error_pow (d X : Int) (W : World) (h1 : 0 ≤ d) (h2 : d ≤ 4294967295) (hX : ∃ j : Fin 17, X = 2 ^ (j : Nat)) :
    Calls Tryd.prog 20 #[.int .i64 d, .int .i64 X] W fun e w' => e = .returned (.tuple #[.int .i64 0, .int .i64 0]) ∧ ∃ n, w' = W.drewN n := by
  obtain ⟨j, rfl⟩ := hX
  have h := pow_same d h1 h2 j
  exact (error_any d _ W).mono fun e w' ⟨he, hw⟩ => ⟨he.trans (ret2 h.1 h.2), hw⟩

/-- The approximate virtual time is not greater, and less by at most N / 2^32 and 1. -/
theorem approx_near (N w : Int) (hN : 0 ≤ N) (h1 : 1 ≤ w) (h2 : w ≤ 65536) :
    4294967296 / w * w ≤ 4294967296 ∧ 4294967296 < (4294967296 / w + 1) * w ∧ 0 ≤ N / w - N * (4294967296 / w) / 4294967296 ∧ N / w - N * (4294967296 / w) / 4294967296 ≤ N / 4294967296 + 1 := by
  have hI := inv_bd w h1 h2
  have i1 := Int.ediv_mul_le 4294967296 (b := w) (by omega)
  have i2 : 4294967296 < (4294967296 / w + 1) * w := by
    have := Int.lt_ediv_add_one_mul_self 4294967296 (b := w) (by omega)
    exact this
  generalize 4294967296 / w = inv at *
  have v1 := Int.ediv_mul_le N (b := w) (by omega)
  have v2 := Int.lt_ediv_add_one_mul_self N (b := w) (by omega)
  have v0 : 0 ≤ N / w := Int.ediv_nonneg hN (by omega)
  generalize N / w = V at *
  refine ⟨i1, i2, ?_, ?_⟩
  · have hle : N * inv / 4294967296 ≤ V := by
      have : N * inv < (V + 1) * 4294967296 := by
        calc N * inv < ((V + 1) * w) * inv := Int.mul_lt_mul_of_pos_right v2 (by omega)
          _ = (V + 1) * (inv * w) := by rw [Int.mul_assoc, Int.mul_comm w inv]
          _ ≤ (V + 1) * 4294967296 := Int.mul_le_mul_of_nonneg_left i1 (by omega)
      omega
    omega
  · have key : V * 4294967296 ≤ N * inv + N := by
      calc V * 4294967296 ≤ V * ((inv + 1) * w) := Int.mul_le_mul_of_nonneg_left (by omega) v0
        _ = (V * w) * (inv + 1) := by rw [Int.mul_assoc, Int.mul_comm w (inv + 1)]
        _ ≤ N * (inv + 1) := Int.mul_le_mul_of_nonneg_right v1 (by omega)
        _ = N * inv + N := by rw [Int.mul_add, Int.mul_one]
    generalize N * inv = M at *
    omega

set_option maxRecDepth 100000 in
set_option maxHeartbeats 1000000 in
theorem weightApprox_walk (w0 : Int) (_ : (Lit.int .i64 w0).wf = true) (d0 : Int) (_ : (Lit.int .i64 d0).wf = true) (k : Int) (hk : (Lit.int .u8 k).wf = true) {W : World} (hT : TabW W) :
    Calls Tryd.prog 7 #[.int .i64 w0, .int .i64 d0, .int .u8 k] W fun e w' => e = .returned (.bool true) ∧ Kp W.heap.size W w' := by
  have m1 := fun W => Lib.hid (modulo_any w0 65536 W (by omega) (by omega))
  have m2 := fun W => Lib.hid (modulo_any d0 4294967296 W (by omega) (by omega))
  have p0 := Int.emod_nonneg w0 (b := 65536) (by omega)
  have p1 := Int.emod_lt_of_pos w0 (b := 65536) (by omega)
  have r0 := Int.emod_nonneg d0 (b := 4294967296) (by omega)
  have r1 := Int.emod_lt_of_pos d0 (b := 4294967296) (by omega)
  obtain ⟨k0, k1⟩ := bounds_u8 hk
  generalize w0 % 65536 = w at *
  generalize d0 % 4294967296 = d at *
  have hS := fun W => scaled_yes d (1 + w) W (by omega) (by omega) (by omega) (by omega)
  have hA := fun W => approx_yes d (1 + w) W (by omega) (by omega) (by omega) (by omega)
  have hI := fun W => inverse_yes (1 + w) W (by omega) (by omega)
  have hE : ∀ W, Calls Tryd.prog 20 #[.int .i64 d, .int .i64 (1 + w)] W fun e w' => e = .returned (.tuple #[.int .i64 (d * 1048576 / (1 + w) - d * 1048576 * (4294967296 / (1 + w)) / 4294967296), .int .i64 0]) ∧ ∃ n, w' = W.drewN n := fun W =>
    (error_any d (1 + w) W).mono fun e w' ⟨he, hw⟩ => ⟨he.trans (ret2 (by simp only [scV, apV, okB_true (d := d) (w := 1 + w) (by omega) (by omega) (by omega) (by omega), if_true]) (by simp only [scE, okB_true (d := d) (w := 1 + w) (by omega) (by omega) (by omega) (by omega), if_true])), hw⟩
  obtain ⟨n1, n2, n3, n4⟩ := approx_near (d * 1048576) (1 + w) (by omega) (by omega) (by omega)
  have b1 := inv_bd (1 + w) (by omega) (by omega)
  have b2 : 0 ≤ d * 1048576 / (1 + w) := Int.ediv_nonneg (by omega) (by omega)
  have b3 : d * 1048576 / (1 + w) ≤ d * 1048576 := Int.ediv_le_self _ (by omega)
  have b4 : 0 ≤ d * 1048576 * (4294967296 / (1 + w)) / 4294967296 := Int.ediv_nonneg (Int.mul_nonneg (by omega) (by omega)) (by omega)
  have b5 : (4294967296 / (1 + w) + 1) * (1 + w) ≤ 4294967297 * 65537 := Int.mul_le_mul (by omega) (by omega) (by omega) (by omega)
  have b6 : 0 ≤ 4294967296 / (1 + w) * (1 + w) := Int.mul_nonneg (by omega) (by omega)
  generalize d * 1048576 / (1 + w) = V at *
  generalize d * 1048576 * (4294967296 / (1 + w)) / 4294967296 = A at *
  generalize 4294967296 / (1 + w) = inv at *
  have n1' : decide (4294967296 < inv * (1 + w)) = false := decide_eq_false (by omega)
  have n2' : decide ((inv + 1) * (1 + w) ≤ 4294967296) = false := decide_eq_false (by omega)
  have HS := fun W => Lib.hid (hS W)
  have HA := fun W => Lib.hid (hA W)
  have HI := fun W => Lib.hid (hI W)
  have HE := fun W => Lib.hid (hE W)
  clear hS hA hI hE hk
  go_enter Tryd.func7, Tryd.ntmps7
  go_wp2_with fail
  refine (awake_any _ hT).mono ?_
  rintro e w' ⟨rfl, hk⟩
  go_wp2_with fail
  refine ((m1 _).out).mono ?_
  rintro e w' ⟨rfl, rfl⟩
  go_wp2_with fail
  refine ((m2 _).out).mono ?_
  rintro e w' ⟨rfl, rfl⟩
  go_wp2_with fail
  refine ((HS _).out).mono ?_
  rintro e w' ⟨rfl, q1, rfl⟩
  go_wp2_with fail
  refine ((HA _).out).mono ?_
  rintro e w' ⟨rfl, rfl⟩
  go_wp2_with fail
  refine ((HE _).out).mono ?_
  rintro e w' ⟨rfl, q2, rfl⟩
  go_wp2_with fail
  refine ((HI _).out).mono ?_
  rintro e w' ⟨rfl, rfl⟩
  go_wp2_with fail
  refine (error_pow d _ _ (by omega) (by omega) ?hX).mono ?_
  case hX =>
    have hj : (k % 17).toNat < 17 := by omega
    exact ⟨⟨(k % 17).toNat, hj⟩, wrap_pow ⟨(k % 17).toNat, hj⟩⟩
  rintro e w' ⟨rfl, q3, rfl⟩
  go_wp2_with fail
  go_ret
  exact ⟨rfl, hk.drewN _⟩
end Go.Proofs.YtgfmgfblmfacgaaDoor
