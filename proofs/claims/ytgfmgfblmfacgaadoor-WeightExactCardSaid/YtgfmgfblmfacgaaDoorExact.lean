/-
  The walk of the law WeightExact.
-/
import Derived.Test.YtgfmgfblmfacgaaDoorAwake
import Derived.Deep.RegionWith
namespace Go.Proofs.YtgfmgfblmfacgaaDoor
open Go.RowKit

/-- The ticks of a virtual time and its rest. -/
theorem back_eq (d w : Int) (h1 : 0 ≤ d) (h2 : d ≤ 4294967295) (h3 : 1 ≤ w) (h4 : w ≤ 65536) :
    tiV (d * 1048576 / w) (d * 1048576 % w) w = d ∧ tiR (d * 1048576 / w) (d * 1048576 % w) w = 0 ∧ tiE (d * 1048576 / w) (d * 1048576 % w) w = 0 := by
  have e : d * 1048576 / w * w + d * 1048576 % w = d * 1048576 := by
    have h := Int.emod_add_mul_ediv (d * 1048576) w
    rw [Int.mul_comm w] at h
    omega
  have a0 := Int.ediv_nonneg (a := d * 1048576) (b := w) (by omega) (by omega)
  have a1 := Int.ediv_le_self (a := d * 1048576) w (by omega)
  have b0 := Int.emod_nonneg (d * 1048576) (b := w) (by omega)
  have b1 := Int.emod_lt_of_pos (d * 1048576) (b := w) (by omega)
  have hA := tiA_true (v := d * 1048576 / w) (rest := d * 1048576 % w) (w := w) h3 h4 a0 (by omega) b0 (by omega)
  have hB := tiB_true (v := d * 1048576 / w) (rest := d * 1048576 % w) (w := w) (by omega)
  simp only [tiV, tiR, tiE, hA, hB, e, Bool.and_self, if_true]
  exact ⟨by omega, by omega, trivial⟩

set_option maxRecDepth 100000 in
set_option maxHeartbeats 400000 in
theorem weightExact_walk (x : Int) (_ : (Lit.int .i64 x).wf = true) (y : Int) (_ : (Lit.int .i64 y).wf = true) {W : World} (hT : TabW W) :
    Calls Tryd.prog 4 #[.int .i64 x, .int .i64 y] W fun e w' => e = .returned (.bool true) ∧ Kp W.heap.size W w' := by
  have m1 := fun W => Lib.hid (modulo_any x 65536 W (by omega) (by omega))
  have m2 := fun W => Lib.hid (modulo_any y 4294967296 W (by omega) (by omega))
  have x0 := Int.emod_nonneg x (b := 65536) (by omega)
  have x1 := Int.emod_lt_of_pos x (b := 65536) (by omega)
  have y0 := Int.emod_nonneg y (b := 4294967296) (by omega)
  have y1 := Int.emod_lt_of_pos y (b := 4294967296) (by omega)
  generalize x % 65536 = w at *
  generalize y % 4294967296 = d at *
  have hs := fun W => scaled_yes d (1 + w) W (by omega) (by omega) (by omega) (by omega)
  have a0 := Int.ediv_nonneg (a := d * 1048576) (b := 1 + w) (by omega) (by omega)
  have a1 := Int.ediv_le_self (a := d * 1048576) (1 + w) (by omega)
  have b0 := Int.emod_nonneg (d * 1048576) (b := 1 + w) (by omega)
  have b1 := Int.emod_lt_of_pos (d * 1048576) (b := 1 + w) (by omega)
  have e : d * 1048576 / (1 + w) * (1 + w) + d * 1048576 % (1 + w) = d * 1048576 := by
    have h := Int.emod_add_mul_ediv (d * 1048576) (1 + w)
    rw [Int.mul_comm (1 + w)] at h
    omega
  obtain ⟨t1, t2, t3⟩ := back_eq d (1 + w) (by omega) (by omega) (by omega) (by omega)
  have ht := fun W => ticks_any (d * 1048576 / (1 + w)) (d * 1048576 % (1 + w)) (1 + w) W
  rw [t1, t2, t3] at ht
  have p0 : 0 ≤ d * 1048576 / (1 + w) * (1 + w) := Int.mul_nonneg a0 (by omega)
  clear t1 t2 t3
  generalize d * 1048576 / (1 + w) = v at *
  generalize d * 1048576 % (1 + w) = r at *
  have p1 : v * (1 + w) ≤ 4503599626321920 := by omega
  have hfin : (v * (1 + w) + r == d * 1048576) = true := beq_iff_eq.2 e
  have HS := fun W => Lib.hid (hs W)
  have HT := fun W => Lib.hid (ht W)
  clear hs ht e
  go_enter Tryd.func4, Tryd.ntmps4
  go_wp2_with (first
    | (go_at_call 14; refine (awake_any _ hT).mono ?_; rintro e w' ⟨rfl, hk⟩)
    | (go_at_call_of 15 (Value.int .i64 x); refine ((m1 _).out).mono ?_; rintro e w' ⟨rfl, rfl⟩)
    | (go_at_call_of 15 (Value.int .i64 y); refine ((m2 _).out).mono ?_; rintro e w' ⟨rfl, rfl⟩)
    | (go_at_call 16; refine ((HS _).out).mono ?_; rintro e w' ⟨rfl, n1, rfl⟩)
    | (go_at_call 17; refine ((HT _).out).mono ?_; rintro e w' ⟨rfl, n2, rfl⟩))
  go_ret
  exact ⟨rfl, hk.drewN _⟩
end Go.Proofs.YtgfmgfblmfacgaaDoor
