/-
  The walk of the law WeightAdds.
-/
import Derived.Test.YtgfmgfblmfacgaaDoorAwake
import Derived.Deep.RegionWith
import Derived.OpenShut
namespace Go.Proofs.YtgfmgfblmfacgaaDoor
open Go.RowKit

/-- Virtual times and rests add up. -/
theorem adds_step (x y w : Int) (hw : 1 ≤ w) : x / w + y / w + (x % w + y % w) / w = (x + y) / w ∧ (x % w + y % w) % w = (x + y) % w := by
  have hx := Int.emod_add_mul_ediv x w
  have hy := Int.emod_add_mul_ediv y w
  constructor
  · have e : x + y = (x % w + y % w) + w * (x / w + y / w) := by rw [Int.mul_add]; omega
    rw [e, Int.add_mul_ediv_left _ _ (by omega : w ≠ 0)]
    omega
  · rw [← Int.add_emod]

set_option maxRecDepth 100000 in
set_option maxHeartbeats 1000000 in
theorem weightAdds_walk (x : Int) (_ : (Lit.int .i64 x).wf = true) {W : World} (a : Option Addr) (len cap : Nat) (zs : List Int) (hlen : zs.length = len) (hcap : len ≤ cap) (hmax : (cap : Int) ≤ 9223372036854775807)
    (hnil : a = none → cap = 0) (hcell : IsInts W .u32 a len zs) (hwf : ∀ n ∈ zs, (Lit.int .u32 n).wf = true) (hT : TabW W) :
    Calls Tryd.prog 5 #[.int .i64 x, .slice a len cap] W fun e w' => e = .returned (.bool true) ∧ Kp W.heap.size W w' := by
  have m1 := fun W => Lib.hid (modulo_any x 65536 W (by omega) (by omega))
  have x0 := Int.emod_nonneg x (b := 65536) (by omega)
  have x1 := Int.emod_lt_of_pos x (b := 65536) (by omega)
  have HL := Lib.hid hlen
  have HW := Lib.hid hwf
  have HN := Lib.hid hnil
  clear hlen hwf hnil
  generalize x % 65536 = w at *
  have hpos := hT.pos
  by_cases h40 : len ≤ 40
  all_goals
    go_enter Tryd.func5, Tryd.ntmps5
    go_wp2_with (first
      | (go_at_call 14; refine (awake_any _ hT).mono ?_; rintro e w' ⟨rfl, hk⟩)
      | (go_at_call_of 15 (Value.int .i64 x); refine ((m1 _).out).mono ?_; rintro e w' ⟨rfl, rfl⟩))
    go_loopw [5, 6, 7, 28] (fun v r t i wr => ∃ (k : Nat) (all : Int), k ≤ 40 ∧ k ≤ len ∧ i = .int .i64 k ∧ 0 ≤ all ∧ all ≤ k * 1048576 ∧ t = .int .i64 all ∧ v = .int .i64 (all * 1048576 / (1 + w)) ∧ r = .int .i64 (all * 1048576 % (1 + w)) ∧ Kp W.heap.size W wr)
      (fun _ _ _ i _ => 40 - (intOf i).toNat)
    case atStart => exact ⟨0, 0, by omega, by omega, rfl, by omega, by omega, rfl, by simp, by simp, hk⟩
    case round =>
      obtain ⟨k, all, hk1, hk2, rfl, ha1, ha2, rfl, rfl, rfl, hkp⟩ := hrel
      have V0 : 0 ≤ all * 1048576 / (1 + w) := Int.ediv_nonneg (by omega) (by omega)
      have V1 : all * 1048576 / (1 + w) ≤ all * 1048576 := Int.ediv_le_self _ (by omega)
      have R0 : 0 ≤ all * 1048576 % (1 + w) := Int.emod_nonneg _ (by omega)
      have R1 : all * 1048576 % (1 + w) < 1 + w := Int.emod_lt_of_pos _ (by omega)
      by_cases hlt : k < min len 40
      · have t1 : (k : Int) < len := by omega
        have t2 : (k : Int) < 40 := by omega
        obtain ⟨b, off, rfl, hc⟩ := hcell.kp hkp (i := k) (by omega)
        have hz := HW.out (zs.getD k 0) (by
          have := HL.out
          rw [List.getD_eq_getElem?_getD, List.getElem?_eq_getElem (by omega)]
          exact List.getElem_mem _)
        have hzb := bounds_u32 hz
        generalize zs.getD k 0 = z at hc hzb
        obtain ⟨z0, z1⟩ := hzb
        have d0 : 0 ≤ z % 1048576 := by omega
        have d1 : z % 1048576 < 1048576 := by omega
        have hs := fun W => scaled_yes (z % 1048576) (1 + w) W (by omega) (by omega) (by omega) (by omega)
        have S := adds_step (all * 1048576) (z % 1048576 * 1048576) (1 + w) (by omega)
        rw [← Int.add_mul] at S
        have A0 : 0 ≤ z % 1048576 * 1048576 / (1 + w) := Int.ediv_nonneg (by omega) (by omega)
        have A1 : z % 1048576 * 1048576 / (1 + w) ≤ z % 1048576 * 1048576 := Int.ediv_le_self _ (by omega)
        have B0 : 0 ≤ z % 1048576 * 1048576 % (1 + w) := Int.emod_nonneg _ (by omega)
        have B1 : z % 1048576 * 1048576 % (1 + w) < 1 + w := Int.emod_lt_of_pos _ (by omega)
        have Q0 : 0 ≤ (all * 1048576 % (1 + w) + z % 1048576 * 1048576 % (1 + w)) / (1 + w) := Int.ediv_nonneg (by omega) (by omega)
        have Q1 : (all * 1048576 % (1 + w) + z % 1048576 * 1048576 % (1 + w)) / (1 + w) ≤ all * 1048576 % (1 + w) + z % 1048576 * 1048576 % (1 + w) := Int.ediv_le_self _ (by omega)
        have HS := fun W => Lib.hid (hs W)
        have SS := Lib.hid S
        have HK := Lib.hid hkp
        have ha3 : all ≤ 41943040 := by omega
        clear hs S hz hkp hcell hlt
        generalize all * 1048576 / (1 + w) = V at *
        generalize all * 1048576 % (1 + w) = R at *
        generalize z % 1048576 * 1048576 / (1 + w) = A at *
        generalize z % 1048576 * 1048576 % (1 + w) = B at *
        go_wp2_with (first
          | (go_at_call 16; refine ((HS _).out).mono ?_; rintro e w' ⟨rfl, n1, rfl⟩))
        go_quiet (fail)
        go_wp2
        go_roundw
        case rel => exact ⟨k + 1, all + z % 1048576, by omega, by omega, by go_num, by omega, by omega, rfl, by rw [← SS.out.1], by rw [← SS.out.2], HK.out.drewN _⟩
        case measure => simp [intOf]; omega
      · have t1 : ¬ ((k : Int) < len ∧ (k : Int) < 40) := by omega
        have hs := fun W => scaled_yes all (1 + w) W (by omega) (by omega) (by omega) (by omega)
        have HS := fun W => Lib.hid (hs W)
        have HK := Lib.hid hkp
        clear hs hkp hcell hlt
        generalize all * 1048576 / (1 + w) = V at *
        generalize all * 1048576 % (1 + w) = R at *
        first
          | (have t2 : ¬ (k : Int) < len := by omega
             clear t1
             go_wp2_with (go_at_call 16; refine ((HS _).out).mono ?_; rintro e w' ⟨rfl, n1, rfl⟩)
             go_ret
             exact ⟨rfl, HK.out.drewN _⟩)
          | (have t2 : ¬ (k : Int) < 40 := by omega
             clear t1
             go_wp2_with (go_at_call 16; refine ((HS _).out).mono ?_; rintro e w' ⟨rfl, n1, rfl⟩)
             go_ret
             exact ⟨rfl, HK.out.drewN _⟩)
end Go.Proofs.YtgfmgfblmfacgaaDoor
