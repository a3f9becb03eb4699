/-
  The contract of 'tells': the program's functions and the reference's return the same values, whatever the numbers.
-/
import Derived.Test.YtgfmgfblmfacgaaDoorAwake
namespace Go.Proofs.YtgfmgfblmfacgaaDoor
open Go.RowKit

theorem weE_bd (w : Int) : 0 ≤ weE w ∧ weE w ≤ 2 := by unfold weE; split <;> omega
theorem ofE_bd (w : Int) : 0 ≤ ofE w ∧ ofE w ≤ 2 := by unfold ofE; split <;> omega
theorem tiE_bd (v rest w : Int) : 0 ≤ tiE v rest w ∧ tiE v rest w ≤ 3 := by unfold tiE; repeat' split <;> omega

set_option maxHeartbeats 1000000 in
set_option maxRecDepth 100000 in
theorem tells_any (d w v rest : Int) (W : World) (hT : TabW W) :
    Calls Tryd.prog 13 #[.int .i64 d, .int .i64 w, .int .i64 v, .int .i64 rest] W fun e w' => e = .returned (.bool true) ∧ ∃ n, w' = W.drewN n := by
  have e1 := weE_bd w
  have e2 := ofE_bd d
  have e3 := tiE_bd v rest w
  have e4 := scE_bd d w
  have HT := Lib.hid hT
  clear hT
  go_enter Tryd.func13, Tryd.ntmps13
  go_wp2_with (first
    | (go_at_call 22; refine (of_any _ _ HT.out).mono ?_; rintro e w' ⟨rfl, rfl⟩)
    | (go_at_call 27; refine (refOf_any _ _).mono ?_; rintro e w' ⟨rfl, rfl⟩)
    | (go_at_call 23; refine (level_any _ _ HT.out).mono ?_; rintro e w' ⟨rfl, rfl⟩)
    | (go_at_call 28; refine (refLevel_any _ _).mono ?_; rintro e w' ⟨rfl, rfl⟩)
    | (go_at_call 16; refine (scaled_any _ _ _).mono ?_; rintro e w' ⟨rfl, n1, rfl⟩)
    | (go_at_call 26; refine (refScaled_any _ _ _).mono ?_; rintro e w' ⟨rfl, rfl⟩)
    | (go_at_call 17; refine (ticks_any _ _ _ _).mono ?_; rintro e w' ⟨rfl, n2, rfl⟩)
    | (go_at_call 29; refine (refTicks_any _ _ _ _).mono ?_; rintro e w' ⟨rfl, rfl⟩)
    | (go_at_call 21; refine (inverse_any _ _).mono ?_; rintro e w' ⟨rfl, rfl⟩)
    | (go_at_call 30; refine (refInverse_any _ _).mono ?_; rintro e w' ⟨rfl, rfl⟩)
    | (go_at_call 19; refine (approx_any _ _ _).mono ?_; rintro e w' ⟨rfl, rfl⟩)
    | (go_at_call 31; refine (refApprox_any _ _ _).mono ?_; rintro e w' ⟨rfl, rfl⟩)
    | (go_at_call 20; refine (error_any _ _ _).mono ?_; rintro e w' ⟨rfl, n3, rfl⟩)
    | (go_at_call 32; refine (refError_any _ _ _).mono ?_; rintro e w' ⟨rfl, rfl⟩))
  go_ret
  exact ⟨rfl, _, rfl⟩

set_option maxHeartbeats 400000 in
theorem weightTells_walk (d : Int) (_ : (Lit.int .i64 d).wf = true) (w : Int) (_ : (Lit.int .i64 w).wf = true) (v : Int) (_ : (Lit.int .i64 v).wf = true) (rest : Int) (_ : (Lit.int .i64 rest).wf = true) {W : World} (hT : TabW W) :
    Calls Tryd.prog 3 #[.int .i64 d, .int .i64 w, .int .i64 v, .int .i64 rest] W fun e w' => e = .returned (.bool true) ∧ Kp W.heap.size W w' := by
  go_enter Tryd.func3, Tryd.ntmps3
  go_wp2_with (first
    | (go_at_call 13; refine (tells_any _ _ _ _ _ hT).mono ?_; rintro e w' ⟨rfl, n, rfl⟩)
    | (go_at_call 14; refine (awake_any _ (hT.drewN _)).mono ?_; rintro e w' ⟨rfl, hk⟩))
  go_ret
  exact ⟨rfl, ((Kp.refl _ _).drewN _).trans hk⟩
end Go.Proofs.YtgfmgfblmfacgaaDoor
