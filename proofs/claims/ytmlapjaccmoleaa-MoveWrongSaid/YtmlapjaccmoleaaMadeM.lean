/-
  Layer 26's 'made' and 'relative'.
-/
import Derived.Test.YtmlapjaccmoleaaAwakeM
namespace Go.Proofs.Ytmlapjaccmoleaa
open Go.RowKit

set_option maxHeartbeats 400000 in
theorem madeM_ent {v r w : Int} (b : EB v r w) : ∃ R M : Int, EB v R M ∧ rightB v R M = true ∧
    ∀ W, Calls Try.prog 35 #[ent v r w] W fun e w' => e = .returned (ent v R M) ∧ GrewS W w' := by
  obtain ⟨R, M, h1, h2, H'⟩ := made_ent b
  refine ⟨R, M, h1, h2, fun W => ?_⟩
  have H := fun W => Lib.hid (H' W)
  clear H' h1 h2 b
  go_enter Try.func35, Try.ntmps35
  go_wp2_with fail
  refine (H _).out.mono ?_
  rintro e w1 ⟨rfl, hg1⟩
  have k1 := hg1.kp
  have R1 : C3 w1 (W.heap.size + 1) (.int .u64 0) (.int .u32 0) (.int .u32 0) := by simpa using C3.kp (C3.new (W.alloc _) _ _ _ _) k1
  have F1 : Fz w1 (W.heap.size + 1) := by simpa using Fz.kp (Fz.new (W.alloc _) _ _) k1
  have hg := Lib.hid ((((GrewS.refl W).alloc _).alloc _).trans hg1.s)
  have R_0 := R1.c0
  have R_1 := R1.c1
  have R_2 := R1.c2
  have F2 := F1.2
  clear k1 hg1 R1 F1
  go_wp2_with fail
  exact bodyPost_ret (v := ent v R M) (by simp [results, Try.results35, go_sem, R_0, R_1, R_2]) rfl ⟨rfl, by
    repeat with_reducible first | exact hg.out | apply GrewS.alloc | (refine GrewS.setCell ?_ (by first | (simp; done) | (simp; omega)) _)⟩

theorem ebM {y r w : Int} (hb : EB y r w) : EB y (r % (1 + w % 65536)) (1 + w % 65536) ∧ rightB 0 (r % (1 + w % 65536)) (1 + w % 65536) = true := by
  obtain ⟨v0, v1, r0, r1, w0, w1⟩ := hb
  have h1 := Int.emod_nonneg w (b := 65536) (by omega)
  have h2 := Int.emod_lt_of_pos w (b := 65536) (by omega)
  have h3 := Int.emod_nonneg r (b := 1 + w % 65536) (by omega)
  have h4 := Int.emod_lt_of_pos r (b := 1 + w % 65536) (by omega)
  exact ⟨⟨v0, v1, h3, by omega, by omega, by omega⟩, right0_mk (by omega) (by omega) h4⟩

set_option maxHeartbeats 400000 in
theorem relM_ent {b : Bool} {y r w : Int} (hb : EB y r w) : ∃ (b' : Bool) (R M : Int), EB y R M ∧ relB b' y R M = true ∧
    ∀ W, Calls Try.prog 39 #[rel b y r w] W fun e w' => e = .returned (rel b' y R M) ∧ GrewS W w' := by
  obtain ⟨h1, h2⟩ := ebM hb
  have w0 := hb.w0
  have m1 := Int.emod_nonneg w (b := 65536) (by omega)
  have m2 := Int.emod_lt_of_pos w (b := 65536) (by omega)
  have r0 := hb.r0
  by_cases hy : 0 < y
  · refine ⟨b, _, _, h1, relB_mk h2 (fun _ => hy), fun W => ?_⟩
    have hy' := decide_eq_true hy
    clear h1 h2 hb
    cases b
    all_goals
      go_enter Try.func39, Try.ntmps39
      go_wp2_with fail
      first
        | exact bodyPost_ret (v := rel false y (r % (1 + w % 65536)) (1 + w % 65536)) (by simp [results, Try.results39, go_sem]) rfl ⟨rfl, ((GrewS.refl W).alloc _).alloc _⟩
        | exact bodyPost_ret (v := rel true y (r % (1 + w % 65536)) (1 + w % 65536)) (by simp [results, Try.results39, go_sem]) rfl ⟨rfl, ((GrewS.refl W).alloc _).alloc _⟩
  · refine ⟨false, _, _, h1, relB_mk h2 (fun h => by cases h), fun W => ?_⟩
    have hy' := decide_eq_false hy
    clear h1 h2 hb
    cases b
    all_goals
      go_enter Try.func39, Try.ntmps39
      go_wp2_with fail
      exact bodyPost_ret (v := rel false y (r % (1 + w % 65536)) (1 + w % 65536)) (by simp [results, Try.results39, go_sem]) rfl ⟨rfl, ((GrewS.refl W).alloc _).alloc _⟩
end Go.Proofs.Ytmlapjaccmoleaa
