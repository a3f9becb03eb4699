/-
  The law PlaceDistance, walked.
-/
import Derived.Test.YtmlapjaccmoleaaMade
namespace Go.Proofs.Ytmlapjaccmoleaa
open Go.RowKit

/-- 'Made' of an entity's numbers: some right entity with the same virtual runtime. -/
theorem made_ent {v r w : Int} (b : EB v r w) : ∃ R M : Int, EB v R M ∧ rightB v R M = true ∧
    ∀ W, Calls Try.prog 23 #[.int .u64 v, .int .u16 (IntKind.u16.wrap w), .int .u16 (IntKind.u16.wrap r)] W fun e w' => e = .returned (ent v R M) ∧ Grew 2 W w' := by
  have h1 := bounds_u16 (wf_wrap .u16 w)
  have h2 := bounds_u16 (wf_wrap .u16 r)
  exact ⟨_, _, mdR_eb b.v0 b.v1 h1.1 h1.2, mdR_right h1.1 h1.2, fun W => made_any W h1.1 h1.2 h2.1 h2.2⟩

set_option maxRecDepth 100000 in
set_option maxHeartbeats 1000000 in
theorem walk8 {v r w f t : Int} (W : World) (b : EB v r w) (f0 : 0 ≤ f) (f1 : f ≤ 18446744073709551615) (t0 : 0 ≤ t) (t1 : t ≤ 18446744073709551615) :
    Calls Try.prog 8 #[ent v r w, .int .u64 f, .int .u64 t] W fun e w' => e = .returned (.bool true) ∧ GrewS W w' := by
  obtain ⟨R, M, hb, hr, HM'⟩ := made_ent b
  have HA := fun W => Lib.hid (awakeP_any W)
  have HM := fun W => Lib.hid (HM' W)
  have H1 := fun W => Lib.hid (ahead_t W hb f0 f1 hr)
  have H2 := fun W => Lib.hid (moved_t W hb f0 f1 t0 t1 hr)
  have H3 := fun W => Lib.hid (ahead_t W (mv_eb (f := f) hb t0 t1) t0 t1 (mv_right (f := f) hb t0 t1 hr))
  have H4 := fun W => Lib.hid (far_any W hb.v0 hb.v1 f0 f1)
  have hle := mv_far (v := v) (f := f) t0 t1
  have hne := Lib.hid (mv_far2 (v := v) (f := f) t0 t1)
  clear HM' hb hr f0 f1 t0 t1 b
  generalize mvR v R f t = n1 at *
  generalize mvV v f t = n2 at *
  generalize ahV v f = n3 at *
  generalize ahV n2 t = n4 at *
  go_enter Try.func8, Try.ntmps8
  go_wp2_with fail
  refine (HA _).out.mono ?_
  rintro e w0 ⟨rfl, hg⟩
  have c0 := hg.kp.cells (K := W.heap.size + 1) (by simp)
  have z0 := hg.kp.frozens (K := W.heap.size + 1) (by simp)
  have s0 : W.heap.size < w0.heap.size := by have := hg.kp.size; simp at this; omega
  have s1 : ∀ k0 : Nat, W.heap.size < w0.heap.size + k0 := by intros; omega
  have s2 : ∀ k0 k1 : Nat, W.heap.size < w0.heap.size + k0 + k1 := by intros; omega
  have s3 : ∀ k0 k1 k2 : Nat, W.heap.size < w0.heap.size + k0 + k1 + k2 := by intros; omega
  have s4 : ∀ k0 k1 k2 k3 : Nat, W.heap.size < w0.heap.size + k0 + k1 + k2 + k3 := by intros; omega
  have s5 : ∀ k0 k1 k2 k3 k4 : Nat, W.heap.size < w0.heap.size + k0 + k1 + k2 + k3 + k4 := by intros; omega
  have s6 : ∀ k0 k1 k2 k3 k4 k5 : Nat, W.heap.size < w0.heap.size + k0 + k1 + k2 + k3 + k4 + k5 := by intros; omega
  have s7 : ∀ k0 k1 k2 k3 k4 k5 k6 : Nat, W.heap.size < w0.heap.size + k0 + k1 + k2 + k3 + k4 + k5 + k6 := by intros; omega
  have s8 : ∀ k0 k1 k2 k3 k4 k5 k6 k7 : Nat, W.heap.size < w0.heap.size + k0 + k1 + k2 + k3 + k4 + k5 + k6 + k7 := by intros; omega
  have hg := Lib.hid (((GrewS.refl W).alloc _).trans hg)
  go_wp2_with fail
  refine (HM _).out.mono ?_
  rintro e w' ⟨rfl, os1, k1, hl1, rfl⟩
  go_wp2_with fail
  refine (H1 _).out.mono ?_
  rintro e w' ⟨rfl, os2, k2, hl2, rfl⟩
  go_wp2_with fail
  refine (H2 _).out.mono ?_
  rintro e w' ⟨rfl, os3, k3, hl3, rfl⟩
  go_wp2_with fail
  refine (H3 _).out.mono ?_
  rintro e w' ⟨rfl, os4, k4, hl4, rfl⟩
  go_wp2_with fail
  refine (H4 _).out.mono ?_
  rintro e w' ⟨rfl, rfl⟩
  by_cases q0 : n2 = 0
  · have q0' : (n2 == 0) = true := by simp [q0]
    clear q0 hne
    go_wp2_with fail
    go_ret
    refine ⟨by simp, ?_⟩
    repeat first | exact hg.out | apply GrewS.drewN | apply GrewS.more | apply GrewS.alloc | (refine GrewS.setCell ?_ (Nat.le_refl _) _)
  · by_cases q1 : n2 = 18446744073709551615
    · have q0' : (n2 == 0) = false := by simp [q0]
      have q1' : (n2 == 18446744073709551615) = true := by simp [q1]
      clear q0 q1 hne
      go_wp2_with fail
      go_ret
      refine ⟨by simp, ?_⟩
      repeat first | exact hg.out | apply GrewS.drewN | apply GrewS.more | apply GrewS.alloc | (refine GrewS.setCell ?_ (Nat.le_refl _) _)
    · have q0' : (n2 == 0) = false := by simp [q0]
      have q1' : (n2 == 18446744073709551615) = false := by simp [q1]
      obtain ⟨q2, q3⟩ := hne.out q0 q1
      have q4 : decide (t ≤ n2) = decide (f ≤ v) := decide_eq_decide.2 q3.symm
      clear q0 q1 hne q3 hle
      subst q2
      go_wp2_with fail
      go_ret
      refine ⟨by simp, ?_⟩
      repeat first | exact hg.out | apply GrewS.drewN | apply GrewS.more | apply GrewS.alloc | (refine GrewS.setCell ?_ (Nat.le_refl _) _)

theorem law8 {v r w : Int} {W : World} (b : EB v r w) (f : Int) (wf : (Lit.int .u64 f).wf = true) (t : Int) (wt : (Lit.int .u64 t).wf = true) :
    Calls Try.prog 8 #[ent v r w, .int .u64 f, .int .u64 t] W fun e w' => e = .returned (.bool true) ∧ Kp W.heap.size W w' :=
  (walk8 W b (bounds_u64 wf).1 (bounds_u64 wf).2 (bounds_u64 wt).1 (bounds_u64 wt).2).mono fun _ _ ⟨he, hw⟩ => ⟨he, hw.kp⟩
end Go.Proofs.Ytmlapjaccmoleaa
