/-
  The reference's contracts of layer 26, by the same values.
-/
import Derived.Test.YtmlapjaccmoleaaMadeM
namespace Go.Proofs.Ytmlapjaccmoleaa
open Go.RowKit

theorem relB_f {b : Bool} {y r w : Int} (h : rightB 0 r w = false) : relB b y r w = false := by
  unfold relB
  cases b
  · simpa using h
  · simp [h]
theorem right0_f {r w : Int} (h : w < 1 ∨ 65536 < w ∨ w ≤ r) : rightB 0 r w = false := decide_eq_false (by omega)

set_option maxHeartbeats 400000 in
theorem refRel_any {b : Bool} {y r w : Int} (W : World) (hb : EB y r w) : Calls Try.prog 70 #[rel b y r w] W fun e w' => e = .returned (.bool (relB b y r w)) ∧ GrewS W w' := by
  have y0 := hb.v0
  have w0 := hb.w0
  have w1 := hb.w1
  by_cases h1 : w < 1
  · rw [relB_f (right0_f (Or.inl h1))]
    clear hb
    go_enter Try.func70, Try.ntmps70
    go_wp2
    go_ret
    exact ⟨rfl, (GrewS.refl W).alloc _⟩
  have g1 : decide (w < 1) = false := decide_eq_false h1
  by_cases h2 : 65536 < w
  · rw [relB_f (right0_f (Or.inr (Or.inl h2)))]
    clear hb
    go_enter Try.func70, Try.ntmps70
    go_wp2
    go_ret
    exact ⟨rfl, (GrewS.refl W).alloc _⟩
  have g2 : decide (65536 < w) = false := decide_eq_false h2
  by_cases h3 : w ≤ r
  · rw [relB_f (right0_f (Or.inr (Or.inr h3)))]
    clear hb
    go_enter Try.func70, Try.ntmps70
    go_wp2
    go_ret
    exact ⟨rfl, (GrewS.refl W).alloc _⟩
  have g3 : decide (w ≤ r) = false := decide_eq_false h3
  have hR : rightB 0 r w = true := right0_mk (by omega) (by omega) (by omega)
  cases b
  · have e : relB false y r w = true := hR
    rw [e]
    clear e hR hb
    go_enter Try.func70, Try.ntmps70
    go_wp2
    go_ret
    exact ⟨rfl, (GrewS.refl W).alloc _⟩
  · by_cases hy : y = 0
    · have e : relB true y r w = false := by unfold relB; rw [if_pos rfl, if_neg (by omega)]
      rw [e]
      subst hy
      clear e hR hb
      go_enter Try.func70, Try.ntmps70
      go_wp2
      go_ret
      exact ⟨rfl, (GrewS.refl W).alloc _⟩
    · have e : relB true y r w = true := by unfold relB; rw [if_pos rfl, if_pos (by omega)]; exact hR
      have g4 : (y == 0) = false := beq_eq_false_iff_ne.2 hy
      rw [e]
      clear e hR hb
      go_enter Try.func70, Try.ntmps70
      go_wp2
      go_ret
      exact ⟨rfl, (GrewS.refl W).alloc _⟩

theorem refRel_t {b : Bool} {y r w : Int} (W : World) (hb : EB y r w) (h : relB b y r w = true) : Calls Try.prog 70 #[rel b y r w] W fun e w' => e = .returned (.bool true) ∧ GrewS W w' := by
  have H := refRel_any (b := b) W hb
  rwa [h] at H
theorem refRel_f {b : Bool} {y r w : Int} (W : World) (hb : EB y r w) (h : relB b y r w = false) : Calls Try.prog 70 #[rel b y r w] W fun e w' => e = .returned (.bool false) ∧ GrewS W w' := by
  have H := refRel_any (b := b) W hb
  rwa [h] at H

set_option maxHeartbeats 400000 in
theorem refOff_t {v r w f : Int} (W : World) (b : EB v r w) (f0 : 0 ≤ f) (f1 : f ≤ 18446744073709551615) (h : rightB v r w = true) :
    Calls Try.prog 68 #[ent v r w, .int .u64 f] W fun e w' => e = .returned (.tuple #[rel (offB v f) (ahV v f) r w, .int .i64 0]) ∧ GrewS W w' := by
  have H := fun W => Lib.hid (refRight_t W b h)
  have v0 := b.v0
  have v1 := b.v1
  clear b h
  by_cases hv : v < f
  · have e1 : offB v f = true := decide_eq_true hv
    have e2 : ahV v f = f - v := ahV_lt hv
    rw [e1, e2]
    clear e1 e2
    go_enter Try.func68, Try.ntmps68
    go_wp2_with fail
    refine (H _).out.mono ?_
    rintro e w' ⟨rfl, rfl⟩
    go_wp2_with fail
    exact bodyPost_ret (v := .tuple #[rel true (f - v) r w, .int .i64 0]) (by simp [results, Try.results68, go_sem]) rfl ⟨rfl, by
      repeat with_reducible first | exact GrewS.refl _ | apply GrewS.alloc | (refine GrewS.setCell ?_ (by simp) _)⟩
  · have e1 : offB v f = false := decide_eq_false hv
    have e2 : ahV v f = v - f := ahV_ge (by omega)
    have g : decide (v < f) = false := decide_eq_false hv
    rw [e1, e2]
    clear e1 e2
    go_enter Try.func68, Try.ntmps68
    go_wp2_with fail
    refine (H _).out.mono ?_
    rintro e w' ⟨rfl, rfl⟩
    go_wp2_with fail
    exact bodyPost_ret (v := .tuple #[rel false (v - f) r w, .int .i64 0]) (by simp [results, Try.results68, go_sem]) rfl ⟨rfl, by
      repeat with_reducible first | exact GrewS.refl _ | apply GrewS.alloc | (refine GrewS.setCell ?_ (by simp) _)⟩
set_option maxHeartbeats 400000 in
theorem refOff_f {v r w f : Int} (W : World) (b : EB v r w) (h : rightB v r w = false) :
    Calls Try.prog 68 #[ent v r w, .int .u64 f] W fun e w' => e = .returned (.tuple #[rel false 0 0 0, .int .i64 2]) ∧ GrewS W w' := by
  have H := fun W => Lib.hid (refRight_f W b h)
  clear b h
  go_enter Try.func68, Try.ntmps68
  go_wp2_with fail
  refine (H _).out.mono ?_
  rintro e w' ⟨rfl, rfl⟩
  go_wp2_with fail
  exact bodyPost_ret (v := .tuple #[rel false 0 0 0, .int .i64 2]) (by simp [results, Try.results68, go_sem]) rfl ⟨rfl, by
    repeat with_reducible first | exact GrewS.refl _ | apply GrewS.alloc | (refine GrewS.setCell ?_ (by simp) _)⟩
end Go.Proofs.Ytmlapjaccmoleaa
