/-
  The comparison of two CPUs' loads; the busiest of the others.
-/
import Derived.Test.YticgdfbknaholaaOth27
namespace Go.Proofs.Yticgdfbknaholaa
open Go.RowKit
attribute [local go_sem] Oper.semAt_some

set_option maxRecDepth 100000 in
set_option maxHeartbeats 2000000 in
theorem cmpLoads_any (W : World) {bL bR lb : Nat} {f : Nat → Int} {x y : Nat} (hx : x < lb) (hy : y < lb) (hL : W.cell? ⟨bL, 0, none⟩ = some (.slice (some ⟨bR, 0, none⟩) lb lb)) (hR : Row W bR lb (fun c => .int .i64 (f c))) :
    Calls Try.prog 36 #[.int .i64 (x : Int), .int .i64 (y : Int), .pointer (some ⟨bL, 0, none⟩)] W fun e w' => e = .returned (.int .i64 (cmpI (f x) (f y))) ∧ GrewS W w' := by
  have c1 := hR.cells x hx
  have c2 := hR.cells y hy
  have hl := hR.lt
  have hxi : (x : Int) < lb := by omega
  have hyi : (y : Int) < lb := by omega
  have HC := fun w => Lib.hid (compare_any (f x) (f y) w)
  generalize f x = fx at *
  generalize f y = fy at *
  clear hR
  go_enter Try.func36, Try.ntmps36
  go_upto_region 1 with fail
  refine wp_region_anyN (fun w' => w'.cell? ⟨bL, 0, none⟩ = some (.slice (some ⟨bR, 0, none⟩) lb lb) ∧ w'.cell? ⟨bR, x, none⟩ = some (.int .i64 fx) ∧ w'.cell? ⟨bR, y, none⟩ = some (.int .i64 fy)) 8 (by kernel_rfl) ?_
  have hS : W.drew.cell? ⟨bL, 0, none⟩ = some (.slice (some ⟨bR, 0, none⟩) lb lb) ∧ W.drew.cell? ⟨bR, x, none⟩ = some (.int .i64 fx) ∧ W.drew.cell? ⟨bR, y, none⟩ = some (.int .i64 fy) := ⟨hL, c1, c2⟩
  have hg : GrewS W W.drew := (GrewS.refl W).drew
  clear hL c1 c2
  generalize W.drew = w0 at *
  refine anyN_take 0 (v := ?_) rfl (by kernel_rfl) (by kernel_rfl) (by kernel_rfl) (by kernel_rfl) (by kernel_rfl) (fun _ _ _ h => h) (Or.inl ⟨by rfl, ?_⟩) (by assumption) ?_
  rotate_left
  · intro w hSw
    obtain ⟨_, _, _⟩ := hSw
    go_simp
    try with_reducible rfl
  simp only [Act.put, List.setIfInBounds_toArray, List.set_cons_zero, List.set_cons_succ]
  refine anyN_take 1 (v := ?_) rfl (by kernel_rfl) (by kernel_rfl) (by kernel_rfl) (by kernel_rfl) (by kernel_rfl) (fun _ _ _ h => h) (Or.inl ⟨by rfl, ?_⟩) (by assumption) ?_
  rotate_left
  · intro w hSw
    obtain ⟨_, _, _⟩ := hSw
    go_simp
    try with_reducible rfl
  simp only [Act.put, List.setIfInBounds_toArray, List.set_cons_zero, List.set_cons_succ]
  refine anyN_take 2 (v := ?_) rfl (by kernel_rfl) (by kernel_rfl) (by kernel_rfl) (by kernel_rfl) (by kernel_rfl) (fun _ _ _ h => h) (Or.inl ⟨by rfl, ?_⟩) (by assumption) ?_
  rotate_left
  · intro w hSw
    obtain ⟨_, _, _⟩ := hSw
    go_simp
    try with_reducible rfl
  simp only [Act.put, List.setIfInBounds_toArray, List.set_cons_zero, List.set_cons_succ]
  refine anyN_take 3 (v := ?_) rfl (by kernel_rfl) (by kernel_rfl) (by kernel_rfl) (by kernel_rfl) (by kernel_rfl) (fun _ _ _ h => h) (Or.inl ⟨by rfl, ?_⟩) (by assumption) ?_
  rotate_left
  · intro w hSw
    obtain ⟨_, _, _⟩ := hSw
    go_simp
    try with_reducible rfl
  simp only [Act.put, List.setIfInBounds_toArray, List.set_cons_zero, List.set_cons_succ]
  refine anyN_take 4 (v := ?_) rfl (by kernel_rfl) (by kernel_rfl) (by kernel_rfl) (by kernel_rfl) (by kernel_rfl) (fun _ _ _ h => h) (Or.inl ⟨by rfl, ?_⟩) (by assumption) ?_
  rotate_left
  · intro w hSw
    obtain ⟨_, _, _⟩ := hSw
    go_simp
    try with_reducible rfl
  simp only [Act.put, List.setIfInBounds_toArray, List.set_cons_zero, List.set_cons_succ]
  refine anyN_take 5 (v := ?_) rfl (by kernel_rfl) (by kernel_rfl) (by kernel_rfl) (by kernel_rfl) (by kernel_rfl) (fun _ _ _ h => h) (Or.inl ⟨by rfl, ?_⟩) (by assumption) ?_
  rotate_left
  · intro w hSw
    obtain ⟨_, _, _⟩ := hSw
    go_simp
    try with_reducible rfl
  simp only [Act.put, List.setIfInBounds_toArray, List.set_cons_zero, List.set_cons_succ]
  refine anyN_take 6 (v := ?_) rfl (by kernel_rfl) (by kernel_rfl) (by kernel_rfl) (by kernel_rfl) (by kernel_rfl) (fun _ _ _ h => h) (Or.inl ⟨by rfl, ?_⟩) (by assumption) ?_
  rotate_left
  · intro w hSw
    obtain ⟨_, _, _⟩ := hSw
    go_simp
    try with_reducible rfl
  simp only [Act.put, List.setIfInBounds_toArray, List.set_cons_zero, List.set_cons_succ]
  refine anyN_take 7 (v := ?_) rfl (by kernel_rfl) (by kernel_rfl) (by kernel_rfl) (by kernel_rfl) (by kernel_rfl) (fun _ _ _ h => h) (Or.inl ⟨by rfl, ?_⟩) (by assumption) ?_
  rotate_left
  · intro w hSw
    obtain ⟨_, _, _⟩ := hSw
    go_simp
    try with_reducible rfl
  simp only [Act.put, List.setIfInBounds_toArray, List.set_cons_zero, List.set_cons_succ]
  refine anyN_one 8 rfl (by kernel_rfl) rfl ?_
  go_simp
  (with_reducible refine (HC _).out.mono ?_)
  rintro e w2 ⟨rfl, rfl⟩
  dsimp only
  refine anyN_one 9 rfl (by kernel_rfl) rfl ?_
  go_simp
  refine anyN_done (by kernel_rfl) ?_
  go_wp2_with fail
  go_ret
  exact ⟨rfl, hg⟩
end Go.Proofs.Yticgdfbknaholaa
