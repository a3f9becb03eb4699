/-
  The contracts of move's On and Reach.
-/
import Derived.Test.YtmlapjaccmoleaaMove
import Derived.Test.YtmlapjaccmoleaaCells2
import Derived.Deep.Cut
namespace Go.Proofs.Ytmlapjaccmoleaa
open Go.RowKit

theorem field0 (a b : FuncId) (w : World) : (Instr.field 95 (.agg #[.func (.func a) #[] #[], .func (.func b) #[] #[]]) 0).run Try.prog w = .ok (.func (.func a) #[] #[]) w := by kernel_rfl
theorem field1 (a b : FuncId) (w : World) : (Instr.field 95 (.agg #[.func (.func a) #[] #[], .func (.func b) #[] #[]]) 1).run Try.prog w = .ok (.func (.func b) #[] #[]) w := by kernel_rfl

set_option maxRecDepth 100000 in
set_option maxHeartbeats 1000000 in
theorem on_1 {y r w f V : Int} (W : World) (hb : EB y r w) (h : relB true y r w = true) (hV : (V == 18446744073709551615) = true)
    (HM : ∀ W, Hid (Calls Try.prog 79 #[.int .u64 f, .int .u64 y] W fun e w' => e = .returned (.int .u64 V) ∧ W = w')) :
    Calls Try.prog 40 #[rel true y r w, .int .u64 f] W fun e w' => e = .returned (.tuple #[ent V 0 w, .int .i64 0]) ∧ GrewS W w' := by
  have H' := fun W => relRight_any (b := true) W hb
  rw [h] at H'
  have H := fun W => Lib.hid (H' W)
  have HW' := fun W => way_any (b := true) (y := y) (r := r) (w := w) W
  simp only [wayV, if_true] at HW'
  have HW := fun W => Lib.hid (HW' W)
  have F0 := fun w => field0 79 80 w
  clear H' HW' h hb
  go_enter Try.func40, Try.ntmps40
  go_wp2_with fail
  refine (H _).out.mono ?_
  rintro e w0 ⟨rfl, hg0⟩
  have k0 := hg0.kp
  have X := C4.kp ((C4.new W _ _ _ _ _).alloc _) k0
  have R : C3 w0 (W.heap.size + 1) (.int .u64 0) (.int .u32 0) (.int .u32 0) := by simpa using C3.kp (C3.new (W.alloc _) _ _ _ _) k0
  have F : Fz w0 (W.heap.size + 1) := by simpa using Fz.kp (Fz.new (W.alloc _) _ _) k0
  have hg := Lib.hid ((((GrewS.refl W).alloc _).alloc _).trans hg0)
  have X0 := X.c0
  have X1 := X.c1
  have X2 := X.c2
  have X3 := X.c3
  have X4 := X.lt
  have hn0 : W.heap.size + 1 < w0.heap.size := R.lt
  clear k0 hg0
  go_wp2_with fail
  refine wp_region_anyN (fun w' => w'.cell? ⟨W.heap.size, 0, none⟩ = some (.bool true) ∧ w'.cell? ⟨W.heap.size, 1, none⟩ = some (.int .u64 y) ∧ w'.cell? ⟨W.heap.size, 2, none⟩ = some (.int .u32 r) ∧ w'.cell? ⟨W.heap.size, 3, none⟩ = some (.int .u32 w)) 13 (by kernel_rfl) ?_
  replace X := X.drew
  replace R := R.drew
  replace F := F.drew
  have hgd := Lib.hid hg.out.drew
  clear hg
  replace hn0 : W.heap.size + 1 < w0.drew.heap.size := hn0
  generalize w0.drew = w0 at *
  have hS : w0.cell? ⟨W.heap.size, 0, none⟩ = some (.bool true) ∧ w0.cell? ⟨W.heap.size, 1, none⟩ = some (.int .u64 y) ∧ w0.cell? ⟨W.heap.size, 2, none⟩ = some (.int .u32 r) ∧ w0.cell? ⟨W.heap.size, 3, none⟩ = some (.int .u32 w) := ⟨X.c0, X.c1, X.c2, X.c3⟩
  refine anyN_take 0 (v := ?_) rfl (by kernel_rfl) (by kernel_rfl) (by kernel_rfl) (by kernel_rfl) (by kernel_rfl) (fun _ _ _ h => h) (Or.inl ⟨by rfl, ?_⟩) (by assumption) ?_
  rotate_left
  · intro w hSw
    obtain ⟨_, _, _, _⟩ := hSw
    go_simp
    try with_reducible rfl
  simp only [Act.put, List.setIfInBounds_toArray, List.set_cons_zero, List.set_cons_succ]
  refine anyN_take 3 (v := ?_) rfl (by kernel_rfl) (by kernel_rfl) (by kernel_rfl) (by kernel_rfl) (by kernel_rfl) (fun _ _ _ h => h) (Or.inl ⟨by rfl, ?_⟩) (by assumption) ?_
  rotate_left
  · intro w hSw
    obtain ⟨_, _, _, _⟩ := hSw
    go_simp
    try with_reducible rfl
  simp only [Act.put, List.setIfInBounds_toArray, List.set_cons_zero, List.set_cons_succ]
  refine anyN_take 4 (v := ?_) rfl (by kernel_rfl) (by kernel_rfl) (by kernel_rfl) (by kernel_rfl) (by kernel_rfl) (fun _ _ _ h => h) (Or.inl ⟨by rfl, ?_⟩) (by assumption) ?_
  rotate_left
  · intro w hSw
    obtain ⟨_, _, _, _⟩ := hSw
    go_simp
    try with_reducible rfl
  simp only [Act.put, List.setIfInBounds_toArray, List.set_cons_zero, List.set_cons_succ]
  refine anyN_take 5 (v := ?_) rfl (by kernel_rfl) (by kernel_rfl) (by kernel_rfl) (by kernel_rfl) (by kernel_rfl) (fun _ _ _ h => h) (Or.inl ⟨by rfl, ?_⟩) (by assumption) ?_
  rotate_left
  · intro w hSw
    obtain ⟨_, _, _, _⟩ := hSw
    go_simp
    try with_reducible rfl
  simp only [Act.put, List.setIfInBounds_toArray, List.set_cons_zero, List.set_cons_succ]
  refine anyN_take 7 (v := ?_) rfl (by kernel_rfl) (by kernel_rfl) (by kernel_rfl) (by kernel_rfl) (by kernel_rfl) (fun _ _ _ h => h) (Or.inl ⟨by rfl, ?_⟩) (by assumption) ?_
  rotate_left
  · intro w hSw
    obtain ⟨_, _, _, _⟩ := hSw
    go_simp
    try with_reducible rfl
  simp only [Act.put, List.setIfInBounds_toArray, List.set_cons_zero, List.set_cons_succ]
  refine anyN_take 8 (v := ?_) rfl (by kernel_rfl) (by kernel_rfl) (by kernel_rfl) (by kernel_rfl) (by kernel_rfl) (fun _ _ _ h => h) (Or.inl ⟨by rfl, ?_⟩) (by assumption) ?_
  rotate_left
  · intro w hSw
    obtain ⟨_, _, _, _⟩ := hSw
    go_simp
    try with_reducible rfl
  simp only [Act.put, List.setIfInBounds_toArray, List.set_cons_zero, List.set_cons_succ]
  refine anyN_take 9 (v := ?_) rfl (by kernel_rfl) (by kernel_rfl) (by kernel_rfl) (by kernel_rfl) (by kernel_rfl) (fun _ _ _ h => h) (Or.inl ⟨by rfl, ?_⟩) (by assumption) ?_
  rotate_left
  · intro w hSw
    obtain ⟨_, _, _, _⟩ := hSw
    go_simp
    try with_reducible rfl
  simp only [Act.put, List.setIfInBounds_toArray, List.set_cons_zero, List.set_cons_succ]
  refine anyN_take 10 (v := ?_) rfl (by kernel_rfl) (by kernel_rfl) (by kernel_rfl) (by kernel_rfl) (by kernel_rfl) (fun _ _ _ h => h) (Or.inl ⟨by rfl, ?_⟩) (by assumption) ?_
  rotate_left
  · intro w hSw
    obtain ⟨_, _, _, _⟩ := hSw
    go_simp
    try with_reducible rfl
  simp only [Act.put, List.setIfInBounds_toArray, List.set_cons_zero, List.set_cons_succ]
  refine anyN_two 1 12 rfl rfl (by kernel_rfl) rfl rfl ?_ ?_
  · go_simp
    refine (HW _).out.mono ?_
    rintro e w1 ⟨rfl, hg1⟩
    have k1 := hg1.kp
    replace X := X.kp k1
    replace R := R.kp k1
    replace F := F.kp k1
    replace hgd := Lib.hid (hgd.out.trans hg1.s)
    clear k1 hg1
    dsimp only
    refine and_keep ⟨X.c0, X.c1, X.c2, X.c3⟩ (fun hS => ?_)
    refine anyN_take 2 (v := ?_) rfl (by kernel_rfl) (by kernel_rfl) (by kernel_rfl) (by kernel_rfl) (by kernel_rfl) (fun _ _ _ h => h) (Or.inl ⟨by rfl, ?_⟩) (by assumption) ?_
    rotate_left
    · intro w hSw
      obtain ⟨_, _, _, _⟩ := hSw
      go_simp
      try with_reducible rfl
    simp only [Act.put, List.setIfInBounds_toArray, List.set_cons_zero, List.set_cons_succ]
    refine anyN_two 6 12 rfl rfl (by kernel_rfl) rfl rfl ?_ ?_
    · go_simp
      refine (HM _).out.mono ?_
      rintro e w' ⟨rfl, rfl⟩
      dsimp only
      refine and_keep ⟨X.c0, X.c1, X.c2, X.c3⟩ (fun hS => ?_)
      refine anyN_take 11 (v := ?_) rfl (by kernel_rfl) (by kernel_rfl) (by kernel_rfl) (by kernel_rfl) (by kernel_rfl) (fun _ _ _ h => h) (Or.inl ⟨by rfl, ?_⟩) (by assumption) ?_
      rotate_left
      · intro w hSw
        obtain ⟨_, _, _, _⟩ := hSw
        go_simp
        try with_reducible rfl
      simp only [Act.put, List.setIfInBounds_toArray, List.set_cons_zero, List.set_cons_succ]
      refine anyN_one 12 rfl (by kernel_rfl) rfl ?_
      go_simp
      have X' := X.alloc (.cells #[.int .u64 0, .int .u32 0, .int .u32 0] 25)
      refine and_keep ⟨X'.c0, X'.c1, X'.c2, X'.c3⟩ (fun hS => ?_)
      refine anyN_one 13 rfl (by kernel_rfl) rfl ?_
      go_simp
      refine anyN_done (by kernel_rfl) ?_
      clear hS X X'
      have R0 := R.c0
      have R1 := R.c1
      have R2 := R.c2
      have R3 := R.lt
      have F2 := F.2
      go_wp2_with fail
      exact bodyPost_ret (v := .tuple #[ent V 0 w, .int .i64 0]) (by simp [results, Try.results40, go_sem, R0, R1, R2, R3]) rfl ⟨rfl, by
        repeat with_reducible first | exact hgd.out | apply GrewS.alloc | (refine GrewS.setCell ?_ (by first | (simp; done) | (simp; omega)) _)⟩
    · go_simp
      have X' := X.alloc (.cells #[.int .u64 0, .int .u32 0, .int .u32 0] 25)
      refine and_keep ⟨X'.c0, X'.c1, X'.c2, X'.c3⟩ (fun hS => ?_)
      refine anyN_one 6 rfl (by kernel_rfl) rfl ?_
      go_simp
      refine (HM _).out.mono ?_
      rintro e w' ⟨rfl, rfl⟩
      dsimp only
      refine and_keep ⟨X'.c0, X'.c1, X'.c2, X'.c3⟩ (fun hS => ?_)
      refine anyN_take 11 (v := ?_) rfl (by kernel_rfl) (by kernel_rfl) (by kernel_rfl) (by kernel_rfl) (by kernel_rfl) (fun _ _ _ h => h) (Or.inl ⟨by rfl, ?_⟩) (by assumption) ?_
      rotate_left
      · intro w hSw
        obtain ⟨_, _, _, _⟩ := hSw
        go_simp
        try with_reducible rfl
      simp only [Act.put, List.setIfInBounds_toArray, List.set_cons_zero, List.set_cons_succ]
      refine anyN_one 13 rfl (by kernel_rfl) rfl ?_
      go_simp
      refine anyN_done (by kernel_rfl) ?_
      clear hS X X'
      have R0 := R.c0
      have R1 := R.c1
      have R2 := R.c2
      have R3 := R.lt
      have F2 := F.2
      go_wp2_with fail
      exact bodyPost_ret (v := .tuple #[ent V 0 w, .int .i64 0]) (by simp [results, Try.results40, go_sem, R0, R1, R2, R3]) rfl ⟨rfl, by
        repeat with_reducible first | exact hgd.out | apply GrewS.alloc | (refine GrewS.setCell ?_ (by first | (simp; done) | (simp; omega)) _)⟩
  · go_simp
    replace X := X.alloc (.cells #[.int .u64 0, .int .u32 0, .int .u32 0] 25)
    replace R := R.alloc (.cells #[.int .u64 0, .int .u32 0, .int .u32 0] 25)
    replace F := F.alloc (.cells #[.int .u64 0, .int .u32 0, .int .u32 0] 25)
    have Y := C3.new w0 (.int .u64 0) (.int .u32 0) (.int .u32 0) 25
    have G := Fz.new w0 #[.int .u64 0, .int .u32 0, .int .u32 0] 25
    replace hgd := Lib.hid (hgd.out.alloc (.cells #[.int .u64 0, .int .u32 0, .int .u32 0] 25))
    have hne : ¬ W.heap.size + 1 = w0.heap.size := by have := R.lt; have := X4; have := hn0; omega
    refine and_keep ⟨X.c0, X.c1, X.c2, X.c3⟩ (fun hS => ?_)
    refine anyN_one 1 rfl (by kernel_rfl) rfl ?_
    go_simp
    refine (HW _).out.mono ?_
    rintro e w1 ⟨rfl, hg1⟩
    have k1 := hg1.kp
    replace X := X.kp k1
    replace R := R.kp k1
    replace F := F.kp k1
    replace Y := Y.kp k1
    replace G := G.kp k1
    replace hgd := Lib.hid (hgd.out.trans hg1.s)
    clear k1 hg1
    dsimp only
    refine and_keep ⟨X.c0, X.c1, X.c2, X.c3⟩ (fun hS => ?_)
    refine anyN_take 2 (v := ?_) rfl (by kernel_rfl) (by kernel_rfl) (by kernel_rfl) (by kernel_rfl) (by kernel_rfl) (fun _ _ _ h => h) (Or.inl ⟨by rfl, ?_⟩) (by assumption) ?_
    rotate_left
    · intro w hSw
      obtain ⟨_, _, _, _⟩ := hSw
      go_simp
      try with_reducible rfl
    simp only [Act.put, List.setIfInBounds_toArray, List.set_cons_zero, List.set_cons_succ]
    refine anyN_one 6 rfl (by kernel_rfl) rfl ?_
    go_simp
    refine (HM _).out.mono ?_
    rintro e w' ⟨rfl, rfl⟩
    dsimp only
    refine and_keep ⟨X.c0, X.c1, X.c2, X.c3⟩ (fun hS => ?_)
    refine anyN_take 11 (v := ?_) rfl (by kernel_rfl) (by kernel_rfl) (by kernel_rfl) (by kernel_rfl) (by kernel_rfl) (fun _ _ _ h => h) (Or.inl ⟨by rfl, ?_⟩) (by assumption) ?_
    rotate_left
    · intro w hSw
      obtain ⟨_, _, _, _⟩ := hSw
      go_simp
      try with_reducible rfl
    simp only [Act.put, List.setIfInBounds_toArray, List.set_cons_zero, List.set_cons_succ]
    have Y0 := Y.c0
    have Y1 := Y.c1
    have Y2 := Y.c2
    have G2 := G.2
    refine anyN_one 13 rfl (by kernel_rfl) rfl ?_
    go_simp
    refine anyN_done (by kernel_rfl) ?_
    clear Y0 Y1 Y2 G2
    generalize hE : World.setCell _ _ _ = w9
    have Y9 : C3 w9 w0.heap.size (.int .u64 V) (.int .u32 r) (.int .u32 w) := hE ▸ Y.set _ _ _
    have R9 : C3 w9 (W.heap.size + 1) (.int .u64 0) (.int .u32 0) (.int .u32 0) := hE ▸ (((R.far (p := ⟨_, 0, none⟩) (fun h => hne h.symm) _).far (p := ⟨_, 1, none⟩) (fun h => hne h.symm) _).far (p := ⟨_, 2, none⟩) (fun h => hne h.symm) _)
    have F9 : Fz w9 (W.heap.size + 1) := hE ▸ (((F.set _ _).set _ _).set _ _)
    have G9 : Fz w9 w0.heap.size := hE ▸ (((G.set _ _).set _ _).set _ _)
    have hg9 : Hid (GrewS W w9) := Lib.hid (hE ▸ ((hgd.out.setCell (a := ⟨_, 0, none⟩) (Nat.le_trans (Nat.le_of_lt (Nat.lt_of_succ_lt hn0)) (Nat.le_refl _)) _).setCell (a := ⟨_, 1, none⟩) (Nat.le_of_lt (Nat.lt_of_succ_lt hn0)) _).setCell (a := ⟨_, 2, none⟩) (Nat.le_of_lt (Nat.lt_of_succ_lt hn0)) _)
    clear hE Y R F G hgd X hS
    have Y0 := Y9.c0
    have Y1 := Y9.c1
    have Y2 := Y9.c2
    have Y3 := Y9.lt
    have G2 := G9.2
    have R0 := R9.c0
    have R1 := R9.c1
    have R2 := R9.c2
    have R3 := R9.lt
    have F2 := F9.2
    go_wp2_with fail
    exact bodyPost_ret (v := .tuple #[ent V 0 w, .int .i64 0]) (by simp [results, Try.results40, go_sem, R0, R1, R2]) rfl ⟨rfl, by
      repeat with_reducible first | exact hg9.out | apply GrewS.alloc | (refine GrewS.setCell ?_ (by first | (simp; done) | (simp; omega)) _)⟩
set_option maxRecDepth 100000 in
set_option maxHeartbeats 1000000 in
theorem on_2 {y r w f V : Int} (W : World) (hb : EB y r w) (h : relB true y r w = true) (hV : (V == 18446744073709551615) = false)
    (HM : ∀ W, Hid (Calls Try.prog 79 #[.int .u64 f, .int .u64 y] W fun e w' => e = .returned (.int .u64 V) ∧ W = w')) :
    Calls Try.prog 40 #[rel true y r w, .int .u64 f] W fun e w' => e = .returned (.tuple #[ent V r w, .int .i64 0]) ∧ GrewS W w' := by
  have H' := fun W => relRight_any (b := true) W hb
  rw [h] at H'
  have H := fun W => Lib.hid (H' W)
  have HW' := fun W => way_any (b := true) (y := y) (r := r) (w := w) W
  simp only [wayV, if_true] at HW'
  have HW := fun W => Lib.hid (HW' W)
  have F0 := fun w => field0 79 80 w
  clear H' HW' h hb
  go_enter Try.func40, Try.ntmps40
  go_wp2_with fail
  refine (H _).out.mono ?_
  rintro e w0 ⟨rfl, hg0⟩
  have k0 := hg0.kp
  have X := C4.kp ((C4.new W _ _ _ _ _).alloc _) k0
  have R : C3 w0 (W.heap.size + 1) (.int .u64 0) (.int .u32 0) (.int .u32 0) := by simpa using C3.kp (C3.new (W.alloc _) _ _ _ _) k0
  have F : Fz w0 (W.heap.size + 1) := by simpa using Fz.kp (Fz.new (W.alloc _) _ _) k0
  have hg := Lib.hid ((((GrewS.refl W).alloc _).alloc _).trans hg0)
  have X0 := X.c0
  have X1 := X.c1
  have X2 := X.c2
  have X3 := X.c3
  have X4 := X.lt
  have hn0 : W.heap.size + 1 < w0.heap.size := R.lt
  clear k0 hg0
  go_wp2_with fail
  refine wp_region_anyN (fun w' => w'.cell? ⟨W.heap.size, 0, none⟩ = some (.bool true) ∧ w'.cell? ⟨W.heap.size, 1, none⟩ = some (.int .u64 y) ∧ w'.cell? ⟨W.heap.size, 2, none⟩ = some (.int .u32 r) ∧ w'.cell? ⟨W.heap.size, 3, none⟩ = some (.int .u32 w)) 13 (by kernel_rfl) ?_
  replace X := X.drew
  replace R := R.drew
  replace F := F.drew
  have hgd := Lib.hid hg.out.drew
  clear hg
  replace hn0 : W.heap.size + 1 < w0.drew.heap.size := hn0
  generalize w0.drew = w0 at *
  have hS : w0.cell? ⟨W.heap.size, 0, none⟩ = some (.bool true) ∧ w0.cell? ⟨W.heap.size, 1, none⟩ = some (.int .u64 y) ∧ w0.cell? ⟨W.heap.size, 2, none⟩ = some (.int .u32 r) ∧ w0.cell? ⟨W.heap.size, 3, none⟩ = some (.int .u32 w) := ⟨X.c0, X.c1, X.c2, X.c3⟩
  refine anyN_take 0 (v := ?_) rfl (by kernel_rfl) (by kernel_rfl) (by kernel_rfl) (by kernel_rfl) (by kernel_rfl) (fun _ _ _ h => h) (Or.inl ⟨by rfl, ?_⟩) (by assumption) ?_
  rotate_left
  · intro w hSw
    obtain ⟨_, _, _, _⟩ := hSw
    go_simp
    try with_reducible rfl
  simp only [Act.put, List.setIfInBounds_toArray, List.set_cons_zero, List.set_cons_succ]
  refine anyN_take 3 (v := ?_) rfl (by kernel_rfl) (by kernel_rfl) (by kernel_rfl) (by kernel_rfl) (by kernel_rfl) (fun _ _ _ h => h) (Or.inl ⟨by rfl, ?_⟩) (by assumption) ?_
  rotate_left
  · intro w hSw
    obtain ⟨_, _, _, _⟩ := hSw
    go_simp
    try with_reducible rfl
  simp only [Act.put, List.setIfInBounds_toArray, List.set_cons_zero, List.set_cons_succ]
  refine anyN_take 4 (v := ?_) rfl (by kernel_rfl) (by kernel_rfl) (by kernel_rfl) (by kernel_rfl) (by kernel_rfl) (fun _ _ _ h => h) (Or.inl ⟨by rfl, ?_⟩) (by assumption) ?_
  rotate_left
  · intro w hSw
    obtain ⟨_, _, _, _⟩ := hSw
    go_simp
    try with_reducible rfl
  simp only [Act.put, List.setIfInBounds_toArray, List.set_cons_zero, List.set_cons_succ]
  refine anyN_take 5 (v := ?_) rfl (by kernel_rfl) (by kernel_rfl) (by kernel_rfl) (by kernel_rfl) (by kernel_rfl) (fun _ _ _ h => h) (Or.inl ⟨by rfl, ?_⟩) (by assumption) ?_
  rotate_left
  · intro w hSw
    obtain ⟨_, _, _, _⟩ := hSw
    go_simp
    try with_reducible rfl
  simp only [Act.put, List.setIfInBounds_toArray, List.set_cons_zero, List.set_cons_succ]
  refine anyN_take 7 (v := ?_) rfl (by kernel_rfl) (by kernel_rfl) (by kernel_rfl) (by kernel_rfl) (by kernel_rfl) (fun _ _ _ h => h) (Or.inl ⟨by rfl, ?_⟩) (by assumption) ?_
  rotate_left
  · intro w hSw
    obtain ⟨_, _, _, _⟩ := hSw
    go_simp
    try with_reducible rfl
  simp only [Act.put, List.setIfInBounds_toArray, List.set_cons_zero, List.set_cons_succ]
  refine anyN_take 8 (v := ?_) rfl (by kernel_rfl) (by kernel_rfl) (by kernel_rfl) (by kernel_rfl) (by kernel_rfl) (fun _ _ _ h => h) (Or.inl ⟨by rfl, ?_⟩) (by assumption) ?_
  rotate_left
  · intro w hSw
    obtain ⟨_, _, _, _⟩ := hSw
    go_simp
    try with_reducible rfl
  simp only [Act.put, List.setIfInBounds_toArray, List.set_cons_zero, List.set_cons_succ]
  refine anyN_take 9 (v := ?_) rfl (by kernel_rfl) (by kernel_rfl) (by kernel_rfl) (by kernel_rfl) (by kernel_rfl) (fun _ _ _ h => h) (Or.inl ⟨by rfl, ?_⟩) (by assumption) ?_
  rotate_left
  · intro w hSw
    obtain ⟨_, _, _, _⟩ := hSw
    go_simp
    try with_reducible rfl
  simp only [Act.put, List.setIfInBounds_toArray, List.set_cons_zero, List.set_cons_succ]
  refine anyN_take 10 (v := ?_) rfl (by kernel_rfl) (by kernel_rfl) (by kernel_rfl) (by kernel_rfl) (by kernel_rfl) (fun _ _ _ h => h) (Or.inl ⟨by rfl, ?_⟩) (by assumption) ?_
  rotate_left
  · intro w hSw
    obtain ⟨_, _, _, _⟩ := hSw
    go_simp
    try with_reducible rfl
  simp only [Act.put, List.setIfInBounds_toArray, List.set_cons_zero, List.set_cons_succ]
  refine anyN_two 1 12 rfl rfl (by kernel_rfl) rfl rfl ?_ ?_
  · go_simp
    refine (HW _).out.mono ?_
    rintro e w1 ⟨rfl, hg1⟩
    have k1 := hg1.kp
    replace X := X.kp k1
    replace R := R.kp k1
    replace F := F.kp k1
    replace hgd := Lib.hid (hgd.out.trans hg1.s)
    clear k1 hg1
    dsimp only
    refine and_keep ⟨X.c0, X.c1, X.c2, X.c3⟩ (fun hS => ?_)
    refine anyN_take 2 (v := ?_) rfl (by kernel_rfl) (by kernel_rfl) (by kernel_rfl) (by kernel_rfl) (by kernel_rfl) (fun _ _ _ h => h) (Or.inl ⟨by rfl, ?_⟩) (by assumption) ?_
    rotate_left
    · intro w hSw
      obtain ⟨_, _, _, _⟩ := hSw
      go_simp
      try with_reducible rfl
    simp only [Act.put, List.setIfInBounds_toArray, List.set_cons_zero, List.set_cons_succ]
    refine anyN_two 6 12 rfl rfl (by kernel_rfl) rfl rfl ?_ ?_
    · go_simp
      refine (HM _).out.mono ?_
      rintro e w' ⟨rfl, rfl⟩
      dsimp only
      refine and_keep ⟨X.c0, X.c1, X.c2, X.c3⟩ (fun hS => ?_)
      refine anyN_take 11 (v := ?_) rfl (by kernel_rfl) (by kernel_rfl) (by kernel_rfl) (by kernel_rfl) (by kernel_rfl) (fun _ _ _ h => h) (Or.inl ⟨by rfl, ?_⟩) (by assumption) ?_
      rotate_left
      · intro w hSw
        obtain ⟨_, _, _, _⟩ := hSw
        go_simp
        try with_reducible rfl
      simp only [Act.put, List.setIfInBounds_toArray, List.set_cons_zero, List.set_cons_succ]
      refine anyN_one 12 rfl (by kernel_rfl) rfl ?_
      go_simp
      have X' := X.alloc (.cells #[.int .u64 0, .int .u32 0, .int .u32 0] 25)
      refine and_keep ⟨X'.c0, X'.c1, X'.c2, X'.c3⟩ (fun hS => ?_)
      refine anyN_one 13 rfl (by kernel_rfl) rfl ?_
      go_simp
      refine anyN_done (by kernel_rfl) ?_
      clear hS X X'
      have R0 := R.c0
      have R1 := R.c1
      have R2 := R.c2
      have R3 := R.lt
      have F2 := F.2
      go_wp2_with fail
      exact bodyPost_ret (v := .tuple #[ent V r w, .int .i64 0]) (by simp [results, Try.results40, go_sem, R0, R1, R2, R3]) rfl ⟨rfl, by
        repeat with_reducible first | exact hgd.out | apply GrewS.alloc | (refine GrewS.setCell ?_ (by first | (simp; done) | (simp; omega)) _)⟩
    · go_simp
      have X' := X.alloc (.cells #[.int .u64 0, .int .u32 0, .int .u32 0] 25)
      refine and_keep ⟨X'.c0, X'.c1, X'.c2, X'.c3⟩ (fun hS => ?_)
      refine anyN_one 6 rfl (by kernel_rfl) rfl ?_
      go_simp
      refine (HM _).out.mono ?_
      rintro e w' ⟨rfl, rfl⟩
      dsimp only
      refine and_keep ⟨X'.c0, X'.c1, X'.c2, X'.c3⟩ (fun hS => ?_)
      refine anyN_take 11 (v := ?_) rfl (by kernel_rfl) (by kernel_rfl) (by kernel_rfl) (by kernel_rfl) (by kernel_rfl) (fun _ _ _ h => h) (Or.inl ⟨by rfl, ?_⟩) (by assumption) ?_
      rotate_left
      · intro w hSw
        obtain ⟨_, _, _, _⟩ := hSw
        go_simp
        try with_reducible rfl
      simp only [Act.put, List.setIfInBounds_toArray, List.set_cons_zero, List.set_cons_succ]
      refine anyN_one 13 rfl (by kernel_rfl) rfl ?_
      go_simp
      refine anyN_done (by kernel_rfl) ?_
      clear hS X X'
      have R0 := R.c0
      have R1 := R.c1
      have R2 := R.c2
      have R3 := R.lt
      have F2 := F.2
      go_wp2_with fail
      exact bodyPost_ret (v := .tuple #[ent V r w, .int .i64 0]) (by simp [results, Try.results40, go_sem, R0, R1, R2, R3]) rfl ⟨rfl, by
        repeat with_reducible first | exact hgd.out | apply GrewS.alloc | (refine GrewS.setCell ?_ (by first | (simp; done) | (simp; omega)) _)⟩
  · go_simp
    replace X := X.alloc (.cells #[.int .u64 0, .int .u32 0, .int .u32 0] 25)
    replace R := R.alloc (.cells #[.int .u64 0, .int .u32 0, .int .u32 0] 25)
    replace F := F.alloc (.cells #[.int .u64 0, .int .u32 0, .int .u32 0] 25)
    have Y := C3.new w0 (.int .u64 0) (.int .u32 0) (.int .u32 0) 25
    have G := Fz.new w0 #[.int .u64 0, .int .u32 0, .int .u32 0] 25
    replace hgd := Lib.hid (hgd.out.alloc (.cells #[.int .u64 0, .int .u32 0, .int .u32 0] 25))
    have hne : ¬ W.heap.size + 1 = w0.heap.size := by have := R.lt; have := X4; have := hn0; omega
    refine and_keep ⟨X.c0, X.c1, X.c2, X.c3⟩ (fun hS => ?_)
    refine anyN_one 1 rfl (by kernel_rfl) rfl ?_
    go_simp
    refine (HW _).out.mono ?_
    rintro e w1 ⟨rfl, hg1⟩
    have k1 := hg1.kp
    replace X := X.kp k1
    replace R := R.kp k1
    replace F := F.kp k1
    replace Y := Y.kp k1
    replace G := G.kp k1
    replace hgd := Lib.hid (hgd.out.trans hg1.s)
    clear k1 hg1
    dsimp only
    refine and_keep ⟨X.c0, X.c1, X.c2, X.c3⟩ (fun hS => ?_)
    refine anyN_take 2 (v := ?_) rfl (by kernel_rfl) (by kernel_rfl) (by kernel_rfl) (by kernel_rfl) (by kernel_rfl) (fun _ _ _ h => h) (Or.inl ⟨by rfl, ?_⟩) (by assumption) ?_
    rotate_left
    · intro w hSw
      obtain ⟨_, _, _, _⟩ := hSw
      go_simp
      try with_reducible rfl
    simp only [Act.put, List.setIfInBounds_toArray, List.set_cons_zero, List.set_cons_succ]
    refine anyN_one 6 rfl (by kernel_rfl) rfl ?_
    go_simp
    refine (HM _).out.mono ?_
    rintro e w' ⟨rfl, rfl⟩
    dsimp only
    refine and_keep ⟨X.c0, X.c1, X.c2, X.c3⟩ (fun hS => ?_)
    refine anyN_take 11 (v := ?_) rfl (by kernel_rfl) (by kernel_rfl) (by kernel_rfl) (by kernel_rfl) (by kernel_rfl) (fun _ _ _ h => h) (Or.inl ⟨by rfl, ?_⟩) (by assumption) ?_
    rotate_left
    · intro w hSw
      obtain ⟨_, _, _, _⟩ := hSw
      go_simp
      try with_reducible rfl
    simp only [Act.put, List.setIfInBounds_toArray, List.set_cons_zero, List.set_cons_succ]
    have Y0 := Y.c0
    have Y1 := Y.c1
    have Y2 := Y.c2
    have G2 := G.2
    refine anyN_one 13 rfl (by kernel_rfl) rfl ?_
    go_simp
    refine anyN_done (by kernel_rfl) ?_
    clear Y0 Y1 Y2 G2
    generalize hE : World.setCell _ _ _ = w9
    have Y9 : C3 w9 w0.heap.size (.int .u64 V) (.int .u32 r) (.int .u32 w) := hE ▸ Y.set _ _ _
    have R9 : C3 w9 (W.heap.size + 1) (.int .u64 0) (.int .u32 0) (.int .u32 0) := hE ▸ (((R.far (p := ⟨_, 0, none⟩) (fun h => hne h.symm) _).far (p := ⟨_, 1, none⟩) (fun h => hne h.symm) _).far (p := ⟨_, 2, none⟩) (fun h => hne h.symm) _)
    have F9 : Fz w9 (W.heap.size + 1) := hE ▸ (((F.set _ _).set _ _).set _ _)
    have G9 : Fz w9 w0.heap.size := hE ▸ (((G.set _ _).set _ _).set _ _)
    have hg9 : Hid (GrewS W w9) := Lib.hid (hE ▸ ((hgd.out.setCell (a := ⟨_, 0, none⟩) (Nat.le_trans (Nat.le_of_lt (Nat.lt_of_succ_lt hn0)) (Nat.le_refl _)) _).setCell (a := ⟨_, 1, none⟩) (Nat.le_of_lt (Nat.lt_of_succ_lt hn0)) _).setCell (a := ⟨_, 2, none⟩) (Nat.le_of_lt (Nat.lt_of_succ_lt hn0)) _)
    clear hE Y R F G hgd X hS
    have Y0 := Y9.c0
    have Y1 := Y9.c1
    have Y2 := Y9.c2
    have Y3 := Y9.lt
    have G2 := G9.2
    have R0 := R9.c0
    have R1 := R9.c1
    have R2 := R9.c2
    have R3 := R9.lt
    have F2 := F9.2
    go_wp2_with fail
    exact bodyPost_ret (v := .tuple #[ent V r w, .int .i64 0]) (by simp [results, Try.results40, go_sem, R0, R1, R2]) rfl ⟨rfl, by
      repeat with_reducible first | exact hg9.out | apply GrewS.alloc | (refine GrewS.setCell ?_ (by first | (simp; done) | (simp; omega)) _)⟩
set_option maxRecDepth 100000 in
set_option maxHeartbeats 1000000 in
theorem on_3 {y r w f V : Int} (W : World) (hb : EB y r w) (h : relB false y r w = true) (hV : (V == 18446744073709551615) = true)
    (HM : ∀ W, Hid (Calls Try.prog 81 #[.int .u64 f, .int .u64 y] W fun e w' => e = .returned (.int .u64 V) ∧ W = w')) :
    Calls Try.prog 40 #[rel false y r w, .int .u64 f] W fun e w' => e = .returned (.tuple #[ent V 0 w, .int .i64 0]) ∧ GrewS W w' := by
  have H' := fun W => relRight_any (b := false) W hb
  rw [h] at H'
  have H := fun W => Lib.hid (H' W)
  have HW' := fun W => way_any (b := false) (y := y) (r := r) (w := w) W
  simp only [wayV] at HW'
  have HW := fun W => Lib.hid (HW' W)
  have F0 := fun w => field0 81 82 w
  clear H' HW' h hb
  go_enter Try.func40, Try.ntmps40
  go_wp2_with fail
  refine (H _).out.mono ?_
  rintro e w0 ⟨rfl, hg0⟩
  have k0 := hg0.kp
  have X := C4.kp ((C4.new W _ _ _ _ _).alloc _) k0
  have R : C3 w0 (W.heap.size + 1) (.int .u64 0) (.int .u32 0) (.int .u32 0) := by simpa using C3.kp (C3.new (W.alloc _) _ _ _ _) k0
  have F : Fz w0 (W.heap.size + 1) := by simpa using Fz.kp (Fz.new (W.alloc _) _ _) k0
  have hg := Lib.hid ((((GrewS.refl W).alloc _).alloc _).trans hg0)
  have X0 := X.c0
  have X1 := X.c1
  have X2 := X.c2
  have X3 := X.c3
  have X4 := X.lt
  have hn0 : W.heap.size + 1 < w0.heap.size := R.lt
  clear k0 hg0
  go_wp2_with fail
  refine wp_region_anyN (fun w' => w'.cell? ⟨W.heap.size, 0, none⟩ = some (.bool false) ∧ w'.cell? ⟨W.heap.size, 1, none⟩ = some (.int .u64 y) ∧ w'.cell? ⟨W.heap.size, 2, none⟩ = some (.int .u32 r) ∧ w'.cell? ⟨W.heap.size, 3, none⟩ = some (.int .u32 w)) 13 (by kernel_rfl) ?_
  replace X := X.drew
  replace R := R.drew
  replace F := F.drew
  have hgd := Lib.hid hg.out.drew
  clear hg
  replace hn0 : W.heap.size + 1 < w0.drew.heap.size := hn0
  generalize w0.drew = w0 at *
  have hS : w0.cell? ⟨W.heap.size, 0, none⟩ = some (.bool false) ∧ w0.cell? ⟨W.heap.size, 1, none⟩ = some (.int .u64 y) ∧ w0.cell? ⟨W.heap.size, 2, none⟩ = some (.int .u32 r) ∧ w0.cell? ⟨W.heap.size, 3, none⟩ = some (.int .u32 w) := ⟨X.c0, X.c1, X.c2, X.c3⟩
  refine anyN_take 0 (v := ?_) rfl (by kernel_rfl) (by kernel_rfl) (by kernel_rfl) (by kernel_rfl) (by kernel_rfl) (fun _ _ _ h => h) (Or.inl ⟨by rfl, ?_⟩) (by assumption) ?_
  rotate_left
  · intro w hSw
    obtain ⟨_, _, _, _⟩ := hSw
    go_simp
    try with_reducible rfl
  simp only [Act.put, List.setIfInBounds_toArray, List.set_cons_zero, List.set_cons_succ]
  refine anyN_take 3 (v := ?_) rfl (by kernel_rfl) (by kernel_rfl) (by kernel_rfl) (by kernel_rfl) (by kernel_rfl) (fun _ _ _ h => h) (Or.inl ⟨by rfl, ?_⟩) (by assumption) ?_
  rotate_left
  · intro w hSw
    obtain ⟨_, _, _, _⟩ := hSw
    go_simp
    try with_reducible rfl
  simp only [Act.put, List.setIfInBounds_toArray, List.set_cons_zero, List.set_cons_succ]
  refine anyN_take 4 (v := ?_) rfl (by kernel_rfl) (by kernel_rfl) (by kernel_rfl) (by kernel_rfl) (by kernel_rfl) (fun _ _ _ h => h) (Or.inl ⟨by rfl, ?_⟩) (by assumption) ?_
  rotate_left
  · intro w hSw
    obtain ⟨_, _, _, _⟩ := hSw
    go_simp
    try with_reducible rfl
  simp only [Act.put, List.setIfInBounds_toArray, List.set_cons_zero, List.set_cons_succ]
  refine anyN_take 5 (v := ?_) rfl (by kernel_rfl) (by kernel_rfl) (by kernel_rfl) (by kernel_rfl) (by kernel_rfl) (fun _ _ _ h => h) (Or.inl ⟨by rfl, ?_⟩) (by assumption) ?_
  rotate_left
  · intro w hSw
    obtain ⟨_, _, _, _⟩ := hSw
    go_simp
    try with_reducible rfl
  simp only [Act.put, List.setIfInBounds_toArray, List.set_cons_zero, List.set_cons_succ]
  refine anyN_take 7 (v := ?_) rfl (by kernel_rfl) (by kernel_rfl) (by kernel_rfl) (by kernel_rfl) (by kernel_rfl) (fun _ _ _ h => h) (Or.inl ⟨by rfl, ?_⟩) (by assumption) ?_
  rotate_left
  · intro w hSw
    obtain ⟨_, _, _, _⟩ := hSw
    go_simp
    try with_reducible rfl
  simp only [Act.put, List.setIfInBounds_toArray, List.set_cons_zero, List.set_cons_succ]
  refine anyN_take 8 (v := ?_) rfl (by kernel_rfl) (by kernel_rfl) (by kernel_rfl) (by kernel_rfl) (by kernel_rfl) (fun _ _ _ h => h) (Or.inl ⟨by rfl, ?_⟩) (by assumption) ?_
  rotate_left
  · intro w hSw
    obtain ⟨_, _, _, _⟩ := hSw
    go_simp
    try with_reducible rfl
  simp only [Act.put, List.setIfInBounds_toArray, List.set_cons_zero, List.set_cons_succ]
  refine anyN_take 9 (v := ?_) rfl (by kernel_rfl) (by kernel_rfl) (by kernel_rfl) (by kernel_rfl) (by kernel_rfl) (fun _ _ _ h => h) (Or.inl ⟨by rfl, ?_⟩) (by assumption) ?_
  rotate_left
  · intro w hSw
    obtain ⟨_, _, _, _⟩ := hSw
    go_simp
    try with_reducible rfl
  simp only [Act.put, List.setIfInBounds_toArray, List.set_cons_zero, List.set_cons_succ]
  refine anyN_take 10 (v := ?_) rfl (by kernel_rfl) (by kernel_rfl) (by kernel_rfl) (by kernel_rfl) (by kernel_rfl) (fun _ _ _ h => h) (Or.inl ⟨by rfl, ?_⟩) (by assumption) ?_
  rotate_left
  · intro w hSw
    obtain ⟨_, _, _, _⟩ := hSw
    go_simp
    try with_reducible rfl
  simp only [Act.put, List.setIfInBounds_toArray, List.set_cons_zero, List.set_cons_succ]
  refine anyN_two 1 12 rfl rfl (by kernel_rfl) rfl rfl ?_ ?_
  · go_simp
    refine (HW _).out.mono ?_
    rintro e w1 ⟨rfl, hg1⟩
    have k1 := hg1.kp
    replace X := X.kp k1
    replace R := R.kp k1
    replace F := F.kp k1
    replace hgd := Lib.hid (hgd.out.trans hg1.s)
    clear k1 hg1
    dsimp only
    refine and_keep ⟨X.c0, X.c1, X.c2, X.c3⟩ (fun hS => ?_)
    refine anyN_take 2 (v := ?_) rfl (by kernel_rfl) (by kernel_rfl) (by kernel_rfl) (by kernel_rfl) (by kernel_rfl) (fun _ _ _ h => h) (Or.inl ⟨by rfl, ?_⟩) (by assumption) ?_
    rotate_left
    · intro w hSw
      obtain ⟨_, _, _, _⟩ := hSw
      go_simp
      try with_reducible rfl
    simp only [Act.put, List.setIfInBounds_toArray, List.set_cons_zero, List.set_cons_succ]
    refine anyN_two 6 12 rfl rfl (by kernel_rfl) rfl rfl ?_ ?_
    · go_simp
      refine (HM _).out.mono ?_
      rintro e w' ⟨rfl, rfl⟩
      dsimp only
      refine and_keep ⟨X.c0, X.c1, X.c2, X.c3⟩ (fun hS => ?_)
      refine anyN_take 11 (v := ?_) rfl (by kernel_rfl) (by kernel_rfl) (by kernel_rfl) (by kernel_rfl) (by kernel_rfl) (fun _ _ _ h => h) (Or.inl ⟨by rfl, ?_⟩) (by assumption) ?_
      rotate_left
      · intro w hSw
        obtain ⟨_, _, _, _⟩ := hSw
        go_simp
        try with_reducible rfl
      simp only [Act.put, List.setIfInBounds_toArray, List.set_cons_zero, List.set_cons_succ]
      refine anyN_one 12 rfl (by kernel_rfl) rfl ?_
      go_simp
      have X' := X.alloc (.cells #[.int .u64 0, .int .u32 0, .int .u32 0] 25)
      refine and_keep ⟨X'.c0, X'.c1, X'.c2, X'.c3⟩ (fun hS => ?_)
      refine anyN_one 13 rfl (by kernel_rfl) rfl ?_
      go_simp
      refine anyN_done (by kernel_rfl) ?_
      clear hS X X'
      have R0 := R.c0
      have R1 := R.c1
      have R2 := R.c2
      have R3 := R.lt
      have F2 := F.2
      go_wp2_with fail
      exact bodyPost_ret (v := .tuple #[ent V 0 w, .int .i64 0]) (by simp [results, Try.results40, go_sem, R0, R1, R2, R3]) rfl ⟨rfl, by
        repeat with_reducible first | exact hgd.out | apply GrewS.alloc | (refine GrewS.setCell ?_ (by first | (simp; done) | (simp; omega)) _)⟩
    · go_simp
      have X' := X.alloc (.cells #[.int .u64 0, .int .u32 0, .int .u32 0] 25)
      refine and_keep ⟨X'.c0, X'.c1, X'.c2, X'.c3⟩ (fun hS => ?_)
      refine anyN_one 6 rfl (by kernel_rfl) rfl ?_
      go_simp
      refine (HM _).out.mono ?_
      rintro e w' ⟨rfl, rfl⟩
      dsimp only
      refine and_keep ⟨X'.c0, X'.c1, X'.c2, X'.c3⟩ (fun hS => ?_)
      refine anyN_take 11 (v := ?_) rfl (by kernel_rfl) (by kernel_rfl) (by kernel_rfl) (by kernel_rfl) (by kernel_rfl) (fun _ _ _ h => h) (Or.inl ⟨by rfl, ?_⟩) (by assumption) ?_
      rotate_left
      · intro w hSw
        obtain ⟨_, _, _, _⟩ := hSw
        go_simp
        try with_reducible rfl
      simp only [Act.put, List.setIfInBounds_toArray, List.set_cons_zero, List.set_cons_succ]
      refine anyN_one 13 rfl (by kernel_rfl) rfl ?_
      go_simp
      refine anyN_done (by kernel_rfl) ?_
      clear hS X X'
      have R0 := R.c0
      have R1 := R.c1
      have R2 := R.c2
      have R3 := R.lt
      have F2 := F.2
      go_wp2_with fail
      exact bodyPost_ret (v := .tuple #[ent V 0 w, .int .i64 0]) (by simp [results, Try.results40, go_sem, R0, R1, R2, R3]) rfl ⟨rfl, by
        repeat with_reducible first | exact hgd.out | apply GrewS.alloc | (refine GrewS.setCell ?_ (by first | (simp; done) | (simp; omega)) _)⟩
  · go_simp
    replace X := X.alloc (.cells #[.int .u64 0, .int .u32 0, .int .u32 0] 25)
    replace R := R.alloc (.cells #[.int .u64 0, .int .u32 0, .int .u32 0] 25)
    replace F := F.alloc (.cells #[.int .u64 0, .int .u32 0, .int .u32 0] 25)
    have Y := C3.new w0 (.int .u64 0) (.int .u32 0) (.int .u32 0) 25
    have G := Fz.new w0 #[.int .u64 0, .int .u32 0, .int .u32 0] 25
    replace hgd := Lib.hid (hgd.out.alloc (.cells #[.int .u64 0, .int .u32 0, .int .u32 0] 25))
    have hne : ¬ W.heap.size + 1 = w0.heap.size := by have := R.lt; have := X4; have := hn0; omega
    refine and_keep ⟨X.c0, X.c1, X.c2, X.c3⟩ (fun hS => ?_)
    refine anyN_one 1 rfl (by kernel_rfl) rfl ?_
    go_simp
    refine (HW _).out.mono ?_
    rintro e w1 ⟨rfl, hg1⟩
    have k1 := hg1.kp
    replace X := X.kp k1
    replace R := R.kp k1
    replace F := F.kp k1
    replace Y := Y.kp k1
    replace G := G.kp k1
    replace hgd := Lib.hid (hgd.out.trans hg1.s)
    clear k1 hg1
    dsimp only
    refine and_keep ⟨X.c0, X.c1, X.c2, X.c3⟩ (fun hS => ?_)
    refine anyN_take 2 (v := ?_) rfl (by kernel_rfl) (by kernel_rfl) (by kernel_rfl) (by kernel_rfl) (by kernel_rfl) (fun _ _ _ h => h) (Or.inl ⟨by rfl, ?_⟩) (by assumption) ?_
    rotate_left
    · intro w hSw
      obtain ⟨_, _, _, _⟩ := hSw
      go_simp
      try with_reducible rfl
    simp only [Act.put, List.setIfInBounds_toArray, List.set_cons_zero, List.set_cons_succ]
    refine anyN_one 6 rfl (by kernel_rfl) rfl ?_
    go_simp
    refine (HM _).out.mono ?_
    rintro e w' ⟨rfl, rfl⟩
    dsimp only
    refine and_keep ⟨X.c0, X.c1, X.c2, X.c3⟩ (fun hS => ?_)
    refine anyN_take 11 (v := ?_) rfl (by kernel_rfl) (by kernel_rfl) (by kernel_rfl) (by kernel_rfl) (by kernel_rfl) (fun _ _ _ h => h) (Or.inl ⟨by rfl, ?_⟩) (by assumption) ?_
    rotate_left
    · intro w hSw
      obtain ⟨_, _, _, _⟩ := hSw
      go_simp
      try with_reducible rfl
    simp only [Act.put, List.setIfInBounds_toArray, List.set_cons_zero, List.set_cons_succ]
    have Y0 := Y.c0
    have Y1 := Y.c1
    have Y2 := Y.c2
    have G2 := G.2
    refine anyN_one 13 rfl (by kernel_rfl) rfl ?_
    go_simp
    refine anyN_done (by kernel_rfl) ?_
    clear Y0 Y1 Y2 G2
    generalize hE : World.setCell _ _ _ = w9
    have Y9 : C3 w9 w0.heap.size (.int .u64 V) (.int .u32 r) (.int .u32 w) := hE ▸ Y.set _ _ _
    have R9 : C3 w9 (W.heap.size + 1) (.int .u64 0) (.int .u32 0) (.int .u32 0) := hE ▸ (((R.far (p := ⟨_, 0, none⟩) (fun h => hne h.symm) _).far (p := ⟨_, 1, none⟩) (fun h => hne h.symm) _).far (p := ⟨_, 2, none⟩) (fun h => hne h.symm) _)
    have F9 : Fz w9 (W.heap.size + 1) := hE ▸ (((F.set _ _).set _ _).set _ _)
    have G9 : Fz w9 w0.heap.size := hE ▸ (((G.set _ _).set _ _).set _ _)
    have hg9 : Hid (GrewS W w9) := Lib.hid (hE ▸ ((hgd.out.setCell (a := ⟨_, 0, none⟩) (Nat.le_trans (Nat.le_of_lt (Nat.lt_of_succ_lt hn0)) (Nat.le_refl _)) _).setCell (a := ⟨_, 1, none⟩) (Nat.le_of_lt (Nat.lt_of_succ_lt hn0)) _).setCell (a := ⟨_, 2, none⟩) (Nat.le_of_lt (Nat.lt_of_succ_lt hn0)) _)
    clear hE Y R F G hgd X hS
    have Y0 := Y9.c0
    have Y1 := Y9.c1
    have Y2 := Y9.c2
    have Y3 := Y9.lt
    have G2 := G9.2
    have R0 := R9.c0
    have R1 := R9.c1
    have R2 := R9.c2
    have R3 := R9.lt
    have F2 := F9.2
    go_wp2_with fail
    exact bodyPost_ret (v := .tuple #[ent V 0 w, .int .i64 0]) (by simp [results, Try.results40, go_sem, R0, R1, R2]) rfl ⟨rfl, by
      repeat with_reducible first | exact hg9.out | apply GrewS.alloc | (refine GrewS.setCell ?_ (by first | (simp; done) | (simp; omega)) _)⟩
set_option maxRecDepth 100000 in
set_option maxHeartbeats 1000000 in
theorem on_4 {y r w f V : Int} (W : World) (hb : EB y r w) (h : relB false y r w = true) (hV : (V == 18446744073709551615) = false)
    (HM : ∀ W, Hid (Calls Try.prog 81 #[.int .u64 f, .int .u64 y] W fun e w' => e = .returned (.int .u64 V) ∧ W = w')) :
    Calls Try.prog 40 #[rel false y r w, .int .u64 f] W fun e w' => e = .returned (.tuple #[ent V r w, .int .i64 0]) ∧ GrewS W w' := by
  have H' := fun W => relRight_any (b := false) W hb
  rw [h] at H'
  have H := fun W => Lib.hid (H' W)
  have HW' := fun W => way_any (b := false) (y := y) (r := r) (w := w) W
  simp only [wayV] at HW'
  have HW := fun W => Lib.hid (HW' W)
  have F0 := fun w => field0 81 82 w
  clear H' HW' h hb
  go_enter Try.func40, Try.ntmps40
  go_wp2_with fail
  refine (H _).out.mono ?_
  rintro e w0 ⟨rfl, hg0⟩
  have k0 := hg0.kp
  have X := C4.kp ((C4.new W _ _ _ _ _).alloc _) k0
  have R : C3 w0 (W.heap.size + 1) (.int .u64 0) (.int .u32 0) (.int .u32 0) := by simpa using C3.kp (C3.new (W.alloc _) _ _ _ _) k0
  have F : Fz w0 (W.heap.size + 1) := by simpa using Fz.kp (Fz.new (W.alloc _) _ _) k0
  have hg := Lib.hid ((((GrewS.refl W).alloc _).alloc _).trans hg0)
  have X0 := X.c0
  have X1 := X.c1
  have X2 := X.c2
  have X3 := X.c3
  have X4 := X.lt
  have hn0 : W.heap.size + 1 < w0.heap.size := R.lt
  clear k0 hg0
  go_wp2_with fail
  refine wp_region_anyN (fun w' => w'.cell? ⟨W.heap.size, 0, none⟩ = some (.bool false) ∧ w'.cell? ⟨W.heap.size, 1, none⟩ = some (.int .u64 y) ∧ w'.cell? ⟨W.heap.size, 2, none⟩ = some (.int .u32 r) ∧ w'.cell? ⟨W.heap.size, 3, none⟩ = some (.int .u32 w)) 13 (by kernel_rfl) ?_
  replace X := X.drew
  replace R := R.drew
  replace F := F.drew
  have hgd := Lib.hid hg.out.drew
  clear hg
  replace hn0 : W.heap.size + 1 < w0.drew.heap.size := hn0
  generalize w0.drew = w0 at *
  have hS : w0.cell? ⟨W.heap.size, 0, none⟩ = some (.bool false) ∧ w0.cell? ⟨W.heap.size, 1, none⟩ = some (.int .u64 y) ∧ w0.cell? ⟨W.heap.size, 2, none⟩ = some (.int .u32 r) ∧ w0.cell? ⟨W.heap.size, 3, none⟩ = some (.int .u32 w) := ⟨X.c0, X.c1, X.c2, X.c3⟩
  refine anyN_take 0 (v := ?_) rfl (by kernel_rfl) (by kernel_rfl) (by kernel_rfl) (by kernel_rfl) (by kernel_rfl) (fun _ _ _ h => h) (Or.inl ⟨by rfl, ?_⟩) (by assumption) ?_
  rotate_left
  · intro w hSw
    obtain ⟨_, _, _, _⟩ := hSw
    go_simp
    try with_reducible rfl
  simp only [Act.put, List.setIfInBounds_toArray, List.set_cons_zero, List.set_cons_succ]
  refine anyN_take 3 (v := ?_) rfl (by kernel_rfl) (by kernel_rfl) (by kernel_rfl) (by kernel_rfl) (by kernel_rfl) (fun _ _ _ h => h) (Or.inl ⟨by rfl, ?_⟩) (by assumption) ?_
  rotate_left
  · intro w hSw
    obtain ⟨_, _, _, _⟩ := hSw
    go_simp
    try with_reducible rfl
  simp only [Act.put, List.setIfInBounds_toArray, List.set_cons_zero, List.set_cons_succ]
  refine anyN_take 4 (v := ?_) rfl (by kernel_rfl) (by kernel_rfl) (by kernel_rfl) (by kernel_rfl) (by kernel_rfl) (fun _ _ _ h => h) (Or.inl ⟨by rfl, ?_⟩) (by assumption) ?_
  rotate_left
  · intro w hSw
    obtain ⟨_, _, _, _⟩ := hSw
    go_simp
    try with_reducible rfl
  simp only [Act.put, List.setIfInBounds_toArray, List.set_cons_zero, List.set_cons_succ]
  refine anyN_take 5 (v := ?_) rfl (by kernel_rfl) (by kernel_rfl) (by kernel_rfl) (by kernel_rfl) (by kernel_rfl) (fun _ _ _ h => h) (Or.inl ⟨by rfl, ?_⟩) (by assumption) ?_
  rotate_left
  · intro w hSw
    obtain ⟨_, _, _, _⟩ := hSw
    go_simp
    try with_reducible rfl
  simp only [Act.put, List.setIfInBounds_toArray, List.set_cons_zero, List.set_cons_succ]
  refine anyN_take 7 (v := ?_) rfl (by kernel_rfl) (by kernel_rfl) (by kernel_rfl) (by kernel_rfl) (by kernel_rfl) (fun _ _ _ h => h) (Or.inl ⟨by rfl, ?_⟩) (by assumption) ?_
  rotate_left
  · intro w hSw
    obtain ⟨_, _, _, _⟩ := hSw
    go_simp
    try with_reducible rfl
  simp only [Act.put, List.setIfInBounds_toArray, List.set_cons_zero, List.set_cons_succ]
  refine anyN_take 8 (v := ?_) rfl (by kernel_rfl) (by kernel_rfl) (by kernel_rfl) (by kernel_rfl) (by kernel_rfl) (fun _ _ _ h => h) (Or.inl ⟨by rfl, ?_⟩) (by assumption) ?_
  rotate_left
  · intro w hSw
    obtain ⟨_, _, _, _⟩ := hSw
    go_simp
    try with_reducible rfl
  simp only [Act.put, List.setIfInBounds_toArray, List.set_cons_zero, List.set_cons_succ]
  refine anyN_take 9 (v := ?_) rfl (by kernel_rfl) (by kernel_rfl) (by kernel_rfl) (by kernel_rfl) (by kernel_rfl) (fun _ _ _ h => h) (Or.inl ⟨by rfl, ?_⟩) (by assumption) ?_
  rotate_left
  · intro w hSw
    obtain ⟨_, _, _, _⟩ := hSw
    go_simp
    try with_reducible rfl
  simp only [Act.put, List.setIfInBounds_toArray, List.set_cons_zero, List.set_cons_succ]
  refine anyN_take 10 (v := ?_) rfl (by kernel_rfl) (by kernel_rfl) (by kernel_rfl) (by kernel_rfl) (by kernel_rfl) (fun _ _ _ h => h) (Or.inl ⟨by rfl, ?_⟩) (by assumption) ?_
  rotate_left
  · intro w hSw
    obtain ⟨_, _, _, _⟩ := hSw
    go_simp
    try with_reducible rfl
  simp only [Act.put, List.setIfInBounds_toArray, List.set_cons_zero, List.set_cons_succ]
  refine anyN_two 1 12 rfl rfl (by kernel_rfl) rfl rfl ?_ ?_
  · go_simp
    refine (HW _).out.mono ?_
    rintro e w1 ⟨rfl, hg1⟩
    have k1 := hg1.kp
    replace X := X.kp k1
    replace R := R.kp k1
    replace F := F.kp k1
    replace hgd := Lib.hid (hgd.out.trans hg1.s)
    clear k1 hg1
    dsimp only
    refine and_keep ⟨X.c0, X.c1, X.c2, X.c3⟩ (fun hS => ?_)
    refine anyN_take 2 (v := ?_) rfl (by kernel_rfl) (by kernel_rfl) (by kernel_rfl) (by kernel_rfl) (by kernel_rfl) (fun _ _ _ h => h) (Or.inl ⟨by rfl, ?_⟩) (by assumption) ?_
    rotate_left
    · intro w hSw
      obtain ⟨_, _, _, _⟩ := hSw
      go_simp
      try with_reducible rfl
    simp only [Act.put, List.setIfInBounds_toArray, List.set_cons_zero, List.set_cons_succ]
    refine anyN_two 6 12 rfl rfl (by kernel_rfl) rfl rfl ?_ ?_
    · go_simp
      refine (HM _).out.mono ?_
      rintro e w' ⟨rfl, rfl⟩
      dsimp only
      refine and_keep ⟨X.c0, X.c1, X.c2, X.c3⟩ (fun hS => ?_)
      refine anyN_take 11 (v := ?_) rfl (by kernel_rfl) (by kernel_rfl) (by kernel_rfl) (by kernel_rfl) (by kernel_rfl) (fun _ _ _ h => h) (Or.inl ⟨by rfl, ?_⟩) (by assumption) ?_
      rotate_left
      · intro w hSw
        obtain ⟨_, _, _, _⟩ := hSw
        go_simp
        try with_reducible rfl
      simp only [Act.put, List.setIfInBounds_toArray, List.set_cons_zero, List.set_cons_succ]
      refine anyN_one 12 rfl (by kernel_rfl) rfl ?_
      go_simp
      have X' := X.alloc (.cells #[.int .u64 0, .int .u32 0, .int .u32 0] 25)
      refine and_keep ⟨X'.c0, X'.c1, X'.c2, X'.c3⟩ (fun hS => ?_)
      refine anyN_one 13 rfl (by kernel_rfl) rfl ?_
      go_simp
      refine anyN_done (by kernel_rfl) ?_
      clear hS X X'
      have R0 := R.c0
      have R1 := R.c1
      have R2 := R.c2
      have R3 := R.lt
      have F2 := F.2
      go_wp2_with fail
      exact bodyPost_ret (v := .tuple #[ent V r w, .int .i64 0]) (by simp [results, Try.results40, go_sem, R0, R1, R2, R3]) rfl ⟨rfl, by
        repeat with_reducible first | exact hgd.out | apply GrewS.alloc | (refine GrewS.setCell ?_ (by first | (simp; done) | (simp; omega)) _)⟩
    · go_simp
      have X' := X.alloc (.cells #[.int .u64 0, .int .u32 0, .int .u32 0] 25)
      refine and_keep ⟨X'.c0, X'.c1, X'.c2, X'.c3⟩ (fun hS => ?_)
      refine anyN_one 6 rfl (by kernel_rfl) rfl ?_
      go_simp
      refine (HM _).out.mono ?_
      rintro e w' ⟨rfl, rfl⟩
      dsimp only
      refine and_keep ⟨X'.c0, X'.c1, X'.c2, X'.c3⟩ (fun hS => ?_)
      refine anyN_take 11 (v := ?_) rfl (by kernel_rfl) (by kernel_rfl) (by kernel_rfl) (by kernel_rfl) (by kernel_rfl) (fun _ _ _ h => h) (Or.inl ⟨by rfl, ?_⟩) (by assumption) ?_
      rotate_left
      · intro w hSw
        obtain ⟨_, _, _, _⟩ := hSw
        go_simp
        try with_reducible rfl
      simp only [Act.put, List.setIfInBounds_toArray, List.set_cons_zero, List.set_cons_succ]
      refine anyN_one 13 rfl (by kernel_rfl) rfl ?_
      go_simp
      refine anyN_done (by kernel_rfl) ?_
      clear hS X X'
      have R0 := R.c0
      have R1 := R.c1
      have R2 := R.c2
      have R3 := R.lt
      have F2 := F.2
      go_wp2_with fail
      exact bodyPost_ret (v := .tuple #[ent V r w, .int .i64 0]) (by simp [results, Try.results40, go_sem, R0, R1, R2, R3]) rfl ⟨rfl, by
        repeat with_reducible first | exact hgd.out | apply GrewS.alloc | (refine GrewS.setCell ?_ (by first | (simp; done) | (simp; omega)) _)⟩
  · go_simp
    replace X := X.alloc (.cells #[.int .u64 0, .int .u32 0, .int .u32 0] 25)
    replace R := R.alloc (.cells #[.int .u64 0, .int .u32 0, .int .u32 0] 25)
    replace F := F.alloc (.cells #[.int .u64 0, .int .u32 0, .int .u32 0] 25)
    have Y := C3.new w0 (.int .u64 0) (.int .u32 0) (.int .u32 0) 25
    have G := Fz.new w0 #[.int .u64 0, .int .u32 0, .int .u32 0] 25
    replace hgd := Lib.hid (hgd.out.alloc (.cells #[.int .u64 0, .int .u32 0, .int .u32 0] 25))
    have hne : ¬ W.heap.size + 1 = w0.heap.size := by have := R.lt; have := X4; have := hn0; omega
    refine and_keep ⟨X.c0, X.c1, X.c2, X.c3⟩ (fun hS => ?_)
    refine anyN_one 1 rfl (by kernel_rfl) rfl ?_
    go_simp
    refine (HW _).out.mono ?_
    rintro e w1 ⟨rfl, hg1⟩
    have k1 := hg1.kp
    replace X := X.kp k1
    replace R := R.kp k1
    replace F := F.kp k1
    replace Y := Y.kp k1
    replace G := G.kp k1
    replace hgd := Lib.hid (hgd.out.trans hg1.s)
    clear k1 hg1
    dsimp only
    refine and_keep ⟨X.c0, X.c1, X.c2, X.c3⟩ (fun hS => ?_)
    refine anyN_take 2 (v := ?_) rfl (by kernel_rfl) (by kernel_rfl) (by kernel_rfl) (by kernel_rfl) (by kernel_rfl) (fun _ _ _ h => h) (Or.inl ⟨by rfl, ?_⟩) (by assumption) ?_
    rotate_left
    · intro w hSw
      obtain ⟨_, _, _, _⟩ := hSw
      go_simp
      try with_reducible rfl
    simp only [Act.put, List.setIfInBounds_toArray, List.set_cons_zero, List.set_cons_succ]
    refine anyN_one 6 rfl (by kernel_rfl) rfl ?_
    go_simp
    refine (HM _).out.mono ?_
    rintro e w' ⟨rfl, rfl⟩
    dsimp only
    refine and_keep ⟨X.c0, X.c1, X.c2, X.c3⟩ (fun hS => ?_)
    refine anyN_take 11 (v := ?_) rfl (by kernel_rfl) (by kernel_rfl) (by kernel_rfl) (by kernel_rfl) (by kernel_rfl) (fun _ _ _ h => h) (Or.inl ⟨by rfl, ?_⟩) (by assumption) ?_
    rotate_left
    · intro w hSw
      obtain ⟨_, _, _, _⟩ := hSw
      go_simp
      try with_reducible rfl
    simp only [Act.put, List.setIfInBounds_toArray, List.set_cons_zero, List.set_cons_succ]
    have Y0 := Y.c0
    have Y1 := Y.c1
    have Y2 := Y.c2
    have G2 := G.2
    refine anyN_one 13 rfl (by kernel_rfl) rfl ?_
    go_simp
    refine anyN_done (by kernel_rfl) ?_
    clear Y0 Y1 Y2 G2
    generalize hE : World.setCell _ _ _ = w9
    have Y9 : C3 w9 w0.heap.size (.int .u64 V) (.int .u32 r) (.int .u32 w) := hE ▸ Y.set _ _ _
    have R9 : C3 w9 (W.heap.size + 1) (.int .u64 0) (.int .u32 0) (.int .u32 0) := hE ▸ (((R.far (p := ⟨_, 0, none⟩) (fun h => hne h.symm) _).far (p := ⟨_, 1, none⟩) (fun h => hne h.symm) _).far (p := ⟨_, 2, none⟩) (fun h => hne h.symm) _)
    have F9 : Fz w9 (W.heap.size + 1) := hE ▸ (((F.set _ _).set _ _).set _ _)
    have G9 : Fz w9 w0.heap.size := hE ▸ (((G.set _ _).set _ _).set _ _)
    have hg9 : Hid (GrewS W w9) := Lib.hid (hE ▸ ((hgd.out.setCell (a := ⟨_, 0, none⟩) (Nat.le_trans (Nat.le_of_lt (Nat.lt_of_succ_lt hn0)) (Nat.le_refl _)) _).setCell (a := ⟨_, 1, none⟩) (Nat.le_of_lt (Nat.lt_of_succ_lt hn0)) _).setCell (a := ⟨_, 2, none⟩) (Nat.le_of_lt (Nat.lt_of_succ_lt hn0)) _)
    clear hE Y R F G hgd X hS
    have Y0 := Y9.c0
    have Y1 := Y9.c1
    have Y2 := Y9.c2
    have Y3 := Y9.lt
    have G2 := G9.2
    have R0 := R9.c0
    have R1 := R9.c1
    have R2 := R9.c2
    have R3 := R9.lt
    have F2 := F9.2
    go_wp2_with fail
    exact bodyPost_ret (v := .tuple #[ent V r w, .int .i64 0]) (by simp [results, Try.results40, go_sem, R0, R1, R2]) rfl ⟨rfl, by
      repeat with_reducible first | exact hg9.out | apply GrewS.alloc | (refine GrewS.setCell ?_ (by first | (simp; done) | (simp; omega)) _)⟩
theorem on_t {b : Bool} {y r w f : Int} (W : World) (hb : EB y r w) (f0 : 0 ≤ f) (f1 : f ≤ 18446744073709551615) (h : relB b y r w = true) :
    Calls Try.prog 40 #[rel b y r w, .int .u64 f] W fun e w' => e = .returned (.tuple #[ent (onV b y f) (onR b y r f) w, .int .i64 0]) ∧ GrewS W w' := by
  cases b
  · have HM := fun W => Lib.hid (way3_any (f := f) (y := y) W f0 f1 hb.v0 hb.v1)
    by_cases hV : onV false y f = 18446744073709551615
    · have e : onR false y r f = 0 := if_pos hV
      rw [e]
      exact on_3 W hb h (by simp [hV]) HM
    · have e : onR false y r f = r := if_neg hV
      rw [e]
      exact on_4 W hb h (by simp [hV]) HM
  · have HM := fun W => Lib.hid (way1_any (f := f) (y := y) W f0 f1 hb.v0)
    by_cases hV : onV true y f = 18446744073709551615
    · have e : onR true y r f = 0 := if_pos hV
      rw [e]
      exact on_1 W hb h (by simp [hV]) HM
    · have e : onR true y r f = r := if_neg hV
      rw [e]
      exact on_2 W hb h (by simp [hV]) HM

theorem on_f {b : Bool} {y r w f : Int} (W : World) (hb : EB y r w) (h : relB b y r w = false) :
    Calls Try.prog 40 #[rel b y r w, .int .u64 f] W fun e w' => e = .returned (.tuple #[ent 0 0 0, .int .i64 2]) ∧ GrewS W w' := by
  have H' := fun W => relRight_any (b := b) W hb
  rw [h] at H'
  have H := fun W => Lib.hid (H' W)
  clear H' h hb
  go_enter Try.func40, Try.ntmps40
  go_wp2_with fail
  refine (H _).out.mono ?_
  rintro e w0 ⟨rfl, hg0⟩
  have k0 := hg0.kp
  have R : C3 w0 (W.heap.size + 1) (.int .u64 0) (.int .u32 0) (.int .u32 0) := by simpa using C3.kp (C3.new (W.alloc _) _ _ _ _) k0
  have F : Fz w0 (W.heap.size + 1) := by simpa using Fz.kp (Fz.new (W.alloc _) _ _) k0
  have hg := Lib.hid ((((GrewS.refl W).alloc _).alloc _).trans hg0)
  have R0 := R.c0
  have R1 := R.c1
  have R2 := R.c2
  have F2 := F.2
  clear R F k0 hg0
  go_wp2_with fail
  exact bodyPost_ret (v := .tuple #[ent 0 0 0, .int .i64 2]) (by simp [results, Try.results40, go_sem, R0, R1, R2]) rfl ⟨rfl, by
    repeat with_reducible first | exact hg.out | apply GrewS.alloc | (refine GrewS.setCell ?_ (by first | (simp; done) | (simp; omega)) _)⟩
end Go.Proofs.Ytmlapjaccmoleaa
