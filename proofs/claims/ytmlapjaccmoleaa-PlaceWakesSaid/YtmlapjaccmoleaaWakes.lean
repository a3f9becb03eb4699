/-
  The law PlaceWakes, walked.
-/
import Derived.Test.YtmlapjaccmoleaaPlain
import Derived.Test.YtmlapjaccmoleaaCells
import Derived.Deep.Cut
namespace Go.Proofs.Ytmlapjaccmoleaa
open Go.RowKit

theorem right_g {v r w : Int} (W : World) (h : rightB v r w = true) : Calls Try.prog 25 #[ent v r w] W fun e w' => e = .returned (.bool true) ∧ Grew 1 W w' :=
  (right_t W h).mono fun _ _ ⟨he, hw⟩ => ⟨he, hw ▸ (Grew.zero W).alloc _⟩

set_option maxRecDepth 100000 in
set_option maxHeartbeats 16000000 in
theorem walk5_0 {v r w v2 r2 w2 f c m X : Int} (W : World) (hX : (c < m ∧ X = m) ∨ (m ≤ c ∧ X = c)) (b1 : EB v r w) (b2 : EB v2 r2 w2) (f0 : 0 ≤ f) (f1 : f ≤ 18446744073709551615) (c0 : 0 ≤ c) (c1 : c ≤ 18446744073709551615) (X0 : 0 ≤ X) (X1 : X ≤ 18446744073709551615) (X2 : c ≤ X) :
    Calls Try.prog 5 #[ent v r w, ent v2 r2 w2, .int .u64 f, .int .u64 c, .int .u64 m] W fun e w' => e = .returned (.bool true) ∧ GrewS W w' := by
  obtain ⟨R, M, hb, hr, HM'⟩ := made_ent b1
  obtain ⟨R2, M2, hb2, hr2, HN'⟩ := made_ent b2
  have HA := fun W => Lib.hid (awakeP_any W)
  have HM := fun W => Lib.hid (HM' W)
  have HN := fun W => Lib.hid (HN' W)
  have H1 := fun W => Lib.hid (woken_t W f0 f1 c0 c1 hb hr)
  have H2 := fun W => Lib.hid (woken_t W f0 f1 c0 c1 hb2 hr2)
  have hbA := wk_eb (f := f) (c := c) hb f1 c0
  have hrA := wk_right (f := f) (c := c) hb hr
  have H3' := fun W => woken_t W f0 f1 c0 c1 hbA hrA
  have ag := wk_again (v := v) (r := R) (f := f) (c := c)
  rw [ag.1, ag.2] at H3'
  have H3 := fun W => Lib.hid (H3' W)
  clear H3' ag
  have H4' := fun W => gain_any W hb f0 f1 c0 c1
  rw [hr, iff_t, xE_t hr] at H4'
  have H4 := fun W => Lib.hid (H4' W)
  clear H4' HM' HN'
  have HR := fun W => Lib.hid (right_g W hrA)
  have H5 := fun W => Lib.hid (woken_t W f0 f1 X0 X1 hb hr)
  have g1 := decide_eq_false (show ¬ wkV v f c < v by have := wk_ge v f c; omega)
  have g2 := decide_eq_false (show ¬ wkV v f c < wkV v f X by have := wk_more v f X2; omega)
  have g3 := decide_eq_false (show ¬ wkV v f c < lessV f c by have := wk_ge v f c; omega)
  have g4 := wk_mono v v2 f c
  have g5 := wk_at v R f c
  have v0 := hb.v0
  have a1 := hbA.v1
  generalize wkV v f X = C1 at *
  generalize wkR v R f X = C2 at *
  generalize wkV v2 f c = B1 at *
  generalize wkR v2 R2 f c = B2 at *
  generalize wkV v f c = A1 at *
  generalize wkR v R f c = A2 at *
  have hL : (c < f ∧ lessV f c = f - c) ∨ (f ≤ c ∧ lessV f c = 0) := by unfold lessV; split <;> omega
  have g6 : 0 ≤ A1 - v := by have := of_decide_eq_false g1; omega
  clear hb hr hb2 hr2 hbA hrA b1 b2 X0 X1 X2
  generalize lessV f c = L at *
  rcases hX with ⟨hX, rfl⟩ | ⟨hX, rfl⟩
  all_goals
    go_enter Try.func5, Try.ntmps5
    go_wp2_with fail
    refine (HA _).out.mono ?_
    rintro e w0 ⟨rfl, hg0⟩
    have cc := hg0.kp.cells (K := W.heap.size + 2) (by simp)
    have zz := hg0.kp.frozens (K := W.heap.size + 2) (by simp)
    have n0 : W.heap.size + 2 ≤ w0.heap.size := by have := hg0.kp.size; simp at this; omega
    have s0 : W.heap.size < w0.heap.size := by omega
    have s1 : ∀ k0 : Nat, W.heap.size < w0.heap.size + k0 := by intros; omega
    have s2 : ∀ k0 k1 : Nat, W.heap.size < w0.heap.size + k0 + k1 := by intros; omega
    have s3 : ∀ k0 k1 k2 : Nat, W.heap.size < w0.heap.size + k0 + k1 + k2 := by intros; omega
    have s4 : ∀ k0 k1 k2 k3 : Nat, W.heap.size < w0.heap.size + k0 + k1 + k2 + k3 := by intros; omega
    have s5 : ∀ k0 k1 k2 k3 k4 : Nat, W.heap.size < w0.heap.size + k0 + k1 + k2 + k3 + k4 := by intros; omega
    have s6 : ∀ k0 k1 k2 k3 k4 k5 : Nat, W.heap.size < w0.heap.size + k0 + k1 + k2 + k3 + k4 + k5 := by intros; omega
    have s7 : ∀ k0 k1 k2 k3 k4 k5 k6 : Nat, W.heap.size < w0.heap.size + k0 + k1 + k2 + k3 + k4 + k5 + k6 := by intros; omega
    have s8 : ∀ k0 k1 k2 k3 k4 k5 k6 k7 : Nat, W.heap.size < w0.heap.size + k0 + k1 + k2 + k3 + k4 + k5 + k6 + k7 := by intros; omega
    have s9 : ∀ k0 k1 k2 k3 k4 k5 k6 k7 k8 : Nat, W.heap.size < w0.heap.size + k0 + k1 + k2 + k3 + k4 + k5 + k6 + k7 + k8 := by intros; omega
    have u0 : W.heap.size + 1 < w0.heap.size := by omega
    have u1 : ∀ k0 : Nat, W.heap.size + 1 < w0.heap.size + k0 := by intros; omega
    have u2 : ∀ k0 k1 : Nat, W.heap.size + 1 < w0.heap.size + k0 + k1 := by intros; omega
    have u3 : ∀ k0 k1 k2 : Nat, W.heap.size + 1 < w0.heap.size + k0 + k1 + k2 := by intros; omega
    have u4 : ∀ k0 k1 k2 k3 : Nat, W.heap.size + 1 < w0.heap.size + k0 + k1 + k2 + k3 := by intros; omega
    have u5 : ∀ k0 k1 k2 k3 k4 : Nat, W.heap.size + 1 < w0.heap.size + k0 + k1 + k2 + k3 + k4 := by intros; omega
    have u6 : ∀ k0 k1 k2 k3 k4 k5 : Nat, W.heap.size + 1 < w0.heap.size + k0 + k1 + k2 + k3 + k4 + k5 := by intros; omega
    have u7 : ∀ k0 k1 k2 k3 k4 k5 k6 : Nat, W.heap.size + 1 < w0.heap.size + k0 + k1 + k2 + k3 + k4 + k5 + k6 := by intros; omega
    have u8 : ∀ k0 k1 k2 k3 k4 k5 k6 k7 : Nat, W.heap.size + 1 < w0.heap.size + k0 + k1 + k2 + k3 + k4 + k5 + k6 + k7 := by intros; omega
    have u9 : ∀ k0 k1 k2 k3 k4 k5 k6 k7 k8 : Nat, W.heap.size + 1 < w0.heap.size + k0 + k1 + k2 + k3 + k4 + k5 + k6 + k7 + k8 := by intros; omega
    clear n0
    have hg := Lib.hid ((((GrewS.refl W).alloc _).alloc _).trans hg0)
    go_wp2_with fail
    have dh : w0.drew.heap = w0.heap := rfl
    have dc : ∀ a, w0.drew.cell? a = w0.cell? a := fun _ => rfl
    refine wp_region_anyN (fun w' => w'.cell? ⟨W.heap.size, 0, none⟩ = some (.int .u64 v) ∧ w'.cell? ⟨W.heap.size, 1, none⟩ = some (.int .u32 r) ∧ w'.cell? ⟨W.heap.size, 2, none⟩ = some (.int .u32 w) ∧ w'.cell? ⟨W.heap.size + 1, 0, none⟩ = some (.int .u64 v2) ∧ w'.cell? ⟨W.heap.size + 1, 1, none⟩ = some (.int .u32 r2) ∧ w'.cell? ⟨W.heap.size + 1, 2, none⟩ = some (.int .u32 w2)) 18 (by kernel_rfl) ?_
    have hS : w0.drew.cell? ⟨W.heap.size, 0, none⟩ = some (.int .u64 v) ∧ w0.drew.cell? ⟨W.heap.size, 1, none⟩ = some (.int .u32 r) ∧ w0.drew.cell? ⟨W.heap.size, 2, none⟩ = some (.int .u32 w) ∧ w0.drew.cell? ⟨W.heap.size + 1, 0, none⟩ = some (.int .u64 v2) ∧ w0.drew.cell? ⟨W.heap.size + 1, 1, none⟩ = some (.int .u32 r2) ∧ w0.drew.cell? ⟨W.heap.size + 1, 2, none⟩ = some (.int .u32 w2) := by
      refine ⟨?_, ?_, ?_, ?_, ?_, ?_⟩ <;> simp [dc, cc]
    refine anyN_take 0 (v := ?_) rfl (by kernel_rfl) (by kernel_rfl) (by kernel_rfl) (by kernel_rfl) (by kernel_rfl) (fun _ _ _ h => h) (Or.inl ⟨by rfl, ?_⟩) (by assumption) ?_
    rotate_left
    · intro w hSw
      obtain ⟨_, _, _, _, _, _⟩ := hSw
      go_simp
      try with_reducible rfl
    simp only [Act.put, List.setIfInBounds_toArray, List.set_cons_zero, List.set_cons_succ]
    refine anyN_take 1 (v := ?_) rfl (by kernel_rfl) (by kernel_rfl) (by kernel_rfl) (by kernel_rfl) (by kernel_rfl) (fun _ _ _ h => h) (Or.inl ⟨by rfl, ?_⟩) (by assumption) ?_
    rotate_left
    · intro w hSw
      obtain ⟨_, _, _, _, _, _⟩ := hSw
      go_simp
      try with_reducible rfl
    simp only [Act.put, List.setIfInBounds_toArray, List.set_cons_zero, List.set_cons_succ]
    refine anyN_take 2 (v := ?_) rfl (by kernel_rfl) (by kernel_rfl) (by kernel_rfl) (by kernel_rfl) (by kernel_rfl) (fun _ _ _ h => h) (Or.inl ⟨by rfl, ?_⟩) (by assumption) ?_
    rotate_left
    · intro w hSw
      obtain ⟨_, _, _, _, _, _⟩ := hSw
      go_simp
      try with_reducible rfl
    simp only [Act.put, List.setIfInBounds_toArray, List.set_cons_zero, List.set_cons_succ]
    refine anyN_take 3 (v := ?_) rfl (by kernel_rfl) (by kernel_rfl) (by kernel_rfl) (by kernel_rfl) (by kernel_rfl) (fun _ _ _ h => h) (Or.inl ⟨by rfl, ?_⟩) (by assumption) ?_
    rotate_left
    · intro w hSw
      obtain ⟨_, _, _, _, _, _⟩ := hSw
      go_simp
      try with_reducible rfl
    simp only [Act.put, List.setIfInBounds_toArray, List.set_cons_zero, List.set_cons_succ]
    refine anyN_take 4 (v := ?_) rfl (by kernel_rfl) (by kernel_rfl) (by kernel_rfl) (by kernel_rfl) (by kernel_rfl) (fun _ _ _ h => h) (Or.inl ⟨by rfl, ?_⟩) (by assumption) ?_
    rotate_left
    · intro w hSw
      obtain ⟨_, _, _, _, _, _⟩ := hSw
      go_simp
      try with_reducible rfl
    simp only [Act.put, List.setIfInBounds_toArray, List.set_cons_zero, List.set_cons_succ]
    refine anyN_take 5 (v := ?_) rfl (by kernel_rfl) (by kernel_rfl) (by kernel_rfl) (by kernel_rfl) (by kernel_rfl) (fun _ _ _ h => h) (Or.inl ⟨by rfl, ?_⟩) (by assumption) ?_
    rotate_left
    · intro w hSw
      obtain ⟨_, _, _, _, _, _⟩ := hSw
      go_simp
      try with_reducible rfl
    simp only [Act.put, List.setIfInBounds_toArray, List.set_cons_zero, List.set_cons_succ]
    refine anyN_take 6 (v := ?_) rfl (by kernel_rfl) (by kernel_rfl) (by kernel_rfl) (by kernel_rfl) (by kernel_rfl) (fun _ _ _ h => h) (Or.inl ⟨by rfl, ?_⟩) (by assumption) ?_
    rotate_left
    · intro w hSw
      obtain ⟨_, _, _, _, _, _⟩ := hSw
      go_simp
      try with_reducible rfl
    simp only [Act.put, List.setIfInBounds_toArray, List.set_cons_zero, List.set_cons_succ]
    refine anyN_take 7 (v := ?_) rfl (by kernel_rfl) (by kernel_rfl) (by kernel_rfl) (by kernel_rfl) (by kernel_rfl) (fun _ _ _ h => h) (Or.inl ⟨by rfl, ?_⟩) (by assumption) ?_
    rotate_left
    · intro w hSw
      obtain ⟨_, _, _, _, _, _⟩ := hSw
      go_simp
      try with_reducible rfl
    simp only [Act.put, List.setIfInBounds_toArray, List.set_cons_zero, List.set_cons_succ]
    refine anyN_take 9 (v := ?_) rfl (by kernel_rfl) (by kernel_rfl) (by kernel_rfl) (by kernel_rfl) (by kernel_rfl) (fun _ _ _ h => h) (Or.inl ⟨by rfl, ?_⟩) (by assumption) ?_
    rotate_left
    · intro w hSw
      obtain ⟨_, _, _, _, _, _⟩ := hSw
      go_simp
      try with_reducible rfl
    simp only [Act.put, List.setIfInBounds_toArray, List.set_cons_zero, List.set_cons_succ]
    refine anyN_take 10 (v := ?_) rfl (by kernel_rfl) (by kernel_rfl) (by kernel_rfl) (by kernel_rfl) (by kernel_rfl) (fun _ _ _ h => h) (Or.inl ⟨by rfl, ?_⟩) (by assumption) ?_
    rotate_left
    · intro w hSw
      obtain ⟨_, _, _, _, _, _⟩ := hSw
      go_simp
      try with_reducible rfl
    simp only [Act.put, List.setIfInBounds_toArray, List.set_cons_zero, List.set_cons_succ]
    refine anyN_take 11 (v := ?_) rfl (by kernel_rfl) (by kernel_rfl) (by kernel_rfl) (by kernel_rfl) (by kernel_rfl) (fun _ _ _ h => h) (Or.inl ⟨by rfl, ?_⟩) (by assumption) ?_
    rotate_left
    · intro w hSw
      obtain ⟨_, _, _, _, _, _⟩ := hSw
      go_simp
      try with_reducible rfl
    simp only [Act.put, List.setIfInBounds_toArray, List.set_cons_zero, List.set_cons_succ]
    refine anyN_take 12 (v := ?_) rfl (by kernel_rfl) (by kernel_rfl) (by kernel_rfl) (by kernel_rfl) (by kernel_rfl) (fun _ _ _ h => h) (Or.inl ⟨by rfl, ?_⟩) (by assumption) ?_
    rotate_left
    · intro w hSw
      obtain ⟨_, _, _, _, _, _⟩ := hSw
      go_simp
      try with_reducible rfl
    simp only [Act.put, List.setIfInBounds_toArray, List.set_cons_zero, List.set_cons_succ]
    refine anyN_take 13 (v := ?_) rfl (by kernel_rfl) (by kernel_rfl) (by kernel_rfl) (by kernel_rfl) (by kernel_rfl) (fun _ _ _ h => h) (Or.inl ⟨by rfl, ?_⟩) (by assumption) ?_
    rotate_left
    · intro w hSw
      obtain ⟨_, _, _, _, _, _⟩ := hSw
      go_simp
      try with_reducible rfl
    simp only [Act.put, List.setIfInBounds_toArray, List.set_cons_zero, List.set_cons_succ]
    refine anyN_take 14 (v := ?_) rfl (by kernel_rfl) (by kernel_rfl) (by kernel_rfl) (by kernel_rfl) (by kernel_rfl) (fun _ _ _ h => h) (Or.inl ⟨by rfl, ?_⟩) (by assumption) ?_
    rotate_left
    · intro w hSw
      obtain ⟨_, _, _, _, _, _⟩ := hSw
      go_simp
      try with_reducible rfl
    simp only [Act.put, List.setIfInBounds_toArray, List.set_cons_zero, List.set_cons_succ]
    refine anyN_take 15 (v := ?_) rfl (by kernel_rfl) (by kernel_rfl) (by kernel_rfl) (by kernel_rfl) (by kernel_rfl) (fun _ _ _ h => h) (Or.inl ⟨by rfl, ?_⟩) (by assumption) ?_
    rotate_left
    · intro w hSw
      obtain ⟨_, _, _, _, _, _⟩ := hSw
      go_simp
      try with_reducible rfl
    simp only [Act.put, List.setIfInBounds_toArray, List.set_cons_zero, List.set_cons_succ]
    refine anyN_take 16 (v := ?_) rfl (by kernel_rfl) (by kernel_rfl) (by kernel_rfl) (by kernel_rfl) (by kernel_rfl) (fun _ _ _ h => h) (Or.inl ⟨by rfl, ?_⟩) (by assumption) ?_
    rotate_left
    · intro w hSw
      obtain ⟨_, _, _, _, _, _⟩ := hSw
      go_simp
      try with_reducible rfl
    simp only [Act.put, List.setIfInBounds_toArray, List.set_cons_zero, List.set_cons_succ]
    refine anyN_one 8 rfl (by kernel_rfl) rfl ?_
    go_simp
    refine (HM _).out.mono ?_
    rintro e w' ⟨rfl, os1, k1, hl1, rfl⟩
    dsimp only
    refine ⟨by refine ⟨?_, ?_, ?_, ?_, ?_, ?_⟩ <;> simp [dc, dh, cc, s0, u0], ?_⟩
    refine anyN_one 17 rfl (by kernel_rfl) rfl ?_
    go_simp
    refine (HN _).out.mono ?_
    rintro e w' ⟨rfl, os2, k2, hl2, rfl⟩
    dsimp only
    refine and_keep (by refine ⟨?_, ?_, ?_, ?_, ?_, ?_⟩ <;> simp [dc, dh, cc, s0, u0, hl1, s1, u1]) (fun hS2 => ?_)
    refine anyN_one 18 rfl (by kernel_rfl) rfl ?_
    go_simp
    refine anyN_one 19 rfl (by kernel_rfl) rfl ?_
    go_simp
    refine anyN_done (by kernel_rfl) ?_
    generalize hE : World.setCell _ _ _ = w1
    obtain ⟨⟨x0, x1, x2, y0, y1, y2⟩, hsz, hgr⟩ := set6 (V := W) (by omega) (by omega) (by omega) hS2 ((((hg.out.drew.more os1).drewN k1).more os2).drewN k2) hE
    replace hg := Lib.hid hgr
    have n1 : W.heap.size + 1 < w1.heap.size := by rw [hsz]; simp [dh]; omega
    have X : C3 w1 W.heap.size _ _ _ := ⟨x0, x1, x2, by omega⟩
    have Y : C3 w1 (W.heap.size + 1) _ _ _ := ⟨y0, y1, y2, n1⟩
    clear hE hl1 hl2 s0 s1 s2 s3 s4 s5 s6 s7 s8 s9 u0 u1 u2 u3 u4 u5 u6 u7 u8 u9 cc zz dh dc HA HM HN hS hS2 hsz hgr x0 x1 x2 y0 y1 y2 n1 os1 k1 os2 k2
    have X_0 := X.c0
    have X_1 := X.c1
    have X_2 := X.c2
    have X_l := X.lt
    have Y_0 := Y.c0
    have Y_1 := Y.c1
    have Y_2 := Y.c2
    have Y_l := Y.lt
    go_wp2_with fail
    clear X_0 X_1 X_2 X_l Y_0 Y_1 Y_2 Y_l
    refine (H1 _).out.mono ?_
    rintro e w2 ⟨rfl, hw2⟩
    have kw2 := hw2.kp
    replace X := C3.kp (by repeat with_reducible first | exact X | apply C3.alloc | apply C3.drew | apply C3.drewN) kw2
    replace Y := C3.kp (by repeat with_reducible first | exact Y | apply C3.alloc | apply C3.drew | apply C3.drewN) kw2
    replace hg := Lib.hid (GrewS.trans (by repeat with_reducible first | exact hg.out | apply GrewS.alloc | apply GrewS.drew | apply GrewS.drewN) hw2.s)
    clear kw2 hw2
    have X_0 := X.c0
    have X_1 := X.c1
    have X_2 := X.c2
    have X_l := X.lt
    have Y_0 := Y.c0
    have Y_1 := Y.c1
    have Y_2 := Y.c2
    have Y_l := Y.lt
    clear H1
    go_wp2_with fail
    clear X_0 X_1 X_2 X_l Y_0 Y_1 Y_2 Y_l
    refine (H2 _).out.mono ?_
    rintro e w3 ⟨rfl, hw3⟩
    have kw3 := hw3.kp
    replace X := C3.kp (by repeat with_reducible first | exact X | apply C3.alloc | apply C3.drew | apply C3.drewN) kw3
    replace Y := C3.kp (by repeat with_reducible first | exact Y | apply C3.alloc | apply C3.drew | apply C3.drewN) kw3
    have A := C3.kp (C3.new w2 _ _ _ _) kw3
    replace hg := Lib.hid (GrewS.trans (by repeat with_reducible first | exact hg.out | apply GrewS.alloc | apply GrewS.drew | apply GrewS.drewN) hw3.s)
    clear kw3 hw3
    have X_0 := X.c0
    have X_1 := X.c1
    have X_2 := X.c2
    have X_l := X.lt
    have Y_0 := Y.c0
    have Y_1 := Y.c1
    have Y_2 := Y.c2
    have Y_l := Y.lt
    have A_0 := A.c0
    have A_1 := A.c1
    have A_2 := A.c2
    have A_l := A.lt
    clear H2
    go_wp2_with fail
    clear X_0 X_1 X_2 X_l Y_0 Y_1 Y_2 Y_l A_0 A_1 A_2 A_l
    refine (H3 _).out.mono ?_
    rintro e w4 ⟨rfl, hw4⟩
    have kw4 := hw4.kp
    replace X := C3.kp (by repeat with_reducible first | exact X | apply C3.alloc | apply C3.drew | apply C3.drewN) kw4
    replace Y := C3.kp (by repeat with_reducible first | exact Y | apply C3.alloc | apply C3.drew | apply C3.drewN) kw4
    replace A := C3.kp (by repeat with_reducible first | exact A | apply C3.alloc | apply C3.drew | apply C3.drewN) kw4
    have B := C3.kp (C3.new w3 _ _ _ _) kw4
    replace hg := Lib.hid (GrewS.trans (by repeat with_reducible first | exact hg.out | apply GrewS.alloc | apply GrewS.drew | apply GrewS.drewN) hw4.s)
    clear kw4 hw4
    have X_0 := X.c0
    have X_1 := X.c1
    have X_2 := X.c2
    have X_l := X.lt
    have Y_0 := Y.c0
    have Y_1 := Y.c1
    have Y_2 := Y.c2
    have Y_l := Y.lt
    have A_0 := A.c0
    have A_1 := A.c1
    have A_2 := A.c2
    have A_l := A.lt
    have B_0 := B.c0
    have B_1 := B.c1
    have B_2 := B.c2
    have B_l := B.lt
    clear H3
    go_wp2_with fail
    clear X_0 X_1 X_2 X_l Y_0 Y_1 Y_2 Y_l A_0 A_1 A_2 A_l B_0 B_1 B_2 B_l
    refine (H4 _).out.mono ?_
    rintro e w5 ⟨rfl, hw5⟩
    have kw5 := hw5.kp
    replace X := C3.kp (by repeat with_reducible first | exact X | apply C3.alloc | apply C3.drew | apply C3.drewN) kw5
    replace Y := C3.kp (by repeat with_reducible first | exact Y | apply C3.alloc | apply C3.drew | apply C3.drewN) kw5
    replace A := C3.kp (by repeat with_reducible first | exact A | apply C3.alloc | apply C3.drew | apply C3.drewN) kw5
    replace B := C3.kp (by repeat with_reducible first | exact B | apply C3.alloc | apply C3.drew | apply C3.drewN) kw5
    have G := C3.kp (C3.new w4 _ _ _ _) kw5
    replace hg := Lib.hid (GrewS.trans (by repeat with_reducible first | exact hg.out | apply GrewS.alloc | apply GrewS.drew | apply GrewS.drewN) hw5.s)
    clear kw5 hw5
    have X_0 := X.c0
    have X_1 := X.c1
    have X_2 := X.c2
    have X_l := X.lt
    have Y_0 := Y.c0
    have Y_1 := Y.c1
    have Y_2 := Y.c2
    have Y_l := Y.lt
    have A_0 := A.c0
    have A_1 := A.c1
    have A_2 := A.c2
    have A_l := A.lt
    have B_0 := B.c0
    have B_1 := B.c1
    have B_2 := B.c2
    have B_l := B.lt
    have G_0 := G.c0
    have G_1 := G.c1
    have G_2 := G.c2
    have G_l := G.lt
    clear H4
    go_wp2_with fail
    clear X_0 X_1 X_2 X_l Y_0 Y_1 Y_2 Y_l A_0 A_1 A_2 A_l B_0 B_1 B_2 B_l G_0 G_1 G_2 G_l
    refine (H5 _).out.mono ?_
    rintro e w6 ⟨rfl, hw6⟩
    have kw6 := hw6.kp
    replace X := C3.kp (by repeat with_reducible first | exact X | apply C3.alloc | apply C3.drew | apply C3.drewN) kw6
    replace Y := C3.kp (by repeat with_reducible first | exact Y | apply C3.alloc | apply C3.drew | apply C3.drewN) kw6
    replace A := C3.kp (by repeat with_reducible first | exact A | apply C3.alloc | apply C3.drew | apply C3.drewN) kw6
    replace B := C3.kp (by repeat with_reducible first | exact B | apply C3.alloc | apply C3.drew | apply C3.drewN) kw6
    replace G := C3.kp (by repeat with_reducible first | exact G | apply C3.alloc | apply C3.drew | apply C3.drewN) kw6
    replace hg := Lib.hid (GrewS.trans (by repeat with_reducible first | exact hg.out | apply GrewS.alloc | apply GrewS.drew | apply GrewS.drewN) hw6.s)
    clear kw6 hw6
    have X_0 := X.c0
    have X_1 := X.c1
    have X_2 := X.c2
    have X_l := X.lt
    have Y_0 := Y.c0
    have Y_1 := Y.c1
    have Y_2 := Y.c2
    have Y_l := Y.lt
    have A_0 := A.c0
    have A_1 := A.c1
    have A_2 := A.c2
    have A_l := A.lt
    have B_0 := B.c0
    have B_1 := B.c1
    have B_2 := B.c2
    have B_l := B.lt
    have G_0 := G.c0
    have G_1 := G.c1
    have G_2 := G.c2
    have G_l := G.lt
    clear H5
    go_wp2_with fail
    clear X_0 X_1 X_2 X_l Y_0 Y_1 Y_2 Y_l A_0 A_1 A_2 A_l B_0 B_1 B_2 B_l G_0 G_1 G_2 G_l
    refine (HR _).out.mono ?_
    rintro e w7 ⟨rfl, hw7⟩
    have kw7 := hw7.kp
    replace X := C3.kp (by repeat with_reducible first | exact X | apply C3.alloc | apply C3.drew | apply C3.drewN) kw7
    replace Y := C3.kp (by repeat with_reducible first | exact Y | apply C3.alloc | apply C3.drew | apply C3.drewN) kw7
    replace A := C3.kp (by repeat with_reducible first | exact A | apply C3.alloc | apply C3.drew | apply C3.drewN) kw7
    replace B := C3.kp (by repeat with_reducible first | exact B | apply C3.alloc | apply C3.drew | apply C3.drewN) kw7
    replace G := C3.kp (by repeat with_reducible first | exact G | apply C3.alloc | apply C3.drew | apply C3.drewN) kw7
    have D := C3.kp (C3.new w6 _ _ _ _) kw7
    replace hg := Lib.hid (GrewS.trans (by repeat with_reducible first | exact hg.out | apply GrewS.alloc | apply GrewS.drew | apply GrewS.drewN) hw7.s)
    clear kw7 hw7
    have X_0 := X.c0
    have X_1 := X.c1
    have X_2 := X.c2
    have X_l := X.lt
    have Y_0 := Y.c0
    have Y_1 := Y.c1
    have Y_2 := Y.c2
    have Y_l := Y.lt
    have A_0 := A.c0
    have A_1 := A.c1
    have A_2 := A.c2
    have A_l := A.lt
    have B_0 := B.c0
    have B_1 := B.c1
    have B_2 := B.c2
    have B_l := B.lt
    have G_0 := G.c0
    have G_1 := G.c1
    have G_2 := G.c2
    have G_l := G.lt
    have D_0 := D.c0
    have D_1 := D.c1
    have D_2 := D.c2
    have D_l := D.lt
    clear HR
    go_upto_region 11 with fail
    rcases hL with ⟨hL1, hL⟩ | ⟨hL1, hL⟩ <;> rcases g5 with ⟨g5, hA1, hA2⟩ | ⟨g5, hA1, hA2⟩
    all_goals
      try omega
    all_goals
      subst hL hA1 hA2
      go_wp2_with fail
      all_goals
        go_ret
        refine ⟨by first | (simp; done) | (simp; omega), ?_⟩
        repeat with_reducible first | exact hg.out | apply GrewS.drewN | apply GrewS.drew | apply GrewS.alloc
end Go.Proofs.Ytmlapjaccmoleaa
