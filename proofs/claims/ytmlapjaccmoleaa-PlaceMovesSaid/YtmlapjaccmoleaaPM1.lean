/-
  The law PlaceMoves, walked.
-/
import Derived.Test.YtmlapjaccmoleaaEnds
import Derived.Test.YtmlapjaccmoleaaDist
import Derived.Deep.Cut
import Derived.Deep.RegionHeld3
import Derived.Laws.EntriesVeiled
import Derived.Test.YtmlapjaccmoleaaCut4
namespace Go.Proofs.Ytmlapjaccmoleaa
open Go.RowKit

theorem right_gp1 {v r w : Int} (W : World) (h : rightB v r w = true) : Calls Try.prog 25 #[ent v r w] W fun e w' => e = .returned (.bool true) ∧ Grew 1 W w' :=
  (right_t W h).mono fun _ _ ⟨he, hw⟩ => ⟨he, hw ▸ (Grew.zero W).alloc _⟩

set_option maxRecDepth 100000 in
set_option maxHeartbeats 8000000 in
theorem pm_1 {v r w v2 r2 w2 f t : Int} (W : World) (b1 : EB v r w) (b2 : EB v2 r2 w2) (f0 : 0 ≤ f) (f1 : f ≤ 18446744073709551615) (t0 : 0 ≤ t) (t1 : t ≤ 18446744073709551615) (hex : endB v f t = true) :
    Calls Try.prog 4 #[ent v r w, ent v2 r2 w2, .int .u64 f, .int .u64 t] W fun e w' => e = .returned (.bool true) ∧ GrewS W w' := by
  obtain ⟨R, M, hb, hr, HM'⟩ := made_ent b1
  obtain ⟨R2, M2, hb2, hr2, HN'⟩ := made_ent b2
  have HA := fun W => Lib.hid (awakeP_any W)
  have HM := fun W => Lib.hid (HM' W)
  have HN := fun W => Lib.hid (HN' W)
  have hba := mv_eb (f := f) hb t0 t1
  have hra := mv_right (f := f) hb t0 t1 hr
  have hbb := mv_eb (f := f) hb2 t0 t1
  have hrb := mv_right (f := f) hb2 t0 t1 hr2
  have H1' := fun W => moved_t W hb f0 f1 t0 t1 hr
  have H2' := fun W => moved_t W hb2 f0 f1 t0 t1 hr2
  have H3' := fun W => moved_t W hba t0 t1 f0 f1 hra
  have H4' := fun W => moved_t W hb f0 f1 f0 f1 hr
  rw [(mv_own (f := f) hb hr).1, (mv_own (f := f) hb hr).2] at H4'
  have H5' := fun W => right_gp1 W hra
  have H6' := fun W => right_gp1 W hrb
  have HE' := fun V hp hq => ends_any V hb f0 f1 t0 t1 (W.heap.size + 1 + 1) (W.heap.size + 1 + 1 + 1) hp hq
  rw [hex] at HE'
  have hN := mv_end hex
  have m1 := fun h : v ≤ v2 => mv_mono (f := f) h t0 t1
  have m2 := fun h : v2 ≤ v => mv_mono (f := f) h t0 t1
  generalize mvR v2 R2 f t = B2 at *
  generalize mvR (mvV v f t) (mvR v R f t) t f = BR at *
  generalize mvV (mvV v f t) t f = BV at *
  generalize mvR v R f t = A2 at *
  generalize mvV v f t = A1 at *
  generalize mvV v2 f t = B1 at *
  have H1 := fun W => Lib.hid (H1' W)
  have H2 := fun W => Lib.hid (H2' W)
  have H3 := fun W => Lib.hid (H3' W)
  have H4 := fun W => Lib.hid (H4' W)
  have H5 := fun W => Lib.hid (H5' W)
  have H6 := fun W => Lib.hid (H6' W)
  replace m1 := Lib.hid m1
  replace m2 := Lib.hid m2
  replace hN := Lib.hid hN
  have HE := fun W hp hq => Lib.hid (HE' W hp hq)
  clear hb hr hb2 hr2 b1 b2 hba hra hbb hrb f0 f1 t0 t1 HM' HN' H1' H2' H3' H4' H5' H6' HE' hex
  go_enter Try.func4, Try.ntmps4
  go_wp2_with fail
  refine (HA _).out.mono ?_
  rintro e w1 ⟨rfl, hg1⟩
  have k1 := hg1.kp
  have X := C3.kp ((((C3.new W _ _ _ _).alloc _).alloc _).alloc _) k1
  have FX := Fz.kp ((((Fz.new W _ _).alloc _).alloc _).alloc _) k1
  have Y : C3 w1 (W.heap.size + 1) (.int .u64 v2) (.int .u32 r2) (.int .u32 w2) := by simpa using C3.kp (((C3.new (W.alloc _) _ _ _ _).alloc _).alloc _) k1
  have FY : Fz w1 (W.heap.size + 1) := by simpa using Fz.kp (((Fz.new (W.alloc _) _ _).alloc _).alloc _) k1
  have FF : At w1 ⟨W.heap.size + 2, 0, none⟩ (.int .u64 f) := by simpa using At.kp ((At.new ((W.alloc _).alloc _) (.int .u64 f) 22).alloc _) k1
  have TT : At w1 ⟨W.heap.size + 3, 0, none⟩ (.int .u64 t) := by simpa using At.kp (At.new (((W.alloc _).alloc _).alloc _) (.int .u64 t) 22) k1
  have hg := Lib.hid ((((((GrewS.refl W).alloc _).alloc _).alloc _).alloc _).trans hg1)
  clear hg1 k1
  have X_0 := X.c0
  have X_1 := X.c1
  have X_2 := X.c2
  have X_l := X.lt
  have Y_0 := Y.c0
  have Y_1 := Y.c1
  have Y_2 := Y.c2
  have Y_l := Y.lt
  have FF_0 := FF.1
  have FF_l := FF.2
  dsimp only at FF_l
  have TT_0 := TT.1
  have TT_l := TT.2
  dsimp only at TT_l
  go_wp2_with fail
  clear X_0 X_1 X_2 X_l Y_0 Y_1 Y_2 Y_l FF_0 FF_l TT_0 TT_l
  refine wp_region_anyN (fun w' => w'.cell? ⟨W.heap.size, 0, none⟩ = some (.int .u64 v) ∧ w'.cell? ⟨W.heap.size, 1, none⟩ = some (.int .u32 r) ∧ w'.cell? ⟨W.heap.size, 2, none⟩ = some (.int .u32 w) ∧ w'.cell? ⟨(W.heap.size + 1), 0, none⟩ = some (.int .u64 v2) ∧ w'.cell? ⟨(W.heap.size + 1), 1, none⟩ = some (.int .u32 r2) ∧ w'.cell? ⟨(W.heap.size + 1), 2, none⟩ = some (.int .u32 w2)) 18 (by kernel_rfl) ?_
  replace X := X.drew
  replace Y := Y.drew
  replace FX := FX.drew
  replace FY := FY.drew
  replace FF := FF.drew
  replace TT := TT.drew
  replace hg := Lib.hid hg.out.drew
  generalize w1.drew = w1 at *
  have hS : w1.cell? ⟨W.heap.size, 0, none⟩ = some (.int .u64 v) ∧ w1.cell? ⟨W.heap.size, 1, none⟩ = some (.int .u32 r) ∧ w1.cell? ⟨W.heap.size, 2, none⟩ = some (.int .u32 w) ∧ w1.cell? ⟨(W.heap.size + 1), 0, none⟩ = some (.int .u64 v2) ∧ w1.cell? ⟨(W.heap.size + 1), 1, none⟩ = some (.int .u32 r2) ∧ w1.cell? ⟨(W.heap.size + 1), 2, none⟩ = some (.int .u32 w2) := ⟨X.c0, X.c1, X.c2, Y.c0, Y.c1, Y.c2⟩
  refine anyN_take 0 (v := ?_) rfl (by kernel_rfl) (by kernel_rfl) (by kernel_rfl) (by kernel_rfl) (by kernel_rfl) (fun _ _ _ h => h) (Or.inl ⟨by rfl, ?_⟩) (by assumption) ?_
  rotate_left
  · intro w hSw
    obtain ⟨_, _, _, _, _, _⟩ := hSw
    go_simp
    try with_reducible rfl
  simp only [Act.put, List.setIfInBounds_toArray, List.set_cons_zero, List.set_cons_succ]
  refine anyN_take 1 (v := ?_) rfl (by kernel_rfl) (by kernel_rfl) (by kernel_rfl) (by kernel_rfl) (by kernel_rfl) (fun _ _ _ h => h) (Or.inl ⟨by rfl, ?_⟩) (by assumption) ?_
  rotate_left
  · intro w hSw
    obtain ⟨_, _, _, _, _, _⟩ := hSw
    go_simp
    try with_reducible rfl
  simp only [Act.put, List.setIfInBounds_toArray, List.set_cons_zero, List.set_cons_succ]
  refine anyN_take 2 (v := ?_) rfl (by kernel_rfl) (by kernel_rfl) (by kernel_rfl) (by kernel_rfl) (by kernel_rfl) (fun _ _ _ h => h) (Or.inl ⟨by rfl, ?_⟩) (by assumption) ?_
  rotate_left
  · intro w hSw
    obtain ⟨_, _, _, _, _, _⟩ := hSw
    go_simp
    try with_reducible rfl
  simp only [Act.put, List.setIfInBounds_toArray, List.set_cons_zero, List.set_cons_succ]
  refine anyN_take 3 (v := ?_) rfl (by kernel_rfl) (by kernel_rfl) (by kernel_rfl) (by kernel_rfl) (by kernel_rfl) (fun _ _ _ h => h) (Or.inl ⟨by rfl, ?_⟩) (by assumption) ?_
  rotate_left
  · intro w hSw
    obtain ⟨_, _, _, _, _, _⟩ := hSw
    go_simp
    try with_reducible rfl
  simp only [Act.put, List.setIfInBounds_toArray, List.set_cons_zero, List.set_cons_succ]
  refine anyN_take 4 (v := ?_) rfl (by kernel_rfl) (by kernel_rfl) (by kernel_rfl) (by kernel_rfl) (by kernel_rfl) (fun _ _ _ h => h) (Or.inl ⟨by rfl, ?_⟩) (by assumption) ?_
  rotate_left
  · intro w hSw
    obtain ⟨_, _, _, _, _, _⟩ := hSw
    go_simp
    try with_reducible rfl
  simp only [Act.put, List.setIfInBounds_toArray, List.set_cons_zero, List.set_cons_succ]
  refine anyN_take 5 (v := ?_) rfl (by kernel_rfl) (by kernel_rfl) (by kernel_rfl) (by kernel_rfl) (by kernel_rfl) (fun _ _ _ h => h) (Or.inl ⟨by rfl, ?_⟩) (by assumption) ?_
  rotate_left
  · intro w hSw
    obtain ⟨_, _, _, _, _, _⟩ := hSw
    go_simp
    try with_reducible rfl
  simp only [Act.put, List.setIfInBounds_toArray, List.set_cons_zero, List.set_cons_succ]
  refine anyN_take 6 (v := ?_) rfl (by kernel_rfl) (by kernel_rfl) (by kernel_rfl) (by kernel_rfl) (by kernel_rfl) (fun _ _ _ h => h) (Or.inl ⟨by rfl, ?_⟩) (by assumption) ?_
  rotate_left
  · intro w hSw
    obtain ⟨_, _, _, _, _, _⟩ := hSw
    go_simp
    try with_reducible rfl
  simp only [Act.put, List.setIfInBounds_toArray, List.set_cons_zero, List.set_cons_succ]
  refine anyN_take 7 (v := ?_) rfl (by kernel_rfl) (by kernel_rfl) (by kernel_rfl) (by kernel_rfl) (by kernel_rfl) (fun _ _ _ h => h) (Or.inl ⟨by rfl, ?_⟩) (by assumption) ?_
  rotate_left
  · intro w hSw
    obtain ⟨_, _, _, _, _, _⟩ := hSw
    go_simp
    try with_reducible rfl
  simp only [Act.put, List.setIfInBounds_toArray, List.set_cons_zero, List.set_cons_succ]
  refine anyN_take 9 (v := ?_) rfl (by kernel_rfl) (by kernel_rfl) (by kernel_rfl) (by kernel_rfl) (by kernel_rfl) (fun _ _ _ h => h) (Or.inl ⟨by rfl, ?_⟩) (by assumption) ?_
  rotate_left
  · intro w hSw
    obtain ⟨_, _, _, _, _, _⟩ := hSw
    go_simp
    try with_reducible rfl
  simp only [Act.put, List.setIfInBounds_toArray, List.set_cons_zero, List.set_cons_succ]
  refine anyN_take 10 (v := ?_) rfl (by kernel_rfl) (by kernel_rfl) (by kernel_rfl) (by kernel_rfl) (by kernel_rfl) (fun _ _ _ h => h) (Or.inl ⟨by rfl, ?_⟩) (by assumption) ?_
  rotate_left
  · intro w hSw
    obtain ⟨_, _, _, _, _, _⟩ := hSw
    go_simp
    try with_reducible rfl
  simp only [Act.put, List.setIfInBounds_toArray, List.set_cons_zero, List.set_cons_succ]
  refine anyN_take 11 (v := ?_) rfl (by kernel_rfl) (by kernel_rfl) (by kernel_rfl) (by kernel_rfl) (by kernel_rfl) (fun _ _ _ h => h) (Or.inl ⟨by rfl, ?_⟩) (by assumption) ?_
  rotate_left
  · intro w hSw
    obtain ⟨_, _, _, _, _, _⟩ := hSw
    go_simp
    try with_reducible rfl
  simp only [Act.put, List.setIfInBounds_toArray, List.set_cons_zero, List.set_cons_succ]
  refine anyN_take 12 (v := ?_) rfl (by kernel_rfl) (by kernel_rfl) (by kernel_rfl) (by kernel_rfl) (by kernel_rfl) (fun _ _ _ h => h) (Or.inl ⟨by rfl, ?_⟩) (by assumption) ?_
  rotate_left
  · intro w hSw
    obtain ⟨_, _, _, _, _, _⟩ := hSw
    go_simp
    try with_reducible rfl
  simp only [Act.put, List.setIfInBounds_toArray, List.set_cons_zero, List.set_cons_succ]
  refine anyN_take 13 (v := ?_) rfl (by kernel_rfl) (by kernel_rfl) (by kernel_rfl) (by kernel_rfl) (by kernel_rfl) (fun _ _ _ h => h) (Or.inl ⟨by rfl, ?_⟩) (by assumption) ?_
  rotate_left
  · intro w hSw
    obtain ⟨_, _, _, _, _, _⟩ := hSw
    go_simp
    try with_reducible rfl
  simp only [Act.put, List.setIfInBounds_toArray, List.set_cons_zero, List.set_cons_succ]
  refine anyN_take 14 (v := ?_) rfl (by kernel_rfl) (by kernel_rfl) (by kernel_rfl) (by kernel_rfl) (by kernel_rfl) (fun _ _ _ h => h) (Or.inl ⟨by rfl, ?_⟩) (by assumption) ?_
  rotate_left
  · intro w hSw
    obtain ⟨_, _, _, _, _, _⟩ := hSw
    go_simp
    try with_reducible rfl
  simp only [Act.put, List.setIfInBounds_toArray, List.set_cons_zero, List.set_cons_succ]
  refine anyN_take 15 (v := ?_) rfl (by kernel_rfl) (by kernel_rfl) (by kernel_rfl) (by kernel_rfl) (by kernel_rfl) (fun _ _ _ h => h) (Or.inl ⟨by rfl, ?_⟩) (by assumption) ?_
  rotate_left
  · intro w hSw
    obtain ⟨_, _, _, _, _, _⟩ := hSw
    go_simp
    try with_reducible rfl
  simp only [Act.put, List.setIfInBounds_toArray, List.set_cons_zero, List.set_cons_succ]
  refine anyN_take 16 (v := ?_) rfl (by kernel_rfl) (by kernel_rfl) (by kernel_rfl) (by kernel_rfl) (by kernel_rfl) (fun _ _ _ h => h) (Or.inl ⟨by rfl, ?_⟩) (by assumption) ?_
  rotate_left
  · intro w hSw
    obtain ⟨_, _, _, _, _, _⟩ := hSw
    go_simp
    try with_reducible rfl
  simp only [Act.put, List.setIfInBounds_toArray, List.set_cons_zero, List.set_cons_succ]
  refine anyN_one 8 rfl (by kernel_rfl) rfl ?_
  go_simp
  refine (HM _).out.mono ?_
  rintro e wr1 ⟨rfl, hg1⟩
  have k1 := hg1.kp
  replace X := X.kp k1
  replace Y := Y.kp k1
  replace FX := FX.kp k1
  replace FY := FY.kp k1
  replace FF := FF.kp k1
  replace TT := TT.kp k1
  replace hg := Lib.hid (hg.out.trans hg1.s)
  clear k1 hg1
  dsimp only
  refine and_keep ⟨X.c0, X.c1, X.c2, Y.c0, Y.c1, Y.c2⟩ (fun hS => ?_)
  refine anyN_one 17 rfl (by kernel_rfl) rfl ?_
  go_simp
  refine (HN _).out.mono ?_
  rintro e wr2 ⟨rfl, hg1⟩
  have k1 := hg1.kp
  replace X := X.kp k1
  replace Y := Y.kp k1
  replace FX := FX.kp k1
  replace FY := FY.kp k1
  replace FF := FF.kp k1
  replace TT := TT.kp k1
  replace hg := Lib.hid (hg.out.trans hg1.s)
  clear k1 hg1
  dsimp only
  refine and_keep ⟨X.c0, X.c1, X.c2, Y.c0, Y.c1, Y.c2⟩ (fun hS => ?_)
  clear hS
  have X_c0 := X.c0
  have X_c1 := X.c1
  have X_c2 := X.c2
  have FX2 := FX.2
  refine anyN_one 18 rfl (by kernel_rfl) rfl ?_
  go_simp
  clear X_c0 X_c1 X_c2 FX2
  have hxy : W.heap.size ≠ (W.heap.size + 1) := by omega
  replace X := X.set (.int .u64 v) (.int .u32 R) (.int .u32 M)
  replace Y := Y.far3 hxy (.int .u64 v) (.int .u32 R) (.int .u32 M)
  replace FY := FY.set3 ⟨W.heap.size, 0, none⟩ ⟨W.heap.size, 1, none⟩ ⟨W.heap.size, 2, none⟩ (.int .u64 v) (.int .u32 R) (.int .u32 M)
  replace FF := FF.far3 (B := W.heap.size) (show W.heap.size ≠ W.heap.size + 2 by omega) (.int .u64 v) (.int .u32 R) (.int .u32 M)
  replace TT := TT.far3 (B := W.heap.size) (show W.heap.size ≠ W.heap.size + 3 by omega) (.int .u64 v) (.int .u32 R) (.int .u32 M)
  replace hg := Lib.hid (hg.out.set3 (B := W.heap.size) (by omega) (.int .u64 v) (.int .u32 R) (.int .u32 M))
  generalize World.setCell _ _ _ = ws1 at *
  have Y_c0 := Y.c0
  have Y_c1 := Y.c1
  have Y_c2 := Y.c2
  have FY2 := FY.2
  refine anyN_one 19 rfl (by kernel_rfl) rfl ?_
  go_simp
  clear Y_c0 Y_c1 Y_c2 FY2
  refine anyN_done (by kernel_rfl) ?_
  replace Y := Y.set (.int .u64 v2) (.int .u32 R2) (.int .u32 M2)
  replace X := X.far3 hxy.symm (.int .u64 v2) (.int .u32 R2) (.int .u32 M2)
  replace FF := FF.far3 (B := (W.heap.size + 1)) (show (W.heap.size + 1) ≠ W.heap.size + 2 by omega) (.int .u64 v2) (.int .u32 R2) (.int .u32 M2)
  replace TT := TT.far3 (B := (W.heap.size + 1)) (show (W.heap.size + 1) ≠ W.heap.size + 3 by omega) (.int .u64 v2) (.int .u32 R2) (.int .u32 M2)
  replace hg := Lib.hid (hg.out.set3 (B := (W.heap.size + 1)) (by omega) (.int .u64 v2) (.int .u32 R2) (.int .u32 M2))
  generalize World.setCell _ _ _ = ws2 at *
  clear hxy FX FY
  have X_0 := X.c0
  have X_1 := X.c1
  have X_2 := X.c2
  have X_l := X.lt
  have Y_0 := Y.c0
  have Y_1 := Y.c1
  have Y_2 := Y.c2
  have Y_l := Y.lt
  have FF_0 := FF.1
  have FF_l := FF.2
  dsimp only at FF_l
  have TT_0 := TT.1
  have TT_l := TT.2
  dsimp only at TT_l
  clear HM HN HA
  go_wp2_with fail
  clear X_0 X_1 X_2 X_l Y_0 Y_1 Y_2 Y_l FF_0 FF_l TT_0 TT_l
  refine (H1 _).out.mono ?_
  rintro e w3 ⟨rfl, hw3⟩
  have kw3 := hw3.kp
  replace X := C3.kp (by repeat with_reducible first | exact X | apply C3.alloc | apply C3.drew | apply C3.drewN) kw3
  replace Y := C3.kp (by repeat with_reducible first | exact Y | apply C3.alloc | apply C3.drew | apply C3.drewN) kw3
  replace FF := At.kp (by repeat with_reducible first | exact FF | apply At.alloc | apply At.drew | apply At.drewN) kw3
  replace TT := At.kp (by repeat with_reducible first | exact TT | apply At.alloc | apply At.drew | apply At.drewN) kw3
  replace hg := Lib.hid (GrewS.trans (by repeat with_reducible first | exact hg.out | apply GrewS.alloc | apply GrewS.drew | apply GrewS.drewN) hw3.s)
  clear kw3 hw3
  have X_0 := X.c0
  have X_1 := X.c1
  have X_2 := X.c2
  have X_l := X.lt
  have Y_0 := Y.c0
  have Y_1 := Y.c1
  have Y_2 := Y.c2
  have Y_l := Y.lt
  have FF_0 := FF.1
  have FF_l := FF.2
  dsimp only at FF_l
  have TT_0 := TT.1
  have TT_l := TT.2
  dsimp only at TT_l
  clear H1
  go_wp2_with fail
  clear X_0 X_1 X_2 X_l Y_0 Y_1 Y_2 Y_l FF_0 FF_l TT_0 TT_l
  refine (H2 _).out.mono ?_
  rintro e w4 ⟨rfl, hw4⟩
  have kw4 := hw4.kp
  replace X := C3.kp (by repeat with_reducible first | exact X | apply C3.alloc | apply C3.drew | apply C3.drewN) kw4
  replace Y := C3.kp (by repeat with_reducible first | exact Y | apply C3.alloc | apply C3.drew | apply C3.drewN) kw4
  replace FF := At.kp (by repeat with_reducible first | exact FF | apply At.alloc | apply At.drew | apply At.drewN) kw4
  replace TT := At.kp (by repeat with_reducible first | exact TT | apply At.alloc | apply At.drew | apply At.drewN) kw4
  have A := C3.kp (C3.new w3 _ _ _ _) kw4
  replace hg := Lib.hid (GrewS.trans (by repeat with_reducible first | exact hg.out | apply GrewS.alloc | apply GrewS.drew | apply GrewS.drewN) hw4.s)
  clear kw4 hw4
  have X_0 := X.c0
  have X_1 := X.c1
  have X_2 := X.c2
  have X_l := X.lt
  have Y_0 := Y.c0
  have Y_1 := Y.c1
  have Y_2 := Y.c2
  have Y_l := Y.lt
  have FF_0 := FF.1
  have FF_l := FF.2
  dsimp only at FF_l
  have TT_0 := TT.1
  have TT_l := TT.2
  dsimp only at TT_l
  have A_0 := A.c0
  have A_1 := A.c1
  have A_2 := A.c2
  have A_l := A.lt
  clear H2
  go_wp2_with fail
  clear X_0 X_1 X_2 X_l Y_0 Y_1 Y_2 Y_l FF_0 FF_l TT_0 TT_l A_0 A_1 A_2 A_l
  refine (H3 _).out.mono ?_
  rintro e w5 ⟨rfl, hw5⟩
  have kw5 := hw5.kp
  replace X := C3.kp (by repeat with_reducible first | exact X | apply C3.alloc | apply C3.drew | apply C3.drewN) kw5
  replace Y := C3.kp (by repeat with_reducible first | exact Y | apply C3.alloc | apply C3.drew | apply C3.drewN) kw5
  replace FF := At.kp (by repeat with_reducible first | exact FF | apply At.alloc | apply At.drew | apply At.drewN) kw5
  replace TT := At.kp (by repeat with_reducible first | exact TT | apply At.alloc | apply At.drew | apply At.drewN) kw5
  replace A := C3.kp (by repeat with_reducible first | exact A | apply C3.alloc | apply C3.drew | apply C3.drewN) kw5
  have B := C3.kp (C3.new w4 _ _ _ _) kw5
  replace hg := Lib.hid (GrewS.trans (by repeat with_reducible first | exact hg.out | apply GrewS.alloc | apply GrewS.drew | apply GrewS.drewN) hw5.s)
  clear kw5 hw5
  have X_0 := X.c0
  have X_1 := X.c1
  have X_2 := X.c2
  have X_l := X.lt
  have Y_0 := Y.c0
  have Y_1 := Y.c1
  have Y_2 := Y.c2
  have Y_l := Y.lt
  have FF_0 := FF.1
  have FF_l := FF.2
  dsimp only at FF_l
  have TT_0 := TT.1
  have TT_l := TT.2
  dsimp only at TT_l
  have A_0 := A.c0
  have A_1 := A.c1
  have A_2 := A.c2
  have A_l := A.lt
  have B_0 := B.c0
  have B_1 := B.c1
  have B_2 := B.c2
  have B_l := B.lt
  clear H3
  go_wp2_with fail
  clear X_0 X_1 X_2 X_l Y_0 Y_1 Y_2 Y_l FF_0 FF_l TT_0 TT_l A_0 A_1 A_2 A_l B_0 B_1 B_2 B_l
  refine (H4 _).out.mono ?_
  rintro e w6 ⟨rfl, hw6⟩
  have kw6 := hw6.kp
  replace X := C3.kp (by repeat with_reducible first | exact X | apply C3.alloc | apply C3.drew | apply C3.drewN) kw6
  replace Y := C3.kp (by repeat with_reducible first | exact Y | apply C3.alloc | apply C3.drew | apply C3.drewN) kw6
  replace FF := At.kp (by repeat with_reducible first | exact FF | apply At.alloc | apply At.drew | apply At.drewN) kw6
  replace TT := At.kp (by repeat with_reducible first | exact TT | apply At.alloc | apply At.drew | apply At.drewN) kw6
  replace A := C3.kp (by repeat with_reducible first | exact A | apply C3.alloc | apply C3.drew | apply C3.drewN) kw6
  replace B := C3.kp (by repeat with_reducible first | exact B | apply C3.alloc | apply C3.drew | apply C3.drewN) kw6
  have G := C3.kp (C3.new w5 _ _ _ _) kw6
  replace hg := Lib.hid (GrewS.trans (by repeat with_reducible first | exact hg.out | apply GrewS.alloc | apply GrewS.drew | apply GrewS.drewN) hw6.s)
  clear kw6 hw6
  have X_0 := X.c0
  have X_1 := X.c1
  have X_2 := X.c2
  have X_l := X.lt
  have Y_0 := Y.c0
  have Y_1 := Y.c1
  have Y_2 := Y.c2
  have Y_l := Y.lt
  have FF_0 := FF.1
  have FF_l := FF.2
  dsimp only at FF_l
  have TT_0 := TT.1
  have TT_l := TT.2
  dsimp only at TT_l
  have A_0 := A.c0
  have A_1 := A.c1
  have A_2 := A.c2
  have A_l := A.lt
  have B_0 := B.c0
  have B_1 := B.c1
  have B_2 := B.c2
  have B_l := B.lt
  have G_0 := G.c0
  have G_1 := G.c1
  have G_2 := G.c2
  have G_l := G.lt
  clear H4
  go_wp2_with fail
  clear X_0 X_1 X_2 X_l Y_0 Y_1 Y_2 Y_l FF_0 FF_l TT_0 TT_l A_0 A_1 A_2 A_l B_0 B_1 B_2 B_l G_0 G_1 G_2 G_l
  refine (H5 _).out.mono ?_
  rintro e w7 ⟨rfl, hw7⟩
  have kw7 := hw7.kp
  replace X := C3.kp (by repeat with_reducible first | exact X | apply C3.alloc | apply C3.drew | apply C3.drewN) kw7
  replace Y := C3.kp (by repeat with_reducible first | exact Y | apply C3.alloc | apply C3.drew | apply C3.drewN) kw7
  replace FF := At.kp (by repeat with_reducible first | exact FF | apply At.alloc | apply At.drew | apply At.drewN) kw7
  replace TT := At.kp (by repeat with_reducible first | exact TT | apply At.alloc | apply At.drew | apply At.drewN) kw7
  replace A := C3.kp (by repeat with_reducible first | exact A | apply C3.alloc | apply C3.drew | apply C3.drewN) kw7
  replace B := C3.kp (by repeat with_reducible first | exact B | apply C3.alloc | apply C3.drew | apply C3.drewN) kw7
  replace G := C3.kp (by repeat with_reducible first | exact G | apply C3.alloc | apply C3.drew | apply C3.drewN) kw7
  have D := C3.kp (C3.new w6 _ _ _ _) kw7
  replace hg := Lib.hid (GrewS.trans (by repeat with_reducible first | exact hg.out | apply GrewS.alloc | apply GrewS.drew | apply GrewS.drewN) hw7.s)
  clear kw7 hw7
  have X_0 := X.c0
  have X_1 := X.c1
  have X_2 := X.c2
  have X_l := X.lt
  have Y_0 := Y.c0
  have Y_1 := Y.c1
  have Y_2 := Y.c2
  have Y_l := Y.lt
  have FF_0 := FF.1
  have FF_l := FF.2
  dsimp only at FF_l
  have TT_0 := TT.1
  have TT_l := TT.2
  dsimp only at TT_l
  have A_0 := A.c0
  have A_1 := A.c1
  have A_2 := A.c2
  have A_l := A.lt
  have B_0 := B.c0
  have B_1 := B.c1
  have B_2 := B.c2
  have B_l := B.lt
  have G_0 := G.c0
  have G_1 := G.c1
  have G_2 := G.c2
  have G_l := G.lt
  have D_0 := D.c0
  have D_1 := D.c1
  have D_2 := D.c2
  have D_l := D.lt
  clear H5
  go_wp2_with fail
  clear X_0 X_1 X_2 X_l Y_0 Y_1 Y_2 Y_l FF_0 FF_l TT_0 TT_l A_0 A_1 A_2 A_l B_0 B_1 B_2 B_l G_0 G_1 G_2 G_l D_0 D_1 D_2 D_l
  refine (H6 _).out.mono ?_
  rintro e w8 ⟨rfl, hw8⟩
  have kw8 := hw8.kp
  replace X := C3.kp (by repeat with_reducible first | exact X | apply C3.alloc | apply C3.drew | apply C3.drewN) kw8
  replace Y := C3.kp (by repeat with_reducible first | exact Y | apply C3.alloc | apply C3.drew | apply C3.drewN) kw8
  replace FF := At.kp (by repeat with_reducible first | exact FF | apply At.alloc | apply At.drew | apply At.drewN) kw8
  replace TT := At.kp (by repeat with_reducible first | exact TT | apply At.alloc | apply At.drew | apply At.drewN) kw8
  replace A := C3.kp (by repeat with_reducible first | exact A | apply C3.alloc | apply C3.drew | apply C3.drewN) kw8
  replace B := C3.kp (by repeat with_reducible first | exact B | apply C3.alloc | apply C3.drew | apply C3.drewN) kw8
  replace G := C3.kp (by repeat with_reducible first | exact G | apply C3.alloc | apply C3.drew | apply C3.drewN) kw8
  replace D := C3.kp (by repeat with_reducible first | exact D | apply C3.alloc | apply C3.drew | apply C3.drewN) kw8
  replace hg := Lib.hid (GrewS.trans (by repeat with_reducible first | exact hg.out | apply GrewS.alloc | apply GrewS.drew | apply GrewS.drewN) hw8.s)
  clear kw8 hw8
  have X_0 := X.c0
  have X_1 := X.c1
  have X_2 := X.c2
  have X_l := X.lt
  have Y_0 := Y.c0
  have Y_1 := Y.c1
  have Y_2 := Y.c2
  have Y_l := Y.lt
  have FF_0 := FF.1
  have FF_l := FF.2
  dsimp only at FF_l
  have TT_0 := TT.1
  have TT_l := TT.2
  dsimp only at TT_l
  have A_0 := A.c0
  have A_1 := A.c1
  have A_2 := A.c2
  have A_l := A.lt
  have B_0 := B.c0
  have B_1 := B.c1
  have B_2 := B.c2
  have B_l := B.lt
  have G_0 := G.c0
  have G_1 := G.c1
  have G_2 := G.c2
  have G_l := G.lt
  have D_0 := D.c0
  have D_1 := D.c1
  have D_2 := D.c2
  have D_l := D.lt
  clear H6
  go_upto_region 10 with fail
  rcases (show (decide (v ≤ v2) = true ∧ decide (v2 ≤ v) = false ∧ decide (B1 < A1) = false) ∨ (decide (v ≤ v2) = true ∧ decide (v2 ≤ v) = true ∧ decide (B1 < A1) = false ∧ decide (A1 < B1) = false) ∨ (decide (v ≤ v2) = false ∧ decide (v2 ≤ v) = true ∧ decide (A1 < B1) = false) from by
    rcases Int.lt_trichotomy v v2 with h | h | h
    · have := m1.out (by omega)
      exact Or.inl ⟨decide_eq_true (by omega), decide_eq_false (by omega), decide_eq_false (by omega)⟩
    · have := m1.out (by omega)
      have := m2.out (by omega)
      exact Or.inr (Or.inl ⟨decide_eq_true (by omega), decide_eq_true (by omega), decide_eq_false (by omega), decide_eq_false (by omega)⟩)
    · have := m2.out (by omega)
      exact Or.inr (Or.inr ⟨decide_eq_false (by omega), decide_eq_true (by omega), decide_eq_false (by omega)⟩)) with ⟨h1, h2, h3⟩ | ⟨h1, h2, h3, h4⟩ | ⟨h1, h2, h3⟩
  all_goals
    clear m1 m2
    go_wp2_with fail
    have e2 : W.heap.size + 2 = W.heap.size + 1 + 1 := by omega
    have e3 : W.heap.size + 3 = W.heap.size + 1 + 1 + 1 := by omega
    rw [e2] at FF
    rw [e3] at TT
    refine (HE _ FF TT).out.mono ?_
    rintro e w9 ⟨rfl, hw9⟩
    have k9 := hw9.kp
    replace X := X.kp k9
    replace Y := Y.kp k9
    replace FF := FF.kp k9
    replace TT := TT.kp k9
    replace A := A.kp k9
    replace B := B.kp k9
    replace G := G.kp k9
    replace D := D.kp k9
    replace hg := Lib.hid (hg.out.trans hw9.s)
    clear k9 hw9 HE
    clear X_0 X_1 X_2 X_l Y_0 Y_1 Y_2 Y_l FF_0 FF_l TT_0 TT_l A_0 A_1 A_2 A_l B_0 B_1 B_2 B_l G_0 G_1 G_2 G_l D_0 D_1 D_2 D_l
    have X_0 := X.c0
    have X_1 := X.c1
    have X_2 := X.c2
    have X_l := X.lt
    have Y_0 := Y.c0
    have Y_1 := Y.c1
    have Y_2 := Y.c2
    have Y_l := Y.lt
    have FF_0 := FF.1
    have FF_l := FF.2
    dsimp only at FF_l
    have TT_0 := TT.1
    have TT_l := TT.2
    dsimp only at TT_l
    have A_0 := A.c0
    have A_1 := A.c1
    have A_2 := A.c2
    have A_l := A.lt
    have B_0 := B.c0
    have B_1 := B.c1
    have B_2 := B.c2
    have B_l := B.lt
    have G_0 := G.c0
    have G_1 := G.c1
    have G_2 := G.c2
    have G_l := G.lt
    have D_0 := D.c0
    have D_1 := D.c1
    have D_2 := D.c2
    have D_l := D.lt
    rcases hN.out with hN | hN
    all_goals
      subst hN
      go_wp2_with fail
      all_goals
        go_ret
        refine ⟨by first | (simp; done) | (simp; omega), ?_⟩
        repeat with_reducible first | exact hg.out | apply GrewS.drewN | apply GrewS.drew | apply GrewS.alloc
end Go.Proofs.Ytmlapjaccmoleaa
