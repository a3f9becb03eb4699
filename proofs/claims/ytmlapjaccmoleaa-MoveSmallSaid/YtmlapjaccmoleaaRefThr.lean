/-
  The contract of the reference's Through, by the same values.
-/
import Derived.Test.YtmlapjaccmoleaaThru
import Derived.Test.YtmlapjaccmoleaaCut3
namespace Go.Proofs.Ytmlapjaccmoleaa
open Go.RowKit

set_option maxRecDepth 100000 in
set_option maxHeartbeats 1000000 in
theorem refThrough_t {v r w : Int} (W : World) (b : EB v r w) (h : rightB v r w = true) (A : Option Addr) (len cap : Nat) (fs : List Int) (hmax : (len : Int) ≤ 3000000000000000000) (hc : IsInts W .u64 A len fs) (hf : U64s fs) :
    Calls Try.prog 66 #[ent v r w, .slice A len cap] W fun e w' => e = .returned (.tuple #[ent (thAt v r fs (len - 1)).1 (thAt v r fs (len - 1)).2 w, .int .i64 0]) ∧ GrewS W w' := by
  have HR := fun W => Lib.hid (refRight_t W b h)
  have HT := Lib.hid (fun i => thAt_ok b h hf i)
  have HF := Lib.hid hf
  have HC := Lib.hid hc
  clear b h hf hc
  go_enter Try.func66, Try.ntmps66
  go_wp2_with fail
  refine (HR _).out.mono ?_
  rintro e w0 ⟨rfl, rfl⟩
  go_wp2_with fail
  go_loopw [6] (fun i wr => ∃ j : Nat, (j + 1 ≤ len ∨ j = 0) ∧ i = .int .i64 (j + 1) ∧ GrewS W wr ∧ C3 wr W.heap.size (.int .u64 (thAt v r fs j).1) (.int .u32 (thAt v r fs j).2) (.int .u32 w) ∧ Fz wr W.heap.size ∧ C3 wr (W.heap.size + 1) (.int .u64 0) (.int .u32 0) (.int .u32 0) ∧ Fz wr (W.heap.size + 1)) (fun i _ => len - (intOf i).toNat)
  case atStart =>
    refine ⟨0, by omega, rfl, ((((GrewS.refl W).alloc _).alloc _).alloc _), ((C3.new W _ _ _ _).alloc _).alloc _, ((Fz.new W _ _).alloc _).alloc _, ?_, ?_⟩
    · simpa using (C3.new (W.alloc (.cells #[.int .u64 v, .int .u32 r, .int .u32 w] 74)) (.int .u64 0) (.int .u32 0) (.int .u32 0) 74).alloc (.cells #[.int .u64 v, .int .u32 r, .int .u32 w] 74)
    · simpa using (Fz.new (W.alloc (.cells #[.int .u64 v, .int .u32 r, .int .u32 w] 74)) #[.int .u64 0, .int .u32 0, .int .u32 0] 74).alloc (.cells #[.int .u64 v, .int .u32 r, .int .u32 w] 74)
  case round =>
    obtain ⟨j, hj, rfl, hg', X, FX, Z, FZ⟩ := hrel
    by_cases hlt : j + 1 < len
    · obtain ⟨bb, off, rfl, hc1⟩ := HC.out.kp hg'.kp (i := j) (by omega)
      obtain ⟨bb', off', he, hc2⟩ := HC.out.kp hg'.kp (i := j + 1) hlt
      cases he
      have hbl := cell_lt hc1
      have h0 := (HT.out j).1
      have h1 := (HT.out j).2
      have f1 := HF.out j
      have f2 := HF.out (j + 1)
      have en : thAt v r fs (j + 1) = (mvV (thAt v r fs j).1 (fs.getD j 0) (fs.getD (j + 1) 0), mvR (thAt v r fs j).1 (thAt v r fs j).2 (fs.getD j 0) (fs.getD (j + 1) 0)) := rfl
      have EN := Lib.hid en
      clear en
      generalize (thAt v r fs j).1 = p at *
      generalize (thAt v r fs j).2 = q at *
      generalize fs.getD j 0 = f at *
      generalize fs.getD (j + 1) 0 = t at *
      have H48 := fun W => Lib.hid (refMoved_t W h0 f1.1 f1.2 f2.1 f2.2 h1)
      generalize mvV p f t = pv at *
      generalize mvR p q f t = qv at *
      clear h0 h1 f1 f2
      have hg := Lib.hid hg'
      have A1 : At wr ⟨bb, off + j, none⟩ (.int .u64 f) := ⟨hc1, hbl⟩
      have A2 : At wr ⟨bb, off + (j + 1), none⟩ (.int .u64 t) := ⟨hc2, hbl⟩
      have HB : bb < W.heap.size := (by obtain ⟨b0, o0, e0, hb0, _⟩ := HC.out j (by omega); cases e0; exact hb0)
      have ne_X_Z : W.heap.size ≠ W.heap.size + 1 := by omega
      have ne_X_A1 : W.heap.size ≠ bb := by omega
      have ne_X_A2 : W.heap.size ≠ bb := by omega
      have le_X := Nat.le_refl W.heap.size
      have hwj : IntKind.i64.wrap (j : Int) = j := by rw [IntKind.wrap_i64]; omega
      have hj1 : (j : Int) < len := by omega
      have hj2 : (j : Int) + 1 < len := by omega
      have hj3 : (0 : Int) ≤ (j : Int) + 1 := by omega
      clear hg' hc1 hc2 hbl
      go_wp2_with fail
      refine wp_region_anyN (fun w' => w'.cell? ⟨W.heap.size, 0, none⟩ = some (.int .u64 p) ∧ w'.cell? ⟨W.heap.size, 1, none⟩ = some (.int .u32 q) ∧ w'.cell? ⟨W.heap.size, 2, none⟩ = some (.int .u32 w) ∧ w'.cell? ⟨bb, off + j, none⟩ = some (.int .u64 f) ∧ w'.cell? ⟨bb, off + (j + 1), none⟩ = some (.int .u64 t)) 13 (by kernel_rfl) ?_
      replace X := X.drew
      replace FX := FX.drew
      replace Z := Z.drew
      replace FZ := FZ.drew
      replace A1 := A1.drew
      replace A2 := A2.drew
      replace hg := Lib.hid hg.out.drew
      generalize wr.drew = wr at *
      have hS : wr.cell? ⟨W.heap.size, 0, none⟩ = some (.int .u64 p) ∧ wr.cell? ⟨W.heap.size, 1, none⟩ = some (.int .u32 q) ∧ wr.cell? ⟨W.heap.size, 2, none⟩ = some (.int .u32 w) ∧ wr.cell? ⟨bb, off + j, none⟩ = some (.int .u64 f) ∧ wr.cell? ⟨bb, off + (j + 1), none⟩ = some (.int .u64 t) := ⟨X.c0, X.c1, X.c2, A1.1, A2.1⟩
      refine anyN_takeR 0 (v := ?_) rfl (by kernel_rfl) (by kernel_rfl) (by kernel_rfl) (by kernel_rfl) (fun _ _ _ h => h) (Or.inl ⟨by rfl, ?_⟩) (by assumption) ?_
      rotate_left
      · intro w hSw
        obtain ⟨_, _, _, _, _⟩ := hSw
        go_simp
        try with_reducible rfl
      simp only [Act.put, List.setIfInBounds_toArray, List.set_cons_zero, List.set_cons_succ]
      refine anyN_takeR 1 (v := ?_) rfl (by kernel_rfl) (by kernel_rfl) (by kernel_rfl) (by kernel_rfl) (fun _ _ _ h => h) (Or.inl ⟨by rfl, ?_⟩) (by assumption) ?_
      rotate_left
      · intro w hSw
        obtain ⟨_, _, _, _, _⟩ := hSw
        go_simp
        try with_reducible rfl
      simp only [Act.put, List.setIfInBounds_toArray, List.set_cons_zero, List.set_cons_succ]
      refine anyN_takeR 2 (v := ?_) rfl (by kernel_rfl) (by kernel_rfl) (by kernel_rfl) (by kernel_rfl) (fun _ _ _ h => h) (Or.inl ⟨by rfl, ?_⟩) (by assumption) ?_
      rotate_left
      · intro w hSw
        obtain ⟨_, _, _, _, _⟩ := hSw
        go_simp
        try with_reducible rfl
      simp only [Act.put, List.setIfInBounds_toArray, List.set_cons_zero, List.set_cons_succ]
      refine anyN_takeR 3 (v := ?_) rfl (by kernel_rfl) (by kernel_rfl) (by kernel_rfl) (by kernel_rfl) (fun _ _ _ h => h) (Or.inl ⟨by rfl, ?_⟩) (by assumption) ?_
      rotate_left
      · intro w hSw
        obtain ⟨_, _, _, _, _⟩ := hSw
        go_simp
        try with_reducible rfl
      simp only [Act.put, List.setIfInBounds_toArray, List.set_cons_zero, List.set_cons_succ]
      refine anyN_takeR 4 (v := ?_) rfl (by kernel_rfl) (by kernel_rfl) (by kernel_rfl) (by kernel_rfl) (fun _ _ _ h => h) (Or.inl ⟨by rfl, ?_⟩) (by assumption) ?_
      rotate_left
      · intro w hSw
        obtain ⟨_, _, _, _, _⟩ := hSw
        go_simp
        try with_reducible rfl
      simp only [Act.put, List.setIfInBounds_toArray, List.set_cons_zero, List.set_cons_succ]
      refine anyN_takeR 5 (v := ?_) rfl (by kernel_rfl) (by kernel_rfl) (by kernel_rfl) (by kernel_rfl) (fun _ _ _ h => h) (Or.inl ⟨by rfl, ?_⟩) (by assumption) ?_
      rotate_left
      · intro w hSw
        obtain ⟨_, _, _, _, _⟩ := hSw
        go_simp
        try with_reducible rfl
      simp only [Act.put, List.setIfInBounds_toArray, List.set_cons_zero, List.set_cons_succ]
      refine anyN_takeR 6 (v := ?_) rfl (by kernel_rfl) (by kernel_rfl) (by kernel_rfl) (by kernel_rfl) (fun _ _ _ h => h) (Or.inl ⟨by rfl, ?_⟩) (by assumption) ?_
      rotate_left
      · intro w hSw
        obtain ⟨_, _, _, _, _⟩ := hSw
        go_simp
        try with_reducible rfl
      simp only [Act.put, List.setIfInBounds_toArray, List.set_cons_zero, List.set_cons_succ]
      refine anyN_takeR 7 (v := ?_) rfl (by kernel_rfl) (by kernel_rfl) (by kernel_rfl) (by kernel_rfl) (fun _ _ _ h => h) (Or.inl ⟨by rfl, ?_⟩) (by assumption) ?_
      rotate_left
      · intro w hSw
        obtain ⟨_, _, _, _, _⟩ := hSw
        go_simp
        try with_reducible rfl
      simp only [Act.put, List.setIfInBounds_toArray, List.set_cons_zero, List.set_cons_succ]
      refine anyN_takeR 8 (v := ?_) rfl (by kernel_rfl) (by kernel_rfl) (by kernel_rfl) (by kernel_rfl) (fun _ _ _ h => h) (Or.inl ⟨by rfl, ?_⟩) (by assumption) ?_
      rotate_left
      · intro w hSw
        obtain ⟨_, _, _, _, _⟩ := hSw
        go_simp
        try with_reducible rfl
      simp only [Act.put, List.setIfInBounds_toArray, List.set_cons_zero, List.set_cons_succ]
      refine anyN_takeR 9 (v := ?_) rfl (by kernel_rfl) (by kernel_rfl) (by kernel_rfl) (by kernel_rfl) (fun _ _ _ h => h) (Or.inl ⟨by rfl, ?_⟩) (by assumption) ?_
      rotate_left
      · intro w hSw
        obtain ⟨_, _, _, _, _⟩ := hSw
        go_simp
        try with_reducible rfl
      simp only [Act.put, List.setIfInBounds_toArray, List.set_cons_zero, List.set_cons_succ]
      refine anyN_one 10 rfl (by kernel_rfl) rfl ?_
      go_simp
      (with_reducible refine (H48 _).out.mono ?_)
      rintro e wv1 ⟨rfl, hg1⟩
      have k1 := hg1.kp
      replace X := X.kp k1
      replace FX := FX.kp k1
      replace Z := Z.kp k1
      replace FZ := FZ.kp k1
      replace A1 := A1.kp k1
      replace A2 := A2.kp k1
      replace hg := Lib.hid (hg.out.trans hg1.s)
      clear k1 hg1
      dsimp only
      refine and_keep ⟨X.c0, X.c1, X.c2, A1.1, A2.1⟩ (fun hS => ?_)
      refine anyN_takeR 11 (v := ?_) rfl (by kernel_rfl) (by kernel_rfl) (by kernel_rfl) (by kernel_rfl) (fun _ _ _ h => h) (Or.inl ⟨by rfl, ?_⟩) (by assumption) ?_
      rotate_left
      · intro w hSw
        obtain ⟨_, _, _, _, _⟩ := hSw
        go_simp
        try with_reducible rfl
      simp only [Act.put, List.setIfInBounds_toArray, List.set_cons_zero, List.set_cons_succ]
      refine anyN_two 12 13 rfl rfl (by kernel_rfl) rfl rfl ?_ ?_
      · go_simp
        try refine and_keep ⟨X.c0, X.c1, X.c2, A1.1, A2.1⟩ (fun hS => ?_)
        refine anyN_two 13 14 rfl rfl (by kernel_rfl) rfl rfl ?_ ?_
        · go_simp
          have X_0 := X.c0
          have X_1 := X.c1
          have X_2 := X.c2
          have FX_2 := FX.2
          refine anyN_one 14 rfl (by kernel_rfl) rfl ?_
          go_simp
          clear X_0 X_1 X_2 FX_2
          replace X := X.set (.int .u64 pv) (.int .u32 qv) (.int .u32 w)
          replace FX := FX.set3 ⟨W.heap.size, 0, none⟩ ⟨W.heap.size, 1, none⟩ ⟨W.heap.size, 2, none⟩ (.int .u64 pv) (.int .u32 qv) (.int .u32 w)
          replace Z := Z.far3 ne_X_Z (.int .u64 pv) (.int .u32 qv) (.int .u32 w)
          replace FZ := FZ.set3 ⟨W.heap.size, 0, none⟩ ⟨W.heap.size, 1, none⟩ ⟨W.heap.size, 2, none⟩ (.int .u64 pv) (.int .u32 qv) (.int .u32 w)
          replace A1 := A1.far3 (B := W.heap.size) ne_X_A1 (.int .u64 pv) (.int .u32 qv) (.int .u32 w)
          replace A2 := A2.far3 (B := W.heap.size) ne_X_A2 (.int .u64 pv) (.int .u32 qv) (.int .u32 w)
          replace hg := Lib.hid (hg.out.set3 (B := W.heap.size) le_X (.int .u64 pv) (.int .u32 qv) (.int .u32 w))
          generalize World.setCell _ _ _ = ws2 at *
          refine anyN_done (by kernel_rfl) ?_
          clear hS
          clear A1 A2
          go_wp2_with fail
          go_roundw
          case rel => exact ⟨j + 1, Or.inl hlt, by go_num, hg.out, by rw [EN.out]; exact X, FX, Z, FZ⟩
          case measure => simp [intOf]; omega
        · skip
          have X_0 := X.c0
          have X_1 := X.c1
          have X_2 := X.c2
          have FX_2 := FX.2
          go_simp
          clear X_0 X_1 X_2 FX_2
          replace X := X.set (.int .u64 pv) (.int .u32 qv) (.int .u32 w)
          replace FX := FX.set3 ⟨W.heap.size, 0, none⟩ ⟨W.heap.size, 1, none⟩ ⟨W.heap.size, 2, none⟩ (.int .u64 pv) (.int .u32 qv) (.int .u32 w)
          replace Z := Z.far3 ne_X_Z (.int .u64 pv) (.int .u32 qv) (.int .u32 w)
          replace FZ := FZ.set3 ⟨W.heap.size, 0, none⟩ ⟨W.heap.size, 1, none⟩ ⟨W.heap.size, 2, none⟩ (.int .u64 pv) (.int .u32 qv) (.int .u32 w)
          replace A1 := A1.far3 (B := W.heap.size) ne_X_A1 (.int .u64 pv) (.int .u32 qv) (.int .u32 w)
          replace A2 := A2.far3 (B := W.heap.size) ne_X_A2 (.int .u64 pv) (.int .u32 qv) (.int .u32 w)
          replace hg := Lib.hid (hg.out.set3 (B := W.heap.size) le_X (.int .u64 pv) (.int .u32 qv) (.int .u32 w))
          generalize World.setCell _ _ _ = ws3 at *
          refine anyN_one 13 rfl (by kernel_rfl) rfl ?_
          go_simp
          refine anyN_done (by kernel_rfl) ?_
          clear hS
          clear A1 A2
          go_wp2_with fail
          go_roundw
          case rel => exact ⟨j + 1, Or.inl hlt, by go_num, hg.out, by rw [EN.out]; exact X, FX, Z, FZ⟩
          case measure => simp [intOf]; omega
      · go_simp
        refine anyN_one 12 rfl (by kernel_rfl) rfl ?_
        go_simp
        try refine and_keep ⟨X.c0, X.c1, X.c2, A1.1, A2.1⟩ (fun hS => ?_)
        have X_0 := X.c0
        have X_1 := X.c1
        have X_2 := X.c2
        have FX_2 := FX.2
        refine anyN_one 14 rfl (by kernel_rfl) rfl ?_
        go_simp
        clear X_0 X_1 X_2 FX_2
        replace X := X.set (.int .u64 pv) (.int .u32 qv) (.int .u32 w)
        replace FX := FX.set3 ⟨W.heap.size, 0, none⟩ ⟨W.heap.size, 1, none⟩ ⟨W.heap.size, 2, none⟩ (.int .u64 pv) (.int .u32 qv) (.int .u32 w)
        replace Z := Z.far3 ne_X_Z (.int .u64 pv) (.int .u32 qv) (.int .u32 w)
        replace FZ := FZ.set3 ⟨W.heap.size, 0, none⟩ ⟨W.heap.size, 1, none⟩ ⟨W.heap.size, 2, none⟩ (.int .u64 pv) (.int .u32 qv) (.int .u32 w)
        replace A1 := A1.far3 (B := W.heap.size) ne_X_A1 (.int .u64 pv) (.int .u32 qv) (.int .u32 w)
        replace A2 := A2.far3 (B := W.heap.size) ne_X_A2 (.int .u64 pv) (.int .u32 qv) (.int .u32 w)
        replace hg := Lib.hid (hg.out.set3 (B := W.heap.size) le_X (.int .u64 pv) (.int .u32 qv) (.int .u32 w))
        generalize World.setCell _ _ _ = ws4 at *
        refine anyN_done (by kernel_rfl) ?_
        clear hS
        clear A1 A2
        go_wp2_with fail
        go_roundw
        case rel => exact ⟨j + 1, Or.inl hlt, by go_num, hg.out, by rw [EN.out]; exact X, FX, Z, FZ⟩
        case measure => simp [intOf]; omega
    · have hj0 : ¬ (j : Int) + 1 < len := by omega
      have hjl : len - 1 = j := by omega
      have X0 := X.c0
      have X1 := X.c1
      have X2 := X.c2
      have R0 := Z.c0
      have R1 := Z.c1
      have R2 := Z.c2
      have FR2 := FZ.2
      have HG := Lib.hid hg'
      generalize hP : (thAt v r fs j).1 = p at *
      generalize hQ : (thAt v r fs j).2 = q at *
      clear hg' X Z FX FZ HT HF HC
      go_wp2_with fail
      exact bodyPost_ret (v := .tuple #[ent p q w, .int .i64 0]) (by simp [results, Try.results66, go_sem, R0, R1, R2]) rfl ⟨by first | rfl | rw [hjl, hP, hQ], by
        repeat with_reducible first | exact HG.out | apply GrewS.alloc | (refine GrewS.setCell ?_ (by first | (simp; done) | (simp; omega)) _)⟩

theorem refThrough_f {v r w : Int} (W : World) (b : EB v r w) (h : rightB v r w = false) (A : Option Addr) (len cap : Nat) :
    Calls Try.prog 66 #[ent v r w, .slice A len cap] W fun e w' => e = .returned (.tuple #[ent 0 0 0, .int .i64 2]) ∧ GrewS W w' := by
  have HR := fun W => Lib.hid (refRight_f W b h)
  clear b h
  go_enter Try.func66, Try.ntmps66
  go_wp2_with fail
  refine (HR _).out.mono ?_
  rintro e w0 ⟨rfl, rfl⟩
  go_wp2_with fail
  exact bodyPost_ret (v := .tuple #[ent 0 0 0, .int .i64 2]) (by simp [results, Try.results66, go_sem]) rfl ⟨rfl, ((((GrewS.refl W).alloc _).alloc _).alloc _)⟩
end Go.Proofs.Ytmlapjaccmoleaa
