/-
  The contract of move's Through.
-/
import Derived.Test.YtmlapjaccmoleaaMoveOn
import Derived.Test.YtmlapjaccmoleaaCells3
namespace Go.Proofs.Ytmlapjaccmoleaa
open Go.RowKit

/-- Numbers that are u64. -/
def U64s (fs : List Int) : Prop := ∀ j, 0 ≤ fs.getD j 0 ∧ fs.getD j 0 ≤ 18446744073709551615

set_option maxRecDepth 100000 in
set_option maxHeartbeats 1000000 in
theorem through_t {v r w : Int} (W : World) (b : EB v r w) (h : rightB v r w = true) (A : Option Addr) (len cap : Nat) (fs : List Int) (hmax : (len : Int) ≤ 3000000000000000000) (hc : IsInts W .u64 A len fs) (hf : U64s fs) :
    Calls Try.prog 36 #[ent v r w, .slice A len cap] W fun e w' => e = .returned (.tuple #[ent (thAt v r fs (len - 1)).1 (thAt v r fs (len - 1)).2 w, .int .i64 0]) ∧ GrewS W w' := by
  have HR := fun W => Lib.hid (right_t W h)
  have HT := Lib.hid (fun i => thAt_ok b h hf i)
  have HF := Lib.hid hf
  have HC := Lib.hid hc
  clear b h hf hc
  go_enter Try.func36, Try.ntmps36
  go_wp2_with fail
  refine (HR _).out.mono ?_
  rintro e w0 ⟨rfl, rfl⟩
  go_wp2_with fail
  go_loopw [6] (fun i wr => ∃ j : Nat, (j + 1 ≤ len ∨ j = 0) ∧ i = .int .i64 (j + 1) ∧ GrewS W wr ∧ C3 wr W.heap.size (.int .u64 (thAt v r fs j).1) (.int .u32 (thAt v r fs j).2) (.int .u32 w) ∧ Fz wr W.heap.size ∧ C3 wr (W.heap.size + 1) (.int .u64 0) (.int .u32 0) (.int .u32 0) ∧ Fz wr (W.heap.size + 1)) (fun i _ => len - (intOf i).toNat)
  case atStart => 
    refine ⟨0, by omega, rfl, ((((GrewS.refl W).alloc _).alloc _).alloc _), ((C3.new W _ _ _ _).alloc _).alloc _, ((Fz.new W _ _).alloc _).alloc _, ?_, ?_⟩
    · simpa using (C3.new (W.alloc (.cells #[.int .u64 v, .int .u32 r, .int .u32 w] 25)) (.int .u64 0) (.int .u32 0) (.int .u32 0) 25).alloc (.cells #[.int .u64 v, .int .u32 r, .int .u32 w] 25)
    · simpa using (Fz.new (W.alloc (.cells #[.int .u64 v, .int .u32 r, .int .u32 w] 25)) #[.int .u64 0, .int .u32 0, .int .u32 0] 25).alloc (.cells #[.int .u64 v, .int .u32 r, .int .u32 w] 25)
  case round =>
    obtain ⟨j, hj, rfl, hg, X, FX, R, FR⟩ := hrel
    by_cases hlt : j + 1 < len
    · obtain ⟨bb, off, rfl, hc1⟩ := HC.out.kp hg.kp (i := j) (by omega)
      obtain ⟨bb', off', he, hc2⟩ := HC.out.kp hg.kp (i := j + 1) hlt
      cases he
      have hbl := cell_lt hc1
      have h0 := (HT.out j).1
      have h1 := (HT.out j).2
      have f1 := HF.out j
      have f2 := HF.out (j + 1)
      have en : thAt v r fs (j + 1) = (mvV (thAt v r fs j).1 (fs.getD j 0) (fs.getD (j + 1) 0), mvR (thAt v r fs j).1 (thAt v r fs j).2 (fs.getD j 0) (fs.getD (j + 1) 0)) := rfl
      have EN := Lib.hid en
      clear en
      generalize (thAt v r fs j).1 = p at *
      generalize (thAt v r fs j).2 = q at *
      generalize fs.getD j 0 = f at *
      generalize fs.getD (j + 1) 0 = t at *
      have H37 := fun W => Lib.hid (off_t W h0 f1.1 f1.2 h1)
      have H40' := fun W => on_t W (off_eb h0 f1.1 f1.2) f2.1 f2.2 (off_right (f := f) h1)
      simp only [on_off, onR_off] at H40'
      have H40 := fun W => Lib.hid (H40' W)
      clear H40' h0 h1 f1 f2
      have sW : W.heap.size + 1 < wr.heap.size := R.lt
      have A1 : At wr ⟨bb, off + j, none⟩ (.int .u64 f) := ⟨hc1, hbl⟩
      have A2 : At wr ⟨bb, off + (j + 1), none⟩ (.int .u64 t) := ⟨hc2, hbl⟩
      have HB : bb < W.heap.size := (by obtain ⟨b0, o0, e0, hb0, _⟩ := HC.out j (by omega); cases e0; exact hb0)
      have X0 := X.c0
      have X1 := X.c1
      have X2 := X.c2
      have hwj : IntKind.i64.wrap (j : Int) = j := by rw [IntKind.wrap_i64]; omega
      have hj1 : (j : Int) < len := by omega
      have hj2 : (j : Int) + 1 < len := by omega
      have hj3 : (0 : Int) ≤ (j : Int) + 1 := by omega
      go_wp2_with fail
      refine wp_region_anyN (fun w' => w'.cell? ⟨W.heap.size, 0, none⟩ = some (.int .u64 p) ∧ w'.cell? ⟨W.heap.size, 1, none⟩ = some (.int .u32 q) ∧ w'.cell? ⟨W.heap.size, 2, none⟩ = some (.int .u32 w) ∧ w'.cell? ⟨bb, off + j, none⟩ = some (.int .u64 f)) 12 (by kernel_rfl) ?_
      replace X := X.drew
      replace R := R.drew
      replace FX := FX.drew
      replace FR := FR.drew
      replace A1 := A1.drew
      replace A2 := A2.drew
      replace hg := Lib.hid hg.drew
      replace sW : W.heap.size + 1 < wr.drew.heap.size := sW
      clear X0 X1 X2 hc1 hc2 hbl
      generalize wr.drew = wr at *
      have hS : wr.cell? ⟨W.heap.size, 0, none⟩ = some (.int .u64 p) ∧ wr.cell? ⟨W.heap.size, 1, none⟩ = some (.int .u32 q) ∧ wr.cell? ⟨W.heap.size, 2, none⟩ = some (.int .u32 w) ∧ wr.cell? ⟨bb, off + j, none⟩ = some (.int .u64 f) := ⟨X.c0, X.c1, X.c2, A1.1⟩
      refine anyN_take 0 (v := ?_) rfl (by kernel_rfl) (by kernel_rfl) (by kernel_rfl) (by kernel_rfl) (by kernel_rfl) (fun _ _ _ h => h) (Or.inl ⟨by rfl, ?_⟩) (by assumption) ?_
      rotate_left
      · intro w hSw
        obtain ⟨_, _, _, _⟩ := hSw
        go_simp
        try with_reducible rfl
      simp only [Act.put, List.setIfInBounds_toArray, List.set_cons_zero, List.set_cons_succ]
      refine anyN_take 1 (v := ?_) rfl (by kernel_rfl) (by kernel_rfl) (by kernel_rfl) (by kernel_rfl) (by kernel_rfl) (fun _ _ _ h => h) (Or.inl ⟨by rfl, ?_⟩) (by assumption) ?_
      rotate_left
      · intro w hSw
        obtain ⟨_, _, _, _⟩ := hSw
        go_simp
        try with_reducible rfl
      simp only [Act.put, List.setIfInBounds_toArray, List.set_cons_zero, List.set_cons_succ]
      refine anyN_take 2 (v := ?_) rfl (by kernel_rfl) (by kernel_rfl) (by kernel_rfl) (by kernel_rfl) (by kernel_rfl) (fun _ _ _ h => h) (Or.inl ⟨by rfl, ?_⟩) (by assumption) ?_
      rotate_left
      · intro w hSw
        obtain ⟨_, _, _, _⟩ := hSw
        go_simp
        try with_reducible rfl
      simp only [Act.put, List.setIfInBounds_toArray, List.set_cons_zero, List.set_cons_succ]
      refine anyN_take 3 (v := ?_) rfl (by kernel_rfl) (by kernel_rfl) (by kernel_rfl) (by kernel_rfl) (by kernel_rfl) (fun _ _ _ h => h) (Or.inl ⟨by rfl, ?_⟩) (by assumption) ?_
      rotate_left
      · intro w hSw
        obtain ⟨_, _, _, _⟩ := hSw
        go_simp
        try with_reducible rfl
      simp only [Act.put, List.setIfInBounds_toArray, List.set_cons_zero, List.set_cons_succ]
      refine anyN_take 4 (v := ?_) rfl (by kernel_rfl) (by kernel_rfl) (by kernel_rfl) (by kernel_rfl) (by kernel_rfl) (fun _ _ _ h => h) (Or.inl ⟨by rfl, ?_⟩) (by assumption) ?_
      rotate_left
      · intro w hSw
        obtain ⟨_, _, _, _⟩ := hSw
        go_simp
        try with_reducible rfl
      simp only [Act.put, List.setIfInBounds_toArray, List.set_cons_zero, List.set_cons_succ]
      refine anyN_take 5 (v := ?_) rfl (by kernel_rfl) (by kernel_rfl) (by kernel_rfl) (by kernel_rfl) (by kernel_rfl) (fun _ _ _ h => h) (Or.inl ⟨by rfl, ?_⟩) (by assumption) ?_
      rotate_left
      · intro w hSw
        obtain ⟨_, _, _, _⟩ := hSw
        go_simp
        try with_reducible rfl
      simp only [Act.put, List.setIfInBounds_toArray, List.set_cons_zero, List.set_cons_succ]
      refine anyN_two 6 10 rfl rfl (by kernel_rfl) rfl rfl ?_ ?_
      · go_simp
        refine (H37 _).out.mono ?_
        rintro e w1 ⟨rfl, hg1⟩
        have k1 := hg1.kp
        replace X := X.kp k1
        replace R := R.kp k1
        replace FX := FX.kp k1
        replace FR := FR.kp k1
        replace A1 := A1.kp k1
        replace A2 := A2.kp k1
        replace hg := Lib.hid (hg.out.trans hg1)
        clear k1 hg1
        dsimp only
        refine and_keep ⟨X.c0, X.c1, X.c2, A1.1⟩ (fun hS => ?_)
        refine anyN_take 7 (v := ?_) rfl (by kernel_rfl) (by kernel_rfl) (by kernel_rfl) (by kernel_rfl) (by kernel_rfl) (fun _ _ _ h => h) (Or.inl ⟨by rfl, ?_⟩) (by assumption) ?_
        rotate_left
        · intro w hSw
          obtain ⟨_, _, _, _⟩ := hSw
          go_simp
          try with_reducible rfl
        simp only [Act.put, List.setIfInBounds_toArray, List.set_cons_zero, List.set_cons_succ]
        refine anyN_take 8 (v := ?_) rfl (by kernel_rfl) (by kernel_rfl) (by kernel_rfl) (by kernel_rfl) (by kernel_rfl) (fun _ _ _ h => h) (Or.inl ⟨by rfl, ?_⟩) (by assumption) ?_
        rotate_left
        · intro w hSw
          obtain ⟨_, _, _, _⟩ := hSw
          go_simp
          try with_reducible rfl
        simp only [Act.put, List.setIfInBounds_toArray, List.set_cons_zero, List.set_cons_succ]
        refine anyN_take 9 (v := ?_) rfl (by kernel_rfl) (by kernel_rfl) (by kernel_rfl) (by kernel_rfl) (by kernel_rfl) (fun _ _ _ h => h) (Or.inl ⟨by rfl, ?_⟩) (by assumption) ?_
        rotate_left
        · intro w hSw
          obtain ⟨_, _, _, _⟩ := hSw
          go_simp
          try with_reducible rfl
        simp only [Act.put, List.setIfInBounds_toArray, List.set_cons_zero, List.set_cons_succ]
        refine anyN_one 10 rfl (by kernel_rfl) rfl ?_
        go_simp
        have X' := X.alloc (.cells #[.bool false, .int .u64 0, .int .u32 0, .int .u32 0] 56)
        have A' := A1.alloc (.cells #[.bool false, .int .u64 0, .int .u32 0, .int .u32 0] 56)
        refine and_keep ⟨X'.c0, X'.c1, X'.c2, A'.1⟩ (fun hS => ?_)
        refine anyN_one 11 rfl (by kernel_rfl) rfl ?_
        go_simp
        clear X' A'
        have sW1 := R.lt
        replace X := X.alloc (.cells #[.bool (offB p f), .int .u64 (ahV p f), .int .u32 q, .int .u32 w] 56)
        replace R := R.alloc (.cells #[.bool (offB p f), .int .u64 (ahV p f), .int .u32 q, .int .u32 w] 56)
        replace FX := FX.alloc (.cells #[.bool (offB p f), .int .u64 (ahV p f), .int .u32 q, .int .u32 w] 56)
        replace FR := FR.alloc (.cells #[.bool (offB p f), .int .u64 (ahV p f), .int .u32 q, .int .u32 w] 56)
        replace A1 := A1.alloc (.cells #[.bool (offB p f), .int .u64 (ahV p f), .int .u32 q, .int .u32 w] 56)
        replace A2 := A2.alloc (.cells #[.bool (offB p f), .int .u64 (ahV p f), .int .u32 q, .int .u32 w] 56)
        have Y := C4.new w1 (.bool (offB p f)) (.int .u64 (ahV p f)) (.int .u32 q) (.int .u32 w) 56
        replace hg := Lib.hid (hg.out.alloc (.cells #[.bool (offB p f), .int .u64 (ahV p f), .int .u32 q, .int .u32 w] 56))
        refine and_keep ⟨X.c0, X.c1, X.c2, A1.1⟩ (fun hS => ?_)
        refine anyN_one 12 rfl (by kernel_rfl) rfl ?_
        go_simp
        refine anyN_done (by kernel_rfl) ?_
        replace sW : W.heap.size < w1.heap.size := Nat.lt_of_succ_lt sW1
        generalize hw1 : w1.heap.size = yb at *
        generalize w1.alloc (.cells #[.bool (offB p f), .int .u64 (ahV p f), .int .u32 q, .int .u32 w] 56) = w1 at *
        clear hS
        have Y0 := Y.c0
        have Y1 := Y.c1
        have Y2 := Y.c2
        have Y3 := Y.c3
        have B0 := A2.1
        go_wp2_with fail
        refine wp_region_anyN (fun w' => w'.cell? ⟨yb, 0, none⟩ = some (.bool (offB p f)) ∧ w'.cell? ⟨yb, 1, none⟩ = some (.int .u64 (ahV p f)) ∧ w'.cell? ⟨yb, 2, none⟩ = some (.int .u32 q) ∧ w'.cell? ⟨yb, 3, none⟩ = some (.int .u32 w) ∧ w'.cell? ⟨bb, off + (j + 1), none⟩ = some (.int .u64 t)) 10 (by kernel_rfl) ?_
        replace X := X.drew
        replace R := R.drew
        replace FX := FX.drew
        replace FR := FR.drew
        replace A2 := A2.drew
        replace Y := Y.drew
        replace hg := Lib.hid hg.out.drew
        clear Y0 Y1 Y2 Y3 B0 A1
        generalize w1.drew = w1 at *
        have hS : w1.cell? ⟨yb, 0, none⟩ = some (.bool (offB p f)) ∧ w1.cell? ⟨yb, 1, none⟩ = some (.int .u64 (ahV p f)) ∧ w1.cell? ⟨yb, 2, none⟩ = some (.int .u32 q) ∧ w1.cell? ⟨yb, 3, none⟩ = some (.int .u32 w) ∧ w1.cell? ⟨bb, off + (j + 1), none⟩ = some (.int .u64 t) := ⟨Y.c0, Y.c1, Y.c2, Y.c3, A2.1⟩
        refine anyN_take 0 (v := ?_) rfl (by kernel_rfl) (by kernel_rfl) (by kernel_rfl) (by kernel_rfl) (by kernel_rfl) (fun _ _ _ h => h) (Or.inl ⟨by rfl, ?_⟩) (by assumption) ?_
        rotate_left
        · intro w hSw
          obtain ⟨_, _, _, _, _⟩ := hSw
          go_simp
          try with_reducible rfl
        simp only [Act.put, List.setIfInBounds_toArray, List.set_cons_zero, List.set_cons_succ]
        refine anyN_take 1 (v := ?_) rfl (by kernel_rfl) (by kernel_rfl) (by kernel_rfl) (by kernel_rfl) (by kernel_rfl) (fun _ _ _ h => h) (Or.inl ⟨by rfl, ?_⟩) (by assumption) ?_
        rotate_left
        · intro w hSw
          obtain ⟨_, _, _, _, _⟩ := hSw
          go_simp
          try with_reducible rfl
        simp only [Act.put, List.setIfInBounds_toArray, List.set_cons_zero, List.set_cons_succ]
        refine anyN_take 2 (v := ?_) rfl (by kernel_rfl) (by kernel_rfl) (by kernel_rfl) (by kernel_rfl) (by kernel_rfl) (fun _ _ _ h => h) (Or.inl ⟨by rfl, ?_⟩) (by assumption) ?_
        rotate_left
        · intro w hSw
          obtain ⟨_, _, _, _, _⟩ := hSw
          go_simp
          try with_reducible rfl
        simp only [Act.put, List.setIfInBounds_toArray, List.set_cons_zero, List.set_cons_succ]
        refine anyN_take 3 (v := ?_) rfl (by kernel_rfl) (by kernel_rfl) (by kernel_rfl) (by kernel_rfl) (by kernel_rfl) (fun _ _ _ h => h) (Or.inl ⟨by rfl, ?_⟩) (by assumption) ?_
        rotate_left
        · intro w hSw
          obtain ⟨_, _, _, _, _⟩ := hSw
          go_simp
          try with_reducible rfl
        simp only [Act.put, List.setIfInBounds_toArray, List.set_cons_zero, List.set_cons_succ]
        refine anyN_take 4 (v := ?_) rfl (by kernel_rfl) (by kernel_rfl) (by kernel_rfl) (by kernel_rfl) (by kernel_rfl) (fun _ _ _ h => h) (Or.inl ⟨by rfl, ?_⟩) (by assumption) ?_
        rotate_left
        · intro w hSw
          obtain ⟨_, _, _, _, _⟩ := hSw
          go_simp
          try with_reducible rfl
        simp only [Act.put, List.setIfInBounds_toArray, List.set_cons_zero, List.set_cons_succ]
        refine anyN_one 5 rfl (by kernel_rfl) rfl ?_
        go_simp
        refine (H40 _).out.mono ?_
        rintro e w2 ⟨rfl, hg2⟩
        have k2 := hg2.kp
        replace X := X.kp k2
        replace R := R.kp k2
        replace FX := FX.kp k2
        replace FR := FR.kp k2
        replace A2 := A2.kp k2
        replace Y := Y.kp k2
        replace hg := Lib.hid (hg.out.trans hg2)
        clear k2 hg2
        dsimp only
        refine and_keep ⟨Y.c0, Y.c1, Y.c2, Y.c3, A2.1⟩ (fun hS => ?_)
        refine anyN_take 6 (v := ?_) rfl (by kernel_rfl) (by kernel_rfl) (by kernel_rfl) (by kernel_rfl) (by kernel_rfl) (fun _ _ _ h => h) (Or.inl ⟨by rfl, ?_⟩) (by assumption) ?_
        rotate_left
        · intro w hSw
          obtain ⟨_, _, _, _, _⟩ := hSw
          go_simp
          try with_reducible rfl
        simp only [Act.put, List.setIfInBounds_toArray, List.set_cons_zero, List.set_cons_succ]
        refine anyN_take 7 (v := ?_) rfl (by kernel_rfl) (by kernel_rfl) (by kernel_rfl) (by kernel_rfl) (by kernel_rfl) (fun _ _ _ h => h) (Or.inl ⟨by rfl, ?_⟩) (by assumption) ?_
        rotate_left
        · intro w hSw
          obtain ⟨_, _, _, _, _⟩ := hSw
          go_simp
          try with_reducible rfl
        simp only [Act.put, List.setIfInBounds_toArray, List.set_cons_zero, List.set_cons_succ]
        refine anyN_take 8 (v := ?_) rfl (by kernel_rfl) (by kernel_rfl) (by kernel_rfl) (by kernel_rfl) (by kernel_rfl) (fun _ _ _ h => h) (Or.inl ⟨by rfl, ?_⟩) (by assumption) ?_
        rotate_left
        · intro w hSw
          obtain ⟨_, _, _, _, _⟩ := hSw
          go_simp
          try with_reducible rfl
        simp only [Act.put, List.setIfInBounds_toArray, List.set_cons_zero, List.set_cons_succ]
        have X0 := X.c0
        have X1 := X.c1
        have X2 := X.c2
        have FX2 := FX.2
        refine anyN_one 9 rfl (by kernel_rfl) rfl ?_
        go_simp
        have hny : W.heap.size ≠ yb := by omega
        have hnb : W.heap.size ≠ bb := by omega
        have Y' := Y.far3 hny (.int .u64 (mvV p f t)) (.int .u32 (mvR p q f t)) (.int .u32 w)
        have A' := A2.far3 (B := W.heap.size) hnb (.int .u64 (mvV p f t)) (.int .u32 (mvR p q f t)) (.int .u32 w)
        try refine and_keep ⟨Y'.c0, Y'.c1, Y'.c2, Y'.c3, A'.1⟩ (fun hS => ?_)
        refine anyN_one 10 rfl (by kernel_rfl) rfl ?_
        go_simp
        refine anyN_done (by kernel_rfl) ?_
        replace X := X.set (.int .u64 (mvV p f t)) (.int .u32 (mvR p q f t)) (.int .u32 w)
        replace R := R.far3 (p := W.heap.size) (by omega) (.int .u64 (mvV p f t)) (.int .u32 (mvR p q f t)) (.int .u32 w)
        replace FX := FX.set3 ⟨W.heap.size, 0, none⟩ ⟨W.heap.size, 1, none⟩ ⟨W.heap.size, 2, none⟩ (.int .u64 (mvV p f t)) (.int .u32 (mvR p q f t)) (.int .u32 w)
        replace FR := FR.set3 ⟨W.heap.size, 0, none⟩ ⟨W.heap.size, 1, none⟩ ⟨W.heap.size, 2, none⟩ (.int .u64 (mvV p f t)) (.int .u32 (mvR p q f t)) (.int .u32 w)
        replace hg := Lib.hid (hg.out.set3 (Nat.le_refl _) (.int .u64 (mvV p f t)) (.int .u32 (mvR p q f t)) (.int .u32 w))
        clear hS Y Y' A2 A' X0 X1 X2 FX2
        generalize World.setCell _ _ _ = w9 at *
        go_wp2_with fail
        go_roundw
        case rel => exact ⟨j + 1, Or.inl hlt, by go_num, hg.out, by rw [EN.out]; exact X, FX, R, FR⟩
        case measure => simp [intOf]; omega
      · go_simp
        replace X := X.alloc (.cells #[.bool false, .int .u64 0, .int .u32 0, .int .u32 0] 56)
        replace R := R.alloc (.cells #[.bool false, .int .u64 0, .int .u32 0, .int .u32 0] 56)
        replace FX := FX.alloc (.cells #[.bool false, .int .u64 0, .int .u32 0, .int .u32 0] 56)
        replace FR := FR.alloc (.cells #[.bool false, .int .u64 0, .int .u32 0, .int .u32 0] 56)
        replace A1 := A1.alloc (.cells #[.bool false, .int .u64 0, .int .u32 0, .int .u32 0] 56)
        replace A2 := A2.alloc (.cells #[.bool false, .int .u64 0, .int .u32 0, .int .u32 0] 56)
        have Y := C4.new wr (.bool false) (.int .u64 0) (.int .u32 0) (.int .u32 0) 56
        have FY := Fz.new wr #[.bool false, .int .u64 0, .int .u32 0, .int .u32 0] 56
        replace hg := Lib.hid (hg.out.alloc (.cells #[.bool false, .int .u64 0, .int .u32 0, .int .u32 0] 56))
        refine and_keep ⟨X.c0, X.c1, X.c2, A1.1⟩ (fun hS => ?_)
        refine anyN_one 6 rfl (by kernel_rfl) rfl ?_
        go_simp
        refine (H37 _).out.mono ?_
        rintro e w1 ⟨rfl, hg1⟩
        have k1 := hg1.kp
        replace X := X.kp k1
        replace R := R.kp k1
        replace FX := FX.kp k1
        replace FR := FR.kp k1
        replace A1 := A1.kp k1
        replace A2 := A2.kp k1
        replace Y := Y.kp k1
        replace FY := FY.kp k1
        replace hg := Lib.hid (hg.out.trans hg1)
        clear k1 hg1
        dsimp only
        refine and_keep ⟨X.c0, X.c1, X.c2, A1.1⟩ (fun hS => ?_)
        refine anyN_take 7 (v := ?_) rfl (by kernel_rfl) (by kernel_rfl) (by kernel_rfl) (by kernel_rfl) (by kernel_rfl) (fun _ _ _ h => h) (Or.inl ⟨by rfl, ?_⟩) (by assumption) ?_
        rotate_left
        · intro w hSw
          obtain ⟨_, _, _, _⟩ := hSw
          go_simp
          try with_reducible rfl
        simp only [Act.put, List.setIfInBounds_toArray, List.set_cons_zero, List.set_cons_succ]
        refine anyN_take 8 (v := ?_) rfl (by kernel_rfl) (by kernel_rfl) (by kernel_rfl) (by kernel_rfl) (by kernel_rfl) (fun _ _ _ h => h) (Or.inl ⟨by rfl, ?_⟩) (by assumption) ?_
        rotate_left
        · intro w hSw
          obtain ⟨_, _, _, _⟩ := hSw
          go_simp
          try with_reducible rfl
        simp only [Act.put, List.setIfInBounds_toArray, List.set_cons_zero, List.set_cons_succ]
        refine anyN_take 9 (v := ?_) rfl (by kernel_rfl) (by kernel_rfl) (by kernel_rfl) (by kernel_rfl) (by kernel_rfl) (fun _ _ _ h => h) (Or.inl ⟨by rfl, ?_⟩) (by assumption) ?_
        rotate_left
        · intro w hSw
          obtain ⟨_, _, _, _⟩ := hSw
          go_simp
          try with_reducible rfl
        simp only [Act.put, List.setIfInBounds_toArray, List.set_cons_zero, List.set_cons_succ]
        have Y0 := Y.c0
        have Y1 := Y.c1
        have Y2 := Y.c2
        have Y3 := Y.c3
        have FY2 := FY.2
        refine anyN_one 11 rfl (by kernel_rfl) rfl ?_
        go_simp
        have hny : wr.heap.size ≠ W.heap.size := by omega
        have hnr : wr.heap.size ≠ W.heap.size + 1 := by omega
        have hnb : wr.heap.size ≠ bb := by omega
        replace X := X.far4 hny (.bool (offB p f)) (.int .u64 (ahV p f)) (.int .u32 q) (.int .u32 w)
        replace R := R.far4 hnr (.bool (offB p f)) (.int .u64 (ahV p f)) (.int .u32 q) (.int .u32 w)
        replace A1 := A1.far4 (B := wr.heap.size) hnb (.bool (offB p f)) (.int .u64 (ahV p f)) (.int .u32 q) (.int .u32 w)
        replace A2 := A2.far4 (B := wr.heap.size) hnb (.bool (offB p f)) (.int .u64 (ahV p f)) (.int .u32 q) (.int .u32 w)
        replace FX := (FX.set3 ⟨wr.heap.size, 0, none⟩ ⟨wr.heap.size, 1, none⟩ ⟨wr.heap.size, 2, none⟩ (.bool (offB p f)) (.int .u64 (ahV p f)) (.int .u32 q)).set ⟨wr.heap.size, 3, none⟩ (.int .u32 w)
        replace FR := (FR.set3 ⟨wr.heap.size, 0, none⟩ ⟨wr.heap.size, 1, none⟩ ⟨wr.heap.size, 2, none⟩ (.bool (offB p f)) (.int .u64 (ahV p f)) (.int .u32 q)).set ⟨wr.heap.size, 3, none⟩ (.int .u32 w)
        replace Y := Y.set (.bool (offB p f)) (.int .u64 (ahV p f)) (.int .u32 q) (.int .u32 w)
        replace hg := Lib.hid (hg.out.set4 (B := wr.heap.size) (by omega) (.bool (offB p f)) (.int .u64 (ahV p f)) (.int .u32 q) (.int .u32 w))
        try refine and_keep ⟨X.c0, X.c1, X.c2, A1.1⟩ (fun hS => ?_)
        refine anyN_one 12 rfl (by kernel_rfl) rfl ?_
        go_simp
        refine anyN_done (by kernel_rfl) ?_
        clear Y0 Y1 Y2 Y3 FY2 FY hS
        replace sW : W.heap.size < wr.heap.size := by omega
        generalize wr.heap.size = yb at *
        generalize World.setCell _ _ _ = w1 at *
        clear hS
        have Y0 := Y.c0
        have Y1 := Y.c1
        have Y2 := Y.c2
        have Y3 := Y.c3
        have B0 := A2.1
        go_wp2_with fail
        refine wp_region_anyN (fun w' => w'.cell? ⟨yb, 0, none⟩ = some (.bool (offB p f)) ∧ w'.cell? ⟨yb, 1, none⟩ = some (.int .u64 (ahV p f)) ∧ w'.cell? ⟨yb, 2, none⟩ = some (.int .u32 q) ∧ w'.cell? ⟨yb, 3, none⟩ = some (.int .u32 w) ∧ w'.cell? ⟨bb, off + (j + 1), none⟩ = some (.int .u64 t)) 10 (by kernel_rfl) ?_
        replace X := X.drew
        replace R := R.drew
        replace FX := FX.drew
        replace FR := FR.drew
        replace A2 := A2.drew
        replace Y := Y.drew
        replace hg := Lib.hid hg.out.drew
        clear Y0 Y1 Y2 Y3 B0 A1
        generalize w1.drew = w1 at *
        have hS : w1.cell? ⟨yb, 0, none⟩ = some (.bool (offB p f)) ∧ w1.cell? ⟨yb, 1, none⟩ = some (.int .u64 (ahV p f)) ∧ w1.cell? ⟨yb, 2, none⟩ = some (.int .u32 q) ∧ w1.cell? ⟨yb, 3, none⟩ = some (.int .u32 w) ∧ w1.cell? ⟨bb, off + (j + 1), none⟩ = some (.int .u64 t) := ⟨Y.c0, Y.c1, Y.c2, Y.c3, A2.1⟩
        refine anyN_take 0 (v := ?_) rfl (by kernel_rfl) (by kernel_rfl) (by kernel_rfl) (by kernel_rfl) (by kernel_rfl) (fun _ _ _ h => h) (Or.inl ⟨by rfl, ?_⟩) (by assumption) ?_
        rotate_left
        · intro w hSw
          obtain ⟨_, _, _, _, _⟩ := hSw
          go_simp
          try with_reducible rfl
        simp only [Act.put, List.setIfInBounds_toArray, List.set_cons_zero, List.set_cons_succ]
        refine anyN_take 1 (v := ?_) rfl (by kernel_rfl) (by kernel_rfl) (by kernel_rfl) (by kernel_rfl) (by kernel_rfl) (fun _ _ _ h => h) (Or.inl ⟨by rfl, ?_⟩) (by assumption) ?_
        rotate_left
        · intro w hSw
          obtain ⟨_, _, _, _, _⟩ := hSw
          go_simp
          try with_reducible rfl
        simp only [Act.put, List.setIfInBounds_toArray, List.set_cons_zero, List.set_cons_succ]
        refine anyN_take 2 (v := ?_) rfl (by kernel_rfl) (by kernel_rfl) (by kernel_rfl) (by kernel_rfl) (by kernel_rfl) (fun _ _ _ h => h) (Or.inl ⟨by rfl, ?_⟩) (by assumption) ?_
        rotate_left
        · intro w hSw
          obtain ⟨_, _, _, _, _⟩ := hSw
          go_simp
          try with_reducible rfl
        simp only [Act.put, List.setIfInBounds_toArray, List.set_cons_zero, List.set_cons_succ]
        refine anyN_take 3 (v := ?_) rfl (by kernel_rfl) (by kernel_rfl) (by kernel_rfl) (by kernel_rfl) (by kernel_rfl) (fun _ _ _ h => h) (Or.inl ⟨by rfl, ?_⟩) (by assumption) ?_
        rotate_left
        · intro w hSw
          obtain ⟨_, _, _, _, _⟩ := hSw
          go_simp
          try with_reducible rfl
        simp only [Act.put, List.setIfInBounds_toArray, List.set_cons_zero, List.set_cons_succ]
        refine anyN_take 4 (v := ?_) rfl (by kernel_rfl) (by kernel_rfl) (by kernel_rfl) (by kernel_rfl) (by kernel_rfl) (fun _ _ _ h => h) (Or.inl ⟨by rfl, ?_⟩) (by assumption) ?_
        rotate_left
        · intro w hSw
          obtain ⟨_, _, _, _, _⟩ := hSw
          go_simp
          try with_reducible rfl
        simp only [Act.put, List.setIfInBounds_toArray, List.set_cons_zero, List.set_cons_succ]
        refine anyN_one 5 rfl (by kernel_rfl) rfl ?_
        go_simp
        refine (H40 _).out.mono ?_
        rintro e w2 ⟨rfl, hg2⟩
        have k2 := hg2.kp
        replace X := X.kp k2
        replace R := R.kp k2
        replace FX := FX.kp k2
        replace FR := FR.kp k2
        replace A2 := A2.kp k2
        replace Y := Y.kp k2
        replace hg := Lib.hid (hg.out.trans hg2)
        clear k2 hg2
        dsimp only
        refine and_keep ⟨Y.c0, Y.c1, Y.c2, Y.c3, A2.1⟩ (fun hS => ?_)
        refine anyN_take 6 (v := ?_) rfl (by kernel_rfl) (by kernel_rfl) (by kernel_rfl) (by kernel_rfl) (by kernel_rfl) (fun _ _ _ h => h) (Or.inl ⟨by rfl, ?_⟩) (by assumption) ?_
        rotate_left
        · intro w hSw
          obtain ⟨_, _, _, _, _⟩ := hSw
          go_simp
          try with_reducible rfl
        simp only [Act.put, List.setIfInBounds_toArray, List.set_cons_zero, List.set_cons_succ]
        refine anyN_take 7 (v := ?_) rfl (by kernel_rfl) (by kernel_rfl) (by kernel_rfl) (by kernel_rfl) (by kernel_rfl) (fun _ _ _ h => h) (Or.inl ⟨by rfl, ?_⟩) (by assumption) ?_
        rotate_left
        · intro w hSw
          obtain ⟨_, _, _, _, _⟩ := hSw
          go_simp
          try with_reducible rfl
        simp only [Act.put, List.setIfInBounds_toArray, List.set_cons_zero, List.set_cons_succ]
        refine anyN_take 8 (v := ?_) rfl (by kernel_rfl) (by kernel_rfl) (by kernel_rfl) (by kernel_rfl) (by kernel_rfl) (fun _ _ _ h => h) (Or.inl ⟨by rfl, ?_⟩) (by assumption) ?_
        rotate_left
        · intro w hSw
          obtain ⟨_, _, _, _, _⟩ := hSw
          go_simp
          try with_reducible rfl
        simp only [Act.put, List.setIfInBounds_toArray, List.set_cons_zero, List.set_cons_succ]
        have X0 := X.c0
        have X1 := X.c1
        have X2 := X.c2
        have FX2 := FX.2
        refine anyN_one 9 rfl (by kernel_rfl) rfl ?_
        go_simp
        have hny : W.heap.size ≠ yb := by omega
        have hnb : W.heap.size ≠ bb := by omega
        have Y' := Y.far3 hny (.int .u64 (mvV p f t)) (.int .u32 (mvR p q f t)) (.int .u32 w)
        have A' := A2.far3 (B := W.heap.size) hnb (.int .u64 (mvV p f t)) (.int .u32 (mvR p q f t)) (.int .u32 w)
        try refine and_keep ⟨Y'.c0, Y'.c1, Y'.c2, Y'.c3, A'.1⟩ (fun hS => ?_)
        refine anyN_one 10 rfl (by kernel_rfl) rfl ?_
        go_simp
        refine anyN_done (by kernel_rfl) ?_
        replace X := X.set (.int .u64 (mvV p f t)) (.int .u32 (mvR p q f t)) (.int .u32 w)
        replace R := R.far3 (p := W.heap.size) (by omega) (.int .u64 (mvV p f t)) (.int .u32 (mvR p q f t)) (.int .u32 w)
        replace FX := FX.set3 ⟨W.heap.size, 0, none⟩ ⟨W.heap.size, 1, none⟩ ⟨W.heap.size, 2, none⟩ (.int .u64 (mvV p f t)) (.int .u32 (mvR p q f t)) (.int .u32 w)
        replace FR := FR.set3 ⟨W.heap.size, 0, none⟩ ⟨W.heap.size, 1, none⟩ ⟨W.heap.size, 2, none⟩ (.int .u64 (mvV p f t)) (.int .u32 (mvR p q f t)) (.int .u32 w)
        replace hg := Lib.hid (hg.out.set3 (Nat.le_refl _) (.int .u64 (mvV p f t)) (.int .u32 (mvR p q f t)) (.int .u32 w))
        clear hS Y Y' A2 A' X0 X1 X2 FX2
        generalize World.setCell _ _ _ = w9 at *
        go_wp2_with fail
        go_roundw
        case rel => exact ⟨j + 1, Or.inl hlt, by go_num, hg.out, by rw [EN.out]; exact X, FX, R, FR⟩
        case measure => simp [intOf]; omega
    · have hj0 : ¬ (j : Int) + 1 < len := by omega
      have hjl : len - 1 = j := by omega
      have X0 := X.c0
      have X1 := X.c1
      have X2 := X.c2
      have R0 := R.c0
      have R1 := R.c1
      have R2 := R.c2
      have FR2 := FR.2
      have HG := Lib.hid hg
      generalize hP : (thAt v r fs j).1 = p at *
      generalize hQ : (thAt v r fs j).2 = q at *
      clear hg X R FX FR HT HF HC
      go_wp2_with fail
      exact bodyPost_ret (v := .tuple #[ent p q w, .int .i64 0]) (by simp [results, Try.results36, go_sem, R0, R1, R2]) rfl ⟨by first | rfl | rw [hjl, hP, hQ], by
        repeat with_reducible first | exact HG.out | apply GrewS.alloc | (refine GrewS.setCell ?_ (by first | (simp; done) | (simp; omega)) _)⟩

theorem through_f {v r w : Int} (W : World) (b : EB v r w) (h : rightB v r w = false) (A : Option Addr) (len cap : Nat) :
    Calls Try.prog 36 #[ent v r w, .slice A len cap] W fun e w' => e = .returned (.tuple #[ent 0 0 0, .int .i64 2]) ∧ GrewS W w' := by
  have HR := fun W => Lib.hid (right_f W b h)
  clear b h
  go_enter Try.func36, Try.ntmps36
  go_wp2_with fail
  refine (HR _).out.mono ?_
  rintro e w0 ⟨rfl, rfl⟩
  go_wp2_with fail
  exact bodyPost_ret (v := .tuple #[ent 0 0 0, .int .i64 2]) (by simp [results, Try.results36, go_sem]) rfl ⟨rfl, ((((GrewS.refl W).alloc _).alloc _).alloc _)⟩
end Go.Proofs.Ytmlapjaccmoleaa
