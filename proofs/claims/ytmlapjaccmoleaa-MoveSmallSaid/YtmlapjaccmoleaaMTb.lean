/-
  The law MoveThrough, walked.
-/
import Derived.Test.YtmlapjaccmoleaaMadeM
import Derived.Test.YtmlapjaccmoleaaThru
import Derived.Test.YtmlapjaccmoleaaCells4
import Derived.Deep.CutRange
import Derived.Test.YtmlapjaccmoleaaMTa
namespace Go.Proofs.Ytmlapjaccmoleaa
open Go.RowKit


set_option maxRecDepth 100000 in
set_option maxHeartbeats 8000000 in
theorem mt_long {v r w : Int} (W : World) (b : EB v r w) (bb off : Nat) (len cap n : Nat) (fs : List Int) (hn2 : 2 ≤ n) (hn20 : n ≤ 20) (hnl : n = len ∨ (n = 20 ∧ 20 ≤ len)) (hcap : len ≤ cap) (hmax : (cap : Int) ≤ 9223372036854775807)
    (hc : IsInts W .u64 (some ⟨bb, off, none⟩) len fs) (hf : U64s fs) (at_ : Int) (a0 : 0 ≤ at_) (a1 : at_ ≤ 255) :
    Calls Try.prog 12 #[ent v r w, .slice (some ⟨bb, off, none⟩) len cap, .int .u8 at_] W fun e w' => e = .returned (.bool true) ∧ GrewS W w' := by
  obtain ⟨R, M, hb, hr, HM'⟩ := madeM_ent b
  have hnlen : n ≤ len := by omega
  have HC := Lib.hid (isInts_le hc hnlen)
  have HF := Lib.hid hf
  have HA := fun W => Lib.hid (awakeM_any W)
  have HM := fun W => Lib.hid (HM' W)
  obtain ⟨k, hk, hk1, hk2⟩ : ∃ k : Nat, (k : Int) = 1 + at_ % ((n : Int) - 1) ∧ 1 ≤ k ∧ k + 1 ≤ n := by
    have e1 := Int.emod_nonneg at_ (b := (n : Int) - 1) (by omega)
    have e2 := Int.emod_lt_of_pos at_ (b := (n : Int) - 1) (by omega)
    exact ⟨(1 + at_ % ((n : Int) - 1)).toNat, by omega, by omega, by omega⟩
  have hT := thAt_ok hb hr hf k
  have H1' := fun (w : World) (hk : GrewS W w) => through_t w hb hr (some ⟨bb, off, none⟩) n cap fs (by omega) (HC.out.below hk.kp) hf
  have H2' := fun (w : World) (hk : GrewS W w) => through_t w hb hr (some ⟨bb, off, none⟩) (k + 1) cap fs (by omega) (isInts_le (HC.out.below hk.kp) hk2) hf
  have H3' := fun (w : World) (hk : GrewS W w) => through_t w hT.1 hT.2 (some ⟨bb, off + k, none⟩) (n - k) (cap - k) (fs.drop k) (by omega) (isInts_drop (HC.out.below hk.kp) k) (u64s_drop hf k)
  have e1 : k + 1 - 1 = k := rfl
  have e2 : thAt (thAt v R fs k).1 (thAt v R fs k).2 (fs.drop k) (n - k - 1) = thAt v R fs (n - 1) := by
    rw [thAt_add (fun j => by rw [List.getD_eq_getElem?_getD, List.getElem?_drop, ← List.getD_eq_getElem?_getD])]
    congr 1
    omega
  rw [e2] at H3'
  rw [e1] at H2'
  obtain ⟨z, hz⟩ : ∃ z, z = fs.getD 0 0 := ⟨_, rfl⟩
  obtain ⟨y, hy⟩ : ∃ y, y = fs.getD (n - 1) 0 := ⟨_, rfl⟩
  have hz1 := hf 0
  have hy1 := hf (n - 1)
  rw [← hz] at hz1
  rw [← hy] at hy1
  have hbo := off_eb (f := z) hb hz1.1 hz1.2
  have hro := off_right (f := z) hr
  have H4' := fun W => off_t W hb hz1.1 hz1.2 hr
  obtain ⟨lo, hi, E, HR', hE⟩ := reach_ex hbo hro
  have H6' := fun (w : World) (p : Nat) (c1 : w.cell? ⟨p, 0, none⟩ = some (.int .u64 z)) (c2 : w.cell? ⟨p, 1, none⟩ = some (.int .u64 y)) (hl : p < w.heap.size) => through_t w hb hr (some ⟨p, 0, none⟩) 2 2 [z, y] (by omega) (fun i hi => by
    match i, hi with
    | 0, _ => exact ⟨p, 0, rfl, hl, c1⟩
    | 1, _ => exact ⟨p, 0, rfl, hl, c2⟩) (fun j => by
    match j with
    | 0 => exact hz1
    | 1 => exact hy1
    | _ + 2 => simp)
  have e3 : thAt v R [z, y] (2 - 1) = (mvV v z y, mvR v R z y) := rfl
  simp only [e3] at H6'
  have hTI : (∀ j, 1 ≤ j → j < n - 1 → inB (offB v z) (ahV v z) (fs.getD j 0) = true) → (thAt v R fs (n - 1)).1 = mvV v z y ∧ (thAt v R fs (n - 1)).2 = mvR v R z y := by
    intro h
    have h1 := thAt_in hb hr hf (n := n - 1) (by rw [← hz]; exact h) (n - 2) (by omega)
    rw [← hz, on_off, onR_off] at h1
    have e : n - 2 + 1 = n - 1 := by omega
    rw [e, ← hy] at h1
    rw [h1]
    exact ⟨rfl, rfl⟩
  obtain ⟨p1, hp1⟩ : ∃ p, p = (thAt v R fs k).1 := ⟨_, rfl⟩
  obtain ⟨q1, hq1⟩ : ∃ q, q = (thAt v R fs k).2 := ⟨_, rfl⟩
  obtain ⟨p2, hp2⟩ : ∃ p, p = (thAt v R fs (n - 1)).1 := ⟨_, rfl⟩
  obtain ⟨q2, hq2⟩ : ∃ q, q = (thAt v R fs (n - 1)).2 := ⟨_, rfl⟩
  rw [← hp1, ← hq1] at H2' H3'
  rw [← hp2, ← hq2] at H1' H3'
  obtain ⟨p3, hp3⟩ : ∃ p, p = mvV v z y := ⟨_, rfl⟩
  obtain ⟨q3, hq3⟩ : ∃ q, q = mvR v R z y := ⟨_, rfl⟩
  rw [← hp3, ← hq3] at H6'
  rw [← hp2, ← hq2, ← hp3, ← hq3] at hTI
  have HTI := Lib.hid hTI
  have H1 := fun w hk => Lib.hid (H1' w hk)
  have H2 := fun w hk => Lib.hid (H2' w hk)
  have H3 := fun w hk => Lib.hid (H3' w hk)
  generalize offB v z = ob at *
  generalize ahV v z = oy at *
  have H4 := fun w => Lib.hid (H4' w)
  have HR := fun w => Lib.hid (HR' w)
  have H6 := fun w p c1 c2 hl => Lib.hid (H6' w p c1 c2 hl)
  replace hE := Lib.hid hE
  replace hnl := Lib.hid hnl
  replace hk := Lib.hid hk
  have C0 : W.cell? ⟨bb, off, none⟩ = some (.int .u64 z) := by
    obtain ⟨b', o', e, h1, h2⟩ := HC.out 0 (by omega)
    cases e; rw [hz]; exact h2
  have C1 : W.cell? ⟨bb, off + (n - 1), none⟩ = some (.int .u64 y) := by
    obtain ⟨b', o', e, h1, h2⟩ := HC.out (n - 1) (by omega)
    cases e; rw [hy]; exact h2
  have hbb : bb < W.heap.size := cell_lt C0
  replace C0 := Lib.hid C0
  replace C1 := Lib.hid C1
  clear hb hr b hc hf HM' H1' H2' H3' H4' HR' H6' hT hbo hro hz hy hz1 hy1 e1 e2 e3 hTI hp1 hq1 hp2 hq2 hp3 hq3
  go_enter Try.func12, Try.ntmps12
  go_wp2_with fail
  refine (HA _).out.mono ?_
  rintro e w1 ⟨rfl, hg1⟩
  have X := C3.kp (C3.new W _ _ _ _) hg1.kp
  have FX := Fz.kp (Fz.new W _ _) hg1.kp
  have hg := Lib.hid (((GrewS.refl W).alloc _).trans hg1)
  clear hg1
  have X_0 := X.c0
  have X_1 := X.c1
  have X_2 := X.c2
  have X_l := X.lt
  go_wp2_with fail
  clear X_0 X_1 X_2 X_l
  refine (HM _).out.mono ?_
  rintro e w2 ⟨rfl, hw2⟩
  have kw2 := hw2.kp
  replace X := C3.kp (by repeat with_reducible first | exact X | apply C3.alloc | apply C3.drew | apply C3.drewN) kw2
  replace hg := Lib.hid (GrewS.trans (by repeat with_reducible first | exact hg.out | apply GrewS.alloc | apply GrewS.drew | apply GrewS.drewN) hw2)
  replace FX := FX.kp kw2
  have FX2 := FX.2
  clear kw2 hw2
  have X_0 := X.c0
  have X_1 := X.c1
  have X_2 := X.c2
  have X_l := X.lt
  clear HM
  go_upto_region 4 with fail
  clear X_0 X_1 X_2 X_l
  clear FX2
  replace X := X.set (.int .u64 v) (.int .u32 R) (.int .u32 M)
  replace hg := Lib.hid (hg.out.set3 (Nat.le_refl _) (.int .u64 v) (.int .u32 R) (.int .u32 M))
  generalize World.setCell _ _ _ = w2 at *
  clear FX
  go_cut [1] from 27 to 31 (fun s w' => s = .slice (some ⟨bb, off, none⟩) n cap ∧ w2 = w')
  case first =>
    rcases hnl.out with rfl | ⟨rfl, h⟩
    · have h' : (n : Int) ≤ 20 := by omega
      go_wp2_with fail
      all_goals
        go_meet
        case rel => exact ⟨by first | rfl | (congr 1; omega), rfl⟩
    · have h' : (20 : Int) ≤ len := by omega
      go_wp2_with fail
      all_goals
        go_meet
        case rel => exact ⟨by first | rfl | (congr 1; omega), rfl⟩
  case rest =>
  obtain ⟨rfl, rfl⟩ := hcut
  have hn2' : (2 : Int) ≤ n := by omega
  have hn20' : (n : Int) ≤ 20 := by omega
  have X_0 := X.c0
  have X_1 := X.c1
  have X_2 := X.c2
  have X_l := X.lt
  go_wp2_with fail
  clear X_0 X_1 X_2 X_l
  refine (H1 _ hg.out).out.mono ?_
  rintro e w3 ⟨rfl, hg1⟩
  replace X := X.kp hg1.kp
  replace hg := Lib.hid (hg.out.trans hg1)
  clear hg1 H1
  go_upto_region 10 with fail
  have ne_A_X : w3.heap.size ≠ W.heap.size := Nat.ne_of_gt X.lt
  have Y := C3.new w3 (.int .u64 p2) (.int .u32 q2) (.int .u32 M) 25
  replace X := X.alloc (.cells #[.int .u64 p2, .int .u32 q2, .int .u32 M] 25)
  replace hg := Lib.hid (hg.out.alloc (.cells #[.int .u64 p2, .int .u32 q2, .int .u32 M] 25))
  generalize w3.alloc (.cells #[.int .u64 p2, .int .u32 q2, .int .u32 M] 25) = w4 at *
  generalize w3.heap.size = bY at *
  go_cut [9] from 46 to 52 (fun s w' => s = .int .i64 (k : Int) ∧ w4 = w')
  case first =>
    have hr0 : 0 ≤ at_ % ((n : Int) - 1) := by have := hk.out; omega
    have hr1 : at_ % ((n : Int) - 1) ≤ 20 := by have := hk.out; omega
    go_wp2_with fail
    all_goals
      go_meet
      case rel => exact ⟨by first | (rw [hk.out]; done) | (congr 1; have := hk.out; omega), rfl⟩
  case rest =>
  obtain ⟨rfl, rfl⟩ := hcut
  have hkc : (k : Int) + 1 ≤ cap := by omega
  have hkc2 : (k : Int) ≤ n := by omega
  have hk3 : (0 : Int) ≤ (k : Int) + 1 := by omega
  have hkw : IntKind.i64.wrap ((k : Int) + 1) = (k : Int) + 1 := by rw [IntKind.wrap_i64]; omega
  go_upto_region 11 with fail
  go_cut [10, 11] from 53 to 61 (fun p e w' => ∃ B : Nat, p = .pointer (some ⟨B, 0, none⟩) ∧ e = .int .i64 0 ∧ C3 w' B (.int .u64 p1) (.int .u32 q1) (.int .u32 M) ∧ C3 w' W.heap.size (.int .u64 v) (.int .u32 R) (.int .u32 M) ∧ C3 w' bY (.int .u64 p2) (.int .u32 q2) (.int .u32 M) ∧ GrewS W w')
  case first =>
    refine wp_region_anyN (fun w' => w'.cell? ⟨W.heap.size, 0, none⟩ = some (.int .u64 v) ∧ w'.cell? ⟨W.heap.size, 1, none⟩ = some (.int .u32 R) ∧ w'.cell? ⟨W.heap.size, 2, none⟩ = some (.int .u32 M)) 11 (by kernel_rfl) ?_
    replace X := X.drew
    replace Y := Y.drew
    replace hg := Lib.hid hg.out.drew
    generalize w4.drew = w4 at *
    have hS : w4.cell? ⟨W.heap.size, 0, none⟩ = some (.int .u64 v) ∧ w4.cell? ⟨W.heap.size, 1, none⟩ = some (.int .u32 R) ∧ w4.cell? ⟨W.heap.size, 2, none⟩ = some (.int .u32 M) := ⟨X.c0, X.c1, X.c2⟩
    refine anyN_take 0 (v := ?_) rfl (by kernel_rfl) (by kernel_rfl) (by kernel_rfl) (by kernel_rfl) (by kernel_rfl) (fun _ _ _ h => h) (Or.inl ⟨by rfl, ?_⟩) (by assumption) ?_
    rotate_left
    · intro w hSw
      obtain ⟨_, _, _⟩ := hSw
      go_simp
      try with_reducible rfl
    simp only [Act.put, List.setIfInBounds_toArray, List.set_cons_zero, List.set_cons_succ]
    refine anyN_take 1 (v := ?_) rfl (by kernel_rfl) (by kernel_rfl) (by kernel_rfl) (by kernel_rfl) (by kernel_rfl) (fun _ _ _ h => h) (Or.inl ⟨by rfl, ?_⟩) (by assumption) ?_
    rotate_left
    · intro w hSw
      obtain ⟨_, _, _⟩ := hSw
      go_simp
      try with_reducible rfl
    simp only [Act.put, List.setIfInBounds_toArray, List.set_cons_zero, List.set_cons_succ]
    refine anyN_take 2 (v := ?_) rfl (by kernel_rfl) (by kernel_rfl) (by kernel_rfl) (by kernel_rfl) (by kernel_rfl) (fun _ _ _ h => h) (Or.inl ⟨by rfl, ?_⟩) (by assumption) ?_
    rotate_left
    · intro w hSw
      obtain ⟨_, _, _⟩ := hSw
      go_simp
      try with_reducible rfl
    simp only [Act.put, List.setIfInBounds_toArray, List.set_cons_zero, List.set_cons_succ]
    refine anyN_take 3 (v := ?_) rfl (by kernel_rfl) (by kernel_rfl) (by kernel_rfl) (by kernel_rfl) (by kernel_rfl) (fun _ _ _ h => h) (Or.inl ⟨by rfl, ?_⟩) (by assumption) ?_
    rotate_left
    · intro w hSw
      obtain ⟨_, _, _⟩ := hSw
      go_simp
      try with_reducible rfl
    simp only [Act.put, List.setIfInBounds_toArray, List.set_cons_zero, List.set_cons_succ]
    refine anyN_take 4 (v := ?_) rfl (by kernel_rfl) (by kernel_rfl) (by kernel_rfl) (by kernel_rfl) (by kernel_rfl) (fun _ _ _ h => h) (Or.inl ⟨by rfl, ?_⟩) (by assumption) ?_
    rotate_left
    · intro w hSw
      obtain ⟨_, _, _⟩ := hSw
      go_simp
      try with_reducible rfl
    simp only [Act.put, List.setIfInBounds_toArray, List.set_cons_zero, List.set_cons_succ]
    refine anyN_two 5 9 rfl rfl (by kernel_rfl) rfl rfl ?_ ?_
    · go_simp
      (with_reducible refine (H2 _ hg.out).out.mono ?_)
      rintro e wv1 ⟨rfl, hg1⟩
      have k1 := hg1.kp
      replace X := X.kp k1
      replace Y := Y.kp k1
      replace hg := Lib.hid (hg.out.trans hg1)
      clear k1 hg1
      dsimp only
      refine and_keep ⟨X.c0, X.c1, X.c2⟩ (fun hS => ?_)
      refine anyN_take 6 (v := ?_) rfl (by kernel_rfl) (by kernel_rfl) (by kernel_rfl) (by kernel_rfl) (by kernel_rfl) (fun _ _ _ h => h) (Or.inl ⟨by rfl, ?_⟩) (by assumption) ?_
      rotate_left
      · intro w hSw
        obtain ⟨_, _, _⟩ := hSw
        go_simp
        try with_reducible rfl
      simp only [Act.put, List.setIfInBounds_toArray, List.set_cons_zero, List.set_cons_succ]
      refine anyN_take 7 (v := ?_) rfl (by kernel_rfl) (by kernel_rfl) (by kernel_rfl) (by kernel_rfl) (by kernel_rfl) (fun _ _ _ h => h) (Or.inl ⟨by rfl, ?_⟩) (by assumption) ?_
      rotate_left
      · intro w hSw
        obtain ⟨_, _, _⟩ := hSw
        go_simp
        try with_reducible rfl
      simp only [Act.put, List.setIfInBounds_toArray, List.set_cons_zero, List.set_cons_succ]
      refine anyN_take 8 (v := ?_) rfl (by kernel_rfl) (by kernel_rfl) (by kernel_rfl) (by kernel_rfl) (by kernel_rfl) (fun _ _ _ h => h) (Or.inl ⟨by rfl, ?_⟩) (by assumption) ?_
      rotate_left
      · intro w hSw
        obtain ⟨_, _, _⟩ := hSw
        go_simp
        try with_reducible rfl
      simp only [Act.put, List.setIfInBounds_toArray, List.set_cons_zero, List.set_cons_succ]
      refine anyN_one 9 rfl (by kernel_rfl) rfl ?_
      go_simp
      have ne_H_X : wv1.heap.size ≠ W.heap.size := Nat.ne_of_gt X.lt
      have ne_H_Y : wv1.heap.size ≠ bY := Nat.ne_of_gt Y.lt
      have le_H : W.heap.size ≤ wv1.heap.size := hg.out.kp.size
      have H := C3.new wv1 (.int .u64 0) (.int .u32 0) (.int .u32 0) 25
      have FH := Fz.new wv1 #[.int .u64 0, .int .u32 0, .int .u32 0] 25
      replace X := X.alloc (.cells #[.int .u64 0, .int .u32 0, .int .u32 0] 25)
      replace Y := Y.alloc (.cells #[.int .u64 0, .int .u32 0, .int .u32 0] 25)
      replace hg := Lib.hid (hg.out.alloc (.cells #[.int .u64 0, .int .u32 0, .int .u32 0] 25))
      generalize wv1.alloc (.cells #[.int .u64 0, .int .u32 0, .int .u32 0] 25) = wa2 at *
      generalize wv1.heap.size = bH at *
      refine and_keep ⟨X.c0, X.c1, X.c2⟩ (fun hS => ?_)
      have H_0 := H.c0
      have H_1 := H.c1
      have H_2 := H.c2
      have FH_2 := FH.2
      refine anyN_one 10 rfl (by kernel_rfl) rfl ?_
      go_simp
      clear H_0 H_1 H_2 FH_2
      replace X := X.far3 ne_H_X (.int .u64 p1) (.int .u32 q1) (.int .u32 M)
      replace Y := Y.far3 ne_H_Y (.int .u64 p1) (.int .u32 q1) (.int .u32 M)
      replace H := H.set (.int .u64 p1) (.int .u32 q1) (.int .u32 M)
      replace FH := FH.set3 ⟨bH, 0, none⟩ ⟨bH, 1, none⟩ ⟨bH, 2, none⟩ (.int .u64 p1) (.int .u32 q1) (.int .u32 M)
      replace hg := Lib.hid (hg.out.set3 (B := bH) le_H (.int .u64 p1) (.int .u32 q1) (.int .u32 M))
      generalize World.setCell _ _ _ = ws3 at *
      try refine and_keep ⟨X.c0, X.c1, X.c2⟩ (fun hS => ?_)
      refine anyN_one 11 rfl (by kernel_rfl) rfl ?_
      go_simp
      refine anyN_done (by kernel_rfl) ?_
      clear hS
      go_wp2_with fail
      go_meet
      case rel => exact ⟨_, rfl, rfl, H, X, Y, hg.out⟩
    · go_simp
      have ne_H_X : w4.heap.size ≠ W.heap.size := Nat.ne_of_gt X.lt
      have ne_H_Y : w4.heap.size ≠ bY := Nat.ne_of_gt Y.lt
      have le_H : W.heap.size ≤ w4.heap.size := hg.out.kp.size
      have H := C3.new w4 (.int .u64 0) (.int .u32 0) (.int .u32 0) 25
      have FH := Fz.new w4 #[.int .u64 0, .int .u32 0, .int .u32 0] 25
      replace X := X.alloc (.cells #[.int .u64 0, .int .u32 0, .int .u32 0] 25)
      replace Y := Y.alloc (.cells #[.int .u64 0, .int .u32 0, .int .u32 0] 25)
      replace hg := Lib.hid (hg.out.alloc (.cells #[.int .u64 0, .int .u32 0, .int .u32 0] 25))
      generalize w4.alloc (.cells #[.int .u64 0, .int .u32 0, .int .u32 0] 25) = wa4 at *
      generalize w4.heap.size = bH at *
      refine and_keep ⟨X.c0, X.c1, X.c2⟩ (fun hS => ?_)
      refine anyN_one 5 rfl (by kernel_rfl) rfl ?_
      go_simp
      (with_reducible refine (H2 _ hg.out).out.mono ?_)
      rintro e wv5 ⟨rfl, hg1⟩
      have k1 := hg1.kp
      replace X := X.kp k1
      replace Y := Y.kp k1
      replace H := H.kp k1
      replace FH := FH.kp k1
      replace hg := Lib.hid (hg.out.trans hg1)
      clear k1 hg1
      dsimp only
      refine and_keep ⟨X.c0, X.c1, X.c2⟩ (fun hS => ?_)
      refine anyN_take 6 (v := ?_) rfl (by kernel_rfl) (by kernel_rfl) (by kernel_rfl) (by kernel_rfl) (by kernel_rfl) (fun _ _ _ h => h) (Or.inl ⟨by rfl, ?_⟩) (by assumption) ?_
      rotate_left
      · intro w hSw
        obtain ⟨_, _, _⟩ := hSw
        go_simp
        try with_reducible rfl
      simp only [Act.put, List.setIfInBounds_toArray, List.set_cons_zero, List.set_cons_succ]
      refine anyN_take 7 (v := ?_) rfl (by kernel_rfl) (by kernel_rfl) (by kernel_rfl) (by kernel_rfl) (by kernel_rfl) (fun _ _ _ h => h) (Or.inl ⟨by rfl, ?_⟩) (by assumption) ?_
      rotate_left
      · intro w hSw
        obtain ⟨_, _, _⟩ := hSw
        go_simp
        try with_reducible rfl
      simp only [Act.put, List.setIfInBounds_toArray, List.set_cons_zero, List.set_cons_succ]
      refine anyN_take 8 (v := ?_) rfl (by kernel_rfl) (by kernel_rfl) (by kernel_rfl) (by kernel_rfl) (by kernel_rfl) (fun _ _ _ h => h) (Or.inl ⟨by rfl, ?_⟩) (by assumption) ?_
      rotate_left
      · intro w hSw
        obtain ⟨_, _, _⟩ := hSw
        go_simp
        try with_reducible rfl
      simp only [Act.put, List.setIfInBounds_toArray, List.set_cons_zero, List.set_cons_succ]
      have H_0 := H.c0
      have H_1 := H.c1
      have H_2 := H.c2
      have FH_2 := FH.2
      refine anyN_one 10 rfl (by kernel_rfl) rfl ?_
      go_simp
      clear H_0 H_1 H_2 FH_2
      replace X := X.far3 ne_H_X (.int .u64 p1) (.int .u32 q1) (.int .u32 M)
      replace Y := Y.far3 ne_H_Y (.int .u64 p1) (.int .u32 q1) (.int .u32 M)
      replace H := H.set (.int .u64 p1) (.int .u32 q1) (.int .u32 M)
      replace FH := FH.set3 ⟨bH, 0, none⟩ ⟨bH, 1, none⟩ ⟨bH, 2, none⟩ (.int .u64 p1) (.int .u32 q1) (.int .u32 M)
      replace hg := Lib.hid (hg.out.set3 (B := bH) le_H (.int .u64 p1) (.int .u32 q1) (.int .u32 M))
      generalize World.setCell _ _ _ = ws6 at *
      try refine and_keep ⟨X.c0, X.c1, X.c2⟩ (fun hS => ?_)
      refine anyN_one 11 rfl (by kernel_rfl) rfl ?_
      go_simp
      refine anyN_done (by kernel_rfl) ?_
      clear hS
      go_wp2_with fail
      go_meet
      case rel => exact ⟨_, rfl, rfl, H, X, Y, hg.out⟩
  case rest =>
  obtain ⟨bH, rfl, rfl, H, X', Y', hg'⟩ := hcut
  clear hg X Y
  have hg := Lib.hid hg'
  clear hg'
  have X := X'
  clear X'
  have Y := Y'
  clear Y'
  have hkc3 : cap ≠ k := by omega
  go_upto_region 12 with fail
  go_cut [12, 13] from 62 to 69 (fun p e w' => ∃ B : Nat, p = .pointer (some ⟨B, 0, none⟩) ∧ e = .int .i64 0 ∧ C3 w' B (.int .u64 p2) (.int .u32 q2) (.int .u32 M) ∧ C3 w' W.heap.size (.int .u64 v) (.int .u32 R) (.int .u32 M) ∧ C3 w' bY (.int .u64 p2) (.int .u32 q2) (.int .u32 M) ∧ C3 w' bH (.int .u64 p1) (.int .u32 q1) (.int .u32 M) ∧ GrewS W w')
  case first =>
    refine wp_region_anyN (fun w' => w'.cell? ⟨bH, 0, none⟩ = some (.int .u64 p1) ∧ w'.cell? ⟨bH, 1, none⟩ = some (.int .u32 q1) ∧ w'.cell? ⟨bH, 2, none⟩ = some (.int .u32 M)) 10 (by kernel_rfl) ?_
    replace X := X.drew
    replace Y := Y.drew
    replace H := H.drew
    replace hg := Lib.hid hg.out.drew
    generalize wc.drew = wc at *
    have hS : wc.cell? ⟨bH, 0, none⟩ = some (.int .u64 p1) ∧ wc.cell? ⟨bH, 1, none⟩ = some (.int .u32 q1) ∧ wc.cell? ⟨bH, 2, none⟩ = some (.int .u32 M) := ⟨H.c0, H.c1, H.c2⟩
    refine anyN_take 0 (v := ?_) rfl (by kernel_rfl) (by kernel_rfl) (by kernel_rfl) (by kernel_rfl) (by kernel_rfl) (fun _ _ _ h => h) (Or.inl ⟨by rfl, ?_⟩) (by assumption) ?_
    rotate_left
    · intro w hSw
      obtain ⟨_, _, _⟩ := hSw
      go_simp
      try with_reducible rfl
    simp only [Act.put, List.setIfInBounds_toArray, List.set_cons_zero, List.set_cons_succ]
    refine anyN_take 1 (v := ?_) rfl (by kernel_rfl) (by kernel_rfl) (by kernel_rfl) (by kernel_rfl) (by kernel_rfl) (fun _ _ _ h => h) (Or.inl ⟨by rfl, ?_⟩) (by assumption) ?_
    rotate_left
    · intro w hSw
      obtain ⟨_, _, _⟩ := hSw
      go_simp
      try with_reducible rfl
    simp only [Act.put, List.setIfInBounds_toArray, List.set_cons_zero, List.set_cons_succ]
    refine anyN_take 2 (v := ?_) rfl (by kernel_rfl) (by kernel_rfl) (by kernel_rfl) (by kernel_rfl) (by kernel_rfl) (fun _ _ _ h => h) (Or.inl ⟨by rfl, ?_⟩) (by assumption) ?_
    rotate_left
    · intro w hSw
      obtain ⟨_, _, _⟩ := hSw
      go_simp
      try with_reducible rfl
    simp only [Act.put, List.setIfInBounds_toArray, List.set_cons_zero, List.set_cons_succ]
    refine anyN_take 3 (v := ?_) rfl (by kernel_rfl) (by kernel_rfl) (by kernel_rfl) (by kernel_rfl) (by kernel_rfl) (fun _ _ _ h => h) (Or.inl ⟨by rfl, ?_⟩) (by assumption) ?_
    rotate_left
    · intro w hSw
      obtain ⟨_, _, _⟩ := hSw
      go_simp
      try with_reducible rfl
    simp only [Act.put, List.setIfInBounds_toArray, List.set_cons_zero, List.set_cons_succ]
    refine anyN_two 4 8 rfl rfl (by kernel_rfl) rfl rfl ?_ ?_
    · go_simp
      (with_reducible refine (H3 _ hg.out).out.mono ?_)
      rintro e wv1 ⟨rfl, hg1⟩
      have k1 := hg1.kp
      replace X := X.kp k1
      replace Y := Y.kp k1
      replace H := H.kp k1
      replace hg := Lib.hid (hg.out.trans hg1)
      clear k1 hg1
      dsimp only
      refine and_keep ⟨H.c0, H.c1, H.c2⟩ (fun hS => ?_)
      refine anyN_take 5 (v := ?_) rfl (by kernel_rfl) (by kernel_rfl) (by kernel_rfl) (by kernel_rfl) (by kernel_rfl) (fun _ _ _ h => h) (Or.inl ⟨by rfl, ?_⟩) (by assumption) ?_
      rotate_left
      · intro w hSw
        obtain ⟨_, _, _⟩ := hSw
        go_simp
        try with_reducible rfl
      simp only [Act.put, List.setIfInBounds_toArray, List.set_cons_zero, List.set_cons_succ]
      refine anyN_take 6 (v := ?_) rfl (by kernel_rfl) (by kernel_rfl) (by kernel_rfl) (by kernel_rfl) (by kernel_rfl) (fun _ _ _ h => h) (Or.inl ⟨by rfl, ?_⟩) (by assumption) ?_
      rotate_left
      · intro w hSw
        obtain ⟨_, _, _⟩ := hSw
        go_simp
        try with_reducible rfl
      simp only [Act.put, List.setIfInBounds_toArray, List.set_cons_zero, List.set_cons_succ]
      refine anyN_take 7 (v := ?_) rfl (by kernel_rfl) (by kernel_rfl) (by kernel_rfl) (by kernel_rfl) (by kernel_rfl) (fun _ _ _ h => h) (Or.inl ⟨by rfl, ?_⟩) (by assumption) ?_
      rotate_left
      · intro w hSw
        obtain ⟨_, _, _⟩ := hSw
        go_simp
        try with_reducible rfl
      simp only [Act.put, List.setIfInBounds_toArray, List.set_cons_zero, List.set_cons_succ]
      refine anyN_one 8 rfl (by kernel_rfl) rfl ?_
      go_simp
      have ne_T_X : wv1.heap.size ≠ W.heap.size := Nat.ne_of_gt X.lt
      have ne_T_Y : wv1.heap.size ≠ bY := Nat.ne_of_gt Y.lt
      have ne_T_H : wv1.heap.size ≠ bH := Nat.ne_of_gt H.lt
      have le_T : W.heap.size ≤ wv1.heap.size := hg.out.kp.size
      have T := C3.new wv1 (.int .u64 0) (.int .u32 0) (.int .u32 0) 25
      have FT := Fz.new wv1 #[.int .u64 0, .int .u32 0, .int .u32 0] 25
      replace X := X.alloc (.cells #[.int .u64 0, .int .u32 0, .int .u32 0] 25)
      replace Y := Y.alloc (.cells #[.int .u64 0, .int .u32 0, .int .u32 0] 25)
      replace H := H.alloc (.cells #[.int .u64 0, .int .u32 0, .int .u32 0] 25)
      replace hg := Lib.hid (hg.out.alloc (.cells #[.int .u64 0, .int .u32 0, .int .u32 0] 25))
      generalize wv1.alloc (.cells #[.int .u64 0, .int .u32 0, .int .u32 0] 25) = wa2 at *
      generalize wv1.heap.size = bT at *
      refine and_keep ⟨H.c0, H.c1, H.c2⟩ (fun hS => ?_)
      have T_0 := T.c0
      have T_1 := T.c1
      have T_2 := T.c2
      have FT_2 := FT.2
      refine anyN_one 9 rfl (by kernel_rfl) rfl ?_
      go_simp
      clear T_0 T_1 T_2 FT_2
      replace X := X.far3 ne_T_X (.int .u64 p2) (.int .u32 q2) (.int .u32 M)
      replace Y := Y.far3 ne_T_Y (.int .u64 p2) (.int .u32 q2) (.int .u32 M)
      replace H := H.far3 ne_T_H (.int .u64 p2) (.int .u32 q2) (.int .u32 M)
      replace T := T.set (.int .u64 p2) (.int .u32 q2) (.int .u32 M)
      replace FT := FT.set3 ⟨bT, 0, none⟩ ⟨bT, 1, none⟩ ⟨bT, 2, none⟩ (.int .u64 p2) (.int .u32 q2) (.int .u32 M)
      replace hg := Lib.hid (hg.out.set3 (B := bT) le_T (.int .u64 p2) (.int .u32 q2) (.int .u32 M))
      generalize World.setCell _ _ _ = ws3 at *
      try refine and_keep ⟨H.c0, H.c1, H.c2⟩ (fun hS => ?_)
      refine anyN_one 10 rfl (by kernel_rfl) rfl ?_
      go_simp
      refine anyN_done (by kernel_rfl) ?_
      clear hS
      go_wp2_with fail
      go_meet
      case rel => exact ⟨_, rfl, rfl, T, X, Y, H, hg.out⟩
    · go_simp
      have ne_T_X : wc.heap.size ≠ W.heap.size := Nat.ne_of_gt X.lt
      have ne_T_Y : wc.heap.size ≠ bY := Nat.ne_of_gt Y.lt
      have ne_T_H : wc.heap.size ≠ bH := Nat.ne_of_gt H.lt
      have le_T : W.heap.size ≤ wc.heap.size := hg.out.kp.size
      have T := C3.new wc (.int .u64 0) (.int .u32 0) (.int .u32 0) 25
      have FT := Fz.new wc #[.int .u64 0, .int .u32 0, .int .u32 0] 25
      replace X := X.alloc (.cells #[.int .u64 0, .int .u32 0, .int .u32 0] 25)
      replace Y := Y.alloc (.cells #[.int .u64 0, .int .u32 0, .int .u32 0] 25)
      replace H := H.alloc (.cells #[.int .u64 0, .int .u32 0, .int .u32 0] 25)
      replace hg := Lib.hid (hg.out.alloc (.cells #[.int .u64 0, .int .u32 0, .int .u32 0] 25))
      generalize wc.alloc (.cells #[.int .u64 0, .int .u32 0, .int .u32 0] 25) = wa4 at *
      generalize wc.heap.size = bT at *
      refine and_keep ⟨H.c0, H.c1, H.c2⟩ (fun hS => ?_)
      refine anyN_one 4 rfl (by kernel_rfl) rfl ?_
      go_simp
      (with_reducible refine (H3 _ hg.out).out.mono ?_)
      rintro e wv5 ⟨rfl, hg1⟩
      have k1 := hg1.kp
      replace X := X.kp k1
      replace Y := Y.kp k1
      replace H := H.kp k1
      replace T := T.kp k1
      replace FT := FT.kp k1
      replace hg := Lib.hid (hg.out.trans hg1)
      clear k1 hg1
      dsimp only
      refine and_keep ⟨H.c0, H.c1, H.c2⟩ (fun hS => ?_)
      refine anyN_take 5 (v := ?_) rfl (by kernel_rfl) (by kernel_rfl) (by kernel_rfl) (by kernel_rfl) (by kernel_rfl) (fun _ _ _ h => h) (Or.inl ⟨by rfl, ?_⟩) (by assumption) ?_
      rotate_left
      · intro w hSw
        obtain ⟨_, _, _⟩ := hSw
        go_simp
        try with_reducible rfl
      simp only [Act.put, List.setIfInBounds_toArray, List.set_cons_zero, List.set_cons_succ]
      refine anyN_take 6 (v := ?_) rfl (by kernel_rfl) (by kernel_rfl) (by kernel_rfl) (by kernel_rfl) (by kernel_rfl) (fun _ _ _ h => h) (Or.inl ⟨by rfl, ?_⟩) (by assumption) ?_
      rotate_left
      · intro w hSw
        obtain ⟨_, _, _⟩ := hSw
        go_simp
        try with_reducible rfl
      simp only [Act.put, List.setIfInBounds_toArray, List.set_cons_zero, List.set_cons_succ]
      refine anyN_take 7 (v := ?_) rfl (by kernel_rfl) (by kernel_rfl) (by kernel_rfl) (by kernel_rfl) (by kernel_rfl) (fun _ _ _ h => h) (Or.inl ⟨by rfl, ?_⟩) (by assumption) ?_
      rotate_left
      · intro w hSw
        obtain ⟨_, _, _⟩ := hSw
        go_simp
        try with_reducible rfl
      simp only [Act.put, List.setIfInBounds_toArray, List.set_cons_zero, List.set_cons_succ]
      have T_0 := T.c0
      have T_1 := T.c1
      have T_2 := T.c2
      have FT_2 := FT.2
      refine anyN_one 9 rfl (by kernel_rfl) rfl ?_
      go_simp
      clear T_0 T_1 T_2 FT_2
      replace X := X.far3 ne_T_X (.int .u64 p2) (.int .u32 q2) (.int .u32 M)
      replace Y := Y.far3 ne_T_Y (.int .u64 p2) (.int .u32 q2) (.int .u32 M)
      replace H := H.far3 ne_T_H (.int .u64 p2) (.int .u32 q2) (.int .u32 M)
      replace T := T.set (.int .u64 p2) (.int .u32 q2) (.int .u32 M)
      replace FT := FT.set3 ⟨bT, 0, none⟩ ⟨bT, 1, none⟩ ⟨bT, 2, none⟩ (.int .u64 p2) (.int .u32 q2) (.int .u32 M)
      replace hg := Lib.hid (hg.out.set3 (B := bT) le_T (.int .u64 p2) (.int .u32 q2) (.int .u32 M))
      generalize World.setCell _ _ _ = ws6 at *
      try refine and_keep ⟨H.c0, H.c1, H.c2⟩ (fun hS => ?_)
      refine anyN_one 10 rfl (by kernel_rfl) rfl ?_
      go_simp
      refine anyN_done (by kernel_rfl) ?_
      clear hS
      go_wp2_with fail
      go_meet
      case rel => exact ⟨_, rfl, rfl, T, X, Y, H, hg.out⟩
  case rest =>
  obtain ⟨bT, rfl, rfl, T, X', Y', H', hg'⟩ := hcut
  clear hg X Y H
  have hg := Lib.hid hg'
  clear hg'
  have X := X'
  clear X'
  have Y := Y'
  clear Y'
  have H := H'
  clear H'
  clear hkc hkc2 hk3 hkw hkc3
  have Z : At wc ⟨bb, off, none⟩ (.int .u64 z) := ⟨(hg.out.kp.cell (p := ⟨bb, off, none⟩) hbb).trans C0.out, Nat.lt_of_lt_of_le hbb hg.out.kp.size⟩
  have neX : W.heap.size ≠ bb := Nat.ne_of_gt hbb
  have hn0 : 0 < n := by omega
  have hnlt : (n : Int) - 1 < n := by omega
  go_upto_region 13 with fail
  go_cut [14, 15] from 70 to 77 (fun p e w' => ∃ B : Nat, p = .pointer (some ⟨B, 0, none⟩) ∧ e = .int .i64 0 ∧ C4 w' B (.bool ob) (.int .u64 oy) (.int .u32 R) (.int .u32 M) ∧ C3 w' W.heap.size (.int .u64 v) (.int .u32 R) (.int .u32 M) ∧ C3 w' bY (.int .u64 p2) (.int .u32 q2) (.int .u32 M) ∧ C3 w' bH (.int .u64 p1) (.int .u32 q1) (.int .u32 M) ∧ C3 w' bT (.int .u64 p2) (.int .u32 q2) (.int .u32 M) ∧ GrewS W w')
  case first =>
    refine wp_region_anyN (fun w' => w'.cell? ⟨W.heap.size, 0, none⟩ = some (.int .u64 v) ∧ w'.cell? ⟨W.heap.size, 1, none⟩ = some (.int .u32 R) ∧ w'.cell? ⟨W.heap.size, 2, none⟩ = some (.int .u32 M) ∧ w'.cell? ⟨bb, off, none⟩ = some (.int .u64 z)) 10 (by kernel_rfl) ?_
    replace X := X.drew
    replace Y := Y.drew
    replace H := H.drew
    replace T := T.drew
    replace Z := Z.drew
    replace hg := Lib.hid hg.out.drew
    generalize wc.drew = wc at *
    have hS : wc.cell? ⟨W.heap.size, 0, none⟩ = some (.int .u64 v) ∧ wc.cell? ⟨W.heap.size, 1, none⟩ = some (.int .u32 R) ∧ wc.cell? ⟨W.heap.size, 2, none⟩ = some (.int .u32 M) ∧ wc.cell? ⟨bb, off, none⟩ = some (.int .u64 z) := ⟨X.c0, X.c1, X.c2, Z.1⟩
    refine anyN_take 0 (v := ?_) rfl (by kernel_rfl) (by kernel_rfl) (by kernel_rfl) (by kernel_rfl) (by kernel_rfl) (fun _ _ _ h => h) (Or.inl ⟨by rfl, ?_⟩) (by assumption) ?_
    rotate_left
    · intro w hSw
      obtain ⟨_, _, _, _⟩ := hSw
      go_simp
      try with_reducible rfl
    simp only [Act.put, List.setIfInBounds_toArray, List.set_cons_zero, List.set_cons_succ]
    refine anyN_take 1 (v := ?_) rfl (by kernel_rfl) (by kernel_rfl) (by kernel_rfl) (by kernel_rfl) (by kernel_rfl) (fun _ _ _ h => h) (Or.inl ⟨by rfl, ?_⟩) (by assumption) ?_
    rotate_left
    · intro w hSw
      obtain ⟨_, _, _, _⟩ := hSw
      go_simp
      try with_reducible rfl
    simp only [Act.put, List.setIfInBounds_toArray, List.set_cons_zero, List.set_cons_succ]
    refine anyN_take 2 (v := ?_) rfl (by kernel_rfl) (by kernel_rfl) (by kernel_rfl) (by kernel_rfl) (by kernel_rfl) (fun _ _ _ h => h) (Or.inl ⟨by rfl, ?_⟩) (by assumption) ?_
    rotate_left
    · intro w hSw
      obtain ⟨_, _, _, _⟩ := hSw
      go_simp
      try with_reducible rfl
    simp only [Act.put, List.setIfInBounds_toArray, List.set_cons_zero, List.set_cons_succ]
    refine anyN_take 3 (v := ?_) rfl (by kernel_rfl) (by kernel_rfl) (by kernel_rfl) (by kernel_rfl) (by kernel_rfl) (fun _ _ _ h => h) (Or.inl ⟨by rfl, ?_⟩) (by assumption) ?_
    rotate_left
    · intro w hSw
      obtain ⟨_, _, _, _⟩ := hSw
      go_simp
      try with_reducible rfl
    simp only [Act.put, List.setIfInBounds_toArray, List.set_cons_zero, List.set_cons_succ]
    refine anyN_two 4 8 rfl rfl (by kernel_rfl) rfl rfl ?_ ?_
    · go_simp
      (with_reducible refine (H4 _).out.mono ?_)
      rintro e wv1 ⟨rfl, hg1⟩
      have k1 := hg1.kp
      replace X := X.kp k1
      replace Y := Y.kp k1
      replace H := H.kp k1
      replace T := T.kp k1
      replace Z := Z.kp k1
      replace hg := Lib.hid (hg.out.trans hg1)
      clear k1 hg1
      dsimp only
      refine and_keep ⟨X.c0, X.c1, X.c2, Z.1⟩ (fun hS => ?_)
      refine anyN_take 5 (v := ?_) rfl (by kernel_rfl) (by kernel_rfl) (by kernel_rfl) (by kernel_rfl) (by kernel_rfl) (fun _ _ _ h => h) (Or.inl ⟨by rfl, ?_⟩) (by assumption) ?_
      rotate_left
      · intro w hSw
        obtain ⟨_, _, _, _⟩ := hSw
        go_simp
        try with_reducible rfl
      simp only [Act.put, List.setIfInBounds_toArray, List.set_cons_zero, List.set_cons_succ]
      refine anyN_take 6 (v := ?_) rfl (by kernel_rfl) (by kernel_rfl) (by kernel_rfl) (by kernel_rfl) (by kernel_rfl) (fun _ _ _ h => h) (Or.inl ⟨by rfl, ?_⟩) (by assumption) ?_
      rotate_left
      · intro w hSw
        obtain ⟨_, _, _, _⟩ := hSw
        go_simp
        try with_reducible rfl
      simp only [Act.put, List.setIfInBounds_toArray, List.set_cons_zero, List.set_cons_succ]
      refine anyN_take 7 (v := ?_) rfl (by kernel_rfl) (by kernel_rfl) (by kernel_rfl) (by kernel_rfl) (by kernel_rfl) (fun _ _ _ h => h) (Or.inl ⟨by rfl, ?_⟩) (by assumption) ?_
      rotate_left
      · intro w hSw
        obtain ⟨_, _, _, _⟩ := hSw
        go_simp
        try with_reducible rfl
      simp only [Act.put, List.setIfInBounds_toArray, List.set_cons_zero, List.set_cons_succ]
      refine anyN_one 8 rfl (by kernel_rfl) rfl ?_
      go_simp
      have ne_O_X : wv1.heap.size ≠ W.heap.size := Nat.ne_of_gt X.lt
      have ne_O_Y : wv1.heap.size ≠ bY := Nat.ne_of_gt Y.lt
      have ne_O_H : wv1.heap.size ≠ bH := Nat.ne_of_gt H.lt
      have ne_O_T : wv1.heap.size ≠ bT := Nat.ne_of_gt T.lt
      have ne_O_Z : wv1.heap.size ≠ bb := Nat.ne_of_gt Z.2
      have le_O : W.heap.size ≤ wv1.heap.size := hg.out.kp.size
      have O := C4.new wv1 (.bool false) (.int .u64 0) (.int .u32 0) (.int .u32 0) 56
      have FO := Fz.new wv1 #[.bool false, .int .u64 0, .int .u32 0, .int .u32 0] 56
      replace X := X.alloc (.cells #[.bool false, .int .u64 0, .int .u32 0, .int .u32 0] 56)
      replace Y := Y.alloc (.cells #[.bool false, .int .u64 0, .int .u32 0, .int .u32 0] 56)
      replace H := H.alloc (.cells #[.bool false, .int .u64 0, .int .u32 0, .int .u32 0] 56)
      replace T := T.alloc (.cells #[.bool false, .int .u64 0, .int .u32 0, .int .u32 0] 56)
      replace Z := Z.alloc (.cells #[.bool false, .int .u64 0, .int .u32 0, .int .u32 0] 56)
      replace hg := Lib.hid (hg.out.alloc (.cells #[.bool false, .int .u64 0, .int .u32 0, .int .u32 0] 56))
      generalize wv1.alloc (.cells #[.bool false, .int .u64 0, .int .u32 0, .int .u32 0] 56) = wa2 at *
      generalize wv1.heap.size = bO at *
      refine and_keep ⟨X.c0, X.c1, X.c2, Z.1⟩ (fun hS => ?_)
      have O_0 := O.c0
      have O_1 := O.c1
      have O_2 := O.c2
      have O_3 := O.c3
      have FO_2 := FO.2
      refine anyN_one 9 rfl (by kernel_rfl) rfl ?_
      go_simp
      clear O_0 O_1 O_2 O_3 FO_2
      replace X := X.far4 ne_O_X (.bool ob) (.int .u64 oy) (.int .u32 R) (.int .u32 M)
      replace Y := Y.far4 ne_O_Y (.bool ob) (.int .u64 oy) (.int .u32 R) (.int .u32 M)
      replace H := H.far4 ne_O_H (.bool ob) (.int .u64 oy) (.int .u32 R) (.int .u32 M)
      replace T := T.far4 ne_O_T (.bool ob) (.int .u64 oy) (.int .u32 R) (.int .u32 M)
      replace Z := Z.far4 (B := bO) ne_O_Z (.bool ob) (.int .u64 oy) (.int .u32 R) (.int .u32 M)
      replace O := O.set (.bool ob) (.int .u64 oy) (.int .u32 R) (.int .u32 M)
      replace FO := (FO.set3 ⟨bO, 0, none⟩ ⟨bO, 1, none⟩ ⟨bO, 2, none⟩ (.bool ob) (.int .u64 oy) (.int .u32 R)).set ⟨bO, 3, none⟩ (.int .u32 M)
      replace hg := Lib.hid (hg.out.set4 (B := bO) le_O (.bool ob) (.int .u64 oy) (.int .u32 R) (.int .u32 M))
      generalize World.setCell _ _ _ = ws3 at *
      try refine and_keep ⟨X.c0, X.c1, X.c2, Z.1⟩ (fun hS => ?_)
      refine anyN_one 10 rfl (by kernel_rfl) rfl ?_
      go_simp
      refine anyN_done (by kernel_rfl) ?_
      clear hS
      go_wp2_with fail
      go_meet
      case rel => exact ⟨_, rfl, rfl, O, X, Y, H, T, hg.out⟩
    · go_simp
      have ne_O_X : wc.heap.size ≠ W.heap.size := Nat.ne_of_gt X.lt
      have ne_O_Y : wc.heap.size ≠ bY := Nat.ne_of_gt Y.lt
      have ne_O_H : wc.heap.size ≠ bH := Nat.ne_of_gt H.lt
      have ne_O_T : wc.heap.size ≠ bT := Nat.ne_of_gt T.lt
      have ne_O_Z : wc.heap.size ≠ bb := Nat.ne_of_gt Z.2
      have le_O : W.heap.size ≤ wc.heap.size := hg.out.kp.size
      have O := C4.new wc (.bool false) (.int .u64 0) (.int .u32 0) (.int .u32 0) 56
      have FO := Fz.new wc #[.bool false, .int .u64 0, .int .u32 0, .int .u32 0] 56
      replace X := X.alloc (.cells #[.bool false, .int .u64 0, .int .u32 0, .int .u32 0] 56)
      replace Y := Y.alloc (.cells #[.bool false, .int .u64 0, .int .u32 0, .int .u32 0] 56)
      replace H := H.alloc (.cells #[.bool false, .int .u64 0, .int .u32 0, .int .u32 0] 56)
      replace T := T.alloc (.cells #[.bool false, .int .u64 0, .int .u32 0, .int .u32 0] 56)
      replace Z := Z.alloc (.cells #[.bool false, .int .u64 0, .int .u32 0, .int .u32 0] 56)
      replace hg := Lib.hid (hg.out.alloc (.cells #[.bool false, .int .u64 0, .int .u32 0, .int .u32 0] 56))
      generalize wc.alloc (.cells #[.bool false, .int .u64 0, .int .u32 0, .int .u32 0] 56) = wa4 at *
      generalize wc.heap.size = bO at *
      refine and_keep ⟨X.c0, X.c1, X.c2, Z.1⟩ (fun hS => ?_)
      refine anyN_one 4 rfl (by kernel_rfl) rfl ?_
      go_simp
      (with_reducible refine (H4 _).out.mono ?_)
      rintro e wv5 ⟨rfl, hg1⟩
      have k1 := hg1.kp
      replace X := X.kp k1
      replace Y := Y.kp k1
      replace H := H.kp k1
      replace T := T.kp k1
      replace Z := Z.kp k1
      replace O := O.kp k1
      replace FO := FO.kp k1
      replace hg := Lib.hid (hg.out.trans hg1)
      clear k1 hg1
      dsimp only
      refine and_keep ⟨X.c0, X.c1, X.c2, Z.1⟩ (fun hS => ?_)
      refine anyN_take 5 (v := ?_) rfl (by kernel_rfl) (by kernel_rfl) (by kernel_rfl) (by kernel_rfl) (by kernel_rfl) (fun _ _ _ h => h) (Or.inl ⟨by rfl, ?_⟩) (by assumption) ?_
      rotate_left
      · intro w hSw
        obtain ⟨_, _, _, _⟩ := hSw
        go_simp
        try with_reducible rfl
      simp only [Act.put, List.setIfInBounds_toArray, List.set_cons_zero, List.set_cons_succ]
      refine anyN_take 6 (v := ?_) rfl (by kernel_rfl) (by kernel_rfl) (by kernel_rfl) (by kernel_rfl) (by kernel_rfl) (fun _ _ _ h => h) (Or.inl ⟨by rfl, ?_⟩) (by assumption) ?_
      rotate_left
      · intro w hSw
        obtain ⟨_, _, _, _⟩ := hSw
        go_simp
        try with_reducible rfl
      simp only [Act.put, List.setIfInBounds_toArray, List.set_cons_zero, List.set_cons_succ]
      refine anyN_take 7 (v := ?_) rfl (by kernel_rfl) (by kernel_rfl) (by kernel_rfl) (by kernel_rfl) (by kernel_rfl) (fun _ _ _ h => h) (Or.inl ⟨by rfl, ?_⟩) (by assumption) ?_
      rotate_left
      · intro w hSw
        obtain ⟨_, _, _, _⟩ := hSw
        go_simp
        try with_reducible rfl
      simp only [Act.put, List.setIfInBounds_toArray, List.set_cons_zero, List.set_cons_succ]
      have O_0 := O.c0
      have O_1 := O.c1
      have O_2 := O.c2
      have O_3 := O.c3
      have FO_2 := FO.2
      refine anyN_one 9 rfl (by kernel_rfl) rfl ?_
      go_simp
      clear O_0 O_1 O_2 O_3 FO_2
      replace X := X.far4 ne_O_X (.bool ob) (.int .u64 oy) (.int .u32 R) (.int .u32 M)
      replace Y := Y.far4 ne_O_Y (.bool ob) (.int .u64 oy) (.int .u32 R) (.int .u32 M)
      replace H := H.far4 ne_O_H (.bool ob) (.int .u64 oy) (.int .u32 R) (.int .u32 M)
      replace T := T.far4 ne_O_T (.bool ob) (.int .u64 oy) (.int .u32 R) (.int .u32 M)
      replace Z := Z.far4 (B := bO) ne_O_Z (.bool ob) (.int .u64 oy) (.int .u32 R) (.int .u32 M)
      replace O := O.set (.bool ob) (.int .u64 oy) (.int .u32 R) (.int .u32 M)
      replace FO := (FO.set3 ⟨bO, 0, none⟩ ⟨bO, 1, none⟩ ⟨bO, 2, none⟩ (.bool ob) (.int .u64 oy) (.int .u32 R)).set ⟨bO, 3, none⟩ (.int .u32 M)
      replace hg := Lib.hid (hg.out.set4 (B := bO) le_O (.bool ob) (.int .u64 oy) (.int .u32 R) (.int .u32 M))
      generalize World.setCell _ _ _ = ws6 at *
      try refine and_keep ⟨X.c0, X.c1, X.c2, Z.1⟩ (fun hS => ?_)
      refine anyN_one 10 rfl (by kernel_rfl) rfl ?_
      go_simp
      refine anyN_done (by kernel_rfl) ?_
      clear hS
      go_wp2_with fail
      go_meet
      case rel => exact ⟨_, rfl, rfl, O, X, Y, H, T, hg.out⟩
  case rest =>
  obtain ⟨bO, rfl, rfl, O, X', Y', H', T', hg'⟩ := hcut
  clear hg X Y H T
  have hg := Lib.hid hg'
  clear hg'
  have X := X'
  clear X'
  have Y := Y'
  clear Y'
  have H := H'
  clear H'
  have T := T'
  clear T'
  have X_0 := X.c0
  have X_1 := X.c1
  have X_2 := X.c2
  have X_l := X.lt
  have Y_0 := Y.c0
  have Y_1 := Y.c1
  have Y_2 := Y.c2
  have Y_l := Y.lt
  have H_0 := H.c0
  have H_1 := H.c1
  have H_2 := H.c2
  have H_l := H.lt
  have T_0 := T.c0
  have T_1 := T.c1
  have T_2 := T.c2
  have T_l := T.lt
  have O_0 := O.c0
  have O_1 := O.c1
  have O_2 := O.c2
  have O_3 := O.c3
  have O_l := O.lt
  go_wp2_with fail
  refine (HR _).out.mono ?_
  rintro e w6 ⟨rfl, hg1⟩
  have k1 := hg1.kp
  replace X := X.kp k1
  replace Y := Y.kp k1
  replace H := H.kp k1
  replace T := T.kp k1
  replace O := O.kp k1
  replace hg := Lib.hid (hg.out.trans hg1)
  clear hg1 k1
  clear X_0 X_1 X_2 X_l Y_0 Y_1 Y_2 Y_l H_0 H_1 H_2 H_l T_0 T_1 T_2 T_l O_0 O_1 O_2 O_3 O_l
  replace Z : At w6 ⟨bb, off, none⟩ (.int .u64 z) := ⟨(hg.out.kp.cell (p := ⟨bb, off, none⟩) hbb).trans C0.out, Nat.lt_of_lt_of_le hbb hg.out.kp.size⟩
  have Y2 : At w6 ⟨bb, off + (n - 1), none⟩ (.int .u64 y) := ⟨(hg.out.kp.cell (p := ⟨bb, off + (n - 1), none⟩) hbb).trans C1.out, Nat.lt_of_lt_of_le hbb hg.out.kp.size⟩
  have hnw : IntKind.i64.wrap ((n : Int) - 1) = (n : Int) - 1 := by rw [IntKind.wrap_i64]; omega
  have hnn : ((n : Int) - 1).toNat = n - 1 := by omega
  have hn1 : (1 : Int) ≤ n := by omega
  go_upto_region 15 with fail
  go_cut [19, 20] from 84 to 98 (fun p e w' => ∃ B : Nat, p = .pointer (some ⟨B, 0, none⟩) ∧ e = .int .i64 0 ∧ C3 w' B (.int .u64 p3) (.int .u32 q3) (.int .u32 M) ∧ C3 w' W.heap.size (.int .u64 v) (.int .u32 R) (.int .u32 M) ∧ C3 w' bY (.int .u64 p2) (.int .u32 q2) (.int .u32 M) ∧ C3 w' bH (.int .u64 p1) (.int .u32 q1) (.int .u32 M) ∧ C3 w' bT (.int .u64 p2) (.int .u32 q2) (.int .u32 M) ∧ C4 w' bO (.bool ob) (.int .u64 oy) (.int .u32 R) (.int .u32 M) ∧ GrewS W w')
  case first =>
    refine wp_region_anyN (fun w' => w'.cell? ⟨W.heap.size, 0, none⟩ = some (.int .u64 v) ∧ w'.cell? ⟨W.heap.size, 1, none⟩ = some (.int .u32 R) ∧ w'.cell? ⟨W.heap.size, 2, none⟩ = some (.int .u32 M) ∧ w'.cell? ⟨bb, off, none⟩ = some (.int .u64 z) ∧ w'.cell? ⟨bb, off + (n - 1), none⟩ = some (.int .u64 y)) 17 (by kernel_rfl) ?_
    replace X := X.drew
    replace Y := Y.drew
    replace H := H.drew
    replace T := T.drew
    replace O := O.drew
    replace Z := Z.drew
    replace Y2 := Y2.drew
    replace hg := Lib.hid hg.out.drew
    generalize w6.drew = w6 at *
    have hS : w6.cell? ⟨W.heap.size, 0, none⟩ = some (.int .u64 v) ∧ w6.cell? ⟨W.heap.size, 1, none⟩ = some (.int .u32 R) ∧ w6.cell? ⟨W.heap.size, 2, none⟩ = some (.int .u32 M) ∧ w6.cell? ⟨bb, off, none⟩ = some (.int .u64 z) ∧ w6.cell? ⟨bb, off + (n - 1), none⟩ = some (.int .u64 y) := ⟨X.c0, X.c1, X.c2, Z.1, Y2.1⟩
    refine anyN_take 0 (v := ?_) rfl (by kernel_rfl) (by kernel_rfl) (by kernel_rfl) (by kernel_rfl) (by kernel_rfl) (fun _ _ _ h => h) (Or.inl ⟨by rfl, ?_⟩) (by assumption) ?_
    rotate_left
    · intro w hSw
      obtain ⟨_, _, _, _, _⟩ := hSw
      go_simp
      try with_reducible rfl
    simp only [Act.put, List.setIfInBounds_toArray, List.set_cons_zero, List.set_cons_succ]
    refine anyN_take 1 (v := ?_) rfl (by kernel_rfl) (by kernel_rfl) (by kernel_rfl) (by kernel_rfl) (by kernel_rfl) (fun _ _ _ h => h) (Or.inl ⟨by rfl, ?_⟩) (by assumption) ?_
    rotate_left
    · intro w hSw
      obtain ⟨_, _, _, _, _⟩ := hSw
      go_simp
      try with_reducible rfl
    simp only [Act.put, List.setIfInBounds_toArray, List.set_cons_zero, List.set_cons_succ]
    refine anyN_take 2 (v := ?_) rfl (by kernel_rfl) (by kernel_rfl) (by kernel_rfl) (by kernel_rfl) (by kernel_rfl) (fun _ _ _ h => h) (Or.inl ⟨by rfl, ?_⟩) (by assumption) ?_
    rotate_left
    · intro w hSw
      obtain ⟨_, _, _, _, _⟩ := hSw
      go_simp
      try with_reducible rfl
    simp only [Act.put, List.setIfInBounds_toArray, List.set_cons_zero, List.set_cons_succ]
    refine anyN_take 3 (v := ?_) rfl (by kernel_rfl) (by kernel_rfl) (by kernel_rfl) (by kernel_rfl) (by kernel_rfl) (fun _ _ _ h => h) (Or.inl ⟨by rfl, ?_⟩) (by assumption) ?_
    rotate_left
    · intro w hSw
      obtain ⟨_, _, _, _, _⟩ := hSw
      go_simp
      try with_reducible rfl
    simp only [Act.put, List.setIfInBounds_toArray, List.set_cons_zero, List.set_cons_succ]
    refine anyN_take 4 (v := ?_) rfl (by kernel_rfl) (by kernel_rfl) (by kernel_rfl) (by kernel_rfl) (by kernel_rfl) (fun _ _ _ h => h) (Or.inl ⟨by rfl, ?_⟩) (by assumption) ?_
    rotate_left
    · intro w hSw
      obtain ⟨_, _, _, _, _⟩ := hSw
      go_simp
      try with_reducible rfl
    simp only [Act.put, List.setIfInBounds_toArray, List.set_cons_zero, List.set_cons_succ]
    refine anyN_take 5 (v := ?_) rfl (by kernel_rfl) (by kernel_rfl) (by kernel_rfl) (by kernel_rfl) (by kernel_rfl) (fun _ _ _ h => h) (Or.inl ⟨by rfl, ?_⟩) (by assumption) ?_
    rotate_left
    · intro w hSw
      obtain ⟨_, _, _, _, _⟩ := hSw
      go_simp
      try with_reducible rfl
    simp only [Act.put, List.setIfInBounds_toArray, List.set_cons_zero, List.set_cons_succ]
    refine anyN_take 6 (v := ?_) rfl (by kernel_rfl) (by kernel_rfl) (by kernel_rfl) (by kernel_rfl) (by kernel_rfl) (fun _ _ _ h => h) (Or.inl ⟨by rfl, ?_⟩) (by assumption) ?_
    rotate_left
    · intro w hSw
      obtain ⟨_, _, _, _, _⟩ := hSw
      go_simp
      try with_reducible rfl
    simp only [Act.put, List.setIfInBounds_toArray, List.set_cons_zero, List.set_cons_succ]
    refine anyN_take 7 (v := ?_) rfl (by kernel_rfl) (by kernel_rfl) (by kernel_rfl) (by kernel_rfl) (by kernel_rfl) (fun _ _ _ h => h) (Or.inl ⟨by rfl, ?_⟩) (by assumption) ?_
    rotate_left
    · intro w hSw
      obtain ⟨_, _, _, _, _⟩ := hSw
      go_simp
      try with_reducible rfl
    simp only [Act.put, List.setIfInBounds_toArray, List.set_cons_zero, List.set_cons_succ]
    refine anyN_take 8 (v := ?_) rfl (by kernel_rfl) (by kernel_rfl) (by kernel_rfl) (by kernel_rfl) (by kernel_rfl) (fun _ _ _ h => h) (Or.inl ⟨by rfl, ?_⟩) (by assumption) ?_
    rotate_left
    · intro w hSw
      obtain ⟨_, _, _, _, _⟩ := hSw
      go_simp
      try with_reducible rfl
    simp only [Act.put, List.setIfInBounds_toArray, List.set_cons_zero, List.set_cons_succ]
    refine anyN_take 9 (v := ?_) rfl (by kernel_rfl) (by kernel_rfl) (by kernel_rfl) (by kernel_rfl) (by kernel_rfl) (fun _ _ _ h => h) (Or.inl ⟨by rfl, ?_⟩) (by assumption) ?_
    rotate_left
    · intro w hSw
      obtain ⟨_, _, _, _, _⟩ := hSw
      go_simp
      try with_reducible rfl
    simp only [Act.put, List.setIfInBounds_toArray, List.set_cons_zero, List.set_cons_succ]
    refine anyN_two 10 15 rfl rfl (by kernel_rfl) rfl rfl ?_ ?_
    · go_simp
      have ne_P_X : w6.heap.size ≠ W.heap.size := Nat.ne_of_gt X.lt
      have ne_P_Y : w6.heap.size ≠ bY := Nat.ne_of_gt Y.lt
      have ne_P_H : w6.heap.size ≠ bH := Nat.ne_of_gt H.lt
      have ne_P_T : w6.heap.size ≠ bT := Nat.ne_of_gt T.lt
      have ne_P_O : w6.heap.size ≠ bO := Nat.ne_of_gt O.lt
      have ne_P_Z : w6.heap.size ≠ bb := Nat.ne_of_gt Z.2
      have ne_P_Y2 : w6.heap.size ≠ bb := Nat.ne_of_gt Y2.2
      have le_P : W.heap.size ≤ w6.heap.size := hg.out.kp.size
      have P := C2.new w6 (.int .u64 z) (.int .u64 y) 22
      have FP := Fz.new w6 #[.int .u64 z, .int .u64 y] 22
      replace X := X.alloc (.cells #[.int .u64 z, .int .u64 y] 22)
      replace Y := Y.alloc (.cells #[.int .u64 z, .int .u64 y] 22)
      replace H := H.alloc (.cells #[.int .u64 z, .int .u64 y] 22)
      replace T := T.alloc (.cells #[.int .u64 z, .int .u64 y] 22)
      replace O := O.alloc (.cells #[.int .u64 z, .int .u64 y] 22)
      replace Z := Z.alloc (.cells #[.int .u64 z, .int .u64 y] 22)
      replace Y2 := Y2.alloc (.cells #[.int .u64 z, .int .u64 y] 22)
      replace hg := Lib.hid (hg.out.alloc (.cells #[.int .u64 z, .int .u64 y] 22))
      generalize w6.alloc (.cells #[.int .u64 z, .int .u64 y] 22) = wa1 at *
      generalize w6.heap.size = bP at *
      refine and_keep ⟨X.c0, X.c1, X.c2, Z.1, Y2.1⟩ (fun hS => ?_)
      refine anyN_two 11 15 rfl rfl (by kernel_rfl) rfl rfl ?_ ?_
      · go_simp
        (with_reducible refine (H6 _ bP P.c0 P.c1 P.lt).out.mono ?_)
        rintro e wv2 ⟨rfl, hg1⟩
        have k1 := hg1.kp
        replace X := X.kp k1
        replace Y := Y.kp k1
        replace H := H.kp k1
        replace T := T.kp k1
        replace O := O.kp k1
        replace Z := Z.kp k1
        replace Y2 := Y2.kp k1
        replace P := P.kp k1
        replace FP := FP.kp k1
        replace hg := Lib.hid (hg.out.trans hg1)
        clear k1 hg1
        dsimp only
        refine and_keep ⟨X.c0, X.c1, X.c2, Z.1, Y2.1⟩ (fun hS => ?_)
        refine anyN_take 12 (v := ?_) rfl (by kernel_rfl) (by kernel_rfl) (by kernel_rfl) (by kernel_rfl) (by kernel_rfl) (fun _ _ _ h => h) (Or.inl ⟨by rfl, ?_⟩) (by assumption) ?_
        rotate_left
        · intro w hSw
          obtain ⟨_, _, _, _, _⟩ := hSw
          go_simp
          try with_reducible rfl
        simp only [Act.put, List.setIfInBounds_toArray, List.set_cons_zero, List.set_cons_succ]
        refine anyN_take 13 (v := ?_) rfl (by kernel_rfl) (by kernel_rfl) (by kernel_rfl) (by kernel_rfl) (by kernel_rfl) (fun _ _ _ h => h) (Or.inl ⟨by rfl, ?_⟩) (by assumption) ?_
        rotate_left
        · intro w hSw
          obtain ⟨_, _, _, _, _⟩ := hSw
          go_simp
          try with_reducible rfl
        simp only [Act.put, List.setIfInBounds_toArray, List.set_cons_zero, List.set_cons_succ]
        refine anyN_take 14 (v := ?_) rfl (by kernel_rfl) (by kernel_rfl) (by kernel_rfl) (by kernel_rfl) (by kernel_rfl) (fun _ _ _ h => h) (Or.inl ⟨by rfl, ?_⟩) (by assumption) ?_
        rotate_left
        · intro w hSw
          obtain ⟨_, _, _, _, _⟩ := hSw
          go_simp
          try with_reducible rfl
        simp only [Act.put, List.setIfInBounds_toArray, List.set_cons_zero, List.set_cons_succ]
        refine anyN_one 15 rfl (by kernel_rfl) rfl ?_
        go_simp
        have ne_S_X : wv2.heap.size ≠ W.heap.size := Nat.ne_of_gt X.lt
        have ne_S_Y : wv2.heap.size ≠ bY := Nat.ne_of_gt Y.lt
        have ne_S_H : wv2.heap.size ≠ bH := Nat.ne_of_gt H.lt
        have ne_S_T : wv2.heap.size ≠ bT := Nat.ne_of_gt T.lt
        have ne_S_O : wv2.heap.size ≠ bO := Nat.ne_of_gt O.lt
        have ne_S_Z : wv2.heap.size ≠ bb := Nat.ne_of_gt Z.2
        have ne_S_Y2 : wv2.heap.size ≠ bb := Nat.ne_of_gt Y2.2
        have ne_S_P : wv2.heap.size ≠ bP := Nat.ne_of_gt P.lt
        have le_S : W.heap.size ≤ wv2.heap.size := hg.out.kp.size
        have S := C3.new wv2 (.int .u64 0) (.int .u32 0) (.int .u32 0) 25
        have FS := Fz.new wv2 #[.int .u64 0, .int .u32 0, .int .u32 0] 25
        replace X := X.alloc (.cells #[.int .u64 0, .int .u32 0, .int .u32 0] 25)
        replace Y := Y.alloc (.cells #[.int .u64 0, .int .u32 0, .int .u32 0] 25)
        replace H := H.alloc (.cells #[.int .u64 0, .int .u32 0, .int .u32 0] 25)
        replace T := T.alloc (.cells #[.int .u64 0, .int .u32 0, .int .u32 0] 25)
        replace O := O.alloc (.cells #[.int .u64 0, .int .u32 0, .int .u32 0] 25)
        replace Z := Z.alloc (.cells #[.int .u64 0, .int .u32 0, .int .u32 0] 25)
        replace Y2 := Y2.alloc (.cells #[.int .u64 0, .int .u32 0, .int .u32 0] 25)
        replace P := P.alloc (.cells #[.int .u64 0, .int .u32 0, .int .u32 0] 25)
        replace FP := FP.alloc (.cells #[.int .u64 0, .int .u32 0, .int .u32 0] 25)
        replace hg := Lib.hid (hg.out.alloc (.cells #[.int .u64 0, .int .u32 0, .int .u32 0] 25))
        generalize wv2.alloc (.cells #[.int .u64 0, .int .u32 0, .int .u32 0] 25) = wa3 at *
        generalize wv2.heap.size = bS at *
        refine and_keep ⟨X.c0, X.c1, X.c2, Z.1, Y2.1⟩ (fun hS => ?_)
        have S_0 := S.c0
        have S_1 := S.c1
        have S_2 := S.c2
        have FS_2 := FS.2
        refine anyN_one 16 rfl (by kernel_rfl) rfl ?_
        go_simp
        clear S_0 S_1 S_2 FS_2
        replace X := X.far3 ne_S_X (.int .u64 p3) (.int .u32 q3) (.int .u32 M)
        replace Y := Y.far3 ne_S_Y (.int .u64 p3) (.int .u32 q3) (.int .u32 M)
        replace H := H.far3 ne_S_H (.int .u64 p3) (.int .u32 q3) (.int .u32 M)
        replace T := T.far3 ne_S_T (.int .u64 p3) (.int .u32 q3) (.int .u32 M)
        replace O := O.far3 ne_S_O (.int .u64 p3) (.int .u32 q3) (.int .u32 M)
        replace Z := Z.far3 (B := bS) ne_S_Z (.int .u64 p3) (.int .u32 q3) (.int .u32 M)
        replace Y2 := Y2.far3 (B := bS) ne_S_Y2 (.int .u64 p3) (.int .u32 q3) (.int .u32 M)
        replace P := P.far3 ne_S_P (.int .u64 p3) (.int .u32 q3) (.int .u32 M)
        replace FP := FP.set3 ⟨bS, 0, none⟩ ⟨bS, 1, none⟩ ⟨bS, 2, none⟩ (.int .u64 p3) (.int .u32 q3) (.int .u32 M)
        replace S := S.set (.int .u64 p3) (.int .u32 q3) (.int .u32 M)
        replace FS := FS.set3 ⟨bS, 0, none⟩ ⟨bS, 1, none⟩ ⟨bS, 2, none⟩ (.int .u64 p3) (.int .u32 q3) (.int .u32 M)
        replace hg := Lib.hid (hg.out.set3 (B := bS) le_S (.int .u64 p3) (.int .u32 q3) (.int .u32 M))
        generalize World.setCell _ _ _ = ws4 at *
        try refine and_keep ⟨X.c0, X.c1, X.c2, Z.1, Y2.1⟩ (fun hS => ?_)
        refine anyN_one 17 rfl (by kernel_rfl) rfl ?_
        go_simp
        refine anyN_done (by kernel_rfl) ?_
        clear hS
        go_wp2_with fail
        go_meet
        case rel => exact ⟨_, rfl, rfl, S, X, Y, H, T, O, hg.out⟩
      · go_simp
        have ne_S_X : wa1.heap.size ≠ W.heap.size := Nat.ne_of_gt X.lt
        have ne_S_Y : wa1.heap.size ≠ bY := Nat.ne_of_gt Y.lt
        have ne_S_H : wa1.heap.size ≠ bH := Nat.ne_of_gt H.lt
        have ne_S_T : wa1.heap.size ≠ bT := Nat.ne_of_gt T.lt
        have ne_S_O : wa1.heap.size ≠ bO := Nat.ne_of_gt O.lt
        have ne_S_Z : wa1.heap.size ≠ bb := Nat.ne_of_gt Z.2
        have ne_S_Y2 : wa1.heap.size ≠ bb := Nat.ne_of_gt Y2.2
        have ne_S_P : wa1.heap.size ≠ bP := Nat.ne_of_gt P.lt
        have le_S : W.heap.size ≤ wa1.heap.size := hg.out.kp.size
        have S := C3.new wa1 (.int .u64 0) (.int .u32 0) (.int .u32 0) 25
        have FS := Fz.new wa1 #[.int .u64 0, .int .u32 0, .int .u32 0] 25
        replace X := X.alloc (.cells #[.int .u64 0, .int .u32 0, .int .u32 0] 25)
        replace Y := Y.alloc (.cells #[.int .u64 0, .int .u32 0, .int .u32 0] 25)
        replace H := H.alloc (.cells #[.int .u64 0, .int .u32 0, .int .u32 0] 25)
        replace T := T.alloc (.cells #[.int .u64 0, .int .u32 0, .int .u32 0] 25)
        replace O := O.alloc (.cells #[.int .u64 0, .int .u32 0, .int .u32 0] 25)
        replace Z := Z.alloc (.cells #[.int .u64 0, .int .u32 0, .int .u32 0] 25)
        replace Y2 := Y2.alloc (.cells #[.int .u64 0, .int .u32 0, .int .u32 0] 25)
        replace P := P.alloc (.cells #[.int .u64 0, .int .u32 0, .int .u32 0] 25)
        replace FP := FP.alloc (.cells #[.int .u64 0, .int .u32 0, .int .u32 0] 25)
        replace hg := Lib.hid (hg.out.alloc (.cells #[.int .u64 0, .int .u32 0, .int .u32 0] 25))
        generalize wa1.alloc (.cells #[.int .u64 0, .int .u32 0, .int .u32 0] 25) = wa5 at *
        generalize wa1.heap.size = bS at *
        refine and_keep ⟨X.c0, X.c1, X.c2, Z.1, Y2.1⟩ (fun hS => ?_)
        refine anyN_one 11 rfl (by kernel_rfl) rfl ?_
        go_simp
        (with_reducible refine (H6 _ bP P.c0 P.c1 P.lt).out.mono ?_)
        rintro e wv6 ⟨rfl, hg1⟩
        have k1 := hg1.kp
        replace X := X.kp k1
        replace Y := Y.kp k1
        replace H := H.kp k1
        replace T := T.kp k1
        replace O := O.kp k1
        replace Z := Z.kp k1
        replace Y2 := Y2.kp k1
        replace P := P.kp k1
        replace FP := FP.kp k1
        replace S := S.kp k1
        replace FS := FS.kp k1
        replace hg := Lib.hid (hg.out.trans hg1)
        clear k1 hg1
        dsimp only
        refine and_keep ⟨X.c0, X.c1, X.c2, Z.1, Y2.1⟩ (fun hS => ?_)
        refine anyN_take 12 (v := ?_) rfl (by kernel_rfl) (by kernel_rfl) (by kernel_rfl) (by kernel_rfl) (by kernel_rfl) (fun _ _ _ h => h) (Or.inl ⟨by rfl, ?_⟩) (by assumption) ?_
        rotate_left
        · intro w hSw
          obtain ⟨_, _, _, _, _⟩ := hSw
          go_simp
          try with_reducible rfl
        simp only [Act.put, List.setIfInBounds_toArray, List.set_cons_zero, List.set_cons_succ]
        refine anyN_take 13 (v := ?_) rfl (by kernel_rfl) (by kernel_rfl) (by kernel_rfl) (by kernel_rfl) (by kernel_rfl) (fun _ _ _ h => h) (Or.inl ⟨by rfl, ?_⟩) (by assumption) ?_
        rotate_left
        · intro w hSw
          obtain ⟨_, _, _, _, _⟩ := hSw
          go_simp
          try with_reducible rfl
        simp only [Act.put, List.setIfInBounds_toArray, List.set_cons_zero, List.set_cons_succ]
        refine anyN_take 14 (v := ?_) rfl (by kernel_rfl) (by kernel_rfl) (by kernel_rfl) (by kernel_rfl) (by kernel_rfl) (fun _ _ _ h => h) (Or.inl ⟨by rfl, ?_⟩) (by assumption) ?_
        rotate_left
        · intro w hSw
          obtain ⟨_, _, _, _, _⟩ := hSw
          go_simp
          try with_reducible rfl
        simp only [Act.put, List.setIfInBounds_toArray, List.set_cons_zero, List.set_cons_succ]
        have S_0 := S.c0
        have S_1 := S.c1
        have S_2 := S.c2
        have FS_2 := FS.2
        refine anyN_one 16 rfl (by kernel_rfl) rfl ?_
        go_simp
        clear S_0 S_1 S_2 FS_2
        replace X := X.far3 ne_S_X (.int .u64 p3) (.int .u32 q3) (.int .u32 M)
        replace Y := Y.far3 ne_S_Y (.int .u64 p3) (.int .u32 q3) (.int .u32 M)
        replace H := H.far3 ne_S_H (.int .u64 p3) (.int .u32 q3) (.int .u32 M)
        replace T := T.far3 ne_S_T (.int .u64 p3) (.int .u32 q3) (.int .u32 M)
        replace O := O.far3 ne_S_O (.int .u64 p3) (.int .u32 q3) (.int .u32 M)
        replace Z := Z.far3 (B := bS) ne_S_Z (.int .u64 p3) (.int .u32 q3) (.int .u32 M)
        replace Y2 := Y2.far3 (B := bS) ne_S_Y2 (.int .u64 p3) (.int .u32 q3) (.int .u32 M)
        replace P := P.far3 ne_S_P (.int .u64 p3) (.int .u32 q3) (.int .u32 M)
        replace FP := FP.set3 ⟨bS, 0, none⟩ ⟨bS, 1, none⟩ ⟨bS, 2, none⟩ (.int .u64 p3) (.int .u32 q3) (.int .u32 M)
        replace S := S.set (.int .u64 p3) (.int .u32 q3) (.int .u32 M)
        replace FS := FS.set3 ⟨bS, 0, none⟩ ⟨bS, 1, none⟩ ⟨bS, 2, none⟩ (.int .u64 p3) (.int .u32 q3) (.int .u32 M)
        replace hg := Lib.hid (hg.out.set3 (B := bS) le_S (.int .u64 p3) (.int .u32 q3) (.int .u32 M))
        generalize World.setCell _ _ _ = ws7 at *
        try refine and_keep ⟨X.c0, X.c1, X.c2, Z.1, Y2.1⟩ (fun hS => ?_)
        refine anyN_one 17 rfl (by kernel_rfl) rfl ?_
        go_simp
        refine anyN_done (by kernel_rfl) ?_
        clear hS
        go_wp2_with fail
        go_meet
        case rel => exact ⟨_, rfl, rfl, S, X, Y, H, T, O, hg.out⟩
    · go_simp
      have ne_S_X : w6.heap.size ≠ W.heap.size := Nat.ne_of_gt X.lt
      have ne_S_Y : w6.heap.size ≠ bY := Nat.ne_of_gt Y.lt
      have ne_S_H : w6.heap.size ≠ bH := Nat.ne_of_gt H.lt
      have ne_S_T : w6.heap.size ≠ bT := Nat.ne_of_gt T.lt
      have ne_S_O : w6.heap.size ≠ bO := Nat.ne_of_gt O.lt
      have ne_S_Z : w6.heap.size ≠ bb := Nat.ne_of_gt Z.2
      have ne_S_Y2 : w6.heap.size ≠ bb := Nat.ne_of_gt Y2.2
      have le_S : W.heap.size ≤ w6.heap.size := hg.out.kp.size
      have S := C3.new w6 (.int .u64 0) (.int .u32 0) (.int .u32 0) 25
      have FS := Fz.new w6 #[.int .u64 0, .int .u32 0, .int .u32 0] 25
      replace X := X.alloc (.cells #[.int .u64 0, .int .u32 0, .int .u32 0] 25)
      replace Y := Y.alloc (.cells #[.int .u64 0, .int .u32 0, .int .u32 0] 25)
      replace H := H.alloc (.cells #[.int .u64 0, .int .u32 0, .int .u32 0] 25)
      replace T := T.alloc (.cells #[.int .u64 0, .int .u32 0, .int .u32 0] 25)
      replace O := O.alloc (.cells #[.int .u64 0, .int .u32 0, .int .u32 0] 25)
      replace Z := Z.alloc (.cells #[.int .u64 0, .int .u32 0, .int .u32 0] 25)
      replace Y2 := Y2.alloc (.cells #[.int .u64 0, .int .u32 0, .int .u32 0] 25)
      replace hg := Lib.hid (hg.out.alloc (.cells #[.int .u64 0, .int .u32 0, .int .u32 0] 25))
      generalize w6.alloc (.cells #[.int .u64 0, .int .u32 0, .int .u32 0] 25) = wa8 at *
      generalize w6.heap.size = bS at *
      refine and_keep ⟨X.c0, X.c1, X.c2, Z.1, Y2.1⟩ (fun hS => ?_)
      refine anyN_one 10 rfl (by kernel_rfl) rfl ?_
      go_simp
      have ne_P_X : wa8.heap.size ≠ W.heap.size := Nat.ne_of_gt X.lt
      have ne_P_Y : wa8.heap.size ≠ bY := Nat.ne_of_gt Y.lt
      have ne_P_H : wa8.heap.size ≠ bH := Nat.ne_of_gt H.lt
      have ne_P_T : wa8.heap.size ≠ bT := Nat.ne_of_gt T.lt
      have ne_P_O : wa8.heap.size ≠ bO := Nat.ne_of_gt O.lt
      have ne_P_Z : wa8.heap.size ≠ bb := Nat.ne_of_gt Z.2
      have ne_P_Y2 : wa8.heap.size ≠ bb := Nat.ne_of_gt Y2.2
      have ne_P_S : wa8.heap.size ≠ bS := Nat.ne_of_gt S.lt
      have le_P : W.heap.size ≤ wa8.heap.size := hg.out.kp.size
      have P := C2.new wa8 (.int .u64 z) (.int .u64 y) 22
      have FP := Fz.new wa8 #[.int .u64 z, .int .u64 y] 22
      replace X := X.alloc (.cells #[.int .u64 z, .int .u64 y] 22)
      replace Y := Y.alloc (.cells #[.int .u64 z, .int .u64 y] 22)
      replace H := H.alloc (.cells #[.int .u64 z, .int .u64 y] 22)
      replace T := T.alloc (.cells #[.int .u64 z, .int .u64 y] 22)
      replace O := O.alloc (.cells #[.int .u64 z, .int .u64 y] 22)
      replace Z := Z.alloc (.cells #[.int .u64 z, .int .u64 y] 22)
      replace Y2 := Y2.alloc (.cells #[.int .u64 z, .int .u64 y] 22)
      replace S := S.alloc (.cells #[.int .u64 z, .int .u64 y] 22)
      replace FS := FS.alloc (.cells #[.int .u64 z, .int .u64 y] 22)
      replace hg := Lib.hid (hg.out.alloc (.cells #[.int .u64 z, .int .u64 y] 22))
      generalize wa8.alloc (.cells #[.int .u64 z, .int .u64 y] 22) = wa9 at *
      generalize wa8.heap.size = bP at *
      refine and_keep ⟨X.c0, X.c1, X.c2, Z.1, Y2.1⟩ (fun hS => ?_)
      refine anyN_one 11 rfl (by kernel_rfl) rfl ?_
      go_simp
      (with_reducible refine (H6 _ bP P.c0 P.c1 P.lt).out.mono ?_)
      rintro e wv10 ⟨rfl, hg1⟩
      have k1 := hg1.kp
      replace X := X.kp k1
      replace Y := Y.kp k1
      replace H := H.kp k1
      replace T := T.kp k1
      replace O := O.kp k1
      replace Z := Z.kp k1
      replace Y2 := Y2.kp k1
      replace S := S.kp k1
      replace FS := FS.kp k1
      replace P := P.kp k1
      replace FP := FP.kp k1
      replace hg := Lib.hid (hg.out.trans hg1)
      clear k1 hg1
      dsimp only
      refine and_keep ⟨X.c0, X.c1, X.c2, Z.1, Y2.1⟩ (fun hS => ?_)
      refine anyN_take 12 (v := ?_) rfl (by kernel_rfl) (by kernel_rfl) (by kernel_rfl) (by kernel_rfl) (by kernel_rfl) (fun _ _ _ h => h) (Or.inl ⟨by rfl, ?_⟩) (by assumption) ?_
      rotate_left
      · intro w hSw
        obtain ⟨_, _, _, _, _⟩ := hSw
        go_simp
        try with_reducible rfl
      simp only [Act.put, List.setIfInBounds_toArray, List.set_cons_zero, List.set_cons_succ]
      refine anyN_take 13 (v := ?_) rfl (by kernel_rfl) (by kernel_rfl) (by kernel_rfl) (by kernel_rfl) (by kernel_rfl) (fun _ _ _ h => h) (Or.inl ⟨by rfl, ?_⟩) (by assumption) ?_
      rotate_left
      · intro w hSw
        obtain ⟨_, _, _, _, _⟩ := hSw
        go_simp
        try with_reducible rfl
      simp only [Act.put, List.setIfInBounds_toArray, List.set_cons_zero, List.set_cons_succ]
      refine anyN_take 14 (v := ?_) rfl (by kernel_rfl) (by kernel_rfl) (by kernel_rfl) (by kernel_rfl) (by kernel_rfl) (fun _ _ _ h => h) (Or.inl ⟨by rfl, ?_⟩) (by assumption) ?_
      rotate_left
      · intro w hSw
        obtain ⟨_, _, _, _, _⟩ := hSw
        go_simp
        try with_reducible rfl
      simp only [Act.put, List.setIfInBounds_toArray, List.set_cons_zero, List.set_cons_succ]
      have S_0 := S.c0
      have S_1 := S.c1
      have S_2 := S.c2
      have FS_2 := FS.2
      refine anyN_one 16 rfl (by kernel_rfl) rfl ?_
      go_simp
      clear S_0 S_1 S_2 FS_2
      replace X := X.far3 ne_S_X (.int .u64 p3) (.int .u32 q3) (.int .u32 M)
      replace Y := Y.far3 ne_S_Y (.int .u64 p3) (.int .u32 q3) (.int .u32 M)
      replace H := H.far3 ne_S_H (.int .u64 p3) (.int .u32 q3) (.int .u32 M)
      replace T := T.far3 ne_S_T (.int .u64 p3) (.int .u32 q3) (.int .u32 M)
      replace O := O.far3 ne_S_O (.int .u64 p3) (.int .u32 q3) (.int .u32 M)
      replace Z := Z.far3 (B := bS) ne_S_Z (.int .u64 p3) (.int .u32 q3) (.int .u32 M)
      replace Y2 := Y2.far3 (B := bS) ne_S_Y2 (.int .u64 p3) (.int .u32 q3) (.int .u32 M)
      replace S := S.set (.int .u64 p3) (.int .u32 q3) (.int .u32 M)
      replace FS := FS.set3 ⟨bS, 0, none⟩ ⟨bS, 1, none⟩ ⟨bS, 2, none⟩ (.int .u64 p3) (.int .u32 q3) (.int .u32 M)
      replace P := P.far3 ne_P_S.symm (.int .u64 p3) (.int .u32 q3) (.int .u32 M)
      replace FP := FP.set3 ⟨bS, 0, none⟩ ⟨bS, 1, none⟩ ⟨bS, 2, none⟩ (.int .u64 p3) (.int .u32 q3) (.int .u32 M)
      replace hg := Lib.hid (hg.out.set3 (B := bS) le_S (.int .u64 p3) (.int .u32 q3) (.int .u32 M))
      generalize World.setCell _ _ _ = ws11 at *
      try refine and_keep ⟨X.c0, X.c1, X.c2, Z.1, Y2.1⟩ (fun hS => ?_)
      refine anyN_one 17 rfl (by kernel_rfl) rfl ?_
      go_simp
      refine anyN_done (by kernel_rfl) ?_
      clear hS
      go_wp2_with fail
      go_meet
      case rel => exact ⟨_, rfl, rfl, S, X, Y, H, T, O, hg.out⟩
  case rest =>
  obtain ⟨bS, rfl, rfl, S, X', Y', H', T', O', hg'⟩ := hcut
  clear hg X Y H T O
  have hg := Lib.hid hg'
  clear hg'
  have X := X'
  clear X'
  have Y := Y'
  clear Y'
  have H := H'
  clear H'
  have T := T'
  clear T'
  have O := O'
  clear O'
  clear hnw hnn hn1
  have X_0 := X.c0
  have X_1 := X.c1
  have X_2 := X.c2
  have X_l := X.lt
  have Y_0 := Y.c0
  have Y_1 := Y.c1
  have Y_2 := Y.c2
  have Y_l := Y.lt
  have H_0 := H.c0
  have H_1 := H.c1
  have H_2 := H.c2
  have H_l := H.lt
  have T_0 := T.c0
  have T_1 := T.c1
  have T_2 := T.c2
  have T_l := T.lt
  have O_0 := O.c0
  have O_1 := O.c1
  have O_2 := O.c2
  have O_3 := O.c3
  have O_l := O.lt
  have S_0 := S.c0
  have S_1 := S.c1
  have S_2 := S.c2
  have S_l := S.lt
  rcases hE.out with rfl | ⟨rfl, hE2⟩
  · clear hE
    go_wp2_with fail
    all_goals
      go_ret
      refine ⟨by first | rfl | (simp; done), ?_⟩
      repeat with_reducible first | exact hg.out | apply GrewS.alloc | apply GrewS.drew
  · clear hE
    have HE := Lib.hid hE2
    clear hE2
    have hc1 : cap ≠ 1 := by omega
    have hc3 : (1 : Int) ≤ n := by omega
    go_wp2_with fail

    go_loop [119] (fun i => ∃ j : Nat, j ≤ n - 1 ∧ i = .int .i64 j ∧ Hid (∀ i, 1 ≤ i → i ≤ j → inB ob oy (fs.getD i 0) = true)) (fun i => n - (intOf i).toNat)
    case atStart => exact ⟨0, by omega, rfl, Lib.hid (fun i h1 h2 => absurd h1 (by omega))⟩
    case round =>
      obtain ⟨j, hj, rfl, HJ⟩ := hrel
      by_cases hlt : j < n - 1
      · have hcell : wc.cell? ⟨bb, off + 1 + j, none⟩ = some (.int .u64 (fs.getD (j + 1) 0)) := by
          obtain ⟨b', o', e, h1, h2⟩ := HC.out (j + 1) (by omega)
          cases e
          rw [Nat.add_assoc, Nat.add_comm 1 j]
          exact (hg.out.kp.cell (p := ⟨bb, off + (j + 1), none⟩) hbb).trans h2
        have hf1 := HF.out (j + 1)
        have HG := Lib.hid (Eq.refl (fs.getD (j + 1) 0))
        obtain ⟨f, hff⟩ : ∃ f, f = fs.getD (j + 1) 0 := ⟨_, rfl⟩
        rw [← hff] at hcell hf1
        replace hff := Lib.hid hff
        clear HG
        have hf2 := hf1.1
        have hf3 := hf1.2
        clear hf1
        have hji : (j : Int) < n - 1 := by omega
        have hji2 : (j : Int) < ((n - 1 : Nat) : Int) := by omega
        by_cases h1 : f < lo
        · go_wp2_with fail
          all_goals
            go_ret
            refine ⟨rfl, ?_⟩
            exact hg.out
        · by_cases h2 : hi < f
          · have h1' : lo ≤ f := by omega
            clear h1
            go_wp2_with fail
            all_goals
              go_ret
              refine ⟨rfl, ?_⟩
              exact hg.out
          · have h1' : lo ≤ f := by omega
            have h2' : f ≤ hi := by omega
            have HJ2 := Lib.hid (HE.out f hf2 hf3 h1' h2')
            clear h1 h2
            go_wp2_with fail
            go_round
            case rel => exact ⟨j + 1, by omega, by go_num, Lib.hid (fun i q1 q2 => by
              rcases Nat.lt_or_ge i (j + 1) with q | q
              · exact HJ.out i q1 (by omega)
              · have e : i = j + 1 := by omega
                rw [e, ← hff.out]; exact HJ2.out)⟩
            case measure => simp [intOf]; omega
      · have hje : j = n - 1 := by omega
        subst hje
        obtain ⟨rfl, rfl⟩ := HTI.out (fun i q1 q2 => HJ.out i q1 (by omega))
        have hlast : ¬ ((n - 1 : Nat) : Int) < ((n - 1 : Nat) : Int) := by omega
        clear hlt hj
        go_wp2_with fail
        all_goals
          go_ret
          refine ⟨by first | rfl | (simp; done), ?_⟩
          exact hg.out
end Go.Proofs.Ytmlapjaccmoleaa
