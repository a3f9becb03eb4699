/-
  The law MoveWrong, walked.
-/
import Derived.Test.YtmlapjaccmoleaaMadeM
import Derived.Test.YtmlapjaccmoleaaAll
import Derived.Test.YtmlapjaccmoleaaCut3
import Derived.Deep.CutRange
import Derived.Deep.CutBlock
namespace Go.Proofs.Ytmlapjaccmoleaa
open Go.RowKit

theorem C3.put1 {w : World} {B : Nat} {x y z : Value} (h : C3 w B x y z) (u : Value) : C3 (w.setCell ⟨B, 1, none⟩ u) B x u z :=
  ⟨(World.cell?_setCell_other _ _ _ _ (by simp)).trans h.c0, World.cell?_setCell_same _ _ _ h.c1, (World.cell?_setCell_other _ _ _ _ (by simp)).trans h.c2, by simpa using h.lt⟩
theorem C3.put2 {w : World} {B : Nat} {x y z : Value} (h : C3 w B x y z) (u : Value) : C3 (w.setCell ⟨B, 2, none⟩ u) B x y u :=
  ⟨(World.cell?_setCell_other _ _ _ _ (by simp)).trans h.c0, (World.cell?_setCell_other _ _ _ _ (by simp)).trans h.c1, World.cell?_setCell_same _ _ _ h.c2, by simpa using h.lt⟩
theorem C4.put0 {w : World} {B : Nat} {x y z t : Value} (h : C4 w B x y z t) (u : Value) : C4 (w.setCell ⟨B, 0, none⟩ u) B u y z t :=
  ⟨World.cell?_setCell_same _ _ _ h.c0, (World.cell?_setCell_other _ _ _ _ (by simp)).trans h.c1, (World.cell?_setCell_other _ _ _ _ (by simp)).trans h.c2, (World.cell?_setCell_other _ _ _ _ (by simp)).trans h.c3, by simpa using h.lt⟩
theorem C4.put1 {w : World} {B : Nat} {x y z t : Value} (h : C4 w B x y z t) (u : Value) : C4 (w.setCell ⟨B, 1, none⟩ u) B x u z t :=
  ⟨(World.cell?_setCell_other _ _ _ _ (by simp)).trans h.c0, World.cell?_setCell_same _ _ _ h.c1, (World.cell?_setCell_other _ _ _ _ (by simp)).trans h.c2, (World.cell?_setCell_other _ _ _ _ (by simp)).trans h.c3, by simpa using h.lt⟩
theorem C4.put2 {w : World} {B : Nat} {x y z t : Value} (h : C4 w B x y z t) (u : Value) : C4 (w.setCell ⟨B, 2, none⟩ u) B x y u t :=
  ⟨(World.cell?_setCell_other _ _ _ _ (by simp)).trans h.c0, (World.cell?_setCell_other _ _ _ _ (by simp)).trans h.c1, World.cell?_setCell_same _ _ _ h.c2, (World.cell?_setCell_other _ _ _ _ (by simp)).trans h.c3, by simpa using h.lt⟩
theorem C4.put3 {w : World} {B : Nat} {x y z t : Value} (h : C4 w B x y z t) (u : Value) : C4 (w.setCell ⟨B, 3, none⟩ u) B x y z u :=
  ⟨(World.cell?_setCell_other _ _ _ _ (by simp)).trans h.c0, (World.cell?_setCell_other _ _ _ _ (by simp)).trans h.c1, (World.cell?_setCell_other _ _ _ _ (by simp)).trans h.c2, World.cell?_setCell_same _ _ _ h.c3, by simpa using h.lt⟩
theorem rightB_no {v r w : Int} (h : w < 1 ∨ 65536 < w ∨ w ≤ r ∨ (v = 18446744073709551615 ∧ r ≠ 0)) : rightB v r w = false := by
  unfold rightB
  exact decide_eq_false (by omega)
theorem relB_no {b : Bool} {y r w : Int} (h : w < 1 ∨ 65536 < w ∨ w ≤ r ∨ (b = true ∧ y = 0)) : relB b y r w = false := by
  unfold relB
  rcases h with h | h | h | ⟨rfl, rfl⟩
  · rw [rightB_no (Or.inl h)]; split <;> (try split) <;> rfl
  · rw [rightB_no (Or.inr (Or.inl h))]; split <;> (try split) <;> rfl
  · rw [rightB_no (Or.inr (Or.inr (Or.inl h)))]; split <;> (try split) <;> rfl
  · simp
theorem ents_mk (w : World) (es : List E3) (c : Array Value) (hc : c.toList = flat es) (t : TypeId) : IsEnts (w.alloc (.cells c t)) (some ⟨w.heap.size, 0, none⟩) es.length es := by
  refine Rd.ents rfl ⟨flat_length es, fun j u hu => ⟨w.heap.size, 0, rfl, by simp, ?_⟩⟩
  rw [cell_of_row _ w.heap.size (0 + j) c t (0, 0) (heap_alloc_new w _), Nat.zero_add, ← Array.getElem?_toList, hc]
  exact hu
theorem all_three {v r w v' r' w' f t : Int} (W : World) (h : EB v r w) (hr : rightB v r w = true) (h' : EB v' r' w') (hr' : rightB v' r' w' = false) (f0 : 0 ≤ f ∧ f ≤ 18446744073709551615) (t0 : 0 ≤ t ∧ t ≤ 18446744073709551615) :
    Calls Try.prog 42 #[.slice (some ⟨W.heap.size, 0, none⟩) 3 3, .int .u64 f, .int .u64 t] (W.alloc (.cells #[.int .u64 v, .int .u32 r, .int .u32 w, .int .u64 v', .int .u32 r', .int .u32 w', .int .u64 v, .int .u32 r, .int .u32 w] 25)) fun e w1 =>
      e = .returned (.tuple #[.slice none 0 0, .int .i64 2]) ∧ Kp W.heap.size W w1 := by
  refine (all_f _ _ 3 3 [(v, r, w), (v', r', w'), (v, r, w)] rfl (by omega) (ents_mk W [(v, r, w), (v', r', w'), (v, r, w)] _ rfl 25) (fun e he => ?_) 1 (by omega) hr' (fun i hi => ?_) f0 t0).mono fun e w1 ⟨he, hk⟩ => ⟨he, ((Kp.refl _ W).alloc (Nat.le_refl _) _).trans (hk.mono (by simp))⟩
  · simp only [List.mem_cons, List.not_mem_nil, or_false] at he
    rcases he with rfl | rfl | rfl
    · exact h
    · exact h'
    · exact h
  · obtain rfl : i = 0 := by omega
    exact hr

theorem all_three' {v r w v' r' w' f t : Int} (W : World) (B : Nat) (hB : W.heap.size = B) (h : EB v r w) (hr : rightB v r w = true) (h' : EB v' r' w') (hr' : rightB v' r' w' = false) (f0 : 0 ≤ f ∧ f ≤ 18446744073709551615) (t0 : 0 ≤ t ∧ t ≤ 18446744073709551615) :
    Calls Try.prog 42 #[.slice (some ⟨B, 0, none⟩) 3 3, .int .u64 f, .int .u64 t] (W.alloc (.cells #[.int .u64 v, .int .u32 r, .int .u32 w, .int .u64 v', .int .u32 r', .int .u32 w', .int .u64 v, .int .u32 r, .int .u32 w] 25)) fun e w1 =>
      e = .returned (.tuple #[.slice none 0 0, .int .i64 2]) ∧ Kp W.heap.size W w1 := hB ▸ all_three W h hr h' hr' f0 t0

set_option maxRecDepth 100000 in
set_option maxHeartbeats 8000000 in
theorem mw_any {v r w y ry wy f n g : Int} {bb : Bool} (W : World) (b : EB v r w) (b2 : EB y ry wy) (f0 : 0 ≤ f) (f1 : f ≤ 18446744073709551615) (n0 : 0 ≤ n) (n1 : n ≤ 4294967295) (g0 : 0 ≤ g) (g1 : g ≤ 255) :
    Calls Try.prog 19 #[ent v r w, rel bb y ry wy, .int .u8 g, .int .u32 n, .int .u64 f] W fun e w' => e = .returned (.bool true) ∧ Kp W.heap.size W w' := by
  obtain ⟨R, M, hb, hr, HM'⟩ := madeM_ent b
  obtain ⟨cc, R2, M2, hb2, hr2, HN'⟩ := relM_ent (b := bb) b2
  have HA := fun W => Lib.hid (awakeM_any W)
  have HM := fun W => Lib.hid (HM' W)
  have HN := fun W => Lib.hid (HN' W)
  have HB := Lib.hid (And.intro hb (And.intro hr (And.intro hb2 hr2)))
  have HY := fun W => Lib.hid (relRight_t W hb2 hr2)
  have hm0 := hb.w0
  have hm1 := hb.w1
  have hm2 := hb2.w0
  have hm3 := hb2.w1
  have hv0 := hb.v0
  have hv1 := hb.v1
  have hy0 := hb2.v0
  have hy1 := hb2.v1
  have hr0 := hb.r0
  have hr1 := hb.r1
  have hq0 := hb2.r0
  have hq1 := hb2.r1
  clear hb hr hb2 hr2 b b2 HM' HN'
  go_enter Try.func19, Try.ntmps19
  go_wp2_with fail
  refine (HA _).out.mono ?_
  rintro e w1 ⟨rfl, hg1⟩
  have X := C3.kp ((C3.new W _ _ _ _).alloc _) hg1.kp
  have FX := Fz.kp ((Fz.new W _ _).alloc _) hg1.kp
  have Y : C4 w1 (W.heap.size + 1) (.bool bb) (.int .u64 y) (.int .u32 ry) (.int .u32 wy) := by simpa using C4.kp (C4.new (W.alloc _) _ _ _ _ 56) hg1.kp
  have FY : Fz w1 (W.heap.size + 1) := by simpa using Fz.kp (Fz.new (W.alloc _) _ 56) hg1.kp
  have hg := Lib.hid ((((GrewS.refl W).alloc _).alloc _).trans hg1)
  clear hg1 HA
  have X_0 := X.c0
  have X_1 := X.c1
  have X_2 := X.c2
  have X_l := X.lt
  have Y_0 := Y.c0
  have Y_1 := Y.c1
  have Y_2 := Y.c2
  have Y_3 := Y.c3
  have Y_l := Y.lt
  go_upto_region 3 with fail
  clear X_0 X_1 X_2 X_l Y_0 Y_1 Y_2 Y_3 Y_l
  have ne_X_Y : W.heap.size ≠ W.heap.size + 1 := by omega
  have ne_Y_X : W.heap.size + 1 ≠ W.heap.size := by omega
  have le_X := Nat.le_refl W.heap.size
  have le_Y := Nat.le_succ W.heap.size
  go_cut [10] from 34 to 37 (fun _ w' => C3 w' W.heap.size (.int .u64 v) (.int .u32 R) (.int .u32 M) ∧ C4 w' (W.heap.size + 1) (.bool cc) (.int .u64 y) (.int .u32 R2) (.int .u32 M2) ∧ Fz w' W.heap.size ∧ Fz w' (W.heap.size + 1) ∧ GrewS W w')
  case first =>
    refine wp_region_anyN (fun w' => w'.cell? ⟨W.heap.size, 0, none⟩ = some (.int .u64 v) ∧ w'.cell? ⟨W.heap.size, 1, none⟩ = some (.int .u32 r) ∧ w'.cell? ⟨W.heap.size, 2, none⟩ = some (.int .u32 w) ∧ w'.cell? ⟨(W.heap.size + 1), 0, none⟩ = some (.bool bb) ∧ w'.cell? ⟨(W.heap.size + 1), 1, none⟩ = some (.int .u64 y) ∧ w'.cell? ⟨(W.heap.size + 1), 2, none⟩ = some (.int .u32 ry) ∧ w'.cell? ⟨(W.heap.size + 1), 3, none⟩ = some (.int .u32 wy)) 4 (by kernel_rfl) ?_
    replace X := X.drew
    replace FX := FX.drew
    replace Y := Y.drew
    replace FY := FY.drew
    replace hg := Lib.hid hg.out.drew
    generalize w1.drew = w1 at *
    have hS : w1.cell? ⟨W.heap.size, 0, none⟩ = some (.int .u64 v) ∧ w1.cell? ⟨W.heap.size, 1, none⟩ = some (.int .u32 r) ∧ w1.cell? ⟨W.heap.size, 2, none⟩ = some (.int .u32 w) ∧ w1.cell? ⟨(W.heap.size + 1), 0, none⟩ = some (.bool bb) ∧ w1.cell? ⟨(W.heap.size + 1), 1, none⟩ = some (.int .u64 y) ∧ w1.cell? ⟨(W.heap.size + 1), 2, none⟩ = some (.int .u32 ry) ∧ w1.cell? ⟨(W.heap.size + 1), 3, none⟩ = some (.int .u32 wy) := ⟨X.c0, X.c1, X.c2, Y.c0, Y.c1, Y.c2, Y.c3⟩
    refine anyN_takeR 0 (v := ?_) rfl (by kernel_rfl) (by kernel_rfl) (by kernel_rfl) (by kernel_rfl) (fun _ _ _ h => h) (Or.inl ⟨by rfl, ?_⟩) (by assumption) ?_
    rotate_left
    · intro w hSw
      obtain ⟨_, _, _, _, _, _, _⟩ := hSw
      go_simp
      try with_reducible rfl
    simp only [Act.put, List.setIfInBounds_toArray, List.set_cons_zero, List.set_cons_succ]
    refine anyN_takeR 2 (v := ?_) rfl (by kernel_rfl) (by kernel_rfl) (by kernel_rfl) (by kernel_rfl) (fun _ _ _ h => h) (Or.inl ⟨by rfl, ?_⟩) (by assumption) ?_
    rotate_left
    · intro w hSw
      obtain ⟨_, _, _, _, _, _, _⟩ := hSw
      go_simp
      try with_reducible rfl
    simp only [Act.put, List.setIfInBounds_toArray, List.set_cons_zero, List.set_cons_succ]
    refine anyN_one 1 rfl (by kernel_rfl) rfl ?_
    go_simp
    (with_reducible refine (HM _).out.mono ?_)
    rintro e wv1 ⟨rfl, hg1⟩
    have k1 := hg1.kp
    replace X := X.kp k1
    replace FX := FX.kp k1
    replace Y := Y.kp k1
    replace FY := FY.kp k1
    replace hg := Lib.hid (hg.out.trans hg1)
    clear k1 hg1
    dsimp only
    refine and_keep ⟨X.c0, X.c1, X.c2, Y.c0, Y.c1, Y.c2, Y.c3⟩ (fun hS => ?_)
    refine anyN_one 3 rfl (by kernel_rfl) rfl ?_
    go_simp
    (with_reducible refine (HN _).out.mono ?_)
    rintro e wv2 ⟨rfl, hg1⟩
    have k1 := hg1.kp
    replace X := X.kp k1
    replace FX := FX.kp k1
    replace Y := Y.kp k1
    replace FY := FY.kp k1
    replace hg := Lib.hid (hg.out.trans hg1)
    clear k1 hg1
    dsimp only
    refine and_keep ⟨X.c0, X.c1, X.c2, Y.c0, Y.c1, Y.c2, Y.c3⟩ (fun hS => ?_)
    have X_0 := X.c0
    have X_1 := X.c1
    have X_2 := X.c2
    have FX_2 := FX.2
    refine anyN_one 4 rfl (by kernel_rfl) rfl ?_
    go_simp
    clear X_0 X_1 X_2 FX_2
    replace X := X.set (.int .u64 v) (.int .u32 R) (.int .u32 M)
    replace FX := FX.set3 ⟨W.heap.size, 0, none⟩ ⟨W.heap.size, 1, none⟩ ⟨W.heap.size, 2, none⟩ (.int .u64 v) (.int .u32 R) (.int .u32 M)
    replace Y := Y.far3 ne_X_Y (.int .u64 v) (.int .u32 R) (.int .u32 M)
    replace FY := FY.set3 ⟨W.heap.size, 0, none⟩ ⟨W.heap.size, 1, none⟩ ⟨W.heap.size, 2, none⟩ (.int .u64 v) (.int .u32 R) (.int .u32 M)
    replace hg := Lib.hid (hg.out.set3 (B := W.heap.size) le_X (.int .u64 v) (.int .u32 R) (.int .u32 M))
    generalize World.setCell _ _ _ = ws3 at *
    have Y_0 := Y.c0
    have Y_1 := Y.c1
    have Y_2 := Y.c2
    have Y_3 := Y.c3
    have FY_2 := FY.2
    refine anyN_one 5 rfl (by kernel_rfl) rfl ?_
    go_simp
    clear Y_0 Y_1 Y_2 Y_3 FY_2
    replace X := X.far4 ne_Y_X (.bool cc) (.int .u64 y) (.int .u32 R2) (.int .u32 M2)
    replace FX := (FX.set3 ⟨(W.heap.size + 1), 0, none⟩ ⟨(W.heap.size + 1), 1, none⟩ ⟨(W.heap.size + 1), 2, none⟩ (.bool cc) (.int .u64 y) (.int .u32 R2)).set ⟨(W.heap.size + 1), 3, none⟩ (.int .u32 M2)
    replace Y := Y.set (.bool cc) (.int .u64 y) (.int .u32 R2) (.int .u32 M2)
    replace FY := (FY.set3 ⟨(W.heap.size + 1), 0, none⟩ ⟨(W.heap.size + 1), 1, none⟩ ⟨(W.heap.size + 1), 2, none⟩ (.bool cc) (.int .u64 y) (.int .u32 R2)).set ⟨(W.heap.size + 1), 3, none⟩ (.int .u32 M2)
    replace hg := Lib.hid (hg.out.set4 (B := (W.heap.size + 1)) le_Y (.bool cc) (.int .u64 y) (.int .u32 R2) (.int .u32 M2))
    generalize World.setCell _ _ _ = ws4 at *
    refine anyN_done (by kernel_rfl) ?_
    clear hS
    go_wp2_with fail
    go_meet
    case rel => exact ⟨X, Y, FX, FY, hg.out⟩
  case rest =>
  clear X Y FX FY hg HM HN
  obtain ⟨X, Y, FX, FY, hg'⟩ := hcut
  have hg := Lib.hid hg'
  clear hg'
  go_upto_region 4 with fail
  go_cut [11, 12] from 38 to 39 (fun p q w' => ∃ B1 B2 : Nat, p = .pointer (some ⟨B1, 0, none⟩) ∧ q = .pointer (some ⟨B2, 0, none⟩) ∧ B1 ≠ B2 ∧ W.heap.size < B1 ∧ W.heap.size < B2 ∧ W.heap.size + 1 ≠ B1 ∧ W.heap.size + 1 ≠ B2 ∧ C3 w' B1 (.int .u64 v) (.int .u32 R) (.int .u32 M) ∧ C4 w' B2 (.bool cc) (.int .u64 y) (.int .u32 R2) (.int .u32 M2) ∧ Fz w' B1 ∧ Fz w' B2 ∧ C3 w' W.heap.size (.int .u64 v) (.int .u32 R) (.int .u32 M) ∧ C4 w' (W.heap.size + 1) (.bool cc) (.int .u64 y) (.int .u32 R2) (.int .u32 M2) ∧ GrewS W w')
  case first =>
    have X_0 := X.c0
    have X_1 := X.c1
    have X_2 := X.c2
    have X_l := X.lt
    have Y_0 := Y.c0
    have Y_1 := Y.c1
    have Y_2 := Y.c2
    have Y_3 := Y.c3
    have Y_l := Y.lt
    have FX2 := FX.2
    have FY2 := FY.2
    go_region
    · go_wp2_with fail
      go_meet
      case rel => exact ⟨_, _, rfl, rfl, by omega, by omega, by omega, by omega, by omega, ((C3.new wc (.int .u64 v) (.int .u32 R) (.int .u32 M) 25).alloc (.cells #[.bool cc, .int .u64 y, .int .u32 R2, .int .u32 M2] 56)).drew, by simpa using (C4.new (wc.alloc (.cells #[.int .u64 v, .int .u32 R, .int .u32 M] 25)) (.bool cc) (.int .u64 y) (.int .u32 R2) (.int .u32 M2) 56).drew, ((Fz.new wc _ 25).alloc _).drew, by simpa using (Fz.new (wc.alloc (.cells #[.int .u64 v, .int .u32 R, .int .u32 M] 25)) #[.bool cc, .int .u64 y, .int .u32 R2, .int .u32 M2] 56).drew, ((X.alloc _).alloc _).drew, ((Y.alloc _).alloc _).drew, ((hg.out.alloc _).alloc _).drew⟩
    · go_wp2_with fail
      go_meet
      case rel => exact ⟨_, _, rfl, rfl, by omega, by omega, by omega, by omega, by omega, by simpa using (C3.new (wc.alloc (.cells #[.bool cc, .int .u64 y, .int .u32 R2, .int .u32 M2] 56)) (.int .u64 v) (.int .u32 R) (.int .u32 M) 25).drew, ((C4.new wc (.bool cc) (.int .u64 y) (.int .u32 R2) (.int .u32 M2) 56).alloc (.cells #[.int .u64 v, .int .u32 R, .int .u32 M] 25)).drew, by simpa using (Fz.new (wc.alloc (.cells #[.bool cc, .int .u64 y, .int .u32 R2, .int .u32 M2] 56)) #[.int .u64 v, .int .u32 R, .int .u32 M] 25).drew, ((Fz.new wc _ 56).alloc _).drew, ((X.alloc _).alloc _).drew, ((Y.alloc _).alloc _).drew, ((hg.out.alloc _).alloc _).drew⟩
  case rest =>
  clear X Y FX FY hg ne_X_Y ne_Y_X le_X le_Y
  obtain ⟨B1, B2, rfl, rfl, hB, hB1, hB2, hB3, hB4, P, Q, FP, FQ, X, Y, hg'⟩ := hcut
  have hg := Lib.hid hg'
  clear hg'
  go_upto_block 0 with fail
  have hq0' := Int.emod_nonneg g (b := 4) (by omega)
  have hq1' := Int.emod_lt_of_pos g (b := 4) (by omega)
  generalize g % 4 = q at *
  go_cut [10] from 40 to 71 (fun _ w' => ∃ (pv pr pw : Int) (qb : Bool) (qy qr qw : Int), C3 w' B1 (.int .u64 pv) (.int .u32 pr) (.int .u32 pw) ∧ C4 w' B2 (.bool qb) (.int .u64 qy) (.int .u32 qr) (.int .u32 qw) ∧ EB pv pr pw ∧ rightB pv pr pw = false ∧ EB qy qr qw ∧ relB qb qy qr qw = false ∧ C3 w' W.heap.size (.int .u64 v) (.int .u32 R) (.int .u32 M) ∧ C4 w' (W.heap.size + 1) (.bool cc) (.int .u64 y) (.int .u32 R2) (.int .u32 M2) ∧ GrewS W w')
  case first =>
    have P_0 := P.c0
    have P_1 := P.c1
    have P_2 := P.c2
    have Q_0 := Q.c0
    have Q_1 := Q.c1
    have Q_2 := Q.c2
    have Q_3 := Q.c3
    have FP2 := FP.2
    have FQ2 := FQ.2
    have X_2 := X.c2
    have Y_3 := Y.c3
    rcases (show q = 0 ∨ q = 1 ∨ q = 2 ∨ q = 3 by omega) with rfl | rfl | rfl | rfl
    · skip
      go_wp2_with fail
      go_meet
      case rel => exact ⟨v, R, 0, cc, y, R2, 0, ((P.put2 (.int .u32 0)).far (p := ⟨B2, 3, none⟩) hB.symm (.int .u32 0)), ((Q.far (p := ⟨B1, 2, none⟩) hB (.int .u32 0)).put3 (.int .u32 0)), ⟨by omega, by omega, by omega, by omega, by omega, by omega⟩, rightB_no (Or.inl (by omega)), ⟨by omega, by omega, by omega, by omega, by omega, by omega⟩, relB_no (Or.inl (by omega)), ((X.far (p := ⟨B1, 2, none⟩) (Nat.ne_of_gt hB1) (.int .u32 0)).far (p := ⟨B2, 3, none⟩) (Nat.ne_of_gt hB2) (.int .u32 0)), ((Y.far (p := ⟨B1, 2, none⟩) hB3.symm (.int .u32 0)).far (p := ⟨B2, 3, none⟩) hB4.symm (.int .u32 0)), ((hg.out.setCell (a := ⟨B1, 2, none⟩) (Nat.le_of_lt hB1) (.int .u32 0)).setCell (a := ⟨B2, 3, none⟩) (Nat.le_of_lt hB2) (.int .u32 0))⟩
    · rcases Int.lt_or_le n 65537 with h | h
      · skip
        go_wp2_with fail
        go_meet
        case rel => exact ⟨v, R, 65537, cc, y, R2, 65537, ((P.put2 (.int .u32 65537)).far (p := ⟨B2, 3, none⟩) hB.symm (.int .u32 65537)), ((Q.far (p := ⟨B1, 2, none⟩) hB (.int .u32 65537)).put3 (.int .u32 65537)), ⟨by omega, by omega, by omega, by omega, by omega, by omega⟩, rightB_no (Or.inr (Or.inl (by omega))), ⟨by omega, by omega, by omega, by omega, by omega, by omega⟩, relB_no (Or.inr (Or.inl (by omega))), ((X.far (p := ⟨B1, 2, none⟩) (Nat.ne_of_gt hB1) (.int .u32 65537)).far (p := ⟨B2, 3, none⟩) (Nat.ne_of_gt hB2) (.int .u32 65537)), ((Y.far (p := ⟨B1, 2, none⟩) hB3.symm (.int .u32 65537)).far (p := ⟨B2, 3, none⟩) hB4.symm (.int .u32 65537)), ((hg.out.setCell (a := ⟨B1, 2, none⟩) (Nat.le_of_lt hB1) (.int .u32 65537)).setCell (a := ⟨B2, 3, none⟩) (Nat.le_of_lt hB2) (.int .u32 65537))⟩
      · skip
        go_wp2_with fail
        go_meet
        case rel => exact ⟨v, R, n, cc, y, R2, n, ((P.put2 (.int .u32 n)).far (p := ⟨B2, 3, none⟩) hB.symm (.int .u32 n)), ((Q.far (p := ⟨B1, 2, none⟩) hB (.int .u32 n)).put3 (.int .u32 n)), ⟨by omega, by omega, by omega, by omega, by omega, by omega⟩, rightB_no (Or.inr (Or.inl (by omega))), ⟨by omega, by omega, by omega, by omega, by omega, by omega⟩, relB_no (Or.inr (Or.inl (by omega))), ((X.far (p := ⟨B1, 2, none⟩) (Nat.ne_of_gt hB1) (.int .u32 n)).far (p := ⟨B2, 3, none⟩) (Nat.ne_of_gt hB2) (.int .u32 n)), ((Y.far (p := ⟨B1, 2, none⟩) hB3.symm (.int .u32 n)).far (p := ⟨B2, 3, none⟩) hB4.symm (.int .u32 n)), ((hg.out.setCell (a := ⟨B1, 2, none⟩) (Nat.le_of_lt hB1) (.int .u32 n)).setCell (a := ⟨B2, 3, none⟩) (Nat.le_of_lt hB2) (.int .u32 n))⟩
    · rcases Int.lt_or_le n M with h | h <;> rcases Int.lt_or_le n M2 with h' | h'
      · skip
        go_wp2_with fail
        go_region
        go_wp2_with fail
        go_meet
        case rel => exact ⟨v, M, M, cc, y, M2, M2, ((P.put1 (.int .u32 M)).far (p := ⟨B2, 2, none⟩) hB.symm (.int .u32 M2)).drew, ((Q.far (p := ⟨B1, 1, none⟩) hB (.int .u32 M)).put2 (.int .u32 M2)).drew, ⟨by omega, by omega, by omega, by omega, by omega, by omega⟩, rightB_no (Or.inr (Or.inr (Or.inl (by omega)))), ⟨by omega, by omega, by omega, by omega, by omega, by omega⟩, relB_no (Or.inr (Or.inr (Or.inl (by omega)))), ((X.far (p := ⟨B1, 1, none⟩) (Nat.ne_of_gt hB1) (.int .u32 M)).far (p := ⟨B2, 2, none⟩) (Nat.ne_of_gt hB2) (.int .u32 M2)).drew, ((Y.far (p := ⟨B1, 1, none⟩) hB3.symm (.int .u32 M)).far (p := ⟨B2, 2, none⟩) hB4.symm (.int .u32 M2)).drew, ((hg.out.setCell (a := ⟨B1, 1, none⟩) (Nat.le_of_lt hB1) (.int .u32 M)).setCell (a := ⟨B2, 2, none⟩) (Nat.le_of_lt hB2) (.int .u32 M2)).drew⟩
      · skip
        go_wp2_with fail
        go_region
        go_wp2_with fail
        go_meet
        case rel => exact ⟨v, M, M, cc, y, n, M2, ((P.put1 (.int .u32 M)).far (p := ⟨B2, 2, none⟩) hB.symm (.int .u32 n)).drew, ((Q.far (p := ⟨B1, 1, none⟩) hB (.int .u32 M)).put2 (.int .u32 n)).drew, ⟨by omega, by omega, by omega, by omega, by omega, by omega⟩, rightB_no (Or.inr (Or.inr (Or.inl (by omega)))), ⟨by omega, by omega, by omega, by omega, by omega, by omega⟩, relB_no (Or.inr (Or.inr (Or.inl (by omega)))), ((X.far (p := ⟨B1, 1, none⟩) (Nat.ne_of_gt hB1) (.int .u32 M)).far (p := ⟨B2, 2, none⟩) (Nat.ne_of_gt hB2) (.int .u32 n)).drew, ((Y.far (p := ⟨B1, 1, none⟩) hB3.symm (.int .u32 M)).far (p := ⟨B2, 2, none⟩) hB4.symm (.int .u32 n)).drew, ((hg.out.setCell (a := ⟨B1, 1, none⟩) (Nat.le_of_lt hB1) (.int .u32 M)).setCell (a := ⟨B2, 2, none⟩) (Nat.le_of_lt hB2) (.int .u32 n)).drew⟩
      · skip
        go_wp2_with fail
        go_region
        go_wp2_with fail
        go_meet
        case rel => exact ⟨v, n, M, cc, y, M2, M2, ((P.put1 (.int .u32 n)).far (p := ⟨B2, 2, none⟩) hB.symm (.int .u32 M2)).drew, ((Q.far (p := ⟨B1, 1, none⟩) hB (.int .u32 n)).put2 (.int .u32 M2)).drew, ⟨by omega, by omega, by omega, by omega, by omega, by omega⟩, rightB_no (Or.inr (Or.inr (Or.inl (by omega)))), ⟨by omega, by omega, by omega, by omega, by omega, by omega⟩, relB_no (Or.inr (Or.inr (Or.inl (by omega)))), ((X.far (p := ⟨B1, 1, none⟩) (Nat.ne_of_gt hB1) (.int .u32 n)).far (p := ⟨B2, 2, none⟩) (Nat.ne_of_gt hB2) (.int .u32 M2)).drew, ((Y.far (p := ⟨B1, 1, none⟩) hB3.symm (.int .u32 n)).far (p := ⟨B2, 2, none⟩) hB4.symm (.int .u32 M2)).drew, ((hg.out.setCell (a := ⟨B1, 1, none⟩) (Nat.le_of_lt hB1) (.int .u32 n)).setCell (a := ⟨B2, 2, none⟩) (Nat.le_of_lt hB2) (.int .u32 M2)).drew⟩
      · skip
        go_wp2_with fail
        go_region
        go_wp2_with fail
        go_meet
        case rel => exact ⟨v, n, M, cc, y, n, M2, ((P.put1 (.int .u32 n)).far (p := ⟨B2, 2, none⟩) hB.symm (.int .u32 n)).drew, ((Q.far (p := ⟨B1, 1, none⟩) hB (.int .u32 n)).put2 (.int .u32 n)).drew, ⟨by omega, by omega, by omega, by omega, by omega, by omega⟩, rightB_no (Or.inr (Or.inr (Or.inl (by omega)))), ⟨by omega, by omega, by omega, by omega, by omega, by omega⟩, relB_no (Or.inr (Or.inr (Or.inl (by omega)))), ((X.far (p := ⟨B1, 1, none⟩) (Nat.ne_of_gt hB1) (.int .u32 n)).far (p := ⟨B2, 2, none⟩) (Nat.ne_of_gt hB2) (.int .u32 n)).drew, ((Y.far (p := ⟨B1, 1, none⟩) hB3.symm (.int .u32 n)).far (p := ⟨B2, 2, none⟩) hB4.symm (.int .u32 n)).drew, ((hg.out.setCell (a := ⟨B1, 1, none⟩) (Nat.le_of_lt hB1) (.int .u32 n)).setCell (a := ⟨B2, 2, none⟩) (Nat.le_of_lt hB2) (.int .u32 n)).drew⟩
    · rcases Int.lt_or_le M 2 with h | h
      · go_wp2_with fail
        go_meet
        case rel => exact ⟨18446744073709551615, 1, 2, true, 0, R2, M2, ((P.set (.int .u64 18446744073709551615) (.int .u32 1) (.int .u32 2)).far (p := ⟨B2, 0, none⟩) hB.symm (.bool true)).far (p := ⟨B2, 1, none⟩) hB.symm (.int .u64 0), ((Q.far3 hB (.int .u64 18446744073709551615) (.int .u32 1) (.int .u32 2)).put0 (.bool true)).put1 (.int .u64 0), ⟨by omega, by omega, by omega, by omega, by omega, by omega⟩, rightB_no (Or.inr (Or.inr (Or.inr ⟨rfl, by omega⟩))), ⟨by omega, by omega, by omega, by omega, by omega, by omega⟩, relB_no (Or.inr (Or.inr (Or.inr ⟨rfl, rfl⟩))), ((X.far3 (Nat.ne_of_gt hB1) (.int .u64 18446744073709551615) (.int .u32 1) (.int .u32 2)).far (p := ⟨B2, 0, none⟩) (Nat.ne_of_gt hB2) (.bool true)).far (p := ⟨B2, 1, none⟩) (Nat.ne_of_gt hB2) (.int .u64 0), ((Y.far3 hB3.symm (.int .u64 18446744073709551615) (.int .u32 1) (.int .u32 2)).far (p := ⟨B2, 0, none⟩) hB4.symm (.bool true)).far (p := ⟨B2, 1, none⟩) hB4.symm (.int .u64 0), ((hg.out.set3 (B := B1) (Nat.le_of_lt hB1) (.int .u64 18446744073709551615) (.int .u32 1) (.int .u32 2)).setCell (a := ⟨B2, 0, none⟩) (Nat.le_of_lt hB2) (.bool true)).setCell (a := ⟨B2, 1, none⟩) (Nat.le_of_lt hB2) (.int .u64 0)⟩
      · go_wp2_with fail
        go_meet
        case rel => exact ⟨18446744073709551615, 1, M, true, 0, R2, M2, ((P.set (.int .u64 18446744073709551615) (.int .u32 1) (.int .u32 M)).far (p := ⟨B2, 0, none⟩) hB.symm (.bool true)).far (p := ⟨B2, 1, none⟩) hB.symm (.int .u64 0), ((Q.far3 hB (.int .u64 18446744073709551615) (.int .u32 1) (.int .u32 M)).put0 (.bool true)).put1 (.int .u64 0), ⟨by omega, by omega, by omega, by omega, by omega, by omega⟩, rightB_no (Or.inr (Or.inr (Or.inr ⟨rfl, by omega⟩))), ⟨by omega, by omega, by omega, by omega, by omega, by omega⟩, relB_no (Or.inr (Or.inr (Or.inr ⟨rfl, rfl⟩))), ((X.far3 (Nat.ne_of_gt hB1) (.int .u64 18446744073709551615) (.int .u32 1) (.int .u32 M)).far (p := ⟨B2, 0, none⟩) (Nat.ne_of_gt hB2) (.bool true)).far (p := ⟨B2, 1, none⟩) (Nat.ne_of_gt hB2) (.int .u64 0), ((Y.far3 hB3.symm (.int .u64 18446744073709551615) (.int .u32 1) (.int .u32 M)).far (p := ⟨B2, 0, none⟩) hB4.symm (.bool true)).far (p := ⟨B2, 1, none⟩) hB4.symm (.int .u64 0), ((hg.out.set3 (B := B1) (Nat.le_of_lt hB1) (.int .u64 18446744073709551615) (.int .u32 1) (.int .u32 M)).setCell (a := ⟨B2, 0, none⟩) (Nat.le_of_lt hB2) (.bool true)).setCell (a := ⟨B2, 1, none⟩) (Nat.le_of_lt hB2) (.int .u64 0)⟩
  case rest =>
  clear P Q X Y FP FQ hg hB hB1 hB2 hB3 hB4 hq0' hq1' n0 n1 g0 g1
  obtain ⟨pv, pr, pw, qb, qy, qr, qw, P, Q, hpb, hpn, hqb, hqn, X, Y, hg'⟩ := hcut
  have hg := Lib.hid hg'
  have H1 := fun w => Lib.hid (off_f (f := f) w hpb hpn)
  have H2 := fun w => Lib.hid (on_f (f := f) w hqb hqn)
  have H3 := fun w => Lib.hid (cmp_f (b := qb) (b' := cc) w hqb HB.out.2.2.1 (Or.inl hqn))
  have H4 := fun w => Lib.hid (cmp_f (b := cc) (b' := qb) w HB.out.2.2.1 hqb (Or.inr hqn))
  have H5 := fun w A len cap => Lib.hid (through_f w hpb hpn A len cap)
  have H6 := fun w B hB => Lib.hid (all_three' (f := f) (t := 5) w B hB HB.out.1 HB.out.2.1 hpb hpn ⟨f0, f1⟩ (by omega))
  have H7 := fun w => Lib.hid (reach_f w hqb hqn)
  have H8 := fun w => Lib.hid (relRight_f w hqb hqn)
  clear hg' hpb hpn hqb hqn hm0 hm1 hm2 hm3 hv0 hv1 hy0 hy1 hr0 hr1 hq0 hq1
  have P_0 := P.c0
  have P_1 := P.c1
  have P_2 := P.c2
  have P_l := P.lt
  have Q_0 := Q.c0
  have Q_1 := Q.c1
  have Q_2 := Q.c2
  have Q_3 := Q.c3
  have Q_l := Q.lt
  have X_0 := X.c0
  have X_1 := X.c1
  have X_2 := X.c2
  have X_l := X.lt
  have Y_0 := Y.c0
  have Y_1 := Y.c1
  have Y_2 := Y.c2
  have Y_3 := Y.c3
  have Y_l := Y.lt
  go_wp2_with fail
  clear P_0 P_1 P_2 P_l Q_0 Q_1 Q_2 Q_3 Q_l X_0 X_1 X_2 X_l Y_0 Y_1 Y_2 Y_3 Y_l
  refine (H1 _).out.mono ?_
  rintro e w2 ⟨rfl, hw2⟩
  have kw2 := hw2.kp
  replace P := C3.kp (by repeat with_reducible first | exact P | apply C3.alloc | apply C3.drew | apply C3.drewN) kw2
  replace Q := C4.kp (by repeat with_reducible first | exact Q | apply C4.alloc | apply C4.drew | apply C4.drewN) kw2
  replace X := C3.kp (by repeat with_reducible first | exact X | apply C3.alloc | apply C3.drew | apply C3.drewN) kw2
  replace Y := C4.kp (by repeat with_reducible first | exact Y | apply C4.alloc | apply C4.drew | apply C4.drewN) kw2
  replace hg := Lib.hid (GrewS.trans (by repeat with_reducible first | exact hg.out | apply GrewS.alloc | apply GrewS.drew | apply GrewS.drewN) hw2)
  clear kw2 hw2
  have P_0 := P.c0
  have P_1 := P.c1
  have P_2 := P.c2
  have P_l := P.lt
  have Q_0 := Q.c0
  have Q_1 := Q.c1
  have Q_2 := Q.c2
  have Q_3 := Q.c3
  have Q_l := Q.lt
  have X_0 := X.c0
  have X_1 := X.c1
  have X_2 := X.c2
  have X_l := X.lt
  have Y_0 := Y.c0
  have Y_1 := Y.c1
  have Y_2 := Y.c2
  have Y_3 := Y.c3
  have Y_l := Y.lt
  clear H1
  go_wp2_with fail
  clear P_0 P_1 P_2 P_l Q_0 Q_1 Q_2 Q_3 Q_l X_0 X_1 X_2 X_l Y_0 Y_1 Y_2 Y_3 Y_l
  refine (H2 _).out.mono ?_
  rintro e w3 ⟨rfl, hw3⟩
  have kw3 := hw3.kp
  replace P := C3.kp (by repeat with_reducible first | exact P | apply C3.alloc | apply C3.drew | apply C3.drewN) kw3
  replace Q := C4.kp (by repeat with_reducible first | exact Q | apply C4.alloc | apply C4.drew | apply C4.drewN) kw3
  replace X := C3.kp (by repeat with_reducible first | exact X | apply C3.alloc | apply C3.drew | apply C3.drewN) kw3
  replace Y := C4.kp (by repeat with_reducible first | exact Y | apply C4.alloc | apply C4.drew | apply C4.drewN) kw3
  have A := C4.kp (C4.new w2 _ _ _ _ _) kw3
  replace hg := Lib.hid (GrewS.trans (by repeat with_reducible first | exact hg.out | apply GrewS.alloc | apply GrewS.drew | apply GrewS.drewN) hw3)
  clear kw3 hw3
  have P_0 := P.c0
  have P_1 := P.c1
  have P_2 := P.c2
  have P_l := P.lt
  have Q_0 := Q.c0
  have Q_1 := Q.c1
  have Q_2 := Q.c2
  have Q_3 := Q.c3
  have Q_l := Q.lt
  have X_0 := X.c0
  have X_1 := X.c1
  have X_2 := X.c2
  have X_l := X.lt
  have Y_0 := Y.c0
  have Y_1 := Y.c1
  have Y_2 := Y.c2
  have Y_3 := Y.c3
  have Y_l := Y.lt
  have A_0 := A.c0
  have A_1 := A.c1
  have A_2 := A.c2
  have A_3 := A.c3
  have A_l := A.lt
  clear H2
  go_wp2_with fail
  clear P_0 P_1 P_2 P_l Q_0 Q_1 Q_2 Q_3 Q_l X_0 X_1 X_2 X_l Y_0 Y_1 Y_2 Y_3 Y_l A_0 A_1 A_2 A_3 A_l
  refine (H3 _).out.mono ?_
  rintro e w4 ⟨rfl, hw4⟩
  have kw4 := hw4.kp
  replace P := C3.kp (by repeat with_reducible first | exact P | apply C3.alloc | apply C3.drew | apply C3.drewN) kw4
  replace Q := C4.kp (by repeat with_reducible first | exact Q | apply C4.alloc | apply C4.drew | apply C4.drewN) kw4
  replace X := C3.kp (by repeat with_reducible first | exact X | apply C3.alloc | apply C3.drew | apply C3.drewN) kw4
  replace Y := C4.kp (by repeat with_reducible first | exact Y | apply C4.alloc | apply C4.drew | apply C4.drewN) kw4
  replace A := C4.kp (by repeat with_reducible first | exact A | apply C4.alloc | apply C4.drew | apply C4.drewN) kw4
  have B := C3.kp (C3.new w3 _ _ _ _) kw4
  replace hg := Lib.hid (GrewS.trans (by repeat with_reducible first | exact hg.out | apply GrewS.alloc | apply GrewS.drew | apply GrewS.drewN) hw4)
  clear kw4 hw4
  have P_0 := P.c0
  have P_1 := P.c1
  have P_2 := P.c2
  have P_l := P.lt
  have Q_0 := Q.c0
  have Q_1 := Q.c1
  have Q_2 := Q.c2
  have Q_3 := Q.c3
  have Q_l := Q.lt
  have X_0 := X.c0
  have X_1 := X.c1
  have X_2 := X.c2
  have X_l := X.lt
  have Y_0 := Y.c0
  have Y_1 := Y.c1
  have Y_2 := Y.c2
  have Y_3 := Y.c3
  have Y_l := Y.lt
  have A_0 := A.c0
  have A_1 := A.c1
  have A_2 := A.c2
  have A_3 := A.c3
  have A_l := A.lt
  have B_0 := B.c0
  have B_1 := B.c1
  have B_2 := B.c2
  have B_l := B.lt
  clear H3
  go_wp2_with fail
  clear P_0 P_1 P_2 P_l Q_0 Q_1 Q_2 Q_3 Q_l X_0 X_1 X_2 X_l Y_0 Y_1 Y_2 Y_3 Y_l A_0 A_1 A_2 A_3 A_l B_0 B_1 B_2 B_l
  refine (H4 _).out.mono ?_
  rintro e w5 ⟨rfl, hw5⟩
  have kw5 := hw5.kp
  replace P := C3.kp (by repeat with_reducible first | exact P | apply C3.alloc | apply C3.drew | apply C3.drewN) kw5
  replace Q := C4.kp (by repeat with_reducible first | exact Q | apply C4.alloc | apply C4.drew | apply C4.drewN) kw5
  replace X := C3.kp (by repeat with_reducible first | exact X | apply C3.alloc | apply C3.drew | apply C3.drewN) kw5
  replace Y := C4.kp (by repeat with_reducible first | exact Y | apply C4.alloc | apply C4.drew | apply C4.drewN) kw5
  replace A := C4.kp (by repeat with_reducible first | exact A | apply C4.alloc | apply C4.drew | apply C4.drewN) kw5
  replace B := C3.kp (by repeat with_reducible first | exact B | apply C3.alloc | apply C3.drew | apply C3.drewN) kw5
  replace hg := Lib.hid (GrewS.trans (by repeat with_reducible first | exact hg.out | apply GrewS.alloc | apply GrewS.drew | apply GrewS.drewN) hw5)
  clear kw5 hw5
  have P_0 := P.c0
  have P_1 := P.c1
  have P_2 := P.c2
  have P_l := P.lt
  have Q_0 := Q.c0
  have Q_1 := Q.c1
  have Q_2 := Q.c2
  have Q_3 := Q.c3
  have Q_l := Q.lt
  have X_0 := X.c0
  have X_1 := X.c1
  have X_2 := X.c2
  have X_l := X.lt
  have Y_0 := Y.c0
  have Y_1 := Y.c1
  have Y_2 := Y.c2
  have Y_3 := Y.c3
  have Y_l := Y.lt
  have A_0 := A.c0
  have A_1 := A.c1
  have A_2 := A.c2
  have A_3 := A.c3
  have A_l := A.lt
  have B_0 := B.c0
  have B_1 := B.c1
  have B_2 := B.c2
  have B_l := B.lt
  clear H4
  go_wp2_with fail
  clear P_0 P_1 P_2 P_l Q_0 Q_1 Q_2 Q_3 Q_l X_0 X_1 X_2 X_l Y_0 Y_1 Y_2 Y_3 Y_l A_0 A_1 A_2 A_3 A_l B_0 B_1 B_2 B_l
  refine (H5 _ _ _ _).out.mono ?_
  rintro e w6 ⟨rfl, hw6⟩
  have kw6 := hw6.kp
  replace P := C3.kp (by repeat with_reducible first | exact P | apply C3.alloc | apply C3.drew | apply C3.drewN) kw6
  replace Q := C4.kp (by repeat with_reducible first | exact Q | apply C4.alloc | apply C4.drew | apply C4.drewN) kw6
  replace X := C3.kp (by repeat with_reducible first | exact X | apply C3.alloc | apply C3.drew | apply C3.drewN) kw6
  replace Y := C4.kp (by repeat with_reducible first | exact Y | apply C4.alloc | apply C4.drew | apply C4.drewN) kw6
  replace A := C4.kp (by repeat with_reducible first | exact A | apply C4.alloc | apply C4.drew | apply C4.drewN) kw6
  replace B := C3.kp (by repeat with_reducible first | exact B | apply C3.alloc | apply C3.drew | apply C3.drewN) kw6
  replace hg := Lib.hid (GrewS.trans (by repeat with_reducible first | exact hg.out | apply GrewS.alloc | apply GrewS.drew | apply GrewS.drewN) hw6)
  clear kw6 hw6
  have P_0 := P.c0
  have P_1 := P.c1
  have P_2 := P.c2
  have P_l := P.lt
  have Q_0 := Q.c0
  have Q_1 := Q.c1
  have Q_2 := Q.c2
  have Q_3 := Q.c3
  have Q_l := Q.lt
  have X_0 := X.c0
  have X_1 := X.c1
  have X_2 := X.c2
  have X_l := X.lt
  have Y_0 := Y.c0
  have Y_1 := Y.c1
  have Y_2 := Y.c2
  have Y_3 := Y.c3
  have Y_l := Y.lt
  have A_0 := A.c0
  have A_1 := A.c1
  have A_2 := A.c2
  have A_3 := A.c3
  have A_l := A.lt
  have B_0 := B.c0
  have B_1 := B.c1
  have B_2 := B.c2
  have B_l := B.lt
  go_wp2_with fail
  clear P_0 P_1 P_2 P_l Q_0 Q_1 Q_2 Q_3 Q_l X_0 X_1 X_2 X_l Y_0 Y_1 Y_2 Y_3 Y_l A_0 A_1 A_2 A_3 A_l B_0 B_1 B_2 B_l
  refine (H6 (w6.alloc (.cells #[.int .u64 0, .int .u32 0, .int .u32 0] 25)) (w6.heap.size + 1) (by simp)).out.mono ?_
  rintro e w7 ⟨rfl, hk⟩
  have C := C3.kp (C3.new w6 _ _ _ _) hk
  replace P := (P.alloc _).kp hk
  replace Q := (Q.alloc _).kp hk
  replace X := (X.alloc _).kp hk
  replace Y := (Y.alloc _).kp hk
  replace A := (A.alloc _).kp hk
  replace B := (B.alloc _).kp hk
  have HK := Lib.hid ((hg.out.alloc _).kp.trans (hk.mono (hg.out.alloc _).kp.size))
  clear hk H6 hg
  have P_0 := P.c0
  have P_1 := P.c1
  have P_2 := P.c2
  have P_l := P.lt
  have Q_0 := Q.c0
  have Q_1 := Q.c1
  have Q_2 := Q.c2
  have Q_3 := Q.c3
  have Q_l := Q.lt
  have X_0 := X.c0
  have X_1 := X.c1
  have X_2 := X.c2
  have X_l := X.lt
  have Y_0 := Y.c0
  have Y_1 := Y.c1
  have Y_2 := Y.c2
  have Y_3 := Y.c3
  have Y_l := Y.lt
  have A_0 := A.c0
  have A_1 := A.c1
  have A_2 := A.c2
  have A_3 := A.c3
  have A_l := A.lt
  have B_0 := B.c0
  have B_1 := B.c1
  have B_2 := B.c2
  have B_l := B.lt
  have C_0 := C.c0
  have C_1 := C.c1
  have C_2 := C.c2
  have C_l := C.lt
  go_wp2_with fail
  clear P_0 P_1 P_2 P_l Q_0 Q_1 Q_2 Q_3 Q_l X_0 X_1 X_2 X_l Y_0 Y_1 Y_2 Y_3 Y_l A_0 A_1 A_2 A_3 A_l B_0 B_1 B_2 B_l C_0 C_1 C_2 C_l
  refine (H7 _).out.mono ?_
  rintro e w8 ⟨rfl, hg1⟩
  replace P := P.kp hg1.kp
  replace Q := Q.kp hg1.kp
  replace X := X.kp hg1.kp
  replace Y := Y.kp hg1.kp
  replace A := A.kp hg1.kp
  replace B := B.kp hg1.kp
  replace C := C.kp hg1.kp
  replace HK := Lib.hid (HK.out.trans (hg1.kp.mono HK.out.size))
  clear hg1 H7
  have P_0 := P.c0
  have P_1 := P.c1
  have P_2 := P.c2
  have P_l := P.lt
  have Q_0 := Q.c0
  have Q_1 := Q.c1
  have Q_2 := Q.c2
  have Q_3 := Q.c3
  have Q_l := Q.lt
  have X_0 := X.c0
  have X_1 := X.c1
  have X_2 := X.c2
  have X_l := X.lt
  have Y_0 := Y.c0
  have Y_1 := Y.c1
  have Y_2 := Y.c2
  have Y_3 := Y.c3
  have Y_l := Y.lt
  have A_0 := A.c0
  have A_1 := A.c1
  have A_2 := A.c2
  have A_3 := A.c3
  have A_l := A.lt
  have B_0 := B.c0
  have B_1 := B.c1
  have B_2 := B.c2
  have B_l := B.lt
  have C_0 := C.c0
  have C_1 := C.c1
  have C_2 := C.c2
  have C_l := C.lt
  go_wp2_with fail
  clear P_0 P_1 P_2 P_l Q_0 Q_1 Q_2 Q_3 Q_l X_0 X_1 X_2 X_l Y_0 Y_1 Y_2 Y_3 Y_l A_0 A_1 A_2 A_3 A_l B_0 B_1 B_2 B_l C_0 C_1 C_2 C_l
  refine (H5 _ _ _ _).out.mono ?_
  rintro e w9 ⟨rfl, hg1⟩
  replace P := P.kp hg1.kp
  replace Q := Q.kp hg1.kp
  replace X := X.kp hg1.kp
  replace Y := Y.kp hg1.kp
  replace A := A.kp hg1.kp
  replace B := B.kp hg1.kp
  replace C := C.kp hg1.kp
  replace HK := Lib.hid (HK.out.trans (hg1.kp.mono HK.out.size))
  clear hg1 H5
  have P_0 := P.c0
  have P_1 := P.c1
  have P_2 := P.c2
  have P_l := P.lt
  have Q_0 := Q.c0
  have Q_1 := Q.c1
  have Q_2 := Q.c2
  have Q_3 := Q.c3
  have Q_l := Q.lt
  have X_0 := X.c0
  have X_1 := X.c1
  have X_2 := X.c2
  have X_l := X.lt
  have Y_0 := Y.c0
  have Y_1 := Y.c1
  have Y_2 := Y.c2
  have Y_3 := Y.c3
  have Y_l := Y.lt
  have A_0 := A.c0
  have A_1 := A.c1
  have A_2 := A.c2
  have A_3 := A.c3
  have A_l := A.lt
  have B_0 := B.c0
  have B_1 := B.c1
  have B_2 := B.c2
  have B_l := B.lt
  have C_0 := C.c0
  have C_1 := C.c1
  have C_2 := C.c2
  have C_l := C.lt
  go_wp2_with fail
  clear P_0 P_1 P_2 P_l Q_0 Q_1 Q_2 Q_3 Q_l X_0 X_1 X_2 X_l Y_0 Y_1 Y_2 Y_3 Y_l A_0 A_1 A_2 A_3 A_l B_0 B_1 B_2 B_l C_0 C_1 C_2 C_l
  have hcl : ∀ j : Nat, j < 8 → ((w9.alloc (.cells #[.int .u64 0, .int .u32 0, .int .u32 0] 25)).alloc (.cells #[.int .i64 2, .int .i64 2, .int .i64 2, .int .i64 2, .int .i64 2, .int .i64 2, .int .i64 2, .int .i64 2] 30)).cell? ⟨w9.heap.size + 1, j, none⟩ = some (.int .i64 2) := by
    intro j hj
    have e : w9.heap.size + 1 = (w9.alloc (.cells #[.int .u64 0, .int .u32 0, .int .u32 0] 25)).heap.size := by simp
    rw [e]
    match j, hj with
    | 0, _ => simp
    | 1, _ => simp
    | 2, _ => simp
    | 3, _ => simp
    | 4, _ => simp
    | 5, _ => simp
    | 6, _ => simp
    | 7, _ => simp
  have hs9 := HK.out.size
  have HK2 := Lib.hid ((HK.out.alloc hs9 (.cells #[.int .u64 0, .int .u32 0, .int .u32 0] 25)).alloc (by simp; omega) (.cells #[.int .i64 2, .int .i64 2, .int .i64 2, .int .i64 2, .int .i64 2, .int .i64 2, .int .i64 2, .int .i64 2] 30))
  have HCL := Lib.hid hcl
  clear hcl hs9 HK
  replace P := (P.alloc (.cells #[.int .u64 0, .int .u32 0, .int .u32 0] 25)).alloc (.cells #[.int .i64 2, .int .i64 2, .int .i64 2, .int .i64 2, .int .i64 2, .int .i64 2, .int .i64 2, .int .i64 2] 30)
  replace Q := (Q.alloc (.cells #[.int .u64 0, .int .u32 0, .int .u32 0] 25)).alloc (.cells #[.int .i64 2, .int .i64 2, .int .i64 2, .int .i64 2, .int .i64 2, .int .i64 2, .int .i64 2, .int .i64 2] 30)
  replace X := (X.alloc (.cells #[.int .u64 0, .int .u32 0, .int .u32 0] 25)).alloc (.cells #[.int .i64 2, .int .i64 2, .int .i64 2, .int .i64 2, .int .i64 2, .int .i64 2, .int .i64 2, .int .i64 2] 30)
  replace Y := (Y.alloc (.cells #[.int .u64 0, .int .u32 0, .int .u32 0] 25)).alloc (.cells #[.int .i64 2, .int .i64 2, .int .i64 2, .int .i64 2, .int .i64 2, .int .i64 2, .int .i64 2, .int .i64 2] 30)
  replace A := (A.alloc (.cells #[.int .u64 0, .int .u32 0, .int .u32 0] 25)).alloc (.cells #[.int .i64 2, .int .i64 2, .int .i64 2, .int .i64 2, .int .i64 2, .int .i64 2, .int .i64 2, .int .i64 2] 30)
  replace B := (B.alloc (.cells #[.int .u64 0, .int .u32 0, .int .u32 0] 25)).alloc (.cells #[.int .i64 2, .int .i64 2, .int .i64 2, .int .i64 2, .int .i64 2, .int .i64 2, .int .i64 2, .int .i64 2] 30)
  replace C := (C.alloc (.cells #[.int .u64 0, .int .u32 0, .int .u32 0] 25)).alloc (.cells #[.int .i64 2, .int .i64 2, .int .i64 2, .int .i64 2, .int .i64 2, .int .i64 2, .int .i64 2, .int .i64 2] 30)
  generalize (w9.alloc (.cells #[.int .u64 0, .int .u32 0, .int .u32 0] 25)).alloc (.cells #[.int .i64 2, .int .i64 2, .int .i64 2, .int .i64 2, .int .i64 2, .int .i64 2, .int .i64 2, .int .i64 2] 30) = wz at *
  generalize w9.heap.size + 1 = pz at *
  generalize w9.heap.size = pd at *
  go_loop [133] (fun i => ∃ k : Nat, k ≤ 8 ∧ i = .int .i64 k) (fun i => 8 - (intOf i).toNat)
  case atStart => exact ⟨0, by omega, rfl⟩
  case round =>
    obtain ⟨k, hk, rfl⟩ := hrel
    by_cases hlt : k < 8
    · have c0 := HCL.out k hlt
      have hki : (k : Int) < 8 := by omega
      go_wp2_with fail
      go_round
      case rel => exact ⟨k + 1, by omega, by go_num⟩
      case measure => simp [intOf]; omega
    · obtain rfl : k = 8 := by omega
      have P_0 := P.c0
      have P_1 := P.c1
      have P_2 := P.c2
      have P_l := P.lt
      have Q_0 := Q.c0
      have Q_1 := Q.c1
      have Q_2 := Q.c2
      have Q_3 := Q.c3
      have Q_l := Q.lt
      have X_0 := X.c0
      have X_1 := X.c1
      have X_2 := X.c2
      have X_l := X.lt
      have Y_0 := Y.c0
      have Y_1 := Y.c1
      have Y_2 := Y.c2
      have Y_3 := Y.c3
      have Y_l := Y.lt
      have A_0 := A.c0
      have A_1 := A.c1
      have A_2 := A.c2
      have A_3 := A.c3
      have A_l := A.lt
      have B_0 := B.c0
      have B_1 := B.c1
      have B_2 := B.c2
      have B_l := B.lt
      have C_0 := C.c0
      have C_1 := C.c1
      have C_2 := C.c2
      have C_l := C.lt
      go_wp2_with fail
      clear P_0 P_1 P_2 P_l Q_0 Q_1 Q_2 Q_3 Q_l X_0 X_1 X_2 X_l Y_0 Y_1 Y_2 Y_3 Y_l A_0 A_1 A_2 A_3 A_l B_0 B_1 B_2 B_l C_0 C_1 C_2 C_l
      refine (H8 _).out.mono ?_
      rintro e wa ⟨rfl, hg1⟩
      replace P := P.kp hg1.kp
      replace Q := Q.kp hg1.kp
      replace X := X.kp hg1.kp
      replace Y := Y.kp hg1.kp
      replace A := A.kp hg1.kp
      replace B := B.kp hg1.kp
      replace C := C.kp hg1.kp
      replace HK2 := Lib.hid (HK2.out.trans (hg1.kp.mono HK2.out.size))
      clear hg1
      have P_0 := P.c0
      have P_1 := P.c1
      have P_2 := P.c2
      have P_l := P.lt
      have Q_0 := Q.c0
      have Q_1 := Q.c1
      have Q_2 := Q.c2
      have Q_3 := Q.c3
      have Q_l := Q.lt
      have X_0 := X.c0
      have X_1 := X.c1
      have X_2 := X.c2
      have X_l := X.lt
      have Y_0 := Y.c0
      have Y_1 := Y.c1
      have Y_2 := Y.c2
      have Y_3 := Y.c3
      have Y_l := Y.lt
      have A_0 := A.c0
      have A_1 := A.c1
      have A_2 := A.c2
      have A_3 := A.c3
      have A_l := A.lt
      have B_0 := B.c0
      have B_1 := B.c1
      have B_2 := B.c2
      have B_l := B.lt
      have C_0 := C.c0
      have C_1 := C.c1
      have C_2 := C.c2
      have C_l := C.lt
      go_wp2_with fail
      clear P_0 P_1 P_2 P_l Q_0 Q_1 Q_2 Q_3 Q_l X_0 X_1 X_2 X_l Y_0 Y_1 Y_2 Y_3 Y_l A_0 A_1 A_2 A_3 A_l B_0 B_1 B_2 B_l C_0 C_1 C_2 C_l
      refine (HY _).out.mono ?_
      rintro e wb ⟨rfl, hg1⟩
      replace P := P.kp hg1.kp
      replace Q := Q.kp hg1.kp
      replace X := X.kp hg1.kp
      replace Y := Y.kp hg1.kp
      replace A := A.kp hg1.kp
      replace B := B.kp hg1.kp
      replace C := C.kp hg1.kp
      replace HK2 := Lib.hid (HK2.out.trans (hg1.kp.mono HK2.out.size))
      clear hg1
      have P_0 := P.c0
      have P_1 := P.c1
      have P_2 := P.c2
      have P_l := P.lt
      have Q_0 := Q.c0
      have Q_1 := Q.c1
      have Q_2 := Q.c2
      have Q_3 := Q.c3
      have Q_l := Q.lt
      have X_0 := X.c0
      have X_1 := X.c1
      have X_2 := X.c2
      have X_l := X.lt
      have Y_0 := Y.c0
      have Y_1 := Y.c1
      have Y_2 := Y.c2
      have Y_3 := Y.c3
      have Y_l := Y.lt
      have A_0 := A.c0
      have A_1 := A.c1
      have A_2 := A.c2
      have A_3 := A.c3
      have A_l := A.lt
      have B_0 := B.c0
      have B_1 := B.c1
      have B_2 := B.c2
      have B_l := B.lt
      have C_0 := C.c0
      have C_1 := C.c1
      have C_2 := C.c2
      have C_l := C.lt
      go_wp2_with fail
      all_goals
        go_ret
        exact ⟨by first | rfl | (simp; done), HK2.out⟩
theorem law19 {v r w y ry wy : Int} {bb : Bool} {W : World} (b : EB v r w) (b2 : EB y ry wy) (g : Int) (wg : (Lit.int .u8 g).wf = true) (n : Int) (wn : (Lit.int .u32 n).wf = true) (f : Int) (wf : (Lit.int .u64 f).wf = true) :
    Calls Try.prog 19 #[ent v r w, rel bb y ry wy, .int .u8 g, .int .u32 n, .int .u64 f] W fun e w' => e = .returned (.bool true) ∧ Kp W.heap.size W w' :=
  mw_any W b b2 (bounds_u64 wf).1 (bounds_u64 wf).2 (bounds_u32 wn).1 (bounds_u32 wn).2 (bounds_u8 wg).1 (bounds_u8 wg).2
end Go.Proofs.Ytmlapjaccmoleaa
