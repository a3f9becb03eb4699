/-
  The contract of the reference's Sum.
-/
import Derived.Test.YtjffikiebeneaaaRefPa17
namespace Go.Proofs.Ytjffikiebeneaaa
open Go.RowKit

set_option maxRecDepth 100000 in
set_option maxHeartbeats 2000000 in
theorem refSum_t (W : World) (A : Option Addr) (len cap : Nat) (es : List P2) (hlen : es.length = len) (hmax : (len : Int) ≤ 3000000000000000000) (hc : IsPrs W A len es) (hg : rights es = true) :
    Calls Try.prog 46 #[.slice A len cap] W fun e w' => e = .returned (.tuple #[shr (sum3 es).1 (sum3 es).2.1, .int .i64 (sum3 es).2.2]) ∧ GrewS W w' := by
  have HG := Lib.hid (show ∀ i, i < len → rightP (es.getD i p0) = true from fun i hi => all_right hg (by omega))
  have HPE := Lib.hid (show sum3 es = foldS plus3 0 1 es by unfold sum3; rw [hg]; rfl)
  generalize sum3 es = P at *
  clear hg
  have HL := Lib.hid hlen
  have HC := Lib.hid hc
  have hm : (len : Int) ≤ 3000000000000000000 := hmax
  clear hc
  go_enter Try.func46, Try.ntmps46
  go_wp2_with fail
  have HR0 := Lib.hid (show C2 (W.alloc (.cells #[.int .i64 0, .int .i64 0] 67)) W.heap.size (.int .i64 0) (.int .i64 0) from C2.new W _ _ _)
  have HF0 := Lib.hid (show Fz (W.alloc (.cells #[.int .i64 0, .int .i64 0] 67)) W.heap.size from Fz.new W _ _)
  have HG0 := Lib.hid (show GrewS W (W.alloc (.cells #[.int .i64 0, .int .i64 0] 67)) from (GrewS.refl W).alloc _)
  generalize W.alloc (.cells #[.int .i64 0, .int .i64 0] 67) = W1 at *
  go_loopw [4] (fun i wr => ∃ j : Nat, j ≤ len ∧ i = .int .i64 j ∧ GrewS W1 wr) (fun i _ => len - (intOf i).toNat)
  case atStart => exact ⟨0, Nat.zero_le _, rfl, GrewS.refl _⟩
  case round =>
    obtain ⟨j, hj, rfl, hgr⟩ := hrel
    by_cases hlt : j < len
    · obtain ⟨b, off, rfl, hb, c0, c1⟩ := (HC.out.kp (HG0.out.trans hgr).kp) j (by omega)
      have hr := HG.out j hlt
      have hji : (j : Int) < len := by omega
      unfold rightP at hr
      generalize (es.getD j p0).1 = v0 at *
      generalize (es.getD j p0).2 = v1 at *
      have H := fun W => Lib.hid (refRight_t W hr)
      have HGR := Lib.hid hgr
      clear hgr hr
      go_wp2_with fail
      refine (H _).out.mono ?_
      rintro e w1 ⟨rfl, hg1⟩
      have HGR2 := Lib.hid (HGR.out.trans hg1.s)
      clear hg1 HGR c0 c1 hb H
      go_wp2_with fail
      go_roundw
      case rel => exact ⟨j + 1, by omega, by go_num, HGR2.out⟩
      case measure => simp [intOf]; omega
    · have hje : j = len := by omega
      subst hje
      have hno : ¬ (j : Int) < j := by omega
      have R := HR0.out.kp hgr.kp
      have FR := HF0.out.kp hgr.kp
      have hg0 := Lib.hid (HG0.out.trans hgr)
      clear hgr hlt hj HR0 HF0 HG0
      go_wp2_with fail
      have hsz := hg0.out.kp.size
      have hlt0 := R.lt
      have XN := C2.new wr (.int .i64 0) (.int .i64 1) 67
      have FXN := Fz.new wr #[.int .i64 0, .int .i64 1] 67
      replace R := R.alloc (.cells #[.int .i64 0, .int .i64 1] 67)
      replace FR := FR.alloc (.cells #[.int .i64 0, .int .i64 1] 67)
      replace hg0 := Lib.hid (hg0.out.alloc (.cells #[.int .i64 0, .int .i64 1] 67))
      generalize wr.alloc (.cells #[.int .i64 0, .int .i64 1] 67) = W2 at *
      generalize wr.heap.size = bX at *
      go_loopw [6] (fun i wr => ∃ (k : Nat) (p q : Int), k ≤ j ∧ i = .int .i64 k ∧ GrewS W wr ∧ C2 wr bX (.int .i64 p) (.int .i64 q) ∧ Fz wr bX ∧ C2 wr W.heap.size (.int .i64 0) (.int .i64 0) ∧ Fz wr W.heap.size ∧ foldS plus3 0 1 es = foldS plus3 p q (es.drop k)) (fun i _ => j - (intOf i).toNat)
      case atStart => exact ⟨0, 0, 1, Nat.zero_le _, rfl, hg0.out, XN, FXN, R, FR, rfl⟩
      case round =>
        clear XN FXN R FR hg0
        obtain ⟨k, p, q, hk, rfl, hg', X, FX, R, FR, hE⟩ := hrel
        by_cases hlt : k < j
        · obtain ⟨b, off, rfl, hb, c0, c1⟩ := (HC.out.kp hg'.kp) k hlt
          have hS := drop_consP es k (by have := HL.out; omega)
          rw [hS, foldS_cons] at hE
          generalize (es.getD k p0).1 = v0 at *
          generalize (es.getD k p0).2 = v1 at *
          have HT' := fun W => refPlus_any p q v0 v1 W
          have t1 : plus3 p q v0 v1 = (plN p q v0 v1, plD p q v0 v1, plE p q v0 v1) := rfl
          rw [t1] at hE
          dsimp only at hE
          generalize plN p q v0 v1 = tn at *
          generalize plD p q v0 v1 = td at *
          generalize plE p q v0 v1 = te at *
          have HT := fun W => Lib.hid (HT' W)
          have HE := Lib.hid hE
          have hg := Lib.hid hg'
          have A1 : At wr ⟨b, off + k * 2, none⟩ (.int .i64 v0) := ⟨c0, hb⟩
          have A2 : At wr ⟨b, off + k * 2 + 1, none⟩ (.int .i64 v1) := ⟨c1, hb⟩
          have hki : (k : Int) < j := by omega
          have hkw : IntKind.i64.wrap (k : Int) = k := by rw [IntKind.wrap_i64]; omega
          have hk0 : (0 : Int) ≤ k := by omega
          clear hS HT' hE t1 hg' c0 c1
          go_upto_region 10 with fail
          refine wp_region_anyN (fun w' => w'.cell? ⟨b, off + k * 2, none⟩ = some (.int .i64 v0) ∧ w'.cell? ⟨b, off + k * 2 + 1, none⟩ = some (.int .i64 v1) ∧ w'.cell? ⟨bX, 0, none⟩ = some (.int .i64 p) ∧ w'.cell? ⟨bX, 1, none⟩ = some (.int .i64 q)) 11 (by kernel_rfl) ?_
          replace X := X.drew
          replace FX := FX.drew
          replace R := R.drew
          replace FR := FR.drew
          replace A1 := A1.drew
          replace A2 := A2.drew
          replace hg := Lib.hid hg.out.drew
          generalize wr.drew = wr at *
          have hS : wr.cell? ⟨b, off + k * 2, none⟩ = some (.int .i64 v0) ∧ wr.cell? ⟨b, off + k * 2 + 1, none⟩ = some (.int .i64 v1) ∧ wr.cell? ⟨bX, 0, none⟩ = some (.int .i64 p) ∧ wr.cell? ⟨bX, 1, none⟩ = some (.int .i64 q) := ⟨A1.1, A2.1, X.c0, X.c1⟩
          refine anyN_take 0 (v := ?_) rfl (by kernel_rfl) (by kernel_rfl) (by kernel_rfl) (by kernel_rfl) (by kernel_rfl) (fun _ _ _ h => h) (Or.inl ⟨by rfl, ?_⟩) (by assumption) ?_
          rotate_left
          · intro w hSw
            obtain ⟨_, _, _, _⟩ := hSw
            go_simp
            try with_reducible rfl
          simp only [Act.put, List.setIfInBounds_toArray, List.set_cons_zero, List.set_cons_succ]
          refine anyN_take 1 (v := ?_) rfl (by kernel_rfl) (by kernel_rfl) (by kernel_rfl) (by kernel_rfl) (by kernel_rfl) (fun _ _ _ h => h) (Or.inl ⟨by rfl, ?_⟩) (by assumption) ?_
          rotate_left
          · intro w hSw
            obtain ⟨_, _, _, _⟩ := hSw
            go_simp
            try with_reducible rfl
          simp only [Act.put, List.setIfInBounds_toArray, List.set_cons_zero, List.set_cons_succ]
          refine anyN_take 2 (v := ?_) rfl (by kernel_rfl) (by kernel_rfl) (by kernel_rfl) (by kernel_rfl) (by kernel_rfl) (fun _ _ _ h => h) (Or.inl ⟨by rfl, ?_⟩) (by assumption) ?_
          rotate_left
          · intro w hSw
            obtain ⟨_, _, _, _⟩ := hSw
            go_simp
            try with_reducible rfl
          simp only [Act.put, List.setIfInBounds_toArray, List.set_cons_zero, List.set_cons_succ]
          refine anyN_take 3 (v := ?_) rfl (by kernel_rfl) (by kernel_rfl) (by kernel_rfl) (by kernel_rfl) (by kernel_rfl) (fun _ _ _ h => h) (Or.inl ⟨by rfl, ?_⟩) (by assumption) ?_
          rotate_left
          · intro w hSw
            obtain ⟨_, _, _, _⟩ := hSw
            go_simp
            try with_reducible rfl
          simp only [Act.put, List.setIfInBounds_toArray, List.set_cons_zero, List.set_cons_succ]
          refine anyN_take 4 (v := ?_) rfl (by kernel_rfl) (by kernel_rfl) (by kernel_rfl) (by kernel_rfl) (by kernel_rfl) (fun _ _ _ h => h) (Or.inl ⟨by rfl, ?_⟩) (by assumption) ?_
          rotate_left
          · intro w hSw
            obtain ⟨_, _, _, _⟩ := hSw
            go_simp
            try with_reducible rfl
          simp only [Act.put, List.setIfInBounds_toArray, List.set_cons_zero, List.set_cons_succ]
          refine anyN_two 5 9 rfl rfl (by kernel_rfl) rfl rfl ?_ ?_
          · go_simp
            (with_reducible refine (HT _).out.mono ?_)
            rintro e wv1 ⟨rfl, hg1⟩
            have k1 := hg1.kp
            replace X := X.kp k1
            replace FX := FX.kp k1
            replace R := R.kp k1
            replace FR := FR.kp k1
            replace A1 := A1.kp k1
            replace A2 := A2.kp k1
            replace hg := Lib.hid (hg.out.trans hg1)
            clear k1 hg1
            dsimp only
            refine and_keep ⟨A1.1, A2.1, X.c0, X.c1⟩ (fun hS => ?_)
            refine anyN_take 6 (v := ?_) rfl (by kernel_rfl) (by kernel_rfl) (by kernel_rfl) (by kernel_rfl) (by kernel_rfl) (fun _ _ _ h => h) (Or.inl ⟨by rfl, ?_⟩) (by assumption) ?_
            rotate_left
            · intro w hSw
              obtain ⟨_, _, _, _⟩ := hSw
              go_simp
              try with_reducible rfl
            simp only [Act.put, List.setIfInBounds_toArray, List.set_cons_zero, List.set_cons_succ]
            refine anyN_take 7 (v := ?_) rfl (by kernel_rfl) (by kernel_rfl) (by kernel_rfl) (by kernel_rfl) (by kernel_rfl) (fun _ _ _ h => h) (Or.inl ⟨by rfl, ?_⟩) (by assumption) ?_
            rotate_left
            · intro w hSw
              obtain ⟨_, _, _, _⟩ := hSw
              go_simp
              try with_reducible rfl
            simp only [Act.put, List.setIfInBounds_toArray, List.set_cons_zero, List.set_cons_succ]
            refine anyN_take 8 (v := ?_) rfl (by kernel_rfl) (by kernel_rfl) (by kernel_rfl) (by kernel_rfl) (by kernel_rfl) (fun _ _ _ h => h) (Or.inl ⟨by rfl, ?_⟩) (by assumption) ?_
            rotate_left
            · intro w hSw
              obtain ⟨_, _, _, _⟩ := hSw
              go_simp
              try with_reducible rfl
            simp only [Act.put, List.setIfInBounds_toArray, List.set_cons_zero, List.set_cons_succ]
            refine anyN_one 9 rfl (by kernel_rfl) rfl ?_
            go_simp
            have ne_Z_X : wv1.heap.size ≠ bX := Nat.ne_of_gt X.lt
            have ne_Z_R : wv1.heap.size ≠ W.heap.size := Nat.ne_of_gt R.lt
            have ne_Z_A1 : wv1.heap.size ≠ b := Nat.ne_of_gt A1.2
            have ne_Z_A2 : wv1.heap.size ≠ b := Nat.ne_of_gt A2.2
            have le_Z : W.heap.size ≤ wv1.heap.size := hg.out.kp.size
            have Z := C2.new wv1 (.int .i64 0) (.int .i64 0) 67
            have FZ := Fz.new wv1 #[.int .i64 0, .int .i64 0] 67
            replace X := X.alloc (.cells #[.int .i64 0, .int .i64 0] 67)
            replace FX := FX.alloc (.cells #[.int .i64 0, .int .i64 0] 67)
            replace R := R.alloc (.cells #[.int .i64 0, .int .i64 0] 67)
            replace FR := FR.alloc (.cells #[.int .i64 0, .int .i64 0] 67)
            replace A1 := A1.alloc (.cells #[.int .i64 0, .int .i64 0] 67)
            replace A2 := A2.alloc (.cells #[.int .i64 0, .int .i64 0] 67)
            replace hg := Lib.hid (hg.out.alloc (.cells #[.int .i64 0, .int .i64 0] 67))
            generalize wv1.alloc (.cells #[.int .i64 0, .int .i64 0] 67) = wa2 at *
            generalize wv1.heap.size = bZ at *
            refine and_keep ⟨A1.1, A2.1, X.c0, X.c1⟩ (fun hS => ?_)
            have Z_0 := Z.c0
            have Z_1 := Z.c1
            have FZ_2 := FZ.2
            refine anyN_one 10 rfl (by kernel_rfl) rfl ?_
            go_simp
            clear Z_0 Z_1 FZ_2
            replace X := X.far2 ne_Z_X (.int .i64 tn) (.int .i64 td)
            replace FX := (FX.set ⟨bZ, 0, none⟩ (.int .i64 tn)).set ⟨bZ, 1, none⟩ (.int .i64 td)
            replace R := R.far2 ne_Z_R (.int .i64 tn) (.int .i64 td)
            replace FR := (FR.set ⟨bZ, 0, none⟩ (.int .i64 tn)).set ⟨bZ, 1, none⟩ (.int .i64 td)
            replace A1 := A1.far2 (B := bZ) ne_Z_A1 (.int .i64 tn) (.int .i64 td)
            replace A2 := A2.far2 (B := bZ) ne_Z_A2 (.int .i64 tn) (.int .i64 td)
            replace Z := Z.set (.int .i64 tn) (.int .i64 td)
            replace FZ := (FZ.set ⟨bZ, 0, none⟩ (.int .i64 tn)).set ⟨bZ, 1, none⟩ (.int .i64 td)
            replace hg := Lib.hid (hg.out.set2 (B := bZ) le_Z (.int .i64 tn) (.int .i64 td))
            generalize World.setCell _ _ _ = ws3 at *
            try refine and_keep ⟨A1.1, A2.1, X.c0, X.c1⟩ (fun hS => ?_)
            refine anyN_one 11 rfl (by kernel_rfl) rfl ?_
            go_simp
            refine anyN_done (by kernel_rfl) ?_
            clear hS
            clear A1 A2
            by_cases hz : te = 0
            · subst hz
              have HE2 := Lib.hid (HE.out.trans (if_pos rfl))
              have X0 := X.c0
              have X1 := X.c1
              have Z0 := Z.c0
              have Z1 := Z.c1
              have Xl := X.lt
              have FX2 := FX.2
              clear HE
              go_wp2_with fail
              go_roundw
              case rel =>
                refine ⟨k + 1, tn, td, by omega, by go_num, ?_, ?_, ?_, ?_, ?_, HE2.out⟩
                · exact (hg.out.set2 (B := bX) (by omega) _ _)
                · exact (X.set _ _)
                · exact ((FX.set _ _).set _ _)
                · exact (R.far2 (p := bX) (by omega) _ _)
                · exact ((FR.set _ _).set _ _)
              case measure => simp [intOf]; omega
            · have hz1 : (te == 0) = false := beq_eq_false_iff_ne.2 hz
              have HE2 := Lib.hid (HE.out.trans (if_neg hz))
              have R0 := R.c0
              have R1 := R.c1
              have Rl := R.lt
              have FR2 := FR.2
              clear HE
              go_wp2_with fail
              exact bodyPost_ret (v := .tuple #[shr 0 0, .int .i64 te]) (by simp [results, Try.results46, go_sem, R0, R1, Rl]) rfl ⟨by rw [HPE.out, HE2.out], (hg.out.set2 (B := W.heap.size) (by omega) _ _)⟩
          · go_simp
            have ne_Z_X : wr.heap.size ≠ bX := Nat.ne_of_gt X.lt
            have ne_Z_R : wr.heap.size ≠ W.heap.size := Nat.ne_of_gt R.lt
            have ne_Z_A1 : wr.heap.size ≠ b := Nat.ne_of_gt A1.2
            have ne_Z_A2 : wr.heap.size ≠ b := Nat.ne_of_gt A2.2
            have le_Z : W.heap.size ≤ wr.heap.size := hg.out.kp.size
            have Z := C2.new wr (.int .i64 0) (.int .i64 0) 67
            have FZ := Fz.new wr #[.int .i64 0, .int .i64 0] 67
            replace X := X.alloc (.cells #[.int .i64 0, .int .i64 0] 67)
            replace FX := FX.alloc (.cells #[.int .i64 0, .int .i64 0] 67)
            replace R := R.alloc (.cells #[.int .i64 0, .int .i64 0] 67)
            replace FR := FR.alloc (.cells #[.int .i64 0, .int .i64 0] 67)
            replace A1 := A1.alloc (.cells #[.int .i64 0, .int .i64 0] 67)
            replace A2 := A2.alloc (.cells #[.int .i64 0, .int .i64 0] 67)
            replace hg := Lib.hid (hg.out.alloc (.cells #[.int .i64 0, .int .i64 0] 67))
            generalize wr.alloc (.cells #[.int .i64 0, .int .i64 0] 67) = wa4 at *
            generalize wr.heap.size = bZ at *
            refine and_keep ⟨A1.1, A2.1, X.c0, X.c1⟩ (fun hS => ?_)
            refine anyN_one 5 rfl (by kernel_rfl) rfl ?_
            go_simp
            (with_reducible refine (HT _).out.mono ?_)
            rintro e wv5 ⟨rfl, hg1⟩
            have k1 := hg1.kp
            replace X := X.kp k1
            replace FX := FX.kp k1
            replace R := R.kp k1
            replace FR := FR.kp k1
            replace A1 := A1.kp k1
            replace A2 := A2.kp k1
            replace Z := Z.kp k1
            replace FZ := FZ.kp k1
            replace hg := Lib.hid (hg.out.trans hg1)
            clear k1 hg1
            dsimp only
            refine and_keep ⟨A1.1, A2.1, X.c0, X.c1⟩ (fun hS => ?_)
            refine anyN_take 6 (v := ?_) rfl (by kernel_rfl) (by kernel_rfl) (by kernel_rfl) (by kernel_rfl) (by kernel_rfl) (fun _ _ _ h => h) (Or.inl ⟨by rfl, ?_⟩) (by assumption) ?_
            rotate_left
            · intro w hSw
              obtain ⟨_, _, _, _⟩ := hSw
              go_simp
              try with_reducible rfl
            simp only [Act.put, List.setIfInBounds_toArray, List.set_cons_zero, List.set_cons_succ]
            refine anyN_take 7 (v := ?_) rfl (by kernel_rfl) (by kernel_rfl) (by kernel_rfl) (by kernel_rfl) (by kernel_rfl) (fun _ _ _ h => h) (Or.inl ⟨by rfl, ?_⟩) (by assumption) ?_
            rotate_left
            · intro w hSw
              obtain ⟨_, _, _, _⟩ := hSw
              go_simp
              try with_reducible rfl
            simp only [Act.put, List.setIfInBounds_toArray, List.set_cons_zero, List.set_cons_succ]
            refine anyN_take 8 (v := ?_) rfl (by kernel_rfl) (by kernel_rfl) (by kernel_rfl) (by kernel_rfl) (by kernel_rfl) (fun _ _ _ h => h) (Or.inl ⟨by rfl, ?_⟩) (by assumption) ?_
            rotate_left
            · intro w hSw
              obtain ⟨_, _, _, _⟩ := hSw
              go_simp
              try with_reducible rfl
            simp only [Act.put, List.setIfInBounds_toArray, List.set_cons_zero, List.set_cons_succ]
            have Z_0 := Z.c0
            have Z_1 := Z.c1
            have FZ_2 := FZ.2
            refine anyN_one 10 rfl (by kernel_rfl) rfl ?_
            go_simp
            clear Z_0 Z_1 FZ_2
            replace X := X.far2 ne_Z_X (.int .i64 tn) (.int .i64 td)
            replace FX := (FX.set ⟨bZ, 0, none⟩ (.int .i64 tn)).set ⟨bZ, 1, none⟩ (.int .i64 td)
            replace R := R.far2 ne_Z_R (.int .i64 tn) (.int .i64 td)
            replace FR := (FR.set ⟨bZ, 0, none⟩ (.int .i64 tn)).set ⟨bZ, 1, none⟩ (.int .i64 td)
            replace A1 := A1.far2 (B := bZ) ne_Z_A1 (.int .i64 tn) (.int .i64 td)
            replace A2 := A2.far2 (B := bZ) ne_Z_A2 (.int .i64 tn) (.int .i64 td)
            replace Z := Z.set (.int .i64 tn) (.int .i64 td)
            replace FZ := (FZ.set ⟨bZ, 0, none⟩ (.int .i64 tn)).set ⟨bZ, 1, none⟩ (.int .i64 td)
            replace hg := Lib.hid (hg.out.set2 (B := bZ) le_Z (.int .i64 tn) (.int .i64 td))
            generalize World.setCell _ _ _ = ws6 at *
            try refine and_keep ⟨A1.1, A2.1, X.c0, X.c1⟩ (fun hS => ?_)
            refine anyN_one 11 rfl (by kernel_rfl) rfl ?_
            go_simp
            refine anyN_done (by kernel_rfl) ?_
            clear hS
            clear A1 A2
            by_cases hz : te = 0
            · subst hz
              have HE2 := Lib.hid (HE.out.trans (if_pos rfl))
              have X0 := X.c0
              have X1 := X.c1
              have Z0 := Z.c0
              have Z1 := Z.c1
              have Xl := X.lt
              have FX2 := FX.2
              clear HE
              go_wp2_with fail
              go_roundw
              case rel =>
                refine ⟨k + 1, tn, td, by omega, by go_num, ?_, ?_, ?_, ?_, ?_, HE2.out⟩
                · exact (hg.out.set2 (B := bX) (by omega) _ _)
                · exact (X.set _ _)
                · exact ((FX.set _ _).set _ _)
                · exact (R.far2 (p := bX) (by omega) _ _)
                · exact ((FR.set _ _).set _ _)
              case measure => simp [intOf]; omega
            · have hz1 : (te == 0) = false := beq_eq_false_iff_ne.2 hz
              have HE2 := Lib.hid (HE.out.trans (if_neg hz))
              have R0 := R.c0
              have R1 := R.c1
              have Rl := R.lt
              have FR2 := FR.2
              clear HE
              go_wp2_with fail
              exact bodyPost_ret (v := .tuple #[shr 0 0, .int .i64 te]) (by simp [results, Try.results46, go_sem, R0, R1, Rl]) rfl ⟨by rw [HPE.out, HE2.out], (hg.out.set2 (B := W.heap.size) (by omega) _ _)⟩
        · have hke : k = j := by omega
          have hno : ¬ (k : Int) < j := by omega
          have hE2 : foldS plus3 0 1 es = (p, q, 0) := by
            rw [hE, List.drop_eq_nil_of_le (by have := HL.out; omega)]
            rfl
          have HE := Lib.hid (HPE.out.trans hE2)
          have hg := Lib.hid hg'
          have X0 := X.c0
          have X1 := X.c1
          have R0 := R.c0
          have R1 := R.c1
          have FR2 := FR.2
          clear hE hE2 hg' HPE hlt hke
          go_wp2_with fail
          exact bodyPost_ret (v := .tuple #[shr p q, .int .i64 0]) (by simp [results, Try.results46, go_sem, R0, R1]) rfl ⟨by rw [HE.out], hg.out.set2 (B := W.heap.size) (Nat.le_refl _) _ _⟩

set_option maxRecDepth 100000 in
set_option maxHeartbeats 2000000 in
theorem refSum_f (W : World) (A : Option Addr) (len cap : Nat) (es : List P2) (hlen : es.length = len) (hmax : (len : Int) ≤ 3000000000000000000) (hc : IsPrs W A len es) (hg : rights es = false) :
    Calls Try.prog 46 #[.slice A len cap] W fun e w' => e = .returned (.tuple #[shr (sum3 es).1 (sum3 es).2.1, .int .i64 (sum3 es).2.2]) ∧ GrewS W w' := by
  have e1 : sum3 es = (0, 0, 2) := by unfold sum3; rw [hg]; rfl
  rw [e1]
  obtain ⟨m, hm1, hbm, hgm⟩ := first_bad es hg
  rw [hlen] at hm1
  have HG := Lib.hid hgm
  have HB := Lib.hid hbm
  clear e1 hg hbm hgm
  have HL := Lib.hid hlen
  have HC := Lib.hid hc
  have hm : (len : Int) ≤ 3000000000000000000 := hmax
  clear hc
  go_enter Try.func46, Try.ntmps46
  go_wp2_with fail
  have HR0 := Lib.hid (show C2 (W.alloc (.cells #[.int .i64 0, .int .i64 0] 67)) W.heap.size (.int .i64 0) (.int .i64 0) from C2.new W _ _ _)
  have HF0 := Lib.hid (show Fz (W.alloc (.cells #[.int .i64 0, .int .i64 0] 67)) W.heap.size from Fz.new W _ _)
  have HG0 := Lib.hid (show GrewS W (W.alloc (.cells #[.int .i64 0, .int .i64 0] 67)) from (GrewS.refl W).alloc _)
  generalize W.alloc (.cells #[.int .i64 0, .int .i64 0] 67) = W1 at *
  go_loopw [4] (fun i wr => ∃ j : Nat, j ≤ m ∧ i = .int .i64 j ∧ GrewS W1 wr) (fun i _ => len - (intOf i).toNat)
  case atStart => exact ⟨0, Nat.zero_le _, rfl, GrewS.refl _⟩
  case round =>
    obtain ⟨j, hj, rfl, hgr⟩ := hrel
    obtain ⟨b, off, rfl, hb, c0, c1⟩ := (HC.out.kp (HG0.out.trans hgr).kp) j (by omega)
    by_cases hlt : j < m
    · have hr := HG.out j hlt
      have hji : (j : Int) < len := by omega
      unfold rightP at hr
      generalize (es.getD j p0).1 = v0 at *
      generalize (es.getD j p0).2 = v1 at *
      have H := fun W => Lib.hid (refRight_t W hr)
      have HGR := Lib.hid hgr
      clear hgr hr
      go_wp2_with fail
      refine (H _).out.mono ?_
      rintro e w1 ⟨rfl, hg1⟩
      have HGR2 := Lib.hid (HGR.out.trans hg1.s)
      clear hg1 HGR c0 c1 hb H
      go_wp2_with fail
      go_roundw
      case rel => exact ⟨j + 1, by omega, by go_num, HGR2.out⟩
      case measure => simp [intOf]; omega
    · have hje : j = m := by omega
      subst hje
      have hr := HB.out
      have hji : (j : Int) < len := by omega
      unfold rightP at hr
      generalize (es.getD j p0).1 = v0 at *
      generalize (es.getD j p0).2 = v1 at *
      have H := fun W => Lib.hid (refRight_f W hr)
      have R := HR0.out.kp hgr.kp
      have FR := HF0.out.kp hgr.kp
      have HGR := Lib.hid (HG0.out.trans hgr)
      clear hgr hr HR0 HF0 HG0
      go_wp2_with fail
      refine (H _).out.mono ?_
      rintro e w1 ⟨rfl, hg1⟩
      have HGR2 := Lib.hid (HGR.out.trans hg1.s)
      replace R := R.kp hg1.kp
      replace FR := FR.kp hg1.kp
      clear hg1 HGR c0 c1 hb H
      have R0 := R.c0
      have R1 := R.c1
      have FR2 := FR.2
      go_wp2_with fail
      exact bodyPost_ret (v := .tuple #[shr 0 0, .int .i64 2]) (by simp [results, Try.results46, go_sem, R0, R1]) rfl ⟨rfl, HGR2.out.set2 (B := W.heap.size) (Nat.le_refl _) _ _⟩
theorem refSum_any (W : World) (A : Option Addr) (len cap : Nat) (es : List P2) (hlen : es.length = len) (hmax : (len : Int) ≤ 3000000000000000000) (hc : IsPrs W A len es) :
    Calls Try.prog 46 #[.slice A len cap] W fun e w' => e = .returned (.tuple #[shr (sum3 es).1 (sum3 es).2.1, .int .i64 (sum3 es).2.2]) ∧ GrewS W w' := by
  cases h : rights es
  · exact refSum_f W A len cap es hlen hmax hc h
  · exact refSum_t W A len cap es hlen hmax hc h
end Go.Proofs.Ytjffikiebeneaaa
