/-
  The contract of the reference's Path.
-/
import Derived.Test.YtjffikiebeneaaaRefPt17
import Derived.Test.YtjffikiebeneaaaPath17
namespace Go.Proofs.Ytjffikiebeneaaa
open Go.RowKit

theorem At.far2 {w : World} {p : Addr} {v : Value} (h : At w p v) {B : Nat} (hq : B ≠ p.block) (a b : Value) : At ((w.setCell ⟨B, 0, none⟩ a).setCell ⟨B, 1, none⟩ b) p v :=
  (h.far (q := ⟨B, 0, none⟩) hq _).far (q := ⟨B, 1, none⟩) hq _
theorem map_getD (es : List P2) (j : Nat) (h : j < es.length) : (es.map of2).getD j p0 = of2 (es.getD j p0) := by
  rw [List.getD_eq_getElem?_getD, List.getD_eq_getElem?_getD, List.getElem?_map, List.getElem?_eq_getElem h]
  rfl

set_option maxRecDepth 100000 in
set_option maxHeartbeats 2000000 in
theorem refPath_t (W : World) (A : Option Addr) (len cap : Nat) (es : List P2) (hlen : es.length = len) (hmax : (len : Int) ≤ 3000000000000000000) (hc : IsPrs W A len es) (hg : es.all levB = true) :
    Calls Try.prog 34 #[.slice A len cap] W fun e w' => e = .returned (.tuple #[shr (path3 es).1 (path3 es).2.1, .int .i64 (path3 es).2.2]) ∧ GrewS W w' := by
  have HG := Lib.hid (show ∀ i, i < len → levB (es.getD i p0) = true from fun i hi => all_at p0 hg (by omega))
  have HPE := Lib.hid (show path3 es = foldS times3 1 1 (es.map of2) by unfold path3; rw [hg]; rfl)
  generalize path3 es = P at *
  clear hg
  have HL := Lib.hid hlen
  have HC := Lib.hid hc
  have hm : (len : Int) ≤ 3000000000000000000 := hmax
  clear hc
  go_enter Try.func34, Try.ntmps34
  go_wp2_with fail
  have HR0 := Lib.hid (show C2 (W.alloc (.cells #[.int .i64 0, .int .i64 0] 67)) W.heap.size (.int .i64 0) (.int .i64 0) from C2.new W _ _ _)
  have HF0 := Lib.hid (show Fz (W.alloc (.cells #[.int .i64 0, .int .i64 0] 67)) W.heap.size from Fz.new W _ _)
  have HG0 := Lib.hid (show GrewS W (W.alloc (.cells #[.int .i64 0, .int .i64 0] 67)) from (GrewS.refl W).alloc _)
  generalize W.alloc (.cells #[.int .i64 0, .int .i64 0] 67) = W1 at *
  go_loopw [4] (fun i wr => ∃ j : Nat, j ≤ len ∧ i = .int .i64 j ∧ GrewS W1 wr) (fun i _ => len - (intOf i).toNat)
  case atStart => exact ⟨0, Nat.zero_le _, rfl, GrewS.refl _⟩
  case round =>
    obtain ⟨j, hj, rfl, hgr⟩ := hrel
    by_cases hlt : j < len
    · obtain ⟨b, off, rfl, hb, c0, c1⟩ := (HC.out.kp (HG0.out.trans hgr).kp) j (by omega)
      obtain ⟨l0, l1, l2, l3⟩ := levB_of (HG.out j hlt)
      generalize (es.getD j p0).1 = v0 at *
      generalize (es.getD j p0).2 = v1 at *
      have hji : (j : Int) < len := by omega
      have g1 : decide (v1 < 1) = false := decide_eq_false (by omega)
      have g2 : decide (2147483648 < v1) = false := decide_eq_false (by omega)
      have g3 : decide (v0 < 0) = false := decide_eq_false (by omega)
      have g4 : decide (v1 < v0) = false := decide_eq_false (by omega)
      have HGR := Lib.hid hgr
      clear hgr
      go_wp2_with fail
      go_quiet (fail)
      go_wp2_with fail
      go_roundw
      case rel => exact ⟨j + 1, by omega, by go_num, by repeat with_reducible first | exact HGR.out | apply GrewS.drewN | apply GrewS.drew⟩
      case measure => simp [intOf]; omega
    · have hje : j = len := by omega
      subst hje
      have hno : ¬ (j : Int) < j := by omega
      have R := HR0.out.kp hgr.kp
      have FR := HF0.out.kp hgr.kp
      have hg0 := Lib.hid (HG0.out.trans hgr)
      clear hgr hlt hj HR0 HF0 HG0
      go_wp2_with fail
      have hsz := hg0.out.kp.size
      have hlt0 := R.lt
      have XN := C2.new wr (.int .i64 1) (.int .i64 1) 67
      have FXN := Fz.new wr #[.int .i64 1, .int .i64 1] 67
      replace R := R.alloc (.cells #[.int .i64 1, .int .i64 1] 67)
      replace FR := FR.alloc (.cells #[.int .i64 1, .int .i64 1] 67)
      replace hg0 := Lib.hid (hg0.out.alloc (.cells #[.int .i64 1, .int .i64 1] 67))
      generalize wr.alloc (.cells #[.int .i64 1, .int .i64 1] 67) = W2 at *
      generalize wr.heap.size = bX at *
      go_loopw [6] (fun i wr => ∃ (k : Nat) (p q : Int), k ≤ j ∧ i = .int .i64 k ∧ GrewS W wr ∧ C2 wr bX (.int .i64 p) (.int .i64 q) ∧ Fz wr bX ∧ C2 wr W.heap.size (.int .i64 0) (.int .i64 0) ∧ Fz wr W.heap.size ∧ foldS times3 1 1 (es.map of2) = foldS times3 p q ((es.map of2).drop k)) (fun i _ => j - (intOf i).toNat)
      case atStart => exact ⟨0, 1, 1, Nat.zero_le _, rfl, hg0.out, XN, FXN, R, FR, rfl⟩
      case round =>
        clear XN FXN R FR hg0
        obtain ⟨k, p, q, hk, rfl, hg', X, FX, R, FR, hE⟩ := hrel
        by_cases hlt : k < j
        · obtain ⟨b, off, rfl, hb, c0, c1⟩ := (HC.out.kp hg'.kp) k hlt
          have hS := drop_consP (es.map of2) k (by rw [List.length_map]; have := HL.out; omega)
          rw [map_getD es k (by have := HL.out; omega)] at hS
          obtain ⟨l0, l1, l2, l3⟩ := levB_of (HG.out k hlt)
          have hE0 := lev_of (HG.out k hlt)
          have hof : of2 (es.getD k p0) = (ofN (es.getD k p0).1 (es.getD k p0).2, ofD (es.getD k p0).1 (es.getD k p0).2) := rfl
          rw [hof] at hS
          have H' := fun W => refOf_any (n := (es.getD k p0).1) (d := (es.getD k p0).2) W (by omega) (by omega)
          rw [hE0] at H'
          rw [hS, foldS_cons] at hE
          dsimp only at hE
          generalize ofN (es.getD k p0).1 (es.getD k p0).2 = zn at *
          generalize ofD (es.getD k p0).1 (es.getD k p0).2 = zd at *
          generalize (es.getD k p0).1 = v0 at *
          generalize (es.getD k p0).2 = v1 at *
          have HT' := fun W => refTimes_any p q zn zd W
          have t1 : times3 p q zn zd = (tmN p q zn zd, tmD p q zn zd, tmE p q zn zd) := rfl
          rw [t1] at hE
          dsimp only at hE
          generalize tmN p q zn zd = tn at *
          generalize tmD p q zn zd = td at *
          generalize tmE p q zn zd = te at *
          have H := fun W => Lib.hid (H' W)
          have HT := fun W => Lib.hid (HT' W)
          have HE := Lib.hid hE
          have hg := Lib.hid hg'
          have A1 : At wr ⟨b, off + k * 2, none⟩ (.int .i64 v0) := ⟨c0, hb⟩
          have A2 : At wr ⟨b, off + k * 2 + 1, none⟩ (.int .i64 v1) := ⟨c1, hb⟩
          have hki : (k : Int) < j := by omega
          have hkw : IntKind.i64.wrap (k : Int) = k := by rw [IntKind.wrap_i64]; omega
          have hk0 : (0 : Int) ≤ k := by omega
          clear hE0 hof hS H' HT' hE t1 hg' c0 c1
          go_upto_region 10 with fail
          refine wp_region_anyN (fun w' => w'.cell? ⟨b, off + k * 2, none⟩ = some (.int .i64 v0) ∧ w'.cell? ⟨b, off + k * 2 + 1, none⟩ = some (.int .i64 v1)) 16 (by kernel_rfl) ?_
          replace X := X.drew
          replace FX := FX.drew
          replace R := R.drew
          replace FR := FR.drew
          replace A1 := A1.drew
          replace A2 := A2.drew
          replace hg := Lib.hid hg.out.drew
          generalize wr.drew = wr at *
          have hS : wr.cell? ⟨b, off + k * 2, none⟩ = some (.int .i64 v0) ∧ wr.cell? ⟨b, off + k * 2 + 1, none⟩ = some (.int .i64 v1) := ⟨A1.1, A2.1⟩
          refine anyN_take 0 (v := ?_) rfl (by kernel_rfl) (by kernel_rfl) (by kernel_rfl) (by kernel_rfl) (by kernel_rfl) (fun _ _ _ h => h) (Or.inl ⟨by rfl, ?_⟩) (by assumption) ?_
          rotate_left
          · intro w hSw
            obtain ⟨_, _⟩ := hSw
            go_simp
            try with_reducible rfl
          simp only [Act.put, List.setIfInBounds_toArray, List.set_cons_zero, List.set_cons_succ]
          refine anyN_take 1 (v := ?_) rfl (by kernel_rfl) (by kernel_rfl) (by kernel_rfl) (by kernel_rfl) (by kernel_rfl) (fun _ _ _ h => h) (Or.inl ⟨by rfl, ?_⟩) (by assumption) ?_
          rotate_left
          · intro w hSw
            obtain ⟨_, _⟩ := hSw
            go_simp
            try with_reducible rfl
          simp only [Act.put, List.setIfInBounds_toArray, List.set_cons_zero, List.set_cons_succ]
          refine anyN_take 2 (v := ?_) rfl (by kernel_rfl) (by kernel_rfl) (by kernel_rfl) (by kernel_rfl) (by kernel_rfl) (fun _ _ _ h => h) (Or.inl ⟨by rfl, ?_⟩) (by assumption) ?_
          rotate_left
          · intro w hSw
            obtain ⟨_, _⟩ := hSw
            go_simp
            try with_reducible rfl
          simp only [Act.put, List.setIfInBounds_toArray, List.set_cons_zero, List.set_cons_succ]
          refine anyN_take 3 (v := ?_) rfl (by kernel_rfl) (by kernel_rfl) (by kernel_rfl) (by kernel_rfl) (by kernel_rfl) (fun _ _ _ h => h) (Or.inl ⟨by rfl, ?_⟩) (by assumption) ?_
          rotate_left
          · intro w hSw
            obtain ⟨_, _⟩ := hSw
            go_simp
            try with_reducible rfl
          simp only [Act.put, List.setIfInBounds_toArray, List.set_cons_zero, List.set_cons_succ]
          refine anyN_take 4 (v := ?_) rfl (by kernel_rfl) (by kernel_rfl) (by kernel_rfl) (by kernel_rfl) (by kernel_rfl) (fun _ _ _ h => h) (Or.inl ⟨by rfl, ?_⟩) (by assumption) ?_
          rotate_left
          · intro w hSw
            obtain ⟨_, _⟩ := hSw
            go_simp
            try with_reducible rfl
          simp only [Act.put, List.setIfInBounds_toArray, List.set_cons_zero, List.set_cons_succ]
          refine anyN_take 5 (v := ?_) rfl (by kernel_rfl) (by kernel_rfl) (by kernel_rfl) (by kernel_rfl) (by kernel_rfl) (fun _ _ _ h => h) (Or.inl ⟨by rfl, ?_⟩) (by assumption) ?_
          rotate_left
          · intro w hSw
            obtain ⟨_, _⟩ := hSw
            go_simp
            try with_reducible rfl
          simp only [Act.put, List.setIfInBounds_toArray, List.set_cons_zero, List.set_cons_succ]
          refine anyN_take 6 (v := ?_) rfl (by kernel_rfl) (by kernel_rfl) (by kernel_rfl) (by kernel_rfl) (by kernel_rfl) (fun _ _ _ h => h) (Or.inl ⟨by rfl, ?_⟩) (by assumption) ?_
          rotate_left
          · intro w hSw
            obtain ⟨_, _⟩ := hSw
            go_simp
            try with_reducible rfl
          simp only [Act.put, List.setIfInBounds_toArray, List.set_cons_zero, List.set_cons_succ]
          refine anyN_take 7 (v := ?_) rfl (by kernel_rfl) (by kernel_rfl) (by kernel_rfl) (by kernel_rfl) (by kernel_rfl) (fun _ _ _ h => h) (Or.inl ⟨by rfl, ?_⟩) (by assumption) ?_
          rotate_left
          · intro w hSw
            obtain ⟨_, _⟩ := hSw
            go_simp
            try with_reducible rfl
          simp only [Act.put, List.setIfInBounds_toArray, List.set_cons_zero, List.set_cons_succ]
          refine anyN_take 8 (v := ?_) rfl (by kernel_rfl) (by kernel_rfl) (by kernel_rfl) (by kernel_rfl) (by kernel_rfl) (fun _ _ _ h => h) (Or.inl ⟨by rfl, ?_⟩) (by assumption) ?_
          rotate_left
          · intro w hSw
            obtain ⟨_, _⟩ := hSw
            go_simp
            try with_reducible rfl
          simp only [Act.put, List.setIfInBounds_toArray, List.set_cons_zero, List.set_cons_succ]
          refine anyN_take 9 (v := ?_) rfl (by kernel_rfl) (by kernel_rfl) (by kernel_rfl) (by kernel_rfl) (by kernel_rfl) (fun _ _ _ h => h) (Or.inl ⟨by rfl, ?_⟩) (by assumption) ?_
          rotate_left
          · intro w hSw
            obtain ⟨_, _⟩ := hSw
            go_simp
            try with_reducible rfl
          simp only [Act.put, List.setIfInBounds_toArray, List.set_cons_zero, List.set_cons_succ]
          refine anyN_two 10 14 rfl rfl (by kernel_rfl) rfl rfl ?_ ?_
          · go_simp
            (with_reducible refine (H _).out.mono ?_)
            rintro e wv1 ⟨rfl, hg1⟩
            have k1 := hg1.kp
            replace X := X.kp k1
            replace FX := FX.kp k1
            replace R := R.kp k1
            replace FR := FR.kp k1
            replace A1 := A1.kp k1
            replace A2 := A2.kp k1
            replace hg := Lib.hid (hg.out.trans hg1)
            clear k1 hg1
            dsimp only
            refine and_keep ⟨A1.1, A2.1⟩ (fun hS => ?_)
            refine anyN_take 11 (v := ?_) rfl (by kernel_rfl) (by kernel_rfl) (by kernel_rfl) (by kernel_rfl) (by kernel_rfl) (fun _ _ _ h => h) (Or.inl ⟨by rfl, ?_⟩) (by assumption) ?_
            rotate_left
            · intro w hSw
              obtain ⟨_, _⟩ := hSw
              go_simp
              try with_reducible rfl
            simp only [Act.put, List.setIfInBounds_toArray, List.set_cons_zero, List.set_cons_succ]
            refine anyN_take 12 (v := ?_) rfl (by kernel_rfl) (by kernel_rfl) (by kernel_rfl) (by kernel_rfl) (by kernel_rfl) (fun _ _ _ h => h) (Or.inl ⟨by rfl, ?_⟩) (by assumption) ?_
            rotate_left
            · intro w hSw
              obtain ⟨_, _⟩ := hSw
              go_simp
              try with_reducible rfl
            simp only [Act.put, List.setIfInBounds_toArray, List.set_cons_zero, List.set_cons_succ]
            refine anyN_take 13 (v := ?_) rfl (by kernel_rfl) (by kernel_rfl) (by kernel_rfl) (by kernel_rfl) (by kernel_rfl) (fun _ _ _ h => h) (Or.inl ⟨by rfl, ?_⟩) (by assumption) ?_
            rotate_left
            · intro w hSw
              obtain ⟨_, _⟩ := hSw
              go_simp
              try with_reducible rfl
            simp only [Act.put, List.setIfInBounds_toArray, List.set_cons_zero, List.set_cons_succ]
            refine anyN_one 14 rfl (by kernel_rfl) rfl ?_
            go_simp
            have ne_Z_X : wv1.heap.size ≠ bX := Nat.ne_of_gt X.lt
            have ne_Z_R : wv1.heap.size ≠ W.heap.size := Nat.ne_of_gt R.lt
            have ne_Z_A1 : wv1.heap.size ≠ b := Nat.ne_of_gt A1.2
            have ne_Z_A2 : wv1.heap.size ≠ b := Nat.ne_of_gt A2.2
            have le_Z : W.heap.size ≤ wv1.heap.size := hg.out.kp.size
            have Z := C2.new wv1 (.int .i64 0) (.int .i64 0) 67
            have FZ := Fz.new wv1 #[.int .i64 0, .int .i64 0] 67
            replace X := X.alloc (.cells #[.int .i64 0, .int .i64 0] 67)
            replace FX := FX.alloc (.cells #[.int .i64 0, .int .i64 0] 67)
            replace R := R.alloc (.cells #[.int .i64 0, .int .i64 0] 67)
            replace FR := FR.alloc (.cells #[.int .i64 0, .int .i64 0] 67)
            replace A1 := A1.alloc (.cells #[.int .i64 0, .int .i64 0] 67)
            replace A2 := A2.alloc (.cells #[.int .i64 0, .int .i64 0] 67)
            replace hg := Lib.hid (hg.out.alloc (.cells #[.int .i64 0, .int .i64 0] 67))
            generalize wv1.alloc (.cells #[.int .i64 0, .int .i64 0] 67) = wa2 at *
            generalize wv1.heap.size = bZ at *
            refine and_keep ⟨A1.1, A2.1⟩ (fun hS => ?_)
            have Z_0 := Z.c0
            have Z_1 := Z.c1
            have FZ_2 := FZ.2
            refine anyN_one 15 rfl (by kernel_rfl) rfl ?_
            go_simp
            clear Z_0 Z_1 FZ_2
            replace X := X.far2 ne_Z_X (.int .i64 zn) (.int .i64 zd)
            replace FX := (FX.set ⟨bZ, 0, none⟩ (.int .i64 zn)).set ⟨bZ, 1, none⟩ (.int .i64 zd)
            replace R := R.far2 ne_Z_R (.int .i64 zn) (.int .i64 zd)
            replace FR := (FR.set ⟨bZ, 0, none⟩ (.int .i64 zn)).set ⟨bZ, 1, none⟩ (.int .i64 zd)
            replace A1 := A1.far2 (B := bZ) ne_Z_A1 (.int .i64 zn) (.int .i64 zd)
            replace A2 := A2.far2 (B := bZ) ne_Z_A2 (.int .i64 zn) (.int .i64 zd)
            replace Z := Z.set (.int .i64 zn) (.int .i64 zd)
            replace FZ := (FZ.set ⟨bZ, 0, none⟩ (.int .i64 zn)).set ⟨bZ, 1, none⟩ (.int .i64 zd)
            replace hg := Lib.hid (hg.out.set2 (B := bZ) le_Z (.int .i64 zn) (.int .i64 zd))
            generalize World.setCell _ _ _ = ws3 at *
            try refine and_keep ⟨A1.1, A2.1⟩ (fun hS => ?_)
            refine anyN_one 16 rfl (by kernel_rfl) rfl ?_
            go_simp
            refine anyN_done (by kernel_rfl) ?_
            clear hS
            have X0 := X.c0
            have X1 := X.c1
            have Z0 := Z.c0
            have Z1 := Z.c1
            have Zl := Z.lt
            clear A1 A2
            go_wp2_with fail
            (with_reducible refine (HT _).out.mono ?_)
            rintro e wt ⟨rfl, hg1⟩
            have k1 := hg1.kp
            replace X := X.kp k1
            replace FX := FX.kp k1
            replace R := R.kp k1
            replace FR := FR.kp k1
            have hg2 := Lib.hid (hg.out.trans hg1)
            clear k1 hg1 X0 X1 Z0 Z1 Zl Z FZ
            clear hg HT
            by_cases hz : te = 0
            · subst hz
              have HE2 := Lib.hid (HE.out.trans (if_pos rfl))
              have X0 := X.c0
              have X1 := X.c1
              have Xl := X.lt
              have FX2 := FX.2
              clear HE
              go_wp2_with fail
              go_roundw
              case rel =>
                refine ⟨k + 1, tn, td, by omega, by go_num, ?_, ?_, ?_, ?_, ?_, HE2.out⟩
                · exact (hg2.out.set2 (B := bX) (by omega) _ _).alloc _
                · exact (X.set _ _).alloc _
                · exact ((FX.set _ _).set _ _).alloc _
                · exact (R.far2 (p := bX) (by omega) _ _).alloc _
                · exact ((FR.set _ _).set _ _).alloc _
              case measure => simp [intOf]; omega
            · have hz1 : (te == 0) = false := beq_eq_false_iff_ne.2 hz
              have HE2 := Lib.hid (HE.out.trans (if_neg hz))
              have R0 := R.c0
              have R1 := R.c1
              have Rl := R.lt
              have FR2 := FR.2
              clear HE
              go_wp2_with fail
              exact bodyPost_ret (v := .tuple #[shr 0 0, .int .i64 te]) (by simp [results, Try.results34, go_sem, R0, R1, Rl]) rfl ⟨by rw [HPE.out, HE2.out], (hg2.out.set2 (B := W.heap.size) (by omega) _ _).alloc _⟩
          · go_simp
            have ne_Z_X : wr.heap.size ≠ bX := Nat.ne_of_gt X.lt
            have ne_Z_R : wr.heap.size ≠ W.heap.size := Nat.ne_of_gt R.lt
            have ne_Z_A1 : wr.heap.size ≠ b := Nat.ne_of_gt A1.2
            have ne_Z_A2 : wr.heap.size ≠ b := Nat.ne_of_gt A2.2
            have le_Z : W.heap.size ≤ wr.heap.size := hg.out.kp.size
            have Z := C2.new wr (.int .i64 0) (.int .i64 0) 67
            have FZ := Fz.new wr #[.int .i64 0, .int .i64 0] 67
            replace X := X.alloc (.cells #[.int .i64 0, .int .i64 0] 67)
            replace FX := FX.alloc (.cells #[.int .i64 0, .int .i64 0] 67)
            replace R := R.alloc (.cells #[.int .i64 0, .int .i64 0] 67)
            replace FR := FR.alloc (.cells #[.int .i64 0, .int .i64 0] 67)
            replace A1 := A1.alloc (.cells #[.int .i64 0, .int .i64 0] 67)
            replace A2 := A2.alloc (.cells #[.int .i64 0, .int .i64 0] 67)
            replace hg := Lib.hid (hg.out.alloc (.cells #[.int .i64 0, .int .i64 0] 67))
            generalize wr.alloc (.cells #[.int .i64 0, .int .i64 0] 67) = wa4 at *
            generalize wr.heap.size = bZ at *
            refine and_keep ⟨A1.1, A2.1⟩ (fun hS => ?_)
            refine anyN_one 10 rfl (by kernel_rfl) rfl ?_
            go_simp
            (with_reducible refine (H _).out.mono ?_)
            rintro e wv5 ⟨rfl, hg1⟩
            have k1 := hg1.kp
            replace X := X.kp k1
            replace FX := FX.kp k1
            replace R := R.kp k1
            replace FR := FR.kp k1
            replace A1 := A1.kp k1
            replace A2 := A2.kp k1
            replace Z := Z.kp k1
            replace FZ := FZ.kp k1
            replace hg := Lib.hid (hg.out.trans hg1)
            clear k1 hg1
            dsimp only
            refine and_keep ⟨A1.1, A2.1⟩ (fun hS => ?_)
            refine anyN_take 11 (v := ?_) rfl (by kernel_rfl) (by kernel_rfl) (by kernel_rfl) (by kernel_rfl) (by kernel_rfl) (fun _ _ _ h => h) (Or.inl ⟨by rfl, ?_⟩) (by assumption) ?_
            rotate_left
            · intro w hSw
              obtain ⟨_, _⟩ := hSw
              go_simp
              try with_reducible rfl
            simp only [Act.put, List.setIfInBounds_toArray, List.set_cons_zero, List.set_cons_succ]
            refine anyN_take 12 (v := ?_) rfl (by kernel_rfl) (by kernel_rfl) (by kernel_rfl) (by kernel_rfl) (by kernel_rfl) (fun _ _ _ h => h) (Or.inl ⟨by rfl, ?_⟩) (by assumption) ?_
            rotate_left
            · intro w hSw
              obtain ⟨_, _⟩ := hSw
              go_simp
              try with_reducible rfl
            simp only [Act.put, List.setIfInBounds_toArray, List.set_cons_zero, List.set_cons_succ]
            refine anyN_take 13 (v := ?_) rfl (by kernel_rfl) (by kernel_rfl) (by kernel_rfl) (by kernel_rfl) (by kernel_rfl) (fun _ _ _ h => h) (Or.inl ⟨by rfl, ?_⟩) (by assumption) ?_
            rotate_left
            · intro w hSw
              obtain ⟨_, _⟩ := hSw
              go_simp
              try with_reducible rfl
            simp only [Act.put, List.setIfInBounds_toArray, List.set_cons_zero, List.set_cons_succ]
            have Z_0 := Z.c0
            have Z_1 := Z.c1
            have FZ_2 := FZ.2
            refine anyN_one 15 rfl (by kernel_rfl) rfl ?_
            go_simp
            clear Z_0 Z_1 FZ_2
            replace X := X.far2 ne_Z_X (.int .i64 zn) (.int .i64 zd)
            replace FX := (FX.set ⟨bZ, 0, none⟩ (.int .i64 zn)).set ⟨bZ, 1, none⟩ (.int .i64 zd)
            replace R := R.far2 ne_Z_R (.int .i64 zn) (.int .i64 zd)
            replace FR := (FR.set ⟨bZ, 0, none⟩ (.int .i64 zn)).set ⟨bZ, 1, none⟩ (.int .i64 zd)
            replace A1 := A1.far2 (B := bZ) ne_Z_A1 (.int .i64 zn) (.int .i64 zd)
            replace A2 := A2.far2 (B := bZ) ne_Z_A2 (.int .i64 zn) (.int .i64 zd)
            replace Z := Z.set (.int .i64 zn) (.int .i64 zd)
            replace FZ := (FZ.set ⟨bZ, 0, none⟩ (.int .i64 zn)).set ⟨bZ, 1, none⟩ (.int .i64 zd)
            replace hg := Lib.hid (hg.out.set2 (B := bZ) le_Z (.int .i64 zn) (.int .i64 zd))
            generalize World.setCell _ _ _ = ws6 at *
            try refine and_keep ⟨A1.1, A2.1⟩ (fun hS => ?_)
            refine anyN_one 16 rfl (by kernel_rfl) rfl ?_
            go_simp
            refine anyN_done (by kernel_rfl) ?_
            clear hS
            have X0 := X.c0
            have X1 := X.c1
            have Z0 := Z.c0
            have Z1 := Z.c1
            have Zl := Z.lt
            clear A1 A2
            go_wp2_with fail
            (with_reducible refine (HT _).out.mono ?_)
            rintro e wt ⟨rfl, hg1⟩
            have k1 := hg1.kp
            replace X := X.kp k1
            replace FX := FX.kp k1
            replace R := R.kp k1
            replace FR := FR.kp k1
            have hg2 := Lib.hid (hg.out.trans hg1)
            clear k1 hg1 X0 X1 Z0 Z1 Zl Z FZ
            clear hg HT
            by_cases hz : te = 0
            · subst hz
              have HE2 := Lib.hid (HE.out.trans (if_pos rfl))
              have X0 := X.c0
              have X1 := X.c1
              have Xl := X.lt
              have FX2 := FX.2
              clear HE
              go_wp2_with fail
              go_roundw
              case rel =>
                refine ⟨k + 1, tn, td, by omega, by go_num, ?_, ?_, ?_, ?_, ?_, HE2.out⟩
                · exact (hg2.out.set2 (B := bX) (by omega) _ _).alloc _
                · exact (X.set _ _).alloc _
                · exact ((FX.set _ _).set _ _).alloc _
                · exact (R.far2 (p := bX) (by omega) _ _).alloc _
                · exact ((FR.set _ _).set _ _).alloc _
              case measure => simp [intOf]; omega
            · have hz1 : (te == 0) = false := beq_eq_false_iff_ne.2 hz
              have HE2 := Lib.hid (HE.out.trans (if_neg hz))
              have R0 := R.c0
              have R1 := R.c1
              have Rl := R.lt
              have FR2 := FR.2
              clear HE
              go_wp2_with fail
              exact bodyPost_ret (v := .tuple #[shr 0 0, .int .i64 te]) (by simp [results, Try.results34, go_sem, R0, R1, Rl]) rfl ⟨by rw [HPE.out, HE2.out], (hg2.out.set2 (B := W.heap.size) (by omega) _ _).alloc _⟩
        · have hke : k = j := by omega
          have hno : ¬ (k : Int) < j := by omega
          have hE2 : foldS times3 1 1 (es.map of2) = (p, q, 0) := by
            rw [hE, List.drop_eq_nil_of_le (by rw [List.length_map]; have := HL.out; omega)]
            rfl
          have HE := Lib.hid (HPE.out.trans hE2)
          have hg := Lib.hid hg'
          have X0 := X.c0
          have X1 := X.c1
          have R0 := R.c0
          have R1 := R.c1
          have FR2 := FR.2
          clear hE hE2 hg' HPE hlt hke
          go_wp2_with fail
          exact bodyPost_ret (v := .tuple #[shr p q, .int .i64 0]) (by simp [results, Try.results34, go_sem, R0, R1]) rfl ⟨by rw [HE.out], hg.out.set2 (B := W.heap.size) (Nat.le_refl _) _ _⟩

set_option maxRecDepth 100000 in
set_option maxHeartbeats 2000000 in
theorem refPath_f (W : World) (A : Option Addr) (len cap : Nat) (es : List P2) (hlen : es.length = len) (hmax : (len : Int) ≤ 3000000000000000000) (hc : IsPrs W A len es) (hg : es.all levB = false) :
    Calls Try.prog 34 #[.slice A len cap] W fun e w' => e = .returned (.tuple #[shr (path3 es).1 (path3 es).2.1, .int .i64 (path3 es).2.2]) ∧ GrewS W w' := by
  have e1 : path3 es = (0, 0, 2) := by unfold path3; rw [hg]; rfl
  rw [e1]
  obtain ⟨m, hm1, hbm, hgm⟩ := first_not p0 levB es hg
  rw [hlen] at hm1
  have HG := Lib.hid hgm
  have HB := Lib.hid (show (es.getD m p0).2 < 1 ∨ (1 ≤ (es.getD m p0).2 ∧ 2147483648 < (es.getD m p0).2) ∨ (1 ≤ (es.getD m p0).2 ∧ (es.getD m p0).2 ≤ 2147483648 ∧ (es.getD m p0).1 < 0) ∨ (1 ≤ (es.getD m p0).2 ∧ (es.getD m p0).2 ≤ 2147483648 ∧ 0 ≤ (es.getD m p0).1 ∧ (es.getD m p0).2 < (es.getD m p0).1) by
    have := levB_not hbm
    omega)
  clear e1 hg hbm hgm
  have HL := Lib.hid hlen
  have HC := Lib.hid hc
  have hm : (len : Int) ≤ 3000000000000000000 := hmax
  clear hc
  go_enter Try.func34, Try.ntmps34
  go_wp2_with fail
  have HR0 := Lib.hid (show C2 (W.alloc (.cells #[.int .i64 0, .int .i64 0] 67)) W.heap.size (.int .i64 0) (.int .i64 0) from C2.new W _ _ _)
  have HF0 := Lib.hid (show Fz (W.alloc (.cells #[.int .i64 0, .int .i64 0] 67)) W.heap.size from Fz.new W _ _)
  have HG0 := Lib.hid (show GrewS W (W.alloc (.cells #[.int .i64 0, .int .i64 0] 67)) from (GrewS.refl W).alloc _)
  generalize W.alloc (.cells #[.int .i64 0, .int .i64 0] 67) = W1 at *
  go_loopw [4] (fun i wr => ∃ j : Nat, j ≤ m ∧ i = .int .i64 j ∧ GrewS W1 wr) (fun i _ => len - (intOf i).toNat)
  case atStart => exact ⟨0, Nat.zero_le _, rfl, GrewS.refl _⟩
  case round =>
    obtain ⟨j, hj, rfl, hgr⟩ := hrel
    obtain ⟨b, off, rfl, hb, c0, c1⟩ := (HC.out.kp (HG0.out.trans hgr).kp) j (by omega)
    have hji : (j : Int) < len := by omega
    by_cases hlt : j < m
    · obtain ⟨l0, l1, l2, l3⟩ := levB_of (HG.out j hlt)
      generalize (es.getD j p0).1 = v0 at *
      generalize (es.getD j p0).2 = v1 at *
      have g1 : decide (v1 < 1) = false := decide_eq_false (by omega)
      have g2 : decide (2147483648 < v1) = false := decide_eq_false (by omega)
      have g3 : decide (v0 < 0) = false := decide_eq_false (by omega)
      have g4 : decide (v1 < v0) = false := decide_eq_false (by omega)
      have HGR := Lib.hid hgr
      clear hgr
      go_wp2_with fail
      go_quiet (fail)
      go_wp2_with fail
      go_roundw
      case rel => exact ⟨j + 1, by omega, by go_num, by repeat with_reducible first | exact HGR.out | apply GrewS.drewN | apply GrewS.drew⟩
      case measure => simp [intOf]; omega
    · have hje : j = m := by omega
      subst hje
      have hw := HB.out
      generalize (es.getD j p0).1 = v0 at *
      generalize (es.getD j p0).2 = v1 at *
      have R := (HR0.out.kp hgr.kp).drew
      have FR := (HF0.out.kp hgr.kp).drew
      have HGR := Lib.hid (HG0.out.trans hgr)
      clear hgr HR0 HF0 HG0
      have R0 := R.c0
      have R1 := R.c1
      have Rl := R.lt
      have FR2 := FR.2
      have S0 : (wr.drewN 1).cell? ⟨W.heap.size, 0, none⟩ = some (.int .i64 0) := R.c0
      have S1 : (wr.drewN 1).cell? ⟨W.heap.size, 1, none⟩ = some (.int .i64 0) := R.c1
      have SF2 : ∀ o, (wr.drewN 1).frozen? ⟨W.heap.size, o, none⟩ = false := FR.2
      have T0 : wr.cell? ⟨W.heap.size, 0, none⟩ = some (.int .i64 0) := R.c0
      have T1 : wr.cell? ⟨W.heap.size, 1, none⟩ = some (.int .i64 0) := R.c1
      have TF2 : ∀ o, wr.frozen? ⟨W.heap.size, o, none⟩ = false := FR.2
      rcases hw with h1 | ⟨h1, h2⟩ | ⟨h1, h2, h3⟩ | ⟨h1, h2, h3, h4⟩
      · go_wp2_with fail
        go_quiet (fail)
        go_wp2_with fail
        exact bodyPost_ret (v := .tuple #[shr 0 0, .int .i64 2]) (by simp [results, Try.results34, go_sem, R0, R1, S0, S1, T0, T1]) rfl ⟨rfl, by first | exact (HGR.out.drew).set2 (B := W.heap.size) (Nat.le_refl _) _ _ | exact (HGR.out.drewN _).set2 (B := W.heap.size) (Nat.le_refl _) _ _ | exact (HGR.out.set2 (B := W.heap.size) (Nat.le_refl _) _ _).drewN 1⟩
      · have g1 : decide (v1 < 1) = false := decide_eq_false (by omega)
        go_wp2_with fail
        go_quiet (fail)
        go_wp2_with fail
        exact bodyPost_ret (v := .tuple #[shr 0 0, .int .i64 2]) (by simp [results, Try.results34, go_sem, R0, R1, S0, S1, T0, T1]) rfl ⟨rfl, by first | exact (HGR.out.drew).set2 (B := W.heap.size) (Nat.le_refl _) _ _ | exact (HGR.out.drewN _).set2 (B := W.heap.size) (Nat.le_refl _) _ _ | exact (HGR.out.set2 (B := W.heap.size) (Nat.le_refl _) _ _).drewN 1⟩
      · have g1 : decide (v1 < 1) = false := decide_eq_false (by omega)
        have g2 : decide (2147483648 < v1) = false := decide_eq_false (by omega)
        go_wp2_with fail
        go_quiet (fail)
        go_wp2_with fail
        exact bodyPost_ret (v := .tuple #[shr 0 0, .int .i64 2]) (by simp [results, Try.results34, go_sem, R0, R1, S0, S1, T0, T1]) rfl ⟨rfl, by first | exact (HGR.out.drew).set2 (B := W.heap.size) (Nat.le_refl _) _ _ | exact (HGR.out.drewN _).set2 (B := W.heap.size) (Nat.le_refl _) _ _ | exact (HGR.out.set2 (B := W.heap.size) (Nat.le_refl _) _ _).drewN 1⟩
      · have g1 : decide (v1 < 1) = false := decide_eq_false (by omega)
        have g2 : decide (2147483648 < v1) = false := decide_eq_false (by omega)
        have g3 : decide (v0 < 0) = false := decide_eq_false (by omega)
        go_wp2_with fail
        go_quiet (fail)
        go_wp2_with fail
        exact bodyPost_ret (v := .tuple #[shr 0 0, .int .i64 2]) (by simp [results, Try.results34, go_sem, R0, R1, S0, S1, T0, T1]) rfl ⟨rfl, by first | exact (HGR.out.drew).set2 (B := W.heap.size) (Nat.le_refl _) _ _ | exact (HGR.out.drewN _).set2 (B := W.heap.size) (Nat.le_refl _) _ _ | exact (HGR.out.set2 (B := W.heap.size) (Nat.le_refl _) _ _).drewN 1⟩
theorem refPath_any (W : World) (A : Option Addr) (len cap : Nat) (es : List P2) (hlen : es.length = len) (hmax : (len : Int) ≤ 3000000000000000000) (hc : IsPrs W A len es) :
    Calls Try.prog 34 #[.slice A len cap] W fun e w' => e = .returned (.tuple #[shr (path3 es).1 (path3 es).2.1, .int .i64 (path3 es).2.2]) ∧ GrewS W w' := by
  cases h : es.all levB
  · exact refPath_f W A len cap es hlen hmax hc h
  · exact refPath_t W A len cap es hlen hmax hc h
end Go.Proofs.Ytjffikiebeneaaa
