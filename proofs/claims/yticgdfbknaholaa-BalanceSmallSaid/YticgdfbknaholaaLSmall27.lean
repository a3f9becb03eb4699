/-
  The law on small scenes.
-/
import Derived.Test.YticgdfbknaholaaSml27
namespace Go.Proofs.Yticgdfbknaholaa
open Go.RowKit

/-- The first fourteen numbers. -/
def nums14 : List Int := [-9223372036854775808, -1, 0, 1, 2, 3, 63, 64, 65, 100, 65535, 65536, 65537, 9223372036854775807]
theorem nums14_ok {j : Nat} (h : j < 14) : -9223372036854775808 ≤ nums14.getD j 0 ∧ nums14.getD j 0 ≤ 9223372036854775807 := by
  have : j = 0 ∨ j = 1 ∨ j = 2 ∨ j = 3 ∨ j = 4 ∨ j = 5 ∨ j = 6 ∨ j = 7 ∨ j = 8 ∨ j = 9 ∨ j = 10 ∨ j = 11 ∨ j = 12 ∨ j = 13 := by omega
  rcases this with rfl | rfl | rfl | rfl | rfl | rfl | rfl | rfl | rfl | rfl | rfl | rfl | rfl | rfl <;> decide
set_option maxRecDepth 100000 in
set_option maxHeartbeats 8000000 in
theorem law8 (W : World) : Calls Try.prog 8 #[] W fun e w' => e = .returned (.bool true) ∧ Kp W.heap.size W w' := by
  have HAw := fun w => Lib.hid (awake_any w)
  have HE := fun w => Lib.hid (example_any w)
  go_enter Try.func8, Try.ntmps8
  go_wp2_with fail
  have kk : Kp W.heap.size W (W.alloc (.cells ((nums14.map (Value.int .i64)).toArray) 3)) := (Kp.refl _ _).alloc (Nat.le_refl _) _
  have hrd := (rd_new W (nums14.map (Value.int .i64)) 3 1 14 rfl).isInts
  have HN := Lib.hid hrd.2
  have K := Lib.hid kk
  obtain ⟨bN, hbN⟩ : ∃ b, b = W.heap.size := ⟨_, rfl⟩
  simp only [nums14, List.map_cons, List.map_nil] at HN K
  rw [← hbN]
  rw [← hbN] at HN
  have lN : W.heap.size ≤ bN := by omega
  clear hbN kk hrd
  generalize W.alloc _ = w1 at *
  have HN := Lib.hid (show IsInts w1 .i64 (some ⟨bN, 0, none⟩) 14 nums14 from HN.out)
  have K1 := Lib.hid (Kp.refl w1.heap.size w1)
  go_loopw [19] (fun i wr => ∃ j : Nat, i = .int .i64 (j : Int) ∧ j ≤ 14 ∧ Kp w1.heap.size w1 wr) (fun i _ => 14 - (intOf i).toNat)
  case atStart => exact ⟨0, rfl, by omega, K1.out⟩
  case round =>
    clear K1
    obtain ⟨a, rfl, ha, hk⟩ := hrel
    have K1 := Lib.hid hk
    clear hk
    by_cases hlt : a < 14
    · have hai : (a : Int) < 14 := by omega
      obtain ⟨n0, n1⟩ := nums14_ok hlt
      obtain ⟨bq, oq, hq, lq, cq⟩ := (HN.out.below K1.out) a hlt
      cases hq
      rw [Nat.zero_add] at cq
      generalize nums14.getD a 0 = n at *
      go_wp2_with fail
      clear cq lq
      go_loopw [23] (fun i wr => ∃ j : Nat, i = .int .i64 (j : Int) ∧ j ≤ 12 ∧ Kp w1.heap.size w1 wr) (fun i _ => 12 - (intOf i).toNat)
      case atStart => exact ⟨0, rfl, by omega, K1.out⟩
      case round =>
        clear K1
        obtain ⟨j, rfl, hj, hk⟩ := hrel
        have K1 := Lib.hid hk
        clear hk
        by_cases hlt2 : j < 12
        · have hji : (j : Int) < 12 := by omega
          go_wp2_with fail
          (with_reducible refine (HE _).out.mono ?_)
          rintro e w2 ⟨g, h, rfl, hsc, hoa, hob, hgh, hk⟩
          have K2 := Lib.hid (K1.out.trans (hk.mono K1.out.size))
          obtain ⟨g1, e1, lg, g3, fg, tg⟩ := hoa.at0 _ rfl
          cases e1
          obtain ⟨h1, e1, lh, h3, fh, th⟩ := hob.at0 _ rfl
          cases e1
          have lgw : w1.heap.size ≤ g := Nat.le_trans K1.out.size lg
          have lhw : w1.heap.size ≤ h := Nat.le_trans K1.out.size lh
          have HS2 := Lib.hid hsc
          have HFG := Lib.hid fg
          have HFH := Lib.hid fh
          clear hk hsc hoa hob fg fh tg th lg lh K1
          go_upto_region 9 with fail
          have k3 : Kp w2.heap.size w2 (w2.alloc (.cells #[.int .i64 2, .slice (some ⟨g, 0, none⟩) 3 3, .slice (some ⟨h, 0, none⟩) 2 2] 30)) := (Kp.refl _ _).alloc (Nat.le_refl _) _
          have k4 : Kp w2.heap.size w2 ((w2.alloc (.cells #[.int .i64 2, .slice (some ⟨g, 0, none⟩) 3 3, .slice (some ⟨h, 0, none⟩) 2 2] 30)).alloc (.cells #[.int .i64 2, .int .i64 0, .int .i64 1] 38)) := k3.alloc (by simp) _
          have x4 := (C3.new w2 (.int .i64 2) (.slice (some ⟨g, 0, none⟩) 3 3) (.slice (some ⟨h, 0, none⟩) 2 2) 30).alloc (.cells #[.int .i64 2, .int .i64 0, .int .i64 1] 38)
          have f4 := (Fz.new w2 #[.int .i64 2, .slice (some ⟨g, 0, none⟩) 3 3, .slice (some ⟨h, 0, none⟩) 2 2] 30).alloc (.cells #[.int .i64 2, .int .i64 0, .int .i64 1] 38)
          have x5 := C3.new (w2.alloc (.cells #[.int .i64 2, .slice (some ⟨g, 0, none⟩) 3 3, .slice (some ⟨h, 0, none⟩) 2 2] 30)) (.int .i64 2) (.int .i64 0) (.int .i64 1) 38
          have f5 := Fz.new (w2.alloc (.cells #[.int .i64 2, .slice (some ⟨g, 0, none⟩) 3 3, .slice (some ⟨h, 0, none⟩) 2 2] 30)) #[.int .i64 2, .int .i64 0, .int .i64 1] 38
          simp only [World.size_alloc] at x5 f5
          have ll := K2.out.size
          obtain ⟨b4, hb4⟩ : ∃ b, b = w2.heap.size := ⟨_, rfl⟩
          obtain ⟨b5, hb5⟩ : ∃ b, b = w2.heap.size + 1 := ⟨_, rfl⟩
          rw [← hb4] at x4 f4
          rw [← hb5] at x5 f5
          have ES0 := Lib.hid (ES.mk (W := w1) x4 x5 f4 f5 (HS2.out.ts.kp k4) (HS2.out.cur.below k4) (fun o => (k4.frozen (p := ⟨g, o, none⟩) g3).trans (HFG.out o)) (fun o => (k4.frozen (p := ⟨h, o, none⟩) h3).trans (HFH.out o)) ⟨hgh, by omega, by omega, by omega, by omega, by omega⟩ ⟨lgw, lhw, by omega, by omega⟩ (K2.out.trans (k4.mono K2.out.size)))
          rw [← hb5, ← hb4]
          clear hb4 hb5 k3 k4 x4 f4 x5 f5 ll HS2 HFG HFH K2 g3 h3
          generalize (w2.alloc _).alloc _ = w3 at *
          obtain ⟨c0, c1, c2, cl⟩ := ES0.out.s
          have cf := ES0.out.fs.2
          obtain ⟨d0, d1, d2, dl⟩ := ES0.out.m
          have df := ES0.out.fm.2
          have gf := ES0.out.gf
          have hf := ES0.out.hf
          obtain ⟨_, _, q0, T0⟩ := ES0.out.tk 0 (by omega)
          cases q0
          obtain ⟨_, _, q0, T1⟩ := ES0.out.tk 1 (by omega)
          cases q0
          obtain ⟨_, _, q0, T2⟩ := ES0.out.tk 2 (by omega)
          cases q0
          obtain ⟨_, _, q0, gl, R0⟩ := ES0.out.cu 0 (by omega)
          cases q0
          obtain ⟨_, _, q0, _, R1⟩ := ES0.out.cu 1 (by omega)
          cases q0
          have t00 : w3.cell? ⟨g, 0, none⟩ = some (.int .i64 1) := T0.c0
          have t12 : w3.cell? ⟨g, 10, none⟩ = some (.int .i64 300) := T1.c2
          have t20 : w3.cell? ⟨g, 16, none⟩ = some (.int .i64 3) := T2.c0
          have t23 : w3.cell? ⟨g, 19, none⟩ = some (.int .i64 0) := T2.c3
          have t24 : w3.cell? ⟨g, 20, none⟩ = some (.int .u64 3) := T2.c4
          have r0 : w3.cell? ⟨h, 0, none⟩ = some (.int .i64 0) := R0
          have r1 : w3.cell? ⟨h, 1, none⟩ = some (.int .i64 0) := R1
          clear T0 T1 T2 R0 R1 hji
          have hjj : j = 0 ∨ j = 1 ∨ j = 2 ∨ j = 3 ∨ j = 4 ∨ j = 5 ∨ j = 6 ∨ j = 7 ∨ j = 8 ∨ j = 9 ∨ j = 10 ∨ j = 11 := by omega
          clear hj hlt2
          rcases hjj with rfl | rfl | rfl | rfl | rfl | rfl | rfl | rfl | rfl | rfl | rfl | rfl
          · go_upto_region 36 with fail
            clear c0 c1 c2 cl cf d0 d1 d2 dl df gf hf t00 t12 t20 t23 t24 r0 r1 gl
            have XX := Lib.hid (ES0.out.num n)
            clear ES0
            generalize World.setCell _ _ _ = w5 at *
            obtain ⟨s, A, la, ca, B, lb, cb, k, x, y, hx, hsc, hA, hB, h1, h2, hm, hk⟩ := XX.out
            have HC := Lib.hid (tells_any (ca := ca) (cb := cb) (cpu := 1) (k := k) (x := x) (y := y) (most := 3) w5 hsc hA hB h1 (by omega) (by omega) (by omega) (by omega))
            obtain ⟨x0, x1, x2, xl⟩ := hx
            obtain ⟨y0, y1, y2, yl⟩ := hm
            have HK := Lib.hid hk
            clear hsc hA hB hk XX
            go_wp2_with fail
            (with_reducible refine HC.out.mono ?_)
            clear x0 x1 x2 xl y0 y1 y2 yl HC
            rintro e w6 ⟨rfl, hk6⟩
            have HK6 := Lib.hid (HK.out.trans (hk6.mono HK.out.size))
            clear hk6 HK
            go_wp2_with fail
            go_roundw
            case rel => exact ⟨1, by first | rfl | go_num, by omega, HK6.out⟩
            case measure => simp [intOf]
          · go_upto_region 36 with fail
            clear c0 c1 c2 cl cf d0 d1 d2 dl df gf hf t00 t12 t20 t23 t24 r0 r1 gl
            have XX := Lib.hid (ES0.out.tsk (j := 0) (f := 0) (t' := ⟨n, 0, 100, 0, 3, true, 0, 0⟩) (by omega) (by omega) rfl (by intro i h1 h2; have hh : i = 0 ∨ i = 1 ∨ i = 2 ∨ i = 3 ∨ i = 4 ∨ i = 5 ∨ i = 6 ∨ i = 7 := (by omega); rcases hh with rfl | rfl | rfl | rfl | rfl | rfl | rfl | rfl <;> first | rfl | exact absurd rfl h2) ⟨by dsimp only; omega, by dsimp only; omega, by dsimp only; omega, by dsimp only; omega, by dsimp only; omega, by dsimp only; omega, by dsimp only; omega, by dsimp only; omega⟩)
            clear ES0
            generalize World.setCell _ _ _ = w5 at *
            obtain ⟨s, A, la, ca, B, lb, cb, k, x, y, hx, hsc, hA, hB, h1, h2, hm, hk⟩ := XX.out
            have HC := Lib.hid (tells_any (ca := ca) (cb := cb) (cpu := 1) (k := k) (x := x) (y := y) (most := 3) w5 hsc hA hB h1 (by omega) (by omega) (by omega) (by omega))
            obtain ⟨x0, x1, x2, xl⟩ := hx
            obtain ⟨y0, y1, y2, yl⟩ := hm
            have HK := Lib.hid hk
            clear hsc hA hB hk XX
            go_wp2_with fail
            (with_reducible refine HC.out.mono ?_)
            clear x0 x1 x2 xl y0 y1 y2 yl HC
            rintro e w6 ⟨rfl, hk6⟩
            have HK6 := Lib.hid (HK.out.trans (hk6.mono HK.out.size))
            clear hk6 HK
            go_wp2_with fail
            go_roundw
            case rel => exact ⟨2, by first | rfl | go_num, by omega, HK6.out⟩
            case measure => simp [intOf]
          · go_upto_region 36 with fail
            clear c0 c1 c2 cl cf d0 d1 d2 dl df gf hf t00 t12 t20 t23 t24 r0 r1 gl
            have XX := Lib.hid (ES0.out.tsk (j := 1) (f := 2) (t' := ⟨2, 0, n, 0, 3, true, 0, 0⟩) (by omega) (by omega) rfl (by intro i h1 h2; have hh : i = 0 ∨ i = 1 ∨ i = 2 ∨ i = 3 ∨ i = 4 ∨ i = 5 ∨ i = 6 ∨ i = 7 := (by omega); rcases hh with rfl | rfl | rfl | rfl | rfl | rfl | rfl | rfl <;> first | rfl | exact absurd rfl h2) ⟨by dsimp only; omega, by dsimp only; omega, by dsimp only; omega, by dsimp only; omega, by dsimp only; omega, by dsimp only; omega, by dsimp only; omega, by dsimp only; omega⟩)
            clear ES0
            generalize World.setCell _ _ _ = w5 at *
            obtain ⟨s, A, la, ca, B, lb, cb, k, x, y, hx, hsc, hA, hB, h1, h2, hm, hk⟩ := XX.out
            have HC := Lib.hid (tells_any (ca := ca) (cb := cb) (cpu := 1) (k := k) (x := x) (y := y) (most := 3) w5 hsc hA hB h1 (by omega) (by omega) (by omega) (by omega))
            obtain ⟨x0, x1, x2, xl⟩ := hx
            obtain ⟨y0, y1, y2, yl⟩ := hm
            have HK := Lib.hid hk
            clear hsc hA hB hk XX
            go_wp2_with fail
            (with_reducible refine HC.out.mono ?_)
            clear x0 x1 x2 xl y0 y1 y2 yl HC
            rintro e w6 ⟨rfl, hk6⟩
            have HK6 := Lib.hid (HK.out.trans (hk6.mono HK.out.size))
            clear hk6 HK
            go_wp2_with fail
            go_roundw
            case rel => exact ⟨3, by first | rfl | go_num, by omega, HK6.out⟩
            case measure => simp [intOf]
          · go_upto_region 36 with fail
            clear c0 c1 c2 cl cf d0 d1 d2 dl df gf hf t00 t12 t20 t23 t24 r0 r1 gl
            have XX := Lib.hid (ES0.out.tsk (j := 2) (f := 3) (t' := ⟨3, 0, 200, n, 3, true, 0, 0⟩) (by omega) (by omega) rfl (by intro i h1 h2; have hh : i = 0 ∨ i = 1 ∨ i = 2 ∨ i = 3 ∨ i = 4 ∨ i = 5 ∨ i = 6 ∨ i = 7 := (by omega); rcases hh with rfl | rfl | rfl | rfl | rfl | rfl | rfl | rfl <;> first | rfl | exact absurd rfl h2) ⟨by dsimp only; omega, by dsimp only; omega, by dsimp only; omega, by dsimp only; omega, by dsimp only; omega, by dsimp only; omega, by dsimp only; omega, by dsimp only; omega⟩)
            clear ES0
            generalize World.setCell _ _ _ = w5 at *
            obtain ⟨s, A, la, ca, B, lb, cb, k, x, y, hx, hsc, hA, hB, h1, h2, hm, hk⟩ := XX.out
            have HC := Lib.hid (tells_any (ca := ca) (cb := cb) (cpu := 1) (k := k) (x := x) (y := y) (most := 3) w5 hsc hA hB h1 (by omega) (by omega) (by omega) (by omega))
            obtain ⟨x0, x1, x2, xl⟩ := hx
            obtain ⟨y0, y1, y2, yl⟩ := hm
            have HK := Lib.hid hk
            clear hsc hA hB hk XX
            go_wp2_with fail
            (with_reducible refine HC.out.mono ?_)
            clear x0 x1 x2 xl y0 y1 y2 yl HC
            rintro e w6 ⟨rfl, hk6⟩
            have HK6 := Lib.hid (HK.out.trans (hk6.mono HK.out.size))
            clear hk6 HK
            go_wp2_with fail
            go_roundw
            case rel => exact ⟨4, by first | rfl | go_num, by omega, HK6.out⟩
            case measure => simp [intOf]
          · obtain ⟨mk, hmk⟩ : ∃ m, m = IntKind.u64.wrap n := ⟨_, rfl⟩
            have m0 : 0 ≤ mk ∧ mk ≤ 18446744073709551615 := by
              rw [hmk]
              unfold IntKind.wrap
              simp [IntKind.bits, IntKind.signed]
              omega
            go_upto_region 36 with fail
            rw [← hmk]
            clear hmk
            clear c0 c1 c2 cl cf d0 d1 d2 dl df gf hf t00 t12 t20 t23 t24 r0 r1 gl
            have XX := Lib.hid (ES0.out.tsk (j := 2) (f := 4) (t' := ⟨3, 0, 200, 0, mk, true, 0, 0⟩) (by omega) (by omega) rfl (by intro i h1 h2; have hh : i = 0 ∨ i = 1 ∨ i = 2 ∨ i = 3 ∨ i = 4 ∨ i = 5 ∨ i = 6 ∨ i = 7 := (by omega); rcases hh with rfl | rfl | rfl | rfl | rfl | rfl | rfl | rfl <;> first | rfl | exact absurd rfl h2) ⟨by dsimp only; omega, by dsimp only; omega, by dsimp only; omega, by dsimp only; omega, by dsimp only; omega, by dsimp only; omega, by dsimp only; omega, by dsimp only; omega⟩)
            clear ES0
            generalize World.setCell _ _ _ = w5 at *
            obtain ⟨s, A, la, ca, B, lb, cb, k, x, y, hx, hsc, hA, hB, h1, h2, hm, hk⟩ := XX.out
            have HC := Lib.hid (tells_any (ca := ca) (cb := cb) (cpu := 1) (k := k) (x := x) (y := y) (most := 3) w5 hsc hA hB h1 (by omega) (by omega) (by omega) (by omega))
            obtain ⟨x0, x1, x2, xl⟩ := hx
            obtain ⟨y0, y1, y2, yl⟩ := hm
            have HK := Lib.hid hk
            clear hsc hA hB hk XX
            go_wp2_with fail
            (with_reducible refine HC.out.mono ?_)
            clear x0 x1 x2 xl y0 y1 y2 yl HC
            rintro e w6 ⟨rfl, hk6⟩
            have HK6 := Lib.hid (HK.out.trans (hk6.mono HK.out.size))
            clear hk6 HK
            go_wp2_with fail
            go_roundw
            case rel => exact ⟨5, by first | rfl | go_num, by omega, HK6.out⟩
            case measure => simp [intOf]
          · go_upto_region 36 with fail
            clear c0 c1 c2 cl cf d0 d1 d2 dl df gf hf t00 t12 t20 t23 t24 r0 r1 gl
            have XX := Lib.hid (ES0.out.run (j := 0) (by omega) n)
            clear ES0
            generalize World.setCell _ _ _ = w5 at *
            obtain ⟨s, A, la, ca, B, lb, cb, k, x, y, hx, hsc, hA, hB, h1, h2, hm, hk⟩ := XX.out
            have HC := Lib.hid (tells_any (ca := ca) (cb := cb) (cpu := 1) (k := k) (x := x) (y := y) (most := 3) w5 hsc hA hB h1 (by omega) (by omega) (by omega) (by omega))
            obtain ⟨x0, x1, x2, xl⟩ := hx
            obtain ⟨y0, y1, y2, yl⟩ := hm
            have HK := Lib.hid hk
            clear hsc hA hB hk XX
            go_wp2_with fail
            (with_reducible refine HC.out.mono ?_)
            clear x0 x1 x2 xl y0 y1 y2 yl HC
            rintro e w6 ⟨rfl, hk6⟩
            have HK6 := Lib.hid (HK.out.trans (hk6.mono HK.out.size))
            clear hk6 HK
            go_wp2_with fail
            go_roundw
            case rel => exact ⟨6, by first | rfl | go_num, by omega, HK6.out⟩
            case measure => simp [intOf]
          · go_upto_region 36 with fail
            clear c0 c1 c2 cl cf d0 d1 d2 dl df gf hf t00 t12 t20 t23 t24 r0 r1 gl
            have XX := Lib.hid (ES0.out.run (j := 1) (by omega) n)
            clear ES0
            generalize World.setCell _ _ _ = w5 at *
            obtain ⟨s, A, la, ca, B, lb, cb, k, x, y, hx, hsc, hA, hB, h1, h2, hm, hk⟩ := XX.out
            have HC := Lib.hid (tells_any (ca := ca) (cb := cb) (cpu := 1) (k := k) (x := x) (y := y) (most := 3) w5 hsc hA hB h1 (by omega) (by omega) (by omega) (by omega))
            obtain ⟨x0, x1, x2, xl⟩ := hx
            obtain ⟨y0, y1, y2, yl⟩ := hm
            have HK := Lib.hid hk
            clear hsc hA hB hk XX
            go_wp2_with fail
            (with_reducible refine HC.out.mono ?_)
            clear x0 x1 x2 xl y0 y1 y2 yl HC
            rintro e w6 ⟨rfl, hk6⟩
            have HK6 := Lib.hid (HK.out.trans (hk6.mono HK.out.size))
            clear hk6 HK
            go_wp2_with fail
            go_roundw
            case rel => exact ⟨7, by first | rfl | go_num, by omega, HK6.out⟩
            case measure => simp [intOf]
          · go_upto_region 36 with fail
            clear c0 c1 c2 cl cf d0 d1 d2 dl df gf hf t00 t12 t20 t23 t24 r0 r1 gl
            have XX := Lib.hid (ES0.out.mv0 n)
            clear ES0
            generalize World.setCell _ _ _ = w5 at *
            obtain ⟨s, A, la, ca, B, lb, cb, k, x, y, hx, hsc, hA, hB, h1, h2, hm, hk⟩ := XX.out
            have HC := Lib.hid (tells_any (ca := ca) (cb := cb) (cpu := n) (k := k) (x := x) (y := y) (most := 3) w5 hsc hA hB h1 (by omega) (by omega) (by omega) (by omega))
            obtain ⟨x0, x1, x2, xl⟩ := hx
            obtain ⟨y0, y1, y2, yl⟩ := hm
            have HK := Lib.hid hk
            clear hsc hA hB hk XX
            go_wp2_with fail
            (with_reducible refine HC.out.mono ?_)
            clear x0 x1 x2 xl y0 y1 y2 yl HC
            rintro e w6 ⟨rfl, hk6⟩
            have HK6 := Lib.hid (HK.out.trans (hk6.mono HK.out.size))
            clear hk6 HK
            go_wp2_with fail
            go_roundw
            case rel => exact ⟨8, by first | rfl | go_num, by omega, HK6.out⟩
            case measure => simp [intOf]
          · go_upto_region 36 with fail
            clear c0 c1 c2 cl cf d0 d1 d2 dl df gf hf t00 t12 t20 t23 t24 r0 r1 gl
            have XX := Lib.hid (ES0.out.mv12 n)
            clear ES0
            generalize World.setCell _ _ _ = w5 at *
            obtain ⟨s, A, la, ca, B, lb, cb, k, x, y, hx, hsc, hA, hB, h1, h2, hm, hk⟩ := XX.out
            have HC := Lib.hid (tells_any (ca := ca) (cb := cb) (cpu := 1) (k := k) (x := x) (y := y) (most := 3) w5 hsc hA hB h1 (by omega) (by omega) (by omega) (by omega))
            obtain ⟨x0, x1, x2, xl⟩ := hx
            obtain ⟨y0, y1, y2, yl⟩ := hm
            have HK := Lib.hid hk
            clear hsc hA hB hk XX
            go_wp2_with fail
            (with_reducible refine HC.out.mono ?_)
            clear x0 x1 x2 xl y0 y1 y2 yl HC
            rintro e w6 ⟨rfl, hk6⟩
            have HK6 := Lib.hid (HK.out.trans (hk6.mono HK.out.size))
            clear hk6 HK
            go_wp2_with fail
            go_roundw
            case rel => exact ⟨9, by first | rfl | go_num, by omega, HK6.out⟩
            case measure => simp [intOf]
          · by_cases h200 : 200 < n
            · go_upto_region 36 with fail
              clear c0 c1 c2 cl cf d0 d1 d2 dl df gf hf t00 t12 t20 t23 t24 r0 r1 gl
              have XX := Lib.hid (ES0.out.mv2 n)
              clear ES0
              generalize World.setCell _ _ _ = w5 at *
              obtain ⟨s, A, la, ca, B, lb, cb, k, x, y, hx, hsc, hA, hB, h1, h2, hm, hk⟩ := XX.out
              have HC := Lib.hid (tells_any (ca := ca) (cb := cb) (cpu := 1) (k := k) (x := x) (y := y) (most := 200) w5 hsc hA hB h1 (by omega) (by omega) (by omega) (by omega))
              obtain ⟨x0, x1, x2, xl⟩ := hx
              obtain ⟨y0, y1, y2, yl⟩ := hm
              have HK := Lib.hid hk
              clear hsc hA hB hk XX
              go_wp2_with fail
              (with_reducible refine HC.out.mono ?_)
              clear x0 x1 x2 xl y0 y1 y2 yl HC
              rintro e w6 ⟨rfl, hk6⟩
              have HK6 := Lib.hid (HK.out.trans (hk6.mono HK.out.size))
              clear hk6 HK
              go_wp2_with fail
              go_roundw
              case rel => exact ⟨10, by first | rfl | go_num, by omega, HK6.out⟩
              case measure => simp [intOf]
            · go_upto_region 36 with fail
              clear c0 c1 c2 cl cf d0 d1 d2 dl df gf hf t00 t12 t20 t23 t24 r0 r1 gl
              have XX := Lib.hid (ES0.out.mv2 n)
              clear ES0
              generalize World.setCell _ _ _ = w5 at *
              obtain ⟨s, A, la, ca, B, lb, cb, k, x, y, hx, hsc, hA, hB, h1, h2, hm, hk⟩ := XX.out
              have HC := Lib.hid (tells_any (ca := ca) (cb := cb) (cpu := 1) (k := k) (x := x) (y := y) (most := n) w5 hsc hA hB h1 (by omega) (by omega) (by omega) (by omega))
              obtain ⟨x0, x1, x2, xl⟩ := hx
              obtain ⟨y0, y1, y2, yl⟩ := hm
              have HK := Lib.hid hk
              clear hsc hA hB hk XX
              go_wp2_with fail
              (with_reducible refine HC.out.mono ?_)
              clear x0 x1 x2 xl y0 y1 y2 yl HC
              rintro e w6 ⟨rfl, hk6⟩
              have HK6 := Lib.hid (HK.out.trans (hk6.mono HK.out.size))
              clear hk6 HK
              go_wp2_with fail
              go_roundw
              case rel => exact ⟨10, by first | rfl | go_num, by omega, HK6.out⟩
              case measure => simp [intOf]
          · by_cases hn : n ≤ 0
            · have hn1 : n < 70 := by omega
              have hn2 : ¬ 70 < n := by omega
              have hn3 : ¬ 0 < n := by omega
              have hmk : (Instr.makeSlice 28 (.int .i64 0) (.int .i64 0)).run Try.prog w3 = _ := make_ints w3 0 (by omega)
              have hXX := ES0.out.mk2 (K := 0) (by omega)
              simp only [Value.cells] at hXX
              have HXX := Lib.hid hXX
              clear hXX
              go_upto_region 36 with fail
              clear hmk
              clear c0 c1 c2 cl cf d0 d1 d2 dl df gf hf t00 t12 t20 t23 t24 r0 r1 gl
              have XX := Lib.hid (HXX.out)
              clear ES0
              clear HXX
              generalize World.alloc _ _ = w5 at *
              obtain ⟨s, A, la, ca, B, lb, cb, k, x, y, hx, hsc, hA, hB, h1, h2, hm, hk⟩ := XX.out
              have HC := Lib.hid (tells_any (ca := ca) (cb := cb) (cpu := 1) (k := k) (x := x) (y := y) (most := 3) w5 hsc hA hB h1 (by omega) (by omega) (by omega) (by omega))
              obtain ⟨x0, x1, x2, xl⟩ := hx
              obtain ⟨y0, y1, y2, yl⟩ := hm
              have HK := Lib.hid hk
              clear hsc hA hB hk XX
              go_wp2_with fail
              (with_reducible refine HC.out.mono ?_)
              clear x0 x1 x2 xl y0 y1 y2 yl HC
              rintro e w6 ⟨rfl, hk6⟩
              have HK6 := Lib.hid (HK.out.trans (hk6.mono HK.out.size))
              clear hk6 HK
              go_wp2_with fail
              go_roundw
              case rel => exact ⟨11, by first | rfl | go_num, by omega, HK6.out⟩
              case measure => simp [intOf]
            by_cases h70 : 70 < n
            · have hn1 : ¬ n < 70 := by omega
              have hmk : (Instr.makeSlice 28 (.int .i64 70) (.int .i64 70)).run Try.prog w3 = _ := make_ints w3 70 (by omega)
              have hXX := ES0.out.mk2 (K := 70) (by omega)
              simp only [Value.cells] at hXX
              have HXX := Lib.hid hXX
              clear hXX
              go_upto_region 36 with fail
              clear hmk
              clear c0 c1 c2 cl cf d0 d1 d2 dl df gf hf t00 t12 t20 t23 t24 r0 r1 gl
              have XX := Lib.hid (HXX.out)
              clear ES0
              clear HXX
              generalize World.alloc _ _ = w5 at *
              obtain ⟨s, A, la, ca, B, lb, cb, k, x, y, hx, hsc, hA, hB, h1, h2, hm, hk⟩ := XX.out
              have HC := Lib.hid (tells_any (ca := ca) (cb := cb) (cpu := 1) (k := k) (x := x) (y := y) (most := 3) w5 hsc hA hB h1 (by omega) (by omega) (by omega) (by omega))
              obtain ⟨x0, x1, x2, xl⟩ := hx
              obtain ⟨y0, y1, y2, yl⟩ := hm
              have HK := Lib.hid hk
              clear hsc hA hB hk XX
              go_wp2_with fail
              (with_reducible refine HC.out.mono ?_)
              clear x0 x1 x2 xl y0 y1 y2 yl HC
              rintro e w6 ⟨rfl, hk6⟩
              have HK6 := Lib.hid (HK.out.trans (hk6.mono HK.out.size))
              clear hk6 HK
              go_wp2_with fail
              go_roundw
              case rel => exact ⟨11, by first | rfl | go_num, by omega, HK6.out⟩
              case measure => simp [intOf]
            obtain ⟨Q, rfl⟩ : ∃ Q : Nat, n = (Q : Int) := ⟨n.toNat, by omega⟩
            have hn2 : (Q : Int) ≤ 70 := by omega
            have hn3 : 0 < (Q : Int) := by omega
            have hn4 : 0 < Q := by omega
            have hmk : (Instr.makeSlice 28 (.int .i64 (Q : Int)) (.int .i64 (Q : Int))).run Try.prog w3 = _ := make_ints w3 Q (by omega)
            have hXX := ES0.out.mk2 (K := Q) (by omega)
            simp only [Value.cells] at hXX
            have HXX := Lib.hid hXX
            clear hXX
            go_upto_region 36 with fail
            clear hmk
            clear c0 c1 c2 cl cf d0 d1 d2 dl df gf hf t00 t12 t20 t23 t24 r0 r1 gl
            have XX := Lib.hid (HXX.out)
            clear ES0
            clear HXX
            generalize World.alloc _ _ = w5 at *
            obtain ⟨s, A, la, ca, B, lb, cb, k, x, y, hx, hsc, hA, hB, h1, h2, hm, hk⟩ := XX.out
            have HC := Lib.hid (tells_any (ca := ca) (cb := cb) (cpu := 1) (k := k) (x := x) (y := y) (most := 3) w5 hsc hA hB h1 (by omega) (by omega) (by omega) (by omega))
            obtain ⟨x0, x1, x2, xl⟩ := hx
            obtain ⟨y0, y1, y2, yl⟩ := hm
            have HK := Lib.hid hk
            clear hsc hA hB hk XX
            go_wp2_with fail
            (with_reducible refine HC.out.mono ?_)
            clear x0 x1 x2 xl y0 y1 y2 yl HC
            rintro e w6 ⟨rfl, hk6⟩
            have HK6 := Lib.hid (HK.out.trans (hk6.mono HK.out.size))
            clear hk6 HK
            go_wp2_with fail
            go_roundw
            case rel => exact ⟨11, by first | rfl | go_num, by omega, HK6.out⟩
            case measure => simp [intOf]
          · go_upto_region 36 with fail
            clear c0 c1 c2 cl cf d0 d1 d2 dl df gf hf t00 t12 t20 t23 t24 r0 r1 gl
            have XX := Lib.hid (ES0.out.tsk (j := 2) (f := 0) (t' := ⟨n, 0, 200, 0, 3, true, 0, 0⟩) (by omega) (by omega) rfl (by intro i h1 h2; have hh : i = 0 ∨ i = 1 ∨ i = 2 ∨ i = 3 ∨ i = 4 ∨ i = 5 ∨ i = 6 ∨ i = 7 := (by omega); rcases hh with rfl | rfl | rfl | rfl | rfl | rfl | rfl | rfl <;> first | rfl | exact absurd rfl h2) ⟨by dsimp only; omega, by dsimp only; omega, by dsimp only; omega, by dsimp only; omega, by dsimp only; omega, by dsimp only; omega, by dsimp only; omega, by dsimp only; omega⟩)
            clear ES0
            generalize World.setCell _ _ _ = w5 at *
            obtain ⟨s, A, la, ca, B, lb, cb, k, x, y, hx, hsc, hA, hB, h1, h2, hm, hk⟩ := XX.out
            have HC := Lib.hid (tells_any (ca := ca) (cb := cb) (cpu := 1) (k := k) (x := x) (y := y) (most := 3) w5 hsc hA hB h1 (by omega) (by omega) (by omega) (by omega))
            obtain ⟨x0, x1, x2, xl⟩ := hx
            obtain ⟨y0, y1, y2, yl⟩ := hm
            have HK := Lib.hid hk
            clear hsc hA hB hk XX
            go_wp2_with fail
            (with_reducible refine HC.out.mono ?_)
            clear x0 x1 x2 xl y0 y1 y2 yl HC
            rintro e w6 ⟨rfl, hk6⟩
            have HK6 := Lib.hid (HK.out.trans (hk6.mono HK.out.size))
            clear hk6 HK
            go_wp2_with fail
            go_roundw
            case rel => exact ⟨12, by first | rfl | go_num, by omega, HK6.out⟩
            case measure => simp [intOf]
        obtain rfl : j = 12 := by omega
        go_wp2_with fail
        go_roundw
        case rel => exact ⟨a + 1, by go_num, by omega, K1.out⟩
        case measure => simp [intOf]; omega
    have hai : ¬ ((a : Int) < 14) := by omega
    have HK14 := Lib.hid K1.out
    clear K1 ha hlt
    have K1 := Lib.hid HK14.out
    clear HK14
    go_wp2_with fail
    go_loopw [111] (fun i wr => ∃ j : Nat, i = .int .i64 (j : Int) ∧ j ≤ 1728 ∧ Kp w1.heap.size w1 wr) (fun i _ => 1728 - (intOf i).toNat)
    case atStart => exact ⟨0, rfl, by omega, K1.out⟩
    case round =>
      clear K1
      obtain ⟨a, rfl, ha, hk⟩ := hrel
      have K1 := Lib.hid hk
      clear hk
      by_cases hlt : a < 1728
      · have hai : (a : Int) < 1728 := by omega
        obtain ⟨N, hN⟩ : ∃ N : Nat, 2 + (a : Int) % 2 = (N : Int) := ⟨(2 + (a : Int) % 2).toNat, by omega⟩
        have hN2 : 2 ≤ N ∧ N ≤ 3 := by omega
        have HN1 := Lib.hid hN
        have hmk : (Instr.makeSlice 28 (.int .i64 (2 + (a : Int) % 2)) (.int .i64 (2 + (a : Int) % 2))).run Try.prog wr = .ok (.slice (some ⟨wr.heap.size, 0, none⟩) N N) (wr.alloc (.cells (madeCells (Value.int .i64 0).cells N) 3)) := by rw [hN]; exact make_ints wr N (by omega)
        clear hN
        go_upto_region 44 with fail
        clear hmk
        rw [HN1.out]
        have k2 : Kp wr.heap.size wr (wr.alloc (.cells (madeCells (Value.int .i64 0).cells N) 3)) := (Kp.refl _ _).alloc (Nat.le_refl _) _
        have k3 : Kp wr.heap.size wr ((wr.alloc (.cells (madeCells (Value.int .i64 0).cells N) 3)).alloc (.cells #[.int .i64 (N : Int), .slice none 0 0, .slice (some ⟨wr.heap.size, 0, none⟩) N N] 30)) := k2.alloc (by simp) _
        have x9 := C3.new (wr.alloc (.cells (madeCells (Value.int .i64 0).cells N) 3)) (.int .i64 (N : Int)) (.slice none 0 0) (.slice (some ⟨wr.heap.size, 0, none⟩) N N) 30
        have f9 := Fz.new (wr.alloc (.cells (madeCells (Value.int .i64 0).cells N) 3)) #[.int .i64 (N : Int), .slice none 0 0, .slice (some ⟨wr.heap.size, 0, none⟩) N N] 30
        have t9 := Ty.new (wr.alloc (.cells (madeCells (Value.int .i64 0).cells N) 3)) #[.int .i64 (N : Int), .slice none 0 0, .slice (some ⟨wr.heap.size, 0, none⟩) N N] 30
        have kB : Kp (wr.alloc (.cells (madeCells (Value.int .i64 0).cells N) 3)).heap.size (wr.alloc (.cells (madeCells (Value.int .i64 0).cells N) 3)) ((wr.alloc (.cells (madeCells (Value.int .i64 0).cells N) 3)).alloc (.cells #[.int .i64 (N : Int), .slice none 0 0, .slice (some ⟨wr.heap.size, 0, none⟩) N N] 30)) := (Kp.refl _ _).alloc (Nat.le_refl _) _
        have r9 := (Row.made wr (.int .i64 0) rfl N 3).kp kB
        have u9 := (Ty.new wr (madeCells (Value.int .i64 0).cells N) 3).kp kB
        simp only [World.size_alloc] at x9 f9 t9
        obtain ⟨bU, hbU⟩ : ∃ b, b = wr.heap.size := ⟨_, rfl⟩
        obtain ⟨bS, hbS⟩ : ∃ b, b = wr.heap.size + 1 := ⟨_, rfl⟩
        have lS : w1.heap.size ≤ bS := by have := K1.out.size; omega
        have lU : w1.heap.size ≤ bU := by have := K1.out.size; omega
        have FS0 := FS.mk (W := w1) (ts := []) x9 f9 t9 r9 u9 (World.ownsRow_nil _ _ _ _) (K1.out.trans (k3.mono K1.out.size))
        simp only [Value.cells] at FS0
        rw [← hbS, ← hbU] at FS0
        have HFS := Lib.hid FS0
        rw [← hbS, ← hbU]
        clear hbU hbS k2 k3 x9 f9 t9 kB r9 u9 FS0 K1
        generalize World.alloc _ _ = w4 at *
        have hS0 := HFS.out.s.lt
        go_wp2_with fail
        go_loopw [10, 11] (fun x i wr => ∃ (xv j : Nat) (ts : List Tk) (v : Value), x = .int .i64 (xv : Int) ∧ xv ≤ 2000 ∧ i = .int .i64 (j : Int) ∧ 1 ≤ j ∧ j ≤ 5 ∧ ts.length + 1 = j ∧ (∀ t ∈ ts, t.ok) ∧ FS w1 bS bU wr v N ts) (fun _ i _ => 5 - (intOf i).toNat)
        case atStart => exact ⟨a, 1, [], _, rfl, by omega, rfl, by omega, by omega, rfl, (fun t h => by cases h), HFS.out⟩
        case round =>
          clear HFS hS0
          obtain ⟨xv, j, ts, v, rfl, hx, rfl, hj1, hj5, hl, hok, hfs⟩ := hrel
          have HL := Lib.hid hl
          have HOK := Lib.hid hok
          have HFS := Lib.hid hfs
          clear hl hok hfs
          by_cases hj : j ≤ 4
          · have hji : (j : Int) ≤ 4 := by omega
            go_upto_region 49 with fail
            have hwt : 1 ≤ 1 + (xv : Int) % 3 ∧ 1 + (xv : Int) % 3 ≤ 3 := by omega
            have hcp : (xv : Int) / 3 % 2 = 0 ∨ (xv : Int) / 3 % 2 = 1 := by omega
            have hxq : 0 ≤ (xv : Int) / 2 % 4 ∧ (xv : Int) / 2 % 4 ≤ 3 := by omega
            generalize 1 + (xv : Int) % 3 = wt at *
            generalize (xv : Int) / 3 % 2 = cp at *
            generalize decide (0 < ((xv : Int) + (j : Int)) % 5) = rd at *
            have ka : Kp wr.heap.size wr (wr.alloc (.cells #[.int .i64 (2 * (j : Int)), .int .i64 0, .int .i64 wt, .int .i64 cp, .int .u64 0, .bool rd, .int .u64 0, .int .u32 0] 43)) := (Kp.refl _ _).alloc (Nat.le_refl _) _
            have HT := Lib.hid (Tb.new wr ⟨2 * (j : Int), 0, wt, cp, 0, rd, 0, 0⟩ 43)
            have HF1 := Lib.hid (HFS.out.kps ka)
            dsimp only [tkc] at HT
            obtain ⟨bT, hbT⟩ : ∃ b, b = wr.heap.size := ⟨_, rfl⟩
            have lT : w1.heap.size ≤ bT := by have := HFS.out.kp.size; omega
            have HBT := Lib.hid (show v.ownBlock ≠ some bT from fun e => by have := HFS.out.lt e; omega)
            have HNE := Lib.hid (show bS ≠ bT ∧ bU ≠ bT from ⟨by have := HFS.out.s.lt; omega, by have := HFS.out.cu.lt; omega⟩)
            rw [← hbT] at HT
            rw [← hbT]
            clear hbT ka HFS
            generalize World.alloc _ _ = w5 at *
            obtain ⟨c0, c1, c2, c3, c4, c5, c6, c7, cl⟩ := HT.out.tk
            have cf := HT.out.fz
            simp only [Nat.zero_add] at c0 c1 c2 c3 c4 c5 c6 c7
            go_upto_region 50 with fail
            obtain ⟨mk, hmk, m0, m1⟩ := mask_small hxq hcp
            rw [hmk]
            have HT6 := Lib.hid (HT.out.mask5 mk)
            have HF6 := Lib.hid (HF1.out.mask (x := .int .u64 mk) HBT.out (HNE.out).1 (HNE.out).2 lT)
            dsimp only at HT6
            clear hmk c0 c1 c2 c3 c4 c5 c6 c7 cl cf HT HF1
            generalize World.setCell _ _ _ = w6 at *
            obtain ⟨c0, c1, c2, c3, c4, c5, c6, c7, cl⟩ := HT6.out.tk
            simp only [Nat.zero_add] at c0 c1 c2 c3 c4 c5 c6 c7
            obtain ⟨x0, x1, x2, xl⟩ := HF6.out.s
            have xf := HF6.out.fs.2
            obtain ⟨i0, hi0, hz0, hz1, hz2⟩ := info_parts tk_info
            have HI := Lib.hid hi0
            have HZ0 := Lib.hid hz0
            have HZ1 := Lib.hid hz1
            have HZ2 := Lib.hid hz2
            clear hi0 hz0 hz1 hz2
            go_wp2_with (at_builtin; refine wpList_append_rd _ rfl _ _ 27 rfl w1.heap.size 43 i0 (tkv t0) 8 64 Try.underlying27 HI.out HZ0.out HZ1.out HZ2.out rfl (by decide) _ ts.length (flatT ts) rfl ?qc1 (some ⟨w6.heap.size, 0, none⟩) 1 1 (flatT [⟨2 * (j : Int), 0, wt, cp, mk, rd, 0, 0⟩]) rfl ?qc2 (oneCellsT [⟨2 * (j : Int), 0, wt, cp, mk, rd, 0, 0⟩]) ?qc4 ?qc5 ?qc6 ?_)
            case qc1 => exact own_kp HF6.out.row ((Kp.refl _ w6).alloc (Nat.le_refl _) (.cells (tkc ⟨2 * (j : Int), 0, wt, cp, mk, rd, 0, 0⟩) 43))
            case qc2 => exact rd_new w6 _ 43 8 1 rfl
            case qc4 => have := HL.out; unfold maxLen; omega
            case qc5 => have := HL.out; omega
            case qc6 => have := HF6.out.kp.size; simp; omega
            intro v9 w9 hown9 hgrow9
            obtain ⟨A9, c9, rfl, -⟩ := own_form hown9
            have HF7 := HF6.out.kps ((Kp.refl _ w6).alloc (Nat.le_refl _) (.cells (tkc ⟨2 * (j : Int), 0, wt, cp, mk, rd, 0, 0⟩) 43))
            obtain ⟨hs9, hf9, hm9⟩ := HF7.grow (t := ⟨2 * (j : Int), 0, wt, cp, mk, rd, 0, 0⟩) lS hgrow9 hown9
            have HM9 := Lib.hid hm9
            clear hm9 hgrow9 hown9 HF7 c0 c1 c2 c3 c4 c5 c6 c7 cl x0 x1 x2 xl xf HT6 HF6
            obtain ⟨x0, x1, x2, xl⟩ := hs9
            have xf := hf9.2
            go_wp2_with fail
            clear x0 x1 x2 xl xf hf9
            generalize w9.setCell _ _ = w10 at *
            go_roundw
            case rel =>
              refine ⟨xv / 2 + 7 * j, j + 1, ts ++ [⟨2 * (j : Int), 0, wt, cp, mk, rd, 0, 0⟩], _, by go_num, by omega, by go_num, by omega, by omega, by rw [List.length_append]; simp; exact HL.out, fun t ht => ?_, HM9.out⟩
              rcases List.mem_append.1 ht with h1 | h1
              · exact HOK.out t h1
              · rw [List.mem_singleton] at h1
                subst h1
                exact ⟨by dsimp only; omega, by dsimp only; omega, by dsimp only; omega, by dsimp only; omega, by dsimp only; omega, by dsimp only; omega, m0, m1⟩
            case measure => simp [intOf]; omega
          · have hjn : ¬ ((j : Int) ≤ 4) := by omega
            have hl4 : ts.length = 4 := by have := HL.out; omega
            clear hj hj1 hj5
            obtain ⟨Av, cv, rfl, hFC, hon, -⟩ := HFS.out.fc lU hl4
            have HLT := Lib.hid hl4
            have HFC := Lib.hid hFC
            have HON := Lib.hid hon
            clear hFC hon hl4 HL HFS
            obtain ⟨x0, x1, x2, xl⟩ := HFC.out.s
            have xf := HFC.out.fs.2
            go_upto_region 53 with fail
            go_loopw [164] (fun i wr => ∃ (c : Nat) (cur : List Int), i = .int .i64 (c : Int) ∧ c ≤ N ∧ FC w1 bS bU wr Av 4 cv N ts cur) (fun i _ => N - (intOf i).toNat)
            case atStart => exact ⟨0, _, rfl, Nat.zero_le _, HFC.out⟩
            case round =>
              clear HFC x0 x1 x2 xl xf
              obtain ⟨c, cur, rfl, hc, hfc⟩ := hrel
              have HFC := Lib.hid hfc
              clear hfc
              by_cases hlt2 : c < N
              · have hcN : (c : Int) < (N : Int) := by omega
                go_upto_region 55 with fail
                have kb : Kp wr.heap.size wr (wr.alloc (.cells #[.int .i64 (c : Int)] 3)) := (Kp.refl _ _).alloc (Nat.le_refl _) _
                have HB := Lib.hid (Bx.new wr (.int .i64 (c : Int)) 3)
                have HFC1 := Lib.hid (HFC.out.kps kb)
                obtain ⟨bC, hbC⟩ : ∃ b, b = wr.heap.size := ⟨_, rfl⟩
                rw [← hbC] at HB
                rw [← hbC]
                clear hbC kb HFC
                generalize World.alloc _ _ = w7 at *
                obtain ⟨x0, x1, x2, xl⟩ := HFC1.out.s
                have HIX := Lib.hid (index27_any w7 (c := cv) HLT.out (by decide) HFC1.out.tk HB.out)
                go_wp2_with fail
                (with_reducible refine HIX.out.mono ?_)
                clear x0 x1 x2 xl HIX
                rintro e w8 ⟨r, rfl, r0, r1, hk⟩
                have HFC2 := Lib.hid (HFC1.out.kps hk)
                have HB2 := Lib.hid (HB.out.kps hk)
                clear hk HFC1 HB
                by_cases hr : r < 0
                · have hr2 : ¬ 0 ≤ r := by omega
                  go_wp2_with fail
                  go_roundw
                  case rel => exact ⟨c + 1, cur, by go_num, by omega, HFC2.out⟩
                  case measure => simp [intOf]; omega
                · have hr2 : 0 ≤ r := by omega
                  obtain ⟨R, rfl⟩ : ∃ R : Nat, r = (R : Int) := ⟨r.toNat, by omega⟩
                  by_cases hq : (a : Int) / 6 % 3 = (c : Int)
                  · have hq2 : ((a : Int) / 6 % 3 == (c : Int)) = true := beq_iff_eq.2 hq
                    obtain ⟨bx, bf, bl⟩ := HB2.out
                    clear hq
                    go_upto_region 57 with fail
                    obtain ⟨x0, x1, x2, xl⟩ := HFC2.out.s
                    have xf := HFC2.out.fs.2
                    obtain ⟨b, off, rfl, T⟩ := HFC2.out.tk R (by omega)
                    obtain ⟨c0, -, -, -, -, -, -, -, tl⟩ := T
                    obtain ⟨_, _, q0, ul, U0⟩ := HFC2.out.cu c hlt2
                    cases q0
                    have uf := HFC2.out.uf
                    have HFC3 := Lib.hid (HFC2.out.put hlt2 (ts.getD R t0).id)
                    generalize (ts.getD R t0).id = tid at *
                    rw [Nat.zero_add] at U0
                    go_region
                    have HFC4 := Lib.hid (show FC w1 bS bU (w8.setCell ⟨bU, c, none⟩ (.int .i64 tid)).drew (some ⟨b, off, none⟩) 4 cv N ts (cur.set c tid) from HFC3.out.kps ((Kp.refl _ _).drewN 1))
                    clear c0 tl x0 x1 x2 xl xf U0 ul uf bx bf bl HFC3 HFC2 HB2
                    generalize World.drew _ = w9 at *
                    go_wp2_with fail
                    go_roundw
                    case rel => exact ⟨c + 1, _, by go_num, by omega, HFC4.out⟩
                    case measure => simp [intOf]; omega
                  · have hq2 : ((a : Int) / 6 % 3 == (c : Int)) = false := beq_eq_false_iff_ne.2 hq
                    clear hq
                    obtain ⟨bx, bf, bl⟩ := HB2.out
                    go_wp2_with fail
                    clear bx bf bl
                    go_roundw
                    case rel => exact ⟨c + 1, cur, by go_num, by omega, HFC2.out⟩
                    case measure => simp [intOf]; omega
              · have hcN : ¬ ((c : Int) < (N : Int)) := by omega
                have hsc := HFC.out.at HLT.out HOK.out (by decide) (by omega)
                have HT := Lib.hid (tells_any (ca := cv) (cb := N) (cpu := (a : Int) % 3) (k := 2 + (a : Int) % 8) (x := (a : Int) / 8 % 2) (y := (a : Int) / 16 % 3) (most := 20) wr hsc HON.out (fun q => by cases q) (by omega) (by omega) (by omega) (by omega) (by omega))
                obtain ⟨x0, x1, x2, xl⟩ := HFC.out.s
                have HK := Lib.hid HFC.out.kp
                clear hsc HFC
                go_wp2_with fail
                (with_reducible refine HT.out.mono ?_)
                clear x0 x1 x2 xl HT
                rintro e w6 ⟨rfl, hk6⟩
                have HK6 := Lib.hid (HK.out.trans (hk6.mono HK.out.size))
                clear hk6 HK
                go_wp2_with fail
                go_roundw
                case rel => exact ⟨a + 1, by go_num, by omega, HK6.out⟩
                case measure => simp [intOf]; omega
      · have hai2 : ¬ ((a : Int) < 1728) := by omega
        have hmk : (Instr.makeSlice 28 (.int .i64 64) (.int .i64 64)).run Try.prog wr = .ok (.slice (some ⟨wr.heap.size, 0, none⟩) 64 64) (wr.alloc (.cells (madeCells (Value.int .i64 0).cells 64) 3)) := make_ints wr 64 (by omega)
        go_upto_region 63 with fail
        clear hmk
        have k2 : Kp wr.heap.size wr (wr.alloc (.cells (madeCells (Value.int .i64 0).cells 64) 3)) := (Kp.refl _ _).alloc (Nat.le_refl _) _
        have k3 : Kp wr.heap.size wr ((wr.alloc (.cells (madeCells (Value.int .i64 0).cells 64) 3)).alloc (.cells #[.int .i64 ((64 : Nat) : Int), .slice none 0 0, .slice (some ⟨wr.heap.size, 0, none⟩) 64 64] 30)) := k2.alloc (by simp) _
        have x9 := C3.new (wr.alloc (.cells (madeCells (Value.int .i64 0).cells 64) 3)) (.int .i64 ((64 : Nat) : Int)) (.slice none 0 0) (.slice (some ⟨wr.heap.size, 0, none⟩) 64 64) 30
        have f9 := Fz.new (wr.alloc (.cells (madeCells (Value.int .i64 0).cells 64) 3)) #[.int .i64 ((64 : Nat) : Int), .slice none 0 0, .slice (some ⟨wr.heap.size, 0, none⟩) 64 64] 30
        have t9 := Ty.new (wr.alloc (.cells (madeCells (Value.int .i64 0).cells 64) 3)) #[.int .i64 ((64 : Nat) : Int), .slice none 0 0, .slice (some ⟨wr.heap.size, 0, none⟩) 64 64] 30
        have kB : Kp (wr.alloc (.cells (madeCells (Value.int .i64 0).cells 64) 3)).heap.size (wr.alloc (.cells (madeCells (Value.int .i64 0).cells 64) 3)) ((wr.alloc (.cells (madeCells (Value.int .i64 0).cells 64) 3)).alloc (.cells #[.int .i64 ((64 : Nat) : Int), .slice none 0 0, .slice (some ⟨wr.heap.size, 0, none⟩) 64 64] 30)) := (Kp.refl _ _).alloc (Nat.le_refl _) _
        have r9 := (Row.made wr (.int .i64 0) rfl 64 3).kp kB
        have u9 := (Ty.new wr (madeCells (Value.int .i64 0).cells 64) 3).kp kB
        simp only [World.size_alloc] at x9 f9 t9
        obtain ⟨bU, hbU⟩ : ∃ b, b = wr.heap.size := ⟨_, rfl⟩
        obtain ⟨bS, hbS⟩ : ∃ b, b = wr.heap.size + 1 := ⟨_, rfl⟩
        have lS : w1.heap.size ≤ bS := by have := K1.out.size; omega
        have lU : w1.heap.size ≤ bU := by have := K1.out.size; omega
        have FS0 := FS.mk (W := w1) (ts := []) x9 f9 t9 r9 u9 (World.ownsRow_nil _ _ _ _) (K1.out.trans (k3.mono K1.out.size))
        simp only [Value.cells] at FS0
        rw [← hbS, ← hbU] at FS0
        have HFS := Lib.hid FS0
        rw [← hbS, ← hbU]
        clear hbU hbS k2 k3 x9 f9 t9 kB r9 u9 FS0 K1
        generalize hw4 : World.alloc _ _ = w4
        have HFS := Lib.hid (show FS w1 bS bU w4 (.slice none 0 0) 64 [] from hw4 ▸ HFS.out)
        clear hw4
        have hS0 := HFS.out.s.lt
        go_wp2_with fail
        go_loopw [16] (fun i wr => ∃ (j : Nat) (ts : List Tk) (v : Value), i = .int .i64 (j : Int) ∧ 1 ≤ j ∧ j ≤ 40 ∧ ts.length + 1 = j ∧ (∀ t ∈ ts, t.ok) ∧ FS w1 bS bU wr v 64 ts) (fun i _ => 40 - (intOf i).toNat)
        case atStart => exact ⟨1, [], _, rfl, by omega, by omega, rfl, (fun t h => by cases h), HFS.out⟩
        case round =>
          clear HFS hS0
          obtain ⟨j, ts, v, rfl, hj1, hj40, hl, hok, hfs⟩ := hrel
          have HL := Lib.hid hl
          have HOK := Lib.hid hok
          have HFS := Lib.hid hfs
          clear hl hok hfs
          by_cases hj : j < 40
          · have hji : (j : Int) < 40 := by omega
            have hj64 : (j : Int) < 64 := by omega
            have ht64 : Int.tmod (j : Int) 64 = (j : Int) := by rw [Int.tmod_eq_emod_of_nonneg (by omega)]; omega
            obtain ⟨r, hr⟩ : ∃ r, r = (j : Int) % 3 := ⟨_, rfl⟩
            have ht3 : Int.tmod (j : Int) 3 = r := by rw [Int.tmod_eq_emod_of_nonneg (by omega), hr]
            have hr0 : 0 ≤ r ∧ r ≤ 2 := by omega
            have hwr : IntKind.i64.wrap (65536 - r) = 65536 - r := by
              unfold IntKind.wrap
              simp [IntKind.bits, IntKind.signed]
              omega
            clear hr
            go_upto_region 66 with fail
            refine wp_region_noPanic ?_
            refine wp_region_anyN (fun w' => w'.cell? ⟨bS, 1, none⟩ = some v) 14 (by kernel_rfl) ?_
            have HFD := Lib.hid (HFS.out.kps ((Kp.refl _ wr).drewN 1))
            have HFD2 := Lib.hid (show FS w1 bS bU wr.drew v 64 ts from HFD.out)
            clear HFS HFD
            generalize wr.drew = w0 at *
            have hS : w0.cell? ⟨bS, 1, none⟩ = some v := HFD2.out.s.c1
            have xl := HFD2.out.s.lt
            refine anyN_takeR 0 (v := ?_) rfl (by kernel_rfl) (by kernel_rfl) (by kernel_rfl) (by kernel_rfl) (fun _ _ _ h => h) (Or.inl ⟨by rfl, ?_⟩) hS ?_
            rotate_left
            · intro w hSw
              go_simp
              try with_reducible rfl
            simp only [Act.put, List.setIfInBounds_toArray, List.set_cons_zero, List.set_cons_succ]
            refine anyN_takeR 1 (v := ?_) rfl (by kernel_rfl) (by kernel_rfl) (by kernel_rfl) (by kernel_rfl) (fun _ _ _ h => h) (Or.inl ⟨by rfl, ?_⟩) hS ?_
            rotate_left
            · intro w hSw
              go_simp
              try with_reducible rfl
            simp only [Act.put, List.setIfInBounds_toArray, List.set_cons_zero, List.set_cons_succ]
            refine anyN_takeR 2 (v := ?_) rfl (by kernel_rfl) (by kernel_rfl) (by kernel_rfl) (by kernel_rfl) (fun _ _ _ h => h) (Or.inl ⟨by rfl, ?_⟩) hS ?_
            rotate_left
            · intro w hSw
              go_simp
              try with_reducible rfl
            simp only [Act.put, List.setIfInBounds_toArray, List.set_cons_zero, List.set_cons_succ]
            refine anyN_takeR 3 (v := ?_) rfl (by kernel_rfl) (by kernel_rfl) (by kernel_rfl) (by kernel_rfl) (fun _ _ _ h => h) (Or.inl ⟨by rfl, ?_⟩) hS ?_
            rotate_left
            · intro w hSw
              go_simp
              try with_reducible rfl
            simp only [Act.put, List.setIfInBounds_toArray, List.set_cons_zero, List.set_cons_succ]
            refine anyN_takeR 4 (v := ?_) rfl (by kernel_rfl) (by kernel_rfl) (by kernel_rfl) (by kernel_rfl) (fun _ _ _ h => h) (Or.inl ⟨by rfl, ?_⟩) hS ?_
            rotate_left
            · intro w hSw
              go_simp
              try with_reducible rfl
            simp only [Act.put, List.setIfInBounds_toArray, List.set_cons_zero, List.set_cons_succ]
            refine anyN_takeR 5 (v := ?_) rfl (by kernel_rfl) (by kernel_rfl) (by kernel_rfl) (by kernel_rfl) (fun _ _ _ h => h) (Or.inl ⟨by rfl, ?_⟩) hS ?_
            rotate_left
            · intro w hSw
              go_simp
              try with_reducible rfl
            simp only [Act.put, List.setIfInBounds_toArray, List.set_cons_zero, List.set_cons_succ]
            refine anyN_takeR 6 (v := ?_) rfl (by kernel_rfl) (by kernel_rfl) (by kernel_rfl) (by kernel_rfl) (fun _ _ _ h => h) (Or.inl ⟨by rfl, ?_⟩) hS ?_
            rotate_left
            · intro w hSw
              go_simp
              try with_reducible rfl
            simp only [Act.put, List.setIfInBounds_toArray, List.set_cons_zero, List.set_cons_succ]
            refine anyN_takeR 7 (v := ?_) rfl (by kernel_rfl) (by kernel_rfl) (by kernel_rfl) (by kernel_rfl) (fun _ _ _ h => h) (Or.inl ⟨by rfl, ?_⟩) hS ?_
            rotate_left
            · intro w hSw
              go_simp
              try with_reducible rfl
            simp only [Act.put, List.setIfInBounds_toArray, List.set_cons_zero, List.set_cons_succ]
            refine anyN_takeR 8 (v := ?_) rfl (by kernel_rfl) (by kernel_rfl) (by kernel_rfl) (by kernel_rfl) (fun _ _ _ h => h) (Or.inl ⟨by rfl, ?_⟩) hS ?_
            rotate_left
            · intro w hSw
              go_simp
              try with_reducible rfl
            simp only [Act.put, List.setIfInBounds_toArray, List.set_cons_zero, List.set_cons_succ]
            refine anyN_takeR 9 (v := ?_) rfl (by kernel_rfl) (by kernel_rfl) (by kernel_rfl) (by kernel_rfl) (fun _ _ _ h => h) (Or.inl ⟨by rfl, ?_⟩) hS ?_
            rotate_left
            · intro w hSw
              go_simp
              try with_reducible rfl
            simp only [Act.put, List.setIfInBounds_toArray, List.set_cons_zero, List.set_cons_succ]
            refine anyN_takeR 10 (v := ?_) rfl (by kernel_rfl) (by kernel_rfl) (by kernel_rfl) (by kernel_rfl) (fun _ _ _ h => h) (Or.inl ⟨by rfl, ?_⟩) hS ?_
            rotate_left
            · intro w hSw
              go_simp
              try with_reducible rfl
            simp only [Act.put, List.setIfInBounds_toArray, List.set_cons_zero, List.set_cons_succ]
            refine anyN_one 11 rfl (by kernel_rfl) rfl ?_
            go_simp
            obtain ⟨mk, hmk, mk0, mk1⟩ := mask_wide hj
            rw [hmk]
            have HM3 := Lib.hid (HFD2.out.kps ((Kp.refl _ w0).alloc (Nat.le_refl _) (.cells (tkc ⟨(j : Int), 0, 65536 - r, 63, mk, true, 0, 0⟩) 43)))
            dsimp only [tkc] at HM3
            obtain ⟨i0, hi0, hz0, hz1, hz2⟩ := info_parts tk_info
            refine anyN_one 12 rfl (by kernel_rfl) rfl ?_
            refine wp_append_rd _ (.tmp 214) (.tmp 224) 27 rfl w1.heap.size 43 i0 (tkv t0) 8 64 Try.underlying27 hi0 hz0 hz1 hz2 rfl (by decide) v ts.length (flatT ts) rfl HM3.out.row (some ⟨w0.heap.size, 0, none⟩) 1 1 (flatT [⟨(j : Int), 0, 65536 - r, 63, mk, true, 0, 0⟩]) rfl (rd_new w0 _ 43 8 1 rfl) (oneCellsT [⟨(j : Int), 0, 65536 - r, 63, mk, true, 0, 0⟩]) (by have := HL.out; unfold maxLen; omega) (by have := HL.out; omega) (by have := HM3.out.kp.size; exact this) ?_
            intro v9 w9 hown9 hgrow9
            obtain ⟨A9, c9, rfl, -⟩ := own_form hown9
            obtain ⟨hs9, hf9, hm9⟩ := HM3.out.grow (t := ⟨(j : Int), 0, 65536 - r, 63, mk, true, 0, 0⟩) lS hgrow9 hown9
            have HM9 := Lib.hid hm9
            have hS9 : w9.cell? ⟨bS, 1, none⟩ = some v := hs9.c1
            clear hm9 hgrow9 hown9 hi0 hz0 hz1 hz2 hS xl hmk
            refine ⟨fun _ => hS9, ?_⟩
            refine anyN_takeR 13 (v := ?_) rfl (by kernel_rfl) (by kernel_rfl) (by kernel_rfl) (by kernel_rfl) (fun _ _ _ h => h) (Or.inl ⟨by rfl, ?_⟩) hS9 ?_
            rotate_left
            · intro w hSw
              go_simp
              try with_reducible rfl
            simp only [Act.put, List.setIfInBounds_toArray, List.set_cons_zero, List.set_cons_succ]
            refine anyN_one 14 rfl (by kernel_rfl) rfl ?_
            have xl := hs9.lt
            have xf := hf9.2
            have y1 := hs9.c1
            go_simp
            refine anyN_done (by kernel_rfl) ?_
            refine NoPanic.normal ?_
            clear hS9 hs9 hf9 xl xf y1
            generalize w9.setCell _ _ = w10 at *
            go_wp2_with fail
            go_roundw
            case rel =>
              refine ⟨j + 1, ts ++ [⟨(j : Int), 0, 65536 - r, 63, mk, true, 0, 0⟩], _, by go_num, by omega, by omega, by rw [List.length_append]; simp; exact HL.out, fun t ht => ?_, HM9.out⟩
              rcases List.mem_append.1 ht with h1 | h1
              · exact HOK.out t h1
              · rw [List.mem_singleton] at h1
                subst h1
                exact ⟨by dsimp only; omega, by dsimp only; omega, by dsimp only; omega, by dsimp only; omega, by dsimp only; omega, by dsimp only; omega, mk0, mk1⟩
            case measure => simp [intOf]; omega
          · have hjn : ¬ ((j : Int) < 40) := by omega
            have hl39 : ts.length = 39 := by have := HL.out; omega
            clear hj hj1 hj40
            obtain ⟨Av, cv, rfl, hFC, hon, hty⟩ := HFS.out.fc lU hl39
            have HLT := Lib.hid hl39
            have HFC := Lib.hid hFC
            have HON := Lib.hid hon
            have HTY := Lib.hid hty
            clear hFC hon hty hl39 HL HFS
            have hsc : ScAt wr Av 39 (some ⟨bU, 0, none⟩) 64 ⟨64, ts, List.replicate 64 0⟩ := HFC.out.at HLT.out HOK.out (by decide) (by decide)
            have HT := Lib.hid (tells_any (ca := cv) (cb := 64) (cpu := 0) (k := 5) (x := 63) (y := 5) (most := 100) wr hsc HON.out (fun q => by cases q) (by omega) (by omega) (by omega) (by omega) (by omega))
            obtain ⟨x0, x1, x2, xl⟩ := HFC.out.s
            clear hsc
            go_wp2_with fail
            (with_reducible refine HT.out.mono ?_)
            clear x0 x1 x2 xl HT
            rintro e w6 ⟨rfl, hk6⟩
            have HF6 := Lib.hid (HFC.out.kps hk6)
            clear hk6 HFC
            go_upto_region 69 with fail
            obtain ⟨x0, x1, x2, xl⟩ := HF6.out.s
            have xf := HF6.out.fs.2
            go_region
            obtain ⟨hs9, ht9, hu9, hk9⟩ := HF6.out.less HTY.out lS
            have kd : Kp ((w6.setCell ⟨bS, 0, none⟩ (.int .i64 63)).setCell ⟨bS, 2, none⟩ (.slice (some ⟨bU, 0, none⟩) 63 64)).heap.size ((w6.setCell ⟨bS, 0, none⟩ (.int .i64 63)).setCell ⟨bS, 2, none⟩ (.slice (some ⟨bU, 0, none⟩) 63 64)) ((w6.setCell ⟨bS, 0, none⟩ (.int .i64 63)).setCell ⟨bS, 2, none⟩ (.slice (some ⟨bU, 0, none⟩) 63 64)).drew := (Kp.refl _ _).drewN 1
            have HS9 := Lib.hid (show C3 ((w6.setCell ⟨bS, 0, none⟩ (.int .i64 63)).setCell ⟨bS, 2, none⟩ (.slice (some ⟨bU, 0, none⟩) 63 64)).drew bS (.int .i64 63) (.slice Av 39 cv) (.slice (some ⟨bU, 0, none⟩) 63 64) from hs9.kp kd)
            have hsc : ScAt ((w6.setCell ⟨bS, 0, none⟩ (.int .i64 63)).setCell ⟨bS, 2, none⟩ (.slice (some ⟨bU, 0, none⟩) 63 64)).drew Av 39 (some ⟨bU, 0, none⟩) 63 ⟨63, ts, List.replicate 63 0⟩ := ⟨HLT.out, List.length_replicate, ht9.kp kd, hu9.below kd, HOK.out, by decide, by decide⟩
            have HSC := Lib.hid hsc
            have HK9 := Lib.hid (show Kp w1.heap.size w1 ((w6.setCell ⟨bS, 0, none⟩ (.int .i64 63)).setCell ⟨bS, 2, none⟩ (.slice (some ⟨bU, 0, none⟩) 63 64)).drew from hk9.trans (kd.mono hk9.size))
            clear hs9 ht9 hu9 hk9 kd hsc x0 x1 x2 xl xf HF6
            generalize World.drew _ = w9 at *
            have HT := Lib.hid (tells_any (ca := cv) (cb := 64) (cpu := 0) (k := 0) (x := 0) (y := 0) (most := 1) w9 HSC.out HON.out (fun q => by cases q) (by omega) (by omega) (by omega) (by omega) (by omega))
            obtain ⟨x0, x1, x2, xl⟩ := HS9.out
            go_wp2_with fail
            (with_reducible refine HT.out.mono ?_)
            clear x0 x1 x2 xl HT HS9 HSC
            rintro e w10 ⟨rfl, hk10⟩
            have HK10 := Lib.hid (HK9.out.trans (hk10.mono HK9.out.size))
            clear hk10 HK9
            go_wp2_with fail
            (with_reducible refine (HAw _).out.mono ?_)
            rintro e w11 ⟨rfl, hk11⟩
            have hk12 := HK10.out.trans (hk11.mono HK10.out.size)
            have hk13 := K.out.trans (hk12.mono K.out.size)
            clear hk11 hk12 HK10
            go_wp2_with fail
            go_ret
            exact ⟨rfl, hk13⟩
end Go.Proofs.Yticgdfbknaholaa
