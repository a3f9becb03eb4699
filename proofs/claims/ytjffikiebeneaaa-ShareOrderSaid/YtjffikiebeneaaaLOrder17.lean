/-
  The law ShareOrder, walked.
-/
import Derived.Test.YtjffikiebeneaaaAwake17
import Derived.OpenShut
namespace Go.Proofs.Ytjffikiebeneaaa
open Go.RowKit

/-- All that the law asks of three shares. -/
structure Ord (xn xd yn yd zn zd n ln ld le pn pd qn qd sn sd tn td : Int) : Prop where
  c1 : cmN xn xd yn yd = n ∧ cmE xn xd yn yd = 0
  c2 : cmN yn yd xn xd = -n ∧ cmE yn yd xn xd = 0
  l : leN xn xd yn yd = ln ∧ leD xn xd yn yd = ld ∧ leE xn xd yn yd = le
  back : 0 ≤ n → plN yn yd ln ld = xn ∧ plD yn yd ln ld = xd ∧ plE yn yd ln ld = 0
  p : tmN xn xd zn zd = pn ∧ tmD xn xd zn zd = pd ∧ tmE xn xd zn zd = 0
  q : tmN yn yd zn zd = qn ∧ tmD yn yd zn zd = qd ∧ tmE yn yd zn zd = 0
  s : plN xn xd zn zd = sn ∧ plD xn xd zn zd = sd ∧ plE xn xd zn zd = 0
  t : plN yn yd zn zd = tn ∧ plD yn yd zn zd = td ∧ plE yn yd zn zd = 0
  i : cmN pn pd qn qd = n ∧ cmE pn pd qn qd = 0
  k : cmN sn sd tn td = n ∧ cmE sn sd tn td = 0
theorem ord_all {xn xd yn yd zn zd : Int} (x : Sm 4096 xn xd) (y : Sm 4096 yn yd) (z : Sm 17 zn zd) (hz : 0 < zn) :
    ∃ n ln ld le pn pd qn qd sn sd tn td : Int, Ord xn xd yn yd zn zd n ln ld le pn pd qn qd sn sd tn td ∧
      ((n = -1 ∧ le = 2 ∧ xn * yd < yn * xd ∧ (xn ≠ yn ∨ (xn = yn ∧ xd ≠ yd))) ∨ (n = 0 ∧ le = 0 ∧ xn = yn ∧ xd = yd) ∨ (n = 1 ∧ le = 0 ∧ yn * xd < xn * yd ∧ (xn ≠ yn ∨ (xn = yn ∧ xd ≠ yd)))) := by
  have g1 := cm_good x.r y.r
  have g2 := cm_good y.r x.r
  obtain ⟨e1, e2, e3⟩ := cm_times x y z (by decide) hz
  obtain ⟨e4, e5, e6⟩ := cm_plus x y z (by decide)
  obtain ⟨_, sp, _⟩ := x.times z (by decide)
  obtain ⟨_, sq, _⟩ := y.times z (by decide)
  obtain ⟨_, ss, _⟩ := x.plus z (by decide)
  obtain ⟨_, st, _⟩ := y.plus z (by decide)
  have g3 := cm_good sp.r sq.r
  have g4 := cm_good ss.r st.r
  have hne : xn * yd ≠ yn * xd → (xn ≠ yn ∨ (xn = yn ∧ xd ≠ yd)) := by
    intro h
    by_cases h1 : xn = yn
    · right
      refine ⟨h1, fun h2 => h (by rw [h1, h2])⟩
    · exact Or.inl h1
  refine ⟨sgV (xn * yd) (yn * xd), _, _, leE xn xd yn yd, _, _, _, _, _, _, _, _, ⟨⟨g1.2, g1.1⟩, ⟨by rw [g2.2]; exact sgV_turn _ _, g2.1⟩, ⟨rfl, rfl, rfl⟩, fun h => ?_, ⟨rfl, rfl, e1⟩, ⟨rfl, rfl, e2⟩, ⟨rfl, rfl, e4⟩, ⟨rfl, rfl, e5⟩, ⟨g3.2.trans e3, g3.1⟩, ⟨g4.2.trans e6, g4.1⟩⟩, ?_⟩
  · have hle : yn * xd ≤ xn * yd := by
      rcases Int.lt_or_le (xn * yd) (yn * xd) with h1 | h1
      · rw [sgV_neg h1] at h
        omega
      · exact h1
    have := less_plus x y (by decide) hle
    exact ⟨this.2.1, this.2.2.1, this.2.2.2⟩
  · rcases Int.lt_trichotomy (xn * yd) (yn * xd) with h | h | h
    · exact Or.inl ⟨sgV_neg h, less_not x.r y.r h, h, hne (by omega)⟩
    · obtain ⟨h1, h2⟩ := same_of x y h
      have := less_plus x y (by decide) (by omega)
      exact Or.inr (Or.inl ⟨by rw [h, sgV_same], this.1, h1, h2⟩)
    · have := less_plus x y (by decide) (by omega)
      exact Or.inr (Or.inr ⟨sgV_pos h, this.1, h, hne (by omega)⟩)

set_option maxRecDepth 100000 in
set_option maxHeartbeats 4000000 in
theorem ord_neg_a {a0 a1 b0 b1 c0 c1 xn xd yn yd zn zd ln ld pn pd qn qd sn sd tn td : Int} {W0 : World} (a0l : 0 ≤ a0) (a0u : a0 ≤ 65535) (a1l : 0 ≤ a1) (a1u : a1 ≤ 65535) (b0l : 0 ≤ b0) (b0u : b0 ≤ 65535) (b1l : 0 ≤ b1) (b1u : b1 ≤ 65535) (c0l : 0 ≤ c0) (c0u : c0 ≤ 255) (c1l : 0 ≤ c1) (c1u : c1 ≤ 255)
    (hx : Sm 4096 xn xd) (hy : Sm 4096 yn yd) (hlt : xn * yd < yn * xd) (hne : xn ≠ yn)
    (HSx' : ∀ W, Calls Try.prog 13 #[.int .u16 (a0 % 4096), .int .u16 (a1 % 4096)] W fun e w' => e = .returned (.tuple #[shr xn xd, .bool true]) ∧ GrewS W w')
    (HSy' : ∀ W, Calls Try.prog 13 #[.int .u16 (b0 % 4096), .int .u16 (b1 % 4096)] W fun e w' => e = .returned (.tuple #[shr yn yd, .bool true]) ∧ GrewS W w')
    (HSz' : ∀ W, Calls Try.prog 13 #[.int .u16 (1 + c0 % 16), .int .u16 (c1 % 16)] W fun e w' => e = .returned (.tuple #[shr zn zd, .bool true]) ∧ GrewS W w')
    (h : Ord xn xd yn yd zn zd (-1) ln ld 2 pn pd qn qd sn sd tn td) :
    Calls Try.prog 4 #[.agg #[.int .u16 a0, .int .u16 a1], .agg #[.int .u16 b0, .int .u16 b1], .agg #[.int .u8 c0, .int .u8 c1]] W0 fun e w' => e = .returned (.bool true) ∧ Kp W0.heap.size W0 w' := by
  have HC1' := fun w => cmp_any xn xd yn yd w
  rw [h.c1.1, h.c1.2] at HC1'
  have HC1 := fun w => Lib.hid (HC1' w)
  clear HC1'
  have HC2' := fun w => cmp_any yn yd xn xd w
  rw [h.c2.1, h.c2.2] at HC2'
  have HC2 := fun w => Lib.hid (HC2' w)
  clear HC2'
  have HL' := fun w => less_any xn xd yn yd w
  rw [h.l.1, h.l.2.1, h.l.2.2] at HL'
  have HL := fun w => Lib.hid (HL' w)
  clear HL'
  have HP' := fun w => times_any xn xd zn zd w
  rw [h.p.1, h.p.2.1, h.p.2.2] at HP'
  have HP := fun w => Lib.hid (HP' w)
  clear HP'
  have HQ' := fun w => times_any yn yd zn zd w
  rw [h.q.1, h.q.2.1, h.q.2.2] at HQ'
  have HQ := fun w => Lib.hid (HQ' w)
  clear HQ'
  have HS' := fun w => plus_any xn xd zn zd w
  rw [h.s.1, h.s.2.1, h.s.2.2] at HS'
  have HS := fun w => Lib.hid (HS' w)
  clear HS'
  have HT' := fun w => plus_any yn yd zn zd w
  rw [h.t.1, h.t.2.1, h.t.2.2] at HT'
  have HT := fun w => Lib.hid (HT' w)
  clear HT'
  have HI' := fun w => cmp_any pn pd qn qd w
  rw [h.i.1, h.i.2] at HI'
  have HI := fun w => Lib.hid (HI' w)
  clear HI'
  have HK' := fun w => cmp_any sn sd tn td w
  rw [h.k.1, h.k.2] at HK'
  have HK := fun w => Lib.hid (HK' w)
  clear HK'
  have HSx := fun w => Lib.hid (HSx' w)
  have HSy := fun w => Lib.hid (HSy' w)
  have HSz := fun w => Lib.hid (HSz' w)
  have HAw := fun w => Lib.hid (awake_any w)
  have m1 : 0 ≤ xn * yd := Int.mul_nonneg hx.n0 (Int.le_of_lt hy.d0)
  have m2 : xn * yd ≤ 4096 * 4096 := mul_le' hx.n0 hx.n1 (Int.le_of_lt hy.d0) hy.d1
  have m3 : 0 ≤ yn * xd := Int.mul_nonneg hy.n0 (Int.le_of_lt hx.d0)
  have m4 : yn * xd ≤ 4096 * 4096 := mul_le' hy.n0 hy.n1 (Int.le_of_lt hx.d0) hx.d1
  have w1 := wrap_in (x := xn * yd) (by omega) (by omega)
  have w2 := wrap_in (x := yn * xd) (by omega) (by omega)
  have r1 : Int.tmod a0 4096 = a0 % 4096 := Int.tmod_eq_emod_of_nonneg a0l
  have r2 : Int.tmod a1 4096 = a1 % 4096 := Int.tmod_eq_emod_of_nonneg a1l
  have r3 : Int.tmod b0 4096 = b0 % 4096 := Int.tmod_eq_emod_of_nonneg b0l
  have r4 : Int.tmod b1 4096 = b1 % 4096 := Int.tmod_eq_emod_of_nonneg b1l
  have r5 : Int.tmod c0 16 = c0 % 16 := Int.tmod_eq_emod_of_nonneg c0l
  have r6 : Int.tmod c1 16 = c1 % 16 := Int.tmod_eq_emod_of_nonneg c1l
  have hne1 : (xn == yn) = false := beq_eq_false_iff_ne.2 hne
  clear h hx hy HSx' HSy' HSz' m1 m2 m3 m4
  clear hne
  go_enter Try.func4, Try.ntmps4
  go_wp2_with fail
  (with_reducible refine (HAw _).out.mono ?_)
  have ka : Kp W0.heap.size W0 (((W0.alloc (.cells #[.int .u16 a0, .int .u16 a1] 34)).alloc (.cells #[.int .u16 b0, .int .u16 b1] 34)).alloc (.cells #[.int .u8 c0, .int .u8 c1] 22)) := (((GrewS.refl W0).alloc _).alloc _).alloc _ |>.kp
  have A := ((C2.new W0 (.int .u16 a0) (.int .u16 a1) 34).alloc (.cells #[.int .u16 b0, .int .u16 b1] 34)).alloc (.cells #[.int .u8 c0, .int .u8 c1] 22)
  have B := (C2.new (W0.alloc (.cells #[.int .u16 a0, .int .u16 a1] 34)) (.int .u16 b0) (.int .u16 b1) 34).alloc (.cells #[.int .u8 c0, .int .u8 c1] 22)
  have C := C2.new ((W0.alloc (.cells #[.int .u16 a0, .int .u16 a1] 34)).alloc (.cells #[.int .u16 b0, .int .u16 b1] 34)) (.int .u8 c0) (.int .u8 c1) 22
  rw [show (W0.alloc (.cells #[.int .u16 a0, .int .u16 a1] 34)).heap.size = W0.heap.size + 1 by simp] at B
  rw [show ((W0.alloc (.cells #[.int .u16 a0, .int .u16 a1] 34)).alloc (.cells #[.int .u16 b0, .int .u16 b1] 34)).heap.size = W0.heap.size + 1 + 1 by simp] at C
  rintro e W ⟨rfl, hk⟩
  have HK0 := Lib.hid (ka.trans (hk.mono ka.size))
  replace A := A.kp hk
  replace B := B.kp hk
  replace C := C.kp hk
  have hg := Lib.hid (GrewS.refl W)
  clear ka hk HAw
  have A0 := A.c0
  have A1 := A.c1
  have Al := A.lt
  go_wp2_with fail
  (with_reducible refine (HSx _).out.mono ?_)
  clear A0 A1 Al
  rintro e u1 ⟨rfl, hg1⟩
  have k1 := hg1.kp
  replace A := A.kp k1
  replace B := B.kp k1
  replace C := C.kp k1
  replace hg := Lib.hid (GrewS.trans (hg.out) hg1)
  clear k1 hg1
  have B0 := B.c0
  have B1 := B.c1
  have Bl := B.lt
  go_wp2_with fail
  (with_reducible refine (HSy _).out.mono ?_)
  clear B0 B1 Bl
  rintro e u2 ⟨rfl, hg1⟩
  have k1 := hg1.kp
  replace A := (A.alloc _).kp k1
  replace B := (B.alloc _).kp k1
  replace C := (C.alloc _).kp k1
  have Bx := (C2.new u1 (.int .i64 xn) (.int .i64 xd) 25).kp k1
  replace hg := Lib.hid (GrewS.trans (hg.out.alloc _) hg1)
  clear k1 hg1
  generalize u1.heap.size = bBx at *
  have C0 := C.c0
  have C1 := C.c1
  have Cl := C.lt
  go_wp2_with fail
  (with_reducible refine (HSz _).out.mono ?_)
  clear C0 C1 Cl
  rintro e u3 ⟨rfl, hg1⟩
  have k1 := hg1.kp
  replace A := (A.alloc _).kp k1
  replace B := (B.alloc _).kp k1
  replace C := (C.alloc _).kp k1
  replace Bx := (Bx.alloc _).kp k1
  have By := (C2.new u2 (.int .i64 yn) (.int .i64 yd) 25).kp k1
  replace hg := Lib.hid (GrewS.trans (hg.out.alloc _) hg1)
  clear k1 hg1
  generalize u2.heap.size = bBy at *
  clear A B C
  have Bx0 := Bx.c0
  have Bx1 := Bx.c1
  have Bxl := Bx.lt
  have By0 := By.c0
  have By1 := By.c1
  have Byl := By.lt
  go_wp2_with fail
  (with_reducible refine (HC1 _).out.mono ?_)
  clear Bx0 Bx1 Bxl By0 By1 Byl
  rintro e u4 ⟨rfl, hg1⟩
  have k1 := hg1.kp
  replace Bx := (Bx.alloc _).kp k1
  replace By := (By.alloc _).kp k1
  have Bz := (C2.new u3 (.int .i64 zn) (.int .i64 zd) 25).kp k1
  replace hg := Lib.hid (GrewS.trans (hg.out.alloc _) hg1)
  clear k1 hg1
  generalize u3.heap.size = bBz at *
  have Bx0 := Bx.c0
  have Bx1 := Bx.c1
  have Bxl := Bx.lt
  have By0 := By.c0
  have By1 := By.c1
  have Byl := By.lt
  go_wp2_with fail
  (with_reducible refine (HC2 _).out.mono ?_)
  clear Bx0 Bx1 Bxl By0 By1 Byl
  rintro e u5 ⟨rfl, hg1⟩
  have k1 := hg1.kp
  replace Bx := Bx.kp k1
  replace By := By.kp k1
  replace Bz := Bz.kp k1
  replace hg := Lib.hid (GrewS.trans (hg.out) hg1)
  clear k1 hg1
  have Bx0 := Bx.c0
  have Bx1 := Bx.c1
  have Bxl := Bx.lt
  have By0 := By.c0
  have By1 := By.c1
  have Byl := By.lt
  go_wp2_with fail
  (with_reducible refine (HL _).out.mono ?_)
  clear Bx0 Bx1 Bxl By0 By1 Byl
  rintro e u6 ⟨rfl, hg1⟩
  have k1 := hg1.kp
  replace Bx := Bx.kp k1
  replace By := By.kp k1
  replace Bz := Bz.kp k1
  replace hg := Lib.hid (GrewS.trans (hg.out) hg1)
  clear k1 hg1
  have Bx0 := Bx.c0
  have Bx1 := Bx.c1
  have Bxl := Bx.lt
  have Bz0 := Bz.c0
  have Bz1 := Bz.c1
  have Bzl := Bz.lt
  go_wp2_with fail
  (with_reducible refine (HP _).out.mono ?_)
  clear Bx0 Bx1 Bxl Bz0 Bz1 Bzl
  rintro e u7 ⟨rfl, hg1⟩
  have k1 := hg1.kp
  replace Bx := (Bx.alloc _).kp k1
  replace By := (By.alloc _).kp k1
  replace Bz := (Bz.alloc _).kp k1
  have Bl := (C2.new u6 (.int .i64 ln) (.int .i64 ld) 25).kp k1
  replace hg := Lib.hid (GrewS.trans (hg.out.alloc _) hg1)
  clear k1 hg1
  generalize u6.heap.size = bBl at *
  have By0 := By.c0
  have By1 := By.c1
  have Byl := By.lt
  have Bz0 := Bz.c0
  have Bz1 := Bz.c1
  have Bzl := Bz.lt
  go_wp2_with fail
  (with_reducible refine (HQ _).out.mono ?_)
  clear By0 By1 Byl Bz0 Bz1 Bzl
  rintro e u8 ⟨rfl, hg1⟩
  have k1 := hg1.kp
  replace Bx := (Bx.alloc _).kp k1
  replace By := (By.alloc _).kp k1
  replace Bz := (Bz.alloc _).kp k1
  replace Bl := (Bl.alloc _).kp k1
  have Bp := (C2.new u7 (.int .i64 pn) (.int .i64 pd) 25).kp k1
  replace hg := Lib.hid (GrewS.trans (hg.out.alloc _) hg1)
  clear k1 hg1
  generalize u7.heap.size = bBp at *
  have Bx0 := Bx.c0
  have Bx1 := Bx.c1
  have Bxl := Bx.lt
  have Bz0 := Bz.c0
  have Bz1 := Bz.c1
  have Bzl := Bz.lt
  go_wp2_with fail
  (with_reducible refine (HS _).out.mono ?_)
  clear Bx0 Bx1 Bxl Bz0 Bz1 Bzl
  rintro e u9 ⟨rfl, hg1⟩
  have k1 := hg1.kp
  replace Bx := (Bx.alloc _).kp k1
  replace By := (By.alloc _).kp k1
  replace Bz := (Bz.alloc _).kp k1
  replace Bl := (Bl.alloc _).kp k1
  replace Bp := (Bp.alloc _).kp k1
  have Bq := (C2.new u8 (.int .i64 qn) (.int .i64 qd) 25).kp k1
  replace hg := Lib.hid (GrewS.trans (hg.out.alloc _) hg1)
  clear k1 hg1
  generalize u8.heap.size = bBq at *
  have By0 := By.c0
  have By1 := By.c1
  have Byl := By.lt
  have Bz0 := Bz.c0
  have Bz1 := Bz.c1
  have Bzl := Bz.lt
  go_wp2_with fail
  (with_reducible refine (HT _).out.mono ?_)
  clear By0 By1 Byl Bz0 Bz1 Bzl
  rintro e u10 ⟨rfl, hg1⟩
  have k1 := hg1.kp
  replace Bx := (Bx.alloc _).kp k1
  replace By := (By.alloc _).kp k1
  replace Bz := (Bz.alloc _).kp k1
  replace Bl := (Bl.alloc _).kp k1
  replace Bp := (Bp.alloc _).kp k1
  replace Bq := (Bq.alloc _).kp k1
  have Bs := (C2.new u9 (.int .i64 sn) (.int .i64 sd) 25).kp k1
  replace hg := Lib.hid (GrewS.trans (hg.out.alloc _) hg1)
  clear k1 hg1
  generalize u9.heap.size = bBs at *
  have Bp0 := Bp.c0
  have Bp1 := Bp.c1
  have Bpl := Bp.lt
  have Bq0 := Bq.c0
  have Bq1 := Bq.c1
  have Bql := Bq.lt
  go_wp2_with fail
  (with_reducible refine (HI _).out.mono ?_)
  clear Bp0 Bp1 Bpl Bq0 Bq1 Bql
  rintro e u11 ⟨rfl, hg1⟩
  have k1 := hg1.kp
  replace Bx := (Bx.alloc _).kp k1
  replace By := (By.alloc _).kp k1
  replace Bz := (Bz.alloc _).kp k1
  replace Bl := (Bl.alloc _).kp k1
  replace Bp := (Bp.alloc _).kp k1
  replace Bq := (Bq.alloc _).kp k1
  replace Bs := (Bs.alloc _).kp k1
  have Bt := (C2.new u10 (.int .i64 tn) (.int .i64 td) 25).kp k1
  replace hg := Lib.hid (GrewS.trans (hg.out.alloc _) hg1)
  clear k1 hg1
  generalize u10.heap.size = bBt at *
  have Bs0 := Bs.c0
  have Bs1 := Bs.c1
  have Bsl := Bs.lt
  have Bt0 := Bt.c0
  have Bt1 := Bt.c1
  have Btl := Bt.lt
  go_wp2_with fail
  (with_reducible refine (HK _).out.mono ?_)
  clear Bs0 Bs1 Bsl Bt0 Bt1 Btl
  rintro e u12 ⟨rfl, hg1⟩
  have k1 := hg1.kp
  replace Bx := Bx.kp k1
  replace By := By.kp k1
  replace Bz := Bz.kp k1
  replace Bl := Bl.kp k1
  replace Bp := Bp.kp k1
  replace Bq := Bq.kp k1
  replace Bs := Bs.kp k1
  replace Bt := Bt.kp k1
  replace hg := Lib.hid (GrewS.trans (hg.out) hg1)
  clear k1 hg1
  have HKF := Lib.hid (HK0.out.trans (hg.out.kp.mono HK0.out.size))
  clear hg Bx By Bz Bl Bp Bq Bs Bt
  go_wp2_with fail
  go_ret
  exact ⟨rfl, HKF.out⟩

set_option maxRecDepth 100000 in
set_option maxHeartbeats 4000000 in
theorem ord_neg_b {a0 a1 b0 b1 c0 c1 xn xd yd zn zd ln ld pn pd qn qd sn sd tn td : Int} {W0 : World} (a0l : 0 ≤ a0) (a0u : a0 ≤ 65535) (a1l : 0 ≤ a1) (a1u : a1 ≤ 65535) (b0l : 0 ≤ b0) (b0u : b0 ≤ 65535) (b1l : 0 ≤ b1) (b1u : b1 ≤ 65535) (c0l : 0 ≤ c0) (c0u : c0 ≤ 255) (c1l : 0 ≤ c1) (c1u : c1 ≤ 255)
    (hx : Sm 4096 xn xd) (hy : Sm 4096 xn yd) (hlt : xn * yd < xn * xd) (hne : xd ≠ yd)
    (HSx' : ∀ W, Calls Try.prog 13 #[.int .u16 (a0 % 4096), .int .u16 (a1 % 4096)] W fun e w' => e = .returned (.tuple #[shr xn xd, .bool true]) ∧ GrewS W w')
    (HSy' : ∀ W, Calls Try.prog 13 #[.int .u16 (b0 % 4096), .int .u16 (b1 % 4096)] W fun e w' => e = .returned (.tuple #[shr xn yd, .bool true]) ∧ GrewS W w')
    (HSz' : ∀ W, Calls Try.prog 13 #[.int .u16 (1 + c0 % 16), .int .u16 (c1 % 16)] W fun e w' => e = .returned (.tuple #[shr zn zd, .bool true]) ∧ GrewS W w')
    (h : Ord xn xd xn yd zn zd (-1) ln ld 2 pn pd qn qd sn sd tn td) :
    Calls Try.prog 4 #[.agg #[.int .u16 a0, .int .u16 a1], .agg #[.int .u16 b0, .int .u16 b1], .agg #[.int .u8 c0, .int .u8 c1]] W0 fun e w' => e = .returned (.bool true) ∧ Kp W0.heap.size W0 w' := by
  have HC1' := fun w => cmp_any xn xd xn yd w
  rw [h.c1.1, h.c1.2] at HC1'
  have HC1 := fun w => Lib.hid (HC1' w)
  clear HC1'
  have HC2' := fun w => cmp_any xn yd xn xd w
  rw [h.c2.1, h.c2.2] at HC2'
  have HC2 := fun w => Lib.hid (HC2' w)
  clear HC2'
  have HL' := fun w => less_any xn xd xn yd w
  rw [h.l.1, h.l.2.1, h.l.2.2] at HL'
  have HL := fun w => Lib.hid (HL' w)
  clear HL'
  have HP' := fun w => times_any xn xd zn zd w
  rw [h.p.1, h.p.2.1, h.p.2.2] at HP'
  have HP := fun w => Lib.hid (HP' w)
  clear HP'
  have HQ' := fun w => times_any xn yd zn zd w
  rw [h.q.1, h.q.2.1, h.q.2.2] at HQ'
  have HQ := fun w => Lib.hid (HQ' w)
  clear HQ'
  have HS' := fun w => plus_any xn xd zn zd w
  rw [h.s.1, h.s.2.1, h.s.2.2] at HS'
  have HS := fun w => Lib.hid (HS' w)
  clear HS'
  have HT' := fun w => plus_any xn yd zn zd w
  rw [h.t.1, h.t.2.1, h.t.2.2] at HT'
  have HT := fun w => Lib.hid (HT' w)
  clear HT'
  have HI' := fun w => cmp_any pn pd qn qd w
  rw [h.i.1, h.i.2] at HI'
  have HI := fun w => Lib.hid (HI' w)
  clear HI'
  have HK' := fun w => cmp_any sn sd tn td w
  rw [h.k.1, h.k.2] at HK'
  have HK := fun w => Lib.hid (HK' w)
  clear HK'
  have HSx := fun w => Lib.hid (HSx' w)
  have HSy := fun w => Lib.hid (HSy' w)
  have HSz := fun w => Lib.hid (HSz' w)
  have HAw := fun w => Lib.hid (awake_any w)
  have m1 : 0 ≤ xn * yd := Int.mul_nonneg hx.n0 (Int.le_of_lt hy.d0)
  have m2 : xn * yd ≤ 4096 * 4096 := mul_le' hx.n0 hx.n1 (Int.le_of_lt hy.d0) hy.d1
  have m3 : 0 ≤ xn * xd := Int.mul_nonneg hy.n0 (Int.le_of_lt hx.d0)
  have m4 : xn * xd ≤ 4096 * 4096 := mul_le' hy.n0 hy.n1 (Int.le_of_lt hx.d0) hx.d1
  have w1 := wrap_in (x := xn * yd) (by omega) (by omega)
  have w2 := wrap_in (x := xn * xd) (by omega) (by omega)
  have r1 : Int.tmod a0 4096 = a0 % 4096 := Int.tmod_eq_emod_of_nonneg a0l
  have r2 : Int.tmod a1 4096 = a1 % 4096 := Int.tmod_eq_emod_of_nonneg a1l
  have r3 : Int.tmod b0 4096 = b0 % 4096 := Int.tmod_eq_emod_of_nonneg b0l
  have r4 : Int.tmod b1 4096 = b1 % 4096 := Int.tmod_eq_emod_of_nonneg b1l
  have r5 : Int.tmod c0 16 = c0 % 16 := Int.tmod_eq_emod_of_nonneg c0l
  have r6 : Int.tmod c1 16 = c1 % 16 := Int.tmod_eq_emod_of_nonneg c1l
  have hne1 : (xd == yd) = false := beq_eq_false_iff_ne.2 hne
  clear h hx hy HSx' HSy' HSz' m1 m2 m3 m4
  clear hne
  go_enter Try.func4, Try.ntmps4
  go_wp2_with fail
  (with_reducible refine (HAw _).out.mono ?_)
  have ka : Kp W0.heap.size W0 (((W0.alloc (.cells #[.int .u16 a0, .int .u16 a1] 34)).alloc (.cells #[.int .u16 b0, .int .u16 b1] 34)).alloc (.cells #[.int .u8 c0, .int .u8 c1] 22)) := (((GrewS.refl W0).alloc _).alloc _).alloc _ |>.kp
  have A := ((C2.new W0 (.int .u16 a0) (.int .u16 a1) 34).alloc (.cells #[.int .u16 b0, .int .u16 b1] 34)).alloc (.cells #[.int .u8 c0, .int .u8 c1] 22)
  have B := (C2.new (W0.alloc (.cells #[.int .u16 a0, .int .u16 a1] 34)) (.int .u16 b0) (.int .u16 b1) 34).alloc (.cells #[.int .u8 c0, .int .u8 c1] 22)
  have C := C2.new ((W0.alloc (.cells #[.int .u16 a0, .int .u16 a1] 34)).alloc (.cells #[.int .u16 b0, .int .u16 b1] 34)) (.int .u8 c0) (.int .u8 c1) 22
  rw [show (W0.alloc (.cells #[.int .u16 a0, .int .u16 a1] 34)).heap.size = W0.heap.size + 1 by simp] at B
  rw [show ((W0.alloc (.cells #[.int .u16 a0, .int .u16 a1] 34)).alloc (.cells #[.int .u16 b0, .int .u16 b1] 34)).heap.size = W0.heap.size + 1 + 1 by simp] at C
  rintro e W ⟨rfl, hk⟩
  have HK0 := Lib.hid (ka.trans (hk.mono ka.size))
  replace A := A.kp hk
  replace B := B.kp hk
  replace C := C.kp hk
  have hg := Lib.hid (GrewS.refl W)
  clear ka hk HAw
  have A0 := A.c0
  have A1 := A.c1
  have Al := A.lt
  go_wp2_with fail
  (with_reducible refine (HSx _).out.mono ?_)
  clear A0 A1 Al
  rintro e u1 ⟨rfl, hg1⟩
  have k1 := hg1.kp
  replace A := A.kp k1
  replace B := B.kp k1
  replace C := C.kp k1
  replace hg := Lib.hid (GrewS.trans (hg.out) hg1)
  clear k1 hg1
  have B0 := B.c0
  have B1 := B.c1
  have Bl := B.lt
  go_wp2_with fail
  (with_reducible refine (HSy _).out.mono ?_)
  clear B0 B1 Bl
  rintro e u2 ⟨rfl, hg1⟩
  have k1 := hg1.kp
  replace A := (A.alloc _).kp k1
  replace B := (B.alloc _).kp k1
  replace C := (C.alloc _).kp k1
  have Bx := (C2.new u1 (.int .i64 xn) (.int .i64 xd) 25).kp k1
  replace hg := Lib.hid (GrewS.trans (hg.out.alloc _) hg1)
  clear k1 hg1
  generalize u1.heap.size = bBx at *
  have C0 := C.c0
  have C1 := C.c1
  have Cl := C.lt
  go_wp2_with fail
  (with_reducible refine (HSz _).out.mono ?_)
  clear C0 C1 Cl
  rintro e u3 ⟨rfl, hg1⟩
  have k1 := hg1.kp
  replace A := (A.alloc _).kp k1
  replace B := (B.alloc _).kp k1
  replace C := (C.alloc _).kp k1
  replace Bx := (Bx.alloc _).kp k1
  have By := (C2.new u2 (.int .i64 xn) (.int .i64 yd) 25).kp k1
  replace hg := Lib.hid (GrewS.trans (hg.out.alloc _) hg1)
  clear k1 hg1
  generalize u2.heap.size = bBy at *
  clear A B C
  have Bx0 := Bx.c0
  have Bx1 := Bx.c1
  have Bxl := Bx.lt
  have By0 := By.c0
  have By1 := By.c1
  have Byl := By.lt
  go_wp2_with fail
  (with_reducible refine (HC1 _).out.mono ?_)
  clear Bx0 Bx1 Bxl By0 By1 Byl
  rintro e u4 ⟨rfl, hg1⟩
  have k1 := hg1.kp
  replace Bx := (Bx.alloc _).kp k1
  replace By := (By.alloc _).kp k1
  have Bz := (C2.new u3 (.int .i64 zn) (.int .i64 zd) 25).kp k1
  replace hg := Lib.hid (GrewS.trans (hg.out.alloc _) hg1)
  clear k1 hg1
  generalize u3.heap.size = bBz at *
  have Bx0 := Bx.c0
  have Bx1 := Bx.c1
  have Bxl := Bx.lt
  have By0 := By.c0
  have By1 := By.c1
  have Byl := By.lt
  go_wp2_with fail
  (with_reducible refine (HC2 _).out.mono ?_)
  clear Bx0 Bx1 Bxl By0 By1 Byl
  rintro e u5 ⟨rfl, hg1⟩
  have k1 := hg1.kp
  replace Bx := Bx.kp k1
  replace By := By.kp k1
  replace Bz := Bz.kp k1
  replace hg := Lib.hid (GrewS.trans (hg.out) hg1)
  clear k1 hg1
  have Bx0 := Bx.c0
  have Bx1 := Bx.c1
  have Bxl := Bx.lt
  have By0 := By.c0
  have By1 := By.c1
  have Byl := By.lt
  go_wp2_with fail
  (with_reducible refine (HL _).out.mono ?_)
  clear Bx0 Bx1 Bxl By0 By1 Byl
  rintro e u6 ⟨rfl, hg1⟩
  have k1 := hg1.kp
  replace Bx := Bx.kp k1
  replace By := By.kp k1
  replace Bz := Bz.kp k1
  replace hg := Lib.hid (GrewS.trans (hg.out) hg1)
  clear k1 hg1
  have Bx0 := Bx.c0
  have Bx1 := Bx.c1
  have Bxl := Bx.lt
  have Bz0 := Bz.c0
  have Bz1 := Bz.c1
  have Bzl := Bz.lt
  go_wp2_with fail
  (with_reducible refine (HP _).out.mono ?_)
  clear Bx0 Bx1 Bxl Bz0 Bz1 Bzl
  rintro e u7 ⟨rfl, hg1⟩
  have k1 := hg1.kp
  replace Bx := (Bx.alloc _).kp k1
  replace By := (By.alloc _).kp k1
  replace Bz := (Bz.alloc _).kp k1
  have Bl := (C2.new u6 (.int .i64 ln) (.int .i64 ld) 25).kp k1
  replace hg := Lib.hid (GrewS.trans (hg.out.alloc _) hg1)
  clear k1 hg1
  generalize u6.heap.size = bBl at *
  have By0 := By.c0
  have By1 := By.c1
  have Byl := By.lt
  have Bz0 := Bz.c0
  have Bz1 := Bz.c1
  have Bzl := Bz.lt
  go_wp2_with fail
  (with_reducible refine (HQ _).out.mono ?_)
  clear By0 By1 Byl Bz0 Bz1 Bzl
  rintro e u8 ⟨rfl, hg1⟩
  have k1 := hg1.kp
  replace Bx := (Bx.alloc _).kp k1
  replace By := (By.alloc _).kp k1
  replace Bz := (Bz.alloc _).kp k1
  replace Bl := (Bl.alloc _).kp k1
  have Bp := (C2.new u7 (.int .i64 pn) (.int .i64 pd) 25).kp k1
  replace hg := Lib.hid (GrewS.trans (hg.out.alloc _) hg1)
  clear k1 hg1
  generalize u7.heap.size = bBp at *
  have Bx0 := Bx.c0
  have Bx1 := Bx.c1
  have Bxl := Bx.lt
  have Bz0 := Bz.c0
  have Bz1 := Bz.c1
  have Bzl := Bz.lt
  go_wp2_with fail
  (with_reducible refine (HS _).out.mono ?_)
  clear Bx0 Bx1 Bxl Bz0 Bz1 Bzl
  rintro e u9 ⟨rfl, hg1⟩
  have k1 := hg1.kp
  replace Bx := (Bx.alloc _).kp k1
  replace By := (By.alloc _).kp k1
  replace Bz := (Bz.alloc _).kp k1
  replace Bl := (Bl.alloc _).kp k1
  replace Bp := (Bp.alloc _).kp k1
  have Bq := (C2.new u8 (.int .i64 qn) (.int .i64 qd) 25).kp k1
  replace hg := Lib.hid (GrewS.trans (hg.out.alloc _) hg1)
  clear k1 hg1
  generalize u8.heap.size = bBq at *
  have By0 := By.c0
  have By1 := By.c1
  have Byl := By.lt
  have Bz0 := Bz.c0
  have Bz1 := Bz.c1
  have Bzl := Bz.lt
  go_wp2_with fail
  (with_reducible refine (HT _).out.mono ?_)
  clear By0 By1 Byl Bz0 Bz1 Bzl
  rintro e u10 ⟨rfl, hg1⟩
  have k1 := hg1.kp
  replace Bx := (Bx.alloc _).kp k1
  replace By := (By.alloc _).kp k1
  replace Bz := (Bz.alloc _).kp k1
  replace Bl := (Bl.alloc _).kp k1
  replace Bp := (Bp.alloc _).kp k1
  replace Bq := (Bq.alloc _).kp k1
  have Bs := (C2.new u9 (.int .i64 sn) (.int .i64 sd) 25).kp k1
  replace hg := Lib.hid (GrewS.trans (hg.out.alloc _) hg1)
  clear k1 hg1
  generalize u9.heap.size = bBs at *
  have Bp0 := Bp.c0
  have Bp1 := Bp.c1
  have Bpl := Bp.lt
  have Bq0 := Bq.c0
  have Bq1 := Bq.c1
  have Bql := Bq.lt
  go_wp2_with fail
  (with_reducible refine (HI _).out.mono ?_)
  clear Bp0 Bp1 Bpl Bq0 Bq1 Bql
  rintro e u11 ⟨rfl, hg1⟩
  have k1 := hg1.kp
  replace Bx := (Bx.alloc _).kp k1
  replace By := (By.alloc _).kp k1
  replace Bz := (Bz.alloc _).kp k1
  replace Bl := (Bl.alloc _).kp k1
  replace Bp := (Bp.alloc _).kp k1
  replace Bq := (Bq.alloc _).kp k1
  replace Bs := (Bs.alloc _).kp k1
  have Bt := (C2.new u10 (.int .i64 tn) (.int .i64 td) 25).kp k1
  replace hg := Lib.hid (GrewS.trans (hg.out.alloc _) hg1)
  clear k1 hg1
  generalize u10.heap.size = bBt at *
  have Bs0 := Bs.c0
  have Bs1 := Bs.c1
  have Bsl := Bs.lt
  have Bt0 := Bt.c0
  have Bt1 := Bt.c1
  have Btl := Bt.lt
  go_wp2_with fail
  (with_reducible refine (HK _).out.mono ?_)
  clear Bs0 Bs1 Bsl Bt0 Bt1 Btl
  rintro e u12 ⟨rfl, hg1⟩
  have k1 := hg1.kp
  replace Bx := Bx.kp k1
  replace By := By.kp k1
  replace Bz := Bz.kp k1
  replace Bl := Bl.kp k1
  replace Bp := Bp.kp k1
  replace Bq := Bq.kp k1
  replace Bs := Bs.kp k1
  replace Bt := Bt.kp k1
  replace hg := Lib.hid (GrewS.trans (hg.out) hg1)
  clear k1 hg1
  have HKF := Lib.hid (HK0.out.trans (hg.out.kp.mono HK0.out.size))
  clear hg Bx By Bz Bl Bp Bq Bs Bt
  go_wp2_with fail
  go_ret
  exact ⟨rfl, HKF.out⟩

set_option maxRecDepth 100000 in
set_option maxHeartbeats 4000000 in
theorem ord_zero {a0 a1 b0 b1 c0 c1 xn xd zn zd ln ld pn pd qn qd sn sd tn td : Int} {W0 : World} (a0l : 0 ≤ a0) (a0u : a0 ≤ 65535) (a1l : 0 ≤ a1) (a1u : a1 ≤ 65535) (b0l : 0 ≤ b0) (b0u : b0 ≤ 65535) (b1l : 0 ≤ b1) (b1u : b1 ≤ 65535) (c0l : 0 ≤ c0) (c0u : c0 ≤ 255) (c1l : 0 ≤ c1) (c1u : c1 ≤ 255)
    (hx : Sm 4096 xn xd) (hy : Sm 4096 xn xd)
    (HSx' : ∀ W, Calls Try.prog 13 #[.int .u16 (a0 % 4096), .int .u16 (a1 % 4096)] W fun e w' => e = .returned (.tuple #[shr xn xd, .bool true]) ∧ GrewS W w')
    (HSy' : ∀ W, Calls Try.prog 13 #[.int .u16 (b0 % 4096), .int .u16 (b1 % 4096)] W fun e w' => e = .returned (.tuple #[shr xn xd, .bool true]) ∧ GrewS W w')
    (HSz' : ∀ W, Calls Try.prog 13 #[.int .u16 (1 + c0 % 16), .int .u16 (c1 % 16)] W fun e w' => e = .returned (.tuple #[shr zn zd, .bool true]) ∧ GrewS W w')
    (h : Ord xn xd xn xd zn zd (0) ln ld 0 pn pd qn qd sn sd tn td) :
    Calls Try.prog 4 #[.agg #[.int .u16 a0, .int .u16 a1], .agg #[.int .u16 b0, .int .u16 b1], .agg #[.int .u8 c0, .int .u8 c1]] W0 fun e w' => e = .returned (.bool true) ∧ Kp W0.heap.size W0 w' := by
  have HC1' := fun w => cmp_any xn xd xn xd w
  rw [h.c1.1, h.c1.2] at HC1'
  have HC1 := fun w => Lib.hid (HC1' w)
  clear HC1'
  have HC2 := HC1
  have HL' := fun w => less_any xn xd xn xd w
  rw [h.l.1, h.l.2.1, h.l.2.2] at HL'
  have HL := fun w => Lib.hid (HL' w)
  clear HL'
  have hb := h.back (by decide)
  have HB' := fun w => plus_any xn xd ln ld w
  rw [hb.1, hb.2.1, hb.2.2] at HB'
  have HB := fun w => Lib.hid (HB' w)
  clear HB' hb
  have HP' := fun w => times_any xn xd zn zd w
  rw [h.p.1, h.p.2.1, h.p.2.2] at HP'
  have HP := fun w => Lib.hid (HP' w)
  clear HP'
  have HQ' := fun w => times_any xn xd zn zd w
  rw [h.q.1, h.q.2.1, h.q.2.2] at HQ'
  have HQ := fun w => Lib.hid (HQ' w)
  clear HQ'
  have HS' := fun w => plus_any xn xd zn zd w
  rw [h.s.1, h.s.2.1, h.s.2.2] at HS'
  have HS := fun w => Lib.hid (HS' w)
  clear HS'
  have HT' := fun w => plus_any xn xd zn zd w
  rw [h.t.1, h.t.2.1, h.t.2.2] at HT'
  have HT := fun w => Lib.hid (HT' w)
  clear HT'
  have HI' := fun w => cmp_any pn pd qn qd w
  rw [h.i.1, h.i.2] at HI'
  have HI := fun w => Lib.hid (HI' w)
  clear HI'
  have HK' := fun w => cmp_any sn sd tn td w
  rw [h.k.1, h.k.2] at HK'
  have HK := fun w => Lib.hid (HK' w)
  clear HK'
  have HSx := fun w => Lib.hid (HSx' w)
  have HSy := fun w => Lib.hid (HSy' w)
  have HSz := fun w => Lib.hid (HSz' w)
  have HAw := fun w => Lib.hid (awake_any w)
  have m1 : 0 ≤ xn * xd := Int.mul_nonneg hx.n0 (Int.le_of_lt hy.d0)
  have m2 : xn * xd ≤ 4096 * 4096 := mul_le' hx.n0 hx.n1 (Int.le_of_lt hy.d0) hy.d1
  have m3 : 0 ≤ xn * xd := Int.mul_nonneg hy.n0 (Int.le_of_lt hx.d0)
  have m4 : xn * xd ≤ 4096 * 4096 := mul_le' hy.n0 hy.n1 (Int.le_of_lt hx.d0) hx.d1
  have w1 := wrap_in (x := xn * xd) (by omega) (by omega)
  have w2 := wrap_in (x := xn * xd) (by omega) (by omega)
  have r1 : Int.tmod a0 4096 = a0 % 4096 := Int.tmod_eq_emod_of_nonneg a0l
  have r2 : Int.tmod a1 4096 = a1 % 4096 := Int.tmod_eq_emod_of_nonneg a1l
  have r3 : Int.tmod b0 4096 = b0 % 4096 := Int.tmod_eq_emod_of_nonneg b0l
  have r4 : Int.tmod b1 4096 = b1 % 4096 := Int.tmod_eq_emod_of_nonneg b1l
  have r5 : Int.tmod c0 16 = c0 % 16 := Int.tmod_eq_emod_of_nonneg c0l
  have r6 : Int.tmod c1 16 = c1 % 16 := Int.tmod_eq_emod_of_nonneg c1l
  clear h hx hy HSx' HSy' HSz' m1 m2 m3 m4
  go_enter Try.func4, Try.ntmps4
  go_wp2_with fail
  (with_reducible refine (HAw _).out.mono ?_)
  have ka : Kp W0.heap.size W0 (((W0.alloc (.cells #[.int .u16 a0, .int .u16 a1] 34)).alloc (.cells #[.int .u16 b0, .int .u16 b1] 34)).alloc (.cells #[.int .u8 c0, .int .u8 c1] 22)) := (((GrewS.refl W0).alloc _).alloc _).alloc _ |>.kp
  have A := ((C2.new W0 (.int .u16 a0) (.int .u16 a1) 34).alloc (.cells #[.int .u16 b0, .int .u16 b1] 34)).alloc (.cells #[.int .u8 c0, .int .u8 c1] 22)
  have B := (C2.new (W0.alloc (.cells #[.int .u16 a0, .int .u16 a1] 34)) (.int .u16 b0) (.int .u16 b1) 34).alloc (.cells #[.int .u8 c0, .int .u8 c1] 22)
  have C := C2.new ((W0.alloc (.cells #[.int .u16 a0, .int .u16 a1] 34)).alloc (.cells #[.int .u16 b0, .int .u16 b1] 34)) (.int .u8 c0) (.int .u8 c1) 22
  rw [show (W0.alloc (.cells #[.int .u16 a0, .int .u16 a1] 34)).heap.size = W0.heap.size + 1 by simp] at B
  rw [show ((W0.alloc (.cells #[.int .u16 a0, .int .u16 a1] 34)).alloc (.cells #[.int .u16 b0, .int .u16 b1] 34)).heap.size = W0.heap.size + 1 + 1 by simp] at C
  rintro e W ⟨rfl, hk⟩
  have HK0 := Lib.hid (ka.trans (hk.mono ka.size))
  replace A := A.kp hk
  replace B := B.kp hk
  replace C := C.kp hk
  have hg := Lib.hid (GrewS.refl W)
  clear ka hk HAw
  have A0 := A.c0
  have A1 := A.c1
  have Al := A.lt
  go_wp2_with fail
  (with_reducible refine (HSx _).out.mono ?_)
  clear A0 A1 Al
  rintro e u1 ⟨rfl, hg1⟩
  have k1 := hg1.kp
  replace A := A.kp k1
  replace B := B.kp k1
  replace C := C.kp k1
  replace hg := Lib.hid (GrewS.trans (hg.out) hg1)
  clear k1 hg1
  have B0 := B.c0
  have B1 := B.c1
  have Bl := B.lt
  go_wp2_with fail
  (with_reducible refine (HSy _).out.mono ?_)
  clear B0 B1 Bl
  rintro e u2 ⟨rfl, hg1⟩
  have k1 := hg1.kp
  replace A := (A.alloc _).kp k1
  replace B := (B.alloc _).kp k1
  replace C := (C.alloc _).kp k1
  have Bx := (C2.new u1 (.int .i64 xn) (.int .i64 xd) 25).kp k1
  replace hg := Lib.hid (GrewS.trans (hg.out.alloc _) hg1)
  clear k1 hg1
  generalize u1.heap.size = bBx at *
  have C0 := C.c0
  have C1 := C.c1
  have Cl := C.lt
  go_wp2_with fail
  (with_reducible refine (HSz _).out.mono ?_)
  clear C0 C1 Cl
  rintro e u3 ⟨rfl, hg1⟩
  have k1 := hg1.kp
  replace A := (A.alloc _).kp k1
  replace B := (B.alloc _).kp k1
  replace C := (C.alloc _).kp k1
  replace Bx := (Bx.alloc _).kp k1
  have By := (C2.new u2 (.int .i64 xn) (.int .i64 xd) 25).kp k1
  replace hg := Lib.hid (GrewS.trans (hg.out.alloc _) hg1)
  clear k1 hg1
  generalize u2.heap.size = bBy at *
  clear A B C
  have Bx0 := Bx.c0
  have Bx1 := Bx.c1
  have Bxl := Bx.lt
  have By0 := By.c0
  have By1 := By.c1
  have Byl := By.lt
  go_wp2_with fail
  (with_reducible refine (HC1 _).out.mono ?_)
  clear Bx0 Bx1 Bxl By0 By1 Byl
  rintro e u4 ⟨rfl, hg1⟩
  have k1 := hg1.kp
  replace Bx := (Bx.alloc _).kp k1
  replace By := (By.alloc _).kp k1
  have Bz := (C2.new u3 (.int .i64 zn) (.int .i64 zd) 25).kp k1
  replace hg := Lib.hid (GrewS.trans (hg.out.alloc _) hg1)
  clear k1 hg1
  generalize u3.heap.size = bBz at *
  have Bx0 := Bx.c0
  have Bx1 := Bx.c1
  have Bxl := Bx.lt
  have By0 := By.c0
  have By1 := By.c1
  have Byl := By.lt
  go_wp2_with fail
  (with_reducible refine (HC2 _).out.mono ?_)
  clear Bx0 Bx1 Bxl By0 By1 Byl
  rintro e u5 ⟨rfl, hg1⟩
  have k1 := hg1.kp
  replace Bx := Bx.kp k1
  replace By := By.kp k1
  replace Bz := Bz.kp k1
  replace hg := Lib.hid (GrewS.trans (hg.out) hg1)
  clear k1 hg1
  have Bx0 := Bx.c0
  have Bx1 := Bx.c1
  have Bxl := Bx.lt
  have By0 := By.c0
  have By1 := By.c1
  have Byl := By.lt
  go_wp2_with fail
  (with_reducible refine (HL _).out.mono ?_)
  clear Bx0 Bx1 Bxl By0 By1 Byl
  rintro e u6 ⟨rfl, hg1⟩
  have k1 := hg1.kp
  replace Bx := Bx.kp k1
  replace By := By.kp k1
  replace Bz := Bz.kp k1
  replace hg := Lib.hid (GrewS.trans (hg.out) hg1)
  clear k1 hg1
  have By0 := By.c0
  have By1 := By.c1
  have Byl := By.lt
  have Bx0 := Bx.c0
  have Bx1 := Bx.c1
  have Bxl := Bx.lt
  go_wp2_with fail
  (with_reducible refine (HB _).out.mono ?_)
  clear By0 By1 Byl Bx0 Bx1 Bxl
  rintro e u7 ⟨rfl, hg1⟩
  have k1 := hg1.kp
  replace Bx := (Bx.alloc _).kp k1
  replace By := (By.alloc _).kp k1
  replace Bz := (Bz.alloc _).kp k1
  have Bl := (C2.new u6 (.int .i64 ln) (.int .i64 ld) 25).kp k1
  replace hg := Lib.hid (GrewS.trans (hg.out.alloc _) hg1)
  clear k1 hg1
  generalize u6.heap.size = bBl at *
  have Bx0 := Bx.c0
  have Bx1 := Bx.c1
  have Bxl := Bx.lt
  have Bz0 := Bz.c0
  have Bz1 := Bz.c1
  have Bzl := Bz.lt
  go_wp2_with fail
  (with_reducible refine (HP _).out.mono ?_)
  clear Bx0 Bx1 Bxl Bz0 Bz1 Bzl
  rintro e u8 ⟨rfl, hg1⟩
  have k1 := hg1.kp
  replace Bx := (Bx.alloc _).kp k1
  replace By := (By.alloc _).kp k1
  replace Bz := (Bz.alloc _).kp k1
  replace Bl := (Bl.alloc _).kp k1
  have Bb := (C2.new u7 (.int .i64 xn) (.int .i64 xd) 25).kp k1
  replace hg := Lib.hid (GrewS.trans (hg.out.alloc _) hg1)
  clear k1 hg1
  generalize u7.heap.size = bBb at *
  have By0 := By.c0
  have By1 := By.c1
  have Byl := By.lt
  have Bz0 := Bz.c0
  have Bz1 := Bz.c1
  have Bzl := Bz.lt
  go_wp2_with fail
  (with_reducible refine (HQ _).out.mono ?_)
  clear By0 By1 Byl Bz0 Bz1 Bzl
  rintro e u9 ⟨rfl, hg1⟩
  have k1 := hg1.kp
  replace Bx := (Bx.alloc _).kp k1
  replace By := (By.alloc _).kp k1
  replace Bz := (Bz.alloc _).kp k1
  replace Bl := (Bl.alloc _).kp k1
  replace Bb := (Bb.alloc _).kp k1
  have Bp := (C2.new u8 (.int .i64 pn) (.int .i64 pd) 25).kp k1
  replace hg := Lib.hid (GrewS.trans (hg.out.alloc _) hg1)
  clear k1 hg1
  generalize u8.heap.size = bBp at *
  have Bx0 := Bx.c0
  have Bx1 := Bx.c1
  have Bxl := Bx.lt
  have Bz0 := Bz.c0
  have Bz1 := Bz.c1
  have Bzl := Bz.lt
  go_wp2_with fail
  (with_reducible refine (HS _).out.mono ?_)
  clear Bx0 Bx1 Bxl Bz0 Bz1 Bzl
  rintro e u10 ⟨rfl, hg1⟩
  have k1 := hg1.kp
  replace Bx := (Bx.alloc _).kp k1
  replace By := (By.alloc _).kp k1
  replace Bz := (Bz.alloc _).kp k1
  replace Bl := (Bl.alloc _).kp k1
  replace Bb := (Bb.alloc _).kp k1
  replace Bp := (Bp.alloc _).kp k1
  have Bq := (C2.new u9 (.int .i64 qn) (.int .i64 qd) 25).kp k1
  replace hg := Lib.hid (GrewS.trans (hg.out.alloc _) hg1)
  clear k1 hg1
  generalize u9.heap.size = bBq at *
  have By0 := By.c0
  have By1 := By.c1
  have Byl := By.lt
  have Bz0 := Bz.c0
  have Bz1 := Bz.c1
  have Bzl := Bz.lt
  go_wp2_with fail
  (with_reducible refine (HT _).out.mono ?_)
  clear By0 By1 Byl Bz0 Bz1 Bzl
  rintro e u11 ⟨rfl, hg1⟩
  have k1 := hg1.kp
  replace Bx := (Bx.alloc _).kp k1
  replace By := (By.alloc _).kp k1
  replace Bz := (Bz.alloc _).kp k1
  replace Bl := (Bl.alloc _).kp k1
  replace Bb := (Bb.alloc _).kp k1
  replace Bp := (Bp.alloc _).kp k1
  replace Bq := (Bq.alloc _).kp k1
  have Bs := (C2.new u10 (.int .i64 sn) (.int .i64 sd) 25).kp k1
  replace hg := Lib.hid (GrewS.trans (hg.out.alloc _) hg1)
  clear k1 hg1
  generalize u10.heap.size = bBs at *
  have Bp0 := Bp.c0
  have Bp1 := Bp.c1
  have Bpl := Bp.lt
  have Bq0 := Bq.c0
  have Bq1 := Bq.c1
  have Bql := Bq.lt
  go_wp2_with fail
  (with_reducible refine (HI _).out.mono ?_)
  clear Bp0 Bp1 Bpl Bq0 Bq1 Bql
  rintro e u12 ⟨rfl, hg1⟩
  have k1 := hg1.kp
  replace Bx := (Bx.alloc _).kp k1
  replace By := (By.alloc _).kp k1
  replace Bz := (Bz.alloc _).kp k1
  replace Bl := (Bl.alloc _).kp k1
  replace Bb := (Bb.alloc _).kp k1
  replace Bp := (Bp.alloc _).kp k1
  replace Bq := (Bq.alloc _).kp k1
  replace Bs := (Bs.alloc _).kp k1
  have Bt := (C2.new u11 (.int .i64 tn) (.int .i64 td) 25).kp k1
  replace hg := Lib.hid (GrewS.trans (hg.out.alloc _) hg1)
  clear k1 hg1
  generalize u11.heap.size = bBt at *
  have Bs0 := Bs.c0
  have Bs1 := Bs.c1
  have Bsl := Bs.lt
  have Bt0 := Bt.c0
  have Bt1 := Bt.c1
  have Btl := Bt.lt
  go_wp2_with fail
  (with_reducible refine (HK _).out.mono ?_)
  clear Bs0 Bs1 Bsl Bt0 Bt1 Btl
  rintro e u13 ⟨rfl, hg1⟩
  have k1 := hg1.kp
  replace Bx := Bx.kp k1
  replace By := By.kp k1
  replace Bz := Bz.kp k1
  replace Bl := Bl.kp k1
  replace Bb := Bb.kp k1
  replace Bp := Bp.kp k1
  replace Bq := Bq.kp k1
  replace Bs := Bs.kp k1
  replace Bt := Bt.kp k1
  replace hg := Lib.hid (GrewS.trans (hg.out) hg1)
  clear k1 hg1
  have HKF := Lib.hid (HK0.out.trans (hg.out.kp.mono HK0.out.size))
  clear hg Bx By Bz Bl Bb Bp Bq Bs Bt
  go_wp2_with fail
  go_ret
  exact ⟨rfl, HKF.out⟩

set_option maxRecDepth 100000 in
set_option maxHeartbeats 4000000 in
theorem ord_pos_a {a0 a1 b0 b1 c0 c1 xn xd yn yd zn zd ln ld pn pd qn qd sn sd tn td : Int} {W0 : World} (a0l : 0 ≤ a0) (a0u : a0 ≤ 65535) (a1l : 0 ≤ a1) (a1u : a1 ≤ 65535) (b0l : 0 ≤ b0) (b0u : b0 ≤ 65535) (b1l : 0 ≤ b1) (b1u : b1 ≤ 65535) (c0l : 0 ≤ c0) (c0u : c0 ≤ 255) (c1l : 0 ≤ c1) (c1u : c1 ≤ 255)
    (hx : Sm 4096 xn xd) (hy : Sm 4096 yn yd) (hlt : yn * xd < xn * yd) (hne : xn ≠ yn)
    (HSx' : ∀ W, Calls Try.prog 13 #[.int .u16 (a0 % 4096), .int .u16 (a1 % 4096)] W fun e w' => e = .returned (.tuple #[shr xn xd, .bool true]) ∧ GrewS W w')
    (HSy' : ∀ W, Calls Try.prog 13 #[.int .u16 (b0 % 4096), .int .u16 (b1 % 4096)] W fun e w' => e = .returned (.tuple #[shr yn yd, .bool true]) ∧ GrewS W w')
    (HSz' : ∀ W, Calls Try.prog 13 #[.int .u16 (1 + c0 % 16), .int .u16 (c1 % 16)] W fun e w' => e = .returned (.tuple #[shr zn zd, .bool true]) ∧ GrewS W w')
    (h : Ord xn xd yn yd zn zd (1) ln ld 0 pn pd qn qd sn sd tn td) :
    Calls Try.prog 4 #[.agg #[.int .u16 a0, .int .u16 a1], .agg #[.int .u16 b0, .int .u16 b1], .agg #[.int .u8 c0, .int .u8 c1]] W0 fun e w' => e = .returned (.bool true) ∧ Kp W0.heap.size W0 w' := by
  have HC1' := fun w => cmp_any xn xd yn yd w
  rw [h.c1.1, h.c1.2] at HC1'
  have HC1 := fun w => Lib.hid (HC1' w)
  clear HC1'
  have HC2' := fun w => cmp_any yn yd xn xd w
  rw [h.c2.1, h.c2.2] at HC2'
  have HC2 := fun w => Lib.hid (HC2' w)
  clear HC2'
  have HL' := fun w => less_any xn xd yn yd w
  rw [h.l.1, h.l.2.1, h.l.2.2] at HL'
  have HL := fun w => Lib.hid (HL' w)
  clear HL'
  have hb := h.back (by decide)
  have HB' := fun w => plus_any yn yd ln ld w
  rw [hb.1, hb.2.1, hb.2.2] at HB'
  have HB := fun w => Lib.hid (HB' w)
  clear HB' hb
  have HP' := fun w => times_any xn xd zn zd w
  rw [h.p.1, h.p.2.1, h.p.2.2] at HP'
  have HP := fun w => Lib.hid (HP' w)
  clear HP'
  have HQ' := fun w => times_any yn yd zn zd w
  rw [h.q.1, h.q.2.1, h.q.2.2] at HQ'
  have HQ := fun w => Lib.hid (HQ' w)
  clear HQ'
  have HS' := fun w => plus_any xn xd zn zd w
  rw [h.s.1, h.s.2.1, h.s.2.2] at HS'
  have HS := fun w => Lib.hid (HS' w)
  clear HS'
  have HT' := fun w => plus_any yn yd zn zd w
  rw [h.t.1, h.t.2.1, h.t.2.2] at HT'
  have HT := fun w => Lib.hid (HT' w)
  clear HT'
  have HI' := fun w => cmp_any pn pd qn qd w
  rw [h.i.1, h.i.2] at HI'
  have HI := fun w => Lib.hid (HI' w)
  clear HI'
  have HK' := fun w => cmp_any sn sd tn td w
  rw [h.k.1, h.k.2] at HK'
  have HK := fun w => Lib.hid (HK' w)
  clear HK'
  have HSx := fun w => Lib.hid (HSx' w)
  have HSy := fun w => Lib.hid (HSy' w)
  have HSz := fun w => Lib.hid (HSz' w)
  have HAw := fun w => Lib.hid (awake_any w)
  have m1 : 0 ≤ xn * yd := Int.mul_nonneg hx.n0 (Int.le_of_lt hy.d0)
  have m2 : xn * yd ≤ 4096 * 4096 := mul_le' hx.n0 hx.n1 (Int.le_of_lt hy.d0) hy.d1
  have m3 : 0 ≤ yn * xd := Int.mul_nonneg hy.n0 (Int.le_of_lt hx.d0)
  have m4 : yn * xd ≤ 4096 * 4096 := mul_le' hy.n0 hy.n1 (Int.le_of_lt hx.d0) hx.d1
  have w1 := wrap_in (x := xn * yd) (by omega) (by omega)
  have w2 := wrap_in (x := yn * xd) (by omega) (by omega)
  have r1 : Int.tmod a0 4096 = a0 % 4096 := Int.tmod_eq_emod_of_nonneg a0l
  have r2 : Int.tmod a1 4096 = a1 % 4096 := Int.tmod_eq_emod_of_nonneg a1l
  have r3 : Int.tmod b0 4096 = b0 % 4096 := Int.tmod_eq_emod_of_nonneg b0l
  have r4 : Int.tmod b1 4096 = b1 % 4096 := Int.tmod_eq_emod_of_nonneg b1l
  have r5 : Int.tmod c0 16 = c0 % 16 := Int.tmod_eq_emod_of_nonneg c0l
  have r6 : Int.tmod c1 16 = c1 % 16 := Int.tmod_eq_emod_of_nonneg c1l
  have hd : decide (xn * yd < yn * xd) = false := decide_eq_false (by omega)
  have hne1 : (xn == yn) = false := beq_eq_false_iff_ne.2 hne
  clear h hx hy HSx' HSy' HSz' m1 m2 m3 m4
  clear hne
  go_enter Try.func4, Try.ntmps4
  go_wp2_with fail
  (with_reducible refine (HAw _).out.mono ?_)
  have ka : Kp W0.heap.size W0 (((W0.alloc (.cells #[.int .u16 a0, .int .u16 a1] 34)).alloc (.cells #[.int .u16 b0, .int .u16 b1] 34)).alloc (.cells #[.int .u8 c0, .int .u8 c1] 22)) := (((GrewS.refl W0).alloc _).alloc _).alloc _ |>.kp
  have A := ((C2.new W0 (.int .u16 a0) (.int .u16 a1) 34).alloc (.cells #[.int .u16 b0, .int .u16 b1] 34)).alloc (.cells #[.int .u8 c0, .int .u8 c1] 22)
  have B := (C2.new (W0.alloc (.cells #[.int .u16 a0, .int .u16 a1] 34)) (.int .u16 b0) (.int .u16 b1) 34).alloc (.cells #[.int .u8 c0, .int .u8 c1] 22)
  have C := C2.new ((W0.alloc (.cells #[.int .u16 a0, .int .u16 a1] 34)).alloc (.cells #[.int .u16 b0, .int .u16 b1] 34)) (.int .u8 c0) (.int .u8 c1) 22
  rw [show (W0.alloc (.cells #[.int .u16 a0, .int .u16 a1] 34)).heap.size = W0.heap.size + 1 by simp] at B
  rw [show ((W0.alloc (.cells #[.int .u16 a0, .int .u16 a1] 34)).alloc (.cells #[.int .u16 b0, .int .u16 b1] 34)).heap.size = W0.heap.size + 1 + 1 by simp] at C
  rintro e W ⟨rfl, hk⟩
  have HK0 := Lib.hid (ka.trans (hk.mono ka.size))
  replace A := A.kp hk
  replace B := B.kp hk
  replace C := C.kp hk
  have hg := Lib.hid (GrewS.refl W)
  clear ka hk HAw
  have A0 := A.c0
  have A1 := A.c1
  have Al := A.lt
  go_wp2_with fail
  (with_reducible refine (HSx _).out.mono ?_)
  clear A0 A1 Al
  rintro e u1 ⟨rfl, hg1⟩
  have k1 := hg1.kp
  replace A := A.kp k1
  replace B := B.kp k1
  replace C := C.kp k1
  replace hg := Lib.hid (GrewS.trans (hg.out) hg1)
  clear k1 hg1
  have B0 := B.c0
  have B1 := B.c1
  have Bl := B.lt
  go_wp2_with fail
  (with_reducible refine (HSy _).out.mono ?_)
  clear B0 B1 Bl
  rintro e u2 ⟨rfl, hg1⟩
  have k1 := hg1.kp
  replace A := (A.alloc _).kp k1
  replace B := (B.alloc _).kp k1
  replace C := (C.alloc _).kp k1
  have Bx := (C2.new u1 (.int .i64 xn) (.int .i64 xd) 25).kp k1
  replace hg := Lib.hid (GrewS.trans (hg.out.alloc _) hg1)
  clear k1 hg1
  generalize u1.heap.size = bBx at *
  have C0 := C.c0
  have C1 := C.c1
  have Cl := C.lt
  go_wp2_with fail
  (with_reducible refine (HSz _).out.mono ?_)
  clear C0 C1 Cl
  rintro e u3 ⟨rfl, hg1⟩
  have k1 := hg1.kp
  replace A := (A.alloc _).kp k1
  replace B := (B.alloc _).kp k1
  replace C := (C.alloc _).kp k1
  replace Bx := (Bx.alloc _).kp k1
  have By := (C2.new u2 (.int .i64 yn) (.int .i64 yd) 25).kp k1
  replace hg := Lib.hid (GrewS.trans (hg.out.alloc _) hg1)
  clear k1 hg1
  generalize u2.heap.size = bBy at *
  clear A B C
  have Bx0 := Bx.c0
  have Bx1 := Bx.c1
  have Bxl := Bx.lt
  have By0 := By.c0
  have By1 := By.c1
  have Byl := By.lt
  go_wp2_with fail
  (with_reducible refine (HC1 _).out.mono ?_)
  clear Bx0 Bx1 Bxl By0 By1 Byl
  rintro e u4 ⟨rfl, hg1⟩
  have k1 := hg1.kp
  replace Bx := (Bx.alloc _).kp k1
  replace By := (By.alloc _).kp k1
  have Bz := (C2.new u3 (.int .i64 zn) (.int .i64 zd) 25).kp k1
  replace hg := Lib.hid (GrewS.trans (hg.out.alloc _) hg1)
  clear k1 hg1
  generalize u3.heap.size = bBz at *
  have Bx0 := Bx.c0
  have Bx1 := Bx.c1
  have Bxl := Bx.lt
  have By0 := By.c0
  have By1 := By.c1
  have Byl := By.lt
  go_wp2_with fail
  (with_reducible refine (HC2 _).out.mono ?_)
  clear Bx0 Bx1 Bxl By0 By1 Byl
  rintro e u5 ⟨rfl, hg1⟩
  have k1 := hg1.kp
  replace Bx := Bx.kp k1
  replace By := By.kp k1
  replace Bz := Bz.kp k1
  replace hg := Lib.hid (GrewS.trans (hg.out) hg1)
  clear k1 hg1
  have Bx0 := Bx.c0
  have Bx1 := Bx.c1
  have Bxl := Bx.lt
  have By0 := By.c0
  have By1 := By.c1
  have Byl := By.lt
  go_wp2_with fail
  (with_reducible refine (HL _).out.mono ?_)
  clear Bx0 Bx1 Bxl By0 By1 Byl
  rintro e u6 ⟨rfl, hg1⟩
  have k1 := hg1.kp
  replace Bx := Bx.kp k1
  replace By := By.kp k1
  replace Bz := Bz.kp k1
  replace hg := Lib.hid (GrewS.trans (hg.out) hg1)
  clear k1 hg1
  have By0 := By.c0
  have By1 := By.c1
  have Byl := By.lt
  have Bx0 := Bx.c0
  have Bx1 := Bx.c1
  have Bxl := Bx.lt
  go_wp2_with fail
  (with_reducible refine (HB _).out.mono ?_)
  clear By0 By1 Byl Bx0 Bx1 Bxl
  rintro e u7 ⟨rfl, hg1⟩
  have k1 := hg1.kp
  replace Bx := (Bx.alloc _).kp k1
  replace By := (By.alloc _).kp k1
  replace Bz := (Bz.alloc _).kp k1
  have Bl := (C2.new u6 (.int .i64 ln) (.int .i64 ld) 25).kp k1
  replace hg := Lib.hid (GrewS.trans (hg.out.alloc _) hg1)
  clear k1 hg1
  generalize u6.heap.size = bBl at *
  have Bx0 := Bx.c0
  have Bx1 := Bx.c1
  have Bxl := Bx.lt
  have Bz0 := Bz.c0
  have Bz1 := Bz.c1
  have Bzl := Bz.lt
  go_wp2_with fail
  (with_reducible refine (HP _).out.mono ?_)
  clear Bx0 Bx1 Bxl Bz0 Bz1 Bzl
  rintro e u8 ⟨rfl, hg1⟩
  have k1 := hg1.kp
  replace Bx := (Bx.alloc _).kp k1
  replace By := (By.alloc _).kp k1
  replace Bz := (Bz.alloc _).kp k1
  replace Bl := (Bl.alloc _).kp k1
  have Bb := (C2.new u7 (.int .i64 xn) (.int .i64 xd) 25).kp k1
  replace hg := Lib.hid (GrewS.trans (hg.out.alloc _) hg1)
  clear k1 hg1
  generalize u7.heap.size = bBb at *
  have By0 := By.c0
  have By1 := By.c1
  have Byl := By.lt
  have Bz0 := Bz.c0
  have Bz1 := Bz.c1
  have Bzl := Bz.lt
  go_wp2_with fail
  (with_reducible refine (HQ _).out.mono ?_)
  clear By0 By1 Byl Bz0 Bz1 Bzl
  rintro e u9 ⟨rfl, hg1⟩
  have k1 := hg1.kp
  replace Bx := (Bx.alloc _).kp k1
  replace By := (By.alloc _).kp k1
  replace Bz := (Bz.alloc _).kp k1
  replace Bl := (Bl.alloc _).kp k1
  replace Bb := (Bb.alloc _).kp k1
  have Bp := (C2.new u8 (.int .i64 pn) (.int .i64 pd) 25).kp k1
  replace hg := Lib.hid (GrewS.trans (hg.out.alloc _) hg1)
  clear k1 hg1
  generalize u8.heap.size = bBp at *
  have Bx0 := Bx.c0
  have Bx1 := Bx.c1
  have Bxl := Bx.lt
  have Bz0 := Bz.c0
  have Bz1 := Bz.c1
  have Bzl := Bz.lt
  go_wp2_with fail
  (with_reducible refine (HS _).out.mono ?_)
  clear Bx0 Bx1 Bxl Bz0 Bz1 Bzl
  rintro e u10 ⟨rfl, hg1⟩
  have k1 := hg1.kp
  replace Bx := (Bx.alloc _).kp k1
  replace By := (By.alloc _).kp k1
  replace Bz := (Bz.alloc _).kp k1
  replace Bl := (Bl.alloc _).kp k1
  replace Bb := (Bb.alloc _).kp k1
  replace Bp := (Bp.alloc _).kp k1
  have Bq := (C2.new u9 (.int .i64 qn) (.int .i64 qd) 25).kp k1
  replace hg := Lib.hid (GrewS.trans (hg.out.alloc _) hg1)
  clear k1 hg1
  generalize u9.heap.size = bBq at *
  have By0 := By.c0
  have By1 := By.c1
  have Byl := By.lt
  have Bz0 := Bz.c0
  have Bz1 := Bz.c1
  have Bzl := Bz.lt
  go_wp2_with fail
  (with_reducible refine (HT _).out.mono ?_)
  clear By0 By1 Byl Bz0 Bz1 Bzl
  rintro e u11 ⟨rfl, hg1⟩
  have k1 := hg1.kp
  replace Bx := (Bx.alloc _).kp k1
  replace By := (By.alloc _).kp k1
  replace Bz := (Bz.alloc _).kp k1
  replace Bl := (Bl.alloc _).kp k1
  replace Bb := (Bb.alloc _).kp k1
  replace Bp := (Bp.alloc _).kp k1
  replace Bq := (Bq.alloc _).kp k1
  have Bs := (C2.new u10 (.int .i64 sn) (.int .i64 sd) 25).kp k1
  replace hg := Lib.hid (GrewS.trans (hg.out.alloc _) hg1)
  clear k1 hg1
  generalize u10.heap.size = bBs at *
  have Bp0 := Bp.c0
  have Bp1 := Bp.c1
  have Bpl := Bp.lt
  have Bq0 := Bq.c0
  have Bq1 := Bq.c1
  have Bql := Bq.lt
  go_wp2_with fail
  (with_reducible refine (HI _).out.mono ?_)
  clear Bp0 Bp1 Bpl Bq0 Bq1 Bql
  rintro e u12 ⟨rfl, hg1⟩
  have k1 := hg1.kp
  replace Bx := (Bx.alloc _).kp k1
  replace By := (By.alloc _).kp k1
  replace Bz := (Bz.alloc _).kp k1
  replace Bl := (Bl.alloc _).kp k1
  replace Bb := (Bb.alloc _).kp k1
  replace Bp := (Bp.alloc _).kp k1
  replace Bq := (Bq.alloc _).kp k1
  replace Bs := (Bs.alloc _).kp k1
  have Bt := (C2.new u11 (.int .i64 tn) (.int .i64 td) 25).kp k1
  replace hg := Lib.hid (GrewS.trans (hg.out.alloc _) hg1)
  clear k1 hg1
  generalize u11.heap.size = bBt at *
  have Bs0 := Bs.c0
  have Bs1 := Bs.c1
  have Bsl := Bs.lt
  have Bt0 := Bt.c0
  have Bt1 := Bt.c1
  have Btl := Bt.lt
  go_wp2_with fail
  (with_reducible refine (HK _).out.mono ?_)
  clear Bs0 Bs1 Bsl Bt0 Bt1 Btl
  rintro e u13 ⟨rfl, hg1⟩
  have k1 := hg1.kp
  replace Bx := Bx.kp k1
  replace By := By.kp k1
  replace Bz := Bz.kp k1
  replace Bl := Bl.kp k1
  replace Bb := Bb.kp k1
  replace Bp := Bp.kp k1
  replace Bq := Bq.kp k1
  replace Bs := Bs.kp k1
  replace Bt := Bt.kp k1
  replace hg := Lib.hid (GrewS.trans (hg.out) hg1)
  clear k1 hg1
  have HKF := Lib.hid (HK0.out.trans (hg.out.kp.mono HK0.out.size))
  clear hg Bx By Bz Bl Bb Bp Bq Bs Bt
  go_wp2_with fail
  go_ret
  exact ⟨rfl, HKF.out⟩

set_option maxRecDepth 100000 in
set_option maxHeartbeats 4000000 in
theorem ord_pos_b {a0 a1 b0 b1 c0 c1 xn xd yd zn zd ln ld pn pd qn qd sn sd tn td : Int} {W0 : World} (a0l : 0 ≤ a0) (a0u : a0 ≤ 65535) (a1l : 0 ≤ a1) (a1u : a1 ≤ 65535) (b0l : 0 ≤ b0) (b0u : b0 ≤ 65535) (b1l : 0 ≤ b1) (b1u : b1 ≤ 65535) (c0l : 0 ≤ c0) (c0u : c0 ≤ 255) (c1l : 0 ≤ c1) (c1u : c1 ≤ 255)
    (hx : Sm 4096 xn xd) (hy : Sm 4096 xn yd) (hlt : xn * xd < xn * yd) (hne : xd ≠ yd)
    (HSx' : ∀ W, Calls Try.prog 13 #[.int .u16 (a0 % 4096), .int .u16 (a1 % 4096)] W fun e w' => e = .returned (.tuple #[shr xn xd, .bool true]) ∧ GrewS W w')
    (HSy' : ∀ W, Calls Try.prog 13 #[.int .u16 (b0 % 4096), .int .u16 (b1 % 4096)] W fun e w' => e = .returned (.tuple #[shr xn yd, .bool true]) ∧ GrewS W w')
    (HSz' : ∀ W, Calls Try.prog 13 #[.int .u16 (1 + c0 % 16), .int .u16 (c1 % 16)] W fun e w' => e = .returned (.tuple #[shr zn zd, .bool true]) ∧ GrewS W w')
    (h : Ord xn xd xn yd zn zd (1) ln ld 0 pn pd qn qd sn sd tn td) :
    Calls Try.prog 4 #[.agg #[.int .u16 a0, .int .u16 a1], .agg #[.int .u16 b0, .int .u16 b1], .agg #[.int .u8 c0, .int .u8 c1]] W0 fun e w' => e = .returned (.bool true) ∧ Kp W0.heap.size W0 w' := by
  have HC1' := fun w => cmp_any xn xd xn yd w
  rw [h.c1.1, h.c1.2] at HC1'
  have HC1 := fun w => Lib.hid (HC1' w)
  clear HC1'
  have HC2' := fun w => cmp_any xn yd xn xd w
  rw [h.c2.1, h.c2.2] at HC2'
  have HC2 := fun w => Lib.hid (HC2' w)
  clear HC2'
  have HL' := fun w => less_any xn xd xn yd w
  rw [h.l.1, h.l.2.1, h.l.2.2] at HL'
  have HL := fun w => Lib.hid (HL' w)
  clear HL'
  have hb := h.back (by decide)
  have HB' := fun w => plus_any xn yd ln ld w
  rw [hb.1, hb.2.1, hb.2.2] at HB'
  have HB := fun w => Lib.hid (HB' w)
  clear HB' hb
  have HP' := fun w => times_any xn xd zn zd w
  rw [h.p.1, h.p.2.1, h.p.2.2] at HP'
  have HP := fun w => Lib.hid (HP' w)
  clear HP'
  have HQ' := fun w => times_any xn yd zn zd w
  rw [h.q.1, h.q.2.1, h.q.2.2] at HQ'
  have HQ := fun w => Lib.hid (HQ' w)
  clear HQ'
  have HS' := fun w => plus_any xn xd zn zd w
  rw [h.s.1, h.s.2.1, h.s.2.2] at HS'
  have HS := fun w => Lib.hid (HS' w)
  clear HS'
  have HT' := fun w => plus_any xn yd zn zd w
  rw [h.t.1, h.t.2.1, h.t.2.2] at HT'
  have HT := fun w => Lib.hid (HT' w)
  clear HT'
  have HI' := fun w => cmp_any pn pd qn qd w
  rw [h.i.1, h.i.2] at HI'
  have HI := fun w => Lib.hid (HI' w)
  clear HI'
  have HK' := fun w => cmp_any sn sd tn td w
  rw [h.k.1, h.k.2] at HK'
  have HK := fun w => Lib.hid (HK' w)
  clear HK'
  have HSx := fun w => Lib.hid (HSx' w)
  have HSy := fun w => Lib.hid (HSy' w)
  have HSz := fun w => Lib.hid (HSz' w)
  have HAw := fun w => Lib.hid (awake_any w)
  have m1 : 0 ≤ xn * yd := Int.mul_nonneg hx.n0 (Int.le_of_lt hy.d0)
  have m2 : xn * yd ≤ 4096 * 4096 := mul_le' hx.n0 hx.n1 (Int.le_of_lt hy.d0) hy.d1
  have m3 : 0 ≤ xn * xd := Int.mul_nonneg hy.n0 (Int.le_of_lt hx.d0)
  have m4 : xn * xd ≤ 4096 * 4096 := mul_le' hy.n0 hy.n1 (Int.le_of_lt hx.d0) hx.d1
  have w1 := wrap_in (x := xn * yd) (by omega) (by omega)
  have w2 := wrap_in (x := xn * xd) (by omega) (by omega)
  have r1 : Int.tmod a0 4096 = a0 % 4096 := Int.tmod_eq_emod_of_nonneg a0l
  have r2 : Int.tmod a1 4096 = a1 % 4096 := Int.tmod_eq_emod_of_nonneg a1l
  have r3 : Int.tmod b0 4096 = b0 % 4096 := Int.tmod_eq_emod_of_nonneg b0l
  have r4 : Int.tmod b1 4096 = b1 % 4096 := Int.tmod_eq_emod_of_nonneg b1l
  have r5 : Int.tmod c0 16 = c0 % 16 := Int.tmod_eq_emod_of_nonneg c0l
  have r6 : Int.tmod c1 16 = c1 % 16 := Int.tmod_eq_emod_of_nonneg c1l
  have hd : decide (xn * yd < xn * xd) = false := decide_eq_false (by omega)
  have hne1 : (xd == yd) = false := beq_eq_false_iff_ne.2 hne
  clear h hx hy HSx' HSy' HSz' m1 m2 m3 m4
  clear hne
  go_enter Try.func4, Try.ntmps4
  go_wp2_with fail
  (with_reducible refine (HAw _).out.mono ?_)
  have ka : Kp W0.heap.size W0 (((W0.alloc (.cells #[.int .u16 a0, .int .u16 a1] 34)).alloc (.cells #[.int .u16 b0, .int .u16 b1] 34)).alloc (.cells #[.int .u8 c0, .int .u8 c1] 22)) := (((GrewS.refl W0).alloc _).alloc _).alloc _ |>.kp
  have A := ((C2.new W0 (.int .u16 a0) (.int .u16 a1) 34).alloc (.cells #[.int .u16 b0, .int .u16 b1] 34)).alloc (.cells #[.int .u8 c0, .int .u8 c1] 22)
  have B := (C2.new (W0.alloc (.cells #[.int .u16 a0, .int .u16 a1] 34)) (.int .u16 b0) (.int .u16 b1) 34).alloc (.cells #[.int .u8 c0, .int .u8 c1] 22)
  have C := C2.new ((W0.alloc (.cells #[.int .u16 a0, .int .u16 a1] 34)).alloc (.cells #[.int .u16 b0, .int .u16 b1] 34)) (.int .u8 c0) (.int .u8 c1) 22
  rw [show (W0.alloc (.cells #[.int .u16 a0, .int .u16 a1] 34)).heap.size = W0.heap.size + 1 by simp] at B
  rw [show ((W0.alloc (.cells #[.int .u16 a0, .int .u16 a1] 34)).alloc (.cells #[.int .u16 b0, .int .u16 b1] 34)).heap.size = W0.heap.size + 1 + 1 by simp] at C
  rintro e W ⟨rfl, hk⟩
  have HK0 := Lib.hid (ka.trans (hk.mono ka.size))
  replace A := A.kp hk
  replace B := B.kp hk
  replace C := C.kp hk
  have hg := Lib.hid (GrewS.refl W)
  clear ka hk HAw
  have A0 := A.c0
  have A1 := A.c1
  have Al := A.lt
  go_wp2_with fail
  (with_reducible refine (HSx _).out.mono ?_)
  clear A0 A1 Al
  rintro e u1 ⟨rfl, hg1⟩
  have k1 := hg1.kp
  replace A := A.kp k1
  replace B := B.kp k1
  replace C := C.kp k1
  replace hg := Lib.hid (GrewS.trans (hg.out) hg1)
  clear k1 hg1
  have B0 := B.c0
  have B1 := B.c1
  have Bl := B.lt
  go_wp2_with fail
  (with_reducible refine (HSy _).out.mono ?_)
  clear B0 B1 Bl
  rintro e u2 ⟨rfl, hg1⟩
  have k1 := hg1.kp
  replace A := (A.alloc _).kp k1
  replace B := (B.alloc _).kp k1
  replace C := (C.alloc _).kp k1
  have Bx := (C2.new u1 (.int .i64 xn) (.int .i64 xd) 25).kp k1
  replace hg := Lib.hid (GrewS.trans (hg.out.alloc _) hg1)
  clear k1 hg1
  generalize u1.heap.size = bBx at *
  have C0 := C.c0
  have C1 := C.c1
  have Cl := C.lt
  go_wp2_with fail
  (with_reducible refine (HSz _).out.mono ?_)
  clear C0 C1 Cl
  rintro e u3 ⟨rfl, hg1⟩
  have k1 := hg1.kp
  replace A := (A.alloc _).kp k1
  replace B := (B.alloc _).kp k1
  replace C := (C.alloc _).kp k1
  replace Bx := (Bx.alloc _).kp k1
  have By := (C2.new u2 (.int .i64 xn) (.int .i64 yd) 25).kp k1
  replace hg := Lib.hid (GrewS.trans (hg.out.alloc _) hg1)
  clear k1 hg1
  generalize u2.heap.size = bBy at *
  clear A B C
  have Bx0 := Bx.c0
  have Bx1 := Bx.c1
  have Bxl := Bx.lt
  have By0 := By.c0
  have By1 := By.c1
  have Byl := By.lt
  go_wp2_with fail
  (with_reducible refine (HC1 _).out.mono ?_)
  clear Bx0 Bx1 Bxl By0 By1 Byl
  rintro e u4 ⟨rfl, hg1⟩
  have k1 := hg1.kp
  replace Bx := (Bx.alloc _).kp k1
  replace By := (By.alloc _).kp k1
  have Bz := (C2.new u3 (.int .i64 zn) (.int .i64 zd) 25).kp k1
  replace hg := Lib.hid (GrewS.trans (hg.out.alloc _) hg1)
  clear k1 hg1
  generalize u3.heap.size = bBz at *
  have Bx0 := Bx.c0
  have Bx1 := Bx.c1
  have Bxl := Bx.lt
  have By0 := By.c0
  have By1 := By.c1
  have Byl := By.lt
  go_wp2_with fail
  (with_reducible refine (HC2 _).out.mono ?_)
  clear Bx0 Bx1 Bxl By0 By1 Byl
  rintro e u5 ⟨rfl, hg1⟩
  have k1 := hg1.kp
  replace Bx := Bx.kp k1
  replace By := By.kp k1
  replace Bz := Bz.kp k1
  replace hg := Lib.hid (GrewS.trans (hg.out) hg1)
  clear k1 hg1
  have Bx0 := Bx.c0
  have Bx1 := Bx.c1
  have Bxl := Bx.lt
  have By0 := By.c0
  have By1 := By.c1
  have Byl := By.lt
  go_wp2_with fail
  (with_reducible refine (HL _).out.mono ?_)
  clear Bx0 Bx1 Bxl By0 By1 Byl
  rintro e u6 ⟨rfl, hg1⟩
  have k1 := hg1.kp
  replace Bx := Bx.kp k1
  replace By := By.kp k1
  replace Bz := Bz.kp k1
  replace hg := Lib.hid (GrewS.trans (hg.out) hg1)
  clear k1 hg1
  have By0 := By.c0
  have By1 := By.c1
  have Byl := By.lt
  have Bx0 := Bx.c0
  have Bx1 := Bx.c1
  have Bxl := Bx.lt
  go_wp2_with fail
  (with_reducible refine (HB _).out.mono ?_)
  clear By0 By1 Byl Bx0 Bx1 Bxl
  rintro e u7 ⟨rfl, hg1⟩
  have k1 := hg1.kp
  replace Bx := (Bx.alloc _).kp k1
  replace By := (By.alloc _).kp k1
  replace Bz := (Bz.alloc _).kp k1
  have Bl := (C2.new u6 (.int .i64 ln) (.int .i64 ld) 25).kp k1
  replace hg := Lib.hid (GrewS.trans (hg.out.alloc _) hg1)
  clear k1 hg1
  generalize u6.heap.size = bBl at *
  have Bx0 := Bx.c0
  have Bx1 := Bx.c1
  have Bxl := Bx.lt
  have Bz0 := Bz.c0
  have Bz1 := Bz.c1
  have Bzl := Bz.lt
  go_wp2_with fail
  (with_reducible refine (HP _).out.mono ?_)
  clear Bx0 Bx1 Bxl Bz0 Bz1 Bzl
  rintro e u8 ⟨rfl, hg1⟩
  have k1 := hg1.kp
  replace Bx := (Bx.alloc _).kp k1
  replace By := (By.alloc _).kp k1
  replace Bz := (Bz.alloc _).kp k1
  replace Bl := (Bl.alloc _).kp k1
  have Bb := (C2.new u7 (.int .i64 xn) (.int .i64 xd) 25).kp k1
  replace hg := Lib.hid (GrewS.trans (hg.out.alloc _) hg1)
  clear k1 hg1
  generalize u7.heap.size = bBb at *
  have By0 := By.c0
  have By1 := By.c1
  have Byl := By.lt
  have Bz0 := Bz.c0
  have Bz1 := Bz.c1
  have Bzl := Bz.lt
  go_wp2_with fail
  (with_reducible refine (HQ _).out.mono ?_)
  clear By0 By1 Byl Bz0 Bz1 Bzl
  rintro e u9 ⟨rfl, hg1⟩
  have k1 := hg1.kp
  replace Bx := (Bx.alloc _).kp k1
  replace By := (By.alloc _).kp k1
  replace Bz := (Bz.alloc _).kp k1
  replace Bl := (Bl.alloc _).kp k1
  replace Bb := (Bb.alloc _).kp k1
  have Bp := (C2.new u8 (.int .i64 pn) (.int .i64 pd) 25).kp k1
  replace hg := Lib.hid (GrewS.trans (hg.out.alloc _) hg1)
  clear k1 hg1
  generalize u8.heap.size = bBp at *
  have Bx0 := Bx.c0
  have Bx1 := Bx.c1
  have Bxl := Bx.lt
  have Bz0 := Bz.c0
  have Bz1 := Bz.c1
  have Bzl := Bz.lt
  go_wp2_with fail
  (with_reducible refine (HS _).out.mono ?_)
  clear Bx0 Bx1 Bxl Bz0 Bz1 Bzl
  rintro e u10 ⟨rfl, hg1⟩
  have k1 := hg1.kp
  replace Bx := (Bx.alloc _).kp k1
  replace By := (By.alloc _).kp k1
  replace Bz := (Bz.alloc _).kp k1
  replace Bl := (Bl.alloc _).kp k1
  replace Bb := (Bb.alloc _).kp k1
  replace Bp := (Bp.alloc _).kp k1
  have Bq := (C2.new u9 (.int .i64 qn) (.int .i64 qd) 25).kp k1
  replace hg := Lib.hid (GrewS.trans (hg.out.alloc _) hg1)
  clear k1 hg1
  generalize u9.heap.size = bBq at *
  have By0 := By.c0
  have By1 := By.c1
  have Byl := By.lt
  have Bz0 := Bz.c0
  have Bz1 := Bz.c1
  have Bzl := Bz.lt
  go_wp2_with fail
  (with_reducible refine (HT _).out.mono ?_)
  clear By0 By1 Byl Bz0 Bz1 Bzl
  rintro e u11 ⟨rfl, hg1⟩
  have k1 := hg1.kp
  replace Bx := (Bx.alloc _).kp k1
  replace By := (By.alloc _).kp k1
  replace Bz := (Bz.alloc _).kp k1
  replace Bl := (Bl.alloc _).kp k1
  replace Bb := (Bb.alloc _).kp k1
  replace Bp := (Bp.alloc _).kp k1
  replace Bq := (Bq.alloc _).kp k1
  have Bs := (C2.new u10 (.int .i64 sn) (.int .i64 sd) 25).kp k1
  replace hg := Lib.hid (GrewS.trans (hg.out.alloc _) hg1)
  clear k1 hg1
  generalize u10.heap.size = bBs at *
  have Bp0 := Bp.c0
  have Bp1 := Bp.c1
  have Bpl := Bp.lt
  have Bq0 := Bq.c0
  have Bq1 := Bq.c1
  have Bql := Bq.lt
  go_wp2_with fail
  (with_reducible refine (HI _).out.mono ?_)
  clear Bp0 Bp1 Bpl Bq0 Bq1 Bql
  rintro e u12 ⟨rfl, hg1⟩
  have k1 := hg1.kp
  replace Bx := (Bx.alloc _).kp k1
  replace By := (By.alloc _).kp k1
  replace Bz := (Bz.alloc _).kp k1
  replace Bl := (Bl.alloc _).kp k1
  replace Bb := (Bb.alloc _).kp k1
  replace Bp := (Bp.alloc _).kp k1
  replace Bq := (Bq.alloc _).kp k1
  replace Bs := (Bs.alloc _).kp k1
  have Bt := (C2.new u11 (.int .i64 tn) (.int .i64 td) 25).kp k1
  replace hg := Lib.hid (GrewS.trans (hg.out.alloc _) hg1)
  clear k1 hg1
  generalize u11.heap.size = bBt at *
  have Bs0 := Bs.c0
  have Bs1 := Bs.c1
  have Bsl := Bs.lt
  have Bt0 := Bt.c0
  have Bt1 := Bt.c1
  have Btl := Bt.lt
  go_wp2_with fail
  (with_reducible refine (HK _).out.mono ?_)
  clear Bs0 Bs1 Bsl Bt0 Bt1 Btl
  rintro e u13 ⟨rfl, hg1⟩
  have k1 := hg1.kp
  replace Bx := Bx.kp k1
  replace By := By.kp k1
  replace Bz := Bz.kp k1
  replace Bl := Bl.kp k1
  replace Bb := Bb.kp k1
  replace Bp := Bp.kp k1
  replace Bq := Bq.kp k1
  replace Bs := Bs.kp k1
  replace Bt := Bt.kp k1
  replace hg := Lib.hid (GrewS.trans (hg.out) hg1)
  clear k1 hg1
  have HKF := Lib.hid (HK0.out.trans (hg.out.kp.mono HK0.out.size))
  clear hg Bx By Bz Bl Bb Bp Bq Bs Bt
  go_wp2_with fail
  go_ret
  exact ⟨rfl, HKF.out⟩

theorem sm16 {n d : Int} (n0 : 0 ≤ n) (d0 : 0 ≤ d) : Sm 4096 (ofN (n % 4096) (1 + d % 4096)) (ofD (n % 4096) (1 + d % 4096)) := by
  have h1 := Int.emod_nonneg n (b := 4096) (by decide)
  have h2 := Int.emod_lt_of_pos n (b := 4096) (by decide)
  have h3 := Int.emod_nonneg d (b := 4096) (by decide)
  have h4 := Int.emod_lt_of_pos d (b := 4096) (by decide)
  exact (of_small h1 (by omega) (by omega) (by omega) (by decide)).2.1
theorem sm17 {n d : Int} (n0 : 0 ≤ n) (d0 : 0 ≤ d) : Sm 17 (ofN (1 + n % 16) (1 + d % 16)) (ofD (1 + n % 16) (1 + d % 16)) ∧ 0 < ofN (1 + n % 16) (1 + d % 16) := by
  have h1 := Int.emod_nonneg n (b := 16) (by decide)
  have h2 := Int.emod_lt_of_pos n (b := 16) (by decide)
  have h3 := Int.emod_nonneg d (b := 16) (by decide)
  have h4 := Int.emod_lt_of_pos d (b := 16) (by decide)
  obtain ⟨_, s, e⟩ := of_small (n := 1 + n % 16) (T := 1 + d % 16) (m := 17) (by omega) (by omega) (by omega) (by omega) (by decide)
  refine ⟨s, ?_⟩
  have p := Int.mul_pos (show 0 < 1 + n % 16 by omega) s.d0
  rw [← e] at p
  rcases Int.lt_or_le 0 (ofN (1 + n % 16) (1 + d % 16)) with h | h
  · exact h
  · have h0 := s.n0
    have hz : ofN (1 + n % 16) (1 + d % 16) = 0 := by omega
    rw [hz, Int.zero_mul] at p
    omega
theorem law4 {a0 a1 b0 b1 c0 c1 : Int} {W0 : World} (ha0 : (Lit.int .u16 a0).wf = true) (ha1 : (Lit.int .u16 a1).wf = true) (hb0 : (Lit.int .u16 b0).wf = true) (hb1 : (Lit.int .u16 b1).wf = true) (hc0 : (Lit.int .u8 c0).wf = true) (hc1 : (Lit.int .u8 c1).wf = true) :
    Calls Try.prog 4 #[.agg #[.int .u16 a0, .int .u16 a1], .agg #[.int .u16 b0, .int .u16 b1], .agg #[.int .u8 c0, .int .u8 c1]] W0 fun e w' => e = .returned (.bool true) ∧ Kp W0.heap.size W0 w' := by
  obtain ⟨a0l, a0u⟩ := bounds_u16 ha0
  obtain ⟨a1l, a1u⟩ := bounds_u16 ha1
  obtain ⟨b0l, b0u⟩ := bounds_u16 hb0
  obtain ⟨b1l, b1u⟩ := bounds_u16 hb1
  obtain ⟨c0l, c0u⟩ := bounds_u8 hc0
  obtain ⟨c1l, c1u⟩ := bounds_u8 hc1
  have a0m := Int.emod_nonneg a0 (b := 4096) (by decide)
  have a0M := Int.emod_lt_of_pos a0 (b := 4096) (by decide)
  have a1m := Int.emod_nonneg a1 (b := 4096) (by decide)
  have a1M := Int.emod_lt_of_pos a1 (b := 4096) (by decide)
  have b0m := Int.emod_nonneg b0 (b := 4096) (by decide)
  have b0M := Int.emod_lt_of_pos b0 (b := 4096) (by decide)
  have b1m := Int.emod_nonneg b1 (b := 4096) (by decide)
  have b1M := Int.emod_lt_of_pos b1 (b := 4096) (by decide)
  have c0m := Int.emod_nonneg c0 (b := 16) (by decide)
  have c0M := Int.emod_lt_of_pos c0 (b := 16) (by decide)
  have c1m := Int.emod_nonneg c1 (b := 16) (by decide)
  have c1M := Int.emod_lt_of_pos c1 (b := 16) (by decide)
  have sx := sm16 a0l a1l
  have sy := sm16 b0l b1l
  obtain ⟨sz, hz⟩ := sm17 c0l c1l
  have HSx := fun W => small_any (n := a0 % 4096) (d := a1 % 4096) W a0m (by omega) a1m (by omega)
  have HSy := fun W => small_any (n := b0 % 4096) (d := b1 % 4096) W b0m (by omega) b1m (by omega)
  have HSz := fun W => small_any (n := 1 + c0 % 16) (d := c1 % 16) W (by omega) (by omega) c1m (by omega)
  generalize ofN (a0 % 4096) (1 + a1 % 4096) = xn at *
  generalize ofD (a0 % 4096) (1 + a1 % 4096) = xd at *
  generalize ofN (b0 % 4096) (1 + b1 % 4096) = yn at *
  generalize ofD (b0 % 4096) (1 + b1 % 4096) = yd at *
  generalize ofN (1 + c0 % 16) (1 + c1 % 16) = zn at *
  generalize ofD (1 + c0 % 16) (1 + c1 % 16) = zd at *
  obtain ⟨n, ln, ld, le, pn, pd, qn, qd, sn, sd, tn, td, h, hn⟩ := ord_all sx sy sz hz
  rcases hn with ⟨rfl, rfl, hlt, h1 | ⟨rfl, h1⟩⟩ | ⟨rfl, rfl, rfl, rfl⟩ | ⟨rfl, rfl, hlt, h1 | ⟨rfl, h1⟩⟩
  · exact ord_neg_a a0l a0u a1l a1u b0l b0u b1l b1u c0l c0u c1l c1u sx sy hlt h1 HSx HSy HSz h
  · exact ord_neg_b a0l a0u a1l a1u b0l b0u b1l b1u c0l c0u c1l c1u sx sy hlt h1 HSx HSy HSz h
  · exact ord_zero a0l a0u a1l a1u b0l b0u b1l b1u c0l c0u c1l c1u sx sy HSx HSy HSz h
  · exact ord_pos_a a0l a0u a1l a1u b0l b0u b1l b1u c0l c0u c1l c1u sx sy hlt h1 HSx HSy HSz h
  · exact ord_pos_b a0l a0u a1l a1u b0l b0u b1l b1u c0l c0u c1l c1u sx sy hlt h1 HSx HSy HSz h
end Go.Proofs.Ytjffikiebeneaaa
