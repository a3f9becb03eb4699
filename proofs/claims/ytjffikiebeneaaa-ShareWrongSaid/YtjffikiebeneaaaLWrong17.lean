/-
  The law ShareWrong, walked.
-/
import Derived.Test.YtjffikiebeneaaaAwake17
import Derived.Test.YtjffikiebeneaaaCut4
import Derived.OpenShut
import Derived.Deep.CutRange
import Derived.Deep.CutBlock
namespace Go.Proofs.Ytjffikiebeneaaa
open Go.RowKit

theorem C2.put0 {w : World} {B : Nat} {x y : Value} (h : C2 w B x y) (u : Value) : C2 (w.setCell ⟨B, 0, none⟩ u) B u y :=
  ⟨World.cell?_setCell_same _ _ _ h.c0, (World.cell?_setCell_other _ _ _ _ (by simp)).trans h.c1, by simpa using h.lt⟩
theorem C2.put1 {w : World} {B : Nat} {x y : Value} (h : C2 w B x y) (u : Value) : C2 (w.setCell ⟨B, 1, none⟩ u) B x u :=
  ⟨(World.cell?_setCell_other _ _ _ _ (by simp)).trans h.c0, World.cell?_setCell_same _ _ _ h.c1, by simpa using h.lt⟩
theorem right_low {n d : Int} (h : n < 0 ∨ 2147483648 < n ∨ d < 1 ∨ 2147483648 < d) : rightS n d = false := decide_eq_false (by omega)
theorem right_two {n d : Int} (h : 0 ≤ n) (h1 : 0 < d) : rightS (2 * n) (2 * d) = false := by
  refine decide_eq_false ?_
  rintro ⟨_, _, _, _, hg⟩
  obtain ⟨x, rfl⟩ := Int.eq_ofNat_of_zero_le h
  obtain ⟨y, rfl⟩ := Int.eq_ofNat_of_zero_le (Int.le_of_lt h1)
  unfold gcdV at hg
  have e1 : (2 * (x : Int)).toNat = 2 * x := by omega
  have e2 : (2 * (y : Int)).toNat = 2 * y := by omega
  rw [e1, e2, Nat.gcd_mul_left] at hg
  omega
theorem parts_none (w : World) (A : Option Addr) (cap n : Nat) (zs : List Int) (hn : zs.length = n) (hm : n ≤ 100) (hb : zs.all wOk = false) (hc : IsInts w .i64 A n zs) :
    Calls Try.prog 23 #[.slice A n cap] w fun e w' => ∃ v, e = .returned (.tuple #[v, .int .i64 2]) ∧ Kp w.heap.size w w' := by
  refine (parts_any w A n cap zs hn (by omega) hc).mono ?_
  rintro e w' ⟨v, rfl, _, hk⟩
  exact ⟨v, by rw [(partE_bad (by omega) hb).1], hk⟩
theorem path_none (w : World) (A : Option Addr) (cap n : Nat) (es : List P2) (hn : es.length = n) (hm : n ≤ 100) (hb : es.all levB = false) (hc : IsPrs w A n es) :
    Calls Try.prog 27 #[.slice A n cap] w fun e w' => e = .returned (.tuple #[shr 0 0, .int .i64 2]) ∧ Kp w.heap.size w w' := by
  have h := path_any w A n cap es hn hm hc
  unfold ShPost at h
  have e1 : path3 es = (0, 0, 2) := by unfold path3; rw [hb]; rfl
  rw [e1] at h
  exact h
theorem wOk_not {w : Int} (h : w < 1 ∨ 65536 < w) : wOk w = false := decide_eq_false (by omega)
theorem of_err (n d : Int) (w : World) (n1 : n ≤ 9223372036854775807) (d1 : d ≤ 9223372036854775807) (h : n < 0 ∨ d < 1) :
    Calls Try.prog 25 #[.int .i64 n, .int .i64 d] w fun e w' => e = .returned (.tuple #[shr 0 0, .int .i64 2]) ∧ GrewS w w' := by
  have H := of_any (n := n) (d := d) w n1 d1
  rw [(of_bad h).1, (of_bad h).2.1, (of_bad h).2.2] at H
  exact H

set_option maxRecDepth 100000 in
set_option maxHeartbeats 4000000 in
theorem wrong_a {a0 a1 way n gn gd : Int} {W0 : World} (a0l : 0 ≤ a0) (a0u : a0 ≤ 65535) (a1l : 0 ≤ a1) (a1u : a1 ≤ 65535) (wl : 0 ≤ way) (wu : way ≤ 255) (nl : -9223372036854775808 ≤ n) (nu : n ≤ 9223372036854775807) (hn : n ≤ -1)
    (hs : Sm 65536 gn gd) (HSx' : ∀ W, Calls Try.prog 13 #[.int .u16 a0, .int .u16 a1] W fun e w' => e = .returned (.tuple #[shr gn gd, .bool true]) ∧ GrewS W w') :
    Calls Try.prog 10 #[.agg #[.int .u16 a0, .int .u16 a1], .int .u8 way, .int .i64 n] W0 fun e w' => e = .returned (.bool true) ∧ Kp W0.heap.size W0 w' := by
  have HSx := fun w => Lib.hid (HSx' w)
  have HAw := fun w => Lib.hid (awake_any w)
  have g0 := hs.n0
  have g1 := hs.n1
  have g2 := hs.d0
  have g3 := hs.d1
  have HR := Lib.hid hs.r
  have HS0 := Lib.hid hs
  have w1 := wrap_in (x := 2 * gn) (by omega) (by omega)
  have w2 := wrap_in (x := 2 * gd) (by omega) (by omega)
  have hq : way % 6 = 0 ∨ way % 6 = 1 ∨ way % 6 = 2 ∨ way % 6 = 3 ∨ way % 6 = 4 ∨ way % 6 = 5 := by omega
  have r1 : Int.tmod way 6 = way % 6 := Int.tmod_eq_emod_of_nonneg wl
  have HQ := Lib.hid hq
  clear hs HSx' hq
  go_enter Try.func10, Try.ntmps10
  go_wp2_with fail
  (with_reducible refine (HAw _).out.mono ?_)
  have ka : Kp W0.heap.size W0 (W0.alloc (.cells #[.int .u16 a0, .int .u16 a1] 34)) := ((GrewS.refl W0).alloc _).kp
  have A := C2.new W0 (.int .u16 a0) (.int .u16 a1) 34
  rintro e u0 ⟨rfl, hk⟩
  have HK := Lib.hid (ka.trans (hk.mono ka.size))
  replace A := A.kp hk
  clear ka hk HAw
  have A0 := A.c0
  have A1 := A.c1
  go_wp2_with fail
  (with_reducible refine (HSx _).out.mono ?_)
  rintro e u1 ⟨rfl, hg⟩
  replace HK := Lib.hid (HK.out.trans (hg.kp.mono HK.out.size))
  clear A A0 A1 hg HSx
  go_upto_block 0 with fail
  have hsz := HK.out.size
  have G := (C2.new u1 (.int .i64 gn) (.int .i64 gd) 25).alloc (.cells #[.int .i64 gn, .int .i64 gd] 25)
  have B := C2.new (u1.alloc (.cells #[.int .i64 gn, .int .i64 gd] 25)) (.int .i64 gn) (.int .i64 gd) 25
  have FB := Fz.new (u1.alloc (.cells #[.int .i64 gn, .int .i64 gd] 25)) #[.int .i64 gn, .int .i64 gd] 25
  rw [show (u1.alloc (.cells #[.int .i64 gn, .int .i64 gd] 25)).heap.size = u1.heap.size + 1 by simp] at B FB
  replace HK := Lib.hid ((HK.out.alloc hsz (.cells #[.int .i64 gn, .int .i64 gd] 25)).alloc (by simp; omega) (.cells #[.int .i64 gn, .int .i64 gd] 25))
  generalize (u1.alloc (.cells #[.int .i64 gn, .int .i64 gd] 25)).alloc (.cells #[.int .i64 gn, .int .i64 gd] 25) = u2 at *
  have hne : u1.heap.size ≠ u1.heap.size + 1 := by omega
  generalize hbB : u1.heap.size + 1 = bB at *
  have hbl : W0.heap.size ≤ bB := by omega
  generalize u1.heap.size = bG at *
  clear hsz hbB
  go_cut [8] from 57 to 91 (fun p w' => p = .bool true ∧ ∃ bn bd : Int, rightS bn bd = false ∧ C2 w' bG (.int .i64 gn) (.int .i64 gd) ∧ C2 w' bB (.int .i64 bn) (.int .i64 bd) ∧ Kp W0.heap.size W0 w')
  case first =>
    have B0 := B.c0
    have B1 := B.c1
    have Bl := B.lt
    have FB2 := FB.2
    have G0 := G.c0
    have G1 := G.c1
    rcases HQ.out with hq | hq | hq | hq | hq | hq
    · go_wp2_with fail
      go_meet
      case rel => exact ⟨rfl, gn, n, right_low (by omega), (G.far (p := ⟨bB, 1, none⟩) hne.symm _), (B.put1 _), HK.out.setCell (p := ⟨bB, 1, none⟩) hbl _⟩
    · go_wp2_with fail
      go_meet
      case rel => exact ⟨rfl, n, gd, right_low (by omega), (G.far (p := ⟨bB, 0, none⟩) hne.symm _), (B.put0 _), HK.out.setCell (p := ⟨bB, 0, none⟩) hbl _⟩
    · go_wp2_with fail
      go_meet
      case rel => exact ⟨rfl, 2147483649, 1, right_low (by omega), (G.far2 hne.symm _ _), (B.set _ _), (HK.out.setCell (p := ⟨bB, 0, none⟩) hbl _).setCell (p := ⟨bB, 1, none⟩) hbl _⟩
    · go_wp2_with fail
      go_meet
      case rel => exact ⟨rfl, 1, 2147483649, right_low (by omega), ((G.far (p := ⟨bB, 1, none⟩) hne.symm _).far (p := ⟨bB, 0, none⟩) hne.symm _), ((B.put1 _).put0 _), (HK.out.setCell (p := ⟨bB, 1, none⟩) hbl _).setCell (p := ⟨bB, 0, none⟩) hbl _⟩
    · go_wp2_with fail
      go_region
      go_wp2_with fail
      go_meet
      case rel => exact ⟨rfl, (2 * gn), (2 * gd), right_two HS0.out.n0 HS0.out.d0, ((G.far2 hne.symm _ _)).drew, ((B.set _ _)).drew, ((HK.out.setCell (p := ⟨bB, 0, none⟩) hbl _).setCell (p := ⟨bB, 1, none⟩) hbl _).drew⟩
    · go_wp2_with fail
      go_meet
      case rel => exact ⟨rfl, 0, 2, by kernel_rfl, (G.far2 hne.symm _ _), (B.set _ _), (HK.out.setCell (p := ⟨bB, 0, none⟩) hbl _).setCell (p := ⟨bB, 1, none⟩) hbl _⟩
  case rest =>
  clear G B FB HK hne hbl HQ
  obtain ⟨rfl, bn, bd, hbad, G, B, hk0⟩ := hcut
  have HK := Lib.hid hk0
  clear hk0
  have k1 := okS_f1 (c := gn) (d := gd) hbad
  have k2 := okS_f2 (a := gn) (b := gd) hbad
  have p1 := pl_bad k1
  have p2 := le_bad k2
  have p3 := tm_bad k2
  have p4 := ov_bad k1
  have p5 := cm_bad k2
  have p6 := sc_bad (n := 1) (Or.inl hbad : rightS bn bd = false ∨ (1 : Int) < 0 ∨ 2147483648 < (1 : Int))
  have p7 : sum3 [(gn, gd), (gn, gd), (bn, bd)] = (0, 0, 2) := by unfold sum3 rights; simp [HR.out, hbad]
  have p8 := sc_bad (a := gn) (b := gd) (n := 2147483649) (Or.inr (by omega))
  have p9 : ovN gn gd 0 1 = 0 ∧ ovD gn gd 0 1 = 0 ∧ ovE gn gd 0 1 = 6 := by
    unfold ovN ovD ovE
    rw [okS_t HR.out (by kernel_rfl)]
    exact ⟨rfl, rfl, rfl⟩
  have H1 := fun w => Lib.hid (show Calls Try.prog 15 #[shr bn bd, shr gn gd] w fun e w' => e = .returned (.tuple #[shr 0 0, .int .i64 2]) ∧ GrewS w w' from by have h := plus_any bn bd gn gd w; rw [p1.1, p1.2.1, p1.2.2] at h; exact h)
  have H2 := fun w => Lib.hid (show Calls Try.prog 17 #[shr gn gd, shr bn bd] w fun e w' => e = .returned (.tuple #[shr 0 0, .int .i64 2]) ∧ GrewS w w' from by have h := less_any gn gd bn bd w; rw [p2.1, p2.2.1, p2.2.2] at h; exact h)
  have H3 := fun w => Lib.hid (show Calls Try.prog 16 #[shr gn gd, shr bn bd] w fun e w' => e = .returned (.tuple #[shr 0 0, .int .i64 2]) ∧ GrewS w w' from by have h := times_any gn gd bn bd w; rw [p3.1, p3.2.1, p3.2.2] at h; exact h)
  have H4 := fun w => Lib.hid (show Calls Try.prog 18 #[shr bn bd, shr gn gd] w fun e w' => e = .returned (.tuple #[shr 0 0, .int .i64 2]) ∧ GrewS w w' from by have h := over_any bn bd gn gd w; rw [p4.1, p4.2.1, p4.2.2] at h; exact h)
  have H5 := fun w => Lib.hid (show Calls Try.prog 19 #[shr gn gd, shr bn bd] w fun e w' => e = .returned (.tuple #[.int .i64 0, .int .i64 2]) ∧ GrewS w w' from by have h := cmp_any gn gd bn bd w; rw [p5.1, p5.2] at h; exact h)
  have H6 := fun w A (hc : IsPrs w A 3 [(gn, gd), (gn, gd), (bn, bd)]) => Lib.hid (show Calls Try.prog 24 #[.slice A 3 3] w fun e w' => e = .returned (.tuple #[shr 0 0, .int .i64 2]) ∧ GrewS w w' from by have h := sum_any w A 3 3 [(gn, gd), (gn, gd), (bn, bd)] rfl (by decide) hc; rw [p7] at h; exact h)
  have H7 := fun w => Lib.hid (show Calls Try.prog 26 #[shr bn bd, .int .i64 1] w fun e w' => e = .returned (.tuple #[.int .i64 0, shr 0 0, .int .i64 2]) ∧ GrewS w w' from by have h := scale_any bn bd 1 w; rw [p6.1, p6.2.1, p6.2.2.1, p6.2.2.2] at h; exact h)
  have H8 := fun w => Lib.hid (of_err n 1 w (by omega) (by omega) (by omega))
  have H9 := fun w => Lib.hid (of_err 1 n w (by omega) (by omega) (by omega))
  have q1 : [5, n].all wOk = false := by simp [wOk_not (w := n) (by omega)]
  have q2 : [65537].all wOk = false := by simp [wOk_not (w := 65537) (by omega)]
  have q3 : [((n : Int), (2 : Int))].all levB = false := by
    have h : levB (n, 2) = false := decide_eq_false (by dsimp only; omega)
    simp [h]
  have H10 := fun w A (hc : IsInts w .i64 A 2 [5, n]) => Lib.hid (parts_none w A 2 2 [5, n] rfl (by decide) q1 hc)
  have H11 := fun w A (hc : IsInts w .i64 A 1 [65537]) => Lib.hid (parts_none w A 1 1 [65537] rfl (by decide) q2 hc)
  have H12 := fun w A (hc : IsPrs w A 2 [(1, 2), (3, 2)]) => Lib.hid (path_none w A 2 2 [(1, 2), (3, 2)] rfl (by decide) (by kernel_rfl) hc)
  have H13 := fun w A (hc : IsPrs w A 1 [(n, 2)]) => Lib.hid (path_none w A 1 1 [(n, 2)] rfl (by decide) q3 hc)
  have H14 := fun w => Lib.hid (show Calls Try.prog 26 #[shr gn gd, .int .i64 2147483649] w fun e w' => e = .returned (.tuple #[.int .i64 0, shr 0 0, .int .i64 2]) ∧ GrewS w w' from by have h := scale_any gn gd 2147483649 w; rw [p8.1, p8.2.1, p8.2.2.1, p8.2.2.2] at h; exact h)
  have H15 := fun w => Lib.hid (show Calls Try.prog 18 #[shr gn gd, shr 0 1] w fun e w' => e = .returned (.tuple #[shr 0 0, .int .i64 6]) ∧ GrewS w w' from by have h := over_any gn gd 0 1 w; rw [p9.1, p9.2.1, p9.2.2] at h; exact h)
  have H16 := fun w => Lib.hid (right_t w HR.out)
  have H17 := fun w => Lib.hid (right_f w hbad)
  clear hbad k1 k2 p1 p2 p3 p4 p5 p6 p7 p8 p9 q1 q2 q3 HR
  have G0 := G.c0
  have G1 := G.c1
  have Gl := G.lt
  have B0 := B.c0
  have B1 := B.c1
  have Bl := B.lt
  go_wp2_with fail
  (with_reducible refine (H1 _).out.mono ?_)
  clear G0 G1 Gl B0 B1 Bl
  rintro e v2 ⟨rfl, hg1⟩
  have k1 := hg1.kp
  replace G := (G).kp k1
  replace B := (B).kp k1
  replace HK := Lib.hid (HK.out.trans (k1.mono HK.out.size))
  clear k1 hg1 H1
  have G0 := G.c0
  have G1 := G.c1
  have Gl := G.lt
  have B0 := B.c0
  have B1 := B.c1
  have Bl := B.lt
  go_wp2_with fail
  (with_reducible refine (H2 _).out.mono ?_)
  clear G0 G1 Gl B0 B1 Bl
  rintro e v3 ⟨rfl, hg1⟩
  have k1 := hg1.kp
  replace G := ((G.alloc _)).kp k1
  replace B := ((B.alloc _)).kp k1
  have hs0 := HK.out.size
  replace HK := Lib.hid ((HK.out.alloc hs0 _).trans (k1.mono (by simp; omega)))
  clear hs0
  clear k1 hg1 H2
  have G0 := G.c0
  have G1 := G.c1
  have Gl := G.lt
  have B0 := B.c0
  have B1 := B.c1
  have Bl := B.lt
  go_wp2_with fail
  (with_reducible refine (H3 _).out.mono ?_)
  clear G0 G1 Gl B0 B1 Bl
  rintro e v4 ⟨rfl, hg1⟩
  have k1 := hg1.kp
  replace G := ((G.alloc _)).kp k1
  replace B := ((B.alloc _)).kp k1
  have hs0 := HK.out.size
  replace HK := Lib.hid ((HK.out.alloc hs0 _).trans (k1.mono (by simp; omega)))
  clear hs0
  clear k1 hg1 H3
  have G0 := G.c0
  have G1 := G.c1
  have Gl := G.lt
  have B0 := B.c0
  have B1 := B.c1
  have Bl := B.lt
  go_wp2_with fail
  (with_reducible refine (H4 _).out.mono ?_)
  clear G0 G1 Gl B0 B1 Bl
  rintro e v5 ⟨rfl, hg1⟩
  have k1 := hg1.kp
  replace G := ((G.alloc _)).kp k1
  replace B := ((B.alloc _)).kp k1
  have hs0 := HK.out.size
  replace HK := Lib.hid ((HK.out.alloc hs0 _).trans (k1.mono (by simp; omega)))
  clear hs0
  clear k1 hg1 H4
  have G0 := G.c0
  have G1 := G.c1
  have Gl := G.lt
  have B0 := B.c0
  have B1 := B.c1
  have Bl := B.lt
  go_wp2_with fail
  (with_reducible refine (H5 _).out.mono ?_)
  clear G0 G1 Gl B0 B1 Bl
  rintro e v6 ⟨rfl, hg1⟩
  have k1 := hg1.kp
  replace G := ((G.alloc _)).kp k1
  replace B := ((B.alloc _)).kp k1
  have hs0 := HK.out.size
  replace HK := Lib.hid ((HK.out.alloc hs0 _).trans (k1.mono (by simp; omega)))
  clear hs0
  clear k1 hg1 H5
  have G0 := G.c0
  have G1 := G.c1
  have Gl := G.lt
  have B0 := B.c0
  have B1 := B.c1
  have Bl := B.lt
  go_wp2_with fail
  have P := prs_new v6 [(gn, gd), (gn, gd), (bn, bd)] 25
  (with_reducible refine (H6 _ _ P).out.mono ?_)
  clear P
  clear G0 G1 Gl B0 B1 Bl
  rintro e v7 ⟨rfl, hg1⟩
  have k1 := hg1.kp
  replace G := ((G.alloc _)).kp k1
  replace B := ((B.alloc _)).kp k1
  have hs0 := HK.out.size
  replace HK := Lib.hid ((HK.out.alloc hs0 _).trans (k1.mono (by simp; omega)))
  clear hs0
  clear k1 hg1 H6
  have G0 := G.c0
  have G1 := G.c1
  have Gl := G.lt
  have B0 := B.c0
  have B1 := B.c1
  have Bl := B.lt
  go_wp2_with fail
  (with_reducible refine (H7 _).out.mono ?_)
  clear G0 G1 Gl B0 B1 Bl
  rintro e v8 ⟨rfl, hg1⟩
  have k1 := hg1.kp
  replace G := ((G.alloc _)).kp k1
  replace B := ((B.alloc _)).kp k1
  have hs0 := HK.out.size
  replace HK := Lib.hid ((HK.out.alloc hs0 _).trans (k1.mono (by simp; omega)))
  clear hs0
  clear k1 hg1 H7
  go_wp2_with fail
  (with_reducible refine (H8 _).out.mono ?_)
  rintro e v9 ⟨rfl, hg1⟩
  have k1 := hg1.kp
  replace G := ((G.alloc _)).kp k1
  replace B := ((B.alloc _)).kp k1
  have hs0 := HK.out.size
  replace HK := Lib.hid ((HK.out.alloc hs0 _).trans (k1.mono (by simp; omega)))
  clear hs0
  clear k1 hg1 H8
  go_wp2_with fail
  (with_reducible refine (H9 _).out.mono ?_)
  rintro e v10 ⟨rfl, hg1⟩
  have k1 := hg1.kp
  replace G := ((G.alloc _)).kp k1
  replace B := ((B.alloc _)).kp k1
  have hs0 := HK.out.size
  replace HK := Lib.hid ((HK.out.alloc hs0 _).trans (k1.mono (by simp; omega)))
  clear hs0
  clear k1 hg1 H9
  go_wp2_with fail
  have P := ints_new (v10.alloc (.cells #[.int .i64 0, .int .i64 0] 25)) [5, n] 3
  rw [show (World.alloc v10 _).heap.size = v10.heap.size + 1 by simp] at P
  (with_reducible refine (H10 _ _ P).out.mono ?_)
  clear P
  rintro e v11 ⟨pv1, rfl, hg1⟩
  have k1 := hg1
  replace G := (((G.alloc _).alloc _)).kp k1
  replace B := (((B.alloc _).alloc _)).kp k1
  have hs0 := HK.out.size
  replace HK := Lib.hid (((HK.out.alloc hs0 _).alloc (by simp; omega) _).trans (k1.mono (by simp; omega)))
  clear hs0
  clear k1 hg1 H10
  go_wp2_with fail
  have P := ints_new v11 [65537] 3
  (with_reducible refine (H11 _ _ P).out.mono ?_)
  clear P
  rintro e v12 ⟨pv2, rfl, hg1⟩
  have k1 := hg1
  replace G := ((G.alloc _)).kp k1
  replace B := ((B.alloc _)).kp k1
  have hs0 := HK.out.size
  replace HK := Lib.hid ((HK.out.alloc hs0 _).trans (k1.mono (by simp; omega)))
  clear hs0
  clear k1 hg1 H11
  go_wp2_with fail
  have P := prs_new v12 [(1, 2), (3, 2)] 55
  (with_reducible refine (H12 _ _ P).out.mono ?_)
  clear P
  rintro e v13 ⟨rfl, hg1⟩
  have k1 := hg1
  replace G := ((G.alloc _)).kp k1
  replace B := ((B.alloc _)).kp k1
  have hs0 := HK.out.size
  replace HK := Lib.hid ((HK.out.alloc hs0 _).trans (k1.mono (by simp; omega)))
  clear hs0
  clear k1 hg1 H12
  go_wp2_with fail
  have P := prs_new (v13.alloc (.cells #[.int .i64 0, .int .i64 0] 25)) [(n, 2)] 55
  rw [show (World.alloc v13 _).heap.size = v13.heap.size + 1 by simp] at P
  (with_reducible refine (H13 _ _ P).out.mono ?_)
  clear P
  rintro e v14 ⟨rfl, hg1⟩
  have k1 := hg1
  replace G := (((G.alloc _).alloc _)).kp k1
  replace B := (((B.alloc _).alloc _)).kp k1
  have hs0 := HK.out.size
  replace HK := Lib.hid (((HK.out.alloc hs0 _).alloc (by simp; omega) _).trans (k1.mono (by simp; omega)))
  clear hs0
  clear k1 hg1 H13
  have G0 := G.c0
  have G1 := G.c1
  have Gl := G.lt
  go_wp2_with fail
  (with_reducible refine (H14 _).out.mono ?_)
  clear G0 G1 Gl
  rintro e v15 ⟨rfl, hg1⟩
  have k1 := hg1.kp
  replace G := ((G.alloc _)).kp k1
  replace B := ((B.alloc _)).kp k1
  have hs0 := HK.out.size
  replace HK := Lib.hid ((HK.out.alloc hs0 _).trans (k1.mono (by simp; omega)))
  clear hs0
  clear k1 hg1 H14
  go_wp2_with fail
  have hs0 := HK.out.size
  replace G := (G.alloc (.cells #[.int .i64 0, .int .i64 0] 25)).alloc (.cells #[.int .i64 2, .int .i64 2, .int .i64 2, .int .i64 2, .int .i64 2, .int .i64 2, .int .i64 2, .int .i64 2, .int .i64 2, .int .i64 2, .int .i64 2, .int .i64 2, .int .i64 2, .int .i64 2] 29)
  replace B := (B.alloc (.cells #[.int .i64 0, .int .i64 0] 25)).alloc (.cells #[.int .i64 2, .int .i64 2, .int .i64 2, .int .i64 2, .int .i64 2, .int .i64 2, .int .i64 2, .int .i64 2, .int .i64 2, .int .i64 2, .int .i64 2, .int .i64 2, .int .i64 2, .int .i64 2] 29)
  replace HK := Lib.hid ((HK.out.alloc hs0 (.cells #[.int .i64 0, .int .i64 0] 25)).alloc (by simp; omega) (.cells #[.int .i64 2, .int .i64 2, .int .i64 2, .int .i64 2, .int .i64 2, .int .i64 2, .int .i64 2, .int .i64 2, .int .i64 2, .int .i64 2, .int .i64 2, .int .i64 2, .int .i64 2, .int .i64 2] 29))
  have L : ∀ j : Nat, j < 14 → ((v15.alloc (.cells #[.int .i64 0, .int .i64 0] 25)).alloc (.cells #[.int .i64 2, .int .i64 2, .int .i64 2, .int .i64 2, .int .i64 2, .int .i64 2, .int .i64 2, .int .i64 2, .int .i64 2, .int .i64 2, .int .i64 2, .int .i64 2, .int .i64 2, .int .i64 2] 29)).cell? ⟨v15.heap.size + 1, j, none⟩ = some (.int .i64 2) := by
    intro j hj
    have h : j = 0 ∨ j = 1 ∨ j = 2 ∨ j = 3 ∨ j = 4 ∨ j = 5 ∨ j = 6 ∨ j = 7 ∨ j = 8 ∨ j = 9 ∨ j = 10 ∨ j = 11 ∨ j = 12 ∨ j = 13 := by omega
    rcases h with rfl | rfl | rfl | rfl | rfl | rfl | rfl | rfl | rfl | rfl | rfl | rfl | rfl | rfl <;> simp
  have HL := Lib.hid L
  clear L hs0
  generalize (v15.alloc (.cells #[.int .i64 0, .int .i64 0] 25)).alloc (.cells #[.int .i64 2, .int .i64 2, .int .i64 2, .int .i64 2, .int .i64 2, .int .i64 2, .int .i64 2, .int .i64 2, .int .i64 2, .int .i64 2, .int .i64 2, .int .i64 2, .int .i64 2, .int .i64 2] 29) = x0 at *
  generalize v15.heap.size = bL at *
  go_loopw [199] (fun i wr => ∃ k : Nat, k ≤ 14 ∧ i = .int .i64 k ∧ x0 = wr) (fun i _ => 14 - (intOf i).toNat)
  case atStart => exact ⟨0, Nat.zero_le _, rfl, by first | rfl | trivial⟩
  case round =>
    obtain ⟨k, hk, rfl, rfl⟩ := hrel
    by_cases hlt : k < 14
    · have L0 := HL.out k hlt
      have hki : (k : Int) < 14 := by omega
      go_wp2_with fail
      go_roundw
      case rel => exact ⟨k + 1, by omega, by go_num, by first | rfl | trivial⟩
      case measure => simp [intOf]; omega
    · have hke : k = 14 := by omega
      subst hke
      clear HL hlt hk
      have G0 := G.c0
      have G1 := G.c1
      have Gl := G.lt
      go_wp2_with fail
      (with_reducible refine (H15 _).out.mono ?_)
      clear G0 G1 Gl
      rintro e v16 ⟨rfl, hg1⟩
      have k1 := hg1.kp
      replace G := (G).kp k1
      replace B := (B).kp k1
      replace HK := Lib.hid (HK.out.trans (k1.mono HK.out.size))
      clear k1 hg1 H15
      have G0 := G.c0
      have G1 := G.c1
      have Gl := G.lt
      have B0 := B.c0
      have B1 := B.c1
      have Bl := B.lt
      go_wp2_with fail
      have Z := C2.new v16 (.int .i64 0) (.int .i64 0) 25
      (with_reducible refine (H16 _).out.mono ?_)
      clear G0 G1 Gl B0 B1 Bl
      rintro e v17 ⟨rfl, hg1⟩
      have k1 := hg1.kp
      replace G := ((G.alloc _)).kp k1
      replace B := ((B.alloc _)).kp k1
      replace Z := Z.kp k1
      have hs0 := HK.out.size
      replace HK := Lib.hid ((HK.out.alloc hs0 _).trans (k1.mono (by simp; omega)))
      clear hs0
      clear k1 hg1 H16
      have B0 := B.c0
      have B1 := B.c1
      go_wp2_with fail
      (with_reducible refine (H17 _).out.mono ?_)
      rintro e y0 ⟨rfl, hg1⟩
      replace Z := Z.kp hg1.kp
      have HKF := Lib.hid (HK.out.trans (hg1.kp.mono HK.out.size))
      have Z0 := Z.c0
      have Z1 := Z.c1
      clear hg1 HK G B B0 B1 Z
      go_wp2_with fail
      go_ret
      exact ⟨rfl, HKF.out⟩

set_option maxRecDepth 100000 in
set_option maxHeartbeats 4000000 in
theorem wrong_b {a0 a1 way gn gd : Int} {W0 : World} (a0l : 0 ≤ a0) (a0u : a0 ≤ 65535) (a1l : 0 ≤ a1) (a1u : a1 ≤ 65535) (wl : 0 ≤ way) (wu : way ≤ 255)  
    (hs : Sm 65536 gn gd) (HSx' : ∀ W, Calls Try.prog 13 #[.int .u16 a0, .int .u16 a1] W fun e w' => e = .returned (.tuple #[shr gn gd, .bool true]) ∧ GrewS W w') :
    Calls Try.prog 10 #[.agg #[.int .u16 a0, .int .u16 a1], .int .u8 way, .int .i64 0] W0 fun e w' => e = .returned (.bool true) ∧ Kp W0.heap.size W0 w' := by
  have HSx := fun w => Lib.hid (HSx' w)
  have HAw := fun w => Lib.hid (awake_any w)
  have g0 := hs.n0
  have g1 := hs.n1
  have g2 := hs.d0
  have g3 := hs.d1
  have HR := Lib.hid hs.r
  have HS0 := Lib.hid hs
  have w1 := wrap_in (x := 2 * gn) (by omega) (by omega)
  have w2 := wrap_in (x := 2 * gd) (by omega) (by omega)
  have hq : way % 6 = 0 ∨ way % 6 = 1 ∨ way % 6 = 2 ∨ way % 6 = 3 ∨ way % 6 = 4 ∨ way % 6 = 5 := by omega
  have r1 : Int.tmod way 6 = way % 6 := Int.tmod_eq_emod_of_nonneg wl
  have HQ := Lib.hid hq
  clear hs HSx' hq
  go_enter Try.func10, Try.ntmps10
  go_wp2_with fail
  (with_reducible refine (HAw _).out.mono ?_)
  have ka : Kp W0.heap.size W0 (W0.alloc (.cells #[.int .u16 a0, .int .u16 a1] 34)) := ((GrewS.refl W0).alloc _).kp
  have A := C2.new W0 (.int .u16 a0) (.int .u16 a1) 34
  rintro e u0 ⟨rfl, hk⟩
  have HK := Lib.hid (ka.trans (hk.mono ka.size))
  replace A := A.kp hk
  clear ka hk HAw
  have A0 := A.c0
  have A1 := A.c1
  go_wp2_with fail
  (with_reducible refine (HSx _).out.mono ?_)
  rintro e u1 ⟨rfl, hg⟩
  replace HK := Lib.hid (HK.out.trans (hg.kp.mono HK.out.size))
  clear A A0 A1 hg HSx
  go_upto_block 0 with fail
  have hsz := HK.out.size
  have G := (C2.new u1 (.int .i64 gn) (.int .i64 gd) 25).alloc (.cells #[.int .i64 gn, .int .i64 gd] 25)
  have B := C2.new (u1.alloc (.cells #[.int .i64 gn, .int .i64 gd] 25)) (.int .i64 gn) (.int .i64 gd) 25
  have FB := Fz.new (u1.alloc (.cells #[.int .i64 gn, .int .i64 gd] 25)) #[.int .i64 gn, .int .i64 gd] 25
  rw [show (u1.alloc (.cells #[.int .i64 gn, .int .i64 gd] 25)).heap.size = u1.heap.size + 1 by simp] at B FB
  replace HK := Lib.hid ((HK.out.alloc hsz (.cells #[.int .i64 gn, .int .i64 gd] 25)).alloc (by simp; omega) (.cells #[.int .i64 gn, .int .i64 gd] 25))
  generalize (u1.alloc (.cells #[.int .i64 gn, .int .i64 gd] 25)).alloc (.cells #[.int .i64 gn, .int .i64 gd] 25) = u2 at *
  have hne : u1.heap.size ≠ u1.heap.size + 1 := by omega
  generalize hbB : u1.heap.size + 1 = bB at *
  have hbl : W0.heap.size ≤ bB := by omega
  generalize u1.heap.size = bG at *
  clear hsz hbB
  go_cut [8] from 57 to 91 (fun p w' => p = .bool true ∧ ∃ bn bd : Int, rightS bn bd = false ∧ C2 w' bG (.int .i64 gn) (.int .i64 gd) ∧ C2 w' bB (.int .i64 bn) (.int .i64 bd) ∧ Kp W0.heap.size W0 w')
  case first =>
    have B0 := B.c0
    have B1 := B.c1
    have Bl := B.lt
    have FB2 := FB.2
    have G0 := G.c0
    have G1 := G.c1
    rcases HQ.out with hq | hq | hq | hq | hq | hq
    · go_wp2_with fail
      go_meet
      case rel => exact ⟨rfl, gn, 0, right_low (by omega), (G.far (p := ⟨bB, 1, none⟩) hne.symm _), (B.put1 _), HK.out.setCell (p := ⟨bB, 1, none⟩) hbl _⟩
    · go_wp2_with fail
      go_meet
      case rel => exact ⟨rfl, (-1), gd, right_low (by omega), (G.far (p := ⟨bB, 0, none⟩) hne.symm _), (B.put0 _), HK.out.setCell (p := ⟨bB, 0, none⟩) hbl _⟩
    · go_wp2_with fail
      go_meet
      case rel => exact ⟨rfl, 2147483649, 1, right_low (by omega), (G.far2 hne.symm _ _), (B.set _ _), (HK.out.setCell (p := ⟨bB, 0, none⟩) hbl _).setCell (p := ⟨bB, 1, none⟩) hbl _⟩
    · go_wp2_with fail
      go_meet
      case rel => exact ⟨rfl, 1, 2147483649, right_low (by omega), ((G.far (p := ⟨bB, 1, none⟩) hne.symm _).far (p := ⟨bB, 0, none⟩) hne.symm _), ((B.put1 _).put0 _), (HK.out.setCell (p := ⟨bB, 1, none⟩) hbl _).setCell (p := ⟨bB, 0, none⟩) hbl _⟩
    · go_wp2_with fail
      go_region
      go_wp2_with fail
      go_meet
      case rel => exact ⟨rfl, (2 * gn), (2 * gd), right_two HS0.out.n0 HS0.out.d0, ((G.far2 hne.symm _ _)).drew, ((B.set _ _)).drew, ((HK.out.setCell (p := ⟨bB, 0, none⟩) hbl _).setCell (p := ⟨bB, 1, none⟩) hbl _).drew⟩
    · go_wp2_with fail
      go_meet
      case rel => exact ⟨rfl, 0, 2, by kernel_rfl, (G.far2 hne.symm _ _), (B.set _ _), (HK.out.setCell (p := ⟨bB, 0, none⟩) hbl _).setCell (p := ⟨bB, 1, none⟩) hbl _⟩
  case rest =>
  clear G B FB HK hne hbl HQ
  obtain ⟨rfl, bn, bd, hbad, G, B, hk0⟩ := hcut
  have HK := Lib.hid hk0
  clear hk0
  have k1 := okS_f1 (c := gn) (d := gd) hbad
  have k2 := okS_f2 (a := gn) (b := gd) hbad
  have p1 := pl_bad k1
  have p2 := le_bad k2
  have p3 := tm_bad k2
  have p4 := ov_bad k1
  have p5 := cm_bad k2
  have p6 := sc_bad (n := 1) (Or.inl hbad : rightS bn bd = false ∨ (1 : Int) < 0 ∨ 2147483648 < (1 : Int))
  have p7 : sum3 [(gn, gd), (gn, gd), (bn, bd)] = (0, 0, 2) := by unfold sum3 rights; simp [HR.out, hbad]
  have p8 := sc_bad (a := gn) (b := gd) (n := 2147483649) (Or.inr (by omega))
  have p9 : ovN gn gd 0 1 = 0 ∧ ovD gn gd 0 1 = 0 ∧ ovE gn gd 0 1 = 6 := by
    unfold ovN ovD ovE
    rw [okS_t HR.out (by kernel_rfl)]
    exact ⟨rfl, rfl, rfl⟩
  have H1 := fun w => Lib.hid (show Calls Try.prog 15 #[shr bn bd, shr gn gd] w fun e w' => e = .returned (.tuple #[shr 0 0, .int .i64 2]) ∧ GrewS w w' from by have h := plus_any bn bd gn gd w; rw [p1.1, p1.2.1, p1.2.2] at h; exact h)
  have H2 := fun w => Lib.hid (show Calls Try.prog 17 #[shr gn gd, shr bn bd] w fun e w' => e = .returned (.tuple #[shr 0 0, .int .i64 2]) ∧ GrewS w w' from by have h := less_any gn gd bn bd w; rw [p2.1, p2.2.1, p2.2.2] at h; exact h)
  have H3 := fun w => Lib.hid (show Calls Try.prog 16 #[shr gn gd, shr bn bd] w fun e w' => e = .returned (.tuple #[shr 0 0, .int .i64 2]) ∧ GrewS w w' from by have h := times_any gn gd bn bd w; rw [p3.1, p3.2.1, p3.2.2] at h; exact h)
  have H4 := fun w => Lib.hid (show Calls Try.prog 18 #[shr bn bd, shr gn gd] w fun e w' => e = .returned (.tuple #[shr 0 0, .int .i64 2]) ∧ GrewS w w' from by have h := over_any bn bd gn gd w; rw [p4.1, p4.2.1, p4.2.2] at h; exact h)
  have H5 := fun w => Lib.hid (show Calls Try.prog 19 #[shr gn gd, shr bn bd] w fun e w' => e = .returned (.tuple #[.int .i64 0, .int .i64 2]) ∧ GrewS w w' from by have h := cmp_any gn gd bn bd w; rw [p5.1, p5.2] at h; exact h)
  have H6 := fun w A (hc : IsPrs w A 3 [(gn, gd), (gn, gd), (bn, bd)]) => Lib.hid (show Calls Try.prog 24 #[.slice A 3 3] w fun e w' => e = .returned (.tuple #[shr 0 0, .int .i64 2]) ∧ GrewS w w' from by have h := sum_any w A 3 3 [(gn, gd), (gn, gd), (bn, bd)] rfl (by decide) hc; rw [p7] at h; exact h)
  have H7 := fun w => Lib.hid (show Calls Try.prog 26 #[shr bn bd, .int .i64 1] w fun e w' => e = .returned (.tuple #[.int .i64 0, shr 0 0, .int .i64 2]) ∧ GrewS w w' from by have h := scale_any bn bd 1 w; rw [p6.1, p6.2.1, p6.2.2.1, p6.2.2.2] at h; exact h)
  have H8 := fun w => Lib.hid (of_err (-1) 1 w (by omega) (by omega) (by omega))
  have H9 := fun w => Lib.hid (of_err 1 0 w (by omega) (by omega) (by omega))
  have q1 : [5, 0].all wOk = false := by simp [wOk_not (w := 0) (by omega)]
  have q2 : [65537].all wOk = false := by simp [wOk_not (w := 65537) (by omega)]
  have q3 : [(((-1) : Int), (2 : Int))].all levB = false := by
    have h : levB ((-1), 2) = false := decide_eq_false (by dsimp only; omega)
    simp [h]
  have H10 := fun w A (hc : IsInts w .i64 A 2 [5, 0]) => Lib.hid (parts_none w A 2 2 [5, 0] rfl (by decide) q1 hc)
  have H11 := fun w A (hc : IsInts w .i64 A 1 [65537]) => Lib.hid (parts_none w A 1 1 [65537] rfl (by decide) q2 hc)
  have H12 := fun w A (hc : IsPrs w A 2 [(1, 2), (3, 2)]) => Lib.hid (path_none w A 2 2 [(1, 2), (3, 2)] rfl (by decide) (by kernel_rfl) hc)
  have H13 := fun w A (hc : IsPrs w A 1 [((-1), 2)]) => Lib.hid (path_none w A 1 1 [((-1), 2)] rfl (by decide) q3 hc)
  have H14 := fun w => Lib.hid (show Calls Try.prog 26 #[shr gn gd, .int .i64 2147483649] w fun e w' => e = .returned (.tuple #[.int .i64 0, shr 0 0, .int .i64 2]) ∧ GrewS w w' from by have h := scale_any gn gd 2147483649 w; rw [p8.1, p8.2.1, p8.2.2.1, p8.2.2.2] at h; exact h)
  have H15 := fun w => Lib.hid (show Calls Try.prog 18 #[shr gn gd, shr 0 1] w fun e w' => e = .returned (.tuple #[shr 0 0, .int .i64 6]) ∧ GrewS w w' from by have h := over_any gn gd 0 1 w; rw [p9.1, p9.2.1, p9.2.2] at h; exact h)
  have H16 := fun w => Lib.hid (right_t w HR.out)
  have H17 := fun w => Lib.hid (right_f w hbad)
  clear hbad k1 k2 p1 p2 p3 p4 p5 p6 p7 p8 p9 q1 q2 q3 HR
  have G0 := G.c0
  have G1 := G.c1
  have Gl := G.lt
  have B0 := B.c0
  have B1 := B.c1
  have Bl := B.lt
  go_wp2_with fail
  (with_reducible refine (H1 _).out.mono ?_)
  clear G0 G1 Gl B0 B1 Bl
  rintro e v2 ⟨rfl, hg1⟩
  have k1 := hg1.kp
  replace G := (G).kp k1
  replace B := (B).kp k1
  replace HK := Lib.hid (HK.out.trans (k1.mono HK.out.size))
  clear k1 hg1 H1
  have G0 := G.c0
  have G1 := G.c1
  have Gl := G.lt
  have B0 := B.c0
  have B1 := B.c1
  have Bl := B.lt
  go_wp2_with fail
  (with_reducible refine (H2 _).out.mono ?_)
  clear G0 G1 Gl B0 B1 Bl
  rintro e v3 ⟨rfl, hg1⟩
  have k1 := hg1.kp
  replace G := ((G.alloc _)).kp k1
  replace B := ((B.alloc _)).kp k1
  have hs0 := HK.out.size
  replace HK := Lib.hid ((HK.out.alloc hs0 _).trans (k1.mono (by simp; omega)))
  clear hs0
  clear k1 hg1 H2
  have G0 := G.c0
  have G1 := G.c1
  have Gl := G.lt
  have B0 := B.c0
  have B1 := B.c1
  have Bl := B.lt
  go_wp2_with fail
  (with_reducible refine (H3 _).out.mono ?_)
  clear G0 G1 Gl B0 B1 Bl
  rintro e v4 ⟨rfl, hg1⟩
  have k1 := hg1.kp
  replace G := ((G.alloc _)).kp k1
  replace B := ((B.alloc _)).kp k1
  have hs0 := HK.out.size
  replace HK := Lib.hid ((HK.out.alloc hs0 _).trans (k1.mono (by simp; omega)))
  clear hs0
  clear k1 hg1 H3
  have G0 := G.c0
  have G1 := G.c1
  have Gl := G.lt
  have B0 := B.c0
  have B1 := B.c1
  have Bl := B.lt
  go_wp2_with fail
  (with_reducible refine (H4 _).out.mono ?_)
  clear G0 G1 Gl B0 B1 Bl
  rintro e v5 ⟨rfl, hg1⟩
  have k1 := hg1.kp
  replace G := ((G.alloc _)).kp k1
  replace B := ((B.alloc _)).kp k1
  have hs0 := HK.out.size
  replace HK := Lib.hid ((HK.out.alloc hs0 _).trans (k1.mono (by simp; omega)))
  clear hs0
  clear k1 hg1 H4
  have G0 := G.c0
  have G1 := G.c1
  have Gl := G.lt
  have B0 := B.c0
  have B1 := B.c1
  have Bl := B.lt
  go_wp2_with fail
  (with_reducible refine (H5 _).out.mono ?_)
  clear G0 G1 Gl B0 B1 Bl
  rintro e v6 ⟨rfl, hg1⟩
  have k1 := hg1.kp
  replace G := ((G.alloc _)).kp k1
  replace B := ((B.alloc _)).kp k1
  have hs0 := HK.out.size
  replace HK := Lib.hid ((HK.out.alloc hs0 _).trans (k1.mono (by simp; omega)))
  clear hs0
  clear k1 hg1 H5
  have G0 := G.c0
  have G1 := G.c1
  have Gl := G.lt
  have B0 := B.c0
  have B1 := B.c1
  have Bl := B.lt
  go_wp2_with fail
  have P := prs_new v6 [(gn, gd), (gn, gd), (bn, bd)] 25
  (with_reducible refine (H6 _ _ P).out.mono ?_)
  clear P
  clear G0 G1 Gl B0 B1 Bl
  rintro e v7 ⟨rfl, hg1⟩
  have k1 := hg1.kp
  replace G := ((G.alloc _)).kp k1
  replace B := ((B.alloc _)).kp k1
  have hs0 := HK.out.size
  replace HK := Lib.hid ((HK.out.alloc hs0 _).trans (k1.mono (by simp; omega)))
  clear hs0
  clear k1 hg1 H6
  have G0 := G.c0
  have G1 := G.c1
  have Gl := G.lt
  have B0 := B.c0
  have B1 := B.c1
  have Bl := B.lt
  go_wp2_with fail
  (with_reducible refine (H7 _).out.mono ?_)
  clear G0 G1 Gl B0 B1 Bl
  rintro e v8 ⟨rfl, hg1⟩
  have k1 := hg1.kp
  replace G := ((G.alloc _)).kp k1
  replace B := ((B.alloc _)).kp k1
  have hs0 := HK.out.size
  replace HK := Lib.hid ((HK.out.alloc hs0 _).trans (k1.mono (by simp; omega)))
  clear hs0
  clear k1 hg1 H7
  go_wp2_with fail
  (with_reducible refine (H8 _).out.mono ?_)
  rintro e v9 ⟨rfl, hg1⟩
  have k1 := hg1.kp
  replace G := ((G.alloc _)).kp k1
  replace B := ((B.alloc _)).kp k1
  have hs0 := HK.out.size
  replace HK := Lib.hid ((HK.out.alloc hs0 _).trans (k1.mono (by simp; omega)))
  clear hs0
  clear k1 hg1 H8
  go_wp2_with fail
  (with_reducible refine (H9 _).out.mono ?_)
  rintro e v10 ⟨rfl, hg1⟩
  have k1 := hg1.kp
  replace G := ((G.alloc _)).kp k1
  replace B := ((B.alloc _)).kp k1
  have hs0 := HK.out.size
  replace HK := Lib.hid ((HK.out.alloc hs0 _).trans (k1.mono (by simp; omega)))
  clear hs0
  clear k1 hg1 H9
  go_wp2_with fail
  have P := ints_new (v10.alloc (.cells #[.int .i64 0, .int .i64 0] 25)) [5, 0] 3
  rw [show (World.alloc v10 _).heap.size = v10.heap.size + 1 by simp] at P
  (with_reducible refine (H10 _ _ P).out.mono ?_)
  clear P
  rintro e v11 ⟨pv1, rfl, hg1⟩
  have k1 := hg1
  replace G := (((G.alloc _).alloc _)).kp k1
  replace B := (((B.alloc _).alloc _)).kp k1
  have hs0 := HK.out.size
  replace HK := Lib.hid (((HK.out.alloc hs0 _).alloc (by simp; omega) _).trans (k1.mono (by simp; omega)))
  clear hs0
  clear k1 hg1 H10
  go_wp2_with fail
  have P := ints_new v11 [65537] 3
  (with_reducible refine (H11 _ _ P).out.mono ?_)
  clear P
  rintro e v12 ⟨pv2, rfl, hg1⟩
  have k1 := hg1
  replace G := ((G.alloc _)).kp k1
  replace B := ((B.alloc _)).kp k1
  have hs0 := HK.out.size
  replace HK := Lib.hid ((HK.out.alloc hs0 _).trans (k1.mono (by simp; omega)))
  clear hs0
  clear k1 hg1 H11
  go_wp2_with fail
  have P := prs_new v12 [(1, 2), (3, 2)] 55
  (with_reducible refine (H12 _ _ P).out.mono ?_)
  clear P
  rintro e v13 ⟨rfl, hg1⟩
  have k1 := hg1
  replace G := ((G.alloc _)).kp k1
  replace B := ((B.alloc _)).kp k1
  have hs0 := HK.out.size
  replace HK := Lib.hid ((HK.out.alloc hs0 _).trans (k1.mono (by simp; omega)))
  clear hs0
  clear k1 hg1 H12
  go_wp2_with fail
  have P := prs_new (v13.alloc (.cells #[.int .i64 0, .int .i64 0] 25)) [((-1), 2)] 55
  rw [show (World.alloc v13 _).heap.size = v13.heap.size + 1 by simp] at P
  (with_reducible refine (H13 _ _ P).out.mono ?_)
  clear P
  rintro e v14 ⟨rfl, hg1⟩
  have k1 := hg1
  replace G := (((G.alloc _).alloc _)).kp k1
  replace B := (((B.alloc _).alloc _)).kp k1
  have hs0 := HK.out.size
  replace HK := Lib.hid (((HK.out.alloc hs0 _).alloc (by simp; omega) _).trans (k1.mono (by simp; omega)))
  clear hs0
  clear k1 hg1 H13
  have G0 := G.c0
  have G1 := G.c1
  have Gl := G.lt
  go_wp2_with fail
  (with_reducible refine (H14 _).out.mono ?_)
  clear G0 G1 Gl
  rintro e v15 ⟨rfl, hg1⟩
  have k1 := hg1.kp
  replace G := ((G.alloc _)).kp k1
  replace B := ((B.alloc _)).kp k1
  have hs0 := HK.out.size
  replace HK := Lib.hid ((HK.out.alloc hs0 _).trans (k1.mono (by simp; omega)))
  clear hs0
  clear k1 hg1 H14
  go_wp2_with fail
  have hs0 := HK.out.size
  replace G := (G.alloc (.cells #[.int .i64 0, .int .i64 0] 25)).alloc (.cells #[.int .i64 2, .int .i64 2, .int .i64 2, .int .i64 2, .int .i64 2, .int .i64 2, .int .i64 2, .int .i64 2, .int .i64 2, .int .i64 2, .int .i64 2, .int .i64 2, .int .i64 2, .int .i64 2] 29)
  replace B := (B.alloc (.cells #[.int .i64 0, .int .i64 0] 25)).alloc (.cells #[.int .i64 2, .int .i64 2, .int .i64 2, .int .i64 2, .int .i64 2, .int .i64 2, .int .i64 2, .int .i64 2, .int .i64 2, .int .i64 2, .int .i64 2, .int .i64 2, .int .i64 2, .int .i64 2] 29)
  replace HK := Lib.hid ((HK.out.alloc hs0 (.cells #[.int .i64 0, .int .i64 0] 25)).alloc (by simp; omega) (.cells #[.int .i64 2, .int .i64 2, .int .i64 2, .int .i64 2, .int .i64 2, .int .i64 2, .int .i64 2, .int .i64 2, .int .i64 2, .int .i64 2, .int .i64 2, .int .i64 2, .int .i64 2, .int .i64 2] 29))
  have L : ∀ j : Nat, j < 14 → ((v15.alloc (.cells #[.int .i64 0, .int .i64 0] 25)).alloc (.cells #[.int .i64 2, .int .i64 2, .int .i64 2, .int .i64 2, .int .i64 2, .int .i64 2, .int .i64 2, .int .i64 2, .int .i64 2, .int .i64 2, .int .i64 2, .int .i64 2, .int .i64 2, .int .i64 2] 29)).cell? ⟨v15.heap.size + 1, j, none⟩ = some (.int .i64 2) := by
    intro j hj
    have h : j = 0 ∨ j = 1 ∨ j = 2 ∨ j = 3 ∨ j = 4 ∨ j = 5 ∨ j = 6 ∨ j = 7 ∨ j = 8 ∨ j = 9 ∨ j = 10 ∨ j = 11 ∨ j = 12 ∨ j = 13 := by omega
    rcases h with rfl | rfl | rfl | rfl | rfl | rfl | rfl | rfl | rfl | rfl | rfl | rfl | rfl | rfl <;> simp
  have HL := Lib.hid L
  clear L hs0
  generalize (v15.alloc (.cells #[.int .i64 0, .int .i64 0] 25)).alloc (.cells #[.int .i64 2, .int .i64 2, .int .i64 2, .int .i64 2, .int .i64 2, .int .i64 2, .int .i64 2, .int .i64 2, .int .i64 2, .int .i64 2, .int .i64 2, .int .i64 2, .int .i64 2, .int .i64 2] 29) = x0 at *
  generalize v15.heap.size = bL at *
  go_loopw [199] (fun i wr => ∃ k : Nat, k ≤ 14 ∧ i = .int .i64 k ∧ x0 = wr) (fun i _ => 14 - (intOf i).toNat)
  case atStart => exact ⟨0, Nat.zero_le _, rfl, by first | rfl | trivial⟩
  case round =>
    obtain ⟨k, hk, rfl, rfl⟩ := hrel
    by_cases hlt : k < 14
    · have L0 := HL.out k hlt
      have hki : (k : Int) < 14 := by omega
      go_wp2_with fail
      go_roundw
      case rel => exact ⟨k + 1, by omega, by go_num, by first | rfl | trivial⟩
      case measure => simp [intOf]; omega
    · have hke : k = 14 := by omega
      subst hke
      clear HL hlt hk
      have G0 := G.c0
      have G1 := G.c1
      have Gl := G.lt
      go_wp2_with fail
      (with_reducible refine (H15 _).out.mono ?_)
      clear G0 G1 Gl
      rintro e v16 ⟨rfl, hg1⟩
      have k1 := hg1.kp
      replace G := (G).kp k1
      replace B := (B).kp k1
      replace HK := Lib.hid (HK.out.trans (k1.mono HK.out.size))
      clear k1 hg1 H15
      have G0 := G.c0
      have G1 := G.c1
      have Gl := G.lt
      have B0 := B.c0
      have B1 := B.c1
      have Bl := B.lt
      go_wp2_with fail
      have Z := C2.new v16 (.int .i64 0) (.int .i64 0) 25
      (with_reducible refine (H16 _).out.mono ?_)
      clear G0 G1 Gl B0 B1 Bl
      rintro e v17 ⟨rfl, hg1⟩
      have k1 := hg1.kp
      replace G := ((G.alloc _)).kp k1
      replace B := ((B.alloc _)).kp k1
      replace Z := Z.kp k1
      have hs0 := HK.out.size
      replace HK := Lib.hid ((HK.out.alloc hs0 _).trans (k1.mono (by simp; omega)))
      clear hs0
      clear k1 hg1 H16
      have B0 := B.c0
      have B1 := B.c1
      go_wp2_with fail
      (with_reducible refine (H17 _).out.mono ?_)
      rintro e y0 ⟨rfl, hg1⟩
      replace Z := Z.kp hg1.kp
      have HKF := Lib.hid (HK.out.trans (hg1.kp.mono HK.out.size))
      have Z0 := Z.c0
      have Z1 := Z.c1
      clear hg1 HK G B B0 B1 Z
      go_wp2_with fail
      go_ret
      exact ⟨rfl, HKF.out⟩

set_option maxRecDepth 100000 in
set_option maxHeartbeats 4000000 in
theorem wrong_c {a0 a1 way n gn gd : Int} {W0 : World} (a0l : 0 ≤ a0) (a0u : a0 ≤ 65535) (a1l : 0 ≤ a1) (a1u : a1 ≤ 65535) (wl : 0 ≤ way) (wu : way ≤ 255) (nl : -9223372036854775808 ≤ n) (nu : n ≤ 9223372036854775807) (hn : 0 < n) (hn2 : n < 65537)
    (hs : Sm 65536 gn gd) (HSx' : ∀ W, Calls Try.prog 13 #[.int .u16 a0, .int .u16 a1] W fun e w' => e = .returned (.tuple #[shr gn gd, .bool true]) ∧ GrewS W w') :
    Calls Try.prog 10 #[.agg #[.int .u16 a0, .int .u16 a1], .int .u8 way, .int .i64 n] W0 fun e w' => e = .returned (.bool true) ∧ Kp W0.heap.size W0 w' := by
  have HSx := fun w => Lib.hid (HSx' w)
  have HAw := fun w => Lib.hid (awake_any w)
  have g0 := hs.n0
  have g1 := hs.n1
  have g2 := hs.d0
  have g3 := hs.d1
  have HR := Lib.hid hs.r
  have HS0 := Lib.hid hs
  have w1 := wrap_in (x := 2 * gn) (by omega) (by omega)
  have w2 := wrap_in (x := 2 * gd) (by omega) (by omega)
  have hq : way % 6 = 0 ∨ way % 6 = 1 ∨ way % 6 = 2 ∨ way % 6 = 3 ∨ way % 6 = 4 ∨ way % 6 = 5 := by omega
  have r1 : Int.tmod way 6 = way % 6 := Int.tmod_eq_emod_of_nonneg wl
  have HQ := Lib.hid hq
  clear hs HSx' hq
  go_enter Try.func10, Try.ntmps10
  go_wp2_with fail
  (with_reducible refine (HAw _).out.mono ?_)
  have ka : Kp W0.heap.size W0 (W0.alloc (.cells #[.int .u16 a0, .int .u16 a1] 34)) := ((GrewS.refl W0).alloc _).kp
  have A := C2.new W0 (.int .u16 a0) (.int .u16 a1) 34
  rintro e u0 ⟨rfl, hk⟩
  have HK := Lib.hid (ka.trans (hk.mono ka.size))
  replace A := A.kp hk
  clear ka hk HAw
  have A0 := A.c0
  have A1 := A.c1
  go_wp2_with fail
  (with_reducible refine (HSx _).out.mono ?_)
  rintro e u1 ⟨rfl, hg⟩
  replace HK := Lib.hid (HK.out.trans (hg.kp.mono HK.out.size))
  clear A A0 A1 hg HSx
  go_upto_block 0 with fail
  have hsz := HK.out.size
  have G := (C2.new u1 (.int .i64 gn) (.int .i64 gd) 25).alloc (.cells #[.int .i64 gn, .int .i64 gd] 25)
  have B := C2.new (u1.alloc (.cells #[.int .i64 gn, .int .i64 gd] 25)) (.int .i64 gn) (.int .i64 gd) 25
  have FB := Fz.new (u1.alloc (.cells #[.int .i64 gn, .int .i64 gd] 25)) #[.int .i64 gn, .int .i64 gd] 25
  rw [show (u1.alloc (.cells #[.int .i64 gn, .int .i64 gd] 25)).heap.size = u1.heap.size + 1 by simp] at B FB
  replace HK := Lib.hid ((HK.out.alloc hsz (.cells #[.int .i64 gn, .int .i64 gd] 25)).alloc (by simp; omega) (.cells #[.int .i64 gn, .int .i64 gd] 25))
  generalize (u1.alloc (.cells #[.int .i64 gn, .int .i64 gd] 25)).alloc (.cells #[.int .i64 gn, .int .i64 gd] 25) = u2 at *
  have hne : u1.heap.size ≠ u1.heap.size + 1 := by omega
  generalize hbB : u1.heap.size + 1 = bB at *
  have hbl : W0.heap.size ≤ bB := by omega
  generalize u1.heap.size = bG at *
  clear hsz hbB
  go_cut [8] from 57 to 91 (fun p w' => p = .bool true ∧ ∃ bn bd : Int, rightS bn bd = false ∧ C2 w' bG (.int .i64 gn) (.int .i64 gd) ∧ C2 w' bB (.int .i64 bn) (.int .i64 bd) ∧ Kp W0.heap.size W0 w')
  case first =>
    have B0 := B.c0
    have B1 := B.c1
    have Bl := B.lt
    have FB2 := FB.2
    have G0 := G.c0
    have G1 := G.c1
    rcases HQ.out with hq | hq | hq | hq | hq | hq
    · go_wp2_with fail
      go_meet
      case rel => exact ⟨rfl, gn, 0, right_low (by omega), (G.far (p := ⟨bB, 1, none⟩) hne.symm _), (B.put1 _), HK.out.setCell (p := ⟨bB, 1, none⟩) hbl _⟩
    · go_wp2_with fail
      go_meet
      case rel => exact ⟨rfl, (-1), gd, right_low (by omega), (G.far (p := ⟨bB, 0, none⟩) hne.symm _), (B.put0 _), HK.out.setCell (p := ⟨bB, 0, none⟩) hbl _⟩
    · go_wp2_with fail
      go_meet
      case rel => exact ⟨rfl, 2147483649, 1, right_low (by omega), (G.far2 hne.symm _ _), (B.set _ _), (HK.out.setCell (p := ⟨bB, 0, none⟩) hbl _).setCell (p := ⟨bB, 1, none⟩) hbl _⟩
    · go_wp2_with fail
      go_meet
      case rel => exact ⟨rfl, 1, 2147483649, right_low (by omega), ((G.far (p := ⟨bB, 1, none⟩) hne.symm _).far (p := ⟨bB, 0, none⟩) hne.symm _), ((B.put1 _).put0 _), (HK.out.setCell (p := ⟨bB, 1, none⟩) hbl _).setCell (p := ⟨bB, 0, none⟩) hbl _⟩
    · go_wp2_with fail
      go_region
      go_wp2_with fail
      go_meet
      case rel => exact ⟨rfl, (2 * gn), (2 * gd), right_two HS0.out.n0 HS0.out.d0, ((G.far2 hne.symm _ _)).drew, ((B.set _ _)).drew, ((HK.out.setCell (p := ⟨bB, 0, none⟩) hbl _).setCell (p := ⟨bB, 1, none⟩) hbl _).drew⟩
    · go_wp2_with fail
      go_meet
      case rel => exact ⟨rfl, 0, 2, by kernel_rfl, (G.far2 hne.symm _ _), (B.set _ _), (HK.out.setCell (p := ⟨bB, 0, none⟩) hbl _).setCell (p := ⟨bB, 1, none⟩) hbl _⟩
  case rest =>
  clear G B FB HK hne hbl HQ
  obtain ⟨rfl, bn, bd, hbad, G, B, hk0⟩ := hcut
  have HK := Lib.hid hk0
  clear hk0
  have k1 := okS_f1 (c := gn) (d := gd) hbad
  have k2 := okS_f2 (a := gn) (b := gd) hbad
  have p1 := pl_bad k1
  have p2 := le_bad k2
  have p3 := tm_bad k2
  have p4 := ov_bad k1
  have p5 := cm_bad k2
  have p6 := sc_bad (n := 1) (Or.inl hbad : rightS bn bd = false ∨ (1 : Int) < 0 ∨ 2147483648 < (1 : Int))
  have p7 : sum3 [(gn, gd), (gn, gd), (bn, bd)] = (0, 0, 2) := by unfold sum3 rights; simp [HR.out, hbad]
  have p8 := sc_bad (a := gn) (b := gd) (n := 2147483649) (Or.inr (by omega))
  have p9 : ovN gn gd 0 1 = 0 ∧ ovD gn gd 0 1 = 0 ∧ ovE gn gd 0 1 = 6 := by
    unfold ovN ovD ovE
    rw [okS_t HR.out (by kernel_rfl)]
    exact ⟨rfl, rfl, rfl⟩
  have H1 := fun w => Lib.hid (show Calls Try.prog 15 #[shr bn bd, shr gn gd] w fun e w' => e = .returned (.tuple #[shr 0 0, .int .i64 2]) ∧ GrewS w w' from by have h := plus_any bn bd gn gd w; rw [p1.1, p1.2.1, p1.2.2] at h; exact h)
  have H2 := fun w => Lib.hid (show Calls Try.prog 17 #[shr gn gd, shr bn bd] w fun e w' => e = .returned (.tuple #[shr 0 0, .int .i64 2]) ∧ GrewS w w' from by have h := less_any gn gd bn bd w; rw [p2.1, p2.2.1, p2.2.2] at h; exact h)
  have H3 := fun w => Lib.hid (show Calls Try.prog 16 #[shr gn gd, shr bn bd] w fun e w' => e = .returned (.tuple #[shr 0 0, .int .i64 2]) ∧ GrewS w w' from by have h := times_any gn gd bn bd w; rw [p3.1, p3.2.1, p3.2.2] at h; exact h)
  have H4 := fun w => Lib.hid (show Calls Try.prog 18 #[shr bn bd, shr gn gd] w fun e w' => e = .returned (.tuple #[shr 0 0, .int .i64 2]) ∧ GrewS w w' from by have h := over_any bn bd gn gd w; rw [p4.1, p4.2.1, p4.2.2] at h; exact h)
  have H5 := fun w => Lib.hid (show Calls Try.prog 19 #[shr gn gd, shr bn bd] w fun e w' => e = .returned (.tuple #[.int .i64 0, .int .i64 2]) ∧ GrewS w w' from by have h := cmp_any gn gd bn bd w; rw [p5.1, p5.2] at h; exact h)
  have H6 := fun w A (hc : IsPrs w A 3 [(gn, gd), (gn, gd), (bn, bd)]) => Lib.hid (show Calls Try.prog 24 #[.slice A 3 3] w fun e w' => e = .returned (.tuple #[shr 0 0, .int .i64 2]) ∧ GrewS w w' from by have h := sum_any w A 3 3 [(gn, gd), (gn, gd), (bn, bd)] rfl (by decide) hc; rw [p7] at h; exact h)
  have H7 := fun w => Lib.hid (show Calls Try.prog 26 #[shr bn bd, .int .i64 1] w fun e w' => e = .returned (.tuple #[.int .i64 0, shr 0 0, .int .i64 2]) ∧ GrewS w w' from by have h := scale_any bn bd 1 w; rw [p6.1, p6.2.1, p6.2.2.1, p6.2.2.2] at h; exact h)
  have H8 := fun w => Lib.hid (of_err (-1) 1 w (by omega) (by omega) (by omega))
  have H9 := fun w => Lib.hid (of_err 1 0 w (by omega) (by omega) (by omega))
  have q1 : [5, 0].all wOk = false := by simp [wOk_not (w := 0) (by omega)]
  have q2 : [65537].all wOk = false := by simp [wOk_not (w := 65537) (by omega)]
  have q3 : [(((-1) : Int), (2 : Int))].all levB = false := by
    have h : levB ((-1), 2) = false := decide_eq_false (by dsimp only; omega)
    simp [h]
  have H10 := fun w A (hc : IsInts w .i64 A 2 [5, 0]) => Lib.hid (parts_none w A 2 2 [5, 0] rfl (by decide) q1 hc)
  have H11 := fun w A (hc : IsInts w .i64 A 1 [65537]) => Lib.hid (parts_none w A 1 1 [65537] rfl (by decide) q2 hc)
  have H12 := fun w A (hc : IsPrs w A 2 [(1, 2), (3, 2)]) => Lib.hid (path_none w A 2 2 [(1, 2), (3, 2)] rfl (by decide) (by kernel_rfl) hc)
  have H13 := fun w A (hc : IsPrs w A 1 [((-1), 2)]) => Lib.hid (path_none w A 1 1 [((-1), 2)] rfl (by decide) q3 hc)
  have H14 := fun w => Lib.hid (show Calls Try.prog 26 #[shr gn gd, .int .i64 2147483649] w fun e w' => e = .returned (.tuple #[.int .i64 0, shr 0 0, .int .i64 2]) ∧ GrewS w w' from by have h := scale_any gn gd 2147483649 w; rw [p8.1, p8.2.1, p8.2.2.1, p8.2.2.2] at h; exact h)
  have H15 := fun w => Lib.hid (show Calls Try.prog 18 #[shr gn gd, shr 0 1] w fun e w' => e = .returned (.tuple #[shr 0 0, .int .i64 6]) ∧ GrewS w w' from by have h := over_any gn gd 0 1 w; rw [p9.1, p9.2.1, p9.2.2] at h; exact h)
  have H16 := fun w => Lib.hid (right_t w HR.out)
  have H17 := fun w => Lib.hid (right_f w hbad)
  clear hbad k1 k2 p1 p2 p3 p4 p5 p6 p7 p8 p9 q1 q2 q3 HR
  have G0 := G.c0
  have G1 := G.c1
  have Gl := G.lt
  have B0 := B.c0
  have B1 := B.c1
  have Bl := B.lt
  go_wp2_with fail
  (with_reducible refine (H1 _).out.mono ?_)
  clear G0 G1 Gl B0 B1 Bl
  rintro e v2 ⟨rfl, hg1⟩
  have k1 := hg1.kp
  replace G := (G).kp k1
  replace B := (B).kp k1
  replace HK := Lib.hid (HK.out.trans (k1.mono HK.out.size))
  clear k1 hg1 H1
  have G0 := G.c0
  have G1 := G.c1
  have Gl := G.lt
  have B0 := B.c0
  have B1 := B.c1
  have Bl := B.lt
  go_wp2_with fail
  (with_reducible refine (H2 _).out.mono ?_)
  clear G0 G1 Gl B0 B1 Bl
  rintro e v3 ⟨rfl, hg1⟩
  have k1 := hg1.kp
  replace G := ((G.alloc _)).kp k1
  replace B := ((B.alloc _)).kp k1
  have hs0 := HK.out.size
  replace HK := Lib.hid ((HK.out.alloc hs0 _).trans (k1.mono (by simp; omega)))
  clear hs0
  clear k1 hg1 H2
  have G0 := G.c0
  have G1 := G.c1
  have Gl := G.lt
  have B0 := B.c0
  have B1 := B.c1
  have Bl := B.lt
  go_wp2_with fail
  (with_reducible refine (H3 _).out.mono ?_)
  clear G0 G1 Gl B0 B1 Bl
  rintro e v4 ⟨rfl, hg1⟩
  have k1 := hg1.kp
  replace G := ((G.alloc _)).kp k1
  replace B := ((B.alloc _)).kp k1
  have hs0 := HK.out.size
  replace HK := Lib.hid ((HK.out.alloc hs0 _).trans (k1.mono (by simp; omega)))
  clear hs0
  clear k1 hg1 H3
  have G0 := G.c0
  have G1 := G.c1
  have Gl := G.lt
  have B0 := B.c0
  have B1 := B.c1
  have Bl := B.lt
  go_wp2_with fail
  (with_reducible refine (H4 _).out.mono ?_)
  clear G0 G1 Gl B0 B1 Bl
  rintro e v5 ⟨rfl, hg1⟩
  have k1 := hg1.kp
  replace G := ((G.alloc _)).kp k1
  replace B := ((B.alloc _)).kp k1
  have hs0 := HK.out.size
  replace HK := Lib.hid ((HK.out.alloc hs0 _).trans (k1.mono (by simp; omega)))
  clear hs0
  clear k1 hg1 H4
  have G0 := G.c0
  have G1 := G.c1
  have Gl := G.lt
  have B0 := B.c0
  have B1 := B.c1
  have Bl := B.lt
  go_wp2_with fail
  (with_reducible refine (H5 _).out.mono ?_)
  clear G0 G1 Gl B0 B1 Bl
  rintro e v6 ⟨rfl, hg1⟩
  have k1 := hg1.kp
  replace G := ((G.alloc _)).kp k1
  replace B := ((B.alloc _)).kp k1
  have hs0 := HK.out.size
  replace HK := Lib.hid ((HK.out.alloc hs0 _).trans (k1.mono (by simp; omega)))
  clear hs0
  clear k1 hg1 H5
  have G0 := G.c0
  have G1 := G.c1
  have Gl := G.lt
  have B0 := B.c0
  have B1 := B.c1
  have Bl := B.lt
  go_wp2_with fail
  have P := prs_new v6 [(gn, gd), (gn, gd), (bn, bd)] 25
  (with_reducible refine (H6 _ _ P).out.mono ?_)
  clear P
  clear G0 G1 Gl B0 B1 Bl
  rintro e v7 ⟨rfl, hg1⟩
  have k1 := hg1.kp
  replace G := ((G.alloc _)).kp k1
  replace B := ((B.alloc _)).kp k1
  have hs0 := HK.out.size
  replace HK := Lib.hid ((HK.out.alloc hs0 _).trans (k1.mono (by simp; omega)))
  clear hs0
  clear k1 hg1 H6
  have G0 := G.c0
  have G1 := G.c1
  have Gl := G.lt
  have B0 := B.c0
  have B1 := B.c1
  have Bl := B.lt
  go_wp2_with fail
  (with_reducible refine (H7 _).out.mono ?_)
  clear G0 G1 Gl B0 B1 Bl
  rintro e v8 ⟨rfl, hg1⟩
  have k1 := hg1.kp
  replace G := ((G.alloc _)).kp k1
  replace B := ((B.alloc _)).kp k1
  have hs0 := HK.out.size
  replace HK := Lib.hid ((HK.out.alloc hs0 _).trans (k1.mono (by simp; omega)))
  clear hs0
  clear k1 hg1 H7
  go_wp2_with fail
  (with_reducible refine (H8 _).out.mono ?_)
  rintro e v9 ⟨rfl, hg1⟩
  have k1 := hg1.kp
  replace G := ((G.alloc _)).kp k1
  replace B := ((B.alloc _)).kp k1
  have hs0 := HK.out.size
  replace HK := Lib.hid ((HK.out.alloc hs0 _).trans (k1.mono (by simp; omega)))
  clear hs0
  clear k1 hg1 H8
  go_wp2_with fail
  (with_reducible refine (H9 _).out.mono ?_)
  rintro e v10 ⟨rfl, hg1⟩
  have k1 := hg1.kp
  replace G := ((G.alloc _)).kp k1
  replace B := ((B.alloc _)).kp k1
  have hs0 := HK.out.size
  replace HK := Lib.hid ((HK.out.alloc hs0 _).trans (k1.mono (by simp; omega)))
  clear hs0
  clear k1 hg1 H9
  go_wp2_with fail
  have P := ints_new (v10.alloc (.cells #[.int .i64 0, .int .i64 0] 25)) [5, 0] 3
  rw [show (World.alloc v10 _).heap.size = v10.heap.size + 1 by simp] at P
  (with_reducible refine (H10 _ _ P).out.mono ?_)
  clear P
  rintro e v11 ⟨pv1, rfl, hg1⟩
  have k1 := hg1
  replace G := (((G.alloc _).alloc _)).kp k1
  replace B := (((B.alloc _).alloc _)).kp k1
  have hs0 := HK.out.size
  replace HK := Lib.hid (((HK.out.alloc hs0 _).alloc (by simp; omega) _).trans (k1.mono (by simp; omega)))
  clear hs0
  clear k1 hg1 H10
  go_wp2_with fail
  have P := ints_new v11 [65537] 3
  (with_reducible refine (H11 _ _ P).out.mono ?_)
  clear P
  rintro e v12 ⟨pv2, rfl, hg1⟩
  have k1 := hg1
  replace G := ((G.alloc _)).kp k1
  replace B := ((B.alloc _)).kp k1
  have hs0 := HK.out.size
  replace HK := Lib.hid ((HK.out.alloc hs0 _).trans (k1.mono (by simp; omega)))
  clear hs0
  clear k1 hg1 H11
  go_wp2_with fail
  have P := prs_new v12 [(1, 2), (3, 2)] 55
  (with_reducible refine (H12 _ _ P).out.mono ?_)
  clear P
  rintro e v13 ⟨rfl, hg1⟩
  have k1 := hg1
  replace G := ((G.alloc _)).kp k1
  replace B := ((B.alloc _)).kp k1
  have hs0 := HK.out.size
  replace HK := Lib.hid ((HK.out.alloc hs0 _).trans (k1.mono (by simp; omega)))
  clear hs0
  clear k1 hg1 H12
  go_wp2_with fail
  have P := prs_new (v13.alloc (.cells #[.int .i64 0, .int .i64 0] 25)) [((-1), 2)] 55
  rw [show (World.alloc v13 _).heap.size = v13.heap.size + 1 by simp] at P
  (with_reducible refine (H13 _ _ P).out.mono ?_)
  clear P
  rintro e v14 ⟨rfl, hg1⟩
  have k1 := hg1
  replace G := (((G.alloc _).alloc _)).kp k1
  replace B := (((B.alloc _).alloc _)).kp k1
  have hs0 := HK.out.size
  replace HK := Lib.hid (((HK.out.alloc hs0 _).alloc (by simp; omega) _).trans (k1.mono (by simp; omega)))
  clear hs0
  clear k1 hg1 H13
  have G0 := G.c0
  have G1 := G.c1
  have Gl := G.lt
  go_wp2_with fail
  (with_reducible refine (H14 _).out.mono ?_)
  clear G0 G1 Gl
  rintro e v15 ⟨rfl, hg1⟩
  have k1 := hg1.kp
  replace G := ((G.alloc _)).kp k1
  replace B := ((B.alloc _)).kp k1
  have hs0 := HK.out.size
  replace HK := Lib.hid ((HK.out.alloc hs0 _).trans (k1.mono (by simp; omega)))
  clear hs0
  clear k1 hg1 H14
  go_wp2_with fail
  have hs0 := HK.out.size
  replace G := (G.alloc (.cells #[.int .i64 0, .int .i64 0] 25)).alloc (.cells #[.int .i64 2, .int .i64 2, .int .i64 2, .int .i64 2, .int .i64 2, .int .i64 2, .int .i64 2, .int .i64 2, .int .i64 2, .int .i64 2, .int .i64 2, .int .i64 2, .int .i64 2, .int .i64 2] 29)
  replace B := (B.alloc (.cells #[.int .i64 0, .int .i64 0] 25)).alloc (.cells #[.int .i64 2, .int .i64 2, .int .i64 2, .int .i64 2, .int .i64 2, .int .i64 2, .int .i64 2, .int .i64 2, .int .i64 2, .int .i64 2, .int .i64 2, .int .i64 2, .int .i64 2, .int .i64 2] 29)
  replace HK := Lib.hid ((HK.out.alloc hs0 (.cells #[.int .i64 0, .int .i64 0] 25)).alloc (by simp; omega) (.cells #[.int .i64 2, .int .i64 2, .int .i64 2, .int .i64 2, .int .i64 2, .int .i64 2, .int .i64 2, .int .i64 2, .int .i64 2, .int .i64 2, .int .i64 2, .int .i64 2, .int .i64 2, .int .i64 2] 29))
  have L : ∀ j : Nat, j < 14 → ((v15.alloc (.cells #[.int .i64 0, .int .i64 0] 25)).alloc (.cells #[.int .i64 2, .int .i64 2, .int .i64 2, .int .i64 2, .int .i64 2, .int .i64 2, .int .i64 2, .int .i64 2, .int .i64 2, .int .i64 2, .int .i64 2, .int .i64 2, .int .i64 2, .int .i64 2] 29)).cell? ⟨v15.heap.size + 1, j, none⟩ = some (.int .i64 2) := by
    intro j hj
    have h : j = 0 ∨ j = 1 ∨ j = 2 ∨ j = 3 ∨ j = 4 ∨ j = 5 ∨ j = 6 ∨ j = 7 ∨ j = 8 ∨ j = 9 ∨ j = 10 ∨ j = 11 ∨ j = 12 ∨ j = 13 := by omega
    rcases h with rfl | rfl | rfl | rfl | rfl | rfl | rfl | rfl | rfl | rfl | rfl | rfl | rfl | rfl <;> simp
  have HL := Lib.hid L
  clear L hs0
  generalize (v15.alloc (.cells #[.int .i64 0, .int .i64 0] 25)).alloc (.cells #[.int .i64 2, .int .i64 2, .int .i64 2, .int .i64 2, .int .i64 2, .int .i64 2, .int .i64 2, .int .i64 2, .int .i64 2, .int .i64 2, .int .i64 2, .int .i64 2, .int .i64 2, .int .i64 2] 29) = x0 at *
  generalize v15.heap.size = bL at *
  go_loopw [199] (fun i wr => ∃ k : Nat, k ≤ 14 ∧ i = .int .i64 k ∧ x0 = wr) (fun i _ => 14 - (intOf i).toNat)
  case atStart => exact ⟨0, Nat.zero_le _, rfl, by first | rfl | trivial⟩
  case round =>
    obtain ⟨k, hk, rfl, rfl⟩ := hrel
    by_cases hlt : k < 14
    · have L0 := HL.out k hlt
      have hki : (k : Int) < 14 := by omega
      go_wp2_with fail
      go_roundw
      case rel => exact ⟨k + 1, by omega, by go_num, by first | rfl | trivial⟩
      case measure => simp [intOf]; omega
    · have hke : k = 14 := by omega
      subst hke
      clear HL hlt hk
      have G0 := G.c0
      have G1 := G.c1
      have Gl := G.lt
      go_wp2_with fail
      (with_reducible refine (H15 _).out.mono ?_)
      clear G0 G1 Gl
      rintro e v16 ⟨rfl, hg1⟩
      have k1 := hg1.kp
      replace G := (G).kp k1
      replace B := (B).kp k1
      replace HK := Lib.hid (HK.out.trans (k1.mono HK.out.size))
      clear k1 hg1 H15
      have G0 := G.c0
      have G1 := G.c1
      have Gl := G.lt
      have B0 := B.c0
      have B1 := B.c1
      have Bl := B.lt
      go_wp2_with fail
      have Z := C2.new v16 (.int .i64 0) (.int .i64 0) 25
      (with_reducible refine (H16 _).out.mono ?_)
      clear G0 G1 Gl B0 B1 Bl
      rintro e v17 ⟨rfl, hg1⟩
      have k1 := hg1.kp
      replace G := ((G.alloc _)).kp k1
      replace B := ((B.alloc _)).kp k1
      replace Z := Z.kp k1
      have hs0 := HK.out.size
      replace HK := Lib.hid ((HK.out.alloc hs0 _).trans (k1.mono (by simp; omega)))
      clear hs0
      clear k1 hg1 H16
      have B0 := B.c0
      have B1 := B.c1
      go_wp2_with fail
      (with_reducible refine (H17 _).out.mono ?_)
      rintro e y0 ⟨rfl, hg1⟩
      replace Z := Z.kp hg1.kp
      have HKF := Lib.hid (HK.out.trans (hg1.kp.mono HK.out.size))
      have Z0 := Z.c0
      have Z1 := Z.c1
      clear hg1 HK G B B0 B1 Z
      go_wp2_with fail
      go_ret
      exact ⟨rfl, HKF.out⟩

set_option maxRecDepth 100000 in
set_option maxHeartbeats 4000000 in
theorem wrong_d {a0 a1 way n gn gd : Int} {W0 : World} (a0l : 0 ≤ a0) (a0u : a0 ≤ 65535) (a1l : 0 ≤ a1) (a1u : a1 ≤ 65535) (wl : 0 ≤ way) (wu : way ≤ 255) (nl : -9223372036854775808 ≤ n) (nu : n ≤ 9223372036854775807) (hn : 65537 ≤ n) (hn2 : n < 2147483649)
    (hs : Sm 65536 gn gd) (HSx' : ∀ W, Calls Try.prog 13 #[.int .u16 a0, .int .u16 a1] W fun e w' => e = .returned (.tuple #[shr gn gd, .bool true]) ∧ GrewS W w') :
    Calls Try.prog 10 #[.agg #[.int .u16 a0, .int .u16 a1], .int .u8 way, .int .i64 n] W0 fun e w' => e = .returned (.bool true) ∧ Kp W0.heap.size W0 w' := by
  have HSx := fun w => Lib.hid (HSx' w)
  have HAw := fun w => Lib.hid (awake_any w)
  have g0 := hs.n0
  have g1 := hs.n1
  have g2 := hs.d0
  have g3 := hs.d1
  have HR := Lib.hid hs.r
  have HS0 := Lib.hid hs
  have w1 := wrap_in (x := 2 * gn) (by omega) (by omega)
  have w2 := wrap_in (x := 2 * gd) (by omega) (by omega)
  have hq : way % 6 = 0 ∨ way % 6 = 1 ∨ way % 6 = 2 ∨ way % 6 = 3 ∨ way % 6 = 4 ∨ way % 6 = 5 := by omega
  have r1 : Int.tmod way 6 = way % 6 := Int.tmod_eq_emod_of_nonneg wl
  have HQ := Lib.hid hq
  clear hs HSx' hq
  go_enter Try.func10, Try.ntmps10
  go_wp2_with fail
  (with_reducible refine (HAw _).out.mono ?_)
  have ka : Kp W0.heap.size W0 (W0.alloc (.cells #[.int .u16 a0, .int .u16 a1] 34)) := ((GrewS.refl W0).alloc _).kp
  have A := C2.new W0 (.int .u16 a0) (.int .u16 a1) 34
  rintro e u0 ⟨rfl, hk⟩
  have HK := Lib.hid (ka.trans (hk.mono ka.size))
  replace A := A.kp hk
  clear ka hk HAw
  have A0 := A.c0
  have A1 := A.c1
  go_wp2_with fail
  (with_reducible refine (HSx _).out.mono ?_)
  rintro e u1 ⟨rfl, hg⟩
  replace HK := Lib.hid (HK.out.trans (hg.kp.mono HK.out.size))
  clear A A0 A1 hg HSx
  go_upto_block 0 with fail
  have hsz := HK.out.size
  have G := (C2.new u1 (.int .i64 gn) (.int .i64 gd) 25).alloc (.cells #[.int .i64 gn, .int .i64 gd] 25)
  have B := C2.new (u1.alloc (.cells #[.int .i64 gn, .int .i64 gd] 25)) (.int .i64 gn) (.int .i64 gd) 25
  have FB := Fz.new (u1.alloc (.cells #[.int .i64 gn, .int .i64 gd] 25)) #[.int .i64 gn, .int .i64 gd] 25
  rw [show (u1.alloc (.cells #[.int .i64 gn, .int .i64 gd] 25)).heap.size = u1.heap.size + 1 by simp] at B FB
  replace HK := Lib.hid ((HK.out.alloc hsz (.cells #[.int .i64 gn, .int .i64 gd] 25)).alloc (by simp; omega) (.cells #[.int .i64 gn, .int .i64 gd] 25))
  generalize (u1.alloc (.cells #[.int .i64 gn, .int .i64 gd] 25)).alloc (.cells #[.int .i64 gn, .int .i64 gd] 25) = u2 at *
  have hne : u1.heap.size ≠ u1.heap.size + 1 := by omega
  generalize hbB : u1.heap.size + 1 = bB at *
  have hbl : W0.heap.size ≤ bB := by omega
  generalize u1.heap.size = bG at *
  clear hsz hbB
  go_cut [8] from 57 to 91 (fun p w' => p = .bool true ∧ ∃ bn bd : Int, rightS bn bd = false ∧ C2 w' bG (.int .i64 gn) (.int .i64 gd) ∧ C2 w' bB (.int .i64 bn) (.int .i64 bd) ∧ Kp W0.heap.size W0 w')
  case first =>
    have B0 := B.c0
    have B1 := B.c1
    have Bl := B.lt
    have FB2 := FB.2
    have G0 := G.c0
    have G1 := G.c1
    rcases HQ.out with hq | hq | hq | hq | hq | hq
    · go_wp2_with fail
      go_meet
      case rel => exact ⟨rfl, gn, 0, right_low (by omega), (G.far (p := ⟨bB, 1, none⟩) hne.symm _), (B.put1 _), HK.out.setCell (p := ⟨bB, 1, none⟩) hbl _⟩
    · go_wp2_with fail
      go_meet
      case rel => exact ⟨rfl, (-1), gd, right_low (by omega), (G.far (p := ⟨bB, 0, none⟩) hne.symm _), (B.put0 _), HK.out.setCell (p := ⟨bB, 0, none⟩) hbl _⟩
    · go_wp2_with fail
      go_meet
      case rel => exact ⟨rfl, 2147483649, 1, right_low (by omega), (G.far2 hne.symm _ _), (B.set _ _), (HK.out.setCell (p := ⟨bB, 0, none⟩) hbl _).setCell (p := ⟨bB, 1, none⟩) hbl _⟩
    · go_wp2_with fail
      go_meet
      case rel => exact ⟨rfl, 1, 2147483649, right_low (by omega), ((G.far (p := ⟨bB, 1, none⟩) hne.symm _).far (p := ⟨bB, 0, none⟩) hne.symm _), ((B.put1 _).put0 _), (HK.out.setCell (p := ⟨bB, 1, none⟩) hbl _).setCell (p := ⟨bB, 0, none⟩) hbl _⟩
    · go_wp2_with fail
      go_region
      go_wp2_with fail
      go_meet
      case rel => exact ⟨rfl, (2 * gn), (2 * gd), right_two HS0.out.n0 HS0.out.d0, ((G.far2 hne.symm _ _)).drew, ((B.set _ _)).drew, ((HK.out.setCell (p := ⟨bB, 0, none⟩) hbl _).setCell (p := ⟨bB, 1, none⟩) hbl _).drew⟩
    · go_wp2_with fail
      go_meet
      case rel => exact ⟨rfl, 0, 2, by kernel_rfl, (G.far2 hne.symm _ _), (B.set _ _), (HK.out.setCell (p := ⟨bB, 0, none⟩) hbl _).setCell (p := ⟨bB, 1, none⟩) hbl _⟩
  case rest =>
  clear G B FB HK hne hbl HQ
  obtain ⟨rfl, bn, bd, hbad, G, B, hk0⟩ := hcut
  have HK := Lib.hid hk0
  clear hk0
  have k1 := okS_f1 (c := gn) (d := gd) hbad
  have k2 := okS_f2 (a := gn) (b := gd) hbad
  have p1 := pl_bad k1
  have p2 := le_bad k2
  have p3 := tm_bad k2
  have p4 := ov_bad k1
  have p5 := cm_bad k2
  have p6 := sc_bad (n := 1) (Or.inl hbad : rightS bn bd = false ∨ (1 : Int) < 0 ∨ 2147483648 < (1 : Int))
  have p7 : sum3 [(gn, gd), (gn, gd), (bn, bd)] = (0, 0, 2) := by unfold sum3 rights; simp [HR.out, hbad]
  have p8 := sc_bad (a := gn) (b := gd) (n := 2147483649) (Or.inr (by omega))
  have p9 : ovN gn gd 0 1 = 0 ∧ ovD gn gd 0 1 = 0 ∧ ovE gn gd 0 1 = 6 := by
    unfold ovN ovD ovE
    rw [okS_t HR.out (by kernel_rfl)]
    exact ⟨rfl, rfl, rfl⟩
  have H1 := fun w => Lib.hid (show Calls Try.prog 15 #[shr bn bd, shr gn gd] w fun e w' => e = .returned (.tuple #[shr 0 0, .int .i64 2]) ∧ GrewS w w' from by have h := plus_any bn bd gn gd w; rw [p1.1, p1.2.1, p1.2.2] at h; exact h)
  have H2 := fun w => Lib.hid (show Calls Try.prog 17 #[shr gn gd, shr bn bd] w fun e w' => e = .returned (.tuple #[shr 0 0, .int .i64 2]) ∧ GrewS w w' from by have h := less_any gn gd bn bd w; rw [p2.1, p2.2.1, p2.2.2] at h; exact h)
  have H3 := fun w => Lib.hid (show Calls Try.prog 16 #[shr gn gd, shr bn bd] w fun e w' => e = .returned (.tuple #[shr 0 0, .int .i64 2]) ∧ GrewS w w' from by have h := times_any gn gd bn bd w; rw [p3.1, p3.2.1, p3.2.2] at h; exact h)
  have H4 := fun w => Lib.hid (show Calls Try.prog 18 #[shr bn bd, shr gn gd] w fun e w' => e = .returned (.tuple #[shr 0 0, .int .i64 2]) ∧ GrewS w w' from by have h := over_any bn bd gn gd w; rw [p4.1, p4.2.1, p4.2.2] at h; exact h)
  have H5 := fun w => Lib.hid (show Calls Try.prog 19 #[shr gn gd, shr bn bd] w fun e w' => e = .returned (.tuple #[.int .i64 0, .int .i64 2]) ∧ GrewS w w' from by have h := cmp_any gn gd bn bd w; rw [p5.1, p5.2] at h; exact h)
  have H6 := fun w A (hc : IsPrs w A 3 [(gn, gd), (gn, gd), (bn, bd)]) => Lib.hid (show Calls Try.prog 24 #[.slice A 3 3] w fun e w' => e = .returned (.tuple #[shr 0 0, .int .i64 2]) ∧ GrewS w w' from by have h := sum_any w A 3 3 [(gn, gd), (gn, gd), (bn, bd)] rfl (by decide) hc; rw [p7] at h; exact h)
  have H7 := fun w => Lib.hid (show Calls Try.prog 26 #[shr bn bd, .int .i64 1] w fun e w' => e = .returned (.tuple #[.int .i64 0, shr 0 0, .int .i64 2]) ∧ GrewS w w' from by have h := scale_any bn bd 1 w; rw [p6.1, p6.2.1, p6.2.2.1, p6.2.2.2] at h; exact h)
  have H8 := fun w => Lib.hid (of_err (-1) 1 w (by omega) (by omega) (by omega))
  have H9 := fun w => Lib.hid (of_err 1 0 w (by omega) (by omega) (by omega))
  have q1 : [5, 0].all wOk = false := by simp [wOk_not (w := 0) (by omega)]
  have q2 : [n].all wOk = false := by simp [wOk_not (w := n) (by omega)]
  have q3 : [(((-1) : Int), (2 : Int))].all levB = false := by
    have h : levB ((-1), 2) = false := decide_eq_false (by dsimp only; omega)
    simp [h]
  have H10 := fun w A (hc : IsInts w .i64 A 2 [5, 0]) => Lib.hid (parts_none w A 2 2 [5, 0] rfl (by decide) q1 hc)
  have H11 := fun w A (hc : IsInts w .i64 A 1 [n]) => Lib.hid (parts_none w A 1 1 [n] rfl (by decide) q2 hc)
  have H12 := fun w A (hc : IsPrs w A 2 [(1, 2), (3, 2)]) => Lib.hid (path_none w A 2 2 [(1, 2), (3, 2)] rfl (by decide) (by kernel_rfl) hc)
  have H13 := fun w A (hc : IsPrs w A 1 [((-1), 2)]) => Lib.hid (path_none w A 1 1 [((-1), 2)] rfl (by decide) q3 hc)
  have H14 := fun w => Lib.hid (show Calls Try.prog 26 #[shr gn gd, .int .i64 2147483649] w fun e w' => e = .returned (.tuple #[.int .i64 0, shr 0 0, .int .i64 2]) ∧ GrewS w w' from by have h := scale_any gn gd 2147483649 w; rw [p8.1, p8.2.1, p8.2.2.1, p8.2.2.2] at h; exact h)
  have H15 := fun w => Lib.hid (show Calls Try.prog 18 #[shr gn gd, shr 0 1] w fun e w' => e = .returned (.tuple #[shr 0 0, .int .i64 6]) ∧ GrewS w w' from by have h := over_any gn gd 0 1 w; rw [p9.1, p9.2.1, p9.2.2] at h; exact h)
  have H16 := fun w => Lib.hid (right_t w HR.out)
  have H17 := fun w => Lib.hid (right_f w hbad)
  clear hbad k1 k2 p1 p2 p3 p4 p5 p6 p7 p8 p9 q1 q2 q3 HR
  have G0 := G.c0
  have G1 := G.c1
  have Gl := G.lt
  have B0 := B.c0
  have B1 := B.c1
  have Bl := B.lt
  go_wp2_with fail
  (with_reducible refine (H1 _).out.mono ?_)
  clear G0 G1 Gl B0 B1 Bl
  rintro e v2 ⟨rfl, hg1⟩
  have k1 := hg1.kp
  replace G := (G).kp k1
  replace B := (B).kp k1
  replace HK := Lib.hid (HK.out.trans (k1.mono HK.out.size))
  clear k1 hg1 H1
  have G0 := G.c0
  have G1 := G.c1
  have Gl := G.lt
  have B0 := B.c0
  have B1 := B.c1
  have Bl := B.lt
  go_wp2_with fail
  (with_reducible refine (H2 _).out.mono ?_)
  clear G0 G1 Gl B0 B1 Bl
  rintro e v3 ⟨rfl, hg1⟩
  have k1 := hg1.kp
  replace G := ((G.alloc _)).kp k1
  replace B := ((B.alloc _)).kp k1
  have hs0 := HK.out.size
  replace HK := Lib.hid ((HK.out.alloc hs0 _).trans (k1.mono (by simp; omega)))
  clear hs0
  clear k1 hg1 H2
  have G0 := G.c0
  have G1 := G.c1
  have Gl := G.lt
  have B0 := B.c0
  have B1 := B.c1
  have Bl := B.lt
  go_wp2_with fail
  (with_reducible refine (H3 _).out.mono ?_)
  clear G0 G1 Gl B0 B1 Bl
  rintro e v4 ⟨rfl, hg1⟩
  have k1 := hg1.kp
  replace G := ((G.alloc _)).kp k1
  replace B := ((B.alloc _)).kp k1
  have hs0 := HK.out.size
  replace HK := Lib.hid ((HK.out.alloc hs0 _).trans (k1.mono (by simp; omega)))
  clear hs0
  clear k1 hg1 H3
  have G0 := G.c0
  have G1 := G.c1
  have Gl := G.lt
  have B0 := B.c0
  have B1 := B.c1
  have Bl := B.lt
  go_wp2_with fail
  (with_reducible refine (H4 _).out.mono ?_)
  clear G0 G1 Gl B0 B1 Bl
  rintro e v5 ⟨rfl, hg1⟩
  have k1 := hg1.kp
  replace G := ((G.alloc _)).kp k1
  replace B := ((B.alloc _)).kp k1
  have hs0 := HK.out.size
  replace HK := Lib.hid ((HK.out.alloc hs0 _).trans (k1.mono (by simp; omega)))
  clear hs0
  clear k1 hg1 H4
  have G0 := G.c0
  have G1 := G.c1
  have Gl := G.lt
  have B0 := B.c0
  have B1 := B.c1
  have Bl := B.lt
  go_wp2_with fail
  (with_reducible refine (H5 _).out.mono ?_)
  clear G0 G1 Gl B0 B1 Bl
  rintro e v6 ⟨rfl, hg1⟩
  have k1 := hg1.kp
  replace G := ((G.alloc _)).kp k1
  replace B := ((B.alloc _)).kp k1
  have hs0 := HK.out.size
  replace HK := Lib.hid ((HK.out.alloc hs0 _).trans (k1.mono (by simp; omega)))
  clear hs0
  clear k1 hg1 H5
  have G0 := G.c0
  have G1 := G.c1
  have Gl := G.lt
  have B0 := B.c0
  have B1 := B.c1
  have Bl := B.lt
  go_wp2_with fail
  have P := prs_new v6 [(gn, gd), (gn, gd), (bn, bd)] 25
  (with_reducible refine (H6 _ _ P).out.mono ?_)
  clear P
  clear G0 G1 Gl B0 B1 Bl
  rintro e v7 ⟨rfl, hg1⟩
  have k1 := hg1.kp
  replace G := ((G.alloc _)).kp k1
  replace B := ((B.alloc _)).kp k1
  have hs0 := HK.out.size
  replace HK := Lib.hid ((HK.out.alloc hs0 _).trans (k1.mono (by simp; omega)))
  clear hs0
  clear k1 hg1 H6
  have G0 := G.c0
  have G1 := G.c1
  have Gl := G.lt
  have B0 := B.c0
  have B1 := B.c1
  have Bl := B.lt
  go_wp2_with fail
  (with_reducible refine (H7 _).out.mono ?_)
  clear G0 G1 Gl B0 B1 Bl
  rintro e v8 ⟨rfl, hg1⟩
  have k1 := hg1.kp
  replace G := ((G.alloc _)).kp k1
  replace B := ((B.alloc _)).kp k1
  have hs0 := HK.out.size
  replace HK := Lib.hid ((HK.out.alloc hs0 _).trans (k1.mono (by simp; omega)))
  clear hs0
  clear k1 hg1 H7
  go_wp2_with fail
  (with_reducible refine (H8 _).out.mono ?_)
  rintro e v9 ⟨rfl, hg1⟩
  have k1 := hg1.kp
  replace G := ((G.alloc _)).kp k1
  replace B := ((B.alloc _)).kp k1
  have hs0 := HK.out.size
  replace HK := Lib.hid ((HK.out.alloc hs0 _).trans (k1.mono (by simp; omega)))
  clear hs0
  clear k1 hg1 H8
  go_wp2_with fail
  (with_reducible refine (H9 _).out.mono ?_)
  rintro e v10 ⟨rfl, hg1⟩
  have k1 := hg1.kp
  replace G := ((G.alloc _)).kp k1
  replace B := ((B.alloc _)).kp k1
  have hs0 := HK.out.size
  replace HK := Lib.hid ((HK.out.alloc hs0 _).trans (k1.mono (by simp; omega)))
  clear hs0
  clear k1 hg1 H9
  go_wp2_with fail
  have P := ints_new (v10.alloc (.cells #[.int .i64 0, .int .i64 0] 25)) [5, 0] 3
  rw [show (World.alloc v10 _).heap.size = v10.heap.size + 1 by simp] at P
  (with_reducible refine (H10 _ _ P).out.mono ?_)
  clear P
  rintro e v11 ⟨pv1, rfl, hg1⟩
  have k1 := hg1
  replace G := (((G.alloc _).alloc _)).kp k1
  replace B := (((B.alloc _).alloc _)).kp k1
  have hs0 := HK.out.size
  replace HK := Lib.hid (((HK.out.alloc hs0 _).alloc (by simp; omega) _).trans (k1.mono (by simp; omega)))
  clear hs0
  clear k1 hg1 H10
  go_wp2_with fail
  have P := ints_new v11 [n] 3
  (with_reducible refine (H11 _ _ P).out.mono ?_)
  clear P
  rintro e v12 ⟨pv2, rfl, hg1⟩
  have k1 := hg1
  replace G := ((G.alloc _)).kp k1
  replace B := ((B.alloc _)).kp k1
  have hs0 := HK.out.size
  replace HK := Lib.hid ((HK.out.alloc hs0 _).trans (k1.mono (by simp; omega)))
  clear hs0
  clear k1 hg1 H11
  go_wp2_with fail
  have P := prs_new v12 [(1, 2), (3, 2)] 55
  (with_reducible refine (H12 _ _ P).out.mono ?_)
  clear P
  rintro e v13 ⟨rfl, hg1⟩
  have k1 := hg1
  replace G := ((G.alloc _)).kp k1
  replace B := ((B.alloc _)).kp k1
  have hs0 := HK.out.size
  replace HK := Lib.hid ((HK.out.alloc hs0 _).trans (k1.mono (by simp; omega)))
  clear hs0
  clear k1 hg1 H12
  go_wp2_with fail
  have P := prs_new (v13.alloc (.cells #[.int .i64 0, .int .i64 0] 25)) [((-1), 2)] 55
  rw [show (World.alloc v13 _).heap.size = v13.heap.size + 1 by simp] at P
  (with_reducible refine (H13 _ _ P).out.mono ?_)
  clear P
  rintro e v14 ⟨rfl, hg1⟩
  have k1 := hg1
  replace G := (((G.alloc _).alloc _)).kp k1
  replace B := (((B.alloc _).alloc _)).kp k1
  have hs0 := HK.out.size
  replace HK := Lib.hid (((HK.out.alloc hs0 _).alloc (by simp; omega) _).trans (k1.mono (by simp; omega)))
  clear hs0
  clear k1 hg1 H13
  have G0 := G.c0
  have G1 := G.c1
  have Gl := G.lt
  go_wp2_with fail
  (with_reducible refine (H14 _).out.mono ?_)
  clear G0 G1 Gl
  rintro e v15 ⟨rfl, hg1⟩
  have k1 := hg1.kp
  replace G := ((G.alloc _)).kp k1
  replace B := ((B.alloc _)).kp k1
  have hs0 := HK.out.size
  replace HK := Lib.hid ((HK.out.alloc hs0 _).trans (k1.mono (by simp; omega)))
  clear hs0
  clear k1 hg1 H14
  go_wp2_with fail
  have hs0 := HK.out.size
  replace G := (G.alloc (.cells #[.int .i64 0, .int .i64 0] 25)).alloc (.cells #[.int .i64 2, .int .i64 2, .int .i64 2, .int .i64 2, .int .i64 2, .int .i64 2, .int .i64 2, .int .i64 2, .int .i64 2, .int .i64 2, .int .i64 2, .int .i64 2, .int .i64 2, .int .i64 2] 29)
  replace B := (B.alloc (.cells #[.int .i64 0, .int .i64 0] 25)).alloc (.cells #[.int .i64 2, .int .i64 2, .int .i64 2, .int .i64 2, .int .i64 2, .int .i64 2, .int .i64 2, .int .i64 2, .int .i64 2, .int .i64 2, .int .i64 2, .int .i64 2, .int .i64 2, .int .i64 2] 29)
  replace HK := Lib.hid ((HK.out.alloc hs0 (.cells #[.int .i64 0, .int .i64 0] 25)).alloc (by simp; omega) (.cells #[.int .i64 2, .int .i64 2, .int .i64 2, .int .i64 2, .int .i64 2, .int .i64 2, .int .i64 2, .int .i64 2, .int .i64 2, .int .i64 2, .int .i64 2, .int .i64 2, .int .i64 2, .int .i64 2] 29))
  have L : ∀ j : Nat, j < 14 → ((v15.alloc (.cells #[.int .i64 0, .int .i64 0] 25)).alloc (.cells #[.int .i64 2, .int .i64 2, .int .i64 2, .int .i64 2, .int .i64 2, .int .i64 2, .int .i64 2, .int .i64 2, .int .i64 2, .int .i64 2, .int .i64 2, .int .i64 2, .int .i64 2, .int .i64 2] 29)).cell? ⟨v15.heap.size + 1, j, none⟩ = some (.int .i64 2) := by
    intro j hj
    have h : j = 0 ∨ j = 1 ∨ j = 2 ∨ j = 3 ∨ j = 4 ∨ j = 5 ∨ j = 6 ∨ j = 7 ∨ j = 8 ∨ j = 9 ∨ j = 10 ∨ j = 11 ∨ j = 12 ∨ j = 13 := by omega
    rcases h with rfl | rfl | rfl | rfl | rfl | rfl | rfl | rfl | rfl | rfl | rfl | rfl | rfl | rfl <;> simp
  have HL := Lib.hid L
  clear L hs0
  generalize (v15.alloc (.cells #[.int .i64 0, .int .i64 0] 25)).alloc (.cells #[.int .i64 2, .int .i64 2, .int .i64 2, .int .i64 2, .int .i64 2, .int .i64 2, .int .i64 2, .int .i64 2, .int .i64 2, .int .i64 2, .int .i64 2, .int .i64 2, .int .i64 2, .int .i64 2] 29) = x0 at *
  generalize v15.heap.size = bL at *
  go_loopw [199] (fun i wr => ∃ k : Nat, k ≤ 14 ∧ i = .int .i64 k ∧ x0 = wr) (fun i _ => 14 - (intOf i).toNat)
  case atStart => exact ⟨0, Nat.zero_le _, rfl, by first | rfl | trivial⟩
  case round =>
    obtain ⟨k, hk, rfl, rfl⟩ := hrel
    by_cases hlt : k < 14
    · have L0 := HL.out k hlt
      have hki : (k : Int) < 14 := by omega
      go_wp2_with fail
      go_roundw
      case rel => exact ⟨k + 1, by omega, by go_num, by first | rfl | trivial⟩
      case measure => simp [intOf]; omega
    · have hke : k = 14 := by omega
      subst hke
      clear HL hlt hk
      have G0 := G.c0
      have G1 := G.c1
      have Gl := G.lt
      go_wp2_with fail
      (with_reducible refine (H15 _).out.mono ?_)
      clear G0 G1 Gl
      rintro e v16 ⟨rfl, hg1⟩
      have k1 := hg1.kp
      replace G := (G).kp k1
      replace B := (B).kp k1
      replace HK := Lib.hid (HK.out.trans (k1.mono HK.out.size))
      clear k1 hg1 H15
      have G0 := G.c0
      have G1 := G.c1
      have Gl := G.lt
      have B0 := B.c0
      have B1 := B.c1
      have Bl := B.lt
      go_wp2_with fail
      have Z := C2.new v16 (.int .i64 0) (.int .i64 0) 25
      (with_reducible refine (H16 _).out.mono ?_)
      clear G0 G1 Gl B0 B1 Bl
      rintro e v17 ⟨rfl, hg1⟩
      have k1 := hg1.kp
      replace G := ((G.alloc _)).kp k1
      replace B := ((B.alloc _)).kp k1
      replace Z := Z.kp k1
      have hs0 := HK.out.size
      replace HK := Lib.hid ((HK.out.alloc hs0 _).trans (k1.mono (by simp; omega)))
      clear hs0
      clear k1 hg1 H16
      have B0 := B.c0
      have B1 := B.c1
      go_wp2_with fail
      (with_reducible refine (H17 _).out.mono ?_)
      rintro e y0 ⟨rfl, hg1⟩
      replace Z := Z.kp hg1.kp
      have HKF := Lib.hid (HK.out.trans (hg1.kp.mono HK.out.size))
      have Z0 := Z.c0
      have Z1 := Z.c1
      clear hg1 HK G B B0 B1 Z
      go_wp2_with fail
      go_ret
      exact ⟨rfl, HKF.out⟩

set_option maxRecDepth 100000 in
set_option maxHeartbeats 4000000 in
theorem wrong_e {a0 a1 way n gn gd : Int} {W0 : World} (a0l : 0 ≤ a0) (a0u : a0 ≤ 65535) (a1l : 0 ≤ a1) (a1u : a1 ≤ 65535) (wl : 0 ≤ way) (wu : way ≤ 255) (nl : -9223372036854775808 ≤ n) (nu : n ≤ 9223372036854775807) (hn : 2147483649 ≤ n)
    (hs : Sm 65536 gn gd) (HSx' : ∀ W, Calls Try.prog 13 #[.int .u16 a0, .int .u16 a1] W fun e w' => e = .returned (.tuple #[shr gn gd, .bool true]) ∧ GrewS W w') :
    Calls Try.prog 10 #[.agg #[.int .u16 a0, .int .u16 a1], .int .u8 way, .int .i64 n] W0 fun e w' => e = .returned (.bool true) ∧ Kp W0.heap.size W0 w' := by
  have HSx := fun w => Lib.hid (HSx' w)
  have HAw := fun w => Lib.hid (awake_any w)
  have g0 := hs.n0
  have g1 := hs.n1
  have g2 := hs.d0
  have g3 := hs.d1
  have HR := Lib.hid hs.r
  have HS0 := Lib.hid hs
  have w1 := wrap_in (x := 2 * gn) (by omega) (by omega)
  have w2 := wrap_in (x := 2 * gd) (by omega) (by omega)
  have hq : way % 6 = 0 ∨ way % 6 = 1 ∨ way % 6 = 2 ∨ way % 6 = 3 ∨ way % 6 = 4 ∨ way % 6 = 5 := by omega
  have r1 : Int.tmod way 6 = way % 6 := Int.tmod_eq_emod_of_nonneg wl
  have HQ := Lib.hid hq
  clear hs HSx' hq
  go_enter Try.func10, Try.ntmps10
  go_wp2_with fail
  (with_reducible refine (HAw _).out.mono ?_)
  have ka : Kp W0.heap.size W0 (W0.alloc (.cells #[.int .u16 a0, .int .u16 a1] 34)) := ((GrewS.refl W0).alloc _).kp
  have A := C2.new W0 (.int .u16 a0) (.int .u16 a1) 34
  rintro e u0 ⟨rfl, hk⟩
  have HK := Lib.hid (ka.trans (hk.mono ka.size))
  replace A := A.kp hk
  clear ka hk HAw
  have A0 := A.c0
  have A1 := A.c1
  go_wp2_with fail
  (with_reducible refine (HSx _).out.mono ?_)
  rintro e u1 ⟨rfl, hg⟩
  replace HK := Lib.hid (HK.out.trans (hg.kp.mono HK.out.size))
  clear A A0 A1 hg HSx
  go_upto_block 0 with fail
  have hsz := HK.out.size
  have G := (C2.new u1 (.int .i64 gn) (.int .i64 gd) 25).alloc (.cells #[.int .i64 gn, .int .i64 gd] 25)
  have B := C2.new (u1.alloc (.cells #[.int .i64 gn, .int .i64 gd] 25)) (.int .i64 gn) (.int .i64 gd) 25
  have FB := Fz.new (u1.alloc (.cells #[.int .i64 gn, .int .i64 gd] 25)) #[.int .i64 gn, .int .i64 gd] 25
  rw [show (u1.alloc (.cells #[.int .i64 gn, .int .i64 gd] 25)).heap.size = u1.heap.size + 1 by simp] at B FB
  replace HK := Lib.hid ((HK.out.alloc hsz (.cells #[.int .i64 gn, .int .i64 gd] 25)).alloc (by simp; omega) (.cells #[.int .i64 gn, .int .i64 gd] 25))
  generalize (u1.alloc (.cells #[.int .i64 gn, .int .i64 gd] 25)).alloc (.cells #[.int .i64 gn, .int .i64 gd] 25) = u2 at *
  have hne : u1.heap.size ≠ u1.heap.size + 1 := by omega
  generalize hbB : u1.heap.size + 1 = bB at *
  have hbl : W0.heap.size ≤ bB := by omega
  generalize u1.heap.size = bG at *
  clear hsz hbB
  go_cut [8] from 57 to 91 (fun p w' => p = .bool true ∧ ∃ bn bd : Int, rightS bn bd = false ∧ C2 w' bG (.int .i64 gn) (.int .i64 gd) ∧ C2 w' bB (.int .i64 bn) (.int .i64 bd) ∧ Kp W0.heap.size W0 w')
  case first =>
    have B0 := B.c0
    have B1 := B.c1
    have Bl := B.lt
    have FB2 := FB.2
    have G0 := G.c0
    have G1 := G.c1
    rcases HQ.out with hq | hq | hq | hq | hq | hq
    · go_wp2_with fail
      go_meet
      case rel => exact ⟨rfl, gn, 0, right_low (by omega), (G.far (p := ⟨bB, 1, none⟩) hne.symm _), (B.put1 _), HK.out.setCell (p := ⟨bB, 1, none⟩) hbl _⟩
    · go_wp2_with fail
      go_meet
      case rel => exact ⟨rfl, (-1), gd, right_low (by omega), (G.far (p := ⟨bB, 0, none⟩) hne.symm _), (B.put0 _), HK.out.setCell (p := ⟨bB, 0, none⟩) hbl _⟩
    · go_wp2_with fail
      go_meet
      case rel => exact ⟨rfl, n, 1, right_low (by omega), (G.far2 hne.symm _ _), (B.set _ _), (HK.out.setCell (p := ⟨bB, 0, none⟩) hbl _).setCell (p := ⟨bB, 1, none⟩) hbl _⟩
    · go_wp2_with fail
      go_meet
      case rel => exact ⟨rfl, 1, n, right_low (by omega), ((G.far (p := ⟨bB, 1, none⟩) hne.symm _).far (p := ⟨bB, 0, none⟩) hne.symm _), ((B.put1 _).put0 _), (HK.out.setCell (p := ⟨bB, 1, none⟩) hbl _).setCell (p := ⟨bB, 0, none⟩) hbl _⟩
    · go_wp2_with fail
      go_region
      go_wp2_with fail
      go_meet
      case rel => exact ⟨rfl, (2 * gn), (2 * gd), right_two HS0.out.n0 HS0.out.d0, ((G.far2 hne.symm _ _)).drew, ((B.set _ _)).drew, ((HK.out.setCell (p := ⟨bB, 0, none⟩) hbl _).setCell (p := ⟨bB, 1, none⟩) hbl _).drew⟩
    · go_wp2_with fail
      go_meet
      case rel => exact ⟨rfl, 0, 2, by kernel_rfl, (G.far2 hne.symm _ _), (B.set _ _), (HK.out.setCell (p := ⟨bB, 0, none⟩) hbl _).setCell (p := ⟨bB, 1, none⟩) hbl _⟩
  case rest =>
  clear G B FB HK hne hbl HQ
  obtain ⟨rfl, bn, bd, hbad, G, B, hk0⟩ := hcut
  have HK := Lib.hid hk0
  clear hk0
  have k1 := okS_f1 (c := gn) (d := gd) hbad
  have k2 := okS_f2 (a := gn) (b := gd) hbad
  have p1 := pl_bad k1
  have p2 := le_bad k2
  have p3 := tm_bad k2
  have p4 := ov_bad k1
  have p5 := cm_bad k2
  have p6 := sc_bad (n := 1) (Or.inl hbad : rightS bn bd = false ∨ (1 : Int) < 0 ∨ 2147483648 < (1 : Int))
  have p7 : sum3 [(gn, gd), (gn, gd), (bn, bd)] = (0, 0, 2) := by unfold sum3 rights; simp [HR.out, hbad]
  have p8 := sc_bad (a := gn) (b := gd) (n := n) (Or.inr (by omega))
  have p9 : ovN gn gd 0 1 = 0 ∧ ovD gn gd 0 1 = 0 ∧ ovE gn gd 0 1 = 6 := by
    unfold ovN ovD ovE
    rw [okS_t HR.out (by kernel_rfl)]
    exact ⟨rfl, rfl, rfl⟩
  have H1 := fun w => Lib.hid (show Calls Try.prog 15 #[shr bn bd, shr gn gd] w fun e w' => e = .returned (.tuple #[shr 0 0, .int .i64 2]) ∧ GrewS w w' from by have h := plus_any bn bd gn gd w; rw [p1.1, p1.2.1, p1.2.2] at h; exact h)
  have H2 := fun w => Lib.hid (show Calls Try.prog 17 #[shr gn gd, shr bn bd] w fun e w' => e = .returned (.tuple #[shr 0 0, .int .i64 2]) ∧ GrewS w w' from by have h := less_any gn gd bn bd w; rw [p2.1, p2.2.1, p2.2.2] at h; exact h)
  have H3 := fun w => Lib.hid (show Calls Try.prog 16 #[shr gn gd, shr bn bd] w fun e w' => e = .returned (.tuple #[shr 0 0, .int .i64 2]) ∧ GrewS w w' from by have h := times_any gn gd bn bd w; rw [p3.1, p3.2.1, p3.2.2] at h; exact h)
  have H4 := fun w => Lib.hid (show Calls Try.prog 18 #[shr bn bd, shr gn gd] w fun e w' => e = .returned (.tuple #[shr 0 0, .int .i64 2]) ∧ GrewS w w' from by have h := over_any bn bd gn gd w; rw [p4.1, p4.2.1, p4.2.2] at h; exact h)
  have H5 := fun w => Lib.hid (show Calls Try.prog 19 #[shr gn gd, shr bn bd] w fun e w' => e = .returned (.tuple #[.int .i64 0, .int .i64 2]) ∧ GrewS w w' from by have h := cmp_any gn gd bn bd w; rw [p5.1, p5.2] at h; exact h)
  have H6 := fun w A (hc : IsPrs w A 3 [(gn, gd), (gn, gd), (bn, bd)]) => Lib.hid (show Calls Try.prog 24 #[.slice A 3 3] w fun e w' => e = .returned (.tuple #[shr 0 0, .int .i64 2]) ∧ GrewS w w' from by have h := sum_any w A 3 3 [(gn, gd), (gn, gd), (bn, bd)] rfl (by decide) hc; rw [p7] at h; exact h)
  have H7 := fun w => Lib.hid (show Calls Try.prog 26 #[shr bn bd, .int .i64 1] w fun e w' => e = .returned (.tuple #[.int .i64 0, shr 0 0, .int .i64 2]) ∧ GrewS w w' from by have h := scale_any bn bd 1 w; rw [p6.1, p6.2.1, p6.2.2.1, p6.2.2.2] at h; exact h)
  have H8 := fun w => Lib.hid (of_err (-1) 1 w (by omega) (by omega) (by omega))
  have H9 := fun w => Lib.hid (of_err 1 0 w (by omega) (by omega) (by omega))
  have q1 : [5, 0].all wOk = false := by simp [wOk_not (w := 0) (by omega)]
  have q2 : [n].all wOk = false := by simp [wOk_not (w := n) (by omega)]
  have q3 : [(((-1) : Int), (2 : Int))].all levB = false := by
    have h : levB ((-1), 2) = false := decide_eq_false (by dsimp only; omega)
    simp [h]
  have H10 := fun w A (hc : IsInts w .i64 A 2 [5, 0]) => Lib.hid (parts_none w A 2 2 [5, 0] rfl (by decide) q1 hc)
  have H11 := fun w A (hc : IsInts w .i64 A 1 [n]) => Lib.hid (parts_none w A 1 1 [n] rfl (by decide) q2 hc)
  have H12 := fun w A (hc : IsPrs w A 2 [(1, 2), (3, 2)]) => Lib.hid (path_none w A 2 2 [(1, 2), (3, 2)] rfl (by decide) (by kernel_rfl) hc)
  have H13 := fun w A (hc : IsPrs w A 1 [((-1), 2)]) => Lib.hid (path_none w A 1 1 [((-1), 2)] rfl (by decide) q3 hc)
  have H14 := fun w => Lib.hid (show Calls Try.prog 26 #[shr gn gd, .int .i64 n] w fun e w' => e = .returned (.tuple #[.int .i64 0, shr 0 0, .int .i64 2]) ∧ GrewS w w' from by have h := scale_any gn gd n w; rw [p8.1, p8.2.1, p8.2.2.1, p8.2.2.2] at h; exact h)
  have H15 := fun w => Lib.hid (show Calls Try.prog 18 #[shr gn gd, shr 0 1] w fun e w' => e = .returned (.tuple #[shr 0 0, .int .i64 6]) ∧ GrewS w w' from by have h := over_any gn gd 0 1 w; rw [p9.1, p9.2.1, p9.2.2] at h; exact h)
  have H16 := fun w => Lib.hid (right_t w HR.out)
  have H17 := fun w => Lib.hid (right_f w hbad)
  clear hbad k1 k2 p1 p2 p3 p4 p5 p6 p7 p8 p9 q1 q2 q3 HR
  have G0 := G.c0
  have G1 := G.c1
  have Gl := G.lt
  have B0 := B.c0
  have B1 := B.c1
  have Bl := B.lt
  go_wp2_with fail
  (with_reducible refine (H1 _).out.mono ?_)
  clear G0 G1 Gl B0 B1 Bl
  rintro e v2 ⟨rfl, hg1⟩
  have k1 := hg1.kp
  replace G := (G).kp k1
  replace B := (B).kp k1
  replace HK := Lib.hid (HK.out.trans (k1.mono HK.out.size))
  clear k1 hg1 H1
  have G0 := G.c0
  have G1 := G.c1
  have Gl := G.lt
  have B0 := B.c0
  have B1 := B.c1
  have Bl := B.lt
  go_wp2_with fail
  (with_reducible refine (H2 _).out.mono ?_)
  clear G0 G1 Gl B0 B1 Bl
  rintro e v3 ⟨rfl, hg1⟩
  have k1 := hg1.kp
  replace G := ((G.alloc _)).kp k1
  replace B := ((B.alloc _)).kp k1
  have hs0 := HK.out.size
  replace HK := Lib.hid ((HK.out.alloc hs0 _).trans (k1.mono (by simp; omega)))
  clear hs0
  clear k1 hg1 H2
  have G0 := G.c0
  have G1 := G.c1
  have Gl := G.lt
  have B0 := B.c0
  have B1 := B.c1
  have Bl := B.lt
  go_wp2_with fail
  (with_reducible refine (H3 _).out.mono ?_)
  clear G0 G1 Gl B0 B1 Bl
  rintro e v4 ⟨rfl, hg1⟩
  have k1 := hg1.kp
  replace G := ((G.alloc _)).kp k1
  replace B := ((B.alloc _)).kp k1
  have hs0 := HK.out.size
  replace HK := Lib.hid ((HK.out.alloc hs0 _).trans (k1.mono (by simp; omega)))
  clear hs0
  clear k1 hg1 H3
  have G0 := G.c0
  have G1 := G.c1
  have Gl := G.lt
  have B0 := B.c0
  have B1 := B.c1
  have Bl := B.lt
  go_wp2_with fail
  (with_reducible refine (H4 _).out.mono ?_)
  clear G0 G1 Gl B0 B1 Bl
  rintro e v5 ⟨rfl, hg1⟩
  have k1 := hg1.kp
  replace G := ((G.alloc _)).kp k1
  replace B := ((B.alloc _)).kp k1
  have hs0 := HK.out.size
  replace HK := Lib.hid ((HK.out.alloc hs0 _).trans (k1.mono (by simp; omega)))
  clear hs0
  clear k1 hg1 H4
  have G0 := G.c0
  have G1 := G.c1
  have Gl := G.lt
  have B0 := B.c0
  have B1 := B.c1
  have Bl := B.lt
  go_wp2_with fail
  (with_reducible refine (H5 _).out.mono ?_)
  clear G0 G1 Gl B0 B1 Bl
  rintro e v6 ⟨rfl, hg1⟩
  have k1 := hg1.kp
  replace G := ((G.alloc _)).kp k1
  replace B := ((B.alloc _)).kp k1
  have hs0 := HK.out.size
  replace HK := Lib.hid ((HK.out.alloc hs0 _).trans (k1.mono (by simp; omega)))
  clear hs0
  clear k1 hg1 H5
  have G0 := G.c0
  have G1 := G.c1
  have Gl := G.lt
  have B0 := B.c0
  have B1 := B.c1
  have Bl := B.lt
  go_wp2_with fail
  have P := prs_new v6 [(gn, gd), (gn, gd), (bn, bd)] 25
  (with_reducible refine (H6 _ _ P).out.mono ?_)
  clear P
  clear G0 G1 Gl B0 B1 Bl
  rintro e v7 ⟨rfl, hg1⟩
  have k1 := hg1.kp
  replace G := ((G.alloc _)).kp k1
  replace B := ((B.alloc _)).kp k1
  have hs0 := HK.out.size
  replace HK := Lib.hid ((HK.out.alloc hs0 _).trans (k1.mono (by simp; omega)))
  clear hs0
  clear k1 hg1 H6
  have G0 := G.c0
  have G1 := G.c1
  have Gl := G.lt
  have B0 := B.c0
  have B1 := B.c1
  have Bl := B.lt
  go_wp2_with fail
  (with_reducible refine (H7 _).out.mono ?_)
  clear G0 G1 Gl B0 B1 Bl
  rintro e v8 ⟨rfl, hg1⟩
  have k1 := hg1.kp
  replace G := ((G.alloc _)).kp k1
  replace B := ((B.alloc _)).kp k1
  have hs0 := HK.out.size
  replace HK := Lib.hid ((HK.out.alloc hs0 _).trans (k1.mono (by simp; omega)))
  clear hs0
  clear k1 hg1 H7
  go_wp2_with fail
  (with_reducible refine (H8 _).out.mono ?_)
  rintro e v9 ⟨rfl, hg1⟩
  have k1 := hg1.kp
  replace G := ((G.alloc _)).kp k1
  replace B := ((B.alloc _)).kp k1
  have hs0 := HK.out.size
  replace HK := Lib.hid ((HK.out.alloc hs0 _).trans (k1.mono (by simp; omega)))
  clear hs0
  clear k1 hg1 H8
  go_wp2_with fail
  (with_reducible refine (H9 _).out.mono ?_)
  rintro e v10 ⟨rfl, hg1⟩
  have k1 := hg1.kp
  replace G := ((G.alloc _)).kp k1
  replace B := ((B.alloc _)).kp k1
  have hs0 := HK.out.size
  replace HK := Lib.hid ((HK.out.alloc hs0 _).trans (k1.mono (by simp; omega)))
  clear hs0
  clear k1 hg1 H9
  go_wp2_with fail
  have P := ints_new (v10.alloc (.cells #[.int .i64 0, .int .i64 0] 25)) [5, 0] 3
  rw [show (World.alloc v10 _).heap.size = v10.heap.size + 1 by simp] at P
  (with_reducible refine (H10 _ _ P).out.mono ?_)
  clear P
  rintro e v11 ⟨pv1, rfl, hg1⟩
  have k1 := hg1
  replace G := (((G.alloc _).alloc _)).kp k1
  replace B := (((B.alloc _).alloc _)).kp k1
  have hs0 := HK.out.size
  replace HK := Lib.hid (((HK.out.alloc hs0 _).alloc (by simp; omega) _).trans (k1.mono (by simp; omega)))
  clear hs0
  clear k1 hg1 H10
  go_wp2_with fail
  have P := ints_new v11 [n] 3
  (with_reducible refine (H11 _ _ P).out.mono ?_)
  clear P
  rintro e v12 ⟨pv2, rfl, hg1⟩
  have k1 := hg1
  replace G := ((G.alloc _)).kp k1
  replace B := ((B.alloc _)).kp k1
  have hs0 := HK.out.size
  replace HK := Lib.hid ((HK.out.alloc hs0 _).trans (k1.mono (by simp; omega)))
  clear hs0
  clear k1 hg1 H11
  go_wp2_with fail
  have P := prs_new v12 [(1, 2), (3, 2)] 55
  (with_reducible refine (H12 _ _ P).out.mono ?_)
  clear P
  rintro e v13 ⟨rfl, hg1⟩
  have k1 := hg1
  replace G := ((G.alloc _)).kp k1
  replace B := ((B.alloc _)).kp k1
  have hs0 := HK.out.size
  replace HK := Lib.hid ((HK.out.alloc hs0 _).trans (k1.mono (by simp; omega)))
  clear hs0
  clear k1 hg1 H12
  go_wp2_with fail
  have P := prs_new (v13.alloc (.cells #[.int .i64 0, .int .i64 0] 25)) [((-1), 2)] 55
  rw [show (World.alloc v13 _).heap.size = v13.heap.size + 1 by simp] at P
  (with_reducible refine (H13 _ _ P).out.mono ?_)
  clear P
  rintro e v14 ⟨rfl, hg1⟩
  have k1 := hg1
  replace G := (((G.alloc _).alloc _)).kp k1
  replace B := (((B.alloc _).alloc _)).kp k1
  have hs0 := HK.out.size
  replace HK := Lib.hid (((HK.out.alloc hs0 _).alloc (by simp; omega) _).trans (k1.mono (by simp; omega)))
  clear hs0
  clear k1 hg1 H13
  have G0 := G.c0
  have G1 := G.c1
  have Gl := G.lt
  go_wp2_with fail
  (with_reducible refine (H14 _).out.mono ?_)
  clear G0 G1 Gl
  rintro e v15 ⟨rfl, hg1⟩
  have k1 := hg1.kp
  replace G := ((G.alloc _)).kp k1
  replace B := ((B.alloc _)).kp k1
  have hs0 := HK.out.size
  replace HK := Lib.hid ((HK.out.alloc hs0 _).trans (k1.mono (by simp; omega)))
  clear hs0
  clear k1 hg1 H14
  go_wp2_with fail
  have hs0 := HK.out.size
  replace G := (G.alloc (.cells #[.int .i64 0, .int .i64 0] 25)).alloc (.cells #[.int .i64 2, .int .i64 2, .int .i64 2, .int .i64 2, .int .i64 2, .int .i64 2, .int .i64 2, .int .i64 2, .int .i64 2, .int .i64 2, .int .i64 2, .int .i64 2, .int .i64 2, .int .i64 2] 29)
  replace B := (B.alloc (.cells #[.int .i64 0, .int .i64 0] 25)).alloc (.cells #[.int .i64 2, .int .i64 2, .int .i64 2, .int .i64 2, .int .i64 2, .int .i64 2, .int .i64 2, .int .i64 2, .int .i64 2, .int .i64 2, .int .i64 2, .int .i64 2, .int .i64 2, .int .i64 2] 29)
  replace HK := Lib.hid ((HK.out.alloc hs0 (.cells #[.int .i64 0, .int .i64 0] 25)).alloc (by simp; omega) (.cells #[.int .i64 2, .int .i64 2, .int .i64 2, .int .i64 2, .int .i64 2, .int .i64 2, .int .i64 2, .int .i64 2, .int .i64 2, .int .i64 2, .int .i64 2, .int .i64 2, .int .i64 2, .int .i64 2] 29))
  have L : ∀ j : Nat, j < 14 → ((v15.alloc (.cells #[.int .i64 0, .int .i64 0] 25)).alloc (.cells #[.int .i64 2, .int .i64 2, .int .i64 2, .int .i64 2, .int .i64 2, .int .i64 2, .int .i64 2, .int .i64 2, .int .i64 2, .int .i64 2, .int .i64 2, .int .i64 2, .int .i64 2, .int .i64 2] 29)).cell? ⟨v15.heap.size + 1, j, none⟩ = some (.int .i64 2) := by
    intro j hj
    have h : j = 0 ∨ j = 1 ∨ j = 2 ∨ j = 3 ∨ j = 4 ∨ j = 5 ∨ j = 6 ∨ j = 7 ∨ j = 8 ∨ j = 9 ∨ j = 10 ∨ j = 11 ∨ j = 12 ∨ j = 13 := by omega
    rcases h with rfl | rfl | rfl | rfl | rfl | rfl | rfl | rfl | rfl | rfl | rfl | rfl | rfl | rfl <;> simp
  have HL := Lib.hid L
  clear L hs0
  generalize (v15.alloc (.cells #[.int .i64 0, .int .i64 0] 25)).alloc (.cells #[.int .i64 2, .int .i64 2, .int .i64 2, .int .i64 2, .int .i64 2, .int .i64 2, .int .i64 2, .int .i64 2, .int .i64 2, .int .i64 2, .int .i64 2, .int .i64 2, .int .i64 2, .int .i64 2] 29) = x0 at *
  generalize v15.heap.size = bL at *
  go_loopw [199] (fun i wr => ∃ k : Nat, k ≤ 14 ∧ i = .int .i64 k ∧ x0 = wr) (fun i _ => 14 - (intOf i).toNat)
  case atStart => exact ⟨0, Nat.zero_le _, rfl, by first | rfl | trivial⟩
  case round =>
    obtain ⟨k, hk, rfl, rfl⟩ := hrel
    by_cases hlt : k < 14
    · have L0 := HL.out k hlt
      have hki : (k : Int) < 14 := by omega
      go_wp2_with fail
      go_roundw
      case rel => exact ⟨k + 1, by omega, by go_num, by first | rfl | trivial⟩
      case measure => simp [intOf]; omega
    · have hke : k = 14 := by omega
      subst hke
      clear HL hlt hk
      have G0 := G.c0
      have G1 := G.c1
      have Gl := G.lt
      go_wp2_with fail
      (with_reducible refine (H15 _).out.mono ?_)
      clear G0 G1 Gl
      rintro e v16 ⟨rfl, hg1⟩
      have k1 := hg1.kp
      replace G := (G).kp k1
      replace B := (B).kp k1
      replace HK := Lib.hid (HK.out.trans (k1.mono HK.out.size))
      clear k1 hg1 H15
      have G0 := G.c0
      have G1 := G.c1
      have Gl := G.lt
      have B0 := B.c0
      have B1 := B.c1
      have Bl := B.lt
      go_wp2_with fail
      have Z := C2.new v16 (.int .i64 0) (.int .i64 0) 25
      (with_reducible refine (H16 _).out.mono ?_)
      clear G0 G1 Gl B0 B1 Bl
      rintro e v17 ⟨rfl, hg1⟩
      have k1 := hg1.kp
      replace G := ((G.alloc _)).kp k1
      replace B := ((B.alloc _)).kp k1
      replace Z := Z.kp k1
      have hs0 := HK.out.size
      replace HK := Lib.hid ((HK.out.alloc hs0 _).trans (k1.mono (by simp; omega)))
      clear hs0
      clear k1 hg1 H16
      have B0 := B.c0
      have B1 := B.c1
      go_wp2_with fail
      (with_reducible refine (H17 _).out.mono ?_)
      rintro e y0 ⟨rfl, hg1⟩
      replace Z := Z.kp hg1.kp
      have HKF := Lib.hid (HK.out.trans (hg1.kp.mono HK.out.size))
      have Z0 := Z.c0
      have Z1 := Z.c1
      clear hg1 HK G B B0 B1 Z
      go_wp2_with fail
      go_ret
      exact ⟨rfl, HKF.out⟩

theorem law10 {a0 a1 : Int} {W0 : World} (ha0 : (Lit.int .u16 a0).wf = true) (ha1 : (Lit.int .u16 a1).wf = true) (way : Int) (hw : (Lit.int .u8 way).wf = true) (n : Int) (hn : (Lit.int .i64 n).wf = true) :
    Calls Try.prog 10 #[.agg #[.int .u16 a0, .int .u16 a1], .int .u8 way, .int .i64 n] W0 fun e w' => e = .returned (.bool true) ∧ Kp W0.heap.size W0 w' := by
  obtain ⟨a0l, a0u⟩ := bounds_u16 ha0
  obtain ⟨a1l, a1u⟩ := bounds_u16 ha1
  obtain ⟨wl, wu⟩ := bounds_u8 hw
  obtain ⟨nl, nu⟩ := bounds_i64 hn
  have hs := (sm_of a0l a0u a1l a1u).2.1
  have HSx := fun W => small_any (n := a0) (d := a1) W a0l a0u a1l a1u
  generalize ofN a0 (1 + a1) = gn at *
  generalize ofD a0 (1 + a1) = gd at *
  rcases (show n ≤ -1 ∨ n = 0 ∨ (0 < n ∧ n < 65537) ∨ (65537 ≤ n ∧ n < 2147483649) ∨ 2147483649 ≤ n by omega) with h | rfl | ⟨h, h2⟩ | ⟨h, h2⟩ | h
  · exact wrong_a a0l a0u a1l a1u wl wu nl nu h hs HSx
  · exact wrong_b a0l a0u a1l a1u wl wu hs HSx
  · exact wrong_c a0l a0u a1l a1u wl wu nl nu h h2 hs HSx
  · exact wrong_d a0l a0u a1l a1u wl wu nl nu h h2 hs HSx
  · exact wrong_e a0l a0u a1l a1u wl wu nl nu h hs HSx
end Go.Proofs.Ytjffikiebeneaaa
