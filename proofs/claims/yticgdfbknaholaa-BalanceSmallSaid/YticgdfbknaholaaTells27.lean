/-
  The contract of tells.
-/
import Derived.Test.YticgdfbknaholaaTel27
namespace Go.Proofs.Yticgdfbknaholaa
open Go.RowKit

set_option maxRecDepth 100000 in
set_option maxHeartbeats 8000000 in
theorem tells_any (W : World) {A B : Option Addr} {la ca lb cb : Nat} {s : Sc} {cpu k x y most : Int} (h : ScAt W A la B lb s) (hA : A = none → ca = 0) (hB : B = none → cb = 0) (hla : la ≤ 60) (hlb : lb * 8 ≤ 140737488355328) (hm : most ≤ 200)
    (q0 : -9223372036854775808 ≤ cpu) (q1 : cpu ≤ 9223372036854775807) :
    Calls Try.prog 24 #[.agg #[.int .i64 s.n, .slice A la ca, .slice B lb cb], .int .i64 cpu, .agg #[.int .i64 k, .int .i64 x, .int .i64 y], .int .i64 most] W fun e w' => e = .returned (.bool true) ∧ Kp W.heap.size W w' := by
  have k1 := (Kp.refl W.heap.size W).alloc (Nat.le_refl _) (.cells #[.int .i64 s.n, .slice A la ca, .slice B lb cb] 30)
  have k2 := k1.alloc (by simp) (.cells #[.int .i64 k, .int .i64 x, .int .i64 y] 38)
  have hx := (C3.new W (.int .i64 s.n) (.slice A la ca) (.slice B lb cb) 30).alloc (.cells #[.int .i64 k, .int .i64 x, .int .i64 y] 38)
  have hm0 := C3.new (W.alloc (.cells #[.int .i64 s.n, .slice A la ca, .slice B lb cb] 30)) (.int .i64 k) (.int .i64 x) (.int .i64 y) 38
  simp only [World.size_alloc] at hm0
  have X4 := Lib.hid hx
  have X6 := Lib.hid hm0
  have K := Lib.hid k2
  have SA := Lib.hid (h.kp k2)
  have NA := Lib.hid hA
  have NB := Lib.hid hB
  have Q0 := Lib.hid q0
  have Q1 := Lib.hid q1
  have QM := Lib.hid (show most ≤ 1000000 by omega)
  clear h hA hB k1 k2 hx hm0 q0 q1 hm
  go_enter Try.func24, Try.ntmps24
  go_upto_region 1 with fail
  generalize (W.alloc _).alloc _ = w1 at *
  obtain ⟨b4, hb4⟩ : ∃ b, b = W.heap.size := ⟨_, rfl⟩
  obtain ⟨b6, hb6⟩ : ∃ b, b = W.heap.size + 1 := ⟨_, rfl⟩
  rw [← hb4] at X4
  rw [← hb6] at X6
  rw [← hb6, ← hb4]
  clear hb4 hb6
  have HT := Lib.hid (turned_any (ca := ca) (cb := cb) w1 SA.out NA.out NB.out (by omega) hlb)
  obtain ⟨x0, x1, x2, xl⟩ := X4.out
  go_wp2_with fail
  (with_reducible refine HT.out.mono ?_)
  clear x0 x1 x2 xl HT
  rintro e w2 ⟨Ax, cax, Bx, cbx, rfl, hsx, hox, hoy, -, hk⟩
  replace X4 := Lib.hid (X4.out.kp hk)
  replace X6 := Lib.hid (X6.out.kp hk)
  replace SA := Lib.hid (SA.out.kp hk)
  replace K := Lib.hid (K.out.trans (hk.mono K.out.size))
  have SX := Lib.hid hsx
  have NX := Lib.hid hox.nil
  have NY := Lib.hid hoy.nil
  clear hk hsx hox hoy
  go_upto_region 2 with fail
  have kk : Kp w2.heap.size w2 (w2.alloc (.cells #[.int .i64 s.n, .slice Ax la cax, .slice Bx lb cbx] 83)) := (Kp.refl _ _).alloc (Nat.le_refl _) _
  have X9 := Lib.hid (C3.new w2 (.int .i64 s.n) (.slice Ax la cax) (.slice Bx lb cbx) 83)
  replace X4 := Lib.hid (X4.out.kp kk)
  replace X6 := Lib.hid (X6.out.kp kk)
  replace SA := Lib.hid (SA.out.kp kk)
  replace SX := Lib.hid (SX.out.kp kk)
  replace K := Lib.hid (K.out.trans (kk.mono K.out.size))
  obtain ⟨b9, hb9⟩ : ∃ b, b = w2.heap.size := ⟨_, rfl⟩
  rw [← hb9] at X9
  rw [← hb9]
  clear hb9 kk
  generalize w2.alloc _ = w3 at *
  have K3 := Lib.hid (Kp.refl w3.heap.size w3)
  obtain ⟨L, hL⟩ : ∃ L, L = loadsV s := ⟨_, rfl⟩
  obtain ⟨e1, he1⟩ : ∃ e, e = loadsE s := ⟨_, rfl⟩
  obtain ⟨bn, hbn⟩ : ∃ e, e = busyN s cpu := ⟨_, rfl⟩
  obtain ⟨e2, he2⟩ : ∃ e, e = busyE s cpu := ⟨_, rfl⟩
  obtain ⟨⟨⟨pk, px, py⟩, e3⟩, hpv⟩ : ∃ v, v = pullV s cpu := ⟨_, rfl⟩
  obtain ⟨⟨s1, e4⟩, hdv⟩ : ∃ v, v = doV s k x y := ⟨_, rfl⟩
  obtain ⟨⟨s2, ms, e5⟩, hplv⟩ : ∃ v, v = planV s most := ⟨_, rfl⟩
  have HLM : Hid (L.length ≤ 3000000000000000000) := Lib.hid (by
    rw [hL]
    unfold loadsV
    split
    · rw [List.length_map, List.length_range]; exact SA.out.hlb ▸ SA.out.lbm
    · simp)
  have HL := Lib.hid hL
  have HE1 := Lib.hid he1
  have HBN := Lib.hid hbn
  have HE2 := Lib.hid he2
  have HPV := Lib.hid hpv
  have HDV := Lib.hid hdv
  have HPL := Lib.hid hplv
  clear hL he1 hbn he2 hpv hdv hplv
  have hc0 := loads_val w3 (ca := ca) (cb := cb) (SA.out.kp K3.out)
  unfold LoadsPost at hc0
  rw [← HL.out, ← HE1.out] at hc0
  have HC := Lib.hid hc0
  clear hc0
  obtain ⟨x0, x1, x2, xl⟩ := X4.out.kp K3.out
  go_wp2_with fail
  (with_reducible refine HC.out.mono ?_)
  clear x0 x1 x2 xl HC
  rintro e w4 ⟨C1, c1, rfl, hl, hk⟩
  replace K3 := Lib.hid (K3.out.trans (hk.mono K3.out.size))
  have LA := Lib.hid hl
  clear hk hl
  have hc0 := refLoads_val w4 (ca := cax) (cb := cbx) (SX.out.kp K3.out)
  unfold LoadsPost at hc0
  rw [← HL.out, ← HE1.out] at hc0
  have HC := Lib.hid hc0
  clear hc0
  obtain ⟨x0, x1, x2, xl⟩ := X9.out.kp K3.out
  go_wp2_with fail
  (with_reducible refine HC.out.mono ?_)
  clear x0 x1 x2 xl HC
  rintro e w5 ⟨C2, c2, rfl, hl, hk⟩
  replace LA := Lib.hid (LA.out.below hk)
  replace K3 := Lib.hid (K3.out.trans (hk.mono K3.out.size))
  have LB := Lib.hid hl
  clear hk hl
  have hc0 := busiest_any w5 (ca := ca) (cb := cb) (cpu := cpu) (SA.out.kp K3.out)
  rw [← HBN.out, ← HE2.out] at hc0
  have HC := Lib.hid hc0
  clear hc0
  obtain ⟨x0, x1, x2, xl⟩ := X4.out.kp K3.out
  go_wp2_with fail
  (with_reducible refine HC.out.mono ?_)
  clear x0 x1 x2 xl HC
  rintro e w6 ⟨rfl, hk⟩
  replace LA := Lib.hid (LA.out.below hk)
  replace LB := Lib.hid (LB.out.below hk)
  replace K3 := Lib.hid (K3.out.trans (hk.mono K3.out.size))
  clear hk 
  have hc0 := refBusiest_any w6 (ca := cax) (cb := cbx) (cpu := cpu) (SX.out.kp K3.out) Q0.out Q1.out
  rw [← HBN.out, ← HE2.out] at hc0
  have HC := Lib.hid hc0
  clear hc0
  obtain ⟨x0, x1, x2, xl⟩ := X9.out.kp K3.out
  go_wp2_with fail
  (with_reducible refine HC.out.mono ?_)
  clear x0 x1 x2 xl HC
  rintro e w7 ⟨rfl, hk⟩
  replace LA := Lib.hid (LA.out.below hk)
  replace LB := Lib.hid (LB.out.below hk)
  replace K3 := Lib.hid (K3.out.trans (hk.mono K3.out.size))
  clear hk 
  have hc0 := pull_any w7 (ca := ca) (cb := cb) (cpu := cpu) (SA.out.kp K3.out)
  rw [← HPV.out] at hc0
  dsimp only at hc0
  have HC := Lib.hid hc0
  clear hc0
  obtain ⟨x0, x1, x2, xl⟩ := X4.out.kp K3.out
  go_wp2_with fail
  (with_reducible refine HC.out.mono ?_)
  clear x0 x1 x2 xl HC
  rintro e w8 ⟨rfl, hk⟩
  replace LA := Lib.hid (LA.out.below hk)
  replace LB := Lib.hid (LB.out.below hk)
  replace K3 := Lib.hid (K3.out.trans (hk.mono K3.out.size))
  clear hk 
  go_upto_region 7 with fail
  have kk : Kp w8.heap.size w8 (w8.alloc (.cells #[.int .i64 pk, .int .i64 px, .int .i64 py] 38)) := (Kp.refl _ _).alloc (Nat.le_refl _) _
  obtain ⟨b18, hb18⟩ : ∃ b, b = w8.heap.size := ⟨_, rfl⟩
  have X18 := Lib.hid (C3.new w8 (.int .i64 pk) (.int .i64 px) (.int .i64 py) 38)
  replace LA := Lib.hid (LA.out.below kk)
  replace LB := Lib.hid (LB.out.below kk)
  replace K3 := Lib.hid (K3.out.trans (kk.mono K3.out.size))
  rw [← hb18] at X18
  rw [← hb18]
  clear hb18 kk
  generalize w8.alloc _ = w9 at *
  have hc0 := refPull_any w9 (ca := cax) (cb := cbx) (cpu := cpu) (SX.out.kp K3.out) Q0.out Q1.out
  rw [← HPV.out] at hc0
  dsimp only at hc0
  have HC := Lib.hid hc0
  clear hc0
  obtain ⟨x0, x1, x2, xl⟩ := X9.out.kp K3.out
  go_wp2_with fail
  (with_reducible refine HC.out.mono ?_)
  clear x0 x1 x2 xl HC
  rintro e w10 ⟨rfl, hk⟩
  replace LA := Lib.hid (LA.out.below hk)
  replace LB := Lib.hid (LB.out.below hk)
  replace X18 := Lib.hid (X18.out.kp hk)
  replace K3 := Lib.hid (K3.out.trans (hk.mono K3.out.size))
  clear hk 
  go_upto_region 8 with fail
  have kk : Kp w10.heap.size w10 (w10.alloc (.cells #[.int .i64 pk, .int .i64 px, .int .i64 py] 89)) := (Kp.refl _ _).alloc (Nat.le_refl _) _
  obtain ⟨b20, hb20⟩ : ∃ b, b = w10.heap.size := ⟨_, rfl⟩
  have X20 := Lib.hid (C3.new w10 (.int .i64 pk) (.int .i64 px) (.int .i64 py) 89)
  replace LA := Lib.hid (LA.out.below kk)
  replace LB := Lib.hid (LB.out.below kk)
  replace X18 := Lib.hid (X18.out.kp kk)
  replace K3 := Lib.hid (K3.out.trans (kk.mono K3.out.size))
  rw [← hb20] at X20
  rw [← hb20]
  clear hb20 kk
  generalize w10.alloc _ = w11 at *
  have hc0 := do_any w11 (ca := ca) (cb := cb) (k := k) (x := x) (y := y) (SA.out.kp K3.out) NA.out NB.out
  rw [← HDV.out] at hc0
  have HC := Lib.hid hc0
  clear hc0
  obtain ⟨x0, x1, x2, xl⟩ := X4.out.kp K3.out
  obtain ⟨y0, y1, y2, yl⟩ := X6.out.kp K3.out
  go_wp2_with fail
  (with_reducible refine HC.out.mono ?_)
  clear x0 x1 x2 xl y0 y1 y2 yl HC
  rintro e w12 ⟨v, rfl, hsc, hk⟩
  obtain ⟨Ad, cad, Bd, cbd, rfl, hs, hoa, hob, hdd⟩ := hsc.ex
  dsimp only at hs hoa hob
  have hsz0 : w3.heap.size ≤ w11.heap.size := K3.out.size
  replace LA := Lib.hid (LA.out.below hk)
  replace LB := Lib.hid (LB.out.below hk)
  replace X18 := Lib.hid (X18.out.kp hk)
  replace X20 := Lib.hid (X20.out.kp hk)
  replace K3 := Lib.hid (K3.out.trans (hk.mono K3.out.size))
  have SD := Lib.hid hs
  have OD := Lib.hid hoa
  have OC := Lib.hid hob
  clear hk hs hoa hob hsc
  go_upto_region 9 with fail
  have kk : Kp w12.heap.size w12 (w12.alloc (.cells #[.int .i64 s1.n, .slice Ad s1.ts.length cad, .slice Bd s1.cur.length cbd] 30)) := (Kp.refl _ _).alloc (Nat.le_refl _) _
  obtain ⟨b22, hb22⟩ : ∃ b, b = w12.heap.size := ⟨_, rfl⟩
  have TD := Lib.hid (show ∀ p, Ad = some p → w3.heap.size ≤ p.block ∧ p.block < b22 from fun p hp => by
    obtain ⟨g, rfl, g2, g3, _⟩ := OD.out.at0 p hp
    dsimp only
    omega)
  have TC := Lib.hid (show ∀ p, Bd = some p → w3.heap.size ≤ p.block ∧ p.block < b22 from fun p hp => by
    obtain ⟨g, rfl, g2, g3, _⟩ := OC.out.at0 p hp
    dsimp only
    omega)
  have TDD := Lib.hid hdd
  have TB := Lib.hid (show w3.heap.size ≤ b22 by have := K3.out.size; omega)
  clear hsz0 hdd
  have X22 := Lib.hid (C3.new w12 (.int .i64 s1.n) (.slice Ad s1.ts.length cad) (.slice Bd s1.cur.length cbd) 30)
  replace LA := Lib.hid (LA.out.below kk)
  replace LB := Lib.hid (LB.out.below kk)
  replace X18 := Lib.hid (X18.out.kp kk)
  replace X20 := Lib.hid (X20.out.kp kk)
  replace SD := Lib.hid (SD.out.kp kk)
  replace OD := Lib.hid (OD.out.kp kk)
  replace OC := Lib.hid (OC.out.kp kk)
  replace K3 := Lib.hid (K3.out.trans (kk.mono K3.out.size))
  rw [← hb22] at X22
  rw [← hb22]
  clear hb22 kk
  generalize w12.alloc _ = w13 at *
  have hc0 := refDo_any w13 (ca := cax) (cb := cbx) (k := k) (x := x) (y := y) (SX.out.kp K3.out) NY.out (by omega)
  rw [← HDV.out] at hc0
  have HC := Lib.hid hc0
  clear hc0
  obtain ⟨x0, x1, x2, xl⟩ := X9.out.kp K3.out
  obtain ⟨y0, y1, y2, yl⟩ := X6.out.kp K3.out
  go_wp2_with fail
  (with_reducible refine HC.out.mono ?_)
  clear x0 x1 x2 xl y0 y1 y2 yl HC
  rintro e w14 ⟨v, rfl, hsc⟩
  obtain ⟨Ar, car, Br, cbr, rfl, hs, -, -, hk, -, -⟩ := hsc
  dsimp only at hs
  replace LA := Lib.hid (LA.out.below hk)
  replace LB := Lib.hid (LB.out.below hk)
  replace X18 := Lib.hid (X18.out.kp hk)
  replace X20 := Lib.hid (X20.out.kp hk)
  replace SD := Lib.hid (SD.out.kp hk)
  replace OD := Lib.hid (OD.out.kp hk)
  replace OC := Lib.hid (OC.out.kp hk)
  replace X22 := Lib.hid (X22.out.kp hk)
  replace K3 := Lib.hid (K3.out.trans (hk.mono K3.out.size))
  have SR := Lib.hid hs
  clear hk hs
  go_upto_region 10 with fail
  have kk : Kp w14.heap.size w14 (w14.alloc (.cells #[.int .i64 s1.n, .slice Ar s1.ts.length car, .slice Br s1.cur.length cbr] 83)) := (Kp.refl _ _).alloc (Nat.le_refl _) _
  obtain ⟨b24, hb24⟩ : ∃ b, b = w14.heap.size := ⟨_, rfl⟩
  have X24 := Lib.hid (C3.new w14 (.int .i64 s1.n) (.slice Ar s1.ts.length car) (.slice Br s1.cur.length cbr) 83)
  replace LA := Lib.hid (LA.out.below kk)
  replace LB := Lib.hid (LB.out.below kk)
  replace X18 := Lib.hid (X18.out.kp kk)
  replace X20 := Lib.hid (X20.out.kp kk)
  replace SD := Lib.hid (SD.out.kp kk)
  replace OD := Lib.hid (OD.out.kp kk)
  replace OC := Lib.hid (OC.out.kp kk)
  replace X22 := Lib.hid (X22.out.kp kk)
  replace SR := Lib.hid (SR.out.kp kk)
  replace K3 := Lib.hid (K3.out.trans (kk.mono K3.out.size))
  rw [← hb24] at X24
  rw [← hb24]
  clear hb24 kk
  generalize w14.alloc _ = w15 at *
  have hc0 := plan_any w15 (ca := ca) (cb := cb) (most := most) (SA.out.kp K3.out) NA.out NB.out QM.out
  rw [← HPL.out] at hc0
  have HC := Lib.hid hc0
  clear hc0
  obtain ⟨x0, x1, x2, xl⟩ := X4.out.kp K3.out
  go_wp2_with fail
  (with_reducible refine HC.out.mono ?_)
  clear x0 x1 x2 xl HC
  rintro e w16 ⟨v, vs, rfl, hrow, hsc, hk⟩
  obtain ⟨Ae, cae, Be, cbe, rfl, hs, hoa, hob, hee⟩ := hsc.ex
  dsimp only at hs hoa hob hrow
  obtain ⟨Am, cam, rfl, hmv, hml⟩ := mvs_own hrow
  have hsz0 : b22 < w15.heap.size := X22.out.lt
  replace LA := Lib.hid (LA.out.below hk)
  replace LB := Lib.hid (LB.out.below hk)
  replace X18 := Lib.hid (X18.out.kp hk)
  replace X20 := Lib.hid (X20.out.kp hk)
  replace SD := Lib.hid (SD.out.kp hk)
  replace OD := Lib.hid (OD.out.kp hk)
  replace OC := Lib.hid (OC.out.kp hk)
  replace X22 := Lib.hid (X22.out.kp hk)
  replace SR := Lib.hid (SR.out.kp hk)
  replace X24 := Lib.hid (X24.out.kp hk)
  replace K3 := Lib.hid (K3.out.trans (hk.mono K3.out.size))
  have SE := Lib.hid hs
  have OE := Lib.hid hoa
  have OF := Lib.hid hob
  have MA := Lib.hid hmv
  clear hk hs hoa hob hsc hmv hrow
  go_upto_region 11 with fail
  have kk : Kp w16.heap.size w16 (w16.alloc (.cells #[.int .i64 s2.n, .slice Ae s2.ts.length cae, .slice Be s2.cur.length cbe] 30)) := (Kp.refl _ _).alloc (Nat.le_refl _) _
  obtain ⟨b27, hb27⟩ : ∃ b, b = w16.heap.size := ⟨_, rfl⟩
  have TE := Lib.hid (show ∀ p, Ae = some p → b22 < p.block ∧ p.block < b27 from fun p hp => by
    obtain ⟨g, rfl, g2, g3, _⟩ := OE.out.at0 p hp
    dsimp only
    omega)
  have TF := Lib.hid (show ∀ p, Be = some p → b22 < p.block ∧ p.block < b27 from fun p hp => by
    obtain ⟨g, rfl, g2, g3, _⟩ := OF.out.at0 p hp
    dsimp only
    omega)
  have TEE := Lib.hid hee
  have TBB := Lib.hid (show b22 < b27 by have := X22.out.lt; omega)
  clear hsz0 hee
  have X27 := Lib.hid (C3.new w16 (.int .i64 s2.n) (.slice Ae s2.ts.length cae) (.slice Be s2.cur.length cbe) 30)
  replace LA := Lib.hid (LA.out.below kk)
  replace LB := Lib.hid (LB.out.below kk)
  replace X18 := Lib.hid (X18.out.kp kk)
  replace X20 := Lib.hid (X20.out.kp kk)
  replace SD := Lib.hid (SD.out.kp kk)
  replace OD := Lib.hid (OD.out.kp kk)
  replace OC := Lib.hid (OC.out.kp kk)
  replace X22 := Lib.hid (X22.out.kp kk)
  replace SR := Lib.hid (SR.out.kp kk)
  replace X24 := Lib.hid (X24.out.kp kk)
  replace SE := Lib.hid (SE.out.kp kk)
  replace OE := Lib.hid (OE.out.kp kk)
  replace OF := Lib.hid (OF.out.kp kk)
  replace MA := Lib.hid (MA.out.kp kk)
  replace K3 := Lib.hid (K3.out.trans (kk.mono K3.out.size))
  rw [← hb27] at X27
  rw [← hb27]
  clear hb27 kk
  generalize w16.alloc _ = w17 at *
  have hc0 := refPlan_any w17 (ca := cax) (cb := cbx) (most := most) (SX.out.kp K3.out) NX.out NY.out QM.out
  rw [← HPL.out] at hc0
  have HC := Lib.hid hc0
  clear hc0
  obtain ⟨x0, x1, x2, xl⟩ := X9.out.kp K3.out
  go_wp2_with fail
  (with_reducible refine HC.out.mono ?_)
  clear x0 x1 x2 xl HC
  rintro e w18 ⟨v, Aq, caq, Bq, cbq, rfl, hrow, hs, hk⟩
  dsimp only at hs hrow
  obtain ⟨An, can, rfl, hmv, -⟩ := mvs_own hrow
  replace LA := Lib.hid (LA.out.below hk)
  replace LB := Lib.hid (LB.out.below hk)
  replace X18 := Lib.hid (X18.out.kp hk)
  replace X20 := Lib.hid (X20.out.kp hk)
  replace SD := Lib.hid (SD.out.kp hk)
  replace OD := Lib.hid (OD.out.kp hk)
  replace OC := Lib.hid (OC.out.kp hk)
  replace X22 := Lib.hid (X22.out.kp hk)
  replace SR := Lib.hid (SR.out.kp hk)
  replace X24 := Lib.hid (X24.out.kp hk)
  replace SE := Lib.hid (SE.out.kp hk)
  replace OE := Lib.hid (OE.out.kp hk)
  replace OF := Lib.hid (OF.out.kp hk)
  replace MA := Lib.hid (MA.out.kp hk)
  replace X27 := Lib.hid (X27.out.kp hk)
  replace K3 := Lib.hid (K3.out.trans (hk.mono K3.out.size))
  have SQ := Lib.hid hs
  have MB := Lib.hid hmv
  clear hk hs hmv hrow
  go_upto_region 12 with fail
  have kk : Kp w18.heap.size w18 (w18.alloc (.cells #[.int .i64 s2.n, .slice Aq s2.ts.length caq, .slice Bq s2.cur.length cbq] 83)) := (Kp.refl _ _).alloc (Nat.le_refl _) _
  obtain ⟨b30, hb30⟩ : ∃ b, b = w18.heap.size := ⟨_, rfl⟩
  have X30 := Lib.hid (C3.new w18 (.int .i64 s2.n) (.slice Aq s2.ts.length caq) (.slice Bq s2.cur.length cbq) 83)
  replace LA := Lib.hid (LA.out.below kk)
  replace LB := Lib.hid (LB.out.below kk)
  replace X18 := Lib.hid (X18.out.kp kk)
  replace X20 := Lib.hid (X20.out.kp kk)
  replace SD := Lib.hid (SD.out.kp kk)
  replace OD := Lib.hid (OD.out.kp kk)
  replace OC := Lib.hid (OC.out.kp kk)
  replace X22 := Lib.hid (X22.out.kp kk)
  replace SR := Lib.hid (SR.out.kp kk)
  replace X24 := Lib.hid (X24.out.kp kk)
  replace SE := Lib.hid (SE.out.kp kk)
  replace OE := Lib.hid (OE.out.kp kk)
  replace OF := Lib.hid (OF.out.kp kk)
  replace MA := Lib.hid (MA.out.kp kk)
  replace X27 := Lib.hid (X27.out.kp kk)
  replace SQ := Lib.hid (SQ.out.kp kk)
  replace MB := Lib.hid (MB.out.kp kk)
  replace K3 := Lib.hid (K3.out.trans (kk.mono K3.out.size))
  rw [← hb30] at X30
  rw [← hb30]
  clear hb30 kk
  generalize w18.alloc _ = w19 at *
  refine wp_region_noPanic ?_
  refine wp_region_anyN (fun w' => w'.cell? ⟨b4, 0, none⟩ = some (.int .i64 s.n) ∧ w'.cell? ⟨b4, 1, none⟩ = some (.slice A la ca) ∧ w'.cell? ⟨b4, 2, none⟩ = some (.slice B lb cb) ∧ w'.cell? ⟨b9, 0, none⟩ = some (.int .i64 s.n) ∧ w'.cell? ⟨b9, 1, none⟩ = some (.slice Ax la cax) ∧ w'.cell? ⟨b9, 2, none⟩ = some (.slice Bx lb cbx) ∧ w'.cell? ⟨b18, 0, none⟩ = some (.int .i64 pk) ∧ w'.cell? ⟨b18, 1, none⟩ = some (.int .i64 px) ∧ w'.cell? ⟨b18, 2, none⟩ = some (.int .i64 py) ∧ w'.cell? ⟨b20, 0, none⟩ = some (.int .i64 pk) ∧ w'.cell? ⟨b20, 1, none⟩ = some (.int .i64 px) ∧ w'.cell? ⟨b20, 2, none⟩ = some (.int .i64 py) ∧ w'.cell? ⟨b22, 0, none⟩ = some (.int .i64 s1.n) ∧ w'.cell? ⟨b22, 1, none⟩ = some (.slice Ad s1.ts.length cad) ∧ w'.cell? ⟨b22, 2, none⟩ = some (.slice Bd s1.cur.length cbd) ∧ w'.cell? ⟨b24, 0, none⟩ = some (.int .i64 s1.n) ∧ w'.cell? ⟨b24, 1, none⟩ = some (.slice Ar s1.ts.length car) ∧ w'.cell? ⟨b24, 2, none⟩ = some (.slice Br s1.cur.length cbr) ∧ w'.cell? ⟨b27, 0, none⟩ = some (.int .i64 s2.n) ∧ w'.cell? ⟨b27, 1, none⟩ = some (.slice Ae s2.ts.length cae) ∧ w'.cell? ⟨b27, 2, none⟩ = some (.slice Be s2.cur.length cbe) ∧ w'.cell? ⟨b30, 0, none⟩ = some (.int .i64 s2.n) ∧ w'.cell? ⟨b30, 1, none⟩ = some (.slice Aq s2.ts.length caq) ∧ w'.cell? ⟨b30, 2, none⟩ = some (.slice Bq s2.cur.length cbq)) 65 (by kernel_rfl) ?_
  have kd : Kp w19.heap.size w19 w19.drew := (Kp.refl _ _).drewN 1
  replace LA := Lib.hid (LA.out.below kd)
  replace LB := Lib.hid (LB.out.below kd)
  replace X18 := Lib.hid (X18.out.kp kd)
  replace X20 := Lib.hid (X20.out.kp kd)
  replace SD := Lib.hid (SD.out.kp kd)
  replace OD := Lib.hid (OD.out.kp kd)
  replace OC := Lib.hid (OC.out.kp kd)
  replace X22 := Lib.hid (X22.out.kp kd)
  replace SR := Lib.hid (SR.out.kp kd)
  replace X24 := Lib.hid (X24.out.kp kd)
  replace SE := Lib.hid (SE.out.kp kd)
  replace OE := Lib.hid (OE.out.kp kd)
  replace OF := Lib.hid (OF.out.kp kd)
  replace MA := Lib.hid (MA.out.kp kd)
  replace X27 := Lib.hid (X27.out.kp kd)
  replace SQ := Lib.hid (SQ.out.kp kd)
  replace MB := Lib.hid (MB.out.kp kd)
  replace X30 := Lib.hid (X30.out.kp kd)
  replace K3 := Lib.hid (K3.out.trans (kd.mono K3.out.size))
  clear kd
  generalize w19.drew = wz1 at *
  have hS : wz1.cell? ⟨b4, 0, none⟩ = some (.int .i64 s.n) ∧ wz1.cell? ⟨b4, 1, none⟩ = some (.slice A la ca) ∧ wz1.cell? ⟨b4, 2, none⟩ = some (.slice B lb cb) ∧ wz1.cell? ⟨b9, 0, none⟩ = some (.int .i64 s.n) ∧ wz1.cell? ⟨b9, 1, none⟩ = some (.slice Ax la cax) ∧ wz1.cell? ⟨b9, 2, none⟩ = some (.slice Bx lb cbx) ∧ wz1.cell? ⟨b18, 0, none⟩ = some (.int .i64 pk) ∧ wz1.cell? ⟨b18, 1, none⟩ = some (.int .i64 px) ∧ wz1.cell? ⟨b18, 2, none⟩ = some (.int .i64 py) ∧ wz1.cell? ⟨b20, 0, none⟩ = some (.int .i64 pk) ∧ wz1.cell? ⟨b20, 1, none⟩ = some (.int .i64 px) ∧ wz1.cell? ⟨b20, 2, none⟩ = some (.int .i64 py) ∧ wz1.cell? ⟨b22, 0, none⟩ = some (.int .i64 s1.n) ∧ wz1.cell? ⟨b22, 1, none⟩ = some (.slice Ad s1.ts.length cad) ∧ wz1.cell? ⟨b22, 2, none⟩ = some (.slice Bd s1.cur.length cbd) ∧ wz1.cell? ⟨b24, 0, none⟩ = some (.int .i64 s1.n) ∧ wz1.cell? ⟨b24, 1, none⟩ = some (.slice Ar s1.ts.length car) ∧ wz1.cell? ⟨b24, 2, none⟩ = some (.slice Br s1.cur.length cbr) ∧ wz1.cell? ⟨b27, 0, none⟩ = some (.int .i64 s2.n) ∧ wz1.cell? ⟨b27, 1, none⟩ = some (.slice Ae s2.ts.length cae) ∧ wz1.cell? ⟨b27, 2, none⟩ = some (.slice Be s2.cur.length cbe) ∧ wz1.cell? ⟨b30, 0, none⟩ = some (.int .i64 s2.n) ∧ wz1.cell? ⟨b30, 1, none⟩ = some (.slice Aq s2.ts.length caq) ∧ wz1.cell? ⟨b30, 2, none⟩ = some (.slice Bq s2.cur.length cbq) := ⟨(X4.out.kp K3.out).c0, (X4.out.kp K3.out).c1, (X4.out.kp K3.out).c2, (X9.out.kp K3.out).c0, (X9.out.kp K3.out).c1, (X9.out.kp K3.out).c2, (X18.out).c0, (X18.out).c1, (X18.out).c2, (X20.out).c0, (X20.out).c1, (X20.out).c2, (X22.out).c0, (X22.out).c1, (X22.out).c2, (X24.out).c0, (X24.out).c1, (X24.out).c2, (X27.out).c0, (X27.out).c1, (X27.out).c2, (X30.out).c0, (X30.out).c1, (X30.out).c2⟩
  refine anyN_takeR 0 (v := ?_) rfl (by kernel_rfl) (by kernel_rfl) (by kernel_rfl) (by kernel_rfl) (fun _ _ _ h => h) (Or.inl ⟨by rfl, ?_⟩) hS ?_
  rotate_left
  · intro w hSw
    obtain ⟨_, _, _, _, _, _, _, _, _, _, _, _, _, _, _, _, _, _, _, _, _, _, _, _⟩ := hSw
    go_simp
    try with_reducible rfl
  simp only [Act.put, List.setIfInBounds_toArray, List.set_cons_zero, List.set_cons_succ]
  refine anyN_takeR 2 (v := ?_) rfl (by kernel_rfl) (by kernel_rfl) (by kernel_rfl) (by kernel_rfl) (fun _ _ _ h => h) (Or.inl ⟨by rfl, ?_⟩) hS ?_
  rotate_left
  · intro w hSw
    obtain ⟨_, _, _, _, _, _, _, _, _, _, _, _, _, _, _, _, _, _, _, _, _, _, _, _⟩ := hSw
    go_simp
    try with_reducible rfl
  simp only [Act.put, List.setIfInBounds_toArray, List.set_cons_zero, List.set_cons_succ]
  refine anyN_one 1 rfl (by kernel_rfl) rfl ?_
  go_simp
  (with_reducible refine ((Lib.hid (right_at (ca := ca) (cb := cb) (SA.out.kp K3.out)))).out.mono ?_)
  clear hS
  rintro e wz2 ⟨rfl, hk⟩
  replace LA := Lib.hid (LA.out.below hk)
  replace LB := Lib.hid (LB.out.below hk)
  replace X18 := Lib.hid (X18.out.kp hk)
  replace X20 := Lib.hid (X20.out.kp hk)
  replace SD := Lib.hid (SD.out.kp hk)
  replace OD := Lib.hid (OD.out.kp hk)
  replace OC := Lib.hid (OC.out.kp hk)
  replace X22 := Lib.hid (X22.out.kp hk)
  replace SR := Lib.hid (SR.out.kp hk)
  replace X24 := Lib.hid (X24.out.kp hk)
  replace SE := Lib.hid (SE.out.kp hk)
  replace OE := Lib.hid (OE.out.kp hk)
  replace OF := Lib.hid (OF.out.kp hk)
  replace MA := Lib.hid (MA.out.kp hk)
  replace X27 := Lib.hid (X27.out.kp hk)
  replace SQ := Lib.hid (SQ.out.kp hk)
  replace MB := Lib.hid (MB.out.kp hk)
  replace X30 := Lib.hid (X30.out.kp hk)
  replace K3 := Lib.hid (K3.out.trans (hk.mono K3.out.size))
  clear hk
  dsimp only
  refine and_keep ⟨(X4.out.kp K3.out).c0, (X4.out.kp K3.out).c1, (X4.out.kp K3.out).c2, (X9.out.kp K3.out).c0, (X9.out.kp K3.out).c1, (X9.out.kp K3.out).c2, (X18.out).c0, (X18.out).c1, (X18.out).c2, (X20.out).c0, (X20.out).c1, (X20.out).c2, (X22.out).c0, (X22.out).c1, (X22.out).c2, (X24.out).c0, (X24.out).c1, (X24.out).c2, (X27.out).c0, (X27.out).c1, (X27.out).c2, (X30.out).c0, (X30.out).c1, (X30.out).c2⟩ (fun hS => ?_)
  refine anyN_one 3 rfl (by kernel_rfl) rfl ?_
  go_simp
  (with_reducible refine ((Lib.hid (refRight_any _ (ca := cax) (cb := cbx) (SX.out.kp K3.out)))).out.mono ?_)
  clear hS
  rintro e wz3 ⟨rfl, hk⟩
  replace LA := Lib.hid (LA.out.below hk)
  replace LB := Lib.hid (LB.out.below hk)
  replace X18 := Lib.hid (X18.out.kp hk)
  replace X20 := Lib.hid (X20.out.kp hk)
  replace SD := Lib.hid (SD.out.kp hk)
  replace OD := Lib.hid (OD.out.kp hk)
  replace OC := Lib.hid (OC.out.kp hk)
  replace X22 := Lib.hid (X22.out.kp hk)
  replace SR := Lib.hid (SR.out.kp hk)
  replace X24 := Lib.hid (X24.out.kp hk)
  replace SE := Lib.hid (SE.out.kp hk)
  replace OE := Lib.hid (OE.out.kp hk)
  replace OF := Lib.hid (OF.out.kp hk)
  replace MA := Lib.hid (MA.out.kp hk)
  replace X27 := Lib.hid (X27.out.kp hk)
  replace SQ := Lib.hid (SQ.out.kp hk)
  replace MB := Lib.hid (MB.out.kp hk)
  replace X30 := Lib.hid (X30.out.kp hk)
  replace K3 := Lib.hid (K3.out.trans (hk.mono K3.out.size))
  clear hk
  dsimp only
  refine and_keep ⟨(X4.out.kp K3.out).c0, (X4.out.kp K3.out).c1, (X4.out.kp K3.out).c2, (X9.out.kp K3.out).c0, (X9.out.kp K3.out).c1, (X9.out.kp K3.out).c2, (X18.out).c0, (X18.out).c1, (X18.out).c2, (X20.out).c0, (X20.out).c1, (X20.out).c2, (X22.out).c0, (X22.out).c1, (X22.out).c2, (X24.out).c0, (X24.out).c1, (X24.out).c2, (X27.out).c0, (X27.out).c1, (X27.out).c2, (X30.out).c0, (X30.out).c1, (X30.out).c2⟩ (fun hS => ?_)
  refine anyN_takeR 4 (v := ?_) rfl (by kernel_rfl) (by kernel_rfl) (by kernel_rfl) (by kernel_rfl) (fun _ _ _ h => h) (Or.inl ⟨by rfl, ?_⟩) hS ?_
  rotate_left
  · intro w hSw
    obtain ⟨_, _, _, _, _, _, _, _, _, _, _, _, _, _, _, _, _, _, _, _, _, _, _, _⟩ := hSw
    go_simp
    try with_reducible rfl
  simp only [Act.put, List.setIfInBounds_toArray, List.set_cons_zero, List.set_cons_succ]
  refine anyN_takeR 5 (v := ?_) rfl (by kernel_rfl) (by kernel_rfl) (by kernel_rfl) (by kernel_rfl) (fun _ _ _ h => h) (Or.inl ⟨by rfl, ?_⟩) hS ?_
  rotate_left
  · intro w hSw
    obtain ⟨_, _, _, _, _, _, _, _, _, _, _, _, _, _, _, _, _, _, _, _, _, _, _, _⟩ := hSw
    go_simp
    try with_reducible rfl
  simp only [Act.put, List.setIfInBounds_toArray, List.set_cons_zero, List.set_cons_succ]
  refine anyN_takeR 6 (v := ?_) rfl (by kernel_rfl) (by kernel_rfl) (by kernel_rfl) (by kernel_rfl) (fun _ _ _ h => h) (Or.inl ⟨by rfl, ?_⟩) hS ?_
  rotate_left
  · intro w hSw
    obtain ⟨_, _, _, _, _, _, _, _, _, _, _, _, _, _, _, _, _, _, _, _, _, _, _, _⟩ := hSw
    go_simp
    try with_reducible rfl
  simp only [Act.put, List.setIfInBounds_toArray, List.set_cons_zero, List.set_cons_succ]
  refine anyN_takeR 7 (v := ?_) rfl (by kernel_rfl) (by kernel_rfl) (by kernel_rfl) (by kernel_rfl) (fun _ _ _ h => h) (Or.inl ⟨by rfl, ?_⟩) hS ?_
  rotate_left
  · intro w hSw
    obtain ⟨_, _, _, _, _, _, _, _, _, _, _, _, _, _, _, _, _, _, _, _, _, _, _, _⟩ := hSw
    go_simp
    try with_reducible rfl
  simp only [Act.put, List.setIfInBounds_toArray, List.set_cons_zero, List.set_cons_succ]
  refine anyN_takeR 8 (v := ?_) rfl (by kernel_rfl) (by kernel_rfl) (by kernel_rfl) (by kernel_rfl) (fun _ _ _ h => h) (Or.inl ⟨by rfl, ?_⟩) hS ?_
  rotate_left
  · intro w hSw
    obtain ⟨_, _, _, _, _, _, _, _, _, _, _, _, _, _, _, _, _, _, _, _, _, _, _, _⟩ := hSw
    go_simp
    try with_reducible rfl
  simp only [Act.put, List.setIfInBounds_toArray, List.set_cons_zero, List.set_cons_succ]
  refine anyN_takeR 9 (v := ?_) rfl (by kernel_rfl) (by kernel_rfl) (by kernel_rfl) (by kernel_rfl) (fun _ _ _ h => h) (Or.inl ⟨by rfl, ?_⟩) hS ?_
  rotate_left
  · intro w hSw
    obtain ⟨_, _, _, _, _, _, _, _, _, _, _, _, _, _, _, _, _, _, _, _, _, _, _, _⟩ := hSw
    go_simp
    try with_reducible rfl
  simp only [Act.put, List.setIfInBounds_toArray, List.set_cons_zero, List.set_cons_succ]
  refine anyN_takeR 10 (v := ?_) rfl (by kernel_rfl) (by kernel_rfl) (by kernel_rfl) (by kernel_rfl) (fun _ _ _ h => h) (Or.inl ⟨by rfl, ?_⟩) hS ?_
  rotate_left
  · intro w hSw
    obtain ⟨_, _, _, _, _, _, _, _, _, _, _, _, _, _, _, _, _, _, _, _, _, _, _, _⟩ := hSw
    go_simp
    try with_reducible rfl
  simp only [Act.put, List.setIfInBounds_toArray, List.set_cons_zero, List.set_cons_succ]
  refine anyN_takeR 11 (v := ?_) rfl (by kernel_rfl) (by kernel_rfl) (by kernel_rfl) (by kernel_rfl) (fun _ _ _ h => h) (Or.inl ⟨by rfl, ?_⟩) hS ?_
  rotate_left
  · intro w hSw
    obtain ⟨_, _, _, _, _, _, _, _, _, _, _, _, _, _, _, _, _, _, _, _, _, _, _, _⟩ := hSw
    go_simp
    try with_reducible rfl
  simp only [Act.put, List.setIfInBounds_toArray, List.set_cons_zero, List.set_cons_succ]
  refine anyN_takeR 12 (v := ?_) rfl (by kernel_rfl) (by kernel_rfl) (by kernel_rfl) (by kernel_rfl) (fun _ _ _ h => h) (Or.inl ⟨by rfl, ?_⟩) hS ?_
  rotate_left
  · intro w hSw
    obtain ⟨_, _, _, _, _, _, _, _, _, _, _, _, _, _, _, _, _, _, _, _, _, _, _, _⟩ := hSw
    go_simp
    try with_reducible rfl
  simp only [Act.put, List.setIfInBounds_toArray, List.set_cons_zero, List.set_cons_succ]
  refine anyN_takeR 13 (v := ?_) rfl (by kernel_rfl) (by kernel_rfl) (by kernel_rfl) (by kernel_rfl) (fun _ _ _ h => h) (Or.inl ⟨by rfl, ?_⟩) hS ?_
  rotate_left
  · intro w hSw
    obtain ⟨_, _, _, _, _, _, _, _, _, _, _, _, _, _, _, _, _, _, _, _, _, _, _, _⟩ := hSw
    go_simp
    try with_reducible rfl
  simp only [Act.put, List.setIfInBounds_toArray, List.set_cons_zero, List.set_cons_succ]
  refine anyN_takeR 14 (v := ?_) rfl (by kernel_rfl) (by kernel_rfl) (by kernel_rfl) (by kernel_rfl) (fun _ _ _ h => h) (Or.inl ⟨by rfl, ?_⟩) hS ?_
  rotate_left
  · intro w hSw
    obtain ⟨_, _, _, _, _, _, _, _, _, _, _, _, _, _, _, _, _, _, _, _, _, _, _, _⟩ := hSw
    go_simp
    try with_reducible rfl
  simp only [Act.put, List.setIfInBounds_toArray, List.set_cons_zero, List.set_cons_succ]
  refine anyN_takeR 15 (v := ?_) rfl (by kernel_rfl) (by kernel_rfl) (by kernel_rfl) (by kernel_rfl) (fun _ _ _ h => h) (Or.inl ⟨by rfl, ?_⟩) hS ?_
  rotate_left
  · intro w hSw
    obtain ⟨_, _, _, _, _, _, _, _, _, _, _, _, _, _, _, _, _, _, _, _, _, _, _, _⟩ := hSw
    go_simp
    try with_reducible rfl
  simp only [Act.put, List.setIfInBounds_toArray, List.set_cons_zero, List.set_cons_succ]
  refine anyN_takeR 16 (v := ?_) rfl (by kernel_rfl) (by kernel_rfl) (by kernel_rfl) (by kernel_rfl) (fun _ _ _ h => h) (Or.inl ⟨by rfl, ?_⟩) hS ?_
  rotate_left
  · intro w hSw
    obtain ⟨_, _, _, _, _, _, _, _, _, _, _, _, _, _, _, _, _, _, _, _, _, _, _, _⟩ := hSw
    go_simp
    try with_reducible rfl
  simp only [Act.put, List.setIfInBounds_toArray, List.set_cons_zero, List.set_cons_succ]
  refine anyN_takeR 17 (v := ?_) rfl (by kernel_rfl) (by kernel_rfl) (by kernel_rfl) (by kernel_rfl) (fun _ _ _ h => h) (Or.inl ⟨by rfl, ?_⟩) hS ?_
  rotate_left
  · intro w hSw
    obtain ⟨_, _, _, _, _, _, _, _, _, _, _, _, _, _, _, _, _, _, _, _, _, _, _, _⟩ := hSw
    go_simp
    try with_reducible rfl
  simp only [Act.put, List.setIfInBounds_toArray, List.set_cons_zero, List.set_cons_succ]
  refine anyN_takeR 18 (v := ?_) rfl (by kernel_rfl) (by kernel_rfl) (by kernel_rfl) (by kernel_rfl) (fun _ _ _ h => h) (Or.inl ⟨by rfl, ?_⟩) hS ?_
  rotate_left
  · intro w hSw
    obtain ⟨_, _, _, _, _, _, _, _, _, _, _, _, _, _, _, _, _, _, _, _, _, _, _, _⟩ := hSw
    go_simp
    try with_reducible rfl
  simp only [Act.put, List.setIfInBounds_toArray, List.set_cons_zero, List.set_cons_succ]
  refine anyN_takeR 19 (v := ?_) rfl (by kernel_rfl) (by kernel_rfl) (by kernel_rfl) (by kernel_rfl) (fun _ _ _ h => h) (Or.inl ⟨by rfl, ?_⟩) hS ?_
  rotate_left
  · intro w hSw
    obtain ⟨_, _, _, _, _, _, _, _, _, _, _, _, _, _, _, _, _, _, _, _, _, _, _, _⟩ := hSw
    go_simp
    try with_reducible rfl
  simp only [Act.put, List.setIfInBounds_toArray, List.set_cons_zero, List.set_cons_succ]
  refine anyN_takeR 20 (v := ?_) rfl (by kernel_rfl) (by kernel_rfl) (by kernel_rfl) (by kernel_rfl) (fun _ _ _ h => h) (Or.inl ⟨by rfl, ?_⟩) hS ?_
  rotate_left
  · intro w hSw
    obtain ⟨_, _, _, _, _, _, _, _, _, _, _, _, _, _, _, _, _, _, _, _, _, _, _, _⟩ := hSw
    go_simp
    try with_reducible rfl
  simp only [Act.put, List.setIfInBounds_toArray, List.set_cons_zero, List.set_cons_succ]
  refine anyN_takeR 21 (v := ?_) rfl (by kernel_rfl) (by kernel_rfl) (by kernel_rfl) (by kernel_rfl) (fun _ _ _ h => h) (Or.inl ⟨by rfl, ?_⟩) hS ?_
  rotate_left
  · intro w hSw
    obtain ⟨_, _, _, _, _, _, _, _, _, _, _, _, _, _, _, _, _, _, _, _, _, _, _, _⟩ := hSw
    go_simp
    try with_reducible rfl
  simp only [Act.put, List.setIfInBounds_toArray, List.set_cons_zero, List.set_cons_succ]
  refine anyN_takeR 22 (v := ?_) rfl (by kernel_rfl) (by kernel_rfl) (by kernel_rfl) (by kernel_rfl) (fun _ _ _ h => h) (Or.inl ⟨by rfl, ?_⟩) hS ?_
  rotate_left
  · intro w hSw
    obtain ⟨_, _, _, _, _, _, _, _, _, _, _, _, _, _, _, _, _, _, _, _, _, _, _, _⟩ := hSw
    go_simp
    try with_reducible rfl
  simp only [Act.put, List.setIfInBounds_toArray, List.set_cons_zero, List.set_cons_succ]
  refine anyN_takeR 23 (v := ?_) rfl (by kernel_rfl) (by kernel_rfl) (by kernel_rfl) (by kernel_rfl) (fun _ _ _ h => h) (Or.inl ⟨by rfl, ?_⟩) hS ?_
  rotate_left
  · intro w hSw
    obtain ⟨_, _, _, _, _, _, _, _, _, _, _, _, _, _, _, _, _, _, _, _, _, _, _, _⟩ := hSw
    go_simp
    try with_reducible rfl
  simp only [Act.put, List.setIfInBounds_toArray, List.set_cons_zero, List.set_cons_succ]
  refine anyN_takeR 24 (v := ?_) rfl (by kernel_rfl) (by kernel_rfl) (by kernel_rfl) (by kernel_rfl) (fun _ _ _ h => h) (Or.inl ⟨by rfl, ?_⟩) hS ?_
  rotate_left
  · intro w hSw
    obtain ⟨_, _, _, _, _, _, _, _, _, _, _, _, _, _, _, _, _, _, _, _, _, _, _, _⟩ := hSw
    go_simp
    try with_reducible rfl
  simp only [Act.put, List.setIfInBounds_toArray, List.set_cons_zero, List.set_cons_succ]
  refine anyN_takeR 25 (v := ?_) rfl (by kernel_rfl) (by kernel_rfl) (by kernel_rfl) (by kernel_rfl) (fun _ _ _ h => h) (Or.inl ⟨by rfl, ?_⟩) hS ?_
  rotate_left
  · intro w hSw
    obtain ⟨_, _, _, _, _, _, _, _, _, _, _, _, _, _, _, _, _, _, _, _, _, _, _, _⟩ := hSw
    go_simp
    try with_reducible rfl
  simp only [Act.put, List.setIfInBounds_toArray, List.set_cons_zero, List.set_cons_succ]
  refine anyN_takeR 26 (v := ?_) rfl (by kernel_rfl) (by kernel_rfl) (by kernel_rfl) (by kernel_rfl) (fun _ _ _ h => h) (Or.inl ⟨by rfl, ?_⟩) hS ?_
  rotate_left
  · intro w hSw
    obtain ⟨_, _, _, _, _, _, _, _, _, _, _, _, _, _, _, _, _, _, _, _, _, _, _, _⟩ := hSw
    go_simp
    try with_reducible rfl
  simp only [Act.put, List.setIfInBounds_toArray, List.set_cons_zero, List.set_cons_succ]
  refine anyN_takeR 27 (v := ?_) rfl (by kernel_rfl) (by kernel_rfl) (by kernel_rfl) (by kernel_rfl) (fun _ _ _ h => h) (Or.inl ⟨by rfl, ?_⟩) hS ?_
  rotate_left
  · intro w hSw
    obtain ⟨_, _, _, _, _, _, _, _, _, _, _, _, _, _, _, _, _, _, _, _, _, _, _, _⟩ := hSw
    go_simp
    try with_reducible rfl
  simp only [Act.put, List.setIfInBounds_toArray, List.set_cons_zero, List.set_cons_succ]
  refine anyN_takeR 28 (v := ?_) rfl (by kernel_rfl) (by kernel_rfl) (by kernel_rfl) (by kernel_rfl) (fun _ _ _ h => h) (Or.inl ⟨by rfl, ?_⟩) hS ?_
  rotate_left
  · intro w hSw
    obtain ⟨_, _, _, _, _, _, _, _, _, _, _, _, _, _, _, _, _, _, _, _, _, _, _, _⟩ := hSw
    go_simp
    try with_reducible rfl
  simp only [Act.put, List.setIfInBounds_toArray, List.set_cons_zero, List.set_cons_succ]
  refine anyN_takeR 29 (v := ?_) rfl (by kernel_rfl) (by kernel_rfl) (by kernel_rfl) (by kernel_rfl) (fun _ _ _ h => h) (Or.inl ⟨by rfl, ?_⟩) hS ?_
  rotate_left
  · intro w hSw
    obtain ⟨_, _, _, _, _, _, _, _, _, _, _, _, _, _, _, _, _, _, _, _, _, _, _, _⟩ := hSw
    go_simp
    try with_reducible rfl
  simp only [Act.put, List.setIfInBounds_toArray, List.set_cons_zero, List.set_cons_succ]
  refine anyN_takeR 30 (v := ?_) rfl (by kernel_rfl) (by kernel_rfl) (by kernel_rfl) (by kernel_rfl) (fun _ _ _ h => h) (Or.inl ⟨by rfl, ?_⟩) hS ?_
  rotate_left
  · intro w hSw
    obtain ⟨_, _, _, _, _, _, _, _, _, _, _, _, _, _, _, _, _, _, _, _, _, _, _, _⟩ := hSw
    go_simp
    try with_reducible rfl
  simp only [Act.put, List.setIfInBounds_toArray, List.set_cons_zero, List.set_cons_succ]
  refine anyN_takeR 31 (v := ?_) rfl (by kernel_rfl) (by kernel_rfl) (by kernel_rfl) (by kernel_rfl) (fun _ _ _ h => h) (Or.inl ⟨by rfl, ?_⟩) hS ?_
  rotate_left
  · intro w hSw
    obtain ⟨_, _, _, _, _, _, _, _, _, _, _, _, _, _, _, _, _, _, _, _, _, _, _, _⟩ := hSw
    go_simp
    try with_reducible rfl
  simp only [Act.put, List.setIfInBounds_toArray, List.set_cons_zero, List.set_cons_succ]
  refine anyN_takeR 32 (v := ?_) rfl (by kernel_rfl) (by kernel_rfl) (by kernel_rfl) (by kernel_rfl) (fun _ _ _ h => h) (Or.inl ⟨by rfl, ?_⟩) hS ?_
  rotate_left
  · intro w hSw
    obtain ⟨_, _, _, _, _, _, _, _, _, _, _, _, _, _, _, _, _, _, _, _, _, _, _, _⟩ := hSw
    go_simp
    try with_reducible rfl
  simp only [Act.put, List.setIfInBounds_toArray, List.set_cons_zero, List.set_cons_succ]
  refine anyN_oneG 33 rfl (by kernel_rfl) (by rfl) ?_
  go_simp
  (with_reducible refine ((Lib.hid (sameI_self _ (c := c1) (d := c2) rfl HLM.out LA.out LB.out))).out.mono ?_)
  clear hS
  rintro e wz4 ⟨rfl, hk⟩
  replace LA := Lib.hid (LA.out.below hk)
  replace LB := Lib.hid (LB.out.below hk)
  replace X18 := Lib.hid (X18.out.kp hk)
  replace X20 := Lib.hid (X20.out.kp hk)
  replace SD := Lib.hid (SD.out.kp hk)
  replace OD := Lib.hid (OD.out.kp hk)
  replace OC := Lib.hid (OC.out.kp hk)
  replace X22 := Lib.hid (X22.out.kp hk)
  replace SR := Lib.hid (SR.out.kp hk)
  replace X24 := Lib.hid (X24.out.kp hk)
  replace SE := Lib.hid (SE.out.kp hk)
  replace OE := Lib.hid (OE.out.kp hk)
  replace OF := Lib.hid (OF.out.kp hk)
  replace MA := Lib.hid (MA.out.kp hk)
  replace X27 := Lib.hid (X27.out.kp hk)
  replace SQ := Lib.hid (SQ.out.kp hk)
  replace MB := Lib.hid (MB.out.kp hk)
  replace X30 := Lib.hid (X30.out.kp hk)
  replace K3 := Lib.hid (K3.out.trans (hk.mono K3.out.size))
  clear hk
  dsimp only
  refine and_keep ⟨(X4.out.kp K3.out).c0, (X4.out.kp K3.out).c1, (X4.out.kp K3.out).c2, (X9.out.kp K3.out).c0, (X9.out.kp K3.out).c1, (X9.out.kp K3.out).c2, (X18.out).c0, (X18.out).c1, (X18.out).c2, (X20.out).c0, (X20.out).c1, (X20.out).c2, (X22.out).c0, (X22.out).c1, (X22.out).c2, (X24.out).c0, (X24.out).c1, (X24.out).c2, (X27.out).c0, (X27.out).c1, (X27.out).c2, (X30.out).c0, (X30.out).c1, (X30.out).c2⟩ (fun hS => ?_)
  refine anyN_takeR 34 (v := ?_) rfl (by kernel_rfl) (by kernel_rfl) (by kernel_rfl) (by kernel_rfl) (fun _ _ _ h => h) (Or.inl ⟨by rfl, ?_⟩) hS ?_
  rotate_left
  · intro w hSw
    obtain ⟨_, _, _, _, _, _, _, _, _, _, _, _, _, _, _, _, _, _, _, _, _, _, _, _⟩ := hSw
    go_simp
    try with_reducible rfl
  simp only [Act.put, List.setIfInBounds_toArray, List.set_cons_zero, List.set_cons_succ]
  refine anyN_takeR 35 (v := ?_) rfl (by kernel_rfl) (by kernel_rfl) (by kernel_rfl) (by kernel_rfl) (fun _ _ _ h => h) (Or.inl ⟨by rfl, ?_⟩) hS ?_
  rotate_left
  · intro w hSw
    obtain ⟨_, _, _, _, _, _, _, _, _, _, _, _, _, _, _, _, _, _, _, _, _, _, _, _⟩ := hSw
    go_simp
    try with_reducible rfl
  simp only [Act.put, List.setIfInBounds_toArray, List.set_cons_zero, List.set_cons_succ]
  refine anyN_takeR 36 (v := ?_) rfl (by kernel_rfl) (by kernel_rfl) (by kernel_rfl) (by kernel_rfl) (fun _ _ _ h => h) (Or.inl ⟨by rfl, ?_⟩) hS ?_
  rotate_left
  · intro w hSw
    obtain ⟨_, _, _, _, _, _, _, _, _, _, _, _, _, _, _, _, _, _, _, _, _, _, _, _⟩ := hSw
    go_simp
    try with_reducible rfl
  simp only [Act.put, List.setIfInBounds_toArray, List.set_cons_zero, List.set_cons_succ]
  refine anyN_takeR 37 (v := ?_) rfl (by kernel_rfl) (by kernel_rfl) (by kernel_rfl) (by kernel_rfl) (fun _ _ _ h => h) (Or.inl ⟨by rfl, ?_⟩) hS ?_
  rotate_left
  · intro w hSw
    obtain ⟨_, _, _, _, _, _, _, _, _, _, _, _, _, _, _, _, _, _, _, _, _, _, _, _⟩ := hSw
    go_simp
    try with_reducible rfl
  simp only [Act.put, List.setIfInBounds_toArray, List.set_cons_zero, List.set_cons_succ]
  refine anyN_takeR 38 (v := ?_) rfl (by kernel_rfl) (by kernel_rfl) (by kernel_rfl) (by kernel_rfl) (fun _ _ _ h => h) (Or.inl ⟨by rfl, ?_⟩) hS ?_
  rotate_left
  · intro w hSw
    obtain ⟨_, _, _, _, _, _, _, _, _, _, _, _, _, _, _, _, _, _, _, _, _, _, _, _⟩ := hSw
    go_simp
    try with_reducible rfl
  simp only [Act.put, List.setIfInBounds_toArray, List.set_cons_zero, List.set_cons_succ]
  refine anyN_takeR 39 (v := ?_) rfl (by kernel_rfl) (by kernel_rfl) (by kernel_rfl) (by kernel_rfl) (fun _ _ _ h => h) (Or.inl ⟨by rfl, ?_⟩) hS ?_
  rotate_left
  · intro w hSw
    obtain ⟨_, _, _, _, _, _, _, _, _, _, _, _, _, _, _, _, _, _, _, _, _, _, _, _⟩ := hSw
    go_simp
    try with_reducible rfl
  simp only [Act.put, List.setIfInBounds_toArray, List.set_cons_zero, List.set_cons_succ]
  refine anyN_takeR 40 (v := ?_) rfl (by kernel_rfl) (by kernel_rfl) (by kernel_rfl) (by kernel_rfl) (fun _ _ _ h => h) (Or.inl ⟨by rfl, ?_⟩) hS ?_
  rotate_left
  · intro w hSw
    obtain ⟨_, _, _, _, _, _, _, _, _, _, _, _, _, _, _, _, _, _, _, _, _, _, _, _⟩ := hSw
    go_simp
    try with_reducible rfl
  simp only [Act.put, List.setIfInBounds_toArray, List.set_cons_zero, List.set_cons_succ]
  refine anyN_takeR 41 (v := ?_) rfl (by kernel_rfl) (by kernel_rfl) (by kernel_rfl) (by kernel_rfl) (fun _ _ _ h => h) (Or.inl ⟨by rfl, ?_⟩) hS ?_
  rotate_left
  · intro w hSw
    obtain ⟨_, _, _, _, _, _, _, _, _, _, _, _, _, _, _, _, _, _, _, _, _, _, _, _⟩ := hSw
    go_simp
    try with_reducible rfl
  simp only [Act.put, List.setIfInBounds_toArray, List.set_cons_zero, List.set_cons_succ]
  refine anyN_takeR 42 (v := ?_) rfl (by kernel_rfl) (by kernel_rfl) (by kernel_rfl) (by kernel_rfl) (fun _ _ _ h => h) (Or.inl ⟨by rfl, ?_⟩) hS ?_
  rotate_left
  · intro w hSw
    obtain ⟨_, _, _, _, _, _, _, _, _, _, _, _, _, _, _, _, _, _, _, _, _, _, _, _⟩ := hSw
    go_simp
    try with_reducible rfl
  simp only [Act.put, List.setIfInBounds_toArray, List.set_cons_zero, List.set_cons_succ]
  refine anyN_takeR 43 (v := ?_) rfl (by kernel_rfl) (by kernel_rfl) (by kernel_rfl) (by kernel_rfl) (fun _ _ _ h => h) (Or.inl ⟨by rfl, ?_⟩) hS ?_
  rotate_left
  · intro w hSw
    obtain ⟨_, _, _, _, _, _, _, _, _, _, _, _, _, _, _, _, _, _, _, _, _, _, _, _⟩ := hSw
    go_simp
    try with_reducible rfl
  simp only [Act.put, List.setIfInBounds_toArray, List.set_cons_zero, List.set_cons_succ]
  refine anyN_takeR 44 (v := ?_) rfl (by kernel_rfl) (by kernel_rfl) (by kernel_rfl) (by kernel_rfl) (fun _ _ _ h => h) (Or.inl ⟨by rfl, ?_⟩) hS ?_
  rotate_left
  · intro w hSw
    obtain ⟨_, _, _, _, _, _, _, _, _, _, _, _, _, _, _, _, _, _, _, _, _, _, _, _⟩ := hSw
    go_simp
    try with_reducible rfl
  simp only [Act.put, List.setIfInBounds_toArray, List.set_cons_zero, List.set_cons_succ]
  refine anyN_takeR 45 (v := ?_) rfl (by kernel_rfl) (by kernel_rfl) (by kernel_rfl) (by kernel_rfl) (fun _ _ _ h => h) (Or.inl ⟨by rfl, ?_⟩) hS ?_
  rotate_left
  · intro w hSw
    obtain ⟨_, _, _, _, _, _, _, _, _, _, _, _, _, _, _, _, _, _, _, _, _, _, _, _⟩ := hSw
    go_simp
    try with_reducible rfl
  simp only [Act.put, List.setIfInBounds_toArray, List.set_cons_zero, List.set_cons_succ]
  refine anyN_takeR 46 (v := ?_) rfl (by kernel_rfl) (by kernel_rfl) (by kernel_rfl) (by kernel_rfl) (fun _ _ _ h => h) (Or.inl ⟨by rfl, ?_⟩) hS ?_
  rotate_left
  · intro w hSw
    obtain ⟨_, _, _, _, _, _, _, _, _, _, _, _, _, _, _, _, _, _, _, _, _, _, _, _⟩ := hSw
    go_simp
    try with_reducible rfl
  simp only [Act.put, List.setIfInBounds_toArray, List.set_cons_zero, List.set_cons_succ]
  refine anyN_takeR 47 (v := ?_) rfl (by kernel_rfl) (by kernel_rfl) (by kernel_rfl) (by kernel_rfl) (fun _ _ _ h => h) (Or.inl ⟨by rfl, ?_⟩) hS ?_
  rotate_left
  · intro w hSw
    obtain ⟨_, _, _, _, _, _, _, _, _, _, _, _, _, _, _, _, _, _, _, _, _, _, _, _⟩ := hSw
    go_simp
    try with_reducible rfl
  simp only [Act.put, List.setIfInBounds_toArray, List.set_cons_zero, List.set_cons_succ]
  refine anyN_takeR 48 (v := ?_) rfl (by kernel_rfl) (by kernel_rfl) (by kernel_rfl) (by kernel_rfl) (fun _ _ _ h => h) (Or.inl ⟨by rfl, ?_⟩) hS ?_
  rotate_left
  · intro w hSw
    obtain ⟨_, _, _, _, _, _, _, _, _, _, _, _, _, _, _, _, _, _, _, _, _, _, _, _⟩ := hSw
    go_simp
    try with_reducible rfl
  simp only [Act.put, List.setIfInBounds_toArray, List.set_cons_zero, List.set_cons_succ]
  refine anyN_oneG 49 rfl (by kernel_rfl) (by rfl) ?_
  go_simp
  (with_reducible refine ((Lib.hid (sameSc_self _ (ca := cad) (cb := cbd) (ca' := car) (cb' := cbr) SD.out SR.out))).out.mono ?_)
  clear hS
  rintro e wz5 ⟨rfl, hk⟩
  replace LA := Lib.hid (LA.out.below hk)
  replace LB := Lib.hid (LB.out.below hk)
  replace X18 := Lib.hid (X18.out.kp hk)
  replace X20 := Lib.hid (X20.out.kp hk)
  replace SD := Lib.hid (SD.out.kp hk)
  replace OD := Lib.hid (OD.out.kp hk)
  replace OC := Lib.hid (OC.out.kp hk)
  replace X22 := Lib.hid (X22.out.kp hk)
  replace SR := Lib.hid (SR.out.kp hk)
  replace X24 := Lib.hid (X24.out.kp hk)
  replace SE := Lib.hid (SE.out.kp hk)
  replace OE := Lib.hid (OE.out.kp hk)
  replace OF := Lib.hid (OF.out.kp hk)
  replace MA := Lib.hid (MA.out.kp hk)
  replace X27 := Lib.hid (X27.out.kp hk)
  replace SQ := Lib.hid (SQ.out.kp hk)
  replace MB := Lib.hid (MB.out.kp hk)
  replace X30 := Lib.hid (X30.out.kp hk)
  replace K3 := Lib.hid (K3.out.trans (hk.mono K3.out.size))
  clear hk
  dsimp only
  refine and_keep ⟨(X4.out.kp K3.out).c0, (X4.out.kp K3.out).c1, (X4.out.kp K3.out).c2, (X9.out.kp K3.out).c0, (X9.out.kp K3.out).c1, (X9.out.kp K3.out).c2, (X18.out).c0, (X18.out).c1, (X18.out).c2, (X20.out).c0, (X20.out).c1, (X20.out).c2, (X22.out).c0, (X22.out).c1, (X22.out).c2, (X24.out).c0, (X24.out).c1, (X24.out).c2, (X27.out).c0, (X27.out).c1, (X27.out).c2, (X30.out).c0, (X30.out).c1, (X30.out).c2⟩ (fun hS => ?_)
  refine anyN_takeR 50 (v := ?_) rfl (by kernel_rfl) (by kernel_rfl) (by kernel_rfl) (by kernel_rfl) (fun _ _ _ h => h) (Or.inl ⟨by rfl, ?_⟩) hS ?_
  rotate_left
  · intro w hSw
    obtain ⟨_, _, _, _, _, _, _, _, _, _, _, _, _, _, _, _, _, _, _, _, _, _, _, _⟩ := hSw
    go_simp
    try with_reducible rfl
  simp only [Act.put, List.setIfInBounds_toArray, List.set_cons_zero, List.set_cons_succ]
  refine anyN_takeR 51 (v := ?_) rfl (by kernel_rfl) (by kernel_rfl) (by kernel_rfl) (by kernel_rfl) (fun _ _ _ h => h) (Or.inl ⟨by rfl, ?_⟩) hS ?_
  rotate_left
  · intro w hSw
    obtain ⟨_, _, _, _, _, _, _, _, _, _, _, _, _, _, _, _, _, _, _, _, _, _, _, _⟩ := hSw
    go_simp
    try with_reducible rfl
  simp only [Act.put, List.setIfInBounds_toArray, List.set_cons_zero, List.set_cons_succ]
  refine anyN_takeR 52 (v := ?_) rfl (by kernel_rfl) (by kernel_rfl) (by kernel_rfl) (by kernel_rfl) (fun _ _ _ h => h) (Or.inl ⟨by rfl, ?_⟩) hS ?_
  rotate_left
  · intro w hSw
    obtain ⟨_, _, _, _, _, _, _, _, _, _, _, _, _, _, _, _, _, _, _, _, _, _, _, _⟩ := hSw
    go_simp
    try with_reducible rfl
  simp only [Act.put, List.setIfInBounds_toArray, List.set_cons_zero, List.set_cons_succ]
  refine anyN_takeR 53 (v := ?_) rfl (by kernel_rfl) (by kernel_rfl) (by kernel_rfl) (by kernel_rfl) (fun _ _ _ h => h) (Or.inl ⟨by rfl, ?_⟩) hS ?_
  rotate_left
  · intro w hSw
    obtain ⟨_, _, _, _, _, _, _, _, _, _, _, _, _, _, _, _, _, _, _, _, _, _, _, _⟩ := hSw
    go_simp
    try with_reducible rfl
  simp only [Act.put, List.setIfInBounds_toArray, List.set_cons_zero, List.set_cons_succ]
  refine anyN_takeR 54 (v := ?_) rfl (by kernel_rfl) (by kernel_rfl) (by kernel_rfl) (by kernel_rfl) (fun _ _ _ h => h) (Or.inl ⟨by rfl, ?_⟩) hS ?_
  rotate_left
  · intro w hSw
    obtain ⟨_, _, _, _, _, _, _, _, _, _, _, _, _, _, _, _, _, _, _, _, _, _, _, _⟩ := hSw
    go_simp
    try with_reducible rfl
  simp only [Act.put, List.setIfInBounds_toArray, List.set_cons_zero, List.set_cons_succ]
  refine anyN_oneG 55 rfl (by kernel_rfl) (by rfl) ?_
  go_simp
  (with_reducible refine ((Lib.hid (sameSc_self _ (ca := cae) (cb := cbe) (ca' := caq) (cb' := cbq) SE.out SQ.out))).out.mono ?_)
  clear hS
  rintro e wz6 ⟨rfl, hk⟩
  replace LA := Lib.hid (LA.out.below hk)
  replace LB := Lib.hid (LB.out.below hk)
  replace X18 := Lib.hid (X18.out.kp hk)
  replace X20 := Lib.hid (X20.out.kp hk)
  replace SD := Lib.hid (SD.out.kp hk)
  replace OD := Lib.hid (OD.out.kp hk)
  replace OC := Lib.hid (OC.out.kp hk)
  replace X22 := Lib.hid (X22.out.kp hk)
  replace SR := Lib.hid (SR.out.kp hk)
  replace X24 := Lib.hid (X24.out.kp hk)
  replace SE := Lib.hid (SE.out.kp hk)
  replace OE := Lib.hid (OE.out.kp hk)
  replace OF := Lib.hid (OF.out.kp hk)
  replace MA := Lib.hid (MA.out.kp hk)
  replace X27 := Lib.hid (X27.out.kp hk)
  replace SQ := Lib.hid (SQ.out.kp hk)
  replace MB := Lib.hid (MB.out.kp hk)
  replace X30 := Lib.hid (X30.out.kp hk)
  replace K3 := Lib.hid (K3.out.trans (hk.mono K3.out.size))
  clear hk
  dsimp only
  refine and_keep ⟨(X4.out.kp K3.out).c0, (X4.out.kp K3.out).c1, (X4.out.kp K3.out).c2, (X9.out.kp K3.out).c0, (X9.out.kp K3.out).c1, (X9.out.kp K3.out).c2, (X18.out).c0, (X18.out).c1, (X18.out).c2, (X20.out).c0, (X20.out).c1, (X20.out).c2, (X22.out).c0, (X22.out).c1, (X22.out).c2, (X24.out).c0, (X24.out).c1, (X24.out).c2, (X27.out).c0, (X27.out).c1, (X27.out).c2, (X30.out).c0, (X30.out).c1, (X30.out).c2⟩ (fun hS => ?_)
  refine anyN_takeR 56 (v := ?_) rfl (by kernel_rfl) (by kernel_rfl) (by kernel_rfl) (by kernel_rfl) (fun _ _ _ h => h) (Or.inl ⟨by rfl, ?_⟩) hS ?_
  rotate_left
  · intro w hSw
    obtain ⟨_, _, _, _, _, _, _, _, _, _, _, _, _, _, _, _, _, _, _, _, _, _, _, _⟩ := hSw
    go_simp
    try with_reducible rfl
  simp only [Act.put, List.setIfInBounds_toArray, List.set_cons_zero, List.set_cons_succ]
  refine anyN_takeR 57 (v := ?_) rfl (by kernel_rfl) (by kernel_rfl) (by kernel_rfl) (by kernel_rfl) (fun _ _ _ h => h) (Or.inl ⟨by rfl, ?_⟩) hS ?_
  rotate_left
  · intro w hSw
    obtain ⟨_, _, _, _, _, _, _, _, _, _, _, _, _, _, _, _, _, _, _, _, _, _, _, _⟩ := hSw
    go_simp
    try with_reducible rfl
  simp only [Act.put, List.setIfInBounds_toArray, List.set_cons_zero, List.set_cons_succ]
  refine anyN_takeR 58 (v := ?_) rfl (by kernel_rfl) (by kernel_rfl) (by kernel_rfl) (by kernel_rfl) (fun _ _ _ h => h) (Or.inl ⟨by rfl, ?_⟩) hS ?_
  rotate_left
  · intro w hSw
    obtain ⟨_, _, _, _, _, _, _, _, _, _, _, _, _, _, _, _, _, _, _, _, _, _, _, _⟩ := hSw
    go_simp
    try with_reducible rfl
  simp only [Act.put, List.setIfInBounds_toArray, List.set_cons_zero, List.set_cons_succ]
  refine anyN_takeR 59 (v := ?_) rfl (by kernel_rfl) (by kernel_rfl) (by kernel_rfl) (by kernel_rfl) (fun _ _ _ h => h) (Or.inl ⟨by rfl, ?_⟩) hS ?_
  rotate_left
  · intro w hSw
    obtain ⟨_, _, _, _, _, _, _, _, _, _, _, _, _, _, _, _, _, _, _, _, _, _, _, _⟩ := hSw
    go_simp
    try with_reducible rfl
  simp only [Act.put, List.setIfInBounds_toArray, List.set_cons_zero, List.set_cons_succ]
  refine anyN_takeR 60 (v := ?_) rfl (by kernel_rfl) (by kernel_rfl) (by kernel_rfl) (by kernel_rfl) (fun _ _ _ h => h) (Or.inl ⟨by rfl, ?_⟩) hS ?_
  rotate_left
  · intro w hSw
    obtain ⟨_, _, _, _, _, _, _, _, _, _, _, _, _, _, _, _, _, _, _, _, _, _, _, _⟩ := hSw
    go_simp
    try with_reducible rfl
  simp only [Act.put, List.setIfInBounds_toArray, List.set_cons_zero, List.set_cons_succ]
  refine anyN_takeR 61 (v := ?_) rfl (by kernel_rfl) (by kernel_rfl) (by kernel_rfl) (by kernel_rfl) (fun _ _ _ h => h) (Or.inl ⟨by rfl, ?_⟩) hS ?_
  rotate_left
  · intro w hSw
    obtain ⟨_, _, _, _, _, _, _, _, _, _, _, _, _, _, _, _, _, _, _, _, _, _, _, _⟩ := hSw
    go_simp
    try with_reducible rfl
  simp only [Act.put, List.setIfInBounds_toArray, List.set_cons_zero, List.set_cons_succ]
  refine anyN_takeR 62 (v := ?_) rfl (by kernel_rfl) (by kernel_rfl) (by kernel_rfl) (by kernel_rfl) (fun _ _ _ h => h) (Or.inl ⟨by rfl, ?_⟩) hS ?_
  rotate_left
  · intro w hSw
    obtain ⟨_, _, _, _, _, _, _, _, _, _, _, _, _, _, _, _, _, _, _, _, _, _, _, _⟩ := hSw
    go_simp
    try with_reducible rfl
  simp only [Act.put, List.setIfInBounds_toArray, List.set_cons_zero, List.set_cons_succ]
  refine anyN_takeR 63 (v := ?_) rfl (by kernel_rfl) (by kernel_rfl) (by kernel_rfl) (by kernel_rfl) (fun _ _ _ h => h) (Or.inl ⟨by rfl, ?_⟩) hS ?_
  rotate_left
  · intro w hSw
    obtain ⟨_, _, _, _, _, _, _, _, _, _, _, _, _, _, _, _, _, _, _, _, _, _, _, _⟩ := hSw
    go_simp
    try with_reducible rfl
  simp only [Act.put, List.setIfInBounds_toArray, List.set_cons_zero, List.set_cons_succ]
  refine anyN_takeR 64 (v := ?_) rfl (by kernel_rfl) (by kernel_rfl) (by kernel_rfl) (by kernel_rfl) (fun _ _ _ h => h) (Or.inl ⟨by rfl, ?_⟩) hS ?_
  rotate_left
  · intro w hSw
    obtain ⟨_, _, _, _, _, _, _, _, _, _, _, _, _, _, _, _, _, _, _, _, _, _, _, _⟩ := hSw
    go_simp
    try with_reducible rfl
  simp only [Act.put, List.setIfInBounds_toArray, List.set_cons_zero, List.set_cons_succ]
  refine anyN_done (by kernel_rfl) ?_
  refine NoPanic.normal ?_
  clear hS
  have TT := Lib.hid (show TO w3.heap.size b22 b27 Ad Bd Ae Be from ⟨TB.out, TBB.out, TD.out, TC.out, TDD.out, TE.out, TF.out, TEE.out⟩)
  have ST := Lib.hid (show TS w3 b22 b27 (.int .i64 s1.n) (.int .i64 s2.n) Ad Bd Ae Be s1.ts.length s1.cur.length s2.ts.length s2.cur.length cad cbd cae cbe wz6 from ⟨K3.out, X22.out, X27.out, lay_tks SD.out.ts OD.out, lay_tks SE.out.ts OE.out, lay_ints SD.out.cur OC.out, lay_ints SE.out.cur OF.out⟩)
  obtain ⟨nd, hnd⟩ : ∃ n, n = s1.ts.length := ⟨_, rfl⟩
  obtain ⟨ld, hld⟩ : ∃ n, n = s1.cur.length := ⟨_, rfl⟩
  obtain ⟨ne, hne⟩ : ∃ n, n = s2.ts.length := ⟨_, rfl⟩
  obtain ⟨le, hle⟩ : ∃ n, n = s2.cur.length := ⟨_, rfl⟩
  obtain ⟨nm, hnm⟩ : ∃ n, n = ms.length := ⟨_, rfl⟩
  have l1 := SD.out.lam
  have l2 := SD.out.lbm
  have l3 := SE.out.lam
  have l4 := SE.out.lbm
  rw [← hnd] at l1
  rw [← hld] at l2
  rw [← hne] at l3
  rw [← hle] at l4
  rw [← hnm] at hml
  rw [← hnd, ← hld, ← hne, ← hle] at ST
  rw [← hnm] at MA MB
  clear HL HE1 HBN HE2 HPV HDV HPL LA LB X18 X20 X22 X24 X27 X30 SD OD OC SR SE OE OF SQ TD TC TDD TB TE TF TEE TBB HLM K3 Q0 Q1 QM NA NB NX NY X6
  rw [← hnm]
  clear hnd hld hne hle hnm
  go_wp2_with fail
  go_loopw [167] (fun i wr => ∃ j : Nat, i = .int .i64 (j : Int) ∧ j ≤ nm ∧ TS w3 b22 b27 (.int .i64 s1.n) (.int .i64 s2.n) Ad Bd Ae Be nd ld ne le cad cbd cae cbe wr ∧ IsMvs wr Am nm ms ∧ IsMvs wr An nm ms) (fun i _ => nm - (intOf i).toNat)
  case atStart => exact ⟨0, rfl, Nat.zero_le _, ST.out, MA.out, MB.out⟩
  case round =>
    clear ST MA MB
    obtain ⟨j, rfl, hj, hst, hma, hmb⟩ := hrel
    have ST := Lib.hid hst
    have MA := Lib.hid hma
    have MB := Lib.hid hmb
    clear hst hma hmb
    by_cases hlt : j < nm
    · have hji : (j : Int) < nm := by omega
      obtain ⟨ba, oa, rfl, la1, ca0, ca1, ca2⟩ := MA.out j hlt
      obtain ⟨bb, ob, rfl, lb1, cb0, cb1, cb2⟩ := MB.out j hlt
      obtain ⟨⟨g1, g2, g3⟩, hg⟩ : ∃ v, v = ms.getD j (0, 0, 0) := ⟨_, rfl⟩
      rw [← hg] at ca0 ca1 ca2 cb0 cb1 cb2
      dsimp only at ca0 ca1 ca2 cb0 cb1 cb2
      clear hg
      go_upto_region 17 with fail
      clear ca0 ca1 ca2
      have kk : Kp wr.heap.size wr (wr.alloc (.cells #[.int .i64 g1, .int .i64 g2, .int .i64 g3] 38)) := (Kp.refl _ _).alloc (Nat.le_refl _) _
      obtain ⟨y0, y1, y2, yl⟩ := C3.new wr (.int .i64 g1) (.int .i64 g2) (.int .i64 g3) 38
      replace ST := Lib.hid (ST.out.kp kk)
      replace MA := Lib.hid (MA.out.kp kk)
      replace MB := Lib.hid (MB.out.kp kk)
      replace cb0 := (kk.cell (p := ⟨bb, _, none⟩) lb1).trans cb0
      replace cb1 := (kk.cell (p := ⟨bb, _, none⟩) lb1).trans cb1
      replace cb2 := (kk.cell (p := ⟨bb, _, none⟩) lb1).trans cb2
      replace lb1 := Nat.lt_of_lt_of_le lb1 kk.size
      obtain ⟨bY, hbY⟩ : ∃ b, b = wr.heap.size := ⟨_, rfl⟩
      rw [← hbY] at y0 y1 y2 yl
      rw [← hbY]
      clear hbY kk la1
      generalize wr.alloc _ = wy at *
      go_quiet (fail)
      all_goals go_wp2_with fail
      all_goals
        go_roundw
        case rel => exact ⟨j + 1, by go_num, by omega, ST.out.kp ((Kp.refl _ _).drewN _), MA.out.kp ((Kp.refl _ _).drewN _), MB.out.kp ((Kp.refl _ _).drewN _)⟩
        case measure => simp [intOf]; omega
    clear MA MB
    obtain rfl : j = nm := by omega
    have hjn : ¬ ((j : Int) < (j : Int)) := by omega
    obtain ⟨d0, d1, d2, dl⟩ := ST.out.y22
    go_wp2_with fail
    clear d0 d1 d2 dl hjn hj
    go_loopw [182] (fun i wr => ∃ j : Nat, i = .int .i64 (j : Int) ∧ j ≤ nd ∧ TS w3 b22 b27 (.int .i64 s1.n) (.int .i64 s2.n) Ad Bd Ae Be nd ld ne le cad cbd cae cbe wr) (fun i _ => nd - (intOf i).toNat)
    case atStart => exact ⟨0, rfl, Nat.zero_le _, ST.out⟩
    case round =>
      clear ST
      obtain ⟨j0, rfl, hj, hst⟩ := hrel
      have ST := Lib.hid hst
      clear hst
      by_cases hlt : j0 < nd
      · have hji : (j0 : Int) < nd := by omega
        obtain ⟨g, hA, hg, hf, hc⟩ := ST.out.d.c (by omega)
        obtain ⟨v, hv⟩ := hc j0 hlt
        clear hc
        subst hA
        obtain ⟨d0, d1, d2, dl⟩ := ST.out.y22
        go_wp2_with fail
        go_roundw
        case rel => exact ⟨j0 + 1, by go_num, by omega, ST.out.putd TT.out rfl hlt (-1)⟩
        case measure => simp [intOf]; omega
      obtain rfl : nd = j0 := by omega
      have hjn : ¬ ((nd : Int) < (nd : Int)) := by omega
      obtain ⟨d0, d1, d2, dl⟩ := ST.out.y27
      go_wp2_with fail
      clear d0 d1 d2 dl hjn hj
      go_loopw [194] (fun i wr => ∃ j : Nat, i = .int .i64 (j : Int) ∧ j ≤ ne ∧ TS w3 b22 b27 (.int .i64 s1.n) (.int .i64 s2.n) Ad Bd Ae Be nd ld ne le cad cbd cae cbe wr) (fun i _ => ne - (intOf i).toNat)
      case atStart => exact ⟨0, rfl, Nat.zero_le _, ST.out⟩
      case round =>
        clear ST
        obtain ⟨j1, rfl, hj, hst⟩ := hrel
        have ST := Lib.hid hst
        clear hst
        by_cases hlt : j1 < ne
        · have hji : (j1 : Int) < ne := by omega
          obtain ⟨g, hA, hg, hf, hc⟩ := ST.out.e.c (by omega)
          obtain ⟨v, hv⟩ := hc j1 hlt
          clear hc
          subst hA
          obtain ⟨d0, d1, d2, dl⟩ := ST.out.y27
          go_wp2_with fail
          go_roundw
          case rel => exact ⟨j1 + 1, by go_num, by omega, ST.out.pute TT.out rfl hlt (-2)⟩
          case measure => simp [intOf]; omega
        obtain rfl : ne = j1 := by omega
        have hjn : ¬ ((ne : Int) < (ne : Int)) := by omega
        obtain ⟨d0, d1, d2, dl⟩ := ST.out.y22
        go_wp2_with fail
        clear d0 d1 d2 dl hjn hj
        go_loopw [206] (fun i wr => ∃ j : Nat, i = .int .i64 (j : Int) ∧ j ≤ ld ∧ TS w3 b22 b27 (.int .i64 s1.n) (.int .i64 s2.n) Ad Bd Ae Be nd ld ne le cad cbd cae cbe wr) (fun i _ => ld - (intOf i).toNat)
        case atStart => exact ⟨0, rfl, Nat.zero_le _, ST.out⟩
        case round =>
          clear ST
          obtain ⟨j2, rfl, hj, hst⟩ := hrel
          have ST := Lib.hid hst
          clear hst
          by_cases hlt : j2 < ld
          · have hji : (j2 : Int) < ld := by omega
            obtain ⟨g, hA, hg, hf, hc⟩ := ST.out.dc.c (by omega)
            obtain ⟨v, hv⟩ := hc j2 hlt
            clear hc
            rw [Nat.mul_one] at hv
            subst hA
            obtain ⟨d0, d1, d2, dl⟩ := ST.out.y22
            go_wp2_with fail
            go_roundw
            case rel => exact ⟨j2 + 1, by go_num, by omega, ST.out.putdc TT.out rfl hlt (-1)⟩
            case measure => simp [intOf]; omega
          obtain rfl : ld = j2 := by omega
          have hjn : ¬ ((ld : Int) < (ld : Int)) := by omega
          obtain ⟨d0, d1, d2, dl⟩ := ST.out.y27
          go_wp2_with fail
          clear d0 d1 d2 dl hjn hj
          go_loopw [217] (fun i wr => ∃ j : Nat, i = .int .i64 (j : Int) ∧ j ≤ le ∧ TS w3 b22 b27 (.int .i64 s1.n) (.int .i64 s2.n) Ad Bd Ae Be nd ld ne le cad cbd cae cbe wr) (fun i _ => le - (intOf i).toNat)
          case atStart => exact ⟨0, rfl, Nat.zero_le _, ST.out⟩
          case round =>
            clear ST
            obtain ⟨j3, rfl, hj, hst⟩ := hrel
            have ST := Lib.hid hst
            clear hst
            by_cases hlt : j3 < le
            · have hji : (j3 : Int) < le := by omega
              obtain ⟨g, hA, hg, hf, hc⟩ := ST.out.ec.c (by omega)
              obtain ⟨v, hv⟩ := hc j3 hlt
              clear hc
              rw [Nat.mul_one] at hv
              subst hA
              obtain ⟨d0, d1, d2, dl⟩ := ST.out.y27
              go_wp2_with fail
              go_roundw
              case rel => exact ⟨j3 + 1, by go_num, by omega, ST.out.putec TT.out rfl hlt (-2)⟩
              case measure => simp [intOf]; omega
            obtain rfl : le = j3 := by omega
            have hjn : ¬ ((le : Int) < (le : Int)) := by omega
            have HC := Lib.hid (sameSc_self _ (ca := ca) (cb := cb) (ca' := cax) (cb' := cbx) (SA.out.kp ST.out.k) (SX.out.kp ST.out.k))
            obtain ⟨x0, x1, x2, xl⟩ := X4.out.kp ST.out.k
            obtain ⟨y0, y1, y2, yl⟩ := X9.out.kp ST.out.k
            go_wp2_with fail
            (with_reducible refine HC.out.mono ?_)
            clear x0 x1 x2 xl y0 y1 y2 yl HC
            rintro e wf ⟨rfl, hk⟩
            have HF := Lib.hid (K.out.trans ((ST.out.k.trans (hk.mono ST.out.k.size)).mono K.out.size))
            clear hk
            go_wp2_with fail
            go_ret
            exact ⟨rfl, HF.out⟩
end Go.Proofs.Yticgdfbknaholaa
