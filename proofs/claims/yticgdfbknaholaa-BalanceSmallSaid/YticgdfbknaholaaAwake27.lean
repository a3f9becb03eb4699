/-
  The contract of the laws' own 'awake'.
-/
import Derived.Test.YticgdfbknaholaaVal27
namespace Go.Proofs.Yticgdfbknaholaa
open Go.RowKit

theorem loads2_any (W : World) {A B : Option Addr} {x y : Int} {la pa pb : Nat} {s : Sc} (h : ScAt W A la B 2 s) (hr : rightS s = true) (hx : loadV s.ts 0 = x) (hy : loadV s.ts 1 = y) :
    Calls Try.prog 16 #[.agg #[.int .i64 s.n, .slice A la pa, .slice B 2 pb]] W fun e w' => ∃ b, e = .returned (.tuple #[.slice (some ⟨b, 0, none⟩) 2 2, .int .i64 0]) ∧ W.heap.size ≤ b ∧ IsInts w' .i64 (some ⟨b, 0, none⟩) 2 [x, y] ∧ Kp W.heap.size W w' := by
  refine (loadsF_any W h hr).mono ?_
  rintro e w' ⟨b, rfl, h1, h2, h3⟩
  refine ⟨b, rfl, h1, h2.ints (fun i hi => ?_), h3⟩
  have : i = 0 ∨ i = 1 := by omega
  rcases this with rfl | rfl
  · exact hx
  · exact hy
/-- A plan, read. -/
theorem plan_read {W : World} {args : Array Value} {s' : Sc} {ms : List Mv} {er n : Int} {la lb lm : Nat} (h : Calls Try.prog 12 args W (PlanPost W (s', ms, er))) (hn : s'.n = n) (hla : s'.ts.length = la) (hlb : s'.cur.length = lb) (hl : ms.length = lm) :
    Calls Try.prog 12 args W fun e w' => ∃ Av cv A6 ca6 B6 cb6, e = .returned (.tuple #[.slice Av lm cv, .agg #[.int .i64 n, .slice A6 la ca6, .slice B6 lb cb6], .int .i64 er]) ∧ Rd w' 3 Av lm (flatM ms) ∧ ScAt w' A6 la B6 lb s' ∧ Kp W.heap.size W w' ∧ (∀ p, Av = some p → W.heap.size ≤ p.block) ∧ (∀ p, A6 = some p → W.heap.size ≤ p.block) ∧ (∀ p, B6 = some p → W.heap.size ≤ p.block) := by
  refine h.mono ?_
  rintro e w' ⟨v, vs, rfl, hown, hsc, hk⟩
  obtain ⟨A6, ca6, B6, cb6, rfl, hs6, ha6, hb6, _⟩ := hsc.ex
  obtain ⟨Av, cv, rfl, _, _, _, hrd, hat⟩ := own_form hown
  dsimp only at hs6 hrd
  subst hn hla hlb hl
  refine ⟨Av, cv, A6, ca6, B6, cb6, rfl, hrd, hs6, hk, fun p hp => ?_, fun p hp => ?_, fun p hp => ?_⟩
  · obtain ⟨g, rfl, h2, _⟩ := hat p hp
    exact h2
  · obtain ⟨g, rfl, h2, _⟩ := ha6.at0 p hp
    exact h2
  · obtain ⟨g, rfl, h2, _⟩ := hb6.at0 p hp
    exact h2
/-- The moves' cells. -/
theorem rd_mv {w : World} {A : Option Addr} {n k : Nat} {ms : List Mv} (h : Rd w 3 A n (flatM ms)) {x : Value} (hk : (flatM ms)[k]? = some x) : ∃ b off, A = some ⟨b, off, none⟩ ∧ b < w.heap.size ∧ w.cell? ⟨b, off + k, none⟩ = some x := h.2 k x hk
set_option maxRecDepth 100000 in
set_option maxHeartbeats 4000000 in
theorem awake_any (W : World) : Calls Try.prog 10 #[] W fun e w' => e = .returned (.bool true) ∧ Kp W.heap.size W w' := by
  have HE := fun w => Lib.hid (example_any w)
  go_enter Try.func10, Try.ntmps10
  go_wp2_with fail
  (with_reducible refine (HE _).out.mono ?_)
  rintro e w1 ⟨A, B, rfl, hs, ha, hb, hAB, hk⟩
  have K1 := Lib.hid hk
  have HS1 := Lib.hid hs
  have HA1 := Lib.hid ha
  have HB1 := Lib.hid hb
  have dAB := Lib.hid hAB
  clear hs ha hb hk hAB
  go_upto_region 2 with fail
  have ko : Kp w1.heap.size w1 (w1.alloc (.cells #[.int .i64 2, .slice (some ⟨A, 0, none⟩) 3 3, .slice (some ⟨B, 0, none⟩) 2 2] 30)) := (Kp.refl _ _).alloc (Nat.le_refl _) _
  have HX := Lib.hid (C3.new w1 (.int .i64 2) (.slice (some ⟨A, 0, none⟩) 3 3) (.slice (some ⟨B, 0, none⟩) 2 2) 30)
  have HXZ := Lib.hid (Fz.new w1 #[.int .i64 2, .slice (some ⟨A, 0, none⟩) 3 3, .slice (some ⟨B, 0, none⟩) 2 2] 30)
  have HS := Lib.hid (HS1.out.kp ko)
  have HA := Lib.hid (HA1.out.kp ko)
  have HB := Lib.hid (HB1.out.kp ko)
  have K := Lib.hid (K1.out.trans (ko.mono K1.out.size))
  have hw1 : W.heap.size ≤ w1.heap.size := K1.out.size
  obtain ⟨bX, hbX⟩ : ∃ b, b = w1.heap.size := ⟨_, rfl⟩
  have WX : W.heap.size ≤ bX := by omega
  have hAl : A < bX := by obtain ⟨g, e, _, h3, _⟩ := HA1.out.at0 _ rfl; cases e; omega
  have hBl : B < bX := by obtain ⟨g, e, _, h3, _⟩ := HB1.out.at0 _ rfl; cases e; omega
  have WA : W.heap.size ≤ A := by obtain ⟨g, e, h3, _⟩ := HA1.out.at0 _ rfl; cases e; exact h3
  have WB : W.heap.size ≤ B := by obtain ⟨g, e, h3, _⟩ := HB1.out.at0 _ rfl; cases e; exact h3
  rw [← hbX] at HX HXZ
  rw [← hbX]
  clear ko hbX HS1 HA1 HB1 K1 hw1
  generalize w1.alloc _ = w2 at *
  -- the loads
  have HL0 := loads2_any w2 (pa := 3) (pb := 2) HS.out ex_right ex_loads.1 ex_loads.2.1
  rw [show exS.n = 2 from rfl] at HL0
  have HL := Lib.hid HL0
  clear HL0
  obtain ⟨x0, x1, x2, xl⟩ := HX.out
  go_wp2_with fail
  (with_reducible refine HL.out.mono ?_)
  clear x0 x1 x2 xl HL
  rintro e w3 ⟨bL, rfl, hbL, hi3, hk⟩
  have HI3 := Lib.hid hi3
  have HX3 := Lib.hid (HX.out.kp hk)
  have HXZ3 := Lib.hid (HXZ.out.kp hk)
  have HS3 := Lib.hid (HS.out.kp hk)
  have HA3 := Lib.hid (HA.out.kp hk)
  have HB3 := Lib.hid (HB.out.kp hk)
  have K3 := Lib.hid (K.out.trans (hk.mono K.out.size))
  have hLX : bX < bL := by have := HX.out.lt; omega
  clear hi3 hk HX HXZ HS HA HB K hbL
  -- what CPU 1 pulls
  have HP := pull_any w3 (ca := 3) (cb := 2) (cpu := 1) HS3.out
  rw [ex_pull, show exS.n = 2 from rfl] at HP
  have HPP := Lib.hid HP
  clear HP
  obtain ⟨x0, x1, x2, xl⟩ := HX3.out
  go_wp2_with fail
  (with_reducible refine HPP.out.mono ?_)
  clear x0 x1 x2 xl HPP
  rintro e w4 ⟨rfl, hk⟩
  go_upto_region 4 with fail
  have ko : Kp w4.heap.size w4 (w4.alloc (.cells #[.int .i64 2, .int .i64 0, .int .i64 1] 38)) := (Kp.refl _ _).alloc (Nat.le_refl _) _
  have HM := Lib.hid (C3.new w4 (.int .i64 2) (.int .i64 0) (.int .i64 1) 38)
  have HI5 := Lib.hid ((HI3.out.below hk).below ko)
  have HX5 := Lib.hid ((HX3.out.kp hk).kp ko)
  have HXZ5 := Lib.hid ((HXZ3.out.kp hk).kp ko)
  have HS5 := Lib.hid ((HS3.out.kp hk).kp ko)
  have HA5 := Lib.hid ((HA3.out.kp hk).kp ko)
  have HB5 := Lib.hid ((HB3.out.kp hk).kp ko)
  have K5 := Lib.hid ((K3.out.trans (hk.mono K3.out.size)).alloc (Nat.le_trans K3.out.size hk.size) (.cells #[.int .i64 2, .int .i64 0, .int .i64 1] 38))
  have h3X : bX < w3.heap.size := HX3.out.lt
  have h34 := hk.size
  obtain ⟨bM, hbM⟩ : ∃ b, b = w4.heap.size := ⟨_, rfl⟩
  have dMX : bX < bM := by omega
  rw [← hbM] at HM
  rw [← hbM]
  clear ko hk HI3 HX3 HXZ3 HS3 HA3 HB3 K3 h3X h34 hbM
  generalize w4.alloc _ = w5 at *
  -- the plan
  have HP := plan_any w5 (ca := 3) (cb := 2) (most := 9) HS5.out (fun h => by cases h) (fun h => by cases h) (by decide)
  rw [ex_plan, show exS.n = 2 from rfl] at HP
  have HPP := Lib.hid (plan_read HP (n := 2) (la := 3) (lb := 2) (lm := 1) rfl rfl rfl rfl)
  clear HP
  obtain ⟨x0, x1, x2, xl⟩ := HX5.out
  go_wp2_with fail
  (with_reducible refine HPP.out.mono ?_)
  clear x0 x1 x2 xl HPP
  rintro e w6 ⟨Av, cv, A6, ca6, B6, cb6, rfl, hrd, hs6, hk, _⟩
  obtain ⟨bv, ov, rfl, hbv, q0⟩ := rd_mv hrd (k := 0) (x := .int .i64 2) rfl
  obtain ⟨_, _, e1, _, q1⟩ := rd_mv hrd (k := 1) (x := .int .i64 0) rfl
  cases e1
  obtain ⟨_, _, e1, _, q2⟩ := rd_mv hrd (k := 2) (x := .int .i64 1) rfl
  cases e1
  go_upto_region 5 with fail
  have ko : Kp w6.heap.size w6 (w6.alloc (.cells #[.int .i64 2, .slice A6 3 ca6, .slice B6 2 cb6] 30)) := (Kp.refl _ _).alloc (Nat.le_refl _) _
  have HT := Lib.hid (C3.new w6 (.int .i64 2) (.slice A6 3 ca6) (.slice B6 2 cb6) 30)
  have HTZ := Lib.hid (Fz.new w6 #[.int .i64 2, .slice A6 3 ca6, .slice B6 2 cb6] 30)
  have HQ := Lib.hid (show At (w6.alloc (.cells #[.int .i64 2, .slice A6 3 ca6, .slice B6 2 cb6] 30)) ⟨bv, ov + 0, none⟩ (.int .i64 2) ∧ At (w6.alloc (.cells #[.int .i64 2, .slice A6 3 ca6, .slice B6 2 cb6] 30)) ⟨bv, ov + 1, none⟩ (.int .i64 0) ∧ At (w6.alloc (.cells #[.int .i64 2, .slice A6 3 ca6, .slice B6 2 cb6] 30)) ⟨bv, ov + 2, none⟩ (.int .i64 1) from ⟨At.kp ⟨q0, hbv⟩ ko, At.kp ⟨q1, hbv⟩ ko, At.kp ⟨q2, hbv⟩ ko⟩)
  have HI7 := Lib.hid ((HI5.out.below hk).below ko)
  have HX7 := Lib.hid ((HX5.out.kp hk).kp ko)
  have HXZ7 := Lib.hid ((HXZ5.out.kp hk).kp ko)
  have HS7 := Lib.hid ((HS5.out.kp hk).kp ko)
  have HA7 := Lib.hid ((HA5.out.kp hk).kp ko)
  have HB7 := Lib.hid ((HB5.out.kp hk).kp ko)
  have HM7 := Lib.hid ((HM.out.kp hk).kp ko)
  have HT7 := Lib.hid (hs6.kp ko)
  have K7 := Lib.hid ((K5.out.trans (hk.mono K5.out.size)).alloc (Nat.le_trans K5.out.size hk.size) (.cells #[.int .i64 2, .slice A6 3 ca6, .slice B6 2 cb6] 30))
  have h5X : bX < w5.heap.size := HX5.out.lt
  have h56 := hk.size
  obtain ⟨bT, hbT⟩ : ∃ b, b = w6.heap.size := ⟨_, rfl⟩
  have dTX : bX < bT := by omega
  have WT : W.heap.size ≤ bT := by omega
  rw [← hbT] at HT HTZ
  rw [← hbT]
  clear ko hk HI5 HX5 HXZ5 HS5 HA5 HB5 HM K5 h5X h56 hbT hrd hs6 q0 q1 q2 hbv
  generalize w6.alloc _ = w7 at *
  -- the loads behind the plan
  have HL0 := loads2_any w7 (pa := ca6) (pb := cb6) HT7.out ex_right1 ex_loads.2.2.1 ex_loads.2.2.2.1
  rw [show exS1.n = 2 from rfl] at HL0
  have HL := Lib.hid HL0
  clear HL0
  obtain ⟨x0, x1, x2, xl⟩ := HT.out
  go_wp2_with fail
  (with_reducible refine HL.out.mono ?_)
  clear x0 x1 x2 xl HL
  rintro e w8 ⟨bK, rfl, hbK, hi8, hk⟩
  have HI9 := Lib.hid (HI7.out.below hk)
  have HK9 := Lib.hid hi8
  have HX9 := Lib.hid (HX7.out.kp hk)
  have HXZ9 := Lib.hid (HXZ7.out.kp hk)
  have HS9 := Lib.hid (HS7.out.kp hk)
  have HA9 := Lib.hid (HA7.out.kp hk)
  have HB9 := Lib.hid (HB7.out.kp hk)
  have HM9 := Lib.hid (HM7.out.kp hk)
  have HT9 := Lib.hid (HT.out.kp hk)
  have HTZ9 := Lib.hid (HTZ.out.kp hk)
  have HQ9 := Lib.hid (And.intro (HQ.out.1.kp hk) (And.intro (HQ.out.2.1.kp hk) (HQ.out.2.2.kp hk)))
  have K9 := Lib.hid (K7.out.trans (hk.mono K7.out.size))
  clear hk hi8 HI7 HX7 HXZ7 HS7 HA7 HB7 HM7 HT HTZ HQ K7 hbK HT7
  go_upto_region 6 with fail
  refine wp_region_noPanic ?_
  refine wp_region_anyN (fun w' => w'.cell? ⟨bM, 0, none⟩ = some (.int .i64 2) ∧ w'.cell? ⟨bM, 1, none⟩ = some (.int .i64 0) ∧ w'.cell? ⟨bM, 2, none⟩ = some (.int .i64 1) ∧ w'.cell? ⟨bv, ov + 0, none⟩ = some (.int .i64 2) ∧ w'.cell? ⟨bv, ov + 1, none⟩ = some (.int .i64 0) ∧ w'.cell? ⟨bv, ov + 2, none⟩ = some (.int .i64 1)) 37 (by kernel_rfl) ?_
  have kd : Kp w8.heap.size w8 w8.drew := (Kp.refl _ _).drewN 1
  replace HI9 := Lib.hid (HI9.out.below kd)
  replace HK9 := Lib.hid (HK9.out.below kd)
  replace HX9 := Lib.hid (HX9.out.kp kd)
  replace HXZ9 := Lib.hid (HXZ9.out.kp kd)
  replace HS9 := Lib.hid (HS9.out.kp kd)
  replace HA9 := Lib.hid (HA9.out.kp kd)
  replace HB9 := Lib.hid (HB9.out.kp kd)
  replace HM9 := Lib.hid (HM9.out.kp kd)
  replace HT9 := Lib.hid (HT9.out.kp kd)
  replace HTZ9 := Lib.hid (HTZ9.out.kp kd)
  replace HQ9 := Lib.hid (And.intro (HQ9.out.1.kp kd) (And.intro (HQ9.out.2.1.kp kd) (HQ9.out.2.2.kp kd)))
  replace K9 := Lib.hid (K9.out.trans (kd.mono K9.out.size))
  clear kd
  generalize w8.drew = w9 at *
  have hS : w9.cell? ⟨bM, 0, none⟩ = some (.int .i64 2) ∧ w9.cell? ⟨bM, 1, none⟩ = some (.int .i64 0) ∧ w9.cell? ⟨bM, 2, none⟩ = some (.int .i64 1) ∧ w9.cell? ⟨bv, ov + 0, none⟩ = some (.int .i64 2) ∧ w9.cell? ⟨bv, ov + 1, none⟩ = some (.int .i64 0) ∧ w9.cell? ⟨bv, ov + 2, none⟩ = some (.int .i64 1) := ⟨HM9.out.c0, HM9.out.c1, HM9.out.c2, HQ9.out.1.1, HQ9.out.2.1.1, HQ9.out.2.2.1⟩
  refine anyN_takeR 0 (v := ?_) rfl (by kernel_rfl) (by kernel_rfl) (by kernel_rfl) (by kernel_rfl) (fun _ _ _ h => h) (Or.inl ⟨by rfl, ?_⟩) hS ?_
  rotate_left
  · intro w hSw
    obtain ⟨_, _, _, _, _, _⟩ := hSw
    go_simp
    try with_reducible rfl
  simp only [Act.put, List.setIfInBounds_toArray, List.set_cons_zero, List.set_cons_succ]
  refine anyN_takeR 1 (v := ?_) rfl (by kernel_rfl) (by kernel_rfl) (by kernel_rfl) (by kernel_rfl) (fun _ _ _ h => h) (Or.inl ⟨by rfl, ?_⟩) hS ?_
  rotate_left
  · intro w hSw
    obtain ⟨_, _, _, _, _, _⟩ := hSw
    go_simp
    try with_reducible rfl
  simp only [Act.put, List.setIfInBounds_toArray, List.set_cons_zero, List.set_cons_succ]
  refine anyN_takeR 2 (v := ?_) rfl (by kernel_rfl) (by kernel_rfl) (by kernel_rfl) (by kernel_rfl) (fun _ _ _ h => h) (Or.inl ⟨by rfl, ?_⟩) hS ?_
  rotate_left
  · intro w hSw
    obtain ⟨_, _, _, _, _, _⟩ := hSw
    go_simp
    try with_reducible rfl
  simp only [Act.put, List.setIfInBounds_toArray, List.set_cons_zero, List.set_cons_succ]
  refine anyN_takeR 3 (v := ?_) rfl (by kernel_rfl) (by kernel_rfl) (by kernel_rfl) (by kernel_rfl) (fun _ _ _ h => h) (Or.inl ⟨by rfl, ?_⟩) hS ?_
  rotate_left
  · intro w hSw
    obtain ⟨_, _, _, _, _, _⟩ := hSw
    go_simp
    try with_reducible rfl
  simp only [Act.put, List.setIfInBounds_toArray, List.set_cons_zero, List.set_cons_succ]
  refine anyN_takeR 4 (v := ?_) rfl (by kernel_rfl) (by kernel_rfl) (by kernel_rfl) (by kernel_rfl) (fun _ _ _ h => h) (Or.inl ⟨by rfl, ?_⟩) hS ?_
  rotate_left
  · intro w hSw
    obtain ⟨_, _, _, _, _, _⟩ := hSw
    go_simp
    try with_reducible rfl
  simp only [Act.put, List.setIfInBounds_toArray, List.set_cons_zero, List.set_cons_succ]
  refine anyN_takeR 5 (v := ?_) rfl (by kernel_rfl) (by kernel_rfl) (by kernel_rfl) (by kernel_rfl) (fun _ _ _ h => h) (Or.inl ⟨by rfl, ?_⟩) hS ?_
  rotate_left
  · intro w hSw
    obtain ⟨_, _, _, _, _, _⟩ := hSw
    go_simp
    try with_reducible rfl
  simp only [Act.put, List.setIfInBounds_toArray, List.set_cons_zero, List.set_cons_succ]
  refine anyN_takeR 6 (v := ?_) rfl (by kernel_rfl) (by kernel_rfl) (by kernel_rfl) (by kernel_rfl) (fun _ _ _ h => h) (Or.inl ⟨by rfl, ?_⟩) hS ?_
  rotate_left
  · intro w hSw
    obtain ⟨_, _, _, _, _, _⟩ := hSw
    go_simp
    try with_reducible rfl
  simp only [Act.put, List.setIfInBounds_toArray, List.set_cons_zero, List.set_cons_succ]
  refine anyN_takeR 7 (v := ?_) rfl (by kernel_rfl) (by kernel_rfl) (by kernel_rfl) (by kernel_rfl) (fun _ _ _ h => h) (Or.inl ⟨by rfl, ?_⟩) hS ?_
  rotate_left
  · intro w hSw
    obtain ⟨_, _, _, _, _, _⟩ := hSw
    go_simp
    try with_reducible rfl
  simp only [Act.put, List.setIfInBounds_toArray, List.set_cons_zero, List.set_cons_succ]
  refine anyN_takeR 8 (v := ?_) rfl (by kernel_rfl) (by kernel_rfl) (by kernel_rfl) (by kernel_rfl) (fun _ _ _ h => h) (Or.inl ⟨by rfl, ?_⟩) hS ?_
  rotate_left
  · intro w hSw
    obtain ⟨_, _, _, _, _, _⟩ := hSw
    go_simp
    try with_reducible rfl
  simp only [Act.put, List.setIfInBounds_toArray, List.set_cons_zero, List.set_cons_succ]
  refine anyN_takeR 9 (v := ?_) rfl (by kernel_rfl) (by kernel_rfl) (by kernel_rfl) (by kernel_rfl) (fun _ _ _ h => h) (Or.inl ⟨by rfl, ?_⟩) hS ?_
  rotate_left
  · intro w hSw
    obtain ⟨_, _, _, _, _, _⟩ := hSw
    go_simp
    try with_reducible rfl
  simp only [Act.put, List.setIfInBounds_toArray, List.set_cons_zero, List.set_cons_succ]
  refine anyN_oneG 10 rfl (by kernel_rfl) (by rfl) ?_
  go_simp
  have kd : Kp w9.heap.size w9 (w9.alloc (.cells #[.int .i64 600, .int .i64 0] 3)) := (Kp.refl _ _).alloc (Nat.le_refl _) _
  have HJ0 := (rd_new w9 ([600, 0].map (Value.int .i64)) 3 1 2 rfl).isInts.2
  simp only [List.map_cons, List.map_nil] at HJ0
  have HJ := Lib.hid HJ0
  replace HI9 := Lib.hid (HI9.out.below kd)
  replace HK9 := Lib.hid (HK9.out.below kd)
  replace HX9 := Lib.hid (HX9.out.kp kd)
  replace HXZ9 := Lib.hid (HXZ9.out.kp kd)
  replace HS9 := Lib.hid (HS9.out.kp kd)
  replace HA9 := Lib.hid (HA9.out.kp kd)
  replace HB9 := Lib.hid (HB9.out.kp kd)
  replace HM9 := Lib.hid (HM9.out.kp kd)
  replace HT9 := Lib.hid (HT9.out.kp kd)
  replace HTZ9 := Lib.hid (HTZ9.out.kp kd)
  replace HQ9 := Lib.hid (And.intro (HQ9.out.1.kp kd) (And.intro (HQ9.out.2.1.kp kd) (HQ9.out.2.2.kp kd)))
  replace K9 := Lib.hid (K9.out.trans (kd.mono K9.out.size))
  clear kd HJ0 hS
  generalize hbJ : w9.heap.size = bJ1 at *
  clear hbJ
  generalize w9.alloc _ = wa1 at *
  refine and_keep ⟨HM9.out.c0, HM9.out.c1, HM9.out.c2, HQ9.out.1.1, HQ9.out.2.1.1, HQ9.out.2.2.1⟩ (fun hS => ?_)
  have HSM0 := same_any wa1 (n := 2) (m := 2) (c := 2) (d := 2) (zs := [600, 0]) (ys := [600, 0]) rfl rfl (by decide) (by decide) HI9.out HJ.out
  rw [show decide (([600, 0] : List Int) = [600, 0]) = true from by decide] at HSM0
  have HSM := Lib.hid HSM0
  clear HSM0
  refine anyN_oneG 11 rfl (by kernel_rfl) (by rfl) ?_
  go_simp
  (with_reducible refine HSM.out.mono ?_)
  clear HSM HJ hS
  rintro e wb1 ⟨rfl, hk⟩
  replace HI9 := Lib.hid (HI9.out.below hk)
  replace HK9 := Lib.hid (HK9.out.below hk)
  replace HX9 := Lib.hid (HX9.out.kp hk)
  replace HXZ9 := Lib.hid (HXZ9.out.kp hk)
  replace HS9 := Lib.hid (HS9.out.kp hk)
  replace HA9 := Lib.hid (HA9.out.kp hk)
  replace HB9 := Lib.hid (HB9.out.kp hk)
  replace HM9 := Lib.hid (HM9.out.kp hk)
  replace HT9 := Lib.hid (HT9.out.kp hk)
  replace HTZ9 := Lib.hid (HTZ9.out.kp hk)
  replace HQ9 := Lib.hid (And.intro (HQ9.out.1.kp hk) (And.intro (HQ9.out.2.1.kp hk) (HQ9.out.2.2.kp hk)))
  replace K9 := Lib.hid (K9.out.trans (hk.mono K9.out.size))
  clear hk
  dsimp only
  refine and_keep ⟨HM9.out.c0, HM9.out.c1, HM9.out.c2, HQ9.out.1.1, HQ9.out.2.1.1, HQ9.out.2.2.1⟩ (fun hS => ?_)
  refine anyN_takeR 12 (v := ?_) rfl (by kernel_rfl) (by kernel_rfl) (by kernel_rfl) (by kernel_rfl) (fun _ _ _ h => h) (Or.inl ⟨by rfl, ?_⟩) hS ?_
  rotate_left
  · intro w hSw
    obtain ⟨_, _, _, _, _, _⟩ := hSw
    go_simp
    try with_reducible rfl
  simp only [Act.put, List.setIfInBounds_toArray, List.set_cons_zero, List.set_cons_succ]
  refine anyN_takeR 13 (v := ?_) rfl (by kernel_rfl) (by kernel_rfl) (by kernel_rfl) (by kernel_rfl) (fun _ _ _ h => h) (Or.inl ⟨by rfl, ?_⟩) hS ?_
  rotate_left
  · intro w hSw
    obtain ⟨_, _, _, _, _, _⟩ := hSw
    go_simp
    try with_reducible rfl
  simp only [Act.put, List.setIfInBounds_toArray, List.set_cons_zero, List.set_cons_succ]
  refine anyN_takeR 14 (v := ?_) rfl (by kernel_rfl) (by kernel_rfl) (by kernel_rfl) (by kernel_rfl) (fun _ _ _ h => h) (Or.inl ⟨by rfl, ?_⟩) hS ?_
  rotate_left
  · intro w hSw
    obtain ⟨_, _, _, _, _, _⟩ := hSw
    go_simp
    try with_reducible rfl
  simp only [Act.put, List.setIfInBounds_toArray, List.set_cons_zero, List.set_cons_succ]
  refine anyN_takeR 15 (v := ?_) rfl (by kernel_rfl) (by kernel_rfl) (by kernel_rfl) (by kernel_rfl) (fun _ _ _ h => h) (Or.inl ⟨by rfl, ?_⟩) hS ?_
  rotate_left
  · intro w hSw
    obtain ⟨_, _, _, _, _, _⟩ := hSw
    go_simp
    try with_reducible rfl
  simp only [Act.put, List.setIfInBounds_toArray, List.set_cons_zero, List.set_cons_succ]
  refine anyN_takeR 16 (v := ?_) rfl (by kernel_rfl) (by kernel_rfl) (by kernel_rfl) (by kernel_rfl) (fun _ _ _ h => h) (Or.inl ⟨by rfl, ?_⟩) hS ?_
  rotate_left
  · intro w hSw
    obtain ⟨_, _, _, _, _, _⟩ := hSw
    go_simp
    try with_reducible rfl
  simp only [Act.put, List.setIfInBounds_toArray, List.set_cons_zero, List.set_cons_succ]
  refine anyN_takeR 17 (v := ?_) rfl (by kernel_rfl) (by kernel_rfl) (by kernel_rfl) (by kernel_rfl) (fun _ _ _ h => h) (Or.inl ⟨by rfl, ?_⟩) hS ?_
  rotate_left
  · intro w hSw
    obtain ⟨_, _, _, _, _, _⟩ := hSw
    go_simp
    try with_reducible rfl
  simp only [Act.put, List.setIfInBounds_toArray, List.set_cons_zero, List.set_cons_succ]
  refine anyN_takeR 18 (v := ?_) rfl (by kernel_rfl) (by kernel_rfl) (by kernel_rfl) (by kernel_rfl) (fun _ _ _ h => h) (Or.inl ⟨by rfl, ?_⟩) hS ?_
  rotate_left
  · intro w hSw
    obtain ⟨_, _, _, _, _, _⟩ := hSw
    go_simp
    try with_reducible rfl
  simp only [Act.put, List.setIfInBounds_toArray, List.set_cons_zero, List.set_cons_succ]
  refine anyN_takeR 19 (v := ?_) rfl (by kernel_rfl) (by kernel_rfl) (by kernel_rfl) (by kernel_rfl) (fun _ _ _ h => h) (Or.inl ⟨by rfl, ?_⟩) hS ?_
  rotate_left
  · intro w hSw
    obtain ⟨_, _, _, _, _, _⟩ := hSw
    go_simp
    try with_reducible rfl
  simp only [Act.put, List.setIfInBounds_toArray, List.set_cons_zero, List.set_cons_succ]
  refine anyN_takeR 20 (v := ?_) rfl (by kernel_rfl) (by kernel_rfl) (by kernel_rfl) (by kernel_rfl) (fun _ _ _ h => h) (Or.inl ⟨by rfl, ?_⟩) hS ?_
  rotate_left
  · intro w hSw
    obtain ⟨_, _, _, _, _, _⟩ := hSw
    go_simp
    try with_reducible rfl
  simp only [Act.put, List.setIfInBounds_toArray, List.set_cons_zero, List.set_cons_succ]
  refine anyN_takeR 21 (v := ?_) rfl (by kernel_rfl) (by kernel_rfl) (by kernel_rfl) (by kernel_rfl) (fun _ _ _ h => h) (Or.inl ⟨by rfl, ?_⟩) hS ?_
  rotate_left
  · intro w hSw
    obtain ⟨_, _, _, _, _, _⟩ := hSw
    go_simp
    try with_reducible rfl
  simp only [Act.put, List.setIfInBounds_toArray, List.set_cons_zero, List.set_cons_succ]
  refine anyN_takeR 22 (v := ?_) rfl (by kernel_rfl) (by kernel_rfl) (by kernel_rfl) (by kernel_rfl) (fun _ _ _ h => h) (Or.inl ⟨by rfl, ?_⟩) hS ?_
  rotate_left
  · intro w hSw
    obtain ⟨_, _, _, _, _, _⟩ := hSw
    go_simp
    try with_reducible rfl
  simp only [Act.put, List.setIfInBounds_toArray, List.set_cons_zero, List.set_cons_succ]
  refine anyN_takeR 23 (v := ?_) rfl (by kernel_rfl) (by kernel_rfl) (by kernel_rfl) (by kernel_rfl) (fun _ _ _ h => h) (Or.inl ⟨by rfl, ?_⟩) hS ?_
  rotate_left
  · intro w hSw
    obtain ⟨_, _, _, _, _, _⟩ := hSw
    go_simp
    try with_reducible rfl
  simp only [Act.put, List.setIfInBounds_toArray, List.set_cons_zero, List.set_cons_succ]
  refine anyN_takeR 24 (v := ?_) rfl (by kernel_rfl) (by kernel_rfl) (by kernel_rfl) (by kernel_rfl) (fun _ _ _ h => h) (Or.inl ⟨by rfl, ?_⟩) hS ?_
  rotate_left
  · intro w hSw
    obtain ⟨_, _, _, _, _, _⟩ := hSw
    go_simp
    try with_reducible rfl
  simp only [Act.put, List.setIfInBounds_toArray, List.set_cons_zero, List.set_cons_succ]
  refine anyN_takeR 25 (v := ?_) rfl (by kernel_rfl) (by kernel_rfl) (by kernel_rfl) (by kernel_rfl) (fun _ _ _ h => h) (Or.inl ⟨by rfl, ?_⟩) hS ?_
  rotate_left
  · intro w hSw
    obtain ⟨_, _, _, _, _, _⟩ := hSw
    go_simp
    try with_reducible rfl
  simp only [Act.put, List.setIfInBounds_toArray, List.set_cons_zero, List.set_cons_succ]
  refine anyN_takeR 26 (v := ?_) rfl (by kernel_rfl) (by kernel_rfl) (by kernel_rfl) (by kernel_rfl) (fun _ _ _ h => h) (Or.inl ⟨by rfl, ?_⟩) hS ?_
  rotate_left
  · intro w hSw
    obtain ⟨_, _, _, _, _, _⟩ := hSw
    go_simp
    try with_reducible rfl
  simp only [Act.put, List.setIfInBounds_toArray, List.set_cons_zero, List.set_cons_succ]
  refine anyN_takeR 27 (v := ?_) rfl (by kernel_rfl) (by kernel_rfl) (by kernel_rfl) (by kernel_rfl) (fun _ _ _ h => h) (Or.inl ⟨by rfl, ?_⟩) hS ?_
  rotate_left
  · intro w hSw
    obtain ⟨_, _, _, _, _, _⟩ := hSw
    go_simp
    try with_reducible rfl
  simp only [Act.put, List.setIfInBounds_toArray, List.set_cons_zero, List.set_cons_succ]
  refine anyN_takeR 28 (v := ?_) rfl (by kernel_rfl) (by kernel_rfl) (by kernel_rfl) (by kernel_rfl) (fun _ _ _ h => h) (Or.inl ⟨by rfl, ?_⟩) hS ?_
  rotate_left
  · intro w hSw
    obtain ⟨_, _, _, _, _, _⟩ := hSw
    go_simp
    try with_reducible rfl
  simp only [Act.put, List.setIfInBounds_toArray, List.set_cons_zero, List.set_cons_succ]
  refine anyN_takeR 29 (v := ?_) rfl (by kernel_rfl) (by kernel_rfl) (by kernel_rfl) (by kernel_rfl) (fun _ _ _ h => h) (Or.inl ⟨by rfl, ?_⟩) hS ?_
  rotate_left
  · intro w hSw
    obtain ⟨_, _, _, _, _, _⟩ := hSw
    go_simp
    try with_reducible rfl
  simp only [Act.put, List.setIfInBounds_toArray, List.set_cons_zero, List.set_cons_succ]
  refine anyN_takeR 30 (v := ?_) rfl (by kernel_rfl) (by kernel_rfl) (by kernel_rfl) (by kernel_rfl) (fun _ _ _ h => h) (Or.inl ⟨by rfl, ?_⟩) hS ?_
  rotate_left
  · intro w hSw
    obtain ⟨_, _, _, _, _, _⟩ := hSw
    go_simp
    try with_reducible rfl
  simp only [Act.put, List.setIfInBounds_toArray, List.set_cons_zero, List.set_cons_succ]
  refine anyN_takeR 31 (v := ?_) rfl (by kernel_rfl) (by kernel_rfl) (by kernel_rfl) (by kernel_rfl) (fun _ _ _ h => h) (Or.inl ⟨by rfl, ?_⟩) hS ?_
  rotate_left
  · intro w hSw
    obtain ⟨_, _, _, _, _, _⟩ := hSw
    go_simp
    try with_reducible rfl
  simp only [Act.put, List.setIfInBounds_toArray, List.set_cons_zero, List.set_cons_succ]
  refine anyN_takeR 32 (v := ?_) rfl (by kernel_rfl) (by kernel_rfl) (by kernel_rfl) (by kernel_rfl) (fun _ _ _ h => h) (Or.inl ⟨by rfl, ?_⟩) hS ?_
  rotate_left
  · intro w hSw
    obtain ⟨_, _, _, _, _, _⟩ := hSw
    go_simp
    try with_reducible rfl
  simp only [Act.put, List.setIfInBounds_toArray, List.set_cons_zero, List.set_cons_succ]
  refine anyN_oneG 33 rfl (by kernel_rfl) (by rfl) ?_
  go_simp
  have kd : Kp wb1.heap.size wb1 (wb1.alloc (.cells #[.int .i64 300, .int .i64 300] 3)) := (Kp.refl _ _).alloc (Nat.le_refl _) _
  have HJ0 := (rd_new wb1 ([300, 300].map (Value.int .i64)) 3 1 2 rfl).isInts.2
  simp only [List.map_cons, List.map_nil] at HJ0
  have HJ := Lib.hid HJ0
  replace HI9 := Lib.hid (HI9.out.below kd)
  replace HK9 := Lib.hid (HK9.out.below kd)
  replace HX9 := Lib.hid (HX9.out.kp kd)
  replace HXZ9 := Lib.hid (HXZ9.out.kp kd)
  replace HS9 := Lib.hid (HS9.out.kp kd)
  replace HA9 := Lib.hid (HA9.out.kp kd)
  replace HB9 := Lib.hid (HB9.out.kp kd)
  replace HM9 := Lib.hid (HM9.out.kp kd)
  replace HT9 := Lib.hid (HT9.out.kp kd)
  replace HTZ9 := Lib.hid (HTZ9.out.kp kd)
  replace HQ9 := Lib.hid (And.intro (HQ9.out.1.kp kd) (And.intro (HQ9.out.2.1.kp kd) (HQ9.out.2.2.kp kd)))
  replace K9 := Lib.hid (K9.out.trans (kd.mono K9.out.size))
  clear kd HJ0 hS
  generalize hbJ : wb1.heap.size = bJ2 at *
  clear hbJ
  generalize wb1.alloc _ = wa2 at *
  refine and_keep ⟨HM9.out.c0, HM9.out.c1, HM9.out.c2, HQ9.out.1.1, HQ9.out.2.1.1, HQ9.out.2.2.1⟩ (fun hS => ?_)
  have HSM0 := same_any wa2 (n := 2) (m := 2) (c := 2) (d := 2) (zs := [300, 300]) (ys := [300, 300]) rfl rfl (by decide) (by decide) HK9.out HJ.out
  rw [show decide (([300, 300] : List Int) = [300, 300]) = true from by decide] at HSM0
  have HSM := Lib.hid HSM0
  clear HSM0
  refine anyN_oneG 34 rfl (by kernel_rfl) (by rfl) ?_
  go_simp
  (with_reducible refine HSM.out.mono ?_)
  clear HSM HJ hS
  rintro e wb2 ⟨rfl, hk⟩
  replace HI9 := Lib.hid (HI9.out.below hk)
  replace HK9 := Lib.hid (HK9.out.below hk)
  replace HX9 := Lib.hid (HX9.out.kp hk)
  replace HXZ9 := Lib.hid (HXZ9.out.kp hk)
  replace HS9 := Lib.hid (HS9.out.kp hk)
  replace HA9 := Lib.hid (HA9.out.kp hk)
  replace HB9 := Lib.hid (HB9.out.kp hk)
  replace HM9 := Lib.hid (HM9.out.kp hk)
  replace HT9 := Lib.hid (HT9.out.kp hk)
  replace HTZ9 := Lib.hid (HTZ9.out.kp hk)
  replace HQ9 := Lib.hid (And.intro (HQ9.out.1.kp hk) (And.intro (HQ9.out.2.1.kp hk) (HQ9.out.2.2.kp hk)))
  replace K9 := Lib.hid (K9.out.trans (hk.mono K9.out.size))
  clear hk
  dsimp only
  refine and_keep ⟨HM9.out.c0, HM9.out.c1, HM9.out.c2, HQ9.out.1.1, HQ9.out.2.1.1, HQ9.out.2.2.1⟩ (fun hS => ?_)
  refine anyN_takeR 35 (v := ?_) rfl (by kernel_rfl) (by kernel_rfl) (by kernel_rfl) (by kernel_rfl) (fun _ _ _ h => h) (Or.inl ⟨by rfl, ?_⟩) hS ?_
  rotate_left
  · intro w hSw
    obtain ⟨_, _, _, _, _, _⟩ := hSw
    go_simp
    try with_reducible rfl
  simp only [Act.put, List.setIfInBounds_toArray, List.set_cons_zero, List.set_cons_succ]
  refine anyN_takeR 36 (v := ?_) rfl (by kernel_rfl) (by kernel_rfl) (by kernel_rfl) (by kernel_rfl) (fun _ _ _ h => h) (Or.inl ⟨by rfl, ?_⟩) hS ?_
  rotate_left
  · intro w hSw
    obtain ⟨_, _, _, _, _, _⟩ := hSw
    go_simp
    try with_reducible rfl
  simp only [Act.put, List.setIfInBounds_toArray, List.set_cons_zero, List.set_cons_succ]
  refine anyN_done (by kernel_rfl) ?_
  refine NoPanic.normal ?_
  clear hS
  obtain ⟨x0, x1, x2, xl⟩ := HX9.out
  obtain ⟨_, e1, _, hBl, hBf, _⟩ := HB9.out.at0 _ rfl
  cases e1
  obtain ⟨_, _, e1, _, c0⟩ := HS9.out.cur 0 (by decide)
  cases e1
  have hc0 : wb2.cell? ⟨B, 0, none⟩ = some (.int .i64 0) := c0
  have nBX : B ≠ bX := by omega
  have nBT : B ≠ bT := by omega
  have nA : ∀ p, (some ⟨A, 0, none⟩ : Option Addr) = some p → p.block ≠ B := fun p hp => by cases hp; exact dAB.out
  have hcur : IsInts (wb2.setCell ⟨B, 0, none⟩ (.int .i64 2)) .i64 (some ⟨B, 0, none⟩) 2 [2, 0] := by
    intro i hi
    refine ⟨B, 0, rfl, by simpa [World.setCell] using hBl, ?_⟩
    have : i = 0 ∨ i = 1 := by omega
    rcases this with rfl | rfl
    · exact World.cell?_setCell_same _ _ _ hc0
    · obtain ⟨_, _, e1, _, c1⟩ := HS9.out.cur 1 (by decide)
      cases e1
      exact (World.cell?_setCell_other _ _ _ _ (by simp)).trans c1
  have HS10 := Lib.hid (show ScAt (wb2.setCell ⟨B, 0, none⟩ (.int .i64 2)) (some ⟨A, 0, none⟩) 3 (some ⟨B, 0, none⟩) 2 exS2 from ⟨rfl, rfl, HS9.out.ts.far nA _, hcur, HS9.out.ok, by omega, by omega⟩)
  have HX10 := Lib.hid (HX9.out.far (p := ⟨B, 0, none⟩) nBX (.int .i64 2))
  have HXZ10 := Lib.hid (HXZ9.out.set ⟨B, 0, none⟩ (.int .i64 2))
  have HT10 := Lib.hid (HT9.out.far (p := ⟨B, 0, none⟩) nBT (.int .i64 2))
  have HTZ10 := Lib.hid (HTZ9.out.set ⟨B, 0, none⟩ (.int .i64 2))
  have K10 := Lib.hid (K9.out.setCell (p := ⟨B, 0, none⟩) WB (.int .i64 2))
  go_upto_region 9 with fail
  clear x0 x1 x2 xl hBl hBf hc0 c0 hcur HI9 HK9 HX9 HXZ9 HS9 HA9 HB9 HM9 HT9 HTZ9 HQ9 K9
  generalize World.setCell _ _ _ = w10 at *
  have HP := plan_any w10 (ca := 3) (cb := 2) (most := 9) HS10.out (fun h => by cases h) (fun h => by cases h) (by decide)
  rw [show exS2.n = 2 from rfl, show planV exS2 9 = ((planV exS2 9).1, [(3, 0, 1), (1, 0, 1)], 0) from by rw [← ex_plan2]] at HP
  have HPP := Lib.hid (plan_read HP (n := 2) (la := 3) (lb := 2) (lm := 2) (by kernel_rfl) (by kernel_rfl) (by kernel_rfl) rfl)
  clear HP HS10
  obtain ⟨x0, x1, x2, xl⟩ := HX10.out
  go_wp2_with fail
  (with_reducible refine HPP.out.mono ?_)
  clear x0 x1 x2 xl HPP
  rintro e w11 ⟨Av, cv, A6, ca6, B6, cb6, rfl, hrd, hs6, hk, _⟩
  obtain ⟨bv, ov, rfl, hbv, q0⟩ := rd_mv hrd (k := 0) (x := .int .i64 3) rfl
  obtain ⟨_, _, e1, _, q1⟩ := rd_mv hrd (k := 3) (x := .int .i64 1) rfl
  cases e1
  simp only [Nat.add_zero] at q0
  have HX11 := Lib.hid (HX10.out.kp hk)
  have HXZ11 := Lib.hid (HXZ10.out.kp hk)
  have HT11 := Lib.hid (HT10.out.kp hk)
  have HTZ11 := Lib.hid (HTZ10.out.kp hk)
  have K11 := Lib.hid (K10.out.trans (hk.mono K10.out.size))
  clear hrd hs6 hk HX10 HXZ10 HT10 HTZ10 K10
  go_wp2_with fail
  (with_reducible refine (HE _).out.mono ?_)
  rintro e w12 ⟨A2, B2, rfl, hs, ha, hb, hAB, hk⟩
  have hwX : bX < w11.heap.size := HX11.out.lt
  obtain ⟨_, e1, hA2b, hA2l, hA2f, _⟩ := ha.at0 _ rfl
  cases e1
  obtain ⟨_, e1, hB2b, _⟩ := hb.at0 _ rfl
  cases e1
  have nAX : A2 ≠ bX := by omega
  have nBX2 : B2 ≠ bX := by omega
  have hwT : bT < w11.heap.size := HT11.out.lt
  have nAT : A2 ≠ bT := by omega
  have nXT : bX ≠ bT := by omega
  have HX12 := HX11.out.kp hk
  have HXZ12 := HXZ11.out.kp hk
  have HT12 := HT11.out.kp hk
  have HTZ12 := HTZ11.out.kp hk
  have K12 := K11.out.trans (hk.mono K11.out.size)
  have WA2 : W.heap.size ≤ A2 := by have := K11.out.size; omega
  have nAB2 : ∀ p, (some ⟨B2, 0, none⟩ : Option Addr) = some p → p.block ≠ A2 := fun p hp => by cases hp; exact fun q => hAB q.symm
  have tA : ∀ p, (some ⟨A2, 0, none⟩ : Option Addr) = some p → p.block ≠ bX := fun p hp => by cases hp; exact nAX
  have tB : ∀ p, (some ⟨B2, 0, none⟩ : Option Addr) = some p → p.block ≠ bX := fun p hp => by cases hp; exact nBX2
  have hts := ((hs.ts.far (a := ⟨bX, 0, none⟩) tA (.int .i64 2)).far (a := ⟨bX, 1, none⟩) tA (.slice (some ⟨A2, 0, none⟩) 3 3)).far (a := ⟨bX, 2, none⟩) tA (.slice (some ⟨B2, 0, none⟩) 2 2)
  have hcu := isInts_far (isInts_far (isInts_far hs.cur (a := ⟨bX, 0, none⟩) tB (.int .i64 2)) (a := ⟨bX, 1, none⟩) tB (.slice (some ⟨A2, 0, none⟩) 3 3)) (a := ⟨bX, 2, none⟩) tB (.slice (some ⟨B2, 0, none⟩) 2 2)
  have HTS := Lib.hid hts
  have HCU := Lib.hid hcu
  have HX13 := Lib.hid (HX12.set (.int .i64 2) (.slice (some ⟨A2, 0, none⟩) 3 3) (.slice (some ⟨B2, 0, none⟩) 2 2))
  have HA13 := Lib.hid (((ha.set ⟨bX, 0, none⟩ (.int .i64 2)).set ⟨bX, 1, none⟩ (.slice (some ⟨A2, 0, none⟩) 3 3)).set ⟨bX, 2, none⟩ (.slice (some ⟨B2, 0, none⟩) 2 2))
  have HT13 := Lib.hid (((HT12.far (p := ⟨bX, 0, none⟩) nXT (.int .i64 2)).far (p := ⟨bX, 1, none⟩) nXT (.slice (some ⟨A2, 0, none⟩) 3 3)).far (p := ⟨bX, 2, none⟩) nXT (.slice (some ⟨B2, 0, none⟩) 2 2))
  have HTZ13 := Lib.hid (((HTZ12.set ⟨bX, 0, none⟩ (.int .i64 2)).set ⟨bX, 1, none⟩ (.slice (some ⟨A2, 0, none⟩) 3 3)).set ⟨bX, 2, none⟩ (.slice (some ⟨B2, 0, none⟩) 2 2))
  have K13 := Lib.hid (((K12.setCell (p := ⟨bX, 0, none⟩) WX (.int .i64 2)).setCell (p := ⟨bX, 1, none⟩) WX (.slice (some ⟨A2, 0, none⟩) 3 3)).setCell (p := ⟨bX, 2, none⟩) WX (.slice (some ⟨B2, 0, none⟩) 2 2))
  obtain ⟨x0, x1, x2, xl⟩ := HX12
  have xf := HXZ12.2
  clear hs ha hb hk hts hcu HT12 HTZ12 K12 HX11 HXZ11 HT11 HTZ11 K11 hA2l hA2f hA2b hB2b hwX hwT
  go_upto_region 13 with fail
  clear x0 x1 x2 xl xf HXZ12
  generalize World.setCell _ _ _ = w13 at *
  obtain ⟨x0, x1, x2, xl⟩ := HX13.out
  obtain ⟨_, e1, _, hAl, hAf, _⟩ := HA13.out.at0 _ rfl
  cases e1
  obtain ⟨_, _, e1, T0⟩ := HTS.out 0 (by decide)
  cases e1
  obtain ⟨_, _, e1, T1⟩ := HTS.out 1 (by decide)
  cases e1
  obtain ⟨_, _, e1, T2⟩ := HTS.out 2 (by decide)
  cases e1
  have hc2 : w13.cell? ⟨A2, 10, none⟩ = some (.int .i64 300) := T1.c2
  have ht13 : IsTks (w13.setCell ⟨A2, 10, none⟩ (.int .i64 301)) (some ⟨A2, 0, none⟩) 3 exS3.ts := by
    have oth : ∀ o, o ≠ 10 → (w13.setCell ⟨A2, 10, none⟩ (.int .i64 301)).cell? ⟨A2, o, none⟩ = w13.cell? ⟨A2, o, none⟩ := fun o ho => World.cell?_setCell_other _ _ _ _ (fun q => ho (by cases q; rfl))
    have hl : A2 < (w13.setCell ⟨A2, 10, none⟩ (.int .i64 301)).heap.size := by simpa [World.setCell] using hAl
    intro i hi
    refine ⟨A2, 0, rfl, ?_⟩
    have : i = 0 ∨ i = 1 ∨ i = 2 := by omega
    rcases this with rfl | rfl | rfl
    · exact ⟨(oth _ (by decide)).trans T0.c0, (oth _ (by decide)).trans T0.c1, (oth _ (by decide)).trans T0.c2, (oth _ (by decide)).trans T0.c3, (oth _ (by decide)).trans T0.c4, (oth _ (by decide)).trans T0.c5, (oth _ (by decide)).trans T0.c6, (oth _ (by decide)).trans T0.c7, hl⟩
    · exact ⟨(oth _ (by decide)).trans T1.c0, (oth _ (by decide)).trans T1.c1, World.cell?_setCell_same _ _ _ hc2, (oth _ (by decide)).trans T1.c3, (oth _ (by decide)).trans T1.c4, (oth _ (by decide)).trans T1.c5, (oth _ (by decide)).trans T1.c6, (oth _ (by decide)).trans T1.c7, hl⟩
    · exact ⟨(oth _ (by decide)).trans T2.c0, (oth _ (by decide)).trans T2.c1, (oth _ (by decide)).trans T2.c2, (oth _ (by decide)).trans T2.c3, (oth _ (by decide)).trans T2.c4, (oth _ (by decide)).trans T2.c5, (oth _ (by decide)).trans T2.c6, (oth _ (by decide)).trans T2.c7, hl⟩
  have HS14 := Lib.hid (show ScAt (w13.setCell ⟨A2, 10, none⟩ (.int .i64 301)) (some ⟨A2, 0, none⟩) 3 (some ⟨B2, 0, none⟩) 2 exS3 from ⟨rfl, rfl, ht13, isInts_far HCU.out (a := ⟨A2, 10, none⟩) nAB2 _, fun t ht => by
    simp only [exS3, List.mem_cons, List.not_mem_nil, or_false] at ht
    rcases ht with rfl | rfl | rfl <;> exact ⟨by decide, by decide, by decide, by decide, by decide, by decide, by decide, by decide⟩, by omega, by omega⟩)
  have HX14 := Lib.hid (HX13.out.far (p := ⟨A2, 10, none⟩) nAX (.int .i64 301))
  have HT14 := Lib.hid (HT13.out.far (p := ⟨A2, 10, none⟩) nAT (.int .i64 301))
  have HTZ14 := Lib.hid (HTZ13.out.set ⟨A2, 10, none⟩ (.int .i64 301))
  have K14 := Lib.hid (K13.out.setCell (p := ⟨A2, 10, none⟩) WA2 (.int .i64 301))
  clear T0 T1 T2 ht13 HTS HCU HX13 HT13 HTZ13 K13 HA13
  go_upto_region 14 with fail
  clear x0 x1 x2 xl hAl hAf hc2
  generalize World.setCell _ _ _ = w14 at *
  have HP := plan_any w14 (ca := 3) (cb := 2) (most := 9) HS14.out (fun h => by cases h) (fun h => by cases h) (by decide)
  rw [ex_plan3, show exS3.n = 2 from rfl] at HP
  have HPP := Lib.hid (plan_read HP (n := 2) (la := 3) (lb := 2) (lm := 2) rfl rfl rfl rfl)
  clear HP HS14
  obtain ⟨x0, x1, x2, xl⟩ := HX14.out
  go_wp2_with fail
  (with_reducible refine HPP.out.mono ?_)
  clear x0 x1 x2 xl HPP HX14
  rintro e w15 ⟨Av, cv, A6, ca6, B6, cb6, rfl, hrd, hs6, hk, hgv, hgA, hgB⟩
  obtain ⟨bv, ov, rfl, hbv, q0⟩ := rd_mv hrd (k := 0) (x := .int .i64 3) rfl
  obtain ⟨_, _, e1, _, q1⟩ := rd_mv hrd (k := 3) (x := .int .i64 1) rfl
  cases e1
  have HQ15 := Lib.hid (And.intro (show At w15 _ _ from ⟨q0, hbv⟩) (show At w15 _ _ from ⟨q1, hbv⟩))
  have HT15 := HT14.out.kp hk
  have HTZ15 := HTZ14.out.kp hk
  have K15 := Lib.hid (K14.out.trans (hk.mono K14.out.size))
  have HTT := Lib.hid hs6
  have hgv2 := hgv _ rfl
  have hbTl : bT < w14.heap.size := HT14.out.lt
  obtain ⟨x0, x1, x2, xl⟩ := HT15
  have xf := HTZ15.2
  clear hrd hs6 hk HT14 HTZ14 K14 q0 q1 hbv
  go_upto_region 15 with fail
  have nV : bT ≠ bv := by omega
  have nA6 : ∀ p, A6 = some p → p.block ≠ bT := fun p hp => by have := hgA p hp; omega
  have nB6 : ∀ p, B6 = some p → p.block ≠ bT := fun p hp => by have := hgB p hp; omega
  have hts := ((HTT.out.ts.far (a := ⟨bT, 0, none⟩) nA6 (.int .i64 2)).far (a := ⟨bT, 1, none⟩) nA6 (.slice A6 3 ca6)).far (a := ⟨bT, 2, none⟩) nA6 (.slice B6 2 cb6)
  have hcu := isInts_far (isInts_far (isInts_far HTT.out.cur (a := ⟨bT, 0, none⟩) nB6 (.int .i64 2)) (a := ⟨bT, 1, none⟩) nB6 (.slice A6 3 ca6)) (a := ⟨bT, 2, none⟩) nB6 (.slice B6 2 cb6)
  have P := Lib.hid (And.intro ((show C3 w15 bT _ _ _ from ⟨x0, x1, x2, xl⟩).set (.int .i64 2) (.slice A6 3 ca6) (.slice B6 2 cb6)) (And.intro hts (And.intro hcu (And.intro (HQ15.out.1.far3 (B := bT) nV (.int .i64 2) (.slice A6 3 ca6) (.slice B6 2 cb6)) (And.intro (HQ15.out.2.far3 (B := bT) nV (.int .i64 2) (.slice A6 3 ca6) (.slice B6 2 cb6)) (((K15.out.setCell (p := ⟨bT, 0, none⟩) WT (.int .i64 2)).setCell (p := ⟨bT, 1, none⟩) WT (.slice A6 3 ca6)).setCell (p := ⟨bT, 2, none⟩) WT (.slice B6 2 cb6)))))))
  have HOK4 := Lib.hid HTT.out.ok
  clear x0 x1 x2 xl xf hts hcu HQ15 K15 HTT hgv hgA hgB hgv2 nA6 nB6 HTZ15
  generalize World.setCell _ _ _ = w16 at *
  obtain ⟨HC16, hts, hcu, q0, q1, K16'⟩ := P.out
  have HS16 := Lib.hid (show ScAt w16 A6 3 B6 2 exS4 from ⟨rfl, rfl, hts, hcu, HOK4.out, by omega, by omega⟩)
  have HQ16 := Lib.hid (And.intro q0 q1)
  have K16 := Lib.hid K16'
  have HL0 := loads2_any w16 (pa := ca6) (pb := cb6) HS16.out ex_right4 ex_loads.2.2.2.2.1 ex_loads.2.2.2.2.2
  rw [show exS4.n = 2 from rfl] at HL0
  have HL := Lib.hid HL0
  obtain ⟨x0, x1, x2, xl⟩ := HC16
  clear HL0 P hts hcu q0 q1 K16' HOK4
  go_wp2_with fail
  (with_reducible refine HL.out.mono ?_)
  clear x0 x1 x2 xl HL HS16
  rintro e w17 ⟨bJ, rfl, hbJ, hi17, hk⟩
  have HI17 := Lib.hid hi17
  have HQ17 := Lib.hid (And.intro (HQ16.out.1.kp hk) (HQ16.out.2.kp hk))
  have K17 := Lib.hid (K16.out.trans (hk.mono K16.out.size))
  clear hk hi17 HQ16 K16 hbJ
  go_wp2_with fail
  have kd : Kp w17.heap.size w17 (w17.alloc (.cells #[.int .i64 0] 3)) := (Kp.refl _ _).alloc (Nat.le_refl _) _
  have hi0 := (rd_new w17 ([0].map (Value.int .i64)) 3 1 1 rfl).isInts.2
  simp only [List.map_cons, List.map_nil] at hi0
  have HS18 := Lib.hid (show ScAt (w17.alloc (.cells #[.int .i64 0] 3)) none 0 (some ⟨w17.heap.size, 0, none⟩) 1 exS5 from ⟨rfl, rfl, IsTks.nil _, hi0, (fun t ht => by cases ht), by omega, by omega⟩)
  have HI18 := Lib.hid (HI17.out.below kd)
  have HQ18 := Lib.hid (And.intro (HQ17.out.1.kp kd) (HQ17.out.2.kp kd))
  have K18 := Lib.hid (K17.out.trans (kd.mono K17.out.size))
  clear kd hi0 HI17 HQ17 K17
  generalize w17.alloc _ = w18 at *
  generalize w17.heap.size = bU at *
  have HB0 := busiest_any w18 (ca := 0) (cb := 1) (cpu := 0) HS18.out
  rw [ex_busy.1, ex_busy.2, show exS5.n = 1 from rfl] at HB0
  have HBB := Lib.hid HB0
  clear HB0
  (with_reducible refine HBB.out.mono ?_)
  clear HBB HS18
  rintro e w19 ⟨rfl, hk⟩
  have HI19 := Lib.hid (HI18.out.below hk)
  have HQ19 := Lib.hid (And.intro (HQ18.out.1.kp hk) (HQ18.out.2.kp hk))
  have K19 := Lib.hid (K18.out.trans (hk.mono K18.out.size))
  clear hk HI18 HQ18 K18
  obtain ⟨⟨q0, hbv⟩, ⟨q1, _⟩⟩ := HQ19.out
  simp only [Nat.add_zero] at q0
  go_wp2_with fail
  have kd : Kp w19.heap.size w19 (w19.alloc (.cells #[.int .i64 301, .int .i64 300] 3)) := (Kp.refl _ _).alloc (Nat.le_refl _) _
  have hj0 := (rd_new w19 ([301, 300].map (Value.int .i64)) 3 1 2 rfl).isInts.2
  simp only [List.map_cons, List.map_nil] at hj0
  have HSM0 := same_any (w19.alloc (.cells #[.int .i64 301, .int .i64 300] 3)) (n := 2) (m := 2) (c := 2) (d := 2) (zs := [301, 300]) (ys := [301, 300]) rfl rfl (by decide) (by decide) (HI19.out.below kd) hj0
  rw [show decide (([301, 300] : List Int) = [301, 300]) = true from by decide] at HSM0
  have HSM := Lib.hid HSM0
  have K20 := Lib.hid (K19.out.trans (kd.mono K19.out.size))
  clear HSM0 hj0 kd HI19 K19 q0 q1 hbv
  generalize w19.alloc _ = w20 at *
  (with_reducible refine HSM.out.mono ?_)
  rintro e w21 ⟨rfl, hk⟩
  have K21 := Lib.hid (K20.out.trans (hk.mono K20.out.size))
  clear hk
  go_wp2_with fail
  go_ret
  exact ⟨rfl, K21.out⟩
end Go.Proofs.Yticgdfbknaholaa
