/-
  The contract of Do.
-/
import Derived.Test.YticgdfbknaholaaDoV27
namespace Go.Proofs.Yticgdfbknaholaa
open Go.RowKit
attribute [local go_sem] Oper.semAt_some

theorem set_cpu {w : World} {g n j : Nat} {ts : List Tk} (hn : ts.length = n) (hj : j < n) (h : IsTks w (some ⟨g, 0, none⟩) n ts) (y : Int) : IsTks (w.setCell ⟨g, 0 + j * 8 + 3, none⟩ (.int .i64 y)) (some ⟨g, 0, none⟩) n (ts.set j ((ts.getD j t0).to y)) := by
  intro i hi
  obtain ⟨b, off, e, T⟩ := h i hi
  cases e
  refine ⟨g, 0, rfl, ?_⟩
  have oth : ∀ o, o ≠ 0 + j * 8 + 3 → (w.setCell ⟨g, 0 + j * 8 + 3, none⟩ (.int .i64 y)).cell? ⟨g, o, none⟩ = w.cell? ⟨g, o, none⟩ := fun o ho => World.cell?_setCell_other _ _ _ _ (fun q => ho (by cases q; rfl))
  have hjt : j < ts.length := by omega
  by_cases e : i = j
  · subst e
    have e1 : (ts.set i ((ts.getD i t0).to y)).getD i t0 = (ts.getD i t0).to y := by
      rw [List.getD_eq_getElem?_getD, List.getElem?_set_self hjt]
      rfl
    rw [e1]
    exact ⟨(oth _ (by omega)).trans T.c0, (oth _ (by omega)).trans T.c1, (oth _ (by omega)).trans T.c2, World.cell?_setCell_same _ _ _ T.c3, (oth _ (by omega)).trans T.c4, (oth _ (by omega)).trans T.c5, (oth _ (by omega)).trans T.c6, (oth _ (by omega)).trans T.c7, by simpa using T.lt⟩
  · have e1 : (ts.set j ((ts.getD j t0).to y)).getD i t0 = ts.getD i t0 := by
      rw [List.getD_eq_getElem?_getD, List.getElem?_set_ne (Ne.symm e), List.getD_eq_getElem?_getD]
    rw [e1]
    exact ⟨(oth _ (by omega)).trans T.c0, (oth _ (by omega)).trans T.c1, (oth _ (by omega)).trans T.c2, (oth _ (by omega)).trans T.c3, (oth _ (by omega)).trans T.c4, (oth _ (by omega)).trans T.c5, (oth _ (by omega)).trans T.c6, (oth _ (by omega)).trans T.c7, by simpa using T.lt⟩
theorem set_cpu2 {w : World} {g n j : Nat} {ts : List Tk} (hn : ts.length = n) (hj : j < n) (h : IsTks w (some ⟨g, 0, none⟩) n ts) (y : Int) : IsTks (w.setCell ⟨g, j * 8 + 3, none⟩ (.int .i64 y)) (some ⟨g, 0, none⟩) n (ts.set j ((ts.getD j t0).to y)) := by
  have h1 := set_cpu hn hj h y
  rw [Nat.zero_add] at h1
  exact h1
theorem IsTks.far {w : World} {A : Option Addr} {n : Nat} {ts : List Tk} (h : IsTks w A n ts) {a : Addr} (ha : ∀ p, A = some p → p.block ≠ a.block) (v : Value) : IsTks (w.setCell a v) A n ts := fun i hi => by
  obtain ⟨b, off, e, T⟩ := h i hi
  exact ⟨b, off, e, T.blk (Below.heap_setCell _ _ _ _ (ha _ e)) (by simp [World.setCell])⟩
theorem isInts_far {w : World} {k : IntKind} {A : Option Addr} {n : Nat} {zs : List Int} (h : IsInts w k A n zs) {a : Addr} (ha : ∀ p, A = some p → p.block ≠ a.block) (v : Value) : IsInts (w.setCell a v) k A n zs := fun i hi => by
  obtain ⟨b, off, e, hb, T⟩ := h i hi
  have hne : b ≠ a.block := ha ⟨b, off, none⟩ e
  exact ⟨b, off, e, by simpa [World.setCell] using hb, (World.cell?_setCell_far _ _ _ _ (fun q => hne q.symm)).trans T⟩
theorem OwnSl.set {w : World} {base : Nat} {t : TypeId} {A : Option Addr} {n c : Nat} (h : OwnSl w base t A n c) (a : Addr) (v : Value) : OwnSl (w.setCell a v) base t A n c :=
  ⟨h.le, h.max, h.nil, fun p hp => by
    obtain ⟨g, h1, h2, h3, h4, h5⟩ := h.at0 p hp
    exact ⟨g, h1, h2, by simpa [World.setCell] using h3, fun o => by simpa using h4 o, h5.set _ _⟩⟩
/-- What Do hands back. -/
def DoPost (W : World) (r : Sc × Int) (e : Ending) (w' : World) : Prop := ∃ v, e = .returned (.tuple #[v, .int .i64 r.2]) ∧ OwnSc w' W.heap.size v r.1 ∧ Kp W.heap.size W w'
set_option maxRecDepth 100000 in
set_option maxHeartbeats 4000000 in
theorem do_any (W : World) {A B : Option Addr} {la ca lb cb : Nat} {s : Sc} {k x y : Int} (h : ScAt W A la B lb s) (hA : A = none → ca = 0) (hB : B = none → cb = 0) :
    Calls Try.prog 15 #[.agg #[.int .i64 s.n, .slice A la ca, .slice B lb cb], .agg #[.int .i64 k, .int .i64 x, .int .i64 y]] W (DoPost W (doV s k x y)) := by
  obtain ⟨rV, hV⟩ : ∃ v, v = doV s k x y := ⟨_, rfl⟩
  rw [← hV]
  have HV := Lib.hid hV
  have HSC := Lib.hid h
  have HR := fun w (k : Kp W.heap.size W w) => Lib.hid (right_at (ca := ca) (cb := cb) (h.kp k))
  have K0 := Lib.hid (((((Kp.refl W.heap.size W).alloc (Nat.le_refl _) (.cells #[.int .i64 s.n, .slice A la ca, .slice B lb cb] 30)).alloc (by rw [World.size_alloc]; omega) (.cells #[.int .i64 k, .int .i64 x, .int .i64 y] 38)).alloc (by rw [World.size_alloc, World.size_alloc]; omega) (.cells #[.int .i64 0, .slice none 0 0, .slice none 0 0] 30)).alloc (by rw [World.size_alloc, World.size_alloc, World.size_alloc]; omega) (.cells #[.int .i64 0] 33))
  have HX := Lib.hid ((((C3.new W (.int .i64 s.n) (.slice A la ca) (.slice B lb cb) 30).alloc (.cells #[.int .i64 k, .int .i64 x, .int .i64 y] 38)).alloc (.cells #[.int .i64 0, .slice none 0 0, .slice none 0 0] 30)).alloc (.cells #[.int .i64 0] 33))
  have HY0 := ((C3.new (W.alloc (.cells #[.int .i64 s.n, .slice A la ca, .slice B lb cb] 30)) (.int .i64 k) (.int .i64 x) (.int .i64 y) 38).alloc (.cells #[.int .i64 0, .slice none 0 0, .slice none 0 0] 30)).alloc (.cells #[.int .i64 0] 33)
  have HM0 := (C3.new ((W.alloc (.cells #[.int .i64 s.n, .slice A la ca, .slice B lb cb] 30)).alloc (.cells #[.int .i64 k, .int .i64 x, .int .i64 y] 38)) (.int .i64 0) (.slice none 0 0) (.slice none 0 0) 30).alloc (.cells #[.int .i64 0] 33)
  have HZ0 := (Fz.new ((W.alloc (.cells #[.int .i64 s.n, .slice A la ca, .slice B lb cb] 30)).alloc (.cells #[.int .i64 k, .int .i64 x, .int .i64 y] 38)) #[.int .i64 0, .slice none 0 0, .slice none 0 0] 30).alloc (.cells #[.int .i64 0] 33)
  have HE0 := Bx.new (((W.alloc (.cells #[.int .i64 s.n, .slice A la ca, .slice B lb cb] 30)).alloc (.cells #[.int .i64 k, .int .i64 x, .int .i64 y] 38)).alloc (.cells #[.int .i64 0, .slice none 0 0, .slice none 0 0] 30)) (.int .i64 0) 33
  simp only [World.size_alloc, Nat.add_assoc, Nat.reduceAdd] at HY0 HM0 HZ0 HE0
  have HY := Lib.hid HY0
  have HM := Lib.hid HM0
  have HZ := Lib.hid HZ0
  have HE := Lib.hid HE0
  have HNA := Lib.hid hA
  have HNB := Lib.hid hB
  clear HY0 HM0 HZ0 HE0 hV h hA hB
  refine (callsIn_wide (n := 3)).1 ?_
  refine callsIn_of_wp_marks Try.func15 rfl trivial ?_ rfl
  refine wpIn_wide.2 ?_
  simp only [Try.ntmps15, List.size_toArray, List.length_cons, List.length_nil, Nat.reduceAdd, Nat.reduceSub, Array.replicate_succ, Array.replicate_zero, List.push_toArray, List.append_toArray, List.nil_append, List.cons_append]
  go_upto_region 1 with fail
  generalize (((W.alloc _).alloc _).alloc _).alloc _ = w1 at *
  obtain ⟨bS, hbS⟩ : ∃ b, b = W.heap.size := ⟨_, rfl⟩
  obtain ⟨bY, hbY⟩ : ∃ b, b = W.heap.size + 1 := ⟨_, rfl⟩
  obtain ⟨bM, hbM⟩ : ∃ b, b = W.heap.size + 2 := ⟨_, rfl⟩
  obtain ⟨bE, hbE⟩ : ∃ b, b = W.heap.size + 3 := ⟨_, rfl⟩
  rw [← hbY] at HY
  rw [← hbS] at HX
  rw [← hbM] at HM HZ
  rw [← hbE] at HE
  rw [show W.heap.size + 1 + 1 + 1 = bE by omega, show W.heap.size + 1 + 1 = bM by omega, ← hbY, ← hbS]
  have dME : bM ≠ bE := by omega
  have dYM : bY ≠ bM := by omega
  have dYE : bY ≠ bE := by omega
  have WM : W.heap.size ≤ bM := by omega
  have WE : W.heap.size ≤ bE := by omega
  have WY : W.heap.size ≤ bY := by omega
  clear hbS hbY hbM hbE
  obtain ⟨x0, x1, x2, xl⟩ := HX.out
  go_wp2_with fail
  (with_reducible refine (HR _ K0.out).out.mono ?_)
  clear x0 x1 x2 xl HR
  rintro e w2 ⟨rfl, hk⟩
  have K1 := Lib.hid (K0.out.trans (hk.mono K0.out.size))
  have HX2 := Lib.hid (HX.out.kp hk)
  have HY2 := Lib.hid (HY.out.kp hk)
  have HM2 := Lib.hid (HM.out.kp hk)
  have HZ2 := Lib.hid (HZ.out.kp hk)
  have HE2 := Lib.hid (HE.out.kps hk)
  clear hk K0 HX HY HM HZ HE
  cases hr : rightS s
  · have HV2 := Lib.hid (HV.out.trans (show doV s k x y = (s0, 270) by unfold doV; rw [hr]; rfl))
    clear hr
    obtain ⟨m0, m1, m2, ml⟩ := HM2.out
    have mf := HZ2.out.2
    obtain ⟨e0, ef, el⟩ := HE2.out
    go_wp2_with fail
    have P := And.intro ((HM2.out.set (.int .i64 0) (.slice none 0 0) (.slice none 0 0)).far (p := ⟨bE, 0, none⟩) dME.symm (.int .i64 270)) (And.intro ((((HE2.out.far (p := ⟨bM, 0, none⟩) dME (.int .i64 0)).far (p := ⟨bM, 1, none⟩) dME (.slice none 0 0)).far (p := ⟨bM, 2, none⟩) dME (.slice none 0 0)).set (.int .i64 270)) ((((K1.out.setCell (p := ⟨bM, 0, none⟩) WM (.int .i64 0)).setCell (p := ⟨bM, 1, none⟩) WM (.slice none 0 0)).setCell (p := ⟨bM, 2, none⟩) WM (.slice none 0 0)).setCell (p := ⟨bE, 0, none⟩) WE (.int .i64 270)))
    clear m0 m1 m2 ml mf e0 ef el
    generalize World.setCell _ _ _ = w9 at *
    obtain ⟨⟨m0, m1, m2, ml⟩, ⟨e0, ef, el⟩, K⟩ := P
    refine ⟨.tuple #[.agg #[.int .i64 0, .slice none 0 0, .slice none 0 0], .int .i64 270], by simp [results, Try.results15, go_sem, m0, m1, m2, e0], ?_⟩
    rw [HV2.out]
    exact ⟨_, rfl, ownSc_zero _ _, K⟩
  have hf := (rightS_iff s).1 hr
  have HV2 := Lib.hid (HV.out.trans (show doV s k x y = if doOk s k x y then (⟨s.n, moveT s.ts k y, s.cur⟩, 0) else (s0, 271) by unfold doV; rw [hr]; rfl))
  have HOK := Lib.hid (show doOk s k x y = (decide (0 ≤ x) && decide (x < s.n) && decide (0 ≤ y) && decide (y < s.n) && (x != y) && (freeL s x y).any fun t => t.id == k) from rfl)
  have hcl := hf.cur
  have hn64 := hf.n64
  have hlen := hf.len
  rw [HSC.out.hla] at hlen
  rw [HSC.out.hlb] at hcl
  have HCL := fun w (k : Kp W.heap.size W w) => Lib.hid (clone_any w (ca := ca) (cb := cb) (HSC.out.kp k) HNA.out HNB.out (by omega) (by omega))
  clear HV hr
  obtain ⟨x0, x1, x2, xl⟩ := HX2.out
  go_wp2_with fail
  (with_reducible refine (HCL _ K1.out).out.mono ?_)
  clear x0 x1 x2 xl HCL
  rintro e w3 ⟨A', ca', B', cb', rfl, hsc, hsa, hsb, hdis, hk⟩
  have K2 := Lib.hid (K1.out.trans (hk.mono K1.out.size))
  have hw2 : W.heap.size ≤ w2.heap.size := K1.out.size
  have HX3 := Lib.hid (HX2.out.kp hk)
  have HY3 := Lib.hid (HY2.out.kp hk)
  have HM3 := Lib.hid (HM2.out.kp hk)
  have HZ3 := Lib.hid (HZ2.out.kp hk)
  have HE3 := Lib.hid (HE2.out.kps hk)
  have HC3 := Lib.hid hsc
  have HSA := Lib.hid hsa
  have HSB := Lib.hid hsb
  have HDIS := Lib.hid hdis
  have h2M : bM < w2.heap.size := HM2.out.lt
  have h2E : bE < w2.heap.size := HE2.out.lt
  have h2Y : bY < w2.heap.size := HY2.out.lt
  clear hk K1 HX2 HY2 HM2 HZ2 HE2 hsc hsa hsb hdis
  go_upto_region 4 with fail
  have HO4 := Lib.hid (C3.new w3 (.int .i64 s.n) (.slice A' la ca') (.slice B' lb cb') 30)
  have HOZ := Lib.hid (Fz.new w3 #[.int .i64 s.n, .slice A' la ca', .slice B' lb cb'] 30)
  have kk : Kp w3.heap.size w3 (w3.alloc (.cells #[.int .i64 s.n, .slice A' la ca', .slice B' lb cb'] 30)) := (Kp.refl _ _).alloc (Nat.le_refl _) _
  have HX4 := Lib.hid (HX3.out.alloc (.cells #[.int .i64 s.n, .slice A' la ca', .slice B' lb cb'] 30))
  have HY4 := Lib.hid (HY3.out.alloc (.cells #[.int .i64 s.n, .slice A' la ca', .slice B' lb cb'] 30))
  have HM4 := Lib.hid (HM3.out.alloc (.cells #[.int .i64 s.n, .slice A' la ca', .slice B' lb cb'] 30))
  have HZ4 := Lib.hid (HZ3.out.alloc (.cells #[.int .i64 s.n, .slice A' la ca', .slice B' lb cb'] 30))
  have HE4 := Lib.hid (HE3.out.alloc (.cells #[.int .i64 s.n, .slice A' la ca', .slice B' lb cb'] 30))
  have HC4 := Lib.hid (HC3.out.kp kk)
  have HSA4 := Lib.hid (HSA.out.kp kk)
  have HSB4 := Lib.hid (HSB.out.kp kk)
  have K3 := Lib.hid (K2.out.alloc K2.out.size (.cells #[.int .i64 s.n, .slice A' la ca', .slice B' lb cb'] 30))
  have hOA : ∀ p, A' = some p → p.block < w3.heap.size := fun p hp => by
    obtain ⟨g, rfl, _, h3, _⟩ := HSA.out.at0 p hp
    exact h3
  have hOB : ∀ p, B' = some p → p.block < w3.heap.size := fun p hp => by
    obtain ⟨g, rfl, _, h3, _⟩ := HSB.out.at0 p hp
    exact h3
  have hMA : bM < w3.heap.size := HM3.out.lt
  have hEA : bE < w3.heap.size := HE3.out.lt
  have hw3 : W.heap.size ≤ w3.heap.size := K2.out.size
  have hw4 : w3.heap.size < (w3.alloc (.cells #[.int .i64 s.n, .slice A' la ca', .slice B' lb cb'] 30)).heap.size := by rw [World.size_alloc]; omega
  clear kk HX3 HY3 HM3 HZ3 HE3 HC3 HSA HSB K2
  generalize w3.alloc _ = w4 at *
  obtain ⟨bO, hbO⟩ : ∃ b, b = w3.heap.size := ⟨_, rfl⟩
  rw [← hbO] at HO4 HOZ hOA hOB hMA hEA hw3 hw4
  rw [← hbO]
  have HHA := Lib.hid hOA
  have HHB := Lib.hid hOB
  have dMO : bM ≠ bO := by omega
  have dEO : bE ≠ bO := by omega
  clear hbO hOA hOB
  obtain ⟨x0, x1, x2, xl⟩ := HX4.out
  obtain ⟨y0, y1, y2, yl⟩ := HY4.out
  obtain ⟨m0, m1, m2, ml⟩ := HM4.out
  have mf := HZ4.out.2
  obtain ⟨e0, ef, el⟩ := HE4.out
  by_cases hc0 : x < 0
  · have HV3 := Lib.hid (HV2.out.trans (if_neg (by rw [HOK.out]; simp [show ¬ 0 ≤ x by omega])))
    go_wp2_with fail
    have P := And.intro ((HM4.out.set (.int .i64 0) (.slice none 0 0) (.slice none 0 0)).far (p := ⟨bE, 0, none⟩) dME.symm (.int .i64 271)) (And.intro ((((HE4.out.far (p := ⟨bM, 0, none⟩) dME (.int .i64 0)).far (p := ⟨bM, 1, none⟩) dME (.slice none 0 0)).far (p := ⟨bM, 2, none⟩) dME (.slice none 0 0)).set (.int .i64 271)) ((((K3.out.setCell (p := ⟨bM, 0, none⟩) WM (.int .i64 0)).setCell (p := ⟨bM, 1, none⟩) WM (.slice none 0 0)).setCell (p := ⟨bM, 2, none⟩) WM (.slice none 0 0)).setCell (p := ⟨bE, 0, none⟩) WE (.int .i64 271)))
    clear m0 m1 m2 ml mf e0 ef el
    generalize World.setCell _ _ _ = w9 at *
    obtain ⟨⟨m0, m1, m2, ml⟩, ⟨e0, ef, el⟩, K⟩ := P
    refine ⟨.tuple #[.agg #[.int .i64 0, .slice none 0 0, .slice none 0 0], .int .i64 271], by simp [results, Try.results15, go_sem, m0, m1, m2, e0], ?_⟩
    rw [HV3.out]
    exact ⟨_, rfl, ownSc_zero _ _, K⟩
  have hg0 : 0 ≤ x := by omega
  clear hc0
  by_cases hc1 : s.n ≤ x
  · have HV3 := Lib.hid (HV2.out.trans (if_neg (by rw [HOK.out]; simp [show ¬ x < s.n by omega])))
    go_wp2_with fail
    have P := And.intro ((HM4.out.set (.int .i64 0) (.slice none 0 0) (.slice none 0 0)).far (p := ⟨bE, 0, none⟩) dME.symm (.int .i64 271)) (And.intro ((((HE4.out.far (p := ⟨bM, 0, none⟩) dME (.int .i64 0)).far (p := ⟨bM, 1, none⟩) dME (.slice none 0 0)).far (p := ⟨bM, 2, none⟩) dME (.slice none 0 0)).set (.int .i64 271)) ((((K3.out.setCell (p := ⟨bM, 0, none⟩) WM (.int .i64 0)).setCell (p := ⟨bM, 1, none⟩) WM (.slice none 0 0)).setCell (p := ⟨bM, 2, none⟩) WM (.slice none 0 0)).setCell (p := ⟨bE, 0, none⟩) WE (.int .i64 271)))
    clear m0 m1 m2 ml mf e0 ef el
    generalize World.setCell _ _ _ = w9 at *
    obtain ⟨⟨m0, m1, m2, ml⟩, ⟨e0, ef, el⟩, K⟩ := P
    refine ⟨.tuple #[.agg #[.int .i64 0, .slice none 0 0, .slice none 0 0], .int .i64 271], by simp [results, Try.results15, go_sem, m0, m1, m2, e0], ?_⟩
    rw [HV3.out]
    exact ⟨_, rfl, ownSc_zero _ _, K⟩
  have hg1 : x < s.n := by omega
  clear hc1
  by_cases hc2 : y < 0
  · have HV3 := Lib.hid (HV2.out.trans (if_neg (by rw [HOK.out]; simp [show ¬ 0 ≤ y by omega])))
    go_wp2_with fail
    have P := And.intro ((HM4.out.set (.int .i64 0) (.slice none 0 0) (.slice none 0 0)).far (p := ⟨bE, 0, none⟩) dME.symm (.int .i64 271)) (And.intro ((((HE4.out.far (p := ⟨bM, 0, none⟩) dME (.int .i64 0)).far (p := ⟨bM, 1, none⟩) dME (.slice none 0 0)).far (p := ⟨bM, 2, none⟩) dME (.slice none 0 0)).set (.int .i64 271)) ((((K3.out.setCell (p := ⟨bM, 0, none⟩) WM (.int .i64 0)).setCell (p := ⟨bM, 1, none⟩) WM (.slice none 0 0)).setCell (p := ⟨bM, 2, none⟩) WM (.slice none 0 0)).setCell (p := ⟨bE, 0, none⟩) WE (.int .i64 271)))
    clear m0 m1 m2 ml mf e0 ef el
    generalize World.setCell _ _ _ = w9 at *
    obtain ⟨⟨m0, m1, m2, ml⟩, ⟨e0, ef, el⟩, K⟩ := P
    refine ⟨.tuple #[.agg #[.int .i64 0, .slice none 0 0, .slice none 0 0], .int .i64 271], by simp [results, Try.results15, go_sem, m0, m1, m2, e0], ?_⟩
    rw [HV3.out]
    exact ⟨_, rfl, ownSc_zero _ _, K⟩
  have hg2 : 0 ≤ y := by omega
  clear hc2
  by_cases hc3 : s.n ≤ y
  · have HV3 := Lib.hid (HV2.out.trans (if_neg (by rw [HOK.out]; simp [show ¬ y < s.n by omega])))
    go_wp2_with fail
    have P := And.intro ((HM4.out.set (.int .i64 0) (.slice none 0 0) (.slice none 0 0)).far (p := ⟨bE, 0, none⟩) dME.symm (.int .i64 271)) (And.intro ((((HE4.out.far (p := ⟨bM, 0, none⟩) dME (.int .i64 0)).far (p := ⟨bM, 1, none⟩) dME (.slice none 0 0)).far (p := ⟨bM, 2, none⟩) dME (.slice none 0 0)).set (.int .i64 271)) ((((K3.out.setCell (p := ⟨bM, 0, none⟩) WM (.int .i64 0)).setCell (p := ⟨bM, 1, none⟩) WM (.slice none 0 0)).setCell (p := ⟨bM, 2, none⟩) WM (.slice none 0 0)).setCell (p := ⟨bE, 0, none⟩) WE (.int .i64 271)))
    clear m0 m1 m2 ml mf e0 ef el
    generalize World.setCell _ _ _ = w9 at *
    obtain ⟨⟨m0, m1, m2, ml⟩, ⟨e0, ef, el⟩, K⟩ := P
    refine ⟨.tuple #[.agg #[.int .i64 0, .slice none 0 0, .slice none 0 0], .int .i64 271], by simp [results, Try.results15, go_sem, m0, m1, m2, e0], ?_⟩
    rw [HV3.out]
    exact ⟨_, rfl, ownSc_zero _ _, K⟩
  have hg3 : y < s.n := by omega
  clear hc3
  by_cases hxy : x = y
  · have HV3 := Lib.hid (HV2.out.trans (if_neg (by rw [HOK.out]; simp [hxy])))
    subst hxy
    go_wp2_with fail
    have P := And.intro ((HM4.out.set (.int .i64 0) (.slice none 0 0) (.slice none 0 0)).far (p := ⟨bE, 0, none⟩) dME.symm (.int .i64 271)) (And.intro ((((HE4.out.far (p := ⟨bM, 0, none⟩) dME (.int .i64 0)).far (p := ⟨bM, 1, none⟩) dME (.slice none 0 0)).far (p := ⟨bM, 2, none⟩) dME (.slice none 0 0)).set (.int .i64 271)) ((((K3.out.setCell (p := ⟨bM, 0, none⟩) WM (.int .i64 0)).setCell (p := ⟨bM, 1, none⟩) WM (.slice none 0 0)).setCell (p := ⟨bM, 2, none⟩) WM (.slice none 0 0)).setCell (p := ⟨bE, 0, none⟩) WE (.int .i64 271)))
    clear m0 m1 m2 ml mf e0 ef el
    generalize World.setCell _ _ _ = w9 at *
    obtain ⟨⟨m0, m1, m2, ml⟩, ⟨e0, ef, el⟩, K⟩ := P
    refine ⟨.tuple #[.agg #[.int .i64 0, .slice none 0 0, .slice none 0 0], .int .i64 271], by simp [results, Try.results15, go_sem, m0, m1, m2, e0], ?_⟩
    rw [HV3.out]
    exact ⟨_, rfl, ownSc_zero _ _, K⟩
  have hxy2 : (x == y) = false := beq_eq_false_iff_ne.2 hxy
  have HFF := fun w => Lib.hid (freeFn_any w (A := A) (B := B) (la := la) (ca := ca) (lb := lb) (cb := cb) (n := s.n) (x := x) (y := y))
  go_wp2_with fail
  (with_reducible refine (HFF _).out.mono ?_)
  clear x0 x1 x2 xl y0 y1 y2 yl m0 m1 m2 ml mf e0 ef el HFF
  rintro e w5 ⟨b, b1, b2, rfl, X2, F2, C2, ⟨g0, g1, g2⟩, hk2⟩
  have HY5 := Lib.hid (HY4.out.kp hk2)
  have HM5 := Lib.hid (HM4.out.kp hk2)
  have HZ5 := Lib.hid (HZ4.out.kp hk2)
  have HE5 := Lib.hid (HE4.out.kps hk2)
  have HO5 := Lib.hid (HO4.out.kp hk2)
  have HOZ5 := Lib.hid (HOZ.out.kp hk2)
  have HC5 := Lib.hid (HC4.out.kp hk2)
  have HSA5 := Lib.hid (HSA4.out.kp hk2)
  have HSB5 := Lib.hid (HSB4.out.kp hk2)
  have K5 := Lib.hid (K3.out.trans (hk2.mono K3.out.size))
  have hw5 := hk2.size
  have hWn1 : W.heap.size ≤ w4.heap.size := K3.out.size
  have HIT := free_iter (Wp := W) (W0 := w5) (n1 := W.heap.size) (n2 := w4.heap.size) HSC.out K5.out (Nat.le_refl _) g0 g1 g2 hf X2 F2 C2 hg2 (by omega)
  clear hk2 X2 F2 C2 g0 g1 g2 HX4 HY4 HM4 HZ4 HE4 HO4 HOZ HC4 HSA4 HSB4 K3
  go_wp2_with fail
  refine (wpIn_wide (n := 3)).1 ?_
  have HFL : freeL s x y = s.ts.filter (freeB s x y) := rfl
  have HMEM := fun t => Lib.hid (fun (h : t ∈ freeL s x y) => freeL_mem h)
  have HIDX := fun t => Lib.hid (fun (h : t ∈ freeL s x y) (e : t.id = k) => idx_free (k := k) h e)
  have HW5 := Lib.hid (Nat.le_refl w5.heap.size)
  have l4 : bO < w5.heap.size := HO5.out.lt
  have l5 : bM < w5.heap.size := HM5.out.lt
  have l6 : bE < w5.heap.size := HE5.out.lt
  have l7 : bY < w5.heap.size := HY5.out.lt
  have hW5 : W.heap.size ≤ w5.heap.size := K5.out.size
  clear HFL
  refine range_law (m := 1) (gf := 52) rfl (enters_of Try.func52 (by kernel_rfl) rfl) HIT (by omega) (Kx.refl _ _ _ _ _) (fun _ => rfl)
    (fun pre w => Kp w5.heap.size w5 w ∧ Hid (∀ t ∈ pre, ¬ t.id = k))
    (fun _ w => Hid (∃ t, t ∈ freeL s x y ∧ t.id = k) ∧ C3 w bM (.int .i64 s.n) (.slice A' la ca') (.slice B' lb cb') ∧ Bx w bE (.int .i64 0) ∧ IsTks w A' la (moveT s.ts k y) ∧ IsInts w .i64 B' lb s.cur ∧ OwnSl w w2.heap.size 43 A' la ca' ∧ OwnSl w w2.heap.size 3 B' lb cb' ∧ Kp W.heap.size W w)
    (fun pre A B ⟨h1, h2⟩ q => ⟨h1.trans q, h2⟩)
    (fun _ A B ⟨h0, h1, h2, h3, h4, h5, h6, h7⟩ q => ⟨h0, ⟨(q.cell (p := ⟨bM, 0, none⟩) l5).trans h1.c0, (q.cell (p := ⟨bM, 1, none⟩) l5).trans h1.c1, (q.cell (p := ⟨bM, 2, none⟩) l5).trans h1.c2, Nat.lt_of_lt_of_le h1.lt q.size⟩, h2.kp q l6,
      h3.kpB q (fun p hp => by have := HHA.out p hp; omega), isInts_kpB h4 q (fun p hp => by have := HHB.out p hp; omega), h5.kpB q (fun p hp => by have := HHA.out p hp; omega), h6.kpB q (fun p hp => by have := HHB.out p hp; omega), h7.trans (q.mono hW5)⟩)
    ⟨Kp.refl _ _, Lib.hid (fun t h => by cases h)⟩ ?round ?done ?stop
  case stop =>
    clear HIT
    rintro D pre u rest V hxs hD ⟨hany, h1, h2, h3, h4, h5, h6, h7⟩ hd
    have q : Kp w5.heap.size V (V.putObj D (.deferred none)) := (Kp.refl _ _).put hD _
    have hq := q.mono hW5
    obtain ⟨m0, m1, m2, ml⟩ := h1
    replace m0 := (q.cell (p := ⟨bM, 0, none⟩) l5).trans m0
    replace m1 := (q.cell (p := ⟨bM, 1, none⟩) l5).trans m1
    replace m2 := (q.cell (p := ⟨bM, 2, none⟩) l5).trans m2
    have e0 := (h2.kp q l6).cell
    have t3 := h3.kpB q (fun p hp => by have := HHA.out p hp; omega)
    have t4 := isInts_kpB h4 q (fun p hp => by have := HHB.out p hp; omega)
    have t5 := h5.kpB q (fun p hp => by have := HHA.out p hp; omega)
    have t6 := h6.kpB q (fun p hp => by have := HHB.out p hp; omega)
    have t7 := h7.trans hq
    refine ⟨by simp, .inl ⟨_, _, rfl, run_takeDeferred hd, ?_⟩⟩
    generalize V.putObj _ _ = w9 at *
    refine ⟨.tuple #[.agg #[.int .i64 s.n, .slice A' la ca', .slice B' lb cb'], .int .i64 0], by simp [results, Try.results15, go_sem, m0, m1, m2, e0], ?_⟩
    obtain ⟨t, ht, htk⟩ := hany.out
    have hok : doOk s k x y = true := by
      rw [HOK.out]
      simp only [Bool.and_eq_true, decide_eq_true_eq, bne_iff_ne]
      exact ⟨⟨⟨⟨⟨hg0, hg1⟩, hg2⟩, hg3⟩, hxy⟩, List.any_eq_true.2 ⟨t, ht, by simpa using htk⟩⟩
    rw [HV2.out, if_pos hok]
    have e1 : (moveT s.ts k y).length = la := by unfold moveT; rw [List.length_set]; exact HSC.out.hla
    have bs : ∀ {t A n c}, OwnSl w9 w2.heap.size t A n c → OwnSl w9 W.heap.size t A n c := fun h => ⟨h.le, h.max, h.nil, fun p hp => by
      obtain ⟨g, q1, q2, q3⟩ := h.at0 p hp
      exact ⟨g, q1, Nat.le_trans hw2 q2, q3⟩⟩
    refine ⟨_, rfl, ⟨A', ca', B', cb', ?_, ?_, ?_, ?_, HDIS.out⟩, t7⟩
    · show _ = Value.agg #[_, .slice A' (moveT s.ts k y).length ca', .slice B' s.cur.length cb']
      rw [e1, HSC.out.hlb]
    · show ScAt w9 A' (moveT s.ts k y).length B' s.cur.length _
      rw [e1, HSC.out.hlb]
      refine ⟨e1, HSC.out.hlb, t3, t4, fun a ha => ?_, HSC.out.lam, HSC.out.lbm⟩
      have ha2 : a ∈ s.ts.set (idxT s.ts k) ((s.ts.getD (idxT s.ts k) t0).to y) := ha
      rcases List.mem_or_eq_of_mem_set ha2 with h | h
      · exact HSC.out.ok a h
      · obtain ⟨j, hj1, hj2, _⟩ := idx_free (k := k) ht htk
        have hz := HSC.out.ok (s.ts.getD (idxT s.ts k) t0) (by rw [hj2, List.getD_eq_getElem?_getD, List.getElem?_eq_getElem hj1]; exact List.getElem_mem _)
        rw [h]
        exact ⟨hz.id0, hz.id1, hz.wt0, hz.wt1, by show _ ≤ y; omega, by show y ≤ _; omega, hz.mask0, hz.mask1⟩
    · show OwnSl w9 W.heap.size 43 A' (moveT s.ts k y).length ca'
      rw [e1]
      exact bs t5
    · show OwnSl w9 W.heap.size 3 B' s.cur.length cb'
      rw [HSC.out.hlb]
      exact bs t6
  case done =>
    clear HIT
    rintro D V hD ⟨hkV, hno⟩ hd
    have hnok : ¬ doOk s k x y = true := by
      rw [HOK.out]
      intro hq
      simp only [Bool.and_eq_true] at hq
      obtain ⟨t, ht, htk⟩ := List.any_eq_true.1 hq.2
      exact hno.out t ht (by simpa using htk)
    have HV3 := Lib.hid (HV2.out.trans (if_neg hnok))
    have HKV := Lib.hid (K5.out.trans (hkV.mono hW5))
    have HMV := Lib.hid (HM5.out.kp hkV)
    have HZV := Lib.hid (HZ5.out.kp hkV)
    have HEV := Lib.hid (HE5.out.kps hkV)
    have hd2 : ∀ (a : Addr) (v : Value) (w : World), a.block ≠ D → w.heap[D]? = some (.deferred (some [])) → (w.setCell a v).heap[D]? = some (.deferred (some [])) := fun a v w h1 h2 => (Below.heap_setCell _ _ _ _ h1.symm).trans h2
    have dMD : bM ≠ D := by omega
    have dED : bE ≠ D := by omega
    have hd3 := hd2 ⟨bE, 0, none⟩ (.int .i64 271) _ dED (hd2 ⟨bM, 2, none⟩ (.slice none 0 0) _ dMD (hd2 ⟨bM, 1, none⟩ (.slice none 0 0) _ dMD (hd2 ⟨bM, 0, none⟩ (.int .i64 0) _ dMD hd)))
    have HD3 := Lib.hid hd3
    clear hno hnok hkV hd2 hd hd3
    obtain ⟨m0, m1, m2, ml⟩ := HMV.out
    have mf := HZV.out.2
    obtain ⟨e0, ef, el⟩ := HEV.out
    go_wp2_with fail
    have P := And.intro ((HMV.out.set (.int .i64 0) (.slice none 0 0) (.slice none 0 0)).far (p := ⟨bE, 0, none⟩) dME.symm (.int .i64 271)) (And.intro ((((HEV.out.far (p := ⟨bM, 0, none⟩) dME (.int .i64 0)).far (p := ⟨bM, 1, none⟩) dME (.slice none 0 0)).far (p := ⟨bM, 2, none⟩) dME (.slice none 0 0)).set (.int .i64 271)) (And.intro ((((HKV.out.setCell (p := ⟨bM, 0, none⟩) WM (.int .i64 0)).setCell (p := ⟨bM, 1, none⟩) WM (.slice none 0 0)).setCell (p := ⟨bM, 2, none⟩) WM (.slice none 0 0)).setCell (p := ⟨bE, 0, none⟩) WE (.int .i64 271)) HD3.out))
    clear m0 m1 m2 ml mf e0 ef el HD3
    generalize World.setCell _ _ _ = w9 at *
    obtain ⟨T1, T2, K, hd4⟩ := P
    have q : Kp w5.heap.size w9 (w9.putObj D (.deferred none)) := (Kp.refl _ _).put hD _
    obtain ⟨m0, m1, m2, ml⟩ := T1
    replace m0 := (q.cell (p := ⟨bM, 0, none⟩) l5).trans m0
    replace m1 := (q.cell (p := ⟨bM, 1, none⟩) l5).trans m1
    replace m2 := (q.cell (p := ⟨bM, 2, none⟩) l5).trans m2
    have e0 := (T2.kp q l6).cell
    have K2 := K.trans (q.mono hW5)
    refine ⟨by simp, .inl ⟨_, _, rfl, run_takeDeferred hd4, ?_⟩⟩
    generalize w9.putObj _ _ = w10 at *
    refine ⟨.tuple #[.agg #[.int .i64 0, .slice none 0 0, .slice none 0 0], .int .i64 271], by simp [results, Try.results15, go_sem, m0, m1, m2, e0], ?_⟩
    rw [HV3.out]
    exact ⟨_, rfl, ownSc_zero _ _, K2⟩
  case round =>
    clear HIT
    rintro l pre u rest hxs V hl1 hl2 ⟨hkV, hpre⟩
    have hu : u ∈ freeL s x y := by rw [hxs]; simp
    obtain ⟨hu1, hu2⟩ := (HMEM u).out hu
    have hcpu : u.cpu = x := by
      unfold freeB at hu2
      simp only [Bool.and_eq_true, beq_iff_eq] at hu2
      exact hu2.1.1.2
    have HIX := Lib.hid ((HIDX u).out hu)
    have HANY := Lib.hid (fun (e : u.id = k) => (show ∃ t, t ∈ freeL s x y ∧ t.id = k from ⟨u, hu, e⟩))
    have HPRE := hpre
    clear HMEM HIDX hxs hu hu1 hu2 hpre
    obtain ⟨id, grp, wt, cpu, mask, rdy, v, r⟩ := u
    dsimp only at hcpu
    subst hcpu
    gi_wp2
    refine ⟨(Kp.refl _ V).alloc (Nat.le_refl _) _, fun Wb hkb hsb hib => ?_⟩
    have T := (TkAt.new V ⟨id, grp, wt, cpu, mask, rdy, v, r⟩ 43).kx hkb (Or.inr (Nat.zero_le _)) (by omega)
    obtain ⟨bT, hbT⟩ : ∃ bT, bT = V.heap.size := ⟨_, rfl⟩
    have hV5 : w5.heap.size ≤ V.heap.size := hkV.size
    have hTO : w5.heap.size ≤ bT := by omega
    rw [← hbT] at T
    rw [← hbT]
    clear hbT hkb hsb hkV hl1 hl2 hV5
    have HT := Lib.hid T
    have HIB := Lib.hid hib
    obtain ⟨c0, c1, c2, c3, c4, c5, c6, c7, cl⟩ := T
    simp only [Nat.zero_add] at c0 c1 c2 c3 c4 c5 c6 c7
    have HYb := HY5.out.kp hib
    obtain ⟨y0, y1, y2, yl⟩ := HYb
    by_cases hid : id = k
    · subst hid
      obtain ⟨jx, hj1, hj2, hj3⟩ := HIX.out rfl
      have hany := HANY.out rfl
      have HC6 := HC5.out.kp hib
      have HSA6 := HSA5.out.kp hib
      have HSB6 := HSB5.out.kp hib
      have HO6 := Lib.hid (HO5.out.kp hib)
      have HM6 := Lib.hid (HM5.out.kp hib)
      have HZ6 := Lib.hid (HZ5.out.kp hib)
      have HE6 := Lib.hid (HE5.out.kps hib)
      have HY6 := Lib.hid (HY5.out.kp hib)
      have hjla : jx < la := by rw [← HSC.out.hla]; exact hj1
      obtain ⟨g, off, hAe, _⟩ := HC6.ts jx hjla
      obtain ⟨g', hg', hgb, hgl, hgf, _⟩ := HSA6.at0 _ hAe
      cases hg'
      subst hAe
      have hgO : g < bO := HHA.out _ rfl
      have hgM : g ≠ bM := by omega
      have hgE : g ≠ bE := by omega
      have hgO2 : g ≠ bO := by omega
      have hgY : g ≠ bY := by omega
      have hix : idxV s.ts id = (jx : Int) := by unfold idxV; rw [hj2, if_pos hj1]
      have HCL := callsIn_wide (n := 0).2 (index_any Wb (c := ca') HC6.hla HC6.lam HC6.ts HT.out)
      dsimp only at HCL
      rw [hix] at HCL
      have HCALL := Lib.hid HCL
      have HC7 := Lib.hid HC6
      have HSA7 := Lib.hid HSA6
      have HSB7 := Lib.hid HSB6
      have HJ2 := Lib.hid hj2
      have HANY2 := Lib.hid hany
      obtain ⟨o0, o1, o2, ol⟩ := HO6.out
      clear HCL HC6 HSA6 HSB6 hj2 hj3 hix hany HIX HANY hgf hgl
      gi_wp2
      refine ⟨trivial, (CallsIn.inRound l HCALL.out).mono ?_⟩
      clear o0 o1 o2 ol c0 c1 c2 c3 c4 c5 c6 c7 cl y0 y1 y2 yl HCALL hib
      rintro e w7 ⟨rfl, hk7⟩
      have HC8 := Lib.hid (HC7.out.kp hk7)
      have HSA8 := Lib.hid (HSA7.out.kp hk7)
      have HSB8 := Lib.hid (HSB7.out.kp hk7)
      have HO8 := Lib.hid (HO6.out.kp hk7)
      have HM8 := Lib.hid (HM6.out.kp hk7)
      have HZ8 := Lib.hid (HZ6.out.kp hk7)
      have HE8 := Lib.hid (HE6.out.kps hk7)
      have HY8 := Lib.hid (HY6.out.kp hk7)
      have HK8 := Lib.hid (show Kx W.heap.size w4.heap.size w5.heap.size w5.heap.size Wb w7 from Kx.of_kp hk7)
      have HK9 := Lib.hid (K5.out.trans ((HIB.out.trans (hk7.mono HIB.out.size)).mono hW5))
      clear hk7 HC7 HSA7 HSB7 HO6 HM6 HZ6 HE6 HY6
      obtain ⟨g2, hg2, _, hgl, hgf, _⟩ := HSA8.out.at0 _ rfl
      cases hg2
      obtain ⟨_, _, e9, T9⟩ := HC8.out.ts jx hjla
      cases e9
      obtain ⟨c0, c1, c2, c3, c4, c5, c6, c7, cl⟩ := T9
      obtain ⟨o0, o1, o2, ol⟩ := HO8.out
      obtain ⟨y0, y1, y2, yl⟩ := HY8.out
      obtain ⟨m0, m1, m2, ml⟩ := HM8.out
      have mf := HZ8.out.2
      obtain ⟨e0, ef, el⟩ := HE8.out
      have hjl2 : (jx : Int) < la := by omega
      simp only [Nat.zero_add] at c0 c1 c2 c3 c4 c5 c6 c7
      have nB : ∀ p, B' = some p → p.block ≠ g := fun p hp => (HDIS.out _ _ rfl hp).symm
      have nBM : ∀ p, B' = some p → p.block ≠ bM := fun p hp => by
        obtain ⟨q, rfl, q1, _⟩ := HSB8.out.at0 p hp
        dsimp only
        omega
      have nBE : ∀ p, B' = some p → p.block ≠ bE := fun p hp => by
        obtain ⟨q, rfl, q1, _⟩ := HSB8.out.at0 p hp
        dsimp only
        omega
      have nAM : ∀ p, (some ⟨g, 0, none⟩ : Option Addr) = some p → p.block ≠ bM := fun p hp => by cases hp; exact hgM
      have nAE : ∀ p, (some ⟨g, 0, none⟩ : Option Addr) = some p → p.block ≠ bE := fun p hp => by cases hp; exact hgE
      have hWg : W.heap.size ≤ g := Nat.le_trans hw2 hgb
      have hg4 : g < w4.heap.size := by omega
      have hM4 : bM < w4.heap.size := by omega
      have hE4 : bE < w4.heap.size := by omega
      have ht8 := set_cpu2 HC8.out.hla hjla HC8.out.ts y
      rw [show s.ts.set jx ((s.ts.getD jx t0).to y) = moveT s.ts id y by unfold moveT; rw [HJ2.out]] at ht8
      have P := And.intro (((((HK8.out.setIn (p := ⟨g, jx * 8 + 3, none⟩) hWg hg4 (.int .i64 y)).setIn (p := ⟨bM, 0, none⟩) WM hM4 (.int .i64 s.n)).setIn (p := ⟨bM, 1, none⟩) WM hM4 (.slice (some ⟨g, 0, none⟩) la ca')).setIn (p := ⟨bM, 2, none⟩) WM hM4 (.slice B' lb cb')).setIn (p := ⟨bE, 0, none⟩) WE hE4 (.int .i64 0))
        (And.intro (((HM8.out.far (p := ⟨g, jx * 8 + 3, none⟩) hgM (.int .i64 y)).set (.int .i64 s.n) (.slice (some ⟨g, 0, none⟩) la ca') (.slice B' lb cb')).far (p := ⟨bE, 0, none⟩) dME.symm (.int .i64 0))
        (And.intro (((((HE8.out.far (p := ⟨g, jx * 8 + 3, none⟩) hgE (.int .i64 y)).far (p := ⟨bM, 0, none⟩) dME (.int .i64 s.n)).far (p := ⟨bM, 1, none⟩) dME (.slice (some ⟨g, 0, none⟩) la ca')).far (p := ⟨bM, 2, none⟩) dME (.slice B' lb cb')).set (.int .i64 0))
        (And.intro ((((ht8.far (a := ⟨bM, 0, none⟩) nAM (.int .i64 s.n)).far (a := ⟨bM, 1, none⟩) nAM (.slice (some ⟨g, 0, none⟩) la ca')).far (a := ⟨bM, 2, none⟩) nAM (.slice B' lb cb')).far (a := ⟨bE, 0, none⟩) nAE (.int .i64 0))
        (And.intro (isInts_far (isInts_far (isInts_far (isInts_far (isInts_far HC8.out.cur (a := ⟨g, jx * 8 + 3, none⟩) nB (.int .i64 y)) (a := ⟨bM, 0, none⟩) nBM (.int .i64 s.n)) (a := ⟨bM, 1, none⟩) nBM (.slice (some ⟨g, 0, none⟩) la ca')) (a := ⟨bM, 2, none⟩) nBM (.slice B' lb cb')) (a := ⟨bE, 0, none⟩) nBE (.int .i64 0))
        (And.intro (((((HSA8.out.set ⟨g, jx * 8 + 3, none⟩ (.int .i64 y)).set ⟨bM, 0, none⟩ (.int .i64 s.n)).set ⟨bM, 1, none⟩ (.slice (some ⟨g, 0, none⟩) la ca')).set ⟨bM, 2, none⟩ (.slice B' lb cb')).set ⟨bE, 0, none⟩ (.int .i64 0))
        (And.intro (((((HSB8.out.set ⟨g, jx * 8 + 3, none⟩ (.int .i64 y)).set ⟨bM, 0, none⟩ (.int .i64 s.n)).set ⟨bM, 1, none⟩ (.slice (some ⟨g, 0, none⟩) la ca')).set ⟨bM, 2, none⟩ (.slice B' lb cb')).set ⟨bE, 0, none⟩ (.int .i64 0))
        (((((HK9.out.setCell (p := ⟨g, jx * 8 + 3, none⟩) hWg (.int .i64 y)).setCell (p := ⟨bM, 0, none⟩) WM (.int .i64 s.n)).setCell (p := ⟨bM, 1, none⟩) WM (.slice (some ⟨g, 0, none⟩) la ca')).setCell (p := ⟨bM, 2, none⟩) WM (.slice B' lb cb')).setCell (p := ⟨bE, 0, none⟩) WE (.int .i64 0))))))))
      have HP := Lib.hid P
      clear P ht8 nB nBM nBE nAM nAE
      gi_wp2
      generalize World.setCell _ _ _ = w9 at *
      obtain ⟨P0, P1, P2, P3, P4, P5, P6, P7⟩ := HP.out
      exact ⟨P0, HANY2, P1, P2, P3, P4, P5, P6, P7⟩
    · have hid2 : (id == k) = false := beq_eq_false_iff_ne.2 hid
      have HID := Lib.hid hid
      clear hid
      gi_wp2
      refine ⟨Kx.refl _ _ _ _ _, HIB.out, fun t ht => ?_⟩
      rcases List.mem_append.1 ht with h1 | h1
      · exact HPRE.out t h1
      · rw [List.mem_singleton.1 h1]
        exact HID.out
end Go.Proofs.Yticgdfbknaholaa
