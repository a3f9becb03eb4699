/-
  The reference's Do.
-/
import Derived.Test.YticgdfbknaholaaRefD27
namespace Go.Proofs.Yticgdfbknaholaa
open Go.RowKit

theorem doOk_none {s : Sc} {k x y : Int} (h : ¬ idxT s.ts k < s.ts.length) : doOk s k x y = false := by
  cases hd : doOk s k x y with
  | false => rfl
  | true =>
    obtain ⟨_, _, _, _, _, t, ht, _, hid⟩ := doOk_iff.1 hd
    exact absurd ((List.findIdx_lt_length (p := fun t : Tk => t.id == k)).2 ⟨t, ht, beq_iff_eq.2 hid⟩) h
theorem doOk_some {s : Sc} (hf : s.fit) {k x y : Int} {i : Nat} (hi : idxT s.ts k = i) (hl : i < s.ts.length) :
    doOk s k x y = true ↔ 0 ≤ y ∧ y < s.n ∧ x ≠ y ∧ (s.ts.getD i t0).cpu = x ∧ freeR s (s.ts.getD i t0) = true ∧ hasB (s.ts.getD i t0).mask y = true := by
  have hid : (s.ts.getD i t0).id = k := by
    subst hi
    have := List.findIdx_getElem (p := fun t : Tk => t.id == k) (w := hl)
    rw [List.getD_eq_getElem?_getD, List.getElem?_eq_getElem (show idxT s.ts k < s.ts.length from hl)]
    exact beq_iff_eq.1 this
  have hfit := hf.each _ (getD_mem' hl)
  rw [doOk_iff]
  constructor
  · rintro ⟨h1, h2, h3, h4, h5, t, ht, hfr, htk⟩
    obtain ⟨j, hj, hjt⟩ := mem_getD ht
    have hji : j = i := rightsT_inj hf.ts j i hj hl (by rw [hjt, htk, hid])
    subst hji
    rw [hjt]
    obtain ⟨f1, f2, f3, f4⟩ := freeB_iff.1 hfr
    refine ⟨h3, h4, h5, f2, ?_, f4⟩
    unfold freeR
    rw [f1, f2, bne_iff_ne.2 f3]
    rfl
  · rintro ⟨h1, h2, h3, h4, h5, h6⟩
    refine ⟨by rw [← h4]; exact hfit.cpu0, by rw [← h4]; exact hfit.cpu1, h1, h2, h3, _, getD_mem' hl, ?_, hid⟩
    unfold freeR at h5
    simp only [Bool.and_eq_true, bne_iff_ne] at h5
    exact freeB_iff.2 ⟨h5.1, h4, by rw [← h4]; exact h5.2, h6⟩
/-- A scene handed back by the reference. -/
def RefSc (W w : World) (B0 : Option Addr) (cb0 : Nat) (v : Value) (s : Sc) : Prop := ∃ A ca B cb, v = .agg #[.int .i64 s.n, .slice A s.ts.length ca, .slice B s.cur.length cb] ∧ ScAt w A s.ts.length B s.cur.length s ∧ (A = none → ca = 0) ∧ (B = none → cb = 0) ∧ Kp W.heap.size W w ∧ (B = none ∨ (B = B0 ∧ cb = cb0)) ∧ ∀ p, A = some p → Ty w p.block 43
def RefDo (W : World) (B0 : Option Addr) (cb0 : Nat) (r : Sc × Int) (e : Ending) (w' : World) : Prop := ∃ v, e = .returned (.tuple #[v, .int .i64 r.2]) ∧ RefSc W w' B0 cb0 v r.1
theorem refSc_zero {W w : World} {B0 : Option Addr} {cb0 : Nat} (k : Kp W.heap.size W w) : RefSc W w B0 cb0 (.agg #[.int .i64 0, .slice none 0 0, .slice none 0 0]) s0 :=
  ⟨none, 0, none, 0, rfl, scAt_zero w, fun _ => rfl, fun _ => rfl, k, Or.inl rfl, fun p hp => by cases hp⟩
set_option maxRecDepth 100000 in
set_option maxHeartbeats 8000000 in
theorem refDo_any (W : World) {A B : Option Addr} {la ca lb cb : Nat} {s : Sc} {k x y : Int} (h : ScAt W A la B lb s) (hB : B = none → cb = 0) (hlm : la ≤ 65536) :
    Calls Try.prog 46 #[.agg #[.int .i64 s.n, .slice A la ca, .slice B lb cb], .agg #[.int .i64 k, .int .i64 x, .int .i64 y]] W (RefDo W B cb (doV s k x y)) := by
  obtain ⟨rV, hV⟩ : ∃ v, v = doV s k x y := ⟨_, rfl⟩
  rw [← hV]
  have HV := Lib.hid hV
  have k1 := (Kp.refl W.heap.size W).alloc (Nat.le_refl _) (.cells #[.int .i64 s.n, .slice A la ca, .slice B lb cb] 83)
  have k2 := k1.alloc (by simp) (.cells #[.int .i64 k, .int .i64 x, .int .i64 y] 89)
  have k3 := k2.alloc (by simp; omega) (.cells #[.int .i64 0, .slice none 0 0, .slice none 0 0] 83)
  have HX := Lib.hid (((C3.new W (.int .i64 s.n) (.slice A la ca) (.slice B lb cb) 83).alloc (.cells #[.int .i64 k, .int .i64 x, .int .i64 y] 89)).alloc (.cells #[.int .i64 0, .slice none 0 0, .slice none 0 0] 83))
  have HXZ := Lib.hid (((Fz.new W #[.int .i64 s.n, .slice A la ca, .slice B lb cb] 83).alloc (.cells #[.int .i64 k, .int .i64 x, .int .i64 y] 89)).alloc (.cells #[.int .i64 0, .slice none 0 0, .slice none 0 0] 83))
  have hy0 := (C3.new (W.alloc (.cells #[.int .i64 s.n, .slice A la ca, .slice B lb cb] 83)) (.int .i64 k) (.int .i64 x) (.int .i64 y) 89).alloc (.cells #[.int .i64 0, .slice none 0 0, .slice none 0 0] 83)
  have hm0 := C3.new ((W.alloc (.cells #[.int .i64 s.n, .slice A la ca, .slice B lb cb] 83)).alloc (.cells #[.int .i64 k, .int .i64 x, .int .i64 y] 89)) (.int .i64 0) (.slice none 0 0) (.slice none 0 0) 83
  have hz0 := Fz.new ((W.alloc (.cells #[.int .i64 s.n, .slice A la ca, .slice B lb cb] 83)).alloc (.cells #[.int .i64 k, .int .i64 x, .int .i64 y] 89)) #[.int .i64 0, .slice none 0 0, .slice none 0 0] 83
  simp only [World.size_alloc, Nat.add_assoc, Nat.reduceAdd] at hy0 hm0 hz0
  have HY := Lib.hid hy0
  have HM := Lib.hid hm0
  have HZ := Lib.hid hz0
  have HK := Lib.hid k3
  have HRR := fun w (k : Kp W.heap.size W w) => Lib.hid (refRight_any (ca := ca) (cb := cb) w (h.kp k))
  have HFD := fun w (kk : Kp W.heap.size W w) => Lib.hid (find_any (ca := ca) (cb := cb) (id := k) w (h.kp kk))
  have HSC := Lib.hid h
  have HNB := Lib.hid hB
  clear h k1 k2 k3 hV hy0 hm0 hz0 hB
  go_enter Try.func46, Try.ntmps46
  go_upto_region 1 with fail
  simp only [Nat.add_assoc, Nat.reduceAdd]
  generalize ((W.alloc _).alloc _).alloc _ = w1 at *
  obtain ⟨b0, hb0⟩ : ∃ b, b = W.heap.size := ⟨_, rfl⟩
  obtain ⟨bM, hbM⟩ : ∃ b, b = W.heap.size + 1 := ⟨_, rfl⟩
  obtain ⟨bR, hbR⟩ : ∃ b, b = W.heap.size + 2 := ⟨_, rfl⟩
  rw [← hbR] at HM HZ
  rw [← hbM] at HY
  rw [← hb0] at HX HXZ
  rw [← hbR, ← hbM, ← hb0]
  have WR : W.heap.size ≤ bR := by omega
  have W0 : W.heap.size ≤ b0 := by omega
  have d0R : b0 ≠ bR := by omega
  clear hb0 hbM hbR
  obtain ⟨x0, x1, x2, xl⟩ := HX.out
  go_wp2_with fail
  (with_reducible refine (HRR _ HK.out).out.mono ?_)
  clear x0 x1 x2 xl HRR
  rintro e w2 ⟨rfl, hk⟩
  have HK2 := Lib.hid (HK.out.trans (hk.mono HK.out.size))
  have HX2 := Lib.hid (HX.out.kp hk)
  have HXZ2 := Lib.hid (HXZ.out.kp hk)
  have HY2 := Lib.hid (HY.out.kp hk)
  have HM2 := Lib.hid (HM.out.kp hk)
  have HZ2 := Lib.hid (HZ.out.kp hk)
  clear hk HX HXZ HY HM HZ HK
  cases hr : rightS s
  · have hr0 : rV = (s0, 270) := by rw [HV.out]; unfold doV; rw [hr]; rfl
    have HF := Lib.hid hr0
    have P := And.intro (HM2.out.set (.int .i64 0) (.slice none 0 0) (.slice none 0 0)) (((HK2.out.setCell (p := ⟨bR, 0, none⟩) WR (.int .i64 0)).setCell (p := ⟨bR, 1, none⟩) WR (.slice none 0 0)).setCell (p := ⟨bR, 2, none⟩) WR (.slice none 0 0))
    obtain ⟨m0, m1, m2, ml⟩ := HM2.out
    have mf := HZ2.out.2
    clear hr0
    go_wp2_with fail
    clear m0 m1 m2 ml mf
    generalize World.setCell _ _ _ = w9 at *
    obtain ⟨⟨m0, m1, m2, ml⟩, K⟩ := P
    refine bodyPost_ret (v := .tuple #[.agg #[.int .i64 0, .slice none 0 0, .slice none 0 0], .int .i64 270]) (by simp [results, Try.results46, go_sem, m0, m1, m2]) rfl ?_
    rw [HF.out]
    exact ⟨_, rfl, refSc_zero K⟩
  have hf := (rightS_iff s).1 hr
  have HBD := Lib.hid (show doOk s k x y = false → rV = (s0, 271) from fun hd => by rw [HV.out]; unfold doV; rw [hr, hd]; rfl)
  have HGD := Lib.hid (show doOk s k x y = true → rV = (⟨s.n, moveT s.ts k y, s.cur⟩, 0) from fun hd => by rw [HV.out]; unfold doV; rw [hr, hd]; rfl)
  have HFT := Lib.hid hf
  have hn3 := hf.cur
  rw [HSC.out.hlb] at hn3
  have hn64 := hf.n64
  obtain ⟨n, hn⟩ : ∃ n, n = s.n := ⟨_, rfl⟩
  rw [← hn] at HX2 hn3 hn64 HFD
  have HN := Lib.hid hn
  clear hr hf hn
  subst hn3
  obtain ⟨x0, x1, x2, xl⟩ := HX2.out
  obtain ⟨y0, y1, y2, yl⟩ := HY2.out
  go_wp2_with fail
  (with_reducible refine (HFD _ HK2.out).out.mono ?_)
  clear x0 x1 x2 xl y0 y1 y2 yl HFD
  rintro e w3 ⟨rfl, hk⟩
  have HK3 := Lib.hid (HK2.out.trans (hk.mono HK2.out.size))
  have HX3 := Lib.hid (HX2.out.kp hk)
  have HXZ3 := Lib.hid (HXZ2.out.kp hk)
  have HY3 := Lib.hid (HY2.out.kp hk)
  have HM3 := Lib.hid (HM2.out.kp hk)
  have HZ3 := Lib.hid (HZ2.out.kp hk)
  clear hk HX2 HXZ2 HY2 HM2 HZ2 HK2
  obtain ⟨ix, hix⟩ : ∃ ix, ix = idxV s.ts k := ⟨_, rfl⟩
  rw [← hix]
  have HIX := Lib.hid hix
  clear hix
  obtain ⟨x0, x1, x2, xl⟩ := HX3.out
  obtain ⟨y0, y1, y2, yl⟩ := HY3.out
  by_cases hxl : idxT s.ts k < s.ts.length
  rotate_left
  · have hx1 : ix = -1 := by rw [HIX.out]; unfold idxV; rw [if_neg hxl]
    have HF := Lib.hid (HBD.out (doOk_none hxl))
    subst hx1
    clear hxl
    go_upto_region 4 with fail
    go_quiet (fail)
    replace HM3 := Lib.hid (HM3.out.drewN nq)
    replace HZ3 := Lib.hid (HZ3.out.kp ((Kp.refl _ _).drewN nq))
    replace HK3 := Lib.hid (HK3.out.drewN nq)
    generalize hw3d : w3.drewN nq = w3d at *
    clear hw3d
    have P := And.intro (HM3.out.set (.int .i64 0) (.slice none 0 0) (.slice none 0 0)) (((HK3.out.setCell (p := ⟨bR, 0, none⟩) WR (.int .i64 0)).setCell (p := ⟨bR, 1, none⟩) WR (.slice none 0 0)).setCell (p := ⟨bR, 2, none⟩) WR (.slice none 0 0))
    obtain ⟨m0, m1, m2, ml⟩ := HM3.out
    have mf := HZ3.out.2
    go_wp2_with fail
    clear m0 m1 m2 ml mf
    generalize World.setCell _ _ _ = w9 at *
    obtain ⟨⟨m0, m1, m2, ml⟩, K⟩ := P
    refine bodyPost_ret (v := .tuple #[.agg #[.int .i64 0, .slice none 0 0, .slice none 0 0], .int .i64 271]) (by simp [results, Try.results46, go_sem, m0, m1, m2]) rfl ?_
    rw [HF.out]
    exact ⟨_, rfl, refSc_zero K⟩
  have hx1 : ix = ((idxT s.ts k : Nat) : Int) := by rw [HIX.out]; unfold idxV; rw [if_pos hxl]
  have hiff := Lib.hid (doOk_some HFT.out (k := k) (x := x) (y := y) rfl hxl)
  rw [← HN.out] at hiff
  have hmv := Lib.hid (show moveT s.ts k y = s.ts.set (idxT s.ts k) ((s.ts.getD (idxT s.ts k) t0).to y) from rfl)
  generalize hxe : idxT s.ts k = i at *
  subst hx1
  have hil : i < la := by rw [← HSC.out.hla]; exact hxl
  have hii : (i : Int) < (la : Int) := by omega
  have hft := HFT.out.each _ (getD_mem' hxl)
  have hok := HSC.out.ok _ (getD_mem' hxl)
  obtain ⟨b, off, rfl, T⟩ := (HSC.out.kp HK3.out).ts i hil
  have HTS := Lib.hid (show s.ts.getD i t0 = s.ts.getD i t0 from rfl)
  obtain ⟨t, ht⟩ : ∃ t, t = s.ts.getD i t0 := ⟨_, rfl⟩
  rw [← ht] at T hft hok hiff hmv
  have HTT := Lib.hid ht
  clear ht HTS hxe HIX
  obtain ⟨id, grp, wt, tc, mask, rdy, v, r'⟩ := t
  obtain ⟨tc0, tc1, _, _, _, _, _⟩ := hft
  have mb0 := hok.mask0
  have mb1 := hok.mask1
  dsimp only at tc0 tc1 mb0 mb1 hiff
  rw [← HN.out] at tc1
  have HT := Lib.hid T
  obtain ⟨c0, c1, c2, c3, c4, c5, c6, c7, cl⟩ := T
  dsimp only at c0 c1 c2 c3 c4 c5 c6 c7
  obtain ⟨tp, rfl⟩ : ∃ tp : Nat, tc = (tp : Int) := ⟨tc.toNat, by omega⟩
  go_upto_region 4 with fail
  have NOT := Lib.hid (show ¬ (0 ≤ y ∧ y < (lb : Int) ∧ x ≠ y ∧ (tp : Int) = x ∧ freeR s ⟨id, grp, wt, (tp : Int), mask, rdy, v, r'⟩ = true ∧ hasB mask y = true) → rV = (s0, 271) from fun h => HBD.out (by
    cases hd : doOk s k x y with
    | false => rfl
    | true => exact absurd (hiff.out.1 hd) h))
  have hi0 : ¬ ((i : Int) < 0) := by omega
  have hi0' : (0 : Int) ≤ (i : Int) := by omega
  by_cases hy0 : y < 0
  · have HF := Lib.hid (NOT.out (fun h => by omega))
    go_quiet (fail)
    replace HM3 := Lib.hid (HM3.out.drewN nq)
    replace HZ3 := Lib.hid (HZ3.out.kp ((Kp.refl _ _).drewN nq))
    replace HK3 := Lib.hid (HK3.out.drewN nq)
    generalize hw3d : w3.drewN nq = w3d at *
    clear hw3d
    have P := And.intro (HM3.out.set (.int .i64 0) (.slice none 0 0) (.slice none 0 0)) (((HK3.out.setCell (p := ⟨bR, 0, none⟩) WR (.int .i64 0)).setCell (p := ⟨bR, 1, none⟩) WR (.slice none 0 0)).setCell (p := ⟨bR, 2, none⟩) WR (.slice none 0 0))
    obtain ⟨m0, m1, m2, ml⟩ := HM3.out
    have mf := HZ3.out.2
    go_wp2_with fail
    clear m0 m1 m2 ml mf
    generalize World.setCell _ _ _ = w9 at *
    obtain ⟨⟨m0, m1, m2, ml⟩, K⟩ := P
    refine bodyPost_ret (v := .tuple #[.agg #[.int .i64 0, .slice none 0 0, .slice none 0 0], .int .i64 271]) (by simp [results, Try.results46, go_sem, m0, m1, m2]) rfl ?_
    rw [HF.out]
    exact ⟨_, rfl, refSc_zero K⟩
  by_cases hy1 : (lb : Int) ≤ y
  · have HF := Lib.hid (NOT.out (fun h => by omega))
    go_quiet (fail)
    replace HM3 := Lib.hid (HM3.out.drewN nq)
    replace HZ3 := Lib.hid (HZ3.out.kp ((Kp.refl _ _).drewN nq))
    replace HK3 := Lib.hid (HK3.out.drewN nq)
    generalize hw3d : w3.drewN nq = w3d at *
    clear hw3d
    have P := And.intro (HM3.out.set (.int .i64 0) (.slice none 0 0) (.slice none 0 0)) (((HK3.out.setCell (p := ⟨bR, 0, none⟩) WR (.int .i64 0)).setCell (p := ⟨bR, 1, none⟩) WR (.slice none 0 0)).setCell (p := ⟨bR, 2, none⟩) WR (.slice none 0 0))
    obtain ⟨m0, m1, m2, ml⟩ := HM3.out
    have mf := HZ3.out.2
    go_wp2_with fail
    clear m0 m1 m2 ml mf
    generalize World.setCell _ _ _ = w9 at *
    obtain ⟨⟨m0, m1, m2, ml⟩, K⟩ := P
    refine bodyPost_ret (v := .tuple #[.agg #[.int .i64 0, .slice none 0 0, .slice none 0 0], .int .i64 271]) (by simp [results, Try.results46, go_sem, m0, m1, m2]) rfl ?_
    rw [HF.out]
    exact ⟨_, rfl, refSc_zero K⟩
  by_cases hxy : x = y
  · have HF := Lib.hid (NOT.out (fun h => h.2.2.1 hxy))
    subst hxy
    go_quiet (fail)
    replace HM3 := Lib.hid (HM3.out.drewN nq)
    replace HZ3 := Lib.hid (HZ3.out.kp ((Kp.refl _ _).drewN nq))
    replace HK3 := Lib.hid (HK3.out.drewN nq)
    generalize hw3d : w3.drewN nq = w3d at *
    clear hw3d
    have P := And.intro (HM3.out.set (.int .i64 0) (.slice none 0 0) (.slice none 0 0)) (((HK3.out.setCell (p := ⟨bR, 0, none⟩) WR (.int .i64 0)).setCell (p := ⟨bR, 1, none⟩) WR (.slice none 0 0)).setCell (p := ⟨bR, 2, none⟩) WR (.slice none 0 0))
    obtain ⟨m0, m1, m2, ml⟩ := HM3.out
    have mf := HZ3.out.2
    go_wp2_with fail
    clear m0 m1 m2 ml mf
    generalize World.setCell _ _ _ = w9 at *
    obtain ⟨⟨m0, m1, m2, ml⟩, K⟩ := P
    refine bodyPost_ret (v := .tuple #[.agg #[.int .i64 0, .slice none 0 0, .slice none 0 0], .int .i64 271]) (by simp [results, Try.results46, go_sem, m0, m1, m2]) rfl ?_
    rw [HF.out]
    exact ⟨_, rfl, refSc_zero K⟩
  have hxy' : (x == y) = false := beq_eq_false_iff_ne.2 hxy
  by_cases htx : (tp : Int) = x
  rotate_left
  · have HF := Lib.hid (NOT.out (fun h => htx h.2.2.2.1))
    have htx' : ((tp : Int) != x) = true := bne_iff_ne.2 htx
    clear htx
    go_quiet (fail)
    replace HM3 := Lib.hid (HM3.out.drewN nq)
    replace HZ3 := Lib.hid (HZ3.out.kp ((Kp.refl _ _).drewN nq))
    replace HK3 := Lib.hid (HK3.out.drewN nq)
    generalize hw3d : w3.drewN nq = w3d at *
    clear hw3d
    have P := And.intro (HM3.out.set (.int .i64 0) (.slice none 0 0) (.slice none 0 0)) (((HK3.out.setCell (p := ⟨bR, 0, none⟩) WR (.int .i64 0)).setCell (p := ⟨bR, 1, none⟩) WR (.slice none 0 0)).setCell (p := ⟨bR, 2, none⟩) WR (.slice none 0 0))
    obtain ⟨m0, m1, m2, ml⟩ := HM3.out
    have mf := HZ3.out.2
    go_wp2_with fail
    clear m0 m1 m2 ml mf
    generalize World.setCell _ _ _ = w9 at *
    obtain ⟨⟨m0, m1, m2, ml⟩, K⟩ := P
    refine bodyPost_ret (v := .tuple #[.agg #[.int .i64 0, .slice none 0 0, .slice none 0 0], .int .i64 271]) (by simp [results, Try.results46, go_sem, m0, m1, m2]) rfl ?_
    rw [HF.out]
    exact ⟨_, rfl, refSc_zero K⟩
  subst htx
  obtain ⟨q, rfl⟩ : ∃ q : Nat, y = (q : Int) := ⟨y.toNat, by omega⟩
  have hq64 : q ≤ 64 := by omega
  clear c0 c1 c2 c3 c4 c5 c6 c7 cl x0 x1 x2 xl y0 y1 y2 yl
  have HFR := fun w (k : Kp W.heap.size W w) => Lib.hid (freeR_any (t := ⟨id, grp, wt, (tp : Int), mask, rdy, v, r'⟩) (ca := ca) (cb := cb) w (HSC.out.kp k) (by dsimp only; omega) (by dsimp only; omega))
  have HMY := fun w => Lib.hid (may_any w (t := ⟨id, grp, wt, (tp : Int), mask, rdy, v, r'⟩) (c := q) mb0 mb1 hq64)
  rw [← HN.out] at HFR
  dsimp only [tkv] at HFR HMY
  cases hfr : freeR s ⟨id, grp, wt, (tp : Int), mask, rdy, v, r'⟩
  · rw [hfr] at HFR
    have HF := Lib.hid (NOT.out (fun h => by rw [hfr] at h; cases h.2.2.2.2.1))
    refine wp_region_noPanic ?_
    refine wp_region_anyN (fun w' => w'.cell? ⟨b, off + i * 8, none⟩ = some (.int .i64 id) ∧ w'.cell? ⟨b, off + i * 8 + 1, none⟩ = some (.int .i64 grp) ∧ w'.cell? ⟨b, off + i * 8 + 2, none⟩ = some (.int .i64 wt) ∧ w'.cell? ⟨b, off + i * 8 + 3, none⟩ = some (.int .i64 (tp : Int)) ∧ w'.cell? ⟨b, off + i * 8 + 4, none⟩ = some (.int .u64 mask) ∧ w'.cell? ⟨b, off + i * 8 + 5, none⟩ = some (.bool rdy) ∧ w'.cell? ⟨b, off + i * 8 + 6, none⟩ = some (.int .u64 v) ∧ w'.cell? ⟨b, off + i * 8 + 7, none⟩ = some (.int .u32 r') ∧ w'.cell? ⟨b0, 0, none⟩ = some (.int .i64 (lb : Int)) ∧ w'.cell? ⟨b0, 1, none⟩ = some (.slice (some ⟨b, off, none⟩) la ca) ∧ w'.cell? ⟨b0, 2, none⟩ = some (.slice B lb cb) ∧ w'.cell? ⟨bM, 0, none⟩ = some (.int .i64 k) ∧ w'.cell? ⟨bM, 1, none⟩ = some (.int .i64 (tp : Int)) ∧ w'.cell? ⟨bM, 2, none⟩ = some (.int .i64 (q : Int))) 53 (by kernel_rfl) ?_
    have kd : Kp w3.heap.size w3 w3.drew := (Kp.refl _ _).drewN 1
    replace HT := Lib.hid (HT.out.kp kd)
    replace HX3 := Lib.hid (HX3.out.kp kd)
    replace HXZ3 := Lib.hid (HXZ3.out.kp kd)
    replace HY3 := Lib.hid (HY3.out.kp kd)
    replace HM3 := Lib.hid (HM3.out.kp kd)
    replace HZ3 := Lib.hid (HZ3.out.kp kd)
    replace HK3 := Lib.hid (HK3.out.trans (kd.mono HK3.out.size))
    clear kd
    generalize w3.drew = wx1 at *
    have hS : wx1.cell? ⟨b, off + i * 8, none⟩ = some (.int .i64 id) ∧ wx1.cell? ⟨b, off + i * 8 + 1, none⟩ = some (.int .i64 grp) ∧ wx1.cell? ⟨b, off + i * 8 + 2, none⟩ = some (.int .i64 wt) ∧ wx1.cell? ⟨b, off + i * 8 + 3, none⟩ = some (.int .i64 (tp : Int)) ∧ wx1.cell? ⟨b, off + i * 8 + 4, none⟩ = some (.int .u64 mask) ∧ wx1.cell? ⟨b, off + i * 8 + 5, none⟩ = some (.bool rdy) ∧ wx1.cell? ⟨b, off + i * 8 + 6, none⟩ = some (.int .u64 v) ∧ wx1.cell? ⟨b, off + i * 8 + 7, none⟩ = some (.int .u32 r') ∧ wx1.cell? ⟨b0, 0, none⟩ = some (.int .i64 (lb : Int)) ∧ wx1.cell? ⟨b0, 1, none⟩ = some (.slice (some ⟨b, off, none⟩) la ca) ∧ wx1.cell? ⟨b0, 2, none⟩ = some (.slice B lb cb) ∧ wx1.cell? ⟨bM, 0, none⟩ = some (.int .i64 k) ∧ wx1.cell? ⟨bM, 1, none⟩ = some (.int .i64 (tp : Int)) ∧ wx1.cell? ⟨bM, 2, none⟩ = some (.int .i64 (q : Int)) := ⟨HT.out.c0, HT.out.c1, HT.out.c2, HT.out.c3, HT.out.c4, HT.out.c5, HT.out.c6, HT.out.c7, HX3.out.c0, HX3.out.c1, HX3.out.c2, HY3.out.c0, HY3.out.c1, HY3.out.c2⟩
    refine anyN_takeR 0 (v := ?_) rfl (by kernel_rfl) (by kernel_rfl) (by kernel_rfl) (by kernel_rfl) (fun _ _ _ h => h) (Or.inl ⟨by rfl, ?_⟩) hS ?_
    rotate_left
    · intro w hSw
      obtain ⟨_, _, _, _, _, _, _, _, _, _, _, _, _, _⟩ := hSw
      go_simp
      try with_reducible rfl
    simp only [Act.put, List.setIfInBounds_toArray, List.set_cons_zero, List.set_cons_succ]
    refine anyN_takeR 1 (v := ?_) rfl (by kernel_rfl) (by kernel_rfl) (by kernel_rfl) (by kernel_rfl) (fun _ _ _ h => h) (Or.inl ⟨by rfl, ?_⟩) hS ?_
    rotate_left
    · intro w hSw
      obtain ⟨_, _, _, _, _, _, _, _, _, _, _, _, _, _⟩ := hSw
      go_simp
      try with_reducible rfl
    simp only [Act.put, List.setIfInBounds_toArray, List.set_cons_zero, List.set_cons_succ]
    refine anyN_takeR 2 (v := ?_) rfl (by kernel_rfl) (by kernel_rfl) (by kernel_rfl) (by kernel_rfl) (fun _ _ _ h => h) (Or.inl ⟨by rfl, ?_⟩) hS ?_
    rotate_left
    · intro w hSw
      obtain ⟨_, _, _, _, _, _, _, _, _, _, _, _, _, _⟩ := hSw
      go_simp
      try with_reducible rfl
    simp only [Act.put, List.setIfInBounds_toArray, List.set_cons_zero, List.set_cons_succ]
    refine anyN_takeR 3 (v := ?_) rfl (by kernel_rfl) (by kernel_rfl) (by kernel_rfl) (by kernel_rfl) (fun _ _ _ h => h) (Or.inl ⟨by rfl, ?_⟩) hS ?_
    rotate_left
    · intro w hSw
      obtain ⟨_, _, _, _, _, _, _, _, _, _, _, _, _, _⟩ := hSw
      go_simp
      try with_reducible rfl
    simp only [Act.put, List.setIfInBounds_toArray, List.set_cons_zero, List.set_cons_succ]
    refine anyN_takeR 4 (v := ?_) rfl (by kernel_rfl) (by kernel_rfl) (by kernel_rfl) (by kernel_rfl) (fun _ _ _ h => h) (Or.inl ⟨by rfl, ?_⟩) hS ?_
    rotate_left
    · intro w hSw
      obtain ⟨_, _, _, _, _, _, _, _, _, _, _, _, _, _⟩ := hSw
      go_simp
      try with_reducible rfl
    simp only [Act.put, List.setIfInBounds_toArray, List.set_cons_zero, List.set_cons_succ]
    refine anyN_takeR 5 (v := ?_) rfl (by kernel_rfl) (by kernel_rfl) (by kernel_rfl) (by kernel_rfl) (fun _ _ _ h => h) (Or.inl ⟨by rfl, ?_⟩) hS ?_
    rotate_left
    · intro w hSw
      obtain ⟨_, _, _, _, _, _, _, _, _, _, _, _, _, _⟩ := hSw
      go_simp
      try with_reducible rfl
    simp only [Act.put, List.setIfInBounds_toArray, List.set_cons_zero, List.set_cons_succ]
    refine anyN_takeR 6 (v := ?_) rfl (by kernel_rfl) (by kernel_rfl) (by kernel_rfl) (by kernel_rfl) (fun _ _ _ h => h) (Or.inl ⟨by rfl, ?_⟩) hS ?_
    rotate_left
    · intro w hSw
      obtain ⟨_, _, _, _, _, _, _, _, _, _, _, _, _, _⟩ := hSw
      go_simp
      try with_reducible rfl
    simp only [Act.put, List.setIfInBounds_toArray, List.set_cons_zero, List.set_cons_succ]
    refine anyN_takeR 7 (v := ?_) rfl (by kernel_rfl) (by kernel_rfl) (by kernel_rfl) (by kernel_rfl) (fun _ _ _ h => h) (Or.inl ⟨by rfl, ?_⟩) hS ?_
    rotate_left
    · intro w hSw
      obtain ⟨_, _, _, _, _, _, _, _, _, _, _, _, _, _⟩ := hSw
      go_simp
      try with_reducible rfl
    simp only [Act.put, List.setIfInBounds_toArray, List.set_cons_zero, List.set_cons_succ]
    refine anyN_takeR 8 (v := ?_) rfl (by kernel_rfl) (by kernel_rfl) (by kernel_rfl) (by kernel_rfl) (fun _ _ _ h => h) (Or.inl ⟨by rfl, ?_⟩) hS ?_
    rotate_left
    · intro w hSw
      obtain ⟨_, _, _, _, _, _, _, _, _, _, _, _, _, _⟩ := hSw
      go_simp
      try with_reducible rfl
    simp only [Act.put, List.setIfInBounds_toArray, List.set_cons_zero, List.set_cons_succ]
    refine anyN_takeR 9 (v := ?_) rfl (by kernel_rfl) (by kernel_rfl) (by kernel_rfl) (by kernel_rfl) (fun _ _ _ h => h) (Or.inl ⟨by rfl, ?_⟩) hS ?_
    rotate_left
    · intro w hSw
      obtain ⟨_, _, _, _, _, _, _, _, _, _, _, _, _, _⟩ := hSw
      go_simp
      try with_reducible rfl
    simp only [Act.put, List.setIfInBounds_toArray, List.set_cons_zero, List.set_cons_succ]
    refine anyN_takeR 10 (v := ?_) rfl (by kernel_rfl) (by kernel_rfl) (by kernel_rfl) (by kernel_rfl) (fun _ _ _ h => h) (Or.inl ⟨by rfl, ?_⟩) hS ?_
    rotate_left
    · intro w hSw
      obtain ⟨_, _, _, _, _, _, _, _, _, _, _, _, _, _⟩ := hSw
      go_simp
      try with_reducible rfl
    simp only [Act.put, List.setIfInBounds_toArray, List.set_cons_zero, List.set_cons_succ]
    refine anyN_takeR 11 (v := ?_) rfl (by kernel_rfl) (by kernel_rfl) (by kernel_rfl) (by kernel_rfl) (fun _ _ _ h => h) (Or.inl ⟨by rfl, ?_⟩) hS ?_
    rotate_left
    · intro w hSw
      obtain ⟨_, _, _, _, _, _, _, _, _, _, _, _, _, _⟩ := hSw
      go_simp
      try with_reducible rfl
    simp only [Act.put, List.setIfInBounds_toArray, List.set_cons_zero, List.set_cons_succ]
    refine anyN_takeR 12 (v := ?_) rfl (by kernel_rfl) (by kernel_rfl) (by kernel_rfl) (by kernel_rfl) (fun _ _ _ h => h) (Or.inl ⟨by rfl, ?_⟩) hS ?_
    rotate_left
    · intro w hSw
      obtain ⟨_, _, _, _, _, _, _, _, _, _, _, _, _, _⟩ := hSw
      go_simp
      try with_reducible rfl
    simp only [Act.put, List.setIfInBounds_toArray, List.set_cons_zero, List.set_cons_succ]
    refine anyN_takeR 13 (v := ?_) rfl (by kernel_rfl) (by kernel_rfl) (by kernel_rfl) (by kernel_rfl) (fun _ _ _ h => h) (Or.inl ⟨by rfl, ?_⟩) hS ?_
    rotate_left
    · intro w hSw
      obtain ⟨_, _, _, _, _, _, _, _, _, _, _, _, _, _⟩ := hSw
      go_simp
      try with_reducible rfl
    simp only [Act.put, List.setIfInBounds_toArray, List.set_cons_zero, List.set_cons_succ]
    refine anyN_takeR 14 (v := ?_) rfl (by kernel_rfl) (by kernel_rfl) (by kernel_rfl) (by kernel_rfl) (fun _ _ _ h => h) (Or.inl ⟨by rfl, ?_⟩) hS ?_
    rotate_left
    · intro w hSw
      obtain ⟨_, _, _, _, _, _, _, _, _, _, _, _, _, _⟩ := hSw
      go_simp
      try with_reducible rfl
    simp only [Act.put, List.setIfInBounds_toArray, List.set_cons_zero, List.set_cons_succ]
    refine anyN_takeR 15 (v := ?_) rfl (by kernel_rfl) (by kernel_rfl) (by kernel_rfl) (by kernel_rfl) (fun _ _ _ h => h) (Or.inl ⟨by rfl, ?_⟩) hS ?_
    rotate_left
    · intro w hSw
      obtain ⟨_, _, _, _, _, _, _, _, _, _, _, _, _, _⟩ := hSw
      go_simp
      try with_reducible rfl
    simp only [Act.put, List.setIfInBounds_toArray, List.set_cons_zero, List.set_cons_succ]
    refine anyN_takeR 16 (v := ?_) rfl (by kernel_rfl) (by kernel_rfl) (by kernel_rfl) (by kernel_rfl) (fun _ _ _ h => h) (Or.inl ⟨by rfl, ?_⟩) hS ?_
    rotate_left
    · intro w hSw
      obtain ⟨_, _, _, _, _, _, _, _, _, _, _, _, _, _⟩ := hSw
      go_simp
      try with_reducible rfl
    simp only [Act.put, List.setIfInBounds_toArray, List.set_cons_zero, List.set_cons_succ]
    refine anyN_takeR 17 (v := ?_) rfl (by kernel_rfl) (by kernel_rfl) (by kernel_rfl) (by kernel_rfl) (fun _ _ _ h => h) (Or.inl ⟨by rfl, ?_⟩) hS ?_
    rotate_left
    · intro w hSw
      obtain ⟨_, _, _, _, _, _, _, _, _, _, _, _, _, _⟩ := hSw
      go_simp
      try with_reducible rfl
    simp only [Act.put, List.setIfInBounds_toArray, List.set_cons_zero, List.set_cons_succ]
    refine anyN_takeR 18 (v := ?_) rfl (by kernel_rfl) (by kernel_rfl) (by kernel_rfl) (by kernel_rfl) (fun _ _ _ h => h) (Or.inl ⟨by rfl, ?_⟩) hS ?_
    rotate_left
    · intro w hSw
      obtain ⟨_, _, _, _, _, _, _, _, _, _, _, _, _, _⟩ := hSw
      go_simp
      try with_reducible rfl
    simp only [Act.put, List.setIfInBounds_toArray, List.set_cons_zero, List.set_cons_succ]
    refine anyN_takeR 19 (v := ?_) rfl (by kernel_rfl) (by kernel_rfl) (by kernel_rfl) (by kernel_rfl) (fun _ _ _ h => h) (Or.inl ⟨by rfl, ?_⟩) hS ?_
    rotate_left
    · intro w hSw
      obtain ⟨_, _, _, _, _, _, _, _, _, _, _, _, _, _⟩ := hSw
      go_simp
      try with_reducible rfl
    simp only [Act.put, List.setIfInBounds_toArray, List.set_cons_zero, List.set_cons_succ]
    refine anyN_takeR 20 (v := ?_) rfl (by kernel_rfl) (by kernel_rfl) (by kernel_rfl) (by kernel_rfl) (fun _ _ _ h => h) (Or.inl ⟨by rfl, ?_⟩) hS ?_
    rotate_left
    · intro w hSw
      obtain ⟨_, _, _, _, _, _, _, _, _, _, _, _, _, _⟩ := hSw
      go_simp
      try with_reducible rfl
    simp only [Act.put, List.setIfInBounds_toArray, List.set_cons_zero, List.set_cons_succ]
    refine anyN_takeR 21 (v := ?_) rfl (by kernel_rfl) (by kernel_rfl) (by kernel_rfl) (by kernel_rfl) (fun _ _ _ h => h) (Or.inl ⟨by rfl, ?_⟩) hS ?_
    rotate_left
    · intro w hSw
      obtain ⟨_, _, _, _, _, _, _, _, _, _, _, _, _, _⟩ := hSw
      go_simp
      try with_reducible rfl
    simp only [Act.put, List.setIfInBounds_toArray, List.set_cons_zero, List.set_cons_succ]
    refine anyN_takeR 22 (v := ?_) rfl (by kernel_rfl) (by kernel_rfl) (by kernel_rfl) (by kernel_rfl) (fun _ _ _ h => h) (Or.inl ⟨by rfl, ?_⟩) hS ?_
    rotate_left
    · intro w hSw
      obtain ⟨_, _, _, _, _, _, _, _, _, _, _, _, _, _⟩ := hSw
      go_simp
      try with_reducible rfl
    simp only [Act.put, List.setIfInBounds_toArray, List.set_cons_zero, List.set_cons_succ]
    refine anyN_takeR 23 (v := ?_) rfl (by kernel_rfl) (by kernel_rfl) (by kernel_rfl) (by kernel_rfl) (fun _ _ _ h => h) (Or.inl ⟨by rfl, ?_⟩) hS ?_
    rotate_left
    · intro w hSw
      obtain ⟨_, _, _, _, _, _, _, _, _, _, _, _, _, _⟩ := hSw
      go_simp
      try with_reducible rfl
    simp only [Act.put, List.setIfInBounds_toArray, List.set_cons_zero, List.set_cons_succ]
    refine anyN_takeR 24 (v := ?_) rfl (by kernel_rfl) (by kernel_rfl) (by kernel_rfl) (by kernel_rfl) (fun _ _ _ h => h) (Or.inl ⟨by rfl, ?_⟩) hS ?_
    rotate_left
    · intro w hSw
      obtain ⟨_, _, _, _, _, _, _, _, _, _, _, _, _, _⟩ := hSw
      go_simp
      try with_reducible rfl
    simp only [Act.put, List.setIfInBounds_toArray, List.set_cons_zero, List.set_cons_succ]
    refine anyN_takeR 25 (v := ?_) rfl (by kernel_rfl) (by kernel_rfl) (by kernel_rfl) (by kernel_rfl) (fun _ _ _ h => h) (Or.inl ⟨by rfl, ?_⟩) hS ?_
    rotate_left
    · intro w hSw
      obtain ⟨_, _, _, _, _, _, _, _, _, _, _, _, _, _⟩ := hSw
      go_simp
      try with_reducible rfl
    simp only [Act.put, List.setIfInBounds_toArray, List.set_cons_zero, List.set_cons_succ]
    refine anyN_takeR 26 (v := ?_) rfl (by kernel_rfl) (by kernel_rfl) (by kernel_rfl) (by kernel_rfl) (fun _ _ _ h => h) (Or.inl ⟨by rfl, ?_⟩) hS ?_
    rotate_left
    · intro w hSw
      obtain ⟨_, _, _, _, _, _, _, _, _, _, _, _, _, _⟩ := hSw
      go_simp
      try with_reducible rfl
    simp only [Act.put, List.setIfInBounds_toArray, List.set_cons_zero, List.set_cons_succ]
    refine anyN_takeR 27 (v := ?_) rfl (by kernel_rfl) (by kernel_rfl) (by kernel_rfl) (by kernel_rfl) (fun _ _ _ h => h) (Or.inl ⟨by rfl, ?_⟩) hS ?_
    rotate_left
    · intro w hSw
      obtain ⟨_, _, _, _, _, _, _, _, _, _, _, _, _, _⟩ := hSw
      go_simp
      try with_reducible rfl
    simp only [Act.put, List.setIfInBounds_toArray, List.set_cons_zero, List.set_cons_succ]
    refine anyN_takeR 28 (v := ?_) rfl (by kernel_rfl) (by kernel_rfl) (by kernel_rfl) (by kernel_rfl) (fun _ _ _ h => h) (Or.inl ⟨by rfl, ?_⟩) hS ?_
    rotate_left
    · intro w hSw
      obtain ⟨_, _, _, _, _, _, _, _, _, _, _, _, _, _⟩ := hSw
      go_simp
      try with_reducible rfl
    simp only [Act.put, List.setIfInBounds_toArray, List.set_cons_zero, List.set_cons_succ]
    refine anyN_takeR 29 (v := ?_) rfl (by kernel_rfl) (by kernel_rfl) (by kernel_rfl) (by kernel_rfl) (fun _ _ _ h => h) (Or.inl ⟨by rfl, ?_⟩) hS ?_
    rotate_left
    · intro w hSw
      obtain ⟨_, _, _, _, _, _, _, _, _, _, _, _, _, _⟩ := hSw
      go_simp
      try with_reducible rfl
    simp only [Act.put, List.setIfInBounds_toArray, List.set_cons_zero, List.set_cons_succ]
    refine anyN_takeR 30 (v := ?_) rfl (by kernel_rfl) (by kernel_rfl) (by kernel_rfl) (by kernel_rfl) (fun _ _ _ h => h) (Or.inl ⟨by rfl, ?_⟩) hS ?_
    rotate_left
    · intro w hSw
      obtain ⟨_, _, _, _, _, _, _, _, _, _, _, _, _, _⟩ := hSw
      go_simp
      try with_reducible rfl
    simp only [Act.put, List.setIfInBounds_toArray, List.set_cons_zero, List.set_cons_succ]
    refine anyN_takeR 31 (v := ?_) rfl (by kernel_rfl) (by kernel_rfl) (by kernel_rfl) (by kernel_rfl) (fun _ _ _ h => h) (Or.inl ⟨by rfl, ?_⟩) hS ?_
    rotate_left
    · intro w hSw
      obtain ⟨_, _, _, _, _, _, _, _, _, _, _, _, _, _⟩ := hSw
      go_simp
      try with_reducible rfl
    simp only [Act.put, List.setIfInBounds_toArray, List.set_cons_zero, List.set_cons_succ]
    refine anyN_takeR 32 (v := ?_) rfl (by kernel_rfl) (by kernel_rfl) (by kernel_rfl) (by kernel_rfl) (fun _ _ _ h => h) (Or.inl ⟨by rfl, ?_⟩) hS ?_
    rotate_left
    · intro w hSw
      obtain ⟨_, _, _, _, _, _, _, _, _, _, _, _, _, _⟩ := hSw
      go_simp
      try with_reducible rfl
    simp only [Act.put, List.setIfInBounds_toArray, List.set_cons_zero, List.set_cons_succ]
    refine anyN_takeR 33 (v := ?_) rfl (by kernel_rfl) (by kernel_rfl) (by kernel_rfl) (by kernel_rfl) (fun _ _ _ h => h) (Or.inl ⟨by rfl, ?_⟩) hS ?_
    rotate_left
    · intro w hSw
      obtain ⟨_, _, _, _, _, _, _, _, _, _, _, _, _, _⟩ := hSw
      go_simp
      try with_reducible rfl
    simp only [Act.put, List.setIfInBounds_toArray, List.set_cons_zero, List.set_cons_succ]
    refine anyN_takeR 34 (v := ?_) rfl (by kernel_rfl) (by kernel_rfl) (by kernel_rfl) (by kernel_rfl) (fun _ _ _ h => h) (Or.inl ⟨by rfl, ?_⟩) hS ?_
    rotate_left
    · intro w hSw
      obtain ⟨_, _, _, _, _, _, _, _, _, _, _, _, _, _⟩ := hSw
      go_simp
      try with_reducible rfl
    simp only [Act.put, List.setIfInBounds_toArray, List.set_cons_zero, List.set_cons_succ]
    refine anyN_takeR 35 (v := ?_) rfl (by kernel_rfl) (by kernel_rfl) (by kernel_rfl) (by kernel_rfl) (fun _ _ _ h => h) (Or.inl ⟨by rfl, ?_⟩) hS ?_
    rotate_left
    · intro w hSw
      obtain ⟨_, _, _, _, _, _, _, _, _, _, _, _, _, _⟩ := hSw
      go_simp
      try with_reducible rfl
    simp only [Act.put, List.setIfInBounds_toArray, List.set_cons_zero, List.set_cons_succ]
    refine anyN_takeR 36 (v := ?_) rfl (by kernel_rfl) (by kernel_rfl) (by kernel_rfl) (by kernel_rfl) (fun _ _ _ h => h) (Or.inl ⟨by rfl, ?_⟩) hS ?_
    rotate_left
    · intro w hSw
      obtain ⟨_, _, _, _, _, _, _, _, _, _, _, _, _, _⟩ := hSw
      go_simp
      try with_reducible rfl
    simp only [Act.put, List.setIfInBounds_toArray, List.set_cons_zero, List.set_cons_succ]
    refine anyN_takeR 37 (v := ?_) rfl (by kernel_rfl) (by kernel_rfl) (by kernel_rfl) (by kernel_rfl) (fun _ _ _ h => h) (Or.inl ⟨by rfl, ?_⟩) hS ?_
    rotate_left
    · intro w hSw
      obtain ⟨_, _, _, _, _, _, _, _, _, _, _, _, _, _⟩ := hSw
      go_simp
      try with_reducible rfl
    simp only [Act.put, List.setIfInBounds_toArray, List.set_cons_zero, List.set_cons_succ]
    refine anyN_takeR 38 (v := ?_) rfl (by kernel_rfl) (by kernel_rfl) (by kernel_rfl) (by kernel_rfl) (fun _ _ _ h => h) (Or.inl ⟨by rfl, ?_⟩) hS ?_
    rotate_left
    · intro w hSw
      obtain ⟨_, _, _, _, _, _, _, _, _, _, _, _, _, _⟩ := hSw
      go_simp
      try with_reducible rfl
    simp only [Act.put, List.setIfInBounds_toArray, List.set_cons_zero, List.set_cons_succ]
    refine anyN_oneG 39 rfl (by kernel_rfl) (by rfl) ?_
    go_simp
    (with_reducible refine (HFR _ HK3.out).out.mono ?_)
    clear hS
    rintro e wx2 ⟨rfl, hk⟩
    replace HT := Lib.hid (HT.out.kp hk)
    replace HX3 := Lib.hid (HX3.out.kp hk)
    replace HXZ3 := Lib.hid (HXZ3.out.kp hk)
    replace HY3 := Lib.hid (HY3.out.kp hk)
    replace HM3 := Lib.hid (HM3.out.kp hk)
    replace HZ3 := Lib.hid (HZ3.out.kp hk)
    replace HK3 := Lib.hid (HK3.out.trans (hk.mono HK3.out.size))
    clear hk
    dsimp only
    refine and_keep ⟨HT.out.c0, HT.out.c1, HT.out.c2, HT.out.c3, HT.out.c4, HT.out.c5, HT.out.c6, HT.out.c7, HX3.out.c0, HX3.out.c1, HX3.out.c2, HY3.out.c0, HY3.out.c1, HY3.out.c2⟩ (fun hS => ?_)
    refine anyN_takeR 40 (v := ?_) rfl (by kernel_rfl) (by kernel_rfl) (by kernel_rfl) (by kernel_rfl) (fun _ _ _ h => h) (Or.inl ⟨by rfl, ?_⟩) hS ?_
    rotate_left
    · intro w hSw
      obtain ⟨_, _, _, _, _, _, _, _, _, _, _, _, _, _⟩ := hSw
      go_simp
      try with_reducible rfl
    simp only [Act.put, List.setIfInBounds_toArray, List.set_cons_zero, List.set_cons_succ]
    refine anyN_takeR 41 (v := ?_) rfl (by kernel_rfl) (by kernel_rfl) (by kernel_rfl) (by kernel_rfl) (fun _ _ _ h => h) (Or.inl ⟨by rfl, ?_⟩) hS ?_
    rotate_left
    · intro w hSw
      obtain ⟨_, _, _, _, _, _, _, _, _, _, _, _, _, _⟩ := hSw
      go_simp
      try with_reducible rfl
    simp only [Act.put, List.setIfInBounds_toArray, List.set_cons_zero, List.set_cons_succ]
    refine anyN_takeR 42 (v := ?_) rfl (by kernel_rfl) (by kernel_rfl) (by kernel_rfl) (by kernel_rfl) (fun _ _ _ h => h) (Or.inl ⟨by rfl, ?_⟩) hS ?_
    rotate_left
    · intro w hSw
      obtain ⟨_, _, _, _, _, _, _, _, _, _, _, _, _, _⟩ := hSw
      go_simp
      try with_reducible rfl
    simp only [Act.put, List.setIfInBounds_toArray, List.set_cons_zero, List.set_cons_succ]
    refine anyN_takeR 43 (v := undef) rfl (by kernel_rfl) (by kernel_rfl) (by kernel_rfl) (by kernel_rfl) (fun _ _ _ h => h) (Or.inr ⟨by rfl, rfl⟩) hS ?_
    simp only [Act.put, List.setIfInBounds_toArray, List.set_cons_zero, List.set_cons_succ]
    refine anyN_takeR 44 (v := undef) rfl (by kernel_rfl) (by kernel_rfl) (by kernel_rfl) (by kernel_rfl) (fun _ _ _ h => h) (Or.inr ⟨by rfl, rfl⟩) hS ?_
    simp only [Act.put, List.setIfInBounds_toArray, List.set_cons_zero, List.set_cons_succ]
    refine anyN_takeR 45 (v := undef) rfl (by kernel_rfl) (by kernel_rfl) (by kernel_rfl) (by kernel_rfl) (fun _ _ _ h => h) (Or.inr ⟨by rfl, rfl⟩) hS ?_
    simp only [Act.put, List.setIfInBounds_toArray, List.set_cons_zero, List.set_cons_succ]
    refine anyN_takeR 46 (v := undef) rfl (by kernel_rfl) (by kernel_rfl) (by kernel_rfl) (by kernel_rfl) (fun _ _ _ h => h) (Or.inr ⟨by rfl, rfl⟩) hS ?_
    simp only [Act.put, List.setIfInBounds_toArray, List.set_cons_zero, List.set_cons_succ]
    refine anyN_takeR 47 (v := undef) rfl (by kernel_rfl) (by kernel_rfl) (by kernel_rfl) (by kernel_rfl) (fun _ _ _ h => h) (Or.inr ⟨by rfl, rfl⟩) hS ?_
    simp only [Act.put, List.setIfInBounds_toArray, List.set_cons_zero, List.set_cons_succ]
    refine anyN_takeR 48 (v := undef) rfl (by kernel_rfl) (by kernel_rfl) (by kernel_rfl) (by kernel_rfl) (fun _ _ _ h => h) (Or.inr ⟨by rfl, rfl⟩) hS ?_
    simp only [Act.put, List.setIfInBounds_toArray, List.set_cons_zero, List.set_cons_succ]
    refine anyN_takeR 49 (v := undef) rfl (by kernel_rfl) (by kernel_rfl) (by kernel_rfl) (by kernel_rfl) (fun _ _ _ h => h) (Or.inr ⟨by rfl, rfl⟩) hS ?_
    simp only [Act.put, List.setIfInBounds_toArray, List.set_cons_zero, List.set_cons_succ]
    refine anyN_takeR 50 (v := undef) rfl (by kernel_rfl) (by kernel_rfl) (by kernel_rfl) (by kernel_rfl) (fun _ _ _ h => h) (Or.inr ⟨by rfl, rfl⟩) hS ?_
    simp only [Act.put, List.setIfInBounds_toArray, List.set_cons_zero, List.set_cons_succ]
    refine anyN_takeR 51 (v := undef) rfl (by kernel_rfl) (by kernel_rfl) (by kernel_rfl) (by kernel_rfl) (fun _ _ _ h => h) (Or.inr ⟨by rfl, rfl⟩) hS ?_
    simp only [Act.put, List.setIfInBounds_toArray, List.set_cons_zero, List.set_cons_succ]
    refine anyN_takeR 52 (v := ?_) rfl (by kernel_rfl) (by kernel_rfl) (by kernel_rfl) (by kernel_rfl) (fun _ _ _ h => h) (Or.inl ⟨by rfl, ?_⟩) hS ?_
    rotate_left
    · intro w hSw
      obtain ⟨_, _, _, _, _, _, _, _, _, _, _, _, _, _⟩ := hSw
      go_simp
      try with_reducible rfl
    simp only [Act.put, List.setIfInBounds_toArray, List.set_cons_zero, List.set_cons_succ]
    refine anyN_done (by kernel_rfl) ?_
    refine NoPanic.normal ?_
    clear hS
    have P := And.intro (HM3.out.set (.int .i64 0) (.slice none 0 0) (.slice none 0 0)) (((HK3.out.setCell (p := ⟨bR, 0, none⟩) WR (.int .i64 0)).setCell (p := ⟨bR, 1, none⟩) WR (.slice none 0 0)).setCell (p := ⟨bR, 2, none⟩) WR (.slice none 0 0))
    obtain ⟨m0, m1, m2, ml⟩ := HM3.out
    have mf := HZ3.out.2
    go_wp2_with fail
    clear m0 m1 m2 ml mf
    generalize World.setCell _ _ _ = w9 at *
    obtain ⟨⟨m0, m1, m2, ml⟩, K⟩ := P
    refine bodyPost_ret (v := .tuple #[.agg #[.int .i64 0, .slice none 0 0, .slice none 0 0], .int .i64 271]) (by simp [results, Try.results46, go_sem, m0, m1, m2]) rfl ?_
    rw [HF.out]
    exact ⟨_, rfl, refSc_zero K⟩
  rw [hfr] at HFR
  cases hb : hasB mask (q : Int)
  · rw [hb] at HMY
    have HF := Lib.hid (NOT.out (fun h => by rw [hb] at h; cases h.2.2.2.2.2))
    refine wp_region_noPanic ?_
    refine wp_region_anyN (fun w' => w'.cell? ⟨b, off + i * 8, none⟩ = some (.int .i64 id) ∧ w'.cell? ⟨b, off + i * 8 + 1, none⟩ = some (.int .i64 grp) ∧ w'.cell? ⟨b, off + i * 8 + 2, none⟩ = some (.int .i64 wt) ∧ w'.cell? ⟨b, off + i * 8 + 3, none⟩ = some (.int .i64 (tp : Int)) ∧ w'.cell? ⟨b, off + i * 8 + 4, none⟩ = some (.int .u64 mask) ∧ w'.cell? ⟨b, off + i * 8 + 5, none⟩ = some (.bool rdy) ∧ w'.cell? ⟨b, off + i * 8 + 6, none⟩ = some (.int .u64 v) ∧ w'.cell? ⟨b, off + i * 8 + 7, none⟩ = some (.int .u32 r') ∧ w'.cell? ⟨b0, 0, none⟩ = some (.int .i64 (lb : Int)) ∧ w'.cell? ⟨b0, 1, none⟩ = some (.slice (some ⟨b, off, none⟩) la ca) ∧ w'.cell? ⟨b0, 2, none⟩ = some (.slice B lb cb) ∧ w'.cell? ⟨bM, 0, none⟩ = some (.int .i64 k) ∧ w'.cell? ⟨bM, 1, none⟩ = some (.int .i64 (tp : Int)) ∧ w'.cell? ⟨bM, 2, none⟩ = some (.int .i64 (q : Int))) 53 (by kernel_rfl) ?_
    have kd : Kp w3.heap.size w3 w3.drew := (Kp.refl _ _).drewN 1
    replace HT := Lib.hid (HT.out.kp kd)
    replace HX3 := Lib.hid (HX3.out.kp kd)
    replace HXZ3 := Lib.hid (HXZ3.out.kp kd)
    replace HY3 := Lib.hid (HY3.out.kp kd)
    replace HM3 := Lib.hid (HM3.out.kp kd)
    replace HZ3 := Lib.hid (HZ3.out.kp kd)
    replace HK3 := Lib.hid (HK3.out.trans (kd.mono HK3.out.size))
    clear kd
    generalize w3.drew = wy1 at *
    have hS : wy1.cell? ⟨b, off + i * 8, none⟩ = some (.int .i64 id) ∧ wy1.cell? ⟨b, off + i * 8 + 1, none⟩ = some (.int .i64 grp) ∧ wy1.cell? ⟨b, off + i * 8 + 2, none⟩ = some (.int .i64 wt) ∧ wy1.cell? ⟨b, off + i * 8 + 3, none⟩ = some (.int .i64 (tp : Int)) ∧ wy1.cell? ⟨b, off + i * 8 + 4, none⟩ = some (.int .u64 mask) ∧ wy1.cell? ⟨b, off + i * 8 + 5, none⟩ = some (.bool rdy) ∧ wy1.cell? ⟨b, off + i * 8 + 6, none⟩ = some (.int .u64 v) ∧ wy1.cell? ⟨b, off + i * 8 + 7, none⟩ = some (.int .u32 r') ∧ wy1.cell? ⟨b0, 0, none⟩ = some (.int .i64 (lb : Int)) ∧ wy1.cell? ⟨b0, 1, none⟩ = some (.slice (some ⟨b, off, none⟩) la ca) ∧ wy1.cell? ⟨b0, 2, none⟩ = some (.slice B lb cb) ∧ wy1.cell? ⟨bM, 0, none⟩ = some (.int .i64 k) ∧ wy1.cell? ⟨bM, 1, none⟩ = some (.int .i64 (tp : Int)) ∧ wy1.cell? ⟨bM, 2, none⟩ = some (.int .i64 (q : Int)) := ⟨HT.out.c0, HT.out.c1, HT.out.c2, HT.out.c3, HT.out.c4, HT.out.c5, HT.out.c6, HT.out.c7, HX3.out.c0, HX3.out.c1, HX3.out.c2, HY3.out.c0, HY3.out.c1, HY3.out.c2⟩
    refine anyN_takeR 0 (v := ?_) rfl (by kernel_rfl) (by kernel_rfl) (by kernel_rfl) (by kernel_rfl) (fun _ _ _ h => h) (Or.inl ⟨by rfl, ?_⟩) hS ?_
    rotate_left
    · intro w hSw
      obtain ⟨_, _, _, _, _, _, _, _, _, _, _, _, _, _⟩ := hSw
      go_simp
      try with_reducible rfl
    simp only [Act.put, List.setIfInBounds_toArray, List.set_cons_zero, List.set_cons_succ]
    refine anyN_takeR 1 (v := ?_) rfl (by kernel_rfl) (by kernel_rfl) (by kernel_rfl) (by kernel_rfl) (fun _ _ _ h => h) (Or.inl ⟨by rfl, ?_⟩) hS ?_
    rotate_left
    · intro w hSw
      obtain ⟨_, _, _, _, _, _, _, _, _, _, _, _, _, _⟩ := hSw
      go_simp
      try with_reducible rfl
    simp only [Act.put, List.setIfInBounds_toArray, List.set_cons_zero, List.set_cons_succ]
    refine anyN_takeR 2 (v := ?_) rfl (by kernel_rfl) (by kernel_rfl) (by kernel_rfl) (by kernel_rfl) (fun _ _ _ h => h) (Or.inl ⟨by rfl, ?_⟩) hS ?_
    rotate_left
    · intro w hSw
      obtain ⟨_, _, _, _, _, _, _, _, _, _, _, _, _, _⟩ := hSw
      go_simp
      try with_reducible rfl
    simp only [Act.put, List.setIfInBounds_toArray, List.set_cons_zero, List.set_cons_succ]
    refine anyN_takeR 3 (v := ?_) rfl (by kernel_rfl) (by kernel_rfl) (by kernel_rfl) (by kernel_rfl) (fun _ _ _ h => h) (Or.inl ⟨by rfl, ?_⟩) hS ?_
    rotate_left
    · intro w hSw
      obtain ⟨_, _, _, _, _, _, _, _, _, _, _, _, _, _⟩ := hSw
      go_simp
      try with_reducible rfl
    simp only [Act.put, List.setIfInBounds_toArray, List.set_cons_zero, List.set_cons_succ]
    refine anyN_takeR 4 (v := ?_) rfl (by kernel_rfl) (by kernel_rfl) (by kernel_rfl) (by kernel_rfl) (fun _ _ _ h => h) (Or.inl ⟨by rfl, ?_⟩) hS ?_
    rotate_left
    · intro w hSw
      obtain ⟨_, _, _, _, _, _, _, _, _, _, _, _, _, _⟩ := hSw
      go_simp
      try with_reducible rfl
    simp only [Act.put, List.setIfInBounds_toArray, List.set_cons_zero, List.set_cons_succ]
    refine anyN_takeR 5 (v := ?_) rfl (by kernel_rfl) (by kernel_rfl) (by kernel_rfl) (by kernel_rfl) (fun _ _ _ h => h) (Or.inl ⟨by rfl, ?_⟩) hS ?_
    rotate_left
    · intro w hSw
      obtain ⟨_, _, _, _, _, _, _, _, _, _, _, _, _, _⟩ := hSw
      go_simp
      try with_reducible rfl
    simp only [Act.put, List.setIfInBounds_toArray, List.set_cons_zero, List.set_cons_succ]
    refine anyN_takeR 6 (v := ?_) rfl (by kernel_rfl) (by kernel_rfl) (by kernel_rfl) (by kernel_rfl) (fun _ _ _ h => h) (Or.inl ⟨by rfl, ?_⟩) hS ?_
    rotate_left
    · intro w hSw
      obtain ⟨_, _, _, _, _, _, _, _, _, _, _, _, _, _⟩ := hSw
      go_simp
      try with_reducible rfl
    simp only [Act.put, List.setIfInBounds_toArray, List.set_cons_zero, List.set_cons_succ]
    refine anyN_takeR 7 (v := ?_) rfl (by kernel_rfl) (by kernel_rfl) (by kernel_rfl) (by kernel_rfl) (fun _ _ _ h => h) (Or.inl ⟨by rfl, ?_⟩) hS ?_
    rotate_left
    · intro w hSw
      obtain ⟨_, _, _, _, _, _, _, _, _, _, _, _, _, _⟩ := hSw
      go_simp
      try with_reducible rfl
    simp only [Act.put, List.setIfInBounds_toArray, List.set_cons_zero, List.set_cons_succ]
    refine anyN_takeR 8 (v := ?_) rfl (by kernel_rfl) (by kernel_rfl) (by kernel_rfl) (by kernel_rfl) (fun _ _ _ h => h) (Or.inl ⟨by rfl, ?_⟩) hS ?_
    rotate_left
    · intro w hSw
      obtain ⟨_, _, _, _, _, _, _, _, _, _, _, _, _, _⟩ := hSw
      go_simp
      try with_reducible rfl
    simp only [Act.put, List.setIfInBounds_toArray, List.set_cons_zero, List.set_cons_succ]
    refine anyN_takeR 9 (v := ?_) rfl (by kernel_rfl) (by kernel_rfl) (by kernel_rfl) (by kernel_rfl) (fun _ _ _ h => h) (Or.inl ⟨by rfl, ?_⟩) hS ?_
    rotate_left
    · intro w hSw
      obtain ⟨_, _, _, _, _, _, _, _, _, _, _, _, _, _⟩ := hSw
      go_simp
      try with_reducible rfl
    simp only [Act.put, List.setIfInBounds_toArray, List.set_cons_zero, List.set_cons_succ]
    refine anyN_takeR 10 (v := ?_) rfl (by kernel_rfl) (by kernel_rfl) (by kernel_rfl) (by kernel_rfl) (fun _ _ _ h => h) (Or.inl ⟨by rfl, ?_⟩) hS ?_
    rotate_left
    · intro w hSw
      obtain ⟨_, _, _, _, _, _, _, _, _, _, _, _, _, _⟩ := hSw
      go_simp
      try with_reducible rfl
    simp only [Act.put, List.setIfInBounds_toArray, List.set_cons_zero, List.set_cons_succ]
    refine anyN_takeR 11 (v := ?_) rfl (by kernel_rfl) (by kernel_rfl) (by kernel_rfl) (by kernel_rfl) (fun _ _ _ h => h) (Or.inl ⟨by rfl, ?_⟩) hS ?_
    rotate_left
    · intro w hSw
      obtain ⟨_, _, _, _, _, _, _, _, _, _, _, _, _, _⟩ := hSw
      go_simp
      try with_reducible rfl
    simp only [Act.put, List.setIfInBounds_toArray, List.set_cons_zero, List.set_cons_succ]
    refine anyN_takeR 12 (v := ?_) rfl (by kernel_rfl) (by kernel_rfl) (by kernel_rfl) (by kernel_rfl) (fun _ _ _ h => h) (Or.inl ⟨by rfl, ?_⟩) hS ?_
    rotate_left
    · intro w hSw
      obtain ⟨_, _, _, _, _, _, _, _, _, _, _, _, _, _⟩ := hSw
      go_simp
      try with_reducible rfl
    simp only [Act.put, List.setIfInBounds_toArray, List.set_cons_zero, List.set_cons_succ]
    refine anyN_takeR 13 (v := ?_) rfl (by kernel_rfl) (by kernel_rfl) (by kernel_rfl) (by kernel_rfl) (fun _ _ _ h => h) (Or.inl ⟨by rfl, ?_⟩) hS ?_
    rotate_left
    · intro w hSw
      obtain ⟨_, _, _, _, _, _, _, _, _, _, _, _, _, _⟩ := hSw
      go_simp
      try with_reducible rfl
    simp only [Act.put, List.setIfInBounds_toArray, List.set_cons_zero, List.set_cons_succ]
    refine anyN_takeR 14 (v := ?_) rfl (by kernel_rfl) (by kernel_rfl) (by kernel_rfl) (by kernel_rfl) (fun _ _ _ h => h) (Or.inl ⟨by rfl, ?_⟩) hS ?_
    rotate_left
    · intro w hSw
      obtain ⟨_, _, _, _, _, _, _, _, _, _, _, _, _, _⟩ := hSw
      go_simp
      try with_reducible rfl
    simp only [Act.put, List.setIfInBounds_toArray, List.set_cons_zero, List.set_cons_succ]
    refine anyN_takeR 15 (v := ?_) rfl (by kernel_rfl) (by kernel_rfl) (by kernel_rfl) (by kernel_rfl) (fun _ _ _ h => h) (Or.inl ⟨by rfl, ?_⟩) hS ?_
    rotate_left
    · intro w hSw
      obtain ⟨_, _, _, _, _, _, _, _, _, _, _, _, _, _⟩ := hSw
      go_simp
      try with_reducible rfl
    simp only [Act.put, List.setIfInBounds_toArray, List.set_cons_zero, List.set_cons_succ]
    refine anyN_takeR 16 (v := ?_) rfl (by kernel_rfl) (by kernel_rfl) (by kernel_rfl) (by kernel_rfl) (fun _ _ _ h => h) (Or.inl ⟨by rfl, ?_⟩) hS ?_
    rotate_left
    · intro w hSw
      obtain ⟨_, _, _, _, _, _, _, _, _, _, _, _, _, _⟩ := hSw
      go_simp
      try with_reducible rfl
    simp only [Act.put, List.setIfInBounds_toArray, List.set_cons_zero, List.set_cons_succ]
    refine anyN_takeR 17 (v := ?_) rfl (by kernel_rfl) (by kernel_rfl) (by kernel_rfl) (by kernel_rfl) (fun _ _ _ h => h) (Or.inl ⟨by rfl, ?_⟩) hS ?_
    rotate_left
    · intro w hSw
      obtain ⟨_, _, _, _, _, _, _, _, _, _, _, _, _, _⟩ := hSw
      go_simp
      try with_reducible rfl
    simp only [Act.put, List.setIfInBounds_toArray, List.set_cons_zero, List.set_cons_succ]
    refine anyN_takeR 18 (v := ?_) rfl (by kernel_rfl) (by kernel_rfl) (by kernel_rfl) (by kernel_rfl) (fun _ _ _ h => h) (Or.inl ⟨by rfl, ?_⟩) hS ?_
    rotate_left
    · intro w hSw
      obtain ⟨_, _, _, _, _, _, _, _, _, _, _, _, _, _⟩ := hSw
      go_simp
      try with_reducible rfl
    simp only [Act.put, List.setIfInBounds_toArray, List.set_cons_zero, List.set_cons_succ]
    refine anyN_takeR 19 (v := ?_) rfl (by kernel_rfl) (by kernel_rfl) (by kernel_rfl) (by kernel_rfl) (fun _ _ _ h => h) (Or.inl ⟨by rfl, ?_⟩) hS ?_
    rotate_left
    · intro w hSw
      obtain ⟨_, _, _, _, _, _, _, _, _, _, _, _, _, _⟩ := hSw
      go_simp
      try with_reducible rfl
    simp only [Act.put, List.setIfInBounds_toArray, List.set_cons_zero, List.set_cons_succ]
    refine anyN_takeR 20 (v := ?_) rfl (by kernel_rfl) (by kernel_rfl) (by kernel_rfl) (by kernel_rfl) (fun _ _ _ h => h) (Or.inl ⟨by rfl, ?_⟩) hS ?_
    rotate_left
    · intro w hSw
      obtain ⟨_, _, _, _, _, _, _, _, _, _, _, _, _, _⟩ := hSw
      go_simp
      try with_reducible rfl
    simp only [Act.put, List.setIfInBounds_toArray, List.set_cons_zero, List.set_cons_succ]
    refine anyN_takeR 21 (v := ?_) rfl (by kernel_rfl) (by kernel_rfl) (by kernel_rfl) (by kernel_rfl) (fun _ _ _ h => h) (Or.inl ⟨by rfl, ?_⟩) hS ?_
    rotate_left
    · intro w hSw
      obtain ⟨_, _, _, _, _, _, _, _, _, _, _, _, _, _⟩ := hSw
      go_simp
      try with_reducible rfl
    simp only [Act.put, List.setIfInBounds_toArray, List.set_cons_zero, List.set_cons_succ]
    refine anyN_takeR 22 (v := ?_) rfl (by kernel_rfl) (by kernel_rfl) (by kernel_rfl) (by kernel_rfl) (fun _ _ _ h => h) (Or.inl ⟨by rfl, ?_⟩) hS ?_
    rotate_left
    · intro w hSw
      obtain ⟨_, _, _, _, _, _, _, _, _, _, _, _, _, _⟩ := hSw
      go_simp
      try with_reducible rfl
    simp only [Act.put, List.setIfInBounds_toArray, List.set_cons_zero, List.set_cons_succ]
    refine anyN_takeR 23 (v := ?_) rfl (by kernel_rfl) (by kernel_rfl) (by kernel_rfl) (by kernel_rfl) (fun _ _ _ h => h) (Or.inl ⟨by rfl, ?_⟩) hS ?_
    rotate_left
    · intro w hSw
      obtain ⟨_, _, _, _, _, _, _, _, _, _, _, _, _, _⟩ := hSw
      go_simp
      try with_reducible rfl
    simp only [Act.put, List.setIfInBounds_toArray, List.set_cons_zero, List.set_cons_succ]
    refine anyN_takeR 24 (v := ?_) rfl (by kernel_rfl) (by kernel_rfl) (by kernel_rfl) (by kernel_rfl) (fun _ _ _ h => h) (Or.inl ⟨by rfl, ?_⟩) hS ?_
    rotate_left
    · intro w hSw
      obtain ⟨_, _, _, _, _, _, _, _, _, _, _, _, _, _⟩ := hSw
      go_simp
      try with_reducible rfl
    simp only [Act.put, List.setIfInBounds_toArray, List.set_cons_zero, List.set_cons_succ]
    refine anyN_takeR 25 (v := ?_) rfl (by kernel_rfl) (by kernel_rfl) (by kernel_rfl) (by kernel_rfl) (fun _ _ _ h => h) (Or.inl ⟨by rfl, ?_⟩) hS ?_
    rotate_left
    · intro w hSw
      obtain ⟨_, _, _, _, _, _, _, _, _, _, _, _, _, _⟩ := hSw
      go_simp
      try with_reducible rfl
    simp only [Act.put, List.setIfInBounds_toArray, List.set_cons_zero, List.set_cons_succ]
    refine anyN_takeR 26 (v := ?_) rfl (by kernel_rfl) (by kernel_rfl) (by kernel_rfl) (by kernel_rfl) (fun _ _ _ h => h) (Or.inl ⟨by rfl, ?_⟩) hS ?_
    rotate_left
    · intro w hSw
      obtain ⟨_, _, _, _, _, _, _, _, _, _, _, _, _, _⟩ := hSw
      go_simp
      try with_reducible rfl
    simp only [Act.put, List.setIfInBounds_toArray, List.set_cons_zero, List.set_cons_succ]
    refine anyN_takeR 27 (v := ?_) rfl (by kernel_rfl) (by kernel_rfl) (by kernel_rfl) (by kernel_rfl) (fun _ _ _ h => h) (Or.inl ⟨by rfl, ?_⟩) hS ?_
    rotate_left
    · intro w hSw
      obtain ⟨_, _, _, _, _, _, _, _, _, _, _, _, _, _⟩ := hSw
      go_simp
      try with_reducible rfl
    simp only [Act.put, List.setIfInBounds_toArray, List.set_cons_zero, List.set_cons_succ]
    refine anyN_takeR 28 (v := ?_) rfl (by kernel_rfl) (by kernel_rfl) (by kernel_rfl) (by kernel_rfl) (fun _ _ _ h => h) (Or.inl ⟨by rfl, ?_⟩) hS ?_
    rotate_left
    · intro w hSw
      obtain ⟨_, _, _, _, _, _, _, _, _, _, _, _, _, _⟩ := hSw
      go_simp
      try with_reducible rfl
    simp only [Act.put, List.setIfInBounds_toArray, List.set_cons_zero, List.set_cons_succ]
    refine anyN_takeR 29 (v := ?_) rfl (by kernel_rfl) (by kernel_rfl) (by kernel_rfl) (by kernel_rfl) (fun _ _ _ h => h) (Or.inl ⟨by rfl, ?_⟩) hS ?_
    rotate_left
    · intro w hSw
      obtain ⟨_, _, _, _, _, _, _, _, _, _, _, _, _, _⟩ := hSw
      go_simp
      try with_reducible rfl
    simp only [Act.put, List.setIfInBounds_toArray, List.set_cons_zero, List.set_cons_succ]
    refine anyN_takeR 30 (v := ?_) rfl (by kernel_rfl) (by kernel_rfl) (by kernel_rfl) (by kernel_rfl) (fun _ _ _ h => h) (Or.inl ⟨by rfl, ?_⟩) hS ?_
    rotate_left
    · intro w hSw
      obtain ⟨_, _, _, _, _, _, _, _, _, _, _, _, _, _⟩ := hSw
      go_simp
      try with_reducible rfl
    simp only [Act.put, List.setIfInBounds_toArray, List.set_cons_zero, List.set_cons_succ]
    refine anyN_takeR 31 (v := ?_) rfl (by kernel_rfl) (by kernel_rfl) (by kernel_rfl) (by kernel_rfl) (fun _ _ _ h => h) (Or.inl ⟨by rfl, ?_⟩) hS ?_
    rotate_left
    · intro w hSw
      obtain ⟨_, _, _, _, _, _, _, _, _, _, _, _, _, _⟩ := hSw
      go_simp
      try with_reducible rfl
    simp only [Act.put, List.setIfInBounds_toArray, List.set_cons_zero, List.set_cons_succ]
    refine anyN_takeR 32 (v := ?_) rfl (by kernel_rfl) (by kernel_rfl) (by kernel_rfl) (by kernel_rfl) (fun _ _ _ h => h) (Or.inl ⟨by rfl, ?_⟩) hS ?_
    rotate_left
    · intro w hSw
      obtain ⟨_, _, _, _, _, _, _, _, _, _, _, _, _, _⟩ := hSw
      go_simp
      try with_reducible rfl
    simp only [Act.put, List.setIfInBounds_toArray, List.set_cons_zero, List.set_cons_succ]
    refine anyN_takeR 33 (v := ?_) rfl (by kernel_rfl) (by kernel_rfl) (by kernel_rfl) (by kernel_rfl) (fun _ _ _ h => h) (Or.inl ⟨by rfl, ?_⟩) hS ?_
    rotate_left
    · intro w hSw
      obtain ⟨_, _, _, _, _, _, _, _, _, _, _, _, _, _⟩ := hSw
      go_simp
      try with_reducible rfl
    simp only [Act.put, List.setIfInBounds_toArray, List.set_cons_zero, List.set_cons_succ]
    refine anyN_takeR 34 (v := ?_) rfl (by kernel_rfl) (by kernel_rfl) (by kernel_rfl) (by kernel_rfl) (fun _ _ _ h => h) (Or.inl ⟨by rfl, ?_⟩) hS ?_
    rotate_left
    · intro w hSw
      obtain ⟨_, _, _, _, _, _, _, _, _, _, _, _, _, _⟩ := hSw
      go_simp
      try with_reducible rfl
    simp only [Act.put, List.setIfInBounds_toArray, List.set_cons_zero, List.set_cons_succ]
    refine anyN_takeR 35 (v := ?_) rfl (by kernel_rfl) (by kernel_rfl) (by kernel_rfl) (by kernel_rfl) (fun _ _ _ h => h) (Or.inl ⟨by rfl, ?_⟩) hS ?_
    rotate_left
    · intro w hSw
      obtain ⟨_, _, _, _, _, _, _, _, _, _, _, _, _, _⟩ := hSw
      go_simp
      try with_reducible rfl
    simp only [Act.put, List.setIfInBounds_toArray, List.set_cons_zero, List.set_cons_succ]
    refine anyN_takeR 36 (v := ?_) rfl (by kernel_rfl) (by kernel_rfl) (by kernel_rfl) (by kernel_rfl) (fun _ _ _ h => h) (Or.inl ⟨by rfl, ?_⟩) hS ?_
    rotate_left
    · intro w hSw
      obtain ⟨_, _, _, _, _, _, _, _, _, _, _, _, _, _⟩ := hSw
      go_simp
      try with_reducible rfl
    simp only [Act.put, List.setIfInBounds_toArray, List.set_cons_zero, List.set_cons_succ]
    refine anyN_takeR 37 (v := ?_) rfl (by kernel_rfl) (by kernel_rfl) (by kernel_rfl) (by kernel_rfl) (fun _ _ _ h => h) (Or.inl ⟨by rfl, ?_⟩) hS ?_
    rotate_left
    · intro w hSw
      obtain ⟨_, _, _, _, _, _, _, _, _, _, _, _, _, _⟩ := hSw
      go_simp
      try with_reducible rfl
    simp only [Act.put, List.setIfInBounds_toArray, List.set_cons_zero, List.set_cons_succ]
    refine anyN_takeR 38 (v := ?_) rfl (by kernel_rfl) (by kernel_rfl) (by kernel_rfl) (by kernel_rfl) (fun _ _ _ h => h) (Or.inl ⟨by rfl, ?_⟩) hS ?_
    rotate_left
    · intro w hSw
      obtain ⟨_, _, _, _, _, _, _, _, _, _, _, _, _, _⟩ := hSw
      go_simp
      try with_reducible rfl
    simp only [Act.put, List.setIfInBounds_toArray, List.set_cons_zero, List.set_cons_succ]
    refine anyN_oneG 39 rfl (by kernel_rfl) (by rfl) ?_
    go_simp
    (with_reducible refine (HFR _ HK3.out).out.mono ?_)
    clear hS
    rintro e wy2 ⟨rfl, hk⟩
    replace HT := Lib.hid (HT.out.kp hk)
    replace HX3 := Lib.hid (HX3.out.kp hk)
    replace HXZ3 := Lib.hid (HXZ3.out.kp hk)
    replace HY3 := Lib.hid (HY3.out.kp hk)
    replace HM3 := Lib.hid (HM3.out.kp hk)
    replace HZ3 := Lib.hid (HZ3.out.kp hk)
    replace HK3 := Lib.hid (HK3.out.trans (hk.mono HK3.out.size))
    clear hk
    dsimp only
    refine and_keep ⟨HT.out.c0, HT.out.c1, HT.out.c2, HT.out.c3, HT.out.c4, HT.out.c5, HT.out.c6, HT.out.c7, HX3.out.c0, HX3.out.c1, HX3.out.c2, HY3.out.c0, HY3.out.c1, HY3.out.c2⟩ (fun hS => ?_)
    refine anyN_takeR 40 (v := ?_) rfl (by kernel_rfl) (by kernel_rfl) (by kernel_rfl) (by kernel_rfl) (fun _ _ _ h => h) (Or.inl ⟨by rfl, ?_⟩) hS ?_
    rotate_left
    · intro w hSw
      obtain ⟨_, _, _, _, _, _, _, _, _, _, _, _, _, _⟩ := hSw
      go_simp
      try with_reducible rfl
    simp only [Act.put, List.setIfInBounds_toArray, List.set_cons_zero, List.set_cons_succ]
    refine anyN_takeR 41 (v := ?_) rfl (by kernel_rfl) (by kernel_rfl) (by kernel_rfl) (by kernel_rfl) (fun _ _ _ h => h) (Or.inl ⟨by rfl, ?_⟩) hS ?_
    rotate_left
    · intro w hSw
      obtain ⟨_, _, _, _, _, _, _, _, _, _, _, _, _, _⟩ := hSw
      go_simp
      try with_reducible rfl
    simp only [Act.put, List.setIfInBounds_toArray, List.set_cons_zero, List.set_cons_succ]
    refine anyN_takeR 42 (v := ?_) rfl (by kernel_rfl) (by kernel_rfl) (by kernel_rfl) (by kernel_rfl) (fun _ _ _ h => h) (Or.inl ⟨by rfl, ?_⟩) hS ?_
    rotate_left
    · intro w hSw
      obtain ⟨_, _, _, _, _, _, _, _, _, _, _, _, _, _⟩ := hSw
      go_simp
      try with_reducible rfl
    simp only [Act.put, List.setIfInBounds_toArray, List.set_cons_zero, List.set_cons_succ]
    refine anyN_takeR 43 (v := ?_) rfl (by kernel_rfl) (by kernel_rfl) (by kernel_rfl) (by kernel_rfl) (fun _ _ _ h => h) (Or.inl ⟨by rfl, ?_⟩) hS ?_
    rotate_left
    · intro w hSw
      obtain ⟨_, _, _, _, _, _, _, _, _, _, _, _, _, _⟩ := hSw
      go_simp
      try with_reducible rfl
    simp only [Act.put, List.setIfInBounds_toArray, List.set_cons_zero, List.set_cons_succ]
    refine anyN_takeR 44 (v := ?_) rfl (by kernel_rfl) (by kernel_rfl) (by kernel_rfl) (by kernel_rfl) (fun _ _ _ h => h) (Or.inl ⟨by rfl, ?_⟩) hS ?_
    rotate_left
    · intro w hSw
      obtain ⟨_, _, _, _, _, _, _, _, _, _, _, _, _, _⟩ := hSw
      go_simp
      try with_reducible rfl
    simp only [Act.put, List.setIfInBounds_toArray, List.set_cons_zero, List.set_cons_succ]
    refine anyN_takeR 45 (v := ?_) rfl (by kernel_rfl) (by kernel_rfl) (by kernel_rfl) (by kernel_rfl) (fun _ _ _ h => h) (Or.inl ⟨by rfl, ?_⟩) hS ?_
    rotate_left
    · intro w hSw
      obtain ⟨_, _, _, _, _, _, _, _, _, _, _, _, _, _⟩ := hSw
      go_simp
      try with_reducible rfl
    simp only [Act.put, List.setIfInBounds_toArray, List.set_cons_zero, List.set_cons_succ]
    refine anyN_takeR 46 (v := ?_) rfl (by kernel_rfl) (by kernel_rfl) (by kernel_rfl) (by kernel_rfl) (fun _ _ _ h => h) (Or.inl ⟨by rfl, ?_⟩) hS ?_
    rotate_left
    · intro w hSw
      obtain ⟨_, _, _, _, _, _, _, _, _, _, _, _, _, _⟩ := hSw
      go_simp
      try with_reducible rfl
    simp only [Act.put, List.setIfInBounds_toArray, List.set_cons_zero, List.set_cons_succ]
    refine anyN_takeR 47 (v := ?_) rfl (by kernel_rfl) (by kernel_rfl) (by kernel_rfl) (by kernel_rfl) (fun _ _ _ h => h) (Or.inl ⟨by rfl, ?_⟩) hS ?_
    rotate_left
    · intro w hSw
      obtain ⟨_, _, _, _, _, _, _, _, _, _, _, _, _, _⟩ := hSw
      go_simp
      try with_reducible rfl
    simp only [Act.put, List.setIfInBounds_toArray, List.set_cons_zero, List.set_cons_succ]
    refine anyN_takeR 48 (v := ?_) rfl (by kernel_rfl) (by kernel_rfl) (by kernel_rfl) (by kernel_rfl) (fun _ _ _ h => h) (Or.inl ⟨by rfl, ?_⟩) hS ?_
    rotate_left
    · intro w hSw
      obtain ⟨_, _, _, _, _, _, _, _, _, _, _, _, _, _⟩ := hSw
      go_simp
      try with_reducible rfl
    simp only [Act.put, List.setIfInBounds_toArray, List.set_cons_zero, List.set_cons_succ]
    refine anyN_takeR 49 (v := ?_) rfl (by kernel_rfl) (by kernel_rfl) (by kernel_rfl) (by kernel_rfl) (fun _ _ _ h => h) (Or.inl ⟨by rfl, ?_⟩) hS ?_
    rotate_left
    · intro w hSw
      obtain ⟨_, _, _, _, _, _, _, _, _, _, _, _, _, _⟩ := hSw
      go_simp
      try with_reducible rfl
    simp only [Act.put, List.setIfInBounds_toArray, List.set_cons_zero, List.set_cons_succ]
    refine anyN_oneG 50 rfl (by kernel_rfl) (by rfl) ?_
    go_simp
    (with_reducible refine (HMY _).out.mono ?_)
    clear hS
    rintro e wy3 ⟨rfl, hk⟩
    replace HT := Lib.hid (HT.out.kp hk)
    replace HX3 := Lib.hid (HX3.out.kp hk)
    replace HXZ3 := Lib.hid (HXZ3.out.kp hk)
    replace HY3 := Lib.hid (HY3.out.kp hk)
    replace HM3 := Lib.hid (HM3.out.kp hk)
    replace HZ3 := Lib.hid (HZ3.out.kp hk)
    replace HK3 := Lib.hid (HK3.out.trans (hk.mono HK3.out.size))
    clear hk
    dsimp only
    refine and_keep ⟨HT.out.c0, HT.out.c1, HT.out.c2, HT.out.c3, HT.out.c4, HT.out.c5, HT.out.c6, HT.out.c7, HX3.out.c0, HX3.out.c1, HX3.out.c2, HY3.out.c0, HY3.out.c1, HY3.out.c2⟩ (fun hS => ?_)
    refine anyN_takeR 51 (v := ?_) rfl (by kernel_rfl) (by kernel_rfl) (by kernel_rfl) (by kernel_rfl) (fun _ _ _ h => h) (Or.inl ⟨by rfl, ?_⟩) hS ?_
    rotate_left
    · intro w hSw
      obtain ⟨_, _, _, _, _, _, _, _, _, _, _, _, _, _⟩ := hSw
      go_simp
      try with_reducible rfl
    simp only [Act.put, List.setIfInBounds_toArray, List.set_cons_zero, List.set_cons_succ]
    refine anyN_takeR 52 (v := ?_) rfl (by kernel_rfl) (by kernel_rfl) (by kernel_rfl) (by kernel_rfl) (fun _ _ _ h => h) (Or.inl ⟨by rfl, ?_⟩) hS ?_
    rotate_left
    · intro w hSw
      obtain ⟨_, _, _, _, _, _, _, _, _, _, _, _, _, _⟩ := hSw
      go_simp
      try with_reducible rfl
    simp only [Act.put, List.setIfInBounds_toArray, List.set_cons_zero, List.set_cons_succ]
    refine anyN_done (by kernel_rfl) ?_
    refine NoPanic.normal ?_
    clear hS
    have P := And.intro (HM3.out.set (.int .i64 0) (.slice none 0 0) (.slice none 0 0)) (((HK3.out.setCell (p := ⟨bR, 0, none⟩) WR (.int .i64 0)).setCell (p := ⟨bR, 1, none⟩) WR (.slice none 0 0)).setCell (p := ⟨bR, 2, none⟩) WR (.slice none 0 0))
    obtain ⟨m0, m1, m2, ml⟩ := HM3.out
    have mf := HZ3.out.2
    go_wp2_with fail
    clear m0 m1 m2 ml mf
    generalize World.setCell _ _ _ = w9 at *
    obtain ⟨⟨m0, m1, m2, ml⟩, K⟩ := P
    refine bodyPost_ret (v := .tuple #[.agg #[.int .i64 0, .slice none 0 0, .slice none 0 0], .int .i64 271]) (by simp [results, Try.results46, go_sem, m0, m1, m2]) rfl ?_
    rw [HF.out]
    exact ⟨_, rfl, refSc_zero K⟩
  rw [hb] at HMY
  have HG := Lib.hid (HGD.out (hiff.out.2 ⟨by omega, by omega, hxy, rfl, hfr, hb⟩))
  rw [hmv.out] at HG
  refine wp_region_noPanic ?_
  refine wp_region_anyN (fun w' => w'.cell? ⟨b, off + i * 8, none⟩ = some (.int .i64 id) ∧ w'.cell? ⟨b, off + i * 8 + 1, none⟩ = some (.int .i64 grp) ∧ w'.cell? ⟨b, off + i * 8 + 2, none⟩ = some (.int .i64 wt) ∧ w'.cell? ⟨b, off + i * 8 + 3, none⟩ = some (.int .i64 (tp : Int)) ∧ w'.cell? ⟨b, off + i * 8 + 4, none⟩ = some (.int .u64 mask) ∧ w'.cell? ⟨b, off + i * 8 + 5, none⟩ = some (.bool rdy) ∧ w'.cell? ⟨b, off + i * 8 + 6, none⟩ = some (.int .u64 v) ∧ w'.cell? ⟨b, off + i * 8 + 7, none⟩ = some (.int .u32 r') ∧ w'.cell? ⟨b0, 0, none⟩ = some (.int .i64 (lb : Int)) ∧ w'.cell? ⟨b0, 1, none⟩ = some (.slice (some ⟨b, off, none⟩) la ca) ∧ w'.cell? ⟨b0, 2, none⟩ = some (.slice B lb cb) ∧ w'.cell? ⟨bM, 0, none⟩ = some (.int .i64 k) ∧ w'.cell? ⟨bM, 1, none⟩ = some (.int .i64 (tp : Int)) ∧ w'.cell? ⟨bM, 2, none⟩ = some (.int .i64 (q : Int))) 53 (by kernel_rfl) ?_
  have kd : Kp w3.heap.size w3 w3.drew := (Kp.refl _ _).drewN 1
  replace HT := Lib.hid (HT.out.kp kd)
  replace HX3 := Lib.hid (HX3.out.kp kd)
  replace HXZ3 := Lib.hid (HXZ3.out.kp kd)
  replace HY3 := Lib.hid (HY3.out.kp kd)
  replace HM3 := Lib.hid (HM3.out.kp kd)
  replace HZ3 := Lib.hid (HZ3.out.kp kd)
  replace HK3 := Lib.hid (HK3.out.trans (kd.mono HK3.out.size))
  clear kd
  generalize w3.drew = wz1 at *
  have hS : wz1.cell? ⟨b, off + i * 8, none⟩ = some (.int .i64 id) ∧ wz1.cell? ⟨b, off + i * 8 + 1, none⟩ = some (.int .i64 grp) ∧ wz1.cell? ⟨b, off + i * 8 + 2, none⟩ = some (.int .i64 wt) ∧ wz1.cell? ⟨b, off + i * 8 + 3, none⟩ = some (.int .i64 (tp : Int)) ∧ wz1.cell? ⟨b, off + i * 8 + 4, none⟩ = some (.int .u64 mask) ∧ wz1.cell? ⟨b, off + i * 8 + 5, none⟩ = some (.bool rdy) ∧ wz1.cell? ⟨b, off + i * 8 + 6, none⟩ = some (.int .u64 v) ∧ wz1.cell? ⟨b, off + i * 8 + 7, none⟩ = some (.int .u32 r') ∧ wz1.cell? ⟨b0, 0, none⟩ = some (.int .i64 (lb : Int)) ∧ wz1.cell? ⟨b0, 1, none⟩ = some (.slice (some ⟨b, off, none⟩) la ca) ∧ wz1.cell? ⟨b0, 2, none⟩ = some (.slice B lb cb) ∧ wz1.cell? ⟨bM, 0, none⟩ = some (.int .i64 k) ∧ wz1.cell? ⟨bM, 1, none⟩ = some (.int .i64 (tp : Int)) ∧ wz1.cell? ⟨bM, 2, none⟩ = some (.int .i64 (q : Int)) := ⟨HT.out.c0, HT.out.c1, HT.out.c2, HT.out.c3, HT.out.c4, HT.out.c5, HT.out.c6, HT.out.c7, HX3.out.c0, HX3.out.c1, HX3.out.c2, HY3.out.c0, HY3.out.c1, HY3.out.c2⟩
  refine anyN_takeR 0 (v := ?_) rfl (by kernel_rfl) (by kernel_rfl) (by kernel_rfl) (by kernel_rfl) (fun _ _ _ h => h) (Or.inl ⟨by rfl, ?_⟩) hS ?_
  rotate_left
  · intro w hSw
    obtain ⟨_, _, _, _, _, _, _, _, _, _, _, _, _, _⟩ := hSw
    go_simp
    try with_reducible rfl
  simp only [Act.put, List.setIfInBounds_toArray, List.set_cons_zero, List.set_cons_succ]
  refine anyN_takeR 1 (v := ?_) rfl (by kernel_rfl) (by kernel_rfl) (by kernel_rfl) (by kernel_rfl) (fun _ _ _ h => h) (Or.inl ⟨by rfl, ?_⟩) hS ?_
  rotate_left
  · intro w hSw
    obtain ⟨_, _, _, _, _, _, _, _, _, _, _, _, _, _⟩ := hSw
    go_simp
    try with_reducible rfl
  simp only [Act.put, List.setIfInBounds_toArray, List.set_cons_zero, List.set_cons_succ]
  refine anyN_takeR 2 (v := ?_) rfl (by kernel_rfl) (by kernel_rfl) (by kernel_rfl) (by kernel_rfl) (fun _ _ _ h => h) (Or.inl ⟨by rfl, ?_⟩) hS ?_
  rotate_left
  · intro w hSw
    obtain ⟨_, _, _, _, _, _, _, _, _, _, _, _, _, _⟩ := hSw
    go_simp
    try with_reducible rfl
  simp only [Act.put, List.setIfInBounds_toArray, List.set_cons_zero, List.set_cons_succ]
  refine anyN_takeR 3 (v := ?_) rfl (by kernel_rfl) (by kernel_rfl) (by kernel_rfl) (by kernel_rfl) (fun _ _ _ h => h) (Or.inl ⟨by rfl, ?_⟩) hS ?_
  rotate_left
  · intro w hSw
    obtain ⟨_, _, _, _, _, _, _, _, _, _, _, _, _, _⟩ := hSw
    go_simp
    try with_reducible rfl
  simp only [Act.put, List.setIfInBounds_toArray, List.set_cons_zero, List.set_cons_succ]
  refine anyN_takeR 4 (v := ?_) rfl (by kernel_rfl) (by kernel_rfl) (by kernel_rfl) (by kernel_rfl) (fun _ _ _ h => h) (Or.inl ⟨by rfl, ?_⟩) hS ?_
  rotate_left
  · intro w hSw
    obtain ⟨_, _, _, _, _, _, _, _, _, _, _, _, _, _⟩ := hSw
    go_simp
    try with_reducible rfl
  simp only [Act.put, List.setIfInBounds_toArray, List.set_cons_zero, List.set_cons_succ]
  refine anyN_takeR 5 (v := ?_) rfl (by kernel_rfl) (by kernel_rfl) (by kernel_rfl) (by kernel_rfl) (fun _ _ _ h => h) (Or.inl ⟨by rfl, ?_⟩) hS ?_
  rotate_left
  · intro w hSw
    obtain ⟨_, _, _, _, _, _, _, _, _, _, _, _, _, _⟩ := hSw
    go_simp
    try with_reducible rfl
  simp only [Act.put, List.setIfInBounds_toArray, List.set_cons_zero, List.set_cons_succ]
  refine anyN_takeR 6 (v := ?_) rfl (by kernel_rfl) (by kernel_rfl) (by kernel_rfl) (by kernel_rfl) (fun _ _ _ h => h) (Or.inl ⟨by rfl, ?_⟩) hS ?_
  rotate_left
  · intro w hSw
    obtain ⟨_, _, _, _, _, _, _, _, _, _, _, _, _, _⟩ := hSw
    go_simp
    try with_reducible rfl
  simp only [Act.put, List.setIfInBounds_toArray, List.set_cons_zero, List.set_cons_succ]
  refine anyN_takeR 7 (v := ?_) rfl (by kernel_rfl) (by kernel_rfl) (by kernel_rfl) (by kernel_rfl) (fun _ _ _ h => h) (Or.inl ⟨by rfl, ?_⟩) hS ?_
  rotate_left
  · intro w hSw
    obtain ⟨_, _, _, _, _, _, _, _, _, _, _, _, _, _⟩ := hSw
    go_simp
    try with_reducible rfl
  simp only [Act.put, List.setIfInBounds_toArray, List.set_cons_zero, List.set_cons_succ]
  refine anyN_takeR 8 (v := ?_) rfl (by kernel_rfl) (by kernel_rfl) (by kernel_rfl) (by kernel_rfl) (fun _ _ _ h => h) (Or.inl ⟨by rfl, ?_⟩) hS ?_
  rotate_left
  · intro w hSw
    obtain ⟨_, _, _, _, _, _, _, _, _, _, _, _, _, _⟩ := hSw
    go_simp
    try with_reducible rfl
  simp only [Act.put, List.setIfInBounds_toArray, List.set_cons_zero, List.set_cons_succ]
  refine anyN_takeR 9 (v := ?_) rfl (by kernel_rfl) (by kernel_rfl) (by kernel_rfl) (by kernel_rfl) (fun _ _ _ h => h) (Or.inl ⟨by rfl, ?_⟩) hS ?_
  rotate_left
  · intro w hSw
    obtain ⟨_, _, _, _, _, _, _, _, _, _, _, _, _, _⟩ := hSw
    go_simp
    try with_reducible rfl
  simp only [Act.put, List.setIfInBounds_toArray, List.set_cons_zero, List.set_cons_succ]
  refine anyN_takeR 10 (v := ?_) rfl (by kernel_rfl) (by kernel_rfl) (by kernel_rfl) (by kernel_rfl) (fun _ _ _ h => h) (Or.inl ⟨by rfl, ?_⟩) hS ?_
  rotate_left
  · intro w hSw
    obtain ⟨_, _, _, _, _, _, _, _, _, _, _, _, _, _⟩ := hSw
    go_simp
    try with_reducible rfl
  simp only [Act.put, List.setIfInBounds_toArray, List.set_cons_zero, List.set_cons_succ]
  refine anyN_takeR 11 (v := ?_) rfl (by kernel_rfl) (by kernel_rfl) (by kernel_rfl) (by kernel_rfl) (fun _ _ _ h => h) (Or.inl ⟨by rfl, ?_⟩) hS ?_
  rotate_left
  · intro w hSw
    obtain ⟨_, _, _, _, _, _, _, _, _, _, _, _, _, _⟩ := hSw
    go_simp
    try with_reducible rfl
  simp only [Act.put, List.setIfInBounds_toArray, List.set_cons_zero, List.set_cons_succ]
  refine anyN_takeR 12 (v := ?_) rfl (by kernel_rfl) (by kernel_rfl) (by kernel_rfl) (by kernel_rfl) (fun _ _ _ h => h) (Or.inl ⟨by rfl, ?_⟩) hS ?_
  rotate_left
  · intro w hSw
    obtain ⟨_, _, _, _, _, _, _, _, _, _, _, _, _, _⟩ := hSw
    go_simp
    try with_reducible rfl
  simp only [Act.put, List.setIfInBounds_toArray, List.set_cons_zero, List.set_cons_succ]
  refine anyN_takeR 13 (v := ?_) rfl (by kernel_rfl) (by kernel_rfl) (by kernel_rfl) (by kernel_rfl) (fun _ _ _ h => h) (Or.inl ⟨by rfl, ?_⟩) hS ?_
  rotate_left
  · intro w hSw
    obtain ⟨_, _, _, _, _, _, _, _, _, _, _, _, _, _⟩ := hSw
    go_simp
    try with_reducible rfl
  simp only [Act.put, List.setIfInBounds_toArray, List.set_cons_zero, List.set_cons_succ]
  refine anyN_takeR 14 (v := ?_) rfl (by kernel_rfl) (by kernel_rfl) (by kernel_rfl) (by kernel_rfl) (fun _ _ _ h => h) (Or.inl ⟨by rfl, ?_⟩) hS ?_
  rotate_left
  · intro w hSw
    obtain ⟨_, _, _, _, _, _, _, _, _, _, _, _, _, _⟩ := hSw
    go_simp
    try with_reducible rfl
  simp only [Act.put, List.setIfInBounds_toArray, List.set_cons_zero, List.set_cons_succ]
  refine anyN_takeR 15 (v := ?_) rfl (by kernel_rfl) (by kernel_rfl) (by kernel_rfl) (by kernel_rfl) (fun _ _ _ h => h) (Or.inl ⟨by rfl, ?_⟩) hS ?_
  rotate_left
  · intro w hSw
    obtain ⟨_, _, _, _, _, _, _, _, _, _, _, _, _, _⟩ := hSw
    go_simp
    try with_reducible rfl
  simp only [Act.put, List.setIfInBounds_toArray, List.set_cons_zero, List.set_cons_succ]
  refine anyN_takeR 16 (v := ?_) rfl (by kernel_rfl) (by kernel_rfl) (by kernel_rfl) (by kernel_rfl) (fun _ _ _ h => h) (Or.inl ⟨by rfl, ?_⟩) hS ?_
  rotate_left
  · intro w hSw
    obtain ⟨_, _, _, _, _, _, _, _, _, _, _, _, _, _⟩ := hSw
    go_simp
    try with_reducible rfl
  simp only [Act.put, List.setIfInBounds_toArray, List.set_cons_zero, List.set_cons_succ]
  refine anyN_takeR 17 (v := ?_) rfl (by kernel_rfl) (by kernel_rfl) (by kernel_rfl) (by kernel_rfl) (fun _ _ _ h => h) (Or.inl ⟨by rfl, ?_⟩) hS ?_
  rotate_left
  · intro w hSw
    obtain ⟨_, _, _, _, _, _, _, _, _, _, _, _, _, _⟩ := hSw
    go_simp
    try with_reducible rfl
  simp only [Act.put, List.setIfInBounds_toArray, List.set_cons_zero, List.set_cons_succ]
  refine anyN_takeR 18 (v := ?_) rfl (by kernel_rfl) (by kernel_rfl) (by kernel_rfl) (by kernel_rfl) (fun _ _ _ h => h) (Or.inl ⟨by rfl, ?_⟩) hS ?_
  rotate_left
  · intro w hSw
    obtain ⟨_, _, _, _, _, _, _, _, _, _, _, _, _, _⟩ := hSw
    go_simp
    try with_reducible rfl
  simp only [Act.put, List.setIfInBounds_toArray, List.set_cons_zero, List.set_cons_succ]
  refine anyN_takeR 19 (v := ?_) rfl (by kernel_rfl) (by kernel_rfl) (by kernel_rfl) (by kernel_rfl) (fun _ _ _ h => h) (Or.inl ⟨by rfl, ?_⟩) hS ?_
  rotate_left
  · intro w hSw
    obtain ⟨_, _, _, _, _, _, _, _, _, _, _, _, _, _⟩ := hSw
    go_simp
    try with_reducible rfl
  simp only [Act.put, List.setIfInBounds_toArray, List.set_cons_zero, List.set_cons_succ]
  refine anyN_takeR 20 (v := ?_) rfl (by kernel_rfl) (by kernel_rfl) (by kernel_rfl) (by kernel_rfl) (fun _ _ _ h => h) (Or.inl ⟨by rfl, ?_⟩) hS ?_
  rotate_left
  · intro w hSw
    obtain ⟨_, _, _, _, _, _, _, _, _, _, _, _, _, _⟩ := hSw
    go_simp
    try with_reducible rfl
  simp only [Act.put, List.setIfInBounds_toArray, List.set_cons_zero, List.set_cons_succ]
  refine anyN_takeR 21 (v := ?_) rfl (by kernel_rfl) (by kernel_rfl) (by kernel_rfl) (by kernel_rfl) (fun _ _ _ h => h) (Or.inl ⟨by rfl, ?_⟩) hS ?_
  rotate_left
  · intro w hSw
    obtain ⟨_, _, _, _, _, _, _, _, _, _, _, _, _, _⟩ := hSw
    go_simp
    try with_reducible rfl
  simp only [Act.put, List.setIfInBounds_toArray, List.set_cons_zero, List.set_cons_succ]
  refine anyN_takeR 22 (v := ?_) rfl (by kernel_rfl) (by kernel_rfl) (by kernel_rfl) (by kernel_rfl) (fun _ _ _ h => h) (Or.inl ⟨by rfl, ?_⟩) hS ?_
  rotate_left
  · intro w hSw
    obtain ⟨_, _, _, _, _, _, _, _, _, _, _, _, _, _⟩ := hSw
    go_simp
    try with_reducible rfl
  simp only [Act.put, List.setIfInBounds_toArray, List.set_cons_zero, List.set_cons_succ]
  refine anyN_takeR 23 (v := ?_) rfl (by kernel_rfl) (by kernel_rfl) (by kernel_rfl) (by kernel_rfl) (fun _ _ _ h => h) (Or.inl ⟨by rfl, ?_⟩) hS ?_
  rotate_left
  · intro w hSw
    obtain ⟨_, _, _, _, _, _, _, _, _, _, _, _, _, _⟩ := hSw
    go_simp
    try with_reducible rfl
  simp only [Act.put, List.setIfInBounds_toArray, List.set_cons_zero, List.set_cons_succ]
  refine anyN_takeR 24 (v := ?_) rfl (by kernel_rfl) (by kernel_rfl) (by kernel_rfl) (by kernel_rfl) (fun _ _ _ h => h) (Or.inl ⟨by rfl, ?_⟩) hS ?_
  rotate_left
  · intro w hSw
    obtain ⟨_, _, _, _, _, _, _, _, _, _, _, _, _, _⟩ := hSw
    go_simp
    try with_reducible rfl
  simp only [Act.put, List.setIfInBounds_toArray, List.set_cons_zero, List.set_cons_succ]
  refine anyN_takeR 25 (v := ?_) rfl (by kernel_rfl) (by kernel_rfl) (by kernel_rfl) (by kernel_rfl) (fun _ _ _ h => h) (Or.inl ⟨by rfl, ?_⟩) hS ?_
  rotate_left
  · intro w hSw
    obtain ⟨_, _, _, _, _, _, _, _, _, _, _, _, _, _⟩ := hSw
    go_simp
    try with_reducible rfl
  simp only [Act.put, List.setIfInBounds_toArray, List.set_cons_zero, List.set_cons_succ]
  refine anyN_takeR 26 (v := ?_) rfl (by kernel_rfl) (by kernel_rfl) (by kernel_rfl) (by kernel_rfl) (fun _ _ _ h => h) (Or.inl ⟨by rfl, ?_⟩) hS ?_
  rotate_left
  · intro w hSw
    obtain ⟨_, _, _, _, _, _, _, _, _, _, _, _, _, _⟩ := hSw
    go_simp
    try with_reducible rfl
  simp only [Act.put, List.setIfInBounds_toArray, List.set_cons_zero, List.set_cons_succ]
  refine anyN_takeR 27 (v := ?_) rfl (by kernel_rfl) (by kernel_rfl) (by kernel_rfl) (by kernel_rfl) (fun _ _ _ h => h) (Or.inl ⟨by rfl, ?_⟩) hS ?_
  rotate_left
  · intro w hSw
    obtain ⟨_, _, _, _, _, _, _, _, _, _, _, _, _, _⟩ := hSw
    go_simp
    try with_reducible rfl
  simp only [Act.put, List.setIfInBounds_toArray, List.set_cons_zero, List.set_cons_succ]
  refine anyN_takeR 28 (v := ?_) rfl (by kernel_rfl) (by kernel_rfl) (by kernel_rfl) (by kernel_rfl) (fun _ _ _ h => h) (Or.inl ⟨by rfl, ?_⟩) hS ?_
  rotate_left
  · intro w hSw
    obtain ⟨_, _, _, _, _, _, _, _, _, _, _, _, _, _⟩ := hSw
    go_simp
    try with_reducible rfl
  simp only [Act.put, List.setIfInBounds_toArray, List.set_cons_zero, List.set_cons_succ]
  refine anyN_takeR 29 (v := ?_) rfl (by kernel_rfl) (by kernel_rfl) (by kernel_rfl) (by kernel_rfl) (fun _ _ _ h => h) (Or.inl ⟨by rfl, ?_⟩) hS ?_
  rotate_left
  · intro w hSw
    obtain ⟨_, _, _, _, _, _, _, _, _, _, _, _, _, _⟩ := hSw
    go_simp
    try with_reducible rfl
  simp only [Act.put, List.setIfInBounds_toArray, List.set_cons_zero, List.set_cons_succ]
  refine anyN_takeR 30 (v := ?_) rfl (by kernel_rfl) (by kernel_rfl) (by kernel_rfl) (by kernel_rfl) (fun _ _ _ h => h) (Or.inl ⟨by rfl, ?_⟩) hS ?_
  rotate_left
  · intro w hSw
    obtain ⟨_, _, _, _, _, _, _, _, _, _, _, _, _, _⟩ := hSw
    go_simp
    try with_reducible rfl
  simp only [Act.put, List.setIfInBounds_toArray, List.set_cons_zero, List.set_cons_succ]
  refine anyN_takeR 31 (v := ?_) rfl (by kernel_rfl) (by kernel_rfl) (by kernel_rfl) (by kernel_rfl) (fun _ _ _ h => h) (Or.inl ⟨by rfl, ?_⟩) hS ?_
  rotate_left
  · intro w hSw
    obtain ⟨_, _, _, _, _, _, _, _, _, _, _, _, _, _⟩ := hSw
    go_simp
    try with_reducible rfl
  simp only [Act.put, List.setIfInBounds_toArray, List.set_cons_zero, List.set_cons_succ]
  refine anyN_takeR 32 (v := ?_) rfl (by kernel_rfl) (by kernel_rfl) (by kernel_rfl) (by kernel_rfl) (fun _ _ _ h => h) (Or.inl ⟨by rfl, ?_⟩) hS ?_
  rotate_left
  · intro w hSw
    obtain ⟨_, _, _, _, _, _, _, _, _, _, _, _, _, _⟩ := hSw
    go_simp
    try with_reducible rfl
  simp only [Act.put, List.setIfInBounds_toArray, List.set_cons_zero, List.set_cons_succ]
  refine anyN_takeR 33 (v := ?_) rfl (by kernel_rfl) (by kernel_rfl) (by kernel_rfl) (by kernel_rfl) (fun _ _ _ h => h) (Or.inl ⟨by rfl, ?_⟩) hS ?_
  rotate_left
  · intro w hSw
    obtain ⟨_, _, _, _, _, _, _, _, _, _, _, _, _, _⟩ := hSw
    go_simp
    try with_reducible rfl
  simp only [Act.put, List.setIfInBounds_toArray, List.set_cons_zero, List.set_cons_succ]
  refine anyN_takeR 34 (v := ?_) rfl (by kernel_rfl) (by kernel_rfl) (by kernel_rfl) (by kernel_rfl) (fun _ _ _ h => h) (Or.inl ⟨by rfl, ?_⟩) hS ?_
  rotate_left
  · intro w hSw
    obtain ⟨_, _, _, _, _, _, _, _, _, _, _, _, _, _⟩ := hSw
    go_simp
    try with_reducible rfl
  simp only [Act.put, List.setIfInBounds_toArray, List.set_cons_zero, List.set_cons_succ]
  refine anyN_takeR 35 (v := ?_) rfl (by kernel_rfl) (by kernel_rfl) (by kernel_rfl) (by kernel_rfl) (fun _ _ _ h => h) (Or.inl ⟨by rfl, ?_⟩) hS ?_
  rotate_left
  · intro w hSw
    obtain ⟨_, _, _, _, _, _, _, _, _, _, _, _, _, _⟩ := hSw
    go_simp
    try with_reducible rfl
  simp only [Act.put, List.setIfInBounds_toArray, List.set_cons_zero, List.set_cons_succ]
  refine anyN_takeR 36 (v := ?_) rfl (by kernel_rfl) (by kernel_rfl) (by kernel_rfl) (by kernel_rfl) (fun _ _ _ h => h) (Or.inl ⟨by rfl, ?_⟩) hS ?_
  rotate_left
  · intro w hSw
    obtain ⟨_, _, _, _, _, _, _, _, _, _, _, _, _, _⟩ := hSw
    go_simp
    try with_reducible rfl
  simp only [Act.put, List.setIfInBounds_toArray, List.set_cons_zero, List.set_cons_succ]
  refine anyN_takeR 37 (v := ?_) rfl (by kernel_rfl) (by kernel_rfl) (by kernel_rfl) (by kernel_rfl) (fun _ _ _ h => h) (Or.inl ⟨by rfl, ?_⟩) hS ?_
  rotate_left
  · intro w hSw
    obtain ⟨_, _, _, _, _, _, _, _, _, _, _, _, _, _⟩ := hSw
    go_simp
    try with_reducible rfl
  simp only [Act.put, List.setIfInBounds_toArray, List.set_cons_zero, List.set_cons_succ]
  refine anyN_takeR 38 (v := ?_) rfl (by kernel_rfl) (by kernel_rfl) (by kernel_rfl) (by kernel_rfl) (fun _ _ _ h => h) (Or.inl ⟨by rfl, ?_⟩) hS ?_
  rotate_left
  · intro w hSw
    obtain ⟨_, _, _, _, _, _, _, _, _, _, _, _, _, _⟩ := hSw
    go_simp
    try with_reducible rfl
  simp only [Act.put, List.setIfInBounds_toArray, List.set_cons_zero, List.set_cons_succ]
  refine anyN_oneG 39 rfl (by kernel_rfl) (by rfl) ?_
  go_simp
  (with_reducible refine (HFR _ HK3.out).out.mono ?_)
  clear hS
  rintro e wz2 ⟨rfl, hk⟩
  replace HT := Lib.hid (HT.out.kp hk)
  replace HX3 := Lib.hid (HX3.out.kp hk)
  replace HXZ3 := Lib.hid (HXZ3.out.kp hk)
  replace HY3 := Lib.hid (HY3.out.kp hk)
  replace HM3 := Lib.hid (HM3.out.kp hk)
  replace HZ3 := Lib.hid (HZ3.out.kp hk)
  replace HK3 := Lib.hid (HK3.out.trans (hk.mono HK3.out.size))
  clear hk
  dsimp only
  refine and_keep ⟨HT.out.c0, HT.out.c1, HT.out.c2, HT.out.c3, HT.out.c4, HT.out.c5, HT.out.c6, HT.out.c7, HX3.out.c0, HX3.out.c1, HX3.out.c2, HY3.out.c0, HY3.out.c1, HY3.out.c2⟩ (fun hS => ?_)
  refine anyN_takeR 40 (v := ?_) rfl (by kernel_rfl) (by kernel_rfl) (by kernel_rfl) (by kernel_rfl) (fun _ _ _ h => h) (Or.inl ⟨by rfl, ?_⟩) hS ?_
  rotate_left
  · intro w hSw
    obtain ⟨_, _, _, _, _, _, _, _, _, _, _, _, _, _⟩ := hSw
    go_simp
    try with_reducible rfl
  simp only [Act.put, List.setIfInBounds_toArray, List.set_cons_zero, List.set_cons_succ]
  refine anyN_takeR 41 (v := ?_) rfl (by kernel_rfl) (by kernel_rfl) (by kernel_rfl) (by kernel_rfl) (fun _ _ _ h => h) (Or.inl ⟨by rfl, ?_⟩) hS ?_
  rotate_left
  · intro w hSw
    obtain ⟨_, _, _, _, _, _, _, _, _, _, _, _, _, _⟩ := hSw
    go_simp
    try with_reducible rfl
  simp only [Act.put, List.setIfInBounds_toArray, List.set_cons_zero, List.set_cons_succ]
  refine anyN_takeR 42 (v := ?_) rfl (by kernel_rfl) (by kernel_rfl) (by kernel_rfl) (by kernel_rfl) (fun _ _ _ h => h) (Or.inl ⟨by rfl, ?_⟩) hS ?_
  rotate_left
  · intro w hSw
    obtain ⟨_, _, _, _, _, _, _, _, _, _, _, _, _, _⟩ := hSw
    go_simp
    try with_reducible rfl
  simp only [Act.put, List.setIfInBounds_toArray, List.set_cons_zero, List.set_cons_succ]
  refine anyN_takeR 43 (v := ?_) rfl (by kernel_rfl) (by kernel_rfl) (by kernel_rfl) (by kernel_rfl) (fun _ _ _ h => h) (Or.inl ⟨by rfl, ?_⟩) hS ?_
  rotate_left
  · intro w hSw
    obtain ⟨_, _, _, _, _, _, _, _, _, _, _, _, _, _⟩ := hSw
    go_simp
    try with_reducible rfl
  simp only [Act.put, List.setIfInBounds_toArray, List.set_cons_zero, List.set_cons_succ]
  refine anyN_takeR 44 (v := ?_) rfl (by kernel_rfl) (by kernel_rfl) (by kernel_rfl) (by kernel_rfl) (fun _ _ _ h => h) (Or.inl ⟨by rfl, ?_⟩) hS ?_
  rotate_left
  · intro w hSw
    obtain ⟨_, _, _, _, _, _, _, _, _, _, _, _, _, _⟩ := hSw
    go_simp
    try with_reducible rfl
  simp only [Act.put, List.setIfInBounds_toArray, List.set_cons_zero, List.set_cons_succ]
  refine anyN_takeR 45 (v := ?_) rfl (by kernel_rfl) (by kernel_rfl) (by kernel_rfl) (by kernel_rfl) (fun _ _ _ h => h) (Or.inl ⟨by rfl, ?_⟩) hS ?_
  rotate_left
  · intro w hSw
    obtain ⟨_, _, _, _, _, _, _, _, _, _, _, _, _, _⟩ := hSw
    go_simp
    try with_reducible rfl
  simp only [Act.put, List.setIfInBounds_toArray, List.set_cons_zero, List.set_cons_succ]
  refine anyN_takeR 46 (v := ?_) rfl (by kernel_rfl) (by kernel_rfl) (by kernel_rfl) (by kernel_rfl) (fun _ _ _ h => h) (Or.inl ⟨by rfl, ?_⟩) hS ?_
  rotate_left
  · intro w hSw
    obtain ⟨_, _, _, _, _, _, _, _, _, _, _, _, _, _⟩ := hSw
    go_simp
    try with_reducible rfl
  simp only [Act.put, List.setIfInBounds_toArray, List.set_cons_zero, List.set_cons_succ]
  refine anyN_takeR 47 (v := ?_) rfl (by kernel_rfl) (by kernel_rfl) (by kernel_rfl) (by kernel_rfl) (fun _ _ _ h => h) (Or.inl ⟨by rfl, ?_⟩) hS ?_
  rotate_left
  · intro w hSw
    obtain ⟨_, _, _, _, _, _, _, _, _, _, _, _, _, _⟩ := hSw
    go_simp
    try with_reducible rfl
  simp only [Act.put, List.setIfInBounds_toArray, List.set_cons_zero, List.set_cons_succ]
  refine anyN_takeR 48 (v := ?_) rfl (by kernel_rfl) (by kernel_rfl) (by kernel_rfl) (by kernel_rfl) (fun _ _ _ h => h) (Or.inl ⟨by rfl, ?_⟩) hS ?_
  rotate_left
  · intro w hSw
    obtain ⟨_, _, _, _, _, _, _, _, _, _, _, _, _, _⟩ := hSw
    go_simp
    try with_reducible rfl
  simp only [Act.put, List.setIfInBounds_toArray, List.set_cons_zero, List.set_cons_succ]
  refine anyN_takeR 49 (v := ?_) rfl (by kernel_rfl) (by kernel_rfl) (by kernel_rfl) (by kernel_rfl) (fun _ _ _ h => h) (Or.inl ⟨by rfl, ?_⟩) hS ?_
  rotate_left
  · intro w hSw
    obtain ⟨_, _, _, _, _, _, _, _, _, _, _, _, _, _⟩ := hSw
    go_simp
    try with_reducible rfl
  simp only [Act.put, List.setIfInBounds_toArray, List.set_cons_zero, List.set_cons_succ]
  refine anyN_oneG 50 rfl (by kernel_rfl) (by rfl) ?_
  go_simp
  (with_reducible refine (HMY _).out.mono ?_)
  clear hS
  rintro e wz3 ⟨rfl, hk⟩
  replace HT := Lib.hid (HT.out.kp hk)
  replace HX3 := Lib.hid (HX3.out.kp hk)
  replace HXZ3 := Lib.hid (HXZ3.out.kp hk)
  replace HY3 := Lib.hid (HY3.out.kp hk)
  replace HM3 := Lib.hid (HM3.out.kp hk)
  replace HZ3 := Lib.hid (HZ3.out.kp hk)
  replace HK3 := Lib.hid (HK3.out.trans (hk.mono HK3.out.size))
  clear hk
  dsimp only
  refine and_keep ⟨HT.out.c0, HT.out.c1, HT.out.c2, HT.out.c3, HT.out.c4, HT.out.c5, HT.out.c6, HT.out.c7, HX3.out.c0, HX3.out.c1, HX3.out.c2, HY3.out.c0, HY3.out.c1, HY3.out.c2⟩ (fun hS => ?_)
  refine anyN_takeR 51 (v := ?_) rfl (by kernel_rfl) (by kernel_rfl) (by kernel_rfl) (by kernel_rfl) (fun _ _ _ h => h) (Or.inl ⟨by rfl, ?_⟩) hS ?_
  rotate_left
  · intro w hSw
    obtain ⟨_, _, _, _, _, _, _, _, _, _, _, _, _, _⟩ := hSw
    go_simp
    try with_reducible rfl
  simp only [Act.put, List.setIfInBounds_toArray, List.set_cons_zero, List.set_cons_succ]
  refine anyN_takeR 52 (v := ?_) rfl (by kernel_rfl) (by kernel_rfl) (by kernel_rfl) (by kernel_rfl) (fun _ _ _ h => h) (Or.inl ⟨by rfl, ?_⟩) hS ?_
  rotate_left
  · intro w hSw
    obtain ⟨_, _, _, _, _, _, _, _, _, _, _, _, _, _⟩ := hSw
    go_simp
    try with_reducible rfl
  simp only [Act.put, List.setIfInBounds_toArray, List.set_cons_zero, List.set_cons_succ]
  refine anyN_done (by kernel_rfl) ?_
  refine NoPanic.normal ?_
  clear hS
  generalize wz3 = w4 at *
  obtain ⟨x0, x1, x2, xl⟩ := HX3.out
  obtain ⟨i0, hi0, hz0, hz1, hz2⟩ := info_parts tk_info
  have HI := Lib.hid hi0
  have HZ0 := Lib.hid hz0
  have HZ1 := Lib.hid hz1
  have HZ2 := Lib.hid hz2
  have HRD := Lib.hid ((HSC.out.kp HK3.out).ts.rd (HSC.out.hla))
  have kk : Kp w4.heap.size w4 (w4.alloc (.cells #[] 43)) := (Kp.refl _ _).alloc (Nat.le_refl _) _
  have HKE := Lib.hid kk
  clear hi0 hz0 hz1 hz2 kk
  go_upto_region 6 with fail
  go_wp2_with (at_builtin; refine wpList_append_rd _ rfl _ _ 27 rfl w4.heap.size 43 i0 (tkv t0) 8 64 Try.underlying27 HI.out HZ0.out HZ1.out HZ2.out rfl (by decide) _ 0 [] rfl (World.ownsRow_made w4 #[] 0 (Nat.le_refl _) (Nat.zero_le _) rfl) (some ⟨b, off, none⟩) la ca (flatT s.ts) rfl ?qb (oneCellsT s.ts) ?qc ?qd (by simp) ?_)
  case qb => exact HRD.out.kp HKE.out
  case qc => unfold maxLen; omega
  case qd => omega
  intro v9 w9 hown9 hgrow9
  replace hown9 : w9.ownsRow w4.heap.size 43 8 v9 la (flatT s.ts) := by simpa using hown9
  obtain ⟨A9, c9, rfl, ho9, hrd9⟩ := own_sl hown9
  have htk9 := hrd9.tks (es := s.ts) HSC.out.hla
  obtain ⟨g, og, hA9, T9⟩ := htk9 i hil
  subst hA9
  obtain ⟨g', e, hg1, hg2, hg3, hgT⟩ := ho9.at0 _ rfl
  cases e
  have k9 : Kp w4.heap.size w4 w9 := HKE.out.grown hgrow9 HKE.out.size (fun q hq => by simp [Value.ownBlock] at hq; omega)
  have u3 := T9.c3
  have uf := hg3 (i * 8 + 3)
  simp only [Nat.zero_add] at u3
  have hset := set_cpu2 HSC.out.hla hil htk9 (q : Int)
  have hBI := (HSC.out.kp (HK3.out.trans (k9.mono HK3.out.size))).cur
  have l4 : b0 < w4.heap.size := HX3.out.lt
  have l4R : bR < w4.heap.size := HM3.out.lt
  have l4W := HK3.out.size
  have hgB : ∀ p, B = some p → p.block < W.heap.size := fun p hp => by
    obtain ⟨b', o', e, hl', _⟩ := HSC.out.cur 0 (by omega)
    rw [hp] at e
    cases e
    exact hl'
  have HGB := Lib.hid hgB
  have PP := Lib.hid (And.intro (And.intro hset (And.intro (isInts_far hBI (a := ⟨g, i * 8 + 3, none⟩) (fun p hp => by have := hgB p hp; dsimp only; omega) (.int .i64 (q : Int))) (And.intro ((HX3.out.kp k9).far (p := ⟨g, i * 8 + 3, none⟩) (by dsimp only; omega) (.int .i64 (q : Int))) (And.intro ((HXZ3.out.kp k9).set ⟨g, i * 8 + 3, none⟩ (.int .i64 (q : Int))) (And.intro ((HM3.out.kp k9).far (p := ⟨g, i * 8 + 3, none⟩) (by dsimp only; omega) (.int .i64 (q : Int))) (And.intro ((HZ3.out.kp k9).set ⟨g, i * 8 + 3, none⟩ (.int .i64 (q : Int))) ((HK3.out.trans (k9.mono HK3.out.size)).setCell (p := ⟨g, i * 8 + 3, none⟩) (by dsimp only; omega) (.int .i64 (q : Int))))))))) (hgT.set ⟨g, i * 8 + 3, none⟩ (.int .i64 (q : Int))))
  have HYY := Lib.hid (HY3.out.kp k9)
  obtain ⟨y0, y1, y2, yl⟩ := HYY.out
  have HO9 := Lib.hid ho9.nil
  clear x0 x1 x2 xl hset hBI hgB hown9 hgrow9 hrd9 htk9 T9 ho9 k9 HRD HKE hg3
  go_upto_region 8 with fail
  clear y0 y1 y2 yl u3 uf
  generalize World.setCell _ _ _ = w10 at *
  obtain ⟨⟨p1, p2, p3, p4, p5, p6, p7⟩, pt⟩ := PP.out
  have PQ := Lib.hid (And.intro (And.intro (p1.far (a := ⟨b0, 1, none⟩) (fun p hp => by cases hp; dsimp only; omega) (.slice (some ⟨g, 0, none⟩) la c9)) (And.intro (isInts_far p2 (a := ⟨b0, 1, none⟩) (fun p hp => by have := HGB.out p hp; dsimp only; omega) (.slice (some ⟨g, 0, none⟩) la c9)) (And.intro (p3.set1 (.slice (some ⟨g, 0, none⟩) la c9)) (And.intro (p5.far (p := ⟨b0, 1, none⟩) (by dsimp only; omega) (.slice (some ⟨g, 0, none⟩) la c9)) (And.intro (p6.set ⟨b0, 1, none⟩ (.slice (some ⟨g, 0, none⟩) la c9)) (p7.setCell (p := ⟨b0, 1, none⟩) W0 (.slice (some ⟨g, 0, none⟩) la c9))))))) (pt.set ⟨b0, 1, none⟩ (.slice (some ⟨g, 0, none⟩) la c9)))
  obtain ⟨x0, x1, x2, xl⟩ := p3
  have xf := p4.2
  clear p1 p2 p4 p5 p6 p7 PP pt
  go_upto_region 9 with fail
  clear x0 x1 x2 xl xf
  generalize World.setCell _ _ _ = w11 at *
  obtain ⟨⟨p1, p2, p3, p5, p6, p7⟩, pt2⟩ := PQ.out
  have PR := Lib.hid (And.intro (And.intro (((p1.far (a := ⟨bR, 0, none⟩) (fun p hp => by cases hp; dsimp only; omega) (.int .i64 (lb : Int))).far (a := ⟨bR, 1, none⟩) (fun p hp => by cases hp; dsimp only; omega) (.slice (some ⟨g, 0, none⟩) la c9)).far (a := ⟨bR, 2, none⟩) (fun p hp => by cases hp; dsimp only; omega) (.slice B lb cb)) (And.intro (isInts_far (isInts_far (isInts_far p2 (a := ⟨bR, 0, none⟩) (fun p hp => by have := HGB.out p hp; dsimp only; omega) (.int .i64 (lb : Int))) (a := ⟨bR, 1, none⟩) (fun p hp => by have := HGB.out p hp; dsimp only; omega) (.slice (some ⟨g, 0, none⟩) la c9)) (a := ⟨bR, 2, none⟩) (fun p hp => by have := HGB.out p hp; dsimp only; omega) (.slice B lb cb)) (And.intro (p5.set (.int .i64 (lb : Int)) (.slice (some ⟨g, 0, none⟩) la c9) (.slice B lb cb)) (((p7.setCell (p := ⟨bR, 0, none⟩) WR (.int .i64 (lb : Int))).setCell (p := ⟨bR, 1, none⟩) WR (.slice (some ⟨g, 0, none⟩) la c9)).setCell (p := ⟨bR, 2, none⟩) WR (.slice B lb cb))))) (((pt2.set ⟨bR, 0, none⟩ (.int .i64 (lb : Int))).set ⟨bR, 1, none⟩ (.slice (some ⟨g, 0, none⟩) la c9)).set ⟨bR, 2, none⟩ (.slice B lb cb)))
  obtain ⟨x0, x1, x2, xl⟩ := p3
  obtain ⟨m0, m1, m2, ml⟩ := p5
  have mf := p6.2
  clear p1 p2 p6 p7 PQ pt2
  go_wp2_with fail
  clear x0 x1 x2 xl m0 m1 m2 ml mf
  generalize World.setCell _ _ _ = w12 at *
  obtain ⟨⟨p1, p2, ⟨m0, m1, m2, ml⟩, p7⟩, pt3⟩ := PR.out
  refine bodyPost_ret (v := .tuple #[.agg #[.int .i64 (lb : Int), .slice (some ⟨g, 0, none⟩) la c9, .slice B lb cb], .int .i64 0]) (by simp [results, Try.results46, go_sem, m0, m1, m2]) rfl ?_
  rw [HG.out]
  have hl1 := HSC.out.hla
  have hl2 := HSC.out.hlb
  refine ⟨_, rfl, some ⟨g, 0, none⟩, c9, B, cb, ?_, ⟨rfl, rfl, ?_, ?_, fun t ht => ?_, ?_, ?_⟩, HO9.out, HNB.out, p7, Or.inr ⟨rfl, rfl⟩, fun p hp => by cases hp; exact pt3⟩
  · dsimp only
    rw [List.length_set, hl1, hl2, HN.out]
  · dsimp only
    rw [List.length_set, hl1, ← HTT.out] at *
    rw [HTT.out]
    exact p1
  · dsimp only
    rw [hl2]
    exact p2
  · rcases List.mem_or_eq_of_mem_set ht with h1 | h1
    · exact HSC.out.ok t h1
    · rw [h1]
      exact ⟨hok.id0, hok.id1, hok.wt0, hok.wt1, by show -9223372036854775808 ≤ (q : Int); omega, by show (q : Int) ≤ 9223372036854775807; omega, mb0, mb1⟩
  · dsimp only
    rw [List.length_set, hl1]; omega
  · dsimp only
    rw [hl2]; omega
end Go.Proofs.Yticgdfbknaholaa
