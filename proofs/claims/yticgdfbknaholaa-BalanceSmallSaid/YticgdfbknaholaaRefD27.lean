/-
  The reference's Pull.
-/
import Derived.Test.YticgdfbknaholaaRefC27
namespace Go.Proofs.Yticgdfbknaholaa
open Go.RowKit

theorem wrap_id' {x : Int} (h0 : -9000000000000000000 ≤ x) (h1 : x ≤ 9000000000000000000) : IntKind.i64.wrap x = x := by
  unfold IntKind.wrap
  simp [IntKind.bits, IntKind.signed]
  omega
theorem bestT_from : ∀ (xs : List Tk) (x : Tk), xs.foldl bestTStep (some x) = match bestT xs with | none => some x | some b => if b.wt ≤ x.wt then some x else some b
  | [], x => rfl
  | y :: xs, x => by
    unfold bestT
    rw [List.foldl_cons, List.foldl_cons]
    have e0 : bestTStep none y = some y := rfl
    rw [e0, bestT_from xs y]
    by_cases h : x.wt < y.wt
    · rw [show bestTStep (some x) y = some y from if_pos h, bestT_from xs y]
      cases hb : bestT xs with
      | none => dsimp only; rw [if_neg (by omega)]
      | some b =>
        dsimp only
        by_cases h2 : b.wt ≤ y.wt
        · rw [if_pos h2]; dsimp only; rw [if_neg (by omega)]
        · rw [if_neg h2]; dsimp only; rw [if_neg (by omega)]
    · rw [show bestTStep (some x) y = some x from if_neg h, bestT_from xs x]
      cases hb : bestT xs with
      | none => dsimp only; rw [if_pos (by omega)]
      | some b =>
        dsimp only
        by_cases h2 : b.wt ≤ y.wt
        · rw [if_pos h2, if_pos (show b.wt ≤ x.wt by omega)]; dsimp only; rw [if_pos (by omega)]
        · rw [if_neg h2]
/-- The heaviest light task from one on, and its index. -/
def isBest (s : Sc) (p q j : Nat) : Option Nat → Prop
  | none => bestT ((s.ts.drop j).filter (litB s p q)) = none
  | some k => k < s.ts.length ∧ bestT ((s.ts.drop j).filter (litB s p q)) = some (s.ts.getD k t0)
theorem isBest_end {s : Sc} {p q : Nat} : isBest s p q s.ts.length none := by
  unfold isBest
  rw [List.drop_length]
  rfl
theorem isBest_skip {s : Sc} {p q i : Nat} {o : Option Nat} (hi : i < s.ts.length) (h : isBest s p q (i + 1) o) (hl : litB s p q (s.ts.getD i t0) = false) : isBest s p q i o := by
  have e : (s.ts.drop i).filter (litB s p q) = (s.ts.drop (i + 1)).filter (litB s p q) := by
    rw [drop_cons' hi, List.filter_cons, if_neg (by rw [hl]; decide)]
  unfold isBest at *
  rw [e]
  exact h
theorem isBest_take {s : Sc} {p q i : Nat} {o : Option Nat} (hi : i < s.ts.length) (h : isBest s p q (i + 1) o) (hl : litB s p q (s.ts.getD i t0) = true) :
    isBest s p q i (match o with | none => some i | some k => if (s.ts.getD k t0).wt ≤ (s.ts.getD i t0).wt then some i else some k) := by
  have e : (s.ts.drop i).filter (litB s p q) = s.ts.getD i t0 :: (s.ts.drop (i + 1)).filter (litB s p q) := by
    rw [drop_cons' hi, List.filter_cons, if_pos hl]
  have e2 : bestT ((s.ts.drop i).filter (litB s p q)) = match bestT ((s.ts.drop (i + 1)).filter (litB s p q)) with | none => some (s.ts.getD i t0) | some b => if b.wt ≤ (s.ts.getD i t0).wt then some (s.ts.getD i t0) else some b := by
    rw [e]
    exact bestT_from _ _
  cases o with
  | none =>
    unfold isBest at h ⊢
    dsimp only at h ⊢
    rw [h] at e2
    exact ⟨hi, e2⟩
  | some k =>
    obtain ⟨h1, h2⟩ := h
    rw [h2] at e2
    dsimp only at e2
    by_cases hc : (s.ts.getD k t0).wt ≤ (s.ts.getD i t0).wt
    · rw [if_pos hc] at e2
      dsimp only
      rw [if_pos hc]
      exact ⟨hi, e2⟩
    · rw [if_neg hc] at e2
      dsimp only
      rw [if_neg hc]
      exact ⟨h1, e2⟩
set_option maxRecDepth 100000 in
set_option maxHeartbeats 8000000 in
theorem refPull_any (W : World) {A B : Option Addr} {la ca lb cb : Nat} {s : Sc} {cpu : Int} (h : ScAt W A la B lb s) (q0 : -9223372036854775808 ≤ cpu) (q1 : cpu ≤ 9223372036854775807) :
    Calls Try.prog 45 #[.agg #[.int .i64 s.n, .slice A la ca, .slice B lb cb], .int .i64 cpu] W fun e w' => e = .returned (.tuple #[.agg #[.int .i64 (pullV s cpu).1.1, .int .i64 (pullV s cpu).1.2.1, .int .i64 (pullV s cpu).1.2.2], .int .i64 (pullV s cpu).2]) ∧ Kp W.heap.size W w' := by
  obtain ⟨rV, hV⟩ : ∃ v, v = pullV s cpu := ⟨_, rfl⟩
  rw [← hV]
  have kk := ((Kp.refl W.heap.size W).alloc (Nat.le_refl _) (.cells #[.int .i64 s.n, .slice A la ca, .slice B lb cb] 83)).alloc (by simp) (.cells #[.int .i64 0, .int .i64 0, .int .i64 0] 89)
  have HX := Lib.hid ((C3.new W (.int .i64 s.n) (.slice A la ca) (.slice B lb cb) 83).alloc (.cells #[.int .i64 0, .int .i64 0, .int .i64 0] 89))
  have hm0 := C3.new (W.alloc (.cells #[.int .i64 s.n, .slice A la ca, .slice B lb cb] 83)) (.int .i64 0) (.int .i64 0) (.int .i64 0) 89
  have hz0 := Fz.new (W.alloc (.cells #[.int .i64 s.n, .slice A la ca, .slice B lb cb] 83)) #[.int .i64 0, .int .i64 0, .int .i64 0] 89
  rw [World.size_alloc] at hm0 hz0
  have HM := Lib.hid hm0
  have HZ := Lib.hid hz0
  have HK := Lib.hid kk
  have HBB := fun w (k : Kp W.heap.size W w) => Lib.hid (refBusiest_any (ca := ca) (cb := cb) (cpu := cpu) w (h.kp k) q0 q1)
  have HSC := Lib.hid (h.kp kk)
  have HV := Lib.hid hV
  clear h kk hV hm0 hz0
  go_enter Try.func45, Try.ntmps45
  go_upto_region 1 with fail
  generalize (W.alloc _).alloc _ = w1 at *
  obtain ⟨b0, hb0⟩ : ∃ b, b = W.heap.size := ⟨_, rfl⟩
  obtain ⟨bM, hbM⟩ : ∃ b, b = W.heap.size + 1 := ⟨_, rfl⟩
  rw [← hbM] at HM HZ
  rw [← hb0] at HX
  rw [← hbM, ← hb0]
  have WM : W.heap.size ≤ bM := by omega
  clear hb0 hbM
  obtain ⟨x0, x1, x2, xl⟩ := HX.out
  go_wp2_with fail
  (with_reducible refine (HBB _ HK.out).out.mono ?_)
  clear x0 x1 x2 xl HBB
  rintro e w2 ⟨rfl, hk⟩
  have HK2 := Lib.hid (HK.out.trans (hk.mono HK.out.size))
  have HX2 := Lib.hid (HX.out.kp hk)
  have HM2 := Lib.hid (HM.out.kp hk)
  have HZ2 := Lib.hid (HZ.out.kp hk)
  have HSC2 := Lib.hid (HSC.out.kp hk)
  clear hk HX HK HM HZ HSC
  obtain ⟨bv, hbv⟩ : ∃ bv, bv = busyN s cpu := ⟨_, rfl⟩
  obtain ⟨be, hbe⟩ : ∃ be, be = busyE s cpu := ⟨_, rfl⟩
  rw [← hbv, ← hbe]
  have HBV := Lib.hid hbv
  have HBE := Lib.hid hbe
  clear hbv hbe
  by_cases hb : be = 0
  rotate_left
  · have hb' : (be != 0) = true := bne_iff_ne.2 hb
    have hr : rV = ((0, 0, 0), be) := by rw [HV.out, HBE.out]; unfold pullV; rw [if_neg (by rw [← HBE.out]; exact hb)]
    subst hr
    obtain ⟨m0, m1, m2, ml⟩ := HM2.out
    have mf := HZ2.out.2
    have P := And.intro (HM2.out.set (.int .i64 0) (.int .i64 0) (.int .i64 0)) (((HK2.out.setCell (p := ⟨bM, 0, none⟩) WM (.int .i64 0)).setCell (p := ⟨bM, 1, none⟩) WM (.int .i64 0)).setCell (p := ⟨bM, 2, none⟩) WM (.int .i64 0))
    clear hb HV
    go_wp2_with fail
    clear m0 m1 m2 ml mf
    generalize World.setCell _ _ _ = w9 at *
    obtain ⟨⟨m0, m1, m2, ml⟩, K⟩ := P
    refine bodyPost_ret (v := .tuple #[.agg #[.int .i64 0, .int .i64 0, .int .i64 0], .int .i64 be]) (by simp [results, Try.results45, go_sem, m0, m1, m2]) rfl ?_
    exact ⟨rfl, K⟩
  subst hb
  obtain ⟨hr, hc0, hc1, p, hp, hpl, hpq⟩ := busy_ok HBE.out.symm
  have hf := (rightS_iff s).1 hr
  obtain ⟨q, rfl⟩ : ∃ q : Nat, cpu = (q : Int) := ⟨cpu.toNat, by omega⟩
  have hbp : bv = (p : Int) := HBV.out.trans hp
  subst hbp
  have hV2 : rV = (match bestT (s.ts.filter (litB s p q)) with | none => ((0, 0, 0), 6) | some t => ((t.id, (p : Int), (q : Int)), 0)) := by
    rw [HV.out]
    unfold pullV pullT
    rw [if_pos HBE.out.symm, hp, Int.toNat_natCast, Int.toNat_natCast, light_filter]
    rfl
  have HV2 := Lib.hid hV2
  have hn3 := hf.cur
  rw [HSC2.out.hlb] at hn3
  have hn64 := hf.n64
  have hql : q < lb := by omega
  rw [HSC2.out.hlb] at hpl
  have HF := Lib.hid hf
  obtain ⟨n, hn⟩ : ∃ n, n = s.n := ⟨_, rfl⟩
  rw [← hn] at HX2 hn3 hn64
  have HN := Lib.hid hn
  have hlen := hf.len
  rw [HSC2.out.hla] at hlen
  clear hV2 hp hr hc0 hc1 hf HBE HBV HV hn
  subst hn3
  have HLD := fun (c : Nat) w (k : Kp w2.heap.size w2 w) => Lib.hid (load_any (c := c) (ca := ca) (cb := cb) w (HSC2.out.kp k) HF.out)
  rw [← HN.out] at HLD
  obtain ⟨x0, x1, x2, xl⟩ := HX2.out
  go_wp2_with fail
  clear x0 x1 x2 xl
  go_loopw [8, 9] (fun o i wr => ∃ (j : Nat) (ob : Option Nat), j ≤ la ∧ i = .int .i64 ((j : Int) - 1) ∧ o = .int .i64 (outI ob) ∧ isBest s p q j ob ∧ Kp w2.heap.size w2 wr) (fun _ i _ => (intOf i + 1).toNat)
  case atStart => exact ⟨la, none, Nat.le_refl _, rfl, rfl, by rw [← HSC2.out.hla]; exact isBest_end, Kp.refl _ _⟩
  case round =>
    obtain ⟨j, ob, hj, rfl, rfl, hib, hk⟩ := hrel
    have HIB := Lib.hid hib
    have HJ := Lib.hid hk
    clear hk hib
    have HXS := Lib.hid (HX2.out.kp HJ.out)
    rcases Nat.eq_zero_or_pos j with hj0 | hj0
    · subst hj0
      have hM := HM2.out.kp HJ.out
      obtain ⟨m0, m1, m2, ml⟩ := hM
      have mf := (HZ2.out.kp HJ.out).2
      have hKf := HK2.out.trans (HJ.out.mono HK2.out.size)
      cases ob with
      | none =>
        have e : rV = ((0, 0, 0), 6) := by
          rw [HV2.out]
          have h := HIB.out
          unfold isBest at h
          rw [List.drop_zero] at h
          rw [h]
        subst e
        have P := And.intro ((HM2.out.kp HJ.out).set (.int .i64 0) (.int .i64 0) (.int .i64 0)) (((hKf.setCell (p := ⟨bM, 0, none⟩) WM (.int .i64 0)).setCell (p := ⟨bM, 1, none⟩) WM (.int .i64 0)).setCell (p := ⟨bM, 2, none⟩) WM (.int .i64 0))
        simp only [outI]
        clear hKf
        go_wp2_with fail
        clear m0 m1 m2 ml mf
        generalize World.setCell _ _ _ = w9 at *
        obtain ⟨⟨m0, m1, m2, ml⟩, K⟩ := P
        refine bodyPost_ret (v := .tuple #[.agg #[.int .i64 0, .int .i64 0, .int .i64 0], .int .i64 6]) (by simp [results, Try.results45, go_sem, m0, m1, m2]) rfl ?_
        exact ⟨rfl, K⟩
      | some k =>
        have hib := HIB.out
        unfold isBest at hib
        rw [List.drop_zero] at hib
        obtain ⟨hkl, hbt⟩ := hib
        have e : rV = (((s.ts.getD k t0).id, (p : Int), (q : Int)), 0) := by rw [HV2.out, hbt]
        obtain ⟨b, off, rfl, T⟩ := (HSC2.out.kp HJ.out).ts k (by rw [← HSC2.out.hla]; exact hkl)
        have c0 := T.c0
        have cl := T.lt
        have hkla : k < la := by rw [← HSC2.out.hla]; exact hkl
        generalize (s.ts.getD k t0).id = z at *
        subst e
        have hki : (k : Int) < (la : Int) := by omega
        have P := And.intro ((HM2.out.kp HJ.out).set (.int .i64 z) (.int .i64 (p : Int)) (.int .i64 (q : Int))) (((hKf.setCell (p := ⟨bM, 0, none⟩) WM (.int .i64 z)).setCell (p := ⟨bM, 1, none⟩) WM (.int .i64 (p : Int))).setCell (p := ⟨bM, 2, none⟩) WM (.int .i64 (q : Int)))
        simp only [outI]
        obtain ⟨x0, x1, x2, xl⟩ := HXS.out
        clear hKf hbt hkl T
        go_wp2_with fail
        clear m0 m1 m2 ml mf c0 cl x0 x1 x2 xl
        generalize World.setCell _ _ _ = w9 at *
        obtain ⟨⟨m0, m1, m2, ml⟩, K⟩ := P
        refine bodyPost_ret (v := .tuple #[.agg #[.int .i64 z, .int .i64 (p : Int), .int .i64 (q : Int)], .int .i64 0]) (by simp [results, Try.results45, go_sem, m0, m1, m2]) rfl ?_
        exact ⟨rfl, K⟩
    · obtain ⟨i, rfl⟩ : ∃ i, j = i + 1 := ⟨j - 1, by omega⟩
      have hii : (((i + 1 : Nat) : Int) - 1) = (i : Int) := by omega
      rw [hii]
      have hwi : IntKind.i64.wrap (i : Int) = (i : Int) := wrap_id (by omega) (by omega)
      have hi0 : (0 : Int) ≤ (i : Int) := by omega
      have hil : i < la := by omega
      have hili : (i : Int) < (la : Int) := by omega
      have hits : i < s.ts.length := by rw [HSC2.out.hla]; exact hil
      have HSKIP := Lib.hid (fun hl => isBest_skip hits HIB.out hl)
      have HTAKE := Lib.hid (fun hl => isBest_take hits HIB.out hl)
      have hft := HF.out.each _ (getD_mem' hits)
      have hok := HSC2.out.ok _ (getD_mem' hits)
      have hwk : ∀ k, ob = some k → 1 ≤ (s.ts.getD k t0).wt ∧ k < la := fun k e => by
        have h := HIB.out
        rw [e] at h
        exact ⟨(HF.out.each _ (getD_mem' h.1)).wt0, by rw [← HSC2.out.hla]; exact h.1⟩
      have HWK := Lib.hid hwk
      obtain ⟨b, off, rfl, T⟩ := (HSC2.out.kp HJ.out).ts i hil
      have HLIT := Lib.hid (show litB s p q (s.ts.getD i t0) = ((s.ts.getD i t0).rdy && ((s.ts.getD i t0).cpu == (p : Int)) && (s.cur.getD p 0 != (s.ts.getD i t0).id) && hasB (s.ts.getD i t0).mask (q : Int) && decide (2 * (s.ts.getD i t0).wt ≤ loadV s.ts p - loadV s.ts q)) from by
        unfold litB freeB lightB
        rw [Int.toNat_natCast])
      generalize s.ts.getD i t0 = t at *
      obtain ⟨id, grp, wt, tc, mask, rdy, v, r'⟩ := t
      obtain ⟨tc0, tc1, _, _, hw1, hw2, _⟩ := hft
      have m0 := hok.mask0
      have m1 := hok.mask1
      dsimp only at tc0 tc1 hw1 hw2 m0 m1 HLIT
      rw [← HN.out] at tc1
      obtain ⟨c0, c1, c2, c3, c4, c5, c6, c7, cl⟩ := T
      dsimp only at c0 c1 c2 c3 c4 c5 c6 c7
      obtain ⟨x0, x1, x2, xl⟩ := HXS.out
      go_upto_region 9 with fail
      have kk : Kp wr.heap.size wr (wr.alloc (.cells (tkc ⟨id, grp, wt, tc, mask, rdy, v, r'⟩) 43)) := (Kp.refl _ _).alloc (Nat.le_refl _) _
      have HT := Lib.hid (TkAt.new wr ⟨id, grp, wt, tc, mask, rdy, v, r'⟩ 43)
      have HX3 := Lib.hid (HXS.out.kp kk)
      have HJ2 := Lib.hid (HJ.out.trans (kk.mono HJ.out.size))
      obtain ⟨bT, hbT⟩ : ∃ b, b = wr.heap.size := ⟨_, rfl⟩
      rw [← hbT] at HT
      rw [← hbT]
      dsimp only [tkc] at HT HX3 HJ2
      clear c0 c1 c2 c3 c4 c5 c6 c7 cl x0 x1 x2 xl kk hbT HJ HXS hwk hok
      generalize wr.alloc _ = w3 at *
      by_cases hcp : tc = (p : Int)
      rotate_left
      · have hcp' : (tc != (p : Int)) = true := bne_iff_ne.2 hcp
        have HB := Lib.hid (HSKIP.out (by rw [HLIT.out, beq_eq_false_iff_ne.2 hcp]; simp))
        obtain ⟨c0, c1, c2, c3, c4, c5, c6, c7, cl⟩ := HT.out
        simp only [Nat.zero_add] at c0 c1 c2 c3 c4 c5 c6 c7
        go_quiet (fail)
        go_wp2_with fail
        go_roundw
        case rel => exact ⟨i, ob, by omega, by go_num, by first | trivial | rfl, HB.out, HJ2.out.drewN _⟩
        case measure => first | (simp [intOf]; done) | (simp [intOf]; omega)
      subst hcp
      have HFR := fun w (k : Kp w2.heap.size w2 w) => Lib.hid (freeR_any (t := ⟨id, grp, wt, (p : Int), mask, rdy, v, r'⟩) (ca := ca) (cb := cb) w (HSC2.out.kp k) (by dsimp only; omega) (by dsimp only; omega))
      have HMY := fun w => Lib.hid (may_any w (t := ⟨id, grp, wt, (p : Int), mask, rdy, v, r'⟩) (c := q) m0 m1 (by omega))
      rw [← HN.out] at HFR
      dsimp only [tkv] at HFR HMY
      have hfr : freeR s ⟨id, grp, wt, (p : Int), mask, rdy, v, r'⟩ = (rdy && (s.cur.getD p 0 != id)) := by unfold freeR; dsimp only; rw [Int.toNat_natCast]
      have HLIT2 := Lib.hid (show litB s p q ⟨id, grp, wt, (p : Int), mask, rdy, v, r'⟩ = (freeR s ⟨id, grp, wt, (p : Int), mask, rdy, v, r'⟩ && hasB mask (q : Int) && decide (2 * wt ≤ loadV s.ts p - loadV s.ts q)) from by
        rw [HLIT.out, hfr]
        cases rdy <;> simp)
      generalize freeR s ⟨id, grp, wt, (p : Int), mask, rdy, v, r'⟩ = fr at *
      clear hfr HLIT
      cases fr
      · have HB := Lib.hid (HSKIP.out (by rw [HLIT2.out]; rfl))
        refine wp_region_noPanic ?_
        refine wp_region_anyN (fun w' => w'.cell? ⟨bT, 0, none⟩ = some (.int .i64 id) ∧ w'.cell? ⟨bT, 1, none⟩ = some (.int .i64 grp) ∧ w'.cell? ⟨bT, 2, none⟩ = some (.int .i64 wt) ∧ w'.cell? ⟨bT, 3, none⟩ = some (.int .i64 (p : Int)) ∧ w'.cell? ⟨bT, 4, none⟩ = some (.int .u64 mask) ∧ w'.cell? ⟨bT, 5, none⟩ = some (.bool rdy) ∧ w'.cell? ⟨bT, 6, none⟩ = some (.int .u64 v) ∧ w'.cell? ⟨bT, 7, none⟩ = some (.int .u32 r') ∧ w'.cell? ⟨b0, 0, none⟩ = some (.int .i64 (lb : Int)) ∧ w'.cell? ⟨b0, 1, none⟩ = some (.slice (some ⟨b, off, none⟩) la ca) ∧ w'.cell? ⟨b0, 2, none⟩ = some (.slice B lb cb)) 29 (by kernel_rfl) ?_
        have kd : Kp w3.heap.size w3 w3.drew := (Kp.refl _ _).drewN 1
        replace HT := Lib.hid (HT.out.kp kd)
        replace HX3 := Lib.hid (HX3.out.kp kd)
        replace HJ2 := Lib.hid (HJ2.out.trans (kd.mono HJ2.out.size))
        clear kd
        generalize w3.drew = wx1 at *
        have hS : wx1.cell? ⟨bT, 0, none⟩ = some (.int .i64 id) ∧ wx1.cell? ⟨bT, 1, none⟩ = some (.int .i64 grp) ∧ wx1.cell? ⟨bT, 2, none⟩ = some (.int .i64 wt) ∧ wx1.cell? ⟨bT, 3, none⟩ = some (.int .i64 (p : Int)) ∧ wx1.cell? ⟨bT, 4, none⟩ = some (.int .u64 mask) ∧ wx1.cell? ⟨bT, 5, none⟩ = some (.bool rdy) ∧ wx1.cell? ⟨bT, 6, none⟩ = some (.int .u64 v) ∧ wx1.cell? ⟨bT, 7, none⟩ = some (.int .u32 r') ∧ wx1.cell? ⟨b0, 0, none⟩ = some (.int .i64 (lb : Int)) ∧ wx1.cell? ⟨b0, 1, none⟩ = some (.slice (some ⟨b, off, none⟩) la ca) ∧ wx1.cell? ⟨b0, 2, none⟩ = some (.slice B lb cb) := ⟨HT.out.c0, HT.out.c1, HT.out.c2, HT.out.c3, HT.out.c4, HT.out.c5, HT.out.c6, HT.out.c7, HX3.out.c0, HX3.out.c1, HX3.out.c2⟩
        refine anyN_takeR 0 (v := ?_) rfl (by kernel_rfl) (by kernel_rfl) (by kernel_rfl) (by kernel_rfl) (fun _ _ _ h => h) (Or.inl ⟨by rfl, ?_⟩) hS ?_
        rotate_left
        · intro w hSw
          obtain ⟨_, _, _, _, _, _, _, _, _, _, _⟩ := hSw
          go_simp
          try with_reducible rfl
        simp only [Act.put, List.setIfInBounds_toArray, List.set_cons_zero, List.set_cons_succ]
        refine anyN_takeR 1 (v := ?_) rfl (by kernel_rfl) (by kernel_rfl) (by kernel_rfl) (by kernel_rfl) (fun _ _ _ h => h) (Or.inl ⟨by rfl, ?_⟩) hS ?_
        rotate_left
        · intro w hSw
          obtain ⟨_, _, _, _, _, _, _, _, _, _, _⟩ := hSw
          go_simp
          try with_reducible rfl
        simp only [Act.put, List.setIfInBounds_toArray, List.set_cons_zero, List.set_cons_succ]
        refine anyN_takeR 2 (v := ?_) rfl (by kernel_rfl) (by kernel_rfl) (by kernel_rfl) (by kernel_rfl) (fun _ _ _ h => h) (Or.inl ⟨by rfl, ?_⟩) hS ?_
        rotate_left
        · intro w hSw
          obtain ⟨_, _, _, _, _, _, _, _, _, _, _⟩ := hSw
          go_simp
          try with_reducible rfl
        simp only [Act.put, List.setIfInBounds_toArray, List.set_cons_zero, List.set_cons_succ]
        refine anyN_takeR 3 (v := ?_) rfl (by kernel_rfl) (by kernel_rfl) (by kernel_rfl) (by kernel_rfl) (fun _ _ _ h => h) (Or.inl ⟨by rfl, ?_⟩) hS ?_
        rotate_left
        · intro w hSw
          obtain ⟨_, _, _, _, _, _, _, _, _, _, _⟩ := hSw
          go_simp
          try with_reducible rfl
        simp only [Act.put, List.setIfInBounds_toArray, List.set_cons_zero, List.set_cons_succ]
        refine anyN_takeR 4 (v := ?_) rfl (by kernel_rfl) (by kernel_rfl) (by kernel_rfl) (by kernel_rfl) (fun _ _ _ h => h) (Or.inl ⟨by rfl, ?_⟩) hS ?_
        rotate_left
        · intro w hSw
          obtain ⟨_, _, _, _, _, _, _, _, _, _, _⟩ := hSw
          go_simp
          try with_reducible rfl
        simp only [Act.put, List.setIfInBounds_toArray, List.set_cons_zero, List.set_cons_succ]
        refine anyN_takeR 5 (v := ?_) rfl (by kernel_rfl) (by kernel_rfl) (by kernel_rfl) (by kernel_rfl) (fun _ _ _ h => h) (Or.inl ⟨by rfl, ?_⟩) hS ?_
        rotate_left
        · intro w hSw
          obtain ⟨_, _, _, _, _, _, _, _, _, _, _⟩ := hSw
          go_simp
          try with_reducible rfl
        simp only [Act.put, List.setIfInBounds_toArray, List.set_cons_zero, List.set_cons_succ]
        refine anyN_takeR 6 (v := ?_) rfl (by kernel_rfl) (by kernel_rfl) (by kernel_rfl) (by kernel_rfl) (fun _ _ _ h => h) (Or.inl ⟨by rfl, ?_⟩) hS ?_
        rotate_left
        · intro w hSw
          obtain ⟨_, _, _, _, _, _, _, _, _, _, _⟩ := hSw
          go_simp
          try with_reducible rfl
        simp only [Act.put, List.setIfInBounds_toArray, List.set_cons_zero, List.set_cons_succ]
        refine anyN_oneG 7 rfl (by kernel_rfl) (by rfl) ?_
        go_simp
        (with_reducible refine (HFR _ HJ2.out).out.mono ?_)
        clear hS
        rintro e wx2 ⟨rfl, hk⟩
        replace HT := Lib.hid (HT.out.kp hk)
        replace HX3 := Lib.hid (HX3.out.kp hk)
        replace HJ2 := Lib.hid (HJ2.out.trans (hk.mono HJ2.out.size))
        clear hk
        dsimp only
        refine and_keep ⟨HT.out.c0, HT.out.c1, HT.out.c2, HT.out.c3, HT.out.c4, HT.out.c5, HT.out.c6, HT.out.c7, HX3.out.c0, HX3.out.c1, HX3.out.c2⟩ (fun hS => ?_)
        refine anyN_takeR 8 (v := ?_) rfl (by kernel_rfl) (by kernel_rfl) (by kernel_rfl) (by kernel_rfl) (fun _ _ _ h => h) (Or.inl ⟨by rfl, ?_⟩) hS ?_
        rotate_left
        · intro w hSw
          obtain ⟨_, _, _, _, _, _, _, _, _, _, _⟩ := hSw
          go_simp
          try with_reducible rfl
        simp only [Act.put, List.setIfInBounds_toArray, List.set_cons_zero, List.set_cons_succ]
        refine anyN_takeR 9 (v := ?_) rfl (by kernel_rfl) (by kernel_rfl) (by kernel_rfl) (by kernel_rfl) (fun _ _ _ h => h) (Or.inl ⟨by rfl, ?_⟩) hS ?_
        rotate_left
        · intro w hSw
          obtain ⟨_, _, _, _, _, _, _, _, _, _, _⟩ := hSw
          go_simp
          try with_reducible rfl
        simp only [Act.put, List.setIfInBounds_toArray, List.set_cons_zero, List.set_cons_succ]
        refine anyN_takeR 10 (v := ?_) rfl (by kernel_rfl) (by kernel_rfl) (by kernel_rfl) (by kernel_rfl) (fun _ _ _ h => h) (Or.inl ⟨by rfl, ?_⟩) hS ?_
        rotate_left
        · intro w hSw
          obtain ⟨_, _, _, _, _, _, _, _, _, _, _⟩ := hSw
          go_simp
          try with_reducible rfl
        simp only [Act.put, List.setIfInBounds_toArray, List.set_cons_zero, List.set_cons_succ]
        refine anyN_takeR 11 (v := undef) rfl (by kernel_rfl) (by kernel_rfl) (by kernel_rfl) (by kernel_rfl) (fun _ _ _ h => h) (Or.inr ⟨by rfl, rfl⟩) hS ?_
        simp only [Act.put, List.setIfInBounds_toArray, List.set_cons_zero, List.set_cons_succ]
        refine anyN_takeR 12 (v := undef) rfl (by kernel_rfl) (by kernel_rfl) (by kernel_rfl) (by kernel_rfl) (fun _ _ _ h => h) (Or.inr ⟨by rfl, rfl⟩) hS ?_
        simp only [Act.put, List.setIfInBounds_toArray, List.set_cons_zero, List.set_cons_succ]
        refine anyN_takeR 13 (v := undef) rfl (by kernel_rfl) (by kernel_rfl) (by kernel_rfl) (by kernel_rfl) (fun _ _ _ h => h) (Or.inr ⟨by rfl, rfl⟩) hS ?_
        simp only [Act.put, List.setIfInBounds_toArray, List.set_cons_zero, List.set_cons_succ]
        refine anyN_takeR 14 (v := undef) rfl (by kernel_rfl) (by kernel_rfl) (by kernel_rfl) (by kernel_rfl) (fun _ _ _ h => h) (Or.inr ⟨by rfl, rfl⟩) hS ?_
        simp only [Act.put, List.setIfInBounds_toArray, List.set_cons_zero, List.set_cons_succ]
        refine anyN_takeR 15 (v := ?_) rfl (by kernel_rfl) (by kernel_rfl) (by kernel_rfl) (by kernel_rfl) (fun _ _ _ h => h) (Or.inl ⟨by rfl, ?_⟩) hS ?_
        rotate_left
        · intro w hSw
          obtain ⟨_, _, _, _, _, _, _, _, _, _, _⟩ := hSw
          go_simp
          try with_reducible rfl
        simp only [Act.put, List.setIfInBounds_toArray, List.set_cons_zero, List.set_cons_succ]
        refine anyN_takeR 16 (v := ?_) rfl (by kernel_rfl) (by kernel_rfl) (by kernel_rfl) (by kernel_rfl) (fun _ _ _ h => h) (Or.inl ⟨by rfl, ?_⟩) hS ?_
        rotate_left
        · intro w hSw
          obtain ⟨_, _, _, _, _, _, _, _, _, _, _⟩ := hSw
          go_simp
          try with_reducible rfl
        simp only [Act.put, List.setIfInBounds_toArray, List.set_cons_zero, List.set_cons_succ]
        refine anyN_takeR 17 (v := undef) rfl (by kernel_rfl) (by kernel_rfl) (by kernel_rfl) (by kernel_rfl) (fun _ _ _ h => h) (Or.inr ⟨by rfl, rfl⟩) hS ?_
        simp only [Act.put, List.setIfInBounds_toArray, List.set_cons_zero, List.set_cons_succ]
        refine anyN_takeR 18 (v := undef) rfl (by kernel_rfl) (by kernel_rfl) (by kernel_rfl) (by kernel_rfl) (fun _ _ _ h => h) (Or.inr ⟨by rfl, rfl⟩) hS ?_
        simp only [Act.put, List.setIfInBounds_toArray, List.set_cons_zero, List.set_cons_succ]
        refine anyN_takeR 19 (v := undef) rfl (by kernel_rfl) (by kernel_rfl) (by kernel_rfl) (by kernel_rfl) (fun _ _ _ h => h) (Or.inr ⟨by rfl, rfl⟩) hS ?_
        simp only [Act.put, List.setIfInBounds_toArray, List.set_cons_zero, List.set_cons_succ]
        refine anyN_takeR 20 (v := undef) rfl (by kernel_rfl) (by kernel_rfl) (by kernel_rfl) (by kernel_rfl) (fun _ _ _ h => h) (Or.inr ⟨by rfl, rfl⟩) hS ?_
        simp only [Act.put, List.setIfInBounds_toArray, List.set_cons_zero, List.set_cons_succ]
        refine anyN_takeR 21 (v := undef) rfl (by kernel_rfl) (by kernel_rfl) (by kernel_rfl) (by kernel_rfl) (fun _ _ _ h => h) (Or.inr ⟨by rfl, rfl⟩) hS ?_
        simp only [Act.put, List.setIfInBounds_toArray, List.set_cons_zero, List.set_cons_succ]
        refine anyN_takeR 22 (v := undef) rfl (by kernel_rfl) (by kernel_rfl) (by kernel_rfl) (by kernel_rfl) (fun _ _ _ h => h) (Or.inr ⟨by rfl, rfl⟩) hS ?_
        simp only [Act.put, List.setIfInBounds_toArray, List.set_cons_zero, List.set_cons_succ]
        refine anyN_takeR 23 (v := undef) rfl (by kernel_rfl) (by kernel_rfl) (by kernel_rfl) (by kernel_rfl) (fun _ _ _ h => h) (Or.inr ⟨by rfl, rfl⟩) hS ?_
        simp only [Act.put, List.setIfInBounds_toArray, List.set_cons_zero, List.set_cons_succ]
        refine anyN_takeR 24 (v := undef) rfl (by kernel_rfl) (by kernel_rfl) (by kernel_rfl) (by kernel_rfl) (fun _ _ _ h => h) (Or.inr ⟨by rfl, rfl⟩) hS ?_
        simp only [Act.put, List.setIfInBounds_toArray, List.set_cons_zero, List.set_cons_succ]
        refine anyN_takeR 25 (v := undef) rfl (by kernel_rfl) (by kernel_rfl) (by kernel_rfl) (by kernel_rfl) (fun _ _ _ h => h) (Or.inr ⟨by rfl, rfl⟩) hS ?_
        simp only [Act.put, List.setIfInBounds_toArray, List.set_cons_zero, List.set_cons_succ]
        refine anyN_takeR 26 (v := undef) rfl (by kernel_rfl) (by kernel_rfl) (by kernel_rfl) (by kernel_rfl) (fun _ _ _ h => h) (Or.inr ⟨by rfl, rfl⟩) hS ?_
        simp only [Act.put, List.setIfInBounds_toArray, List.set_cons_zero, List.set_cons_succ]
        refine anyN_takeR 27 (v := undef) rfl (by kernel_rfl) (by kernel_rfl) (by kernel_rfl) (by kernel_rfl) (fun _ _ _ h => h) (Or.inr ⟨by rfl, rfl⟩) hS ?_
        simp only [Act.put, List.setIfInBounds_toArray, List.set_cons_zero, List.set_cons_succ]
        refine anyN_takeR 28 (v := ?_) rfl (by kernel_rfl) (by kernel_rfl) (by kernel_rfl) (by kernel_rfl) (fun _ _ _ h => h) (Or.inl ⟨by rfl, ?_⟩) hS ?_
        rotate_left
        · intro w hSw
          obtain ⟨_, _, _, _, _, _, _, _, _, _, _⟩ := hSw
          go_simp
          try with_reducible rfl
        simp only [Act.put, List.setIfInBounds_toArray, List.set_cons_zero, List.set_cons_succ]
        refine anyN_done (by kernel_rfl) ?_
        refine NoPanic.normal ?_
        clear hS
        go_wp2_with fail
        go_roundw
        case rel => exact ⟨i, ob, by omega, by go_num, by first | trivial | rfl, HB.out, HJ2.out⟩
        case measure => first | (simp [intOf]; done) | (simp [intOf]; omega)
      cases hb : hasB mask (q : Int)
      · have HB := Lib.hid (HSKIP.out (by rw [HLIT2.out, hb]; rfl))
        rw [hb] at HMY
        refine wp_region_noPanic ?_
        refine wp_region_anyN (fun w' => w'.cell? ⟨bT, 0, none⟩ = some (.int .i64 id) ∧ w'.cell? ⟨bT, 1, none⟩ = some (.int .i64 grp) ∧ w'.cell? ⟨bT, 2, none⟩ = some (.int .i64 wt) ∧ w'.cell? ⟨bT, 3, none⟩ = some (.int .i64 (p : Int)) ∧ w'.cell? ⟨bT, 4, none⟩ = some (.int .u64 mask) ∧ w'.cell? ⟨bT, 5, none⟩ = some (.bool rdy) ∧ w'.cell? ⟨bT, 6, none⟩ = some (.int .u64 v) ∧ w'.cell? ⟨bT, 7, none⟩ = some (.int .u32 r') ∧ w'.cell? ⟨b0, 0, none⟩ = some (.int .i64 (lb : Int)) ∧ w'.cell? ⟨b0, 1, none⟩ = some (.slice (some ⟨b, off, none⟩) la ca) ∧ w'.cell? ⟨b0, 2, none⟩ = some (.slice B lb cb)) 29 (by kernel_rfl) ?_
        have kd : Kp w3.heap.size w3 w3.drew := (Kp.refl _ _).drewN 1
        replace HT := Lib.hid (HT.out.kp kd)
        replace HX3 := Lib.hid (HX3.out.kp kd)
        replace HJ2 := Lib.hid (HJ2.out.trans (kd.mono HJ2.out.size))
        clear kd
        generalize w3.drew = wy1 at *
        have hS : wy1.cell? ⟨bT, 0, none⟩ = some (.int .i64 id) ∧ wy1.cell? ⟨bT, 1, none⟩ = some (.int .i64 grp) ∧ wy1.cell? ⟨bT, 2, none⟩ = some (.int .i64 wt) ∧ wy1.cell? ⟨bT, 3, none⟩ = some (.int .i64 (p : Int)) ∧ wy1.cell? ⟨bT, 4, none⟩ = some (.int .u64 mask) ∧ wy1.cell? ⟨bT, 5, none⟩ = some (.bool rdy) ∧ wy1.cell? ⟨bT, 6, none⟩ = some (.int .u64 v) ∧ wy1.cell? ⟨bT, 7, none⟩ = some (.int .u32 r') ∧ wy1.cell? ⟨b0, 0, none⟩ = some (.int .i64 (lb : Int)) ∧ wy1.cell? ⟨b0, 1, none⟩ = some (.slice (some ⟨b, off, none⟩) la ca) ∧ wy1.cell? ⟨b0, 2, none⟩ = some (.slice B lb cb) := ⟨HT.out.c0, HT.out.c1, HT.out.c2, HT.out.c3, HT.out.c4, HT.out.c5, HT.out.c6, HT.out.c7, HX3.out.c0, HX3.out.c1, HX3.out.c2⟩
        refine anyN_takeR 0 (v := ?_) rfl (by kernel_rfl) (by kernel_rfl) (by kernel_rfl) (by kernel_rfl) (fun _ _ _ h => h) (Or.inl ⟨by rfl, ?_⟩) hS ?_
        rotate_left
        · intro w hSw
          obtain ⟨_, _, _, _, _, _, _, _, _, _, _⟩ := hSw
          go_simp
          try with_reducible rfl
        simp only [Act.put, List.setIfInBounds_toArray, List.set_cons_zero, List.set_cons_succ]
        refine anyN_takeR 1 (v := ?_) rfl (by kernel_rfl) (by kernel_rfl) (by kernel_rfl) (by kernel_rfl) (fun _ _ _ h => h) (Or.inl ⟨by rfl, ?_⟩) hS ?_
        rotate_left
        · intro w hSw
          obtain ⟨_, _, _, _, _, _, _, _, _, _, _⟩ := hSw
          go_simp
          try with_reducible rfl
        simp only [Act.put, List.setIfInBounds_toArray, List.set_cons_zero, List.set_cons_succ]
        refine anyN_takeR 2 (v := ?_) rfl (by kernel_rfl) (by kernel_rfl) (by kernel_rfl) (by kernel_rfl) (fun _ _ _ h => h) (Or.inl ⟨by rfl, ?_⟩) hS ?_
        rotate_left
        · intro w hSw
          obtain ⟨_, _, _, _, _, _, _, _, _, _, _⟩ := hSw
          go_simp
          try with_reducible rfl
        simp only [Act.put, List.setIfInBounds_toArray, List.set_cons_zero, List.set_cons_succ]
        refine anyN_takeR 3 (v := ?_) rfl (by kernel_rfl) (by kernel_rfl) (by kernel_rfl) (by kernel_rfl) (fun _ _ _ h => h) (Or.inl ⟨by rfl, ?_⟩) hS ?_
        rotate_left
        · intro w hSw
          obtain ⟨_, _, _, _, _, _, _, _, _, _, _⟩ := hSw
          go_simp
          try with_reducible rfl
        simp only [Act.put, List.setIfInBounds_toArray, List.set_cons_zero, List.set_cons_succ]
        refine anyN_takeR 4 (v := ?_) rfl (by kernel_rfl) (by kernel_rfl) (by kernel_rfl) (by kernel_rfl) (fun _ _ _ h => h) (Or.inl ⟨by rfl, ?_⟩) hS ?_
        rotate_left
        · intro w hSw
          obtain ⟨_, _, _, _, _, _, _, _, _, _, _⟩ := hSw
          go_simp
          try with_reducible rfl
        simp only [Act.put, List.setIfInBounds_toArray, List.set_cons_zero, List.set_cons_succ]
        refine anyN_takeR 5 (v := ?_) rfl (by kernel_rfl) (by kernel_rfl) (by kernel_rfl) (by kernel_rfl) (fun _ _ _ h => h) (Or.inl ⟨by rfl, ?_⟩) hS ?_
        rotate_left
        · intro w hSw
          obtain ⟨_, _, _, _, _, _, _, _, _, _, _⟩ := hSw
          go_simp
          try with_reducible rfl
        simp only [Act.put, List.setIfInBounds_toArray, List.set_cons_zero, List.set_cons_succ]
        refine anyN_takeR 6 (v := ?_) rfl (by kernel_rfl) (by kernel_rfl) (by kernel_rfl) (by kernel_rfl) (fun _ _ _ h => h) (Or.inl ⟨by rfl, ?_⟩) hS ?_
        rotate_left
        · intro w hSw
          obtain ⟨_, _, _, _, _, _, _, _, _, _, _⟩ := hSw
          go_simp
          try with_reducible rfl
        simp only [Act.put, List.setIfInBounds_toArray, List.set_cons_zero, List.set_cons_succ]
        refine anyN_oneG 7 rfl (by kernel_rfl) (by rfl) ?_
        go_simp
        (with_reducible refine (HFR _ HJ2.out).out.mono ?_)
        clear hS
        rintro e wy2 ⟨rfl, hk⟩
        replace HT := Lib.hid (HT.out.kp hk)
        replace HX3 := Lib.hid (HX3.out.kp hk)
        replace HJ2 := Lib.hid (HJ2.out.trans (hk.mono HJ2.out.size))
        clear hk
        dsimp only
        refine and_keep ⟨HT.out.c0, HT.out.c1, HT.out.c2, HT.out.c3, HT.out.c4, HT.out.c5, HT.out.c6, HT.out.c7, HX3.out.c0, HX3.out.c1, HX3.out.c2⟩ (fun hS => ?_)
        refine anyN_takeR 8 (v := ?_) rfl (by kernel_rfl) (by kernel_rfl) (by kernel_rfl) (by kernel_rfl) (fun _ _ _ h => h) (Or.inl ⟨by rfl, ?_⟩) hS ?_
        rotate_left
        · intro w hSw
          obtain ⟨_, _, _, _, _, _, _, _, _, _, _⟩ := hSw
          go_simp
          try with_reducible rfl
        simp only [Act.put, List.setIfInBounds_toArray, List.set_cons_zero, List.set_cons_succ]
        refine anyN_takeR 9 (v := ?_) rfl (by kernel_rfl) (by kernel_rfl) (by kernel_rfl) (by kernel_rfl) (fun _ _ _ h => h) (Or.inl ⟨by rfl, ?_⟩) hS ?_
        rotate_left
        · intro w hSw
          obtain ⟨_, _, _, _, _, _, _, _, _, _, _⟩ := hSw
          go_simp
          try with_reducible rfl
        simp only [Act.put, List.setIfInBounds_toArray, List.set_cons_zero, List.set_cons_succ]
        refine anyN_takeR 10 (v := ?_) rfl (by kernel_rfl) (by kernel_rfl) (by kernel_rfl) (by kernel_rfl) (fun _ _ _ h => h) (Or.inl ⟨by rfl, ?_⟩) hS ?_
        rotate_left
        · intro w hSw
          obtain ⟨_, _, _, _, _, _, _, _, _, _, _⟩ := hSw
          go_simp
          try with_reducible rfl
        simp only [Act.put, List.setIfInBounds_toArray, List.set_cons_zero, List.set_cons_succ]
        refine anyN_takeR 11 (v := ?_) rfl (by kernel_rfl) (by kernel_rfl) (by kernel_rfl) (by kernel_rfl) (fun _ _ _ h => h) (Or.inl ⟨by rfl, ?_⟩) hS ?_
        rotate_left
        · intro w hSw
          obtain ⟨_, _, _, _, _, _, _, _, _, _, _⟩ := hSw
          go_simp
          try with_reducible rfl
        simp only [Act.put, List.setIfInBounds_toArray, List.set_cons_zero, List.set_cons_succ]
        refine anyN_takeR 12 (v := ?_) rfl (by kernel_rfl) (by kernel_rfl) (by kernel_rfl) (by kernel_rfl) (fun _ _ _ h => h) (Or.inl ⟨by rfl, ?_⟩) hS ?_
        rotate_left
        · intro w hSw
          obtain ⟨_, _, _, _, _, _, _, _, _, _, _⟩ := hSw
          go_simp
          try with_reducible rfl
        simp only [Act.put, List.setIfInBounds_toArray, List.set_cons_zero, List.set_cons_succ]
        refine anyN_oneG 13 rfl (by kernel_rfl) (by rfl) ?_
        go_simp
        (with_reducible refine (HMY _).out.mono ?_)
        clear hS
        rintro e wy3 ⟨rfl, hk⟩
        replace HT := Lib.hid (HT.out.kp hk)
        replace HX3 := Lib.hid (HX3.out.kp hk)
        replace HJ2 := Lib.hid (HJ2.out.trans (hk.mono HJ2.out.size))
        clear hk
        dsimp only
        refine and_keep ⟨HT.out.c0, HT.out.c1, HT.out.c2, HT.out.c3, HT.out.c4, HT.out.c5, HT.out.c6, HT.out.c7, HX3.out.c0, HX3.out.c1, HX3.out.c2⟩ (fun hS => ?_)
        refine anyN_takeR 14 (v := ?_) rfl (by kernel_rfl) (by kernel_rfl) (by kernel_rfl) (by kernel_rfl) (fun _ _ _ h => h) (Or.inl ⟨by rfl, ?_⟩) hS ?_
        rotate_left
        · intro w hSw
          obtain ⟨_, _, _, _, _, _, _, _, _, _, _⟩ := hSw
          go_simp
          try with_reducible rfl
        simp only [Act.put, List.setIfInBounds_toArray, List.set_cons_zero, List.set_cons_succ]
        refine anyN_takeR 15 (v := ?_) rfl (by kernel_rfl) (by kernel_rfl) (by kernel_rfl) (by kernel_rfl) (fun _ _ _ h => h) (Or.inl ⟨by rfl, ?_⟩) hS ?_
        rotate_left
        · intro w hSw
          obtain ⟨_, _, _, _, _, _, _, _, _, _, _⟩ := hSw
          go_simp
          try with_reducible rfl
        simp only [Act.put, List.setIfInBounds_toArray, List.set_cons_zero, List.set_cons_succ]
        refine anyN_takeR 16 (v := ?_) rfl (by kernel_rfl) (by kernel_rfl) (by kernel_rfl) (by kernel_rfl) (fun _ _ _ h => h) (Or.inl ⟨by rfl, ?_⟩) hS ?_
        rotate_left
        · intro w hSw
          obtain ⟨_, _, _, _, _, _, _, _, _, _, _⟩ := hSw
          go_simp
          try with_reducible rfl
        simp only [Act.put, List.setIfInBounds_toArray, List.set_cons_zero, List.set_cons_succ]
        refine anyN_takeR 17 (v := undef) rfl (by kernel_rfl) (by kernel_rfl) (by kernel_rfl) (by kernel_rfl) (fun _ _ _ h => h) (Or.inr ⟨by rfl, rfl⟩) hS ?_
        simp only [Act.put, List.setIfInBounds_toArray, List.set_cons_zero, List.set_cons_succ]
        refine anyN_takeR 18 (v := undef) rfl (by kernel_rfl) (by kernel_rfl) (by kernel_rfl) (by kernel_rfl) (fun _ _ _ h => h) (Or.inr ⟨by rfl, rfl⟩) hS ?_
        simp only [Act.put, List.setIfInBounds_toArray, List.set_cons_zero, List.set_cons_succ]
        refine anyN_takeR 19 (v := undef) rfl (by kernel_rfl) (by kernel_rfl) (by kernel_rfl) (by kernel_rfl) (fun _ _ _ h => h) (Or.inr ⟨by rfl, rfl⟩) hS ?_
        simp only [Act.put, List.setIfInBounds_toArray, List.set_cons_zero, List.set_cons_succ]
        refine anyN_takeR 20 (v := undef) rfl (by kernel_rfl) (by kernel_rfl) (by kernel_rfl) (by kernel_rfl) (fun _ _ _ h => h) (Or.inr ⟨by rfl, rfl⟩) hS ?_
        simp only [Act.put, List.setIfInBounds_toArray, List.set_cons_zero, List.set_cons_succ]
        refine anyN_takeR 21 (v := undef) rfl (by kernel_rfl) (by kernel_rfl) (by kernel_rfl) (by kernel_rfl) (fun _ _ _ h => h) (Or.inr ⟨by rfl, rfl⟩) hS ?_
        simp only [Act.put, List.setIfInBounds_toArray, List.set_cons_zero, List.set_cons_succ]
        refine anyN_takeR 22 (v := undef) rfl (by kernel_rfl) (by kernel_rfl) (by kernel_rfl) (by kernel_rfl) (fun _ _ _ h => h) (Or.inr ⟨by rfl, rfl⟩) hS ?_
        simp only [Act.put, List.setIfInBounds_toArray, List.set_cons_zero, List.set_cons_succ]
        refine anyN_takeR 23 (v := undef) rfl (by kernel_rfl) (by kernel_rfl) (by kernel_rfl) (by kernel_rfl) (fun _ _ _ h => h) (Or.inr ⟨by rfl, rfl⟩) hS ?_
        simp only [Act.put, List.setIfInBounds_toArray, List.set_cons_zero, List.set_cons_succ]
        refine anyN_takeR 24 (v := undef) rfl (by kernel_rfl) (by kernel_rfl) (by kernel_rfl) (by kernel_rfl) (fun _ _ _ h => h) (Or.inr ⟨by rfl, rfl⟩) hS ?_
        simp only [Act.put, List.setIfInBounds_toArray, List.set_cons_zero, List.set_cons_succ]
        refine anyN_takeR 25 (v := undef) rfl (by kernel_rfl) (by kernel_rfl) (by kernel_rfl) (by kernel_rfl) (fun _ _ _ h => h) (Or.inr ⟨by rfl, rfl⟩) hS ?_
        simp only [Act.put, List.setIfInBounds_toArray, List.set_cons_zero, List.set_cons_succ]
        refine anyN_takeR 26 (v := undef) rfl (by kernel_rfl) (by kernel_rfl) (by kernel_rfl) (by kernel_rfl) (fun _ _ _ h => h) (Or.inr ⟨by rfl, rfl⟩) hS ?_
        simp only [Act.put, List.setIfInBounds_toArray, List.set_cons_zero, List.set_cons_succ]
        refine anyN_takeR 27 (v := undef) rfl (by kernel_rfl) (by kernel_rfl) (by kernel_rfl) (by kernel_rfl) (fun _ _ _ h => h) (Or.inr ⟨by rfl, rfl⟩) hS ?_
        simp only [Act.put, List.setIfInBounds_toArray, List.set_cons_zero, List.set_cons_succ]
        refine anyN_takeR 28 (v := ?_) rfl (by kernel_rfl) (by kernel_rfl) (by kernel_rfl) (by kernel_rfl) (fun _ _ _ h => h) (Or.inl ⟨by rfl, ?_⟩) hS ?_
        rotate_left
        · intro w hSw
          obtain ⟨_, _, _, _, _, _, _, _, _, _, _⟩ := hSw
          go_simp
          try with_reducible rfl
        simp only [Act.put, List.setIfInBounds_toArray, List.set_cons_zero, List.set_cons_succ]
        refine anyN_done (by kernel_rfl) ?_
        refine NoPanic.normal ?_
        clear hS
        go_wp2_with fail
        go_roundw
        case rel => exact ⟨i, ob, by omega, by go_num, by first | trivial | rfl, HB.out, HJ2.out⟩
        case measure => first | (simp [intOf]; done) | (simp [intOf]; omega)
      rw [hb] at HMY
      have HC1 := HLD p
      have HC2 := HLD q
      have hbd1 := loadV_bd (n := s.n) p HF.out.each
      have hbd2 := loadV_bd (n := s.n) q HF.out.each
      have hlen2 : s.ts.length ≤ 65535 := HF.out.len
      have HLIT3 := Lib.hid (HLIT2.out.trans (by rw [hb]))
      generalize loadV s.ts p = lp at *
      generalize loadV s.ts q = lq at *
      obtain ⟨lp0, lp1⟩ := hbd1
      obtain ⟨lq0, lq1⟩ := hbd2
      replace lp1 : lp ≤ 4294901760 := by omega
      replace lq1 : lq ≤ 4294901760 := by omega
      have hw2w : IntKind.i64.wrap (2 * wt) = 2 * wt := wrap_id (by omega) (by omega)
      have hwsb : IntKind.i64.wrap (lp - lq) = lp - lq := wrap_id' (by omega) (by omega)
      refine wp_region_noPanic ?_
      refine wp_region_anyN (fun w' => w'.cell? ⟨bT, 0, none⟩ = some (.int .i64 id) ∧ w'.cell? ⟨bT, 1, none⟩ = some (.int .i64 grp) ∧ w'.cell? ⟨bT, 2, none⟩ = some (.int .i64 wt) ∧ w'.cell? ⟨bT, 3, none⟩ = some (.int .i64 (p : Int)) ∧ w'.cell? ⟨bT, 4, none⟩ = some (.int .u64 mask) ∧ w'.cell? ⟨bT, 5, none⟩ = some (.bool rdy) ∧ w'.cell? ⟨bT, 6, none⟩ = some (.int .u64 v) ∧ w'.cell? ⟨bT, 7, none⟩ = some (.int .u32 r') ∧ w'.cell? ⟨b0, 0, none⟩ = some (.int .i64 (lb : Int)) ∧ w'.cell? ⟨b0, 1, none⟩ = some (.slice (some ⟨b, off, none⟩) la ca) ∧ w'.cell? ⟨b0, 2, none⟩ = some (.slice B lb cb)) 29 (by kernel_rfl) ?_
      have kd : Kp w3.heap.size w3 w3.drew := (Kp.refl _ _).drewN 1
      replace HT := Lib.hid (HT.out.kp kd)
      replace HX3 := Lib.hid (HX3.out.kp kd)
      replace HJ2 := Lib.hid (HJ2.out.trans (kd.mono HJ2.out.size))
      clear kd
      generalize w3.drew = wz1 at *
      have hS : wz1.cell? ⟨bT, 0, none⟩ = some (.int .i64 id) ∧ wz1.cell? ⟨bT, 1, none⟩ = some (.int .i64 grp) ∧ wz1.cell? ⟨bT, 2, none⟩ = some (.int .i64 wt) ∧ wz1.cell? ⟨bT, 3, none⟩ = some (.int .i64 (p : Int)) ∧ wz1.cell? ⟨bT, 4, none⟩ = some (.int .u64 mask) ∧ wz1.cell? ⟨bT, 5, none⟩ = some (.bool rdy) ∧ wz1.cell? ⟨bT, 6, none⟩ = some (.int .u64 v) ∧ wz1.cell? ⟨bT, 7, none⟩ = some (.int .u32 r') ∧ wz1.cell? ⟨b0, 0, none⟩ = some (.int .i64 (lb : Int)) ∧ wz1.cell? ⟨b0, 1, none⟩ = some (.slice (some ⟨b, off, none⟩) la ca) ∧ wz1.cell? ⟨b0, 2, none⟩ = some (.slice B lb cb) := ⟨HT.out.c0, HT.out.c1, HT.out.c2, HT.out.c3, HT.out.c4, HT.out.c5, HT.out.c6, HT.out.c7, HX3.out.c0, HX3.out.c1, HX3.out.c2⟩
      refine anyN_takeR 0 (v := ?_) rfl (by kernel_rfl) (by kernel_rfl) (by kernel_rfl) (by kernel_rfl) (fun _ _ _ h => h) (Or.inl ⟨by rfl, ?_⟩) hS ?_
      rotate_left
      · intro w hSw
        obtain ⟨_, _, _, _, _, _, _, _, _, _, _⟩ := hSw
        go_simp
        try with_reducible rfl
      simp only [Act.put, List.setIfInBounds_toArray, List.set_cons_zero, List.set_cons_succ]
      refine anyN_takeR 1 (v := ?_) rfl (by kernel_rfl) (by kernel_rfl) (by kernel_rfl) (by kernel_rfl) (fun _ _ _ h => h) (Or.inl ⟨by rfl, ?_⟩) hS ?_
      rotate_left
      · intro w hSw
        obtain ⟨_, _, _, _, _, _, _, _, _, _, _⟩ := hSw
        go_simp
        try with_reducible rfl
      simp only [Act.put, List.setIfInBounds_toArray, List.set_cons_zero, List.set_cons_succ]
      refine anyN_takeR 2 (v := ?_) rfl (by kernel_rfl) (by kernel_rfl) (by kernel_rfl) (by kernel_rfl) (fun _ _ _ h => h) (Or.inl ⟨by rfl, ?_⟩) hS ?_
      rotate_left
      · intro w hSw
        obtain ⟨_, _, _, _, _, _, _, _, _, _, _⟩ := hSw
        go_simp
        try with_reducible rfl
      simp only [Act.put, List.setIfInBounds_toArray, List.set_cons_zero, List.set_cons_succ]
      refine anyN_takeR 3 (v := ?_) rfl (by kernel_rfl) (by kernel_rfl) (by kernel_rfl) (by kernel_rfl) (fun _ _ _ h => h) (Or.inl ⟨by rfl, ?_⟩) hS ?_
      rotate_left
      · intro w hSw
        obtain ⟨_, _, _, _, _, _, _, _, _, _, _⟩ := hSw
        go_simp
        try with_reducible rfl
      simp only [Act.put, List.setIfInBounds_toArray, List.set_cons_zero, List.set_cons_succ]
      refine anyN_takeR 4 (v := ?_) rfl (by kernel_rfl) (by kernel_rfl) (by kernel_rfl) (by kernel_rfl) (fun _ _ _ h => h) (Or.inl ⟨by rfl, ?_⟩) hS ?_
      rotate_left
      · intro w hSw
        obtain ⟨_, _, _, _, _, _, _, _, _, _, _⟩ := hSw
        go_simp
        try with_reducible rfl
      simp only [Act.put, List.setIfInBounds_toArray, List.set_cons_zero, List.set_cons_succ]
      refine anyN_takeR 5 (v := ?_) rfl (by kernel_rfl) (by kernel_rfl) (by kernel_rfl) (by kernel_rfl) (fun _ _ _ h => h) (Or.inl ⟨by rfl, ?_⟩) hS ?_
      rotate_left
      · intro w hSw
        obtain ⟨_, _, _, _, _, _, _, _, _, _, _⟩ := hSw
        go_simp
        try with_reducible rfl
      simp only [Act.put, List.setIfInBounds_toArray, List.set_cons_zero, List.set_cons_succ]
      refine anyN_takeR 6 (v := ?_) rfl (by kernel_rfl) (by kernel_rfl) (by kernel_rfl) (by kernel_rfl) (fun _ _ _ h => h) (Or.inl ⟨by rfl, ?_⟩) hS ?_
      rotate_left
      · intro w hSw
        obtain ⟨_, _, _, _, _, _, _, _, _, _, _⟩ := hSw
        go_simp
        try with_reducible rfl
      simp only [Act.put, List.setIfInBounds_toArray, List.set_cons_zero, List.set_cons_succ]
      refine anyN_oneG 7 rfl (by kernel_rfl) (by rfl) ?_
      go_simp
      (with_reducible refine (HFR _ HJ2.out).out.mono ?_)
      clear hS
      rintro e wz2 ⟨rfl, hk⟩
      replace HT := Lib.hid (HT.out.kp hk)
      replace HX3 := Lib.hid (HX3.out.kp hk)
      replace HJ2 := Lib.hid (HJ2.out.trans (hk.mono HJ2.out.size))
      clear hk
      dsimp only
      refine and_keep ⟨HT.out.c0, HT.out.c1, HT.out.c2, HT.out.c3, HT.out.c4, HT.out.c5, HT.out.c6, HT.out.c7, HX3.out.c0, HX3.out.c1, HX3.out.c2⟩ (fun hS => ?_)
      refine anyN_takeR 8 (v := ?_) rfl (by kernel_rfl) (by kernel_rfl) (by kernel_rfl) (by kernel_rfl) (fun _ _ _ h => h) (Or.inl ⟨by rfl, ?_⟩) hS ?_
      rotate_left
      · intro w hSw
        obtain ⟨_, _, _, _, _, _, _, _, _, _, _⟩ := hSw
        go_simp
        try with_reducible rfl
      simp only [Act.put, List.setIfInBounds_toArray, List.set_cons_zero, List.set_cons_succ]
      refine anyN_takeR 9 (v := ?_) rfl (by kernel_rfl) (by kernel_rfl) (by kernel_rfl) (by kernel_rfl) (fun _ _ _ h => h) (Or.inl ⟨by rfl, ?_⟩) hS ?_
      rotate_left
      · intro w hSw
        obtain ⟨_, _, _, _, _, _, _, _, _, _, _⟩ := hSw
        go_simp
        try with_reducible rfl
      simp only [Act.put, List.setIfInBounds_toArray, List.set_cons_zero, List.set_cons_succ]
      refine anyN_takeR 10 (v := ?_) rfl (by kernel_rfl) (by kernel_rfl) (by kernel_rfl) (by kernel_rfl) (fun _ _ _ h => h) (Or.inl ⟨by rfl, ?_⟩) hS ?_
      rotate_left
      · intro w hSw
        obtain ⟨_, _, _, _, _, _, _, _, _, _, _⟩ := hSw
        go_simp
        try with_reducible rfl
      simp only [Act.put, List.setIfInBounds_toArray, List.set_cons_zero, List.set_cons_succ]
      refine anyN_takeR 11 (v := ?_) rfl (by kernel_rfl) (by kernel_rfl) (by kernel_rfl) (by kernel_rfl) (fun _ _ _ h => h) (Or.inl ⟨by rfl, ?_⟩) hS ?_
      rotate_left
      · intro w hSw
        obtain ⟨_, _, _, _, _, _, _, _, _, _, _⟩ := hSw
        go_simp
        try with_reducible rfl
      simp only [Act.put, List.setIfInBounds_toArray, List.set_cons_zero, List.set_cons_succ]
      refine anyN_takeR 12 (v := ?_) rfl (by kernel_rfl) (by kernel_rfl) (by kernel_rfl) (by kernel_rfl) (fun _ _ _ h => h) (Or.inl ⟨by rfl, ?_⟩) hS ?_
      rotate_left
      · intro w hSw
        obtain ⟨_, _, _, _, _, _, _, _, _, _, _⟩ := hSw
        go_simp
        try with_reducible rfl
      simp only [Act.put, List.setIfInBounds_toArray, List.set_cons_zero, List.set_cons_succ]
      refine anyN_oneG 13 rfl (by kernel_rfl) (by rfl) ?_
      go_simp
      (with_reducible refine (HMY _).out.mono ?_)
      clear hS
      rintro e wz3 ⟨rfl, hk⟩
      replace HT := Lib.hid (HT.out.kp hk)
      replace HX3 := Lib.hid (HX3.out.kp hk)
      replace HJ2 := Lib.hid (HJ2.out.trans (hk.mono HJ2.out.size))
      clear hk
      dsimp only
      refine and_keep ⟨HT.out.c0, HT.out.c1, HT.out.c2, HT.out.c3, HT.out.c4, HT.out.c5, HT.out.c6, HT.out.c7, HX3.out.c0, HX3.out.c1, HX3.out.c2⟩ (fun hS => ?_)
      refine anyN_takeR 14 (v := ?_) rfl (by kernel_rfl) (by kernel_rfl) (by kernel_rfl) (by kernel_rfl) (fun _ _ _ h => h) (Or.inl ⟨by rfl, ?_⟩) hS ?_
      rotate_left
      · intro w hSw
        obtain ⟨_, _, _, _, _, _, _, _, _, _, _⟩ := hSw
        go_simp
        try with_reducible rfl
      simp only [Act.put, List.setIfInBounds_toArray, List.set_cons_zero, List.set_cons_succ]
      refine anyN_takeR 15 (v := ?_) rfl (by kernel_rfl) (by kernel_rfl) (by kernel_rfl) (by kernel_rfl) (fun _ _ _ h => h) (Or.inl ⟨by rfl, ?_⟩) hS ?_
      rotate_left
      · intro w hSw
        obtain ⟨_, _, _, _, _, _, _, _, _, _, _⟩ := hSw
        go_simp
        try with_reducible rfl
      simp only [Act.put, List.setIfInBounds_toArray, List.set_cons_zero, List.set_cons_succ]
      refine anyN_takeR 16 (v := ?_) rfl (by kernel_rfl) (by kernel_rfl) (by kernel_rfl) (by kernel_rfl) (fun _ _ _ h => h) (Or.inl ⟨by rfl, ?_⟩) hS ?_
      rotate_left
      · intro w hSw
        obtain ⟨_, _, _, _, _, _, _, _, _, _, _⟩ := hSw
        go_simp
        try with_reducible rfl
      simp only [Act.put, List.setIfInBounds_toArray, List.set_cons_zero, List.set_cons_succ]
      refine anyN_takeR 17 (v := ?_) rfl (by kernel_rfl) (by kernel_rfl) (by kernel_rfl) (by kernel_rfl) (fun _ _ _ h => h) (Or.inl ⟨by rfl, ?_⟩) hS ?_
      rotate_left
      · intro w hSw
        obtain ⟨_, _, _, _, _, _, _, _, _, _, _⟩ := hSw
        go_simp
        try with_reducible rfl
      simp only [Act.put, List.setIfInBounds_toArray, List.set_cons_zero, List.set_cons_succ]
      refine anyN_takeR 18 (v := ?_) rfl (by kernel_rfl) (by kernel_rfl) (by kernel_rfl) (by kernel_rfl) (fun _ _ _ h => h) (Or.inl ⟨by rfl, ?_⟩) hS ?_
      rotate_left
      · intro w hSw
        obtain ⟨_, _, _, _, _, _, _, _, _, _, _⟩ := hSw
        go_simp
        try with_reducible rfl
      simp only [Act.put, List.setIfInBounds_toArray, List.set_cons_zero, List.set_cons_succ]
      refine anyN_takeR 19 (v := ?_) rfl (by kernel_rfl) (by kernel_rfl) (by kernel_rfl) (by kernel_rfl) (fun _ _ _ h => h) (Or.inl ⟨by rfl, ?_⟩) hS ?_
      rotate_left
      · intro w hSw
        obtain ⟨_, _, _, _, _, _, _, _, _, _, _⟩ := hSw
        go_simp
        try with_reducible rfl
      simp only [Act.put, List.setIfInBounds_toArray, List.set_cons_zero, List.set_cons_succ]
      refine anyN_takeR 20 (v := ?_) rfl (by kernel_rfl) (by kernel_rfl) (by kernel_rfl) (by kernel_rfl) (fun _ _ _ h => h) (Or.inl ⟨by rfl, ?_⟩) hS ?_
      rotate_left
      · intro w hSw
        obtain ⟨_, _, _, _, _, _, _, _, _, _, _⟩ := hSw
        go_simp
        try with_reducible rfl
      simp only [Act.put, List.setIfInBounds_toArray, List.set_cons_zero, List.set_cons_succ]
      refine anyN_takeR 21 (v := ?_) rfl (by kernel_rfl) (by kernel_rfl) (by kernel_rfl) (by kernel_rfl) (fun _ _ _ h => h) (Or.inl ⟨by rfl, ?_⟩) hS ?_
      rotate_left
      · intro w hSw
        obtain ⟨_, _, _, _, _, _, _, _, _, _, _⟩ := hSw
        go_simp
        try with_reducible rfl
      simp only [Act.put, List.setIfInBounds_toArray, List.set_cons_zero, List.set_cons_succ]
      refine anyN_takeR 23 (v := ?_) rfl (by kernel_rfl) (by kernel_rfl) (by kernel_rfl) (by kernel_rfl) (fun _ _ _ h => h) (Or.inl ⟨by rfl, ?_⟩) hS ?_
      rotate_left
      · intro w hSw
        obtain ⟨_, _, _, _, _, _, _, _, _, _, _⟩ := hSw
        go_simp
        try with_reducible rfl
      simp only [Act.put, List.setIfInBounds_toArray, List.set_cons_zero, List.set_cons_succ]
      refine anyN_takeR 24 (v := ?_) rfl (by kernel_rfl) (by kernel_rfl) (by kernel_rfl) (by kernel_rfl) (fun _ _ _ h => h) (Or.inl ⟨by rfl, ?_⟩) hS ?_
      rotate_left
      · intro w hSw
        obtain ⟨_, _, _, _, _, _, _, _, _, _, _⟩ := hSw
        go_simp
        try with_reducible rfl
      simp only [Act.put, List.setIfInBounds_toArray, List.set_cons_zero, List.set_cons_succ]
      refine anyN_oneG 22 rfl (by kernel_rfl) (by rfl) ?_
      go_simp
      (with_reducible refine (HC1 _ HJ2.out).out.mono ?_)
      clear hS
      rintro e wz4 ⟨rfl, hk⟩
      replace HT := Lib.hid (HT.out.kp hk)
      replace HX3 := Lib.hid (HX3.out.kp hk)
      replace HJ2 := Lib.hid (HJ2.out.trans (hk.mono HJ2.out.size))
      clear hk
      dsimp only
      refine and_keep ⟨HT.out.c0, HT.out.c1, HT.out.c2, HT.out.c3, HT.out.c4, HT.out.c5, HT.out.c6, HT.out.c7, HX3.out.c0, HX3.out.c1, HX3.out.c2⟩ (fun hS => ?_)
      refine anyN_oneG 25 rfl (by kernel_rfl) (by rfl) ?_
      go_simp
      (with_reducible refine (HC2 _ HJ2.out).out.mono ?_)
      clear hS
      rintro e wz5 ⟨rfl, hk⟩
      replace HT := Lib.hid (HT.out.kp hk)
      replace HX3 := Lib.hid (HX3.out.kp hk)
      replace HJ2 := Lib.hid (HJ2.out.trans (hk.mono HJ2.out.size))
      clear hk
      dsimp only
      refine and_keep ⟨HT.out.c0, HT.out.c1, HT.out.c2, HT.out.c3, HT.out.c4, HT.out.c5, HT.out.c6, HT.out.c7, HX3.out.c0, HX3.out.c1, HX3.out.c2⟩ (fun hS => ?_)
      refine anyN_takeR 26 (v := ?_) rfl (by kernel_rfl) (by kernel_rfl) (by kernel_rfl) (by kernel_rfl) (fun _ _ _ h => h) (Or.inl ⟨by rfl, ?_⟩) hS ?_
      rotate_left
      · intro w hSw
        obtain ⟨_, _, _, _, _, _, _, _, _, _, _⟩ := hSw
        go_simp
        try with_reducible rfl
      simp only [Act.put, List.setIfInBounds_toArray, List.set_cons_zero, List.set_cons_succ]
      refine anyN_takeR 27 (v := ?_) rfl (by kernel_rfl) (by kernel_rfl) (by kernel_rfl) (by kernel_rfl) (fun _ _ _ h => h) (Or.inl ⟨by rfl, ?_⟩) hS ?_
      rotate_left
      · intro w hSw
        obtain ⟨_, _, _, _, _, _, _, _, _, _, _⟩ := hSw
        go_simp
        try with_reducible rfl
      simp only [Act.put, List.setIfInBounds_toArray, List.set_cons_zero, List.set_cons_succ]
      refine anyN_takeR 28 (v := ?_) rfl (by kernel_rfl) (by kernel_rfl) (by kernel_rfl) (by kernel_rfl) (fun _ _ _ h => h) (Or.inl ⟨by rfl, ?_⟩) hS ?_
      rotate_left
      · intro w hSw
        obtain ⟨_, _, _, _, _, _, _, _, _, _, _⟩ := hSw
        go_simp
        try with_reducible rfl
      simp only [Act.put, List.setIfInBounds_toArray, List.set_cons_zero, List.set_cons_succ]
      refine anyN_done (by kernel_rfl) ?_
      refine NoPanic.normal ?_
      clear hS
      obtain ⟨x0, x1, x2, xl⟩ := HX3.out
      obtain ⟨c0, c1, c2, c3, c4, c5, c6, c7, cl⟩ := HT.out
      simp only [Nat.zero_add] at c0 c1 c2 c3 c4 c5 c6 c7
      by_cases hle : 2 * wt ≤ lp - lq
      rotate_left
      · have HB := Lib.hid (HSKIP.out (by rw [HLIT3.out, decide_eq_false hle]; rfl))
        have hgt : lp - lq < 2 * wt := by omega
        clear hle
        go_wp2_with fail
        go_roundw
        case rel => exact ⟨i, ob, by omega, by go_num, by first | trivial | rfl, HB.out, HJ2.out⟩
        case measure => first | (simp [intOf]; done) | (simp [intOf]; omega)
      have HB := Lib.hid (HTAKE.out (by rw [HLIT3.out, decide_eq_true hle]; rfl))
      cases ob with
      | none =>
        have HB2 := Lib.hid (show isBest s p q i (some i) from HB.out)
        simp only [outI]
        go_upto_region 10 with fail
        go_quiet (fail)
        go_wp2_with fail
        go_roundw
        case rel => exact ⟨i, some i, by omega, by go_num, by first | trivial | rfl, HB2.out, HJ2.out.drewN _⟩
        case measure => first | (simp [intOf]; done) | (simp [intOf]; omega)
      | some k =>
        obtain ⟨hwk1, hkl⟩ := HWK.out k rfl
        have hk0 : ¬ ((k : Int) < 0) := by omega
        have hki : (k : Int) < (la : Int) := by omega
        obtain ⟨bk, ok', e, Tk'⟩ := (HSC2.out.kp HJ2.out).ts k hkl
        cases e
        have ck := Tk'.c2
        have HB2 := Lib.hid (show isBest s p q i (if (s.ts.getD k t0).wt ≤ wt then some i else some k) from HB.out)
        generalize (s.ts.getD k t0).wt = wk at *
        clear Tk' HB
        simp only [outI]
        by_cases hwl : wk ≤ wt
        · have HB3 := Lib.hid (show isBest s p q i (some i) by have h := HB2.out; rw [if_pos hwl] at h; exact h)
          go_upto_region 10 with fail
          go_quiet (fail)
          go_wp2_with fail
          go_roundw
          case rel => exact ⟨i, some i, by omega, by go_num, by first | trivial | rfl, HB3.out, HJ2.out.drewN _⟩
          case measure => first | (simp [intOf]; done) | (simp [intOf]; omega)
        · have HB3 := Lib.hid (show isBest s p q i (some k) by have h := HB2.out; rw [if_neg hwl] at h; exact h)
          go_upto_region 10 with fail
          go_quiet (fail)
          go_wp2_with fail
          go_roundw
          case rel => exact ⟨i, some k, by omega, by go_num, by first | trivial | rfl, HB3.out, HJ2.out.drewN _⟩
          case measure => first | (simp [intOf]; done) | (simp [intOf]; omega)
end Go.Proofs.Yticgdfbknaholaa
