/-
  The law on what is pulled.
-/
import Derived.Test.YticgdfbknaholaaMadeAt27
import Derived.Test.YticgdfbknaholaaBestV27
namespace Go.Proofs.Yticgdfbknaholaa
open Go.RowKit

set_option maxRecDepth 100000 in
set_option maxHeartbeats 4000000 in
theorem law5 {W : World} {A B : Option Addr} {la ca lb cb : Nat} {a cpu : Int} {xs : List Xt} {zs : List Int} (h : SmAt W A la ca B lb cb a xs zs) (c0 : 0 ≤ cpu) (c1 : cpu ≤ 255) :
    Calls Try.prog 5 #[.agg #[.int .u8 a, .slice A la ca, .slice B lb cb], .int .u8 cpu] W fun e w' => e = .returned (.bool true) ∧ Kp W.heap.size W w' := by
  have HAw := fun w => Lib.hid (awake_any w)
  have HX := Lib.hid h
  have HMd := fun w (k : Kp W.heap.size W w) => Lib.hid (madeSc_any w (h.kp k))
  clear h
  have K0 := Lib.hid ((Kp.refl W.heap.size W).alloc (Nat.le_refl _) (.cells #[.int .u8 a, .slice A la ca, .slice B lb cb] 25))
  have X0 := Lib.hid (C3.new W (.int .u8 a) (.slice A la ca) (.slice B lb cb) 25)
  go_enter Try.func5, Try.ntmps5
  go_upto_region 1 with fail
  generalize W.alloc _ = w1 at *
  obtain ⟨bX, hbX⟩ : ∃ b, b = W.heap.size := ⟨_, rfl⟩
  rw [← hbX] at X0
  rw [← hbX]
  clear hbX
  go_wp2_with fail
  (with_reducible refine (HAw _).out.mono ?_)
  rintro e w2 ⟨rfl, hk⟩
  have K2 := Lib.hid (K0.out.trans (hk.mono K0.out.size))
  have X2 := Lib.hid (X0.out.kp hk)
  clear hk K0 X0 HAw
  obtain ⟨x0, x1, x2, xl⟩ := X2.out
  go_wp2_with fail
  (with_reducible refine (HMd _ K2.out).out.mono ?_)
  clear x0 x1 x2 xl HMd
  rintro e w3 ⟨v, N, la', A', B', ca', cb', ts, cur, rfl, hm⟩
  obtain ⟨rfl, hsc, hfit, n1, n8, l40, -, -, hk⟩ := hm
  have K3 := Lib.hid (K2.out.trans (hk.mono K2.out.size))
  clear hk K2 X2
  go_upto_region 4 with fail
  have kk : Kp w3.heap.size w3 (w3.alloc (.cells #[.int .i64 (N : Int), .slice A' la' ca', .slice B' N cb'] 30)) := (Kp.refl _ _).alloc (Nat.le_refl _) _
  have HS := Lib.hid (C3.new w3 (.int .i64 (N : Int)) (.slice A' la' ca') (.slice B' N cb') 30)
  have HSC := Lib.hid (hsc.kp kk)
  have K4 := Lib.hid (K3.out.trans (kk.mono K3.out.size))
  have HF := Lib.hid hfit
  obtain ⟨bS, hbS⟩ : ∃ b, b = w3.heap.size := ⟨_, rfl⟩
  rw [← hbS] at HS
  rw [← hbS]
  clear kk hsc hfit K3 hbS
  generalize w3.alloc _ = w4 at *
  obtain ⟨q, hq⟩ : ∃ q : Nat, cpu % (N : Int) = (q : Int) := ⟨(cpu % (N : Int)).toNat, by have := Int.emod_nonneg cpu (show (N : Int) ≠ 0 by omega); omega⟩
  have hqN : q < N := by have := Int.emod_lt_of_pos cpu (show (0 : Int) < N by omega); omega
  have hq2 : Int.tmod cpu (N : Int) = (q : Int) := by rw [Int.tmod_eq_emod_of_nonneg c0, hq]
  have hN0 : (N : Int) ≠ 0 := by omega
  have hN00 : ((N : Int) == 0) = false := beq_eq_false_iff_ne.2 hN0
  have HL := Lib.hid (loads19_any w4 (B := B') (ca := ca') (cb := cb') HSC.out.hla HSC.out.hlb HSC.out.ts HF.out)
  obtain ⟨x0, x1, x2, xl⟩ := HS.out
  go_wp2_with fail
  (with_reducible refine HL.out.mono ?_)
  clear x0 x1 x2 xl HL
  rintro e w5 ⟨bL, rfl, hbL, hrow, hk⟩
  have hROW := Lib.hid hrow
  have HS5 := Lib.hid (HS.out.kp hk)
  have HSC5 := Lib.hid (HSC.out.kp hk)
  have K5 := Lib.hid (K4.out.trans (hk.mono K4.out.size))
  clear hrow hk HS HSC K4 hbL
  have HB := Lib.hid (busiest_any w5 (ca := ca') (cb := cb') (cpu := (q : Int)) HSC5.out)
  obtain ⟨x0, x1, x2, xl⟩ := HS5.out
  go_wp2_with fail
  (with_reducible refine HB.out.mono ?_)
  clear x0 x1 x2 xl HB
  rintro e w6 ⟨rfl, hk⟩
  have hROW6 := Lib.hid (hROW.out.kp hk)
  have HS6 := Lib.hid (HS5.out.kp hk)
  have HSC6 := Lib.hid (HSC5.out.kp hk)
  have K6 := Lib.hid (K5.out.trans (hk.mono K5.out.size))
  clear hk HS5 HSC5 K5 hROW
  have HP := Lib.hid (pull_any w6 (ca := ca') (cb := cb') (cpu := (q : Int)) HSC6.out)
  obtain ⟨x0, x1, x2, xl⟩ := HS6.out
  go_wp2_with fail
  (with_reducible refine HP.out.mono ?_)
  clear x0 x1 x2 xl HP
  rintro e w7 ⟨rfl, hk⟩
  have hROW7 := Lib.hid (hROW6.out.kp hk)
  have HS7 := Lib.hid (HS6.out.kp hk)
  have HSC7 := Lib.hid (HSC6.out.kp hk)
  have K7 := Lib.hid (K6.out.trans (hk.mono K6.out.size))
  clear hk HS6 HSC6 K6 hROW6
  obtain ⟨pv, hpv⟩ : ∃ pv, pv = pullV ⟨(N : Int), ts, cur⟩ (q : Int) := ⟨_, rfl⟩
  obtain ⟨bv, hbv⟩ : ∃ bv, bv = busyN ⟨(N : Int), ts, cur⟩ (q : Int) := ⟨_, rfl⟩
  obtain ⟨be, hbe⟩ : ∃ be, be = busyE ⟨(N : Int), ts, cur⟩ (q : Int) := ⟨_, rfl⟩
  rw [← hpv, ← hbv, ← hbe]
  obtain ⟨⟨mk, mx, my⟩, me⟩ := pv
  have HPV := Lib.hid hpv
  have HBV := Lib.hid hbv
  have HBE := Lib.hid hbe
  clear hpv hbv hbe
  dsimp only
  go_upto_region 8 with fail
  have kk : Kp w7.heap.size w7 (w7.alloc (.cells #[.int .i64 mk, .int .i64 mx, .int .i64 my] 38)) := (Kp.refl _ _).alloc (Nat.le_refl _) _
  have HM := Lib.hid (C3.new w7 (.int .i64 mk) (.int .i64 mx) (.int .i64 my) 38)
  have HS8 := Lib.hid (HS7.out.kp kk)
  have HSC8 := Lib.hid (HSC7.out.kp kk)
  have hROW8 := Lib.hid (hROW7.out.kp kk)
  have K8 := Lib.hid (K7.out.trans (kk.mono K7.out.size))
  obtain ⟨bM, hbM⟩ : ∃ b, b = w7.heap.size := ⟨_, rfl⟩
  rw [← hbM] at HM
  rw [← hbM]
  clear kk HS7 HSC7 hROW7 K7 hbM
  generalize w7.alloc _ = w8 at *
  obtain ⟨x0, x1, x2, xl⟩ := HS8.out
  by_cases hN1 : N = 1
  · subst hN1
    have hq0 : q = 0 := by omega
    subst hq0
    have e1 := HBE.out.trans (busy_one HF.out)
    have e2 := HPV.out.trans (pull_one HF.out)
    cases e2
    subst e1
    go_wp2_with fail
    go_ret
    exact ⟨rfl, K8.out⟩
  have hN2 : 2 ≤ N := by omega
  have hNi : ((N : Int) == 1) = false := beq_eq_false_iff_ne.2 (by omega)
  obtain ⟨p, hE, hP, hpN, hpq, hbest⟩ := busy_two HF.out hN2 hqN
  have e1 := HBE.out.trans hE
  have e2 := HBV.out.trans hP
  subst e1 e2
  have HBEST := Lib.hid hbest
  have hpn : ((p : Int) == (q : Int)) = false := beq_eq_false_iff_ne.2 (by omega)
  have hp0 : ¬ ((p : Int) < 0) := by omega
  have hpi : (p : Int) < (N : Int) := by omega
  clear hbest HBE HBV
  go_wp2_with fail
  clear x0 x1 x2 xl
  go_loopw [68] (fun i wr => ∃ c : Nat, c ≤ N ∧ i = .int .i64 (c : Int) ∧ w8 = wr) (fun i _ => N - (intOf i).toNat)
  case atStart => exact ⟨0, Nat.zero_le _, rfl, rfl⟩
  case round =>
    obtain ⟨c, hc, rfl, rfl⟩ := hrel
    by_cases hlt : c < N
    · have hci : (c : Int) < (N : Int) := by omega
      have r1 := hROW8.out.cells c hlt
      have r2 := hROW8.out.cells p hpN
      have rl := hROW8.out.lt
      by_cases hcq : c = q
      · subst hcq
        have hcn : ((c : Int) != (c : Int)) = false := by simp
        go_wp2_with fail
        go_roundw
        case rel => exact ⟨c + 1, by omega, by go_num, trivial⟩
        case measure => simp [intOf]; omega
      · have hcn : ((c : Int) != (q : Int)) = true := bne_iff_ne.2 (by omega)
        have hb := HBEST.out c hlt hcq
        generalize loadV ts c = lc at *
        generalize loadV ts p = lp at *
        have g1 : ¬ (lp < lc) := by omega
        by_cases he : lc = lp
        · subst he
          have g2 : ¬ ((c : Int) < (p : Int)) := by omega
          have HB := Lib.hid hb
          clear hb
          go_wp2_with fail
          go_roundw
          case rel => exact ⟨c + 1, by omega, by go_num, trivial⟩
          case measure => simp [intOf]; omega
        · have g2 : (lc == lp) = false := beq_eq_false_iff_ne.2 he
          have HB := Lib.hid hb
          clear hb
          go_wp2_with fail
          go_roundw
          case rel => exact ⟨c + 1, by omega, by go_num, trivial⟩
          case measure => simp [intOf]; omega
    · have hce : c = N := by omega
      subst hce
      have hcn : ¬ ((c : Int) < (c : Int)) := by omega
      obtain ⟨x0, x1, x2, xl⟩ := HS8.out
      go_wp2_with fail
      have HT0 := Lib.hid (Tb.new w8 t0 43)
      have HKW := Lib.hid (show Kp w8.heap.size w8 (w8.alloc (.cells (tkc t0) 43)) from (Kp.refl _ _).alloc (Nat.le_refl _) _)
      dsimp only [tkc, t0] at HT0 HKW
      obtain ⟨b9, hb9⟩ : ∃ b, b = w8.heap.size := ⟨_, rfl⟩
      have HB9 := Lib.hid hb9
      rw [← hb9] at HT0
      rw [← hb9]
      clear hb9 x0 x1 x2 xl
      generalize w8.alloc _ = w9 at *
      obtain ⟨S, hS⟩ : ∃ S : Sc, S = ⟨(c : Int), ts, cur⟩ := ⟨_, rfl⟩
      have HSV := Lib.hid hS
      clear hS
      go_loopw [102] (fun i wr => ∃ j : Nat, j ≤ la' ∧ i = .int .i64 (j : Int) ∧ Tb wr b9 (bestSoFar S p q (ts.take j)) ∧ Kp w8.heap.size w8 wr) (fun i _ => la' - (intOf i).toNat)
      case atStart => exact ⟨0, Nat.zero_le _, rfl, HT0.out, HKW.out⟩
      case round =>
        clear HT0 HKW
        obtain ⟨j, hj, rfl, hbt, hk⟩ := hrel
        have HBT := Lib.hid hbt
        have HK := Lib.hid hk
        clear hbt hk
        by_cases hlt : j < la'
        · have hji : (j : Int) < (la' : Int) := by omega
          have htk := take_snoc' (ts := ts) (i := j) (by rw [HSC8.out.hla]; exact hlt)
          have hmem := getD_mem' (ts := ts) (j := j) (by have := HSC8.out.hla; dsimp only at this; omega)
          have hfit := HF.out.each _ hmem
          have hok := HSC8.out.ok _ hmem
          obtain ⟨b, off, rfl, T⟩ := (HSC8.out.kp HK.out).ts j hlt
          dsimp only at T
          have HTK := Lib.hid htk
          clear htk hmem
          generalize ts.getD j t0 = t at *
          obtain ⟨id, grp, wt, tc, mask, rdy, v, r⟩ := t
          have hw1 := hfit.wt0
          have hw2 := hfit.wt1
          have m0 := hok.mask0
          have m1 := hok.mask1
          dsimp only at hw1 hw2 m0 m1
          have HSN := Lib.hid (best_snoc (s := S) (p := p) (q := q) (us := ts.take j) (t := ⟨id, grp, wt, tc, mask, rdy, v, r⟩) hw1)
          obtain ⟨y0, y1, y2, y3, y4, y5, y6, y7, yl⟩ := T
          dsimp only at y0 y1 y2 y3 y4 y5 y6 y7
          go_upto_region 22 with fail
          have T := Lib.hid (TkAt.new wr ⟨id, grp, wt, tc, mask, rdy, v, r⟩ 43)
          have kk : Kp wr.heap.size wr (wr.alloc (.cells (tkc ⟨id, grp, wt, tc, mask, rdy, v, r⟩) 43)) := (Kp.refl _ _).alloc (Nat.le_refl _) _
          have HBT2 := Lib.hid (HBT.out.kps kk)
          have HK2 := Lib.hid (HK.out.trans (kk.mono HK.out.size))
          obtain ⟨bT, hbT⟩ : ∃ bT, bT = wr.heap.size := ⟨_, rfl⟩
          have dT : b9 ≠ bT := by have := HBT.out.tk.lt; omega
          rw [← hbT] at T
          rw [← hbT]
          clear y0 y1 y2 y3 y4 y5 y6 y7 yl HBT HK kk hbT hfit hok
          dsimp only [tkc] at T HBT2 HK2
          generalize wr.alloc _ = wA at *
          obtain ⟨y0, y1, y2, y3, y4, y5, y6, y7, yl⟩ := T.out
          simp only [Nat.zero_add] at y0 y1 y2 y3 y4 y5 y6 y7
          have HS9 := HS8.out.kp HK2.out
          obtain ⟨x0, x1, x2, xl⟩ := HS9
          obtain ⟨bc, oc, rfl, hbc, cc⟩ := (HSC8.out.kp HK2.out).cur p hpN
          dsimp only at cc
          have hR9 := hROW8.out.kp HK2.out
          have r1 := hR9.cells p hpN
          have r2 := hR9.cells q hqN
          have rl := hR9.lt
          have b1 := loadV_bd (n := (c : Int)) p HF.out.each
          have b2 := loadV_bd (n := (c : Int)) q HF.out.each
          have hlen : ts.length ≤ 40 := by have := HSC8.out.hla; dsimp only at this; omega
          obtain ⟨z0, z1, z2, z3, z4, z5, z6, z7, zl⟩ := HBT2.out.tk
          simp only [Nat.zero_add] at z0 z1 z2 z3 z4 z5 z6 z7
          have hw0 : 0 ≤ (bestSoFar S p q (ts.take j)).wt := best_wt0 (fun t ht => by have := (HF.out.each t (List.mem_of_mem_take ht)).wt0; omega)
          have HLB := Lib.hid (show ∀ x, litB S p q ⟨id, grp, wt, tc, mask, rdy, v, r⟩ = x → (rdy && (tc == (p : Int)) && (cur.getD p 0 != id) && hasB mask (q : Int) && decide (2 * wt ≤ loadV ts p - loadV ts q)) = x from fun x hx => by rw [← hx, HSV.out]; rfl)
          generalize bestSoFar S p q (ts.take j) = bt at *
          dsimp only at b1 b2
          generalize hlp : loadV ts p = lp at *
          generalize hlq : loadV ts q = lq at *
          generalize hci : cur.getD p 0 = cid at *
          have HLP := Lib.hid hlp
          have HLQ := Lib.hid hlq
          have HCI := Lib.hid hci
          clear hlp hlq hci
          obtain ⟨q1, q2⟩ := b1
          obtain ⟨q3, q4⟩ := b2
          replace q2 : lp ≤ 2621440 := by omega
          replace q4 : lq ≤ 2621440 := by omega
          cases rdy
          · go_quiet (fail)
            all_goals go_wp2_with fail
            all_goals
              go_roundw
              case rel => exact ⟨j + 1, by omega, by go_num, by rw [HTK.out, HSN.out, if_neg (fun h => by have := HLB.out _ h.1; simp at this)]; exact HBT2.out.kps ((Kp.refl _ _).drewN _), HK2.out.drewN _⟩
              case measure => simp [intOf]; omega
          by_cases e1 : tc = (p : Int)
          rotate_left
          · have e2 : (tc == (p : Int)) = false := beq_eq_false_iff_ne.2 e1
            go_quiet (fail)
            all_goals go_wp2_with fail
            all_goals
              go_roundw
              case rel => exact ⟨j + 1, by omega, by go_num, by rw [HTK.out, HSN.out, if_neg (fun h => by have := HLB.out _ h.1; rw [e2] at this; simp at this)]; exact HBT2.out.kps ((Kp.refl _ _).drewN _), HK2.out.drewN _⟩
              case measure => simp [intOf]; omega
          subst e1
          by_cases e1 : cid = id
          · have e2 : (cid != id) = false := by rw [e1]; simp
            go_quiet (fail)
            all_goals go_wp2_with fail
            all_goals
              go_roundw
              case rel => exact ⟨j + 1, by omega, by go_num, by rw [HTK.out, HSN.out, if_neg (fun h => by have := HLB.out _ h.1; rw [e2] at this; simp at this)]; exact HBT2.out.kps ((Kp.refl _ _).drewN _), HK2.out.drewN _⟩
              case measure => simp [intOf]; omega
          have e2 : (cid != id) = true := bne_iff_ne.2 e1
          have hbt : (bits BinOp.and IntKind.u64 (mask / 2 ^ q) 1 == 1) = hasB mask (q : Int) := by rw [and_one _ (by have := (shr_bd (c := (q : Int)) m0 m1).1; rwa [Int.toNat_natCast] at this) (by have := (shr_bd (c := (q : Int)) m0 m1).2; rwa [Int.toNat_natCast] at this)]; rfl
          cases e3 : hasB mask (q : Int)
          · rw [e3] at hbt
            go_quiet (fail)
            all_goals go_wp2_with fail
            all_goals
              go_roundw
              case rel => exact ⟨j + 1, by omega, by go_num, by rw [HTK.out, HSN.out, if_neg (fun h => by have := HLB.out _ h.1; rw [e3] at this; simp at this)]; exact HBT2.out.kps ((Kp.refl _ _).drewN _), HK2.out.drewN _⟩
              case measure => simp [intOf]; omega
          rw [e3] at hbt
          by_cases e4 : lq + wt ≤ lp - wt
          rotate_left
          · have e5 : lp - wt < lq + wt := by omega
            go_quiet (fail)
            all_goals go_wp2_with fail
            all_goals
              go_roundw
              case rel => exact ⟨j + 1, by omega, by go_num, by rw [HTK.out, HSN.out, if_neg (fun h => by have := HLB.out _ h.1; simp at this; omega)]; exact HBT2.out.kps ((Kp.refl _ _).drewN _), HK2.out.drewN _⟩
              case measure => simp [intOf]; omega
          by_cases e6 : bt.wt < wt
          rotate_left
          · have e7 : wt ≤ bt.wt := by omega
            go_quiet (fail)
            all_goals go_wp2_with fail
            all_goals
              go_roundw
              case rel => exact ⟨j + 1, by omega, by go_num, by rw [HTK.out, HSN.out, if_neg (fun h => by have := h.2; dsimp only at this; omega)]; exact HBT2.out.kps ((Kp.refl _ _).drewN _), HK2.out.drewN _⟩
              case measure => simp [intOf]; omega
          have e8 : litB S p q ⟨id, grp, wt, (p : Int), mask, true, v, r⟩ = true := by
            rw [HSV.out]
            unfold litB freeB lightB
            dsimp only
            rw [HLP.out, HLQ.out, Int.toNat_natCast, HCI.out, e2, e3, decide_eq_true (show 2 * wt ≤ lp - lq by omega)]
            simp
          have zf := HBT2.out.fz
          go_quiet (fail)
          have P := And.intro ((HBT2.out.kps ((Kp.refl _ _).drewN nq)).put ⟨id, grp, wt, (p : Int), mask, true, v, r⟩) (putT_kp (HK2.out.drewN nq) (b := b9) (by rw [HB9.out]; exact Nat.le_refl _) ⟨id, grp, wt, (p : Int), mask, true, v, r⟩)
          simp only [putT] at P
          have HP := Lib.hid P
          clear P
          go_wp2_with fail
          clear y0 y1 y2 y3 y4 y5 y6 y7 z0 z1 z2 z3 z4 z5 z6 z7 x0 x1 x2 xl zf r1 r2 cc
          generalize World.setCell _ _ _ = w11 at *
          go_roundw
          case rel =>
            refine ⟨j + 1, by omega, by go_num, ?_, HP.out.2⟩
            rw [HTK.out, HSN.out, if_pos ⟨e8, e6⟩]
            exact HP.out.1
          case measure => simp [intOf]; omega
        · have hje : j = la' := by omega
          subst hje
          have hjn : ¬ ((j : Int) < (j : Int)) := by omega
          have htk : ts.take j = ts := List.take_of_length_le (by rw [HSC8.out.hla]; exact Nat.le_refl _)
          rw [htk] at HBT
          have hpb := pull_best (s := S) (p := p) (q := q) (by rw [HSV.out]; exact hE) (by rw [HSV.out]; exact hP) (fun t ht => by rw [HSV.out] at ht; exact (HF.out.each t ht).id0)
          have hts : S.ts = ts := by rw [HSV.out]
          rw [hts] at hpb
          have HM9 := HM.out.kp HK.out
          obtain ⟨z0, z1, z2, z3, z4, z5, z6, z7, zl⟩ := HBT.out.tk
          simp only [Nat.zero_add] at z0 z1 z2 z3 z4 z5 z6 z7
          generalize bestSoFar S p q ts = bt at *
          obtain ⟨mm0, mm1, mm2, mml⟩ := HM9
          have KF := Lib.hid (K8.out.trans (HK.out.mono K8.out.size))
          rw [HSV.out] at hpb
          rcases hpb with ⟨h1, h2⟩ | ⟨h1, h2⟩
          · have e2 := HPV.out.trans h1
            cases e2
            have h3 : (bt.id == 0) = true := beq_iff_eq.2 h2
            clear h1
            go_wp2_with fail
            go_ret
            exact ⟨rfl, KF.out⟩
          · have e2 := HPV.out.trans h1
            cases e2
            have h3 : (bt.id == 0) = false := beq_eq_false_iff_ne.2 h2
            clear h1
            go_wp2_with fail
            go_ret
            exact ⟨rfl, KF.out⟩
end Go.Proofs.Yticgdfbknaholaa
