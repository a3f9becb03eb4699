/-
  The contract of Plan.
-/
import Derived.Test.YticgdfbknaholaaPS27
namespace Go.Proofs.Yticgdfbknaholaa
open Go.RowKit

def lenOf : Value → Nat | .slice _ n _ => n | _ => 0
/-- What Plan hands back: the scene, the moves, the error. -/
def planV (s : Sc) (most : Int) : Sc × List Mv × Int :=
  if rightS s then if most < 0 then (s0, [], 2) else ((roundsV most.toNat (most.toNat + 1) s []).1, (roundsV most.toNat (most.toNat + 1) s []).2, 0) else (s0, [], 270)
def PlanPost (W : World) (r : Sc × List Mv × Int) (e : Ending) (w' : World) : Prop := ∃ v vs, e = .returned (.tuple #[v, vs, .int .i64 r.2.2]) ∧ w'.ownsRow W.heap.size 38 3 v r.2.1.length (flatM r.2.1) ∧ OwnSc w' W.heap.size vs r.1 ∧ Kp W.heap.size W w'
set_option maxRecDepth 100000 in
set_option maxHeartbeats 4000000 in
theorem plan_any (W : World) {A B : Option Addr} {la ca lb cb : Nat} {s : Sc} {most : Int} (h : ScAt W A la B lb s) (hA : A = none → ca = 0) (hB : B = none → cb = 0) (hm : most ≤ 1000000) :
    Calls Try.prog 12 #[.agg #[.int .i64 s.n, .slice A la ca, .slice B lb cb], .int .i64 most] W (PlanPost W (planV s most)) := by
  obtain ⟨rV, hV⟩ : ∃ v, v = planV s most := ⟨_, rfl⟩
  rw [← hV]
  have HV := Lib.hid hV
  have HSC := Lib.hid h
  have HR := fun w (k : Kp W.heap.size W w) => Lib.hid (right_at (ca := ca) (cb := cb) (h.kp k))
  have K0 := Lib.hid (((Kp.refl W.heap.size W).alloc (Nat.le_refl _) (.cells #[.int .i64 s.n, .slice A la ca, .slice B lb cb] 30)).alloc (by rw [World.size_alloc]; omega) (.cells #[.int .i64 0, .slice none 0 0, .slice none 0 0] 30))
  have HX := Lib.hid ((C3.new W (.int .i64 s.n) (.slice A la ca) (.slice B lb cb) 30).alloc (.cells #[.int .i64 0, .slice none 0 0, .slice none 0 0] 30))
  have HXZ := Lib.hid ((Fz.new W #[.int .i64 s.n, .slice A la ca, .slice B lb cb] 30).alloc (.cells #[.int .i64 0, .slice none 0 0, .slice none 0 0] 30))
  have HXT := Lib.hid ((Ty.new W #[.int .i64 s.n, .slice A la ca, .slice B lb cb] 30).alloc (.cells #[.int .i64 0, .slice none 0 0, .slice none 0 0] 30))
  have HM0 := C3.new (W.alloc (.cells #[.int .i64 s.n, .slice A la ca, .slice B lb cb] 30)) (.int .i64 0) (.slice none 0 0) (.slice none 0 0) 30
  have HZ0 := Fz.new (W.alloc (.cells #[.int .i64 s.n, .slice A la ca, .slice B lb cb] 30)) #[.int .i64 0, .slice none 0 0, .slice none 0 0] 30
  have HT0 := Ty.new (W.alloc (.cells #[.int .i64 s.n, .slice A la ca, .slice B lb cb] 30)) #[.int .i64 0, .slice none 0 0, .slice none 0 0] 30
  simp only [World.size_alloc] at HM0 HZ0 HT0
  have HM := Lib.hid HM0
  have HZ := Lib.hid HZ0
  have HT := Lib.hid HT0
  have HNA := Lib.hid hA
  have HNB := Lib.hid hB
  clear HM0 HZ0 HT0 hV h hA hB
  go_enter Try.func12, Try.ntmps12
  go_upto_region 1 with fail
  generalize (W.alloc _).alloc _ = w1 at *
  obtain ⟨bS, hbS⟩ : ∃ b, b = W.heap.size := ⟨_, rfl⟩
  obtain ⟨bR, hbR⟩ : ∃ b, b = W.heap.size + 1 := ⟨_, rfl⟩
  rw [← hbS] at HX HXZ HXT
  rw [← hbR] at HM HZ HT
  rw [← hbR, ← hbS]
  have dSR : bS ≠ bR := by omega
  have WS : W.heap.size ≤ bS := by omega
  have WR : W.heap.size ≤ bR := by omega
  clear hbS hbR
  obtain ⟨x0, x1, x2, xl⟩ := HX.out
  go_wp2_with fail
  (with_reducible refine (HR _ K0.out).out.mono ?_)
  clear x0 x1 x2 xl HR
  rintro e w2 ⟨rfl, hk⟩
  have K1 := Lib.hid (K0.out.trans (hk.mono K0.out.size))
  have HX2 := Lib.hid (HX.out.kp hk)
  have HXZ2 := Lib.hid (HXZ.out.kp hk)
  have HXT2 := Lib.hid (HXT.out.kp hk)
  have HM2 := Lib.hid (HM.out.kp hk)
  have HZ2 := Lib.hid (HZ.out.kp hk)
  have HT2 := Lib.hid (HT.out.kp hk)
  clear hk K0 HX HXZ HXT HM HZ HT
  obtain ⟨m0, m1, m2, ml⟩ := HM2.out
  have mf := HZ2.out.2
  cases hr : rightS s
  · have HV2 := Lib.hid (HV.out.trans (show planV s most = (s0, [], 270) by unfold planV; rw [hr]; rfl))
    clear hr
    go_wp2_with fail
    have P := And.intro (HM2.out.set (.int .i64 0) (.slice none 0 0) (.slice none 0 0)) (((K1.out.setCell (p := ⟨bR, 0, none⟩) WR (.int .i64 0)).setCell (p := ⟨bR, 1, none⟩) WR (.slice none 0 0)).setCell (p := ⟨bR, 2, none⟩) WR (.slice none 0 0))
    clear m0 m1 m2 ml mf
    generalize World.setCell _ _ _ = w9 at *
    obtain ⟨⟨m0, m1, m2, ml⟩, K⟩ := P
    refine bodyPost_ret (v := .tuple #[.slice none 0 0, .agg #[.int .i64 0, .slice none 0 0, .slice none 0 0], .int .i64 270]) (by simp [results, Try.results12, go_sem, m0, m1, m2]) rfl ?_
    rw [HV2.out]
    exact ⟨_, _, rfl, World.ownsRow_nil _ _ _ _, ownSc_zero _ _, K⟩
  by_cases hm0 : most < 0
  · have HV2 := Lib.hid (HV.out.trans (show planV s most = (s0, [], 2) by unfold planV; rw [hr, if_pos rfl, if_pos hm0]))
    clear hr
    go_wp2_with fail
    have P := And.intro (HM2.out.set (.int .i64 0) (.slice none 0 0) (.slice none 0 0)) (((K1.out.setCell (p := ⟨bR, 0, none⟩) WR (.int .i64 0)).setCell (p := ⟨bR, 1, none⟩) WR (.slice none 0 0)).setCell (p := ⟨bR, 2, none⟩) WR (.slice none 0 0))
    clear m0 m1 m2 ml mf
    generalize World.setCell _ _ _ = w9 at *
    obtain ⟨⟨m0, m1, m2, ml⟩, K⟩ := P
    refine bodyPost_ret (v := .tuple #[.slice none 0 0, .agg #[.int .i64 0, .slice none 0 0, .slice none 0 0], .int .i64 2]) (by simp [results, Try.results12, go_sem, m0, m1, m2]) rfl ?_
    rw [HV2.out]
    exact ⟨_, _, rfl, World.ownsRow_nil _ _ _ _, ownSc_zero _ _, K⟩
  obtain ⟨M, rfl⟩ : ∃ M : Nat, most = (M : Int) := ⟨most.toNat, by omega⟩
  have hf := (rightS_iff s).1 hr
  have HV2 := Lib.hid (HV.out.trans (show planV s (M : Int) = ((roundsV M (M + 1) s []).1, (roundsV M (M + 1) s []).2, 0) by unfold planV; rw [hr, if_pos rfl, if_neg hm0, Int.toNat_natCast]))
  have hM0 : (0 : Int) ≤ (M : Int) := by omega
  have hcl := hf.cur
  have hn64 := hf.n64
  have hlen := hf.len
  rw [HSC.out.hla] at hlen
  rw [HSC.out.hlb] at hcl
  have HCL := fun w (k : Kp W.heap.size W w) => Lib.hid (clone_any w (ca := ca) (cb := cb) (HSC.out.kp k) HNA.out HNB.out (by omega) (by omega))
  have HF := Lib.hid hf
  clear HV hr hm0 hf
  obtain ⟨x0, x1, x2, xl⟩ := HX2.out
  have xf := HXZ2.out.2
  clear m0 m1 m2 ml mf
  go_wp2_with fail
  (with_reducible refine (HCL _ K1.out).out.mono ?_)
  clear x0 x1 x2 xl xf HCL
  rintro e w3 ⟨A', ca', B', cb', rfl, hsc, hsa, hsb, hdis, hk⟩
  have K2 := Lib.hid (K1.out.trans (hk.mono K1.out.size))
  have HX3 := HX2.out.kp hk
  have HXZ3 := HXZ2.out.kp hk
  have HXT3 := HXT2.out.kp hk
  have HM3 := HM2.out.kp hk
  have HZ3 := HZ2.out.kp hk
  have HT3 := HT2.out.kp hk
  have hw2 : W.heap.size ≤ w2.heap.size := K1.out.size
  have h2S : bS < w2.heap.size := HX2.out.lt
  have bs : ∀ {t A n c}, OwnSl w3 w2.heap.size t A n c → OwnSl w3 W.heap.size t A n c := fun h => ⟨h.le, h.max, h.nil, fun p hp => by
    obtain ⟨g, q1, q2, q3⟩ := h.at0 p hp
    exact ⟨g, q1, Nat.le_trans hw2 q2, q3⟩⟩
  have ela := HSC.out.hla
  have elb := HSC.out.hlb
  subst ela elb
  have P := Lib.hid (ps_put (W := W) (s' := s) (v := .slice none 0 0) (out := []) HX3 HXZ3 HXT3 HM3 HZ3 HT3 (World.ownsRow_nil _ _ _ _) K2.out dSR WS hsc (bs hsa) (bs hsb) hdis
    (fun p hp => by obtain ⟨g, rfl, q1, _⟩ := hsa.at0 p hp; dsimp only; omega) (fun p hp => by obtain ⟨g, rfl, q1, _⟩ := hsb.at0 p hp; dsimp only; omega) HF.out)
  obtain ⟨x0, x1, x2, xl⟩ := HX3
  have xf := HXZ3.2
  clear hk hsc hsa hsb hdis bs HXT3 HM3 HZ3 HT3 HX2 HXZ2 HXT2 HM2 HZ2 HT2 K1
  go_upto_region 6 with fail
  clear x0 x1 x2 xl xf HXZ3
  generalize World.setCell _ _ _ = w4 at *
  obtain ⟨i0, hi0, hz0, hz1, hz2⟩ := info_parts mv_info
  have HI := Lib.hid hi0
  have HZ0 := Lib.hid hz0
  have HZ1 := Lib.hid hz1
  have HZ2 := Lib.hid hz2
  clear hi0 hz0 hz1 hz2 HNA HNB HSC HF
  obtain ⟨R, hR⟩ : ∃ R, R = roundsV M (M + 1) s [] := ⟨_, rfl⟩
  rw [← hR] at HV2
  have HR := Lib.hid hR
  clear hR
  go_wp2_with fail
  go_loopw [7, 8] (fun v i wr => ∃ (s1 : Sc) (out : List Mv) (rd : Int) (f : Nat), i = .int .i64 rd ∧ -1 ≤ rd ∧ rd ≤ out.length ∧ out.length ≤ M ∧ M + 1 ≤ f + out.length ∧ PS W bS bR wr v s1 out ∧ (R = if rd < out.length then roundsV M f s1 out else (s1, out))) (fun _ i _ => M + 2 - (intOf i + 1).toNat)
  case atStart => exact ⟨s, [], -1, M + 1, rfl, by omega, by simp, by simp, by simp, P.out, by rw [HR.out]; rfl⟩
  case round =>
    clear P HR K2
    obtain ⟨s1, out, rd, f, rfl, hrd0, hrd1, hoM, hfM, hps, hRR⟩ := hrel
    obtain ⟨Av, cv, rfl, _⟩ := own_form hps.row
    have HP := Lib.hid hps
    have HRR := Lib.hid hRR
    clear hps hRR
    obtain ⟨lo, hlo⟩ : ∃ lo, lo = out.length := ⟨_, rfl⟩
    rw [← hlo] at hrd1 hoM hfM
    have HLO := Lib.hid hlo
    by_cases hlt : rd < (lo : Int)
    · have HR2 := Lib.hid (HRR.out.trans (if_pos (by rw [← HLO.out]; exact hlt)))
      have hN1 := HP.out.fit.n1
      have hN2 := HP.out.fit.n64
      obtain ⟨N, hN⟩ : ∃ N : Nat, s1.n = (N : Int) := ⟨s1.n.toNat, by omega⟩
      have hf1 : ∃ f', f = f' + 1 := ⟨f - 1, by omega⟩
      obtain ⟨f', rfl⟩ := hf1
      obtain ⟨R2, hR2⟩ : ∃ R2, R2 = roundV M N 0 s1 out := ⟨_, rfl⟩
      have HR3 : Hid (R = if out.length < R2.2.length then roundsV M f' R2.1 R2.2 else R2) := Lib.hid (by
        rw [HR2.out, hR2]
        have e : s1.n.toNat = N := by rw [hN]; rfl
        conv => lhs; unfold roundsV
        rw [e])
      have HRo := Lib.hid hR2
      obtain ⟨A1, ca1, B1, cb1, hx1, _⟩ := HP.out.sc
      rw [hN] at hx1
      obtain ⟨x0, x1, x2, xl⟩ := hx1
      rw [← hlo]
      clear HRR HR2 hR2 hlo
      go_wp2_with fail
      clear x0 x1 x2 xl
      go_loopw [7, 31] (fun v i wr => ∃ (s2 : Sc) (out2 : List Mv) (j : Nat), i = .int .i64 (j : Int) ∧ j ≤ N ∧ lo ≤ out2.length ∧ out2.length ≤ M ∧ PS W bS bR wr v s2 out2 ∧ (R2 = roundV M (N - j) j s2 out2)) (fun _ i _ => N - (intOf i).toNat)
      case atStart => exact ⟨s1, out, 0, rfl, Nat.zero_le _, by rw [HLO.out]; exact Nat.le_refl _, by rw [← HLO.out]; exact hoM, by rw [HLO.out]; exact HP.out, HRo.out⟩
      case round =>
        clear HP HRo
        obtain ⟨s2, out2, j, rfl, hjN, hlo2, hoM2, hps2, hRR2⟩ := hrel
        have HP2 := Lib.hid hps2
        have HRR2 := Lib.hid hRR2
        clear hps2 hRR2
        by_cases hjl : j < N
        · have hji : (j : Int) < N := by omega
          obtain ⟨lo2, hlo2e⟩ : ∃ lo2, lo2 = out2.length := ⟨_, rfl⟩
          obtain ⟨R3, hR3⟩ : ∃ R3, R3 = turnV (M - out2.length) s2 (j : Int) out2 := ⟨_, rfl⟩
          have HR4 : Hid (R2 = roundV M (N - (j + 1)) (j + 1) R3.1 R3.2) := Lib.hid (by
            rw [HRR2.out, hR3, show N - j = (N - (j + 1)) + 1 by omega]
            rfl)
          have HRo3 := Lib.hid hR3
          rw [← hlo2e] at hlo2 hoM2
          have HLO2 := Lib.hid hlo2e
          clear HRR2 hR3 hlo2e
          go_wp2_with fail
          go_loopw [7] (fun v wr => ∃ (s3 : Sc) (out3 : List Mv), lo2 ≤ out3.length ∧ out3.length ≤ M ∧ PS W bS bR wr v s3 out3 ∧ (R3 = turnV (M - out3.length) s3 (j : Int) out3)) (fun v _ => M - lenOf v)
          case atStart => exact ⟨s2, out2, by rw [HLO2.out]; exact Nat.le_refl _, by rw [← HLO2.out]; exact hoM2, HP2.out, HRo3.out⟩
          case round =>
            clear HP2 HRo3
            obtain ⟨s3, out3, hlo3, hoM3, hps3, hRR3⟩ := hrel
            obtain ⟨Av3, cv3, rfl, _⟩ := own_form hps3.row
            have HP3 := Lib.hid hps3
            have HRR3 := Lib.hid hRR3
            obtain ⟨l3, hl3⟩ : ∃ l3, l3 = out3.length := ⟨_, rfl⟩
            rw [← hl3] at hlo3 hoM3
            rw [← hl3]
            have HL3 := Lib.hid hl3
            clear hps3 hRR3 hl3
            by_cases hlM : l3 < M
            · have hlMi : (l3 : Int) < M := by omega
              obtain ⟨A3, ca3, B3, cb3, hx3, hs3, ha3, hb3, hd3⟩ := HP3.out.sc
              have HPU := Lib.hid (pull_any wr (ca := ca3) (cb := cb3) (cpu := (j : Int)) hs3)
              have HPOK := Lib.hid (fun (h : (pullV s3 (j : Int)).2 = 0) => pull_ok h)
              have HRR4 : Hid (R3 = if (pullV s3 (j : Int)).2 = 0 then turnV (M - (l3 + 1)) (doV s3 (pullV s3 (j : Int)).1.1 (pullV s3 (j : Int)).1.2.1 (pullV s3 (j : Int)).1.2.2).1 (j : Int) (out3 ++ [(pullV s3 (j : Int)).1]) else (s3, out3)) := Lib.hid (by
                rw [HRR3.out, ← HL3.out, show M - l3 = (M - (l3 + 1)) + 1 by omega]
                rfl)
              have HS3 := Lib.hid hs3
              generalize pullV s3 (j : Int) = pv at *
              obtain ⟨⟨mk, mx, my⟩, pe⟩ := pv
              dsimp only at HPU HPOK HRR4
              have HA3 := Lib.hid ha3
              have HB3 := Lib.hid hb3
              have HD3 := Lib.hid hd3
              obtain ⟨x0, x1, x2, xl⟩ := hx3
              clear HRR3 hs3 ha3 hb3 hd3
              go_wp2_with fail
              (with_reducible refine HPU.out.mono ?_)
              clear x0 x1 x2 xl
              rintro e w5 ⟨rfl, hk5⟩
              have HP5 := Lib.hid (HP3.out.kps hk5)
              have HS5 := Lib.hid (HS3.out.kp hk5)
              clear HP3 HS3 HPU
              go_upto_region 15 with fail
              have kk5 : Kp w5.heap.size w5 (w5.alloc (.cells #[.int .i64 mk, .int .i64 mx, .int .i64 my] 38)) := (Kp.refl _ _).alloc (Nat.le_refl _) _
              have HB6 := Lib.hid (C3.new w5 (.int .i64 mk) (.int .i64 mx) (.int .i64 my) 38)
              have HP6 := Lib.hid (HP5.out.kps kk5)
              have HS6 := Lib.hid (HS5.out.kp kk5)
              obtain ⟨bm, hbm⟩ : ∃ b, b = w5.heap.size := ⟨_, rfl⟩
              have dmS : bm ≠ bS := by have := HP5.out.fs.1; omega
              rw [← hbm] at HB6
              rw [← hbm]
              clear HP5 HS5 kk5 hbm hk5
              generalize w5.alloc _ = w6 at *
              by_cases hpe : pe = 0
              rotate_left
              · have hpe2 : (pe != 0) = true := bne_iff_ne.2 hpe
                have HRX := Lib.hid (HRR4.out.trans (if_neg hpe))
                go_wp2_with fail
                go_roundw
                case rel => exact ⟨s3, out3, j + 1, by go_num, by omega, by rw [← HL3.out]; omega, by rw [← HL3.out]; exact hoM3, by rw [HL3.out]; exact HP6.out, by rw [HR4.out, HRX.out]⟩
                case measure => simp [intOf]; omega
              · subst hpe
                obtain ⟨hrs, hdo, _⟩ := HPOK.out rfl
                have HRX := Lib.hid (HRR4.out.trans (if_pos rfl))
                have hfit3 := HP6.out.fit
                have hdv : doV s3 mk mx my = (⟨s3.n, moveT s3.ts mk my, s3.cur⟩, 0) := by unfold doV; rw [if_pos hrs, if_pos hdo]
                have HFN := Lib.hid (show (doV s3 mk mx my).1.fit by rw [hdv]; exact fit_move hfit3 hdo)
                obtain ⟨A6, ca6, B6, cb6, hx6, hs6, ha6, hb6, hd6⟩ := HP6.out.sc
                have HDO := Lib.hid (do_any w6 (k := mk) (x := mx) (y := my) hs6 ha6.nil hb6.nil)
                generalize doV s3 mk mx my = dv at *
                obtain ⟨s', er⟩ := dv
                dsimp only at HFN HRX
                obtain ⟨x0, x1, x2, xl⟩ := hx6
                have xf := HP6.out.fs.2
                obtain ⟨y0, y1, y2, yl⟩ := HB6.out
                clear hrs hdo hfit3 hs6 ha6 hb6 hd6 hdv HPOK HRR4 HA3 HB3 HD3 HS6
                go_wp2_with fail
                (with_reducible refine HDO.out.mono ?_)
                clear x0 x1 x2 xl xf y0 y1 y2 yl HDO
                rintro e w7 ⟨v7, rfl, hsc7, hk7⟩
                obtain ⟨A7, ca7, B7, cb7, rfl, hs7, ha7, hb7, hd7⟩ := hsc7.ex
                dsimp only at hs7 ha7 hb7
                have HP7 := Lib.hid (HP6.out.kps hk7)
                have HB7 := Lib.hid (HB6.out.kp hk7)
                have h6W : W.heap.size ≤ w6.heap.size := HP6.out.kp.size
                have h6S : bS < w6.heap.size := HP6.out.fs.1
                have bs7 : ∀ {t A n c}, OwnSl w7 w6.heap.size t A n c → OwnSl w7 W.heap.size t A n c := fun h => ⟨h.le, h.max, h.nil, fun p hp => by
                  obtain ⟨g, q1, q2, q3⟩ := h.at0 p hp
                  exact ⟨g, q1, Nat.le_trans h6W q2, q3⟩⟩
                have HP8 := Lib.hid (HP7.out.store dSR WS hs7 (bs7 ha7) (bs7 hb7) hd7
                  (fun p hp => by obtain ⟨g, rfl, q1, _⟩ := ha7.at0 p hp; dsimp only; omega) (fun p hp => by obtain ⟨g, rfl, q1, _⟩ := hb7.at0 p hp; dsimp only; omega) HFN.out)
                have HB8 := Lib.hid (((HB7.out.far (p := ⟨bS, 0, none⟩) dmS.symm (.int .i64 s'.n)).far (p := ⟨bS, 1, none⟩) dmS.symm (.slice A7 s'.ts.length ca7)).far (p := ⟨bS, 2, none⟩) dmS.symm (.slice B7 s'.cur.length cb7))
                obtain ⟨A9, ca9, B9, cb9, hx9, _⟩ := HP7.out.sc
                obtain ⟨x0, x1, x2, xl⟩ := hx9
                have xf := HP7.out.fs.2
                clear hk7 hsc7 hs7 ha7 hb7 hd7 bs7 HP6 HB6 HP7 HB7 h6W h6S
                go_upto_region 17 with fail
                clear x0 x1 x2 xl xf
                generalize World.setCell _ _ _ = w8 at *
                obtain ⟨y0, y1, y2, yl⟩ := HB8.out
                have hw8 := HP8.out.kp.size
                have HF8 := Lib.hid (show flatM [(mk, mx, my)] = [.int .i64 mk, .int .i64 mx, .int .i64 my] from rfl)
                go_wp2_with (at_builtin; refine wpList_append_rd _ rfl _ _ 32 rfl W.heap.size 38 i0 (.agg #[.int .i64 0, .int .i64 0, .int .i64 0]) 3 24 Try.underlying32 HI.out HZ0.out HZ1.out HZ2.out rfl (by decide) _ l3 (flatM out3) rfl ?qc1 (some ⟨w8.heap.size, 0, none⟩) 1 1 (flatM [(mk, mx, my)]) rfl ?qc2 (oneCellsM [(mk, mx, my)]) ?qc4 ?qc5 ?qc6 ?_)
                case qc1 =>
                  have h := own_kp HP8.out.row ((Kp.refl _ w8).alloc (Nat.le_refl _) (.cells #[.int .i64 mk, .int .i64 mx, .int .i64 my] 38))
                  rw [← HL3.out] at h
                  exact h
                case qc2 =>
                  rw [HF8.out]
                  exact rd_new w8 _ 38 3 1 rfl
                case qc4 => unfold maxLen; omega
                case qc5 => omega
                case qc6 => simp; omega
                intro v9 w9 hown9 hgrow9
                clear y0 y1 y2 yl
                have HP9 := Lib.hid ((HP8.out.kps ((Kp.refl _ w8).alloc (Nat.le_refl _) (.cells #[.int .i64 mk, .int .i64 mx, .int .i64 my] 38))).grown (m := (mk, mx, my)) (by rw [← HL3.out]; exact hgrow9) (by rw [← HL3.out]; exact hown9))
                clear hown9 hgrow9 HP8 HB8
                have HL9 := Lib.hid (show (out3 ++ [(mk, mx, my)]).length = l3 + 1 by rw [List.length_append, ← HL3.out]; rfl)
                have hv9 : lenOf v9 = l3 + 1 := by
                  obtain ⟨_, _, e9, _⟩ := own_form HP9.out.row
                  rw [e9, ← HL9.out]
                  rfl
                have HV9 := Lib.hid hv9
                clear hv9
                go_wp2_with fail
                go_roundw
                case rel => exact ⟨s', out3 ++ [(mk, mx, my)], by rw [HL9.out]; omega, by rw [HL9.out]; omega, HP9.out, by rw [HRX.out, HL9.out]⟩
                case measure =>
                  show M - lenOf v9 < M - l3
                  rw [HV9.out]
                  omega
            · have hl3M : l3 = M := by omega
              have hln : ¬ ((l3 : Int) < (M : Int)) := by omega
              have HRX : Hid (R3 = (s3, out3)) := Lib.hid (by rw [HRR3.out, ← HL3.out, show M - l3 = 0 by omega]; rfl)
              go_wp2_with fail
              go_roundw
              case rel => exact ⟨s3, out3, j + 1, by go_num, by omega, by rw [← HL3.out]; omega, by rw [← HL3.out]; exact hoM3, by rw [HL3.out]; exact HP3.out, by rw [HR4.out, HRX.out]⟩
              case measure => simp [intOf]; omega
        · have hje : j = N := by omega
          subst hje
          have hjn : ¬ ((j : Int) < (j : Int)) := by omega
          have HRX : Hid (R2 = (s2, out2)) := Lib.hid (by rw [HRR2.out, Nat.sub_self]; rfl)
          go_wp2_with fail
          go_roundw
          case rel =>
            by_cases hgr : lo < out2.length
            · exact ⟨s2, out2, (lo : Int), f', rfl, by omega, by omega, hoM2, by omega, HP2.out, by rw [HR3.out, ← HLO.out, HRX.out, if_pos hgr, if_pos (by omega)]⟩
            · exact ⟨s2, out2, (lo : Int), f' + 1, rfl, by omega, by omega, hoM2, by omega, HP2.out, by rw [HR3.out, ← HLO.out, HRX.out, if_neg hgr, if_neg (by omega)]⟩
          case measure => simp [intOf]; omega
    · have HR2 := Lib.hid (HRR.out.trans (if_neg (by rw [← HLO.out]; exact hlt)))
      obtain ⟨A1, ca1, B1, cb1, ⟨x0, x1, x2, xl⟩, hs1, ha1, hb1, hd1⟩ := HP.out.sc
      obtain ⟨m0, m1, m2, ml⟩ := HP.out.r
      have mf := HP.out.fr.2
      rw [← hlo]
      clear HRR hlo
      go_wp2_with fail
      refine wp_region_noPanic ?_
      refine wp_region_anyN (fun w' => w'.cell? ⟨bS, 0, none⟩ = some (.int .i64 s1.n) ∧ w'.cell? ⟨bS, 1, none⟩ = some (.slice A1 s1.ts.length ca1) ∧ w'.cell? ⟨bS, 2, none⟩ = some (.slice B1 s1.cur.length cb1)) 4 (by kernel_rfl) ?_
      have hS : wr.drew.cell? ⟨bS, 0, none⟩ = some (.int .i64 s1.n) ∧ wr.drew.cell? ⟨bS, 1, none⟩ = some (.slice A1 s1.ts.length ca1) ∧ wr.drew.cell? ⟨bS, 2, none⟩ = some (.slice B1 s1.cur.length cb1) := ⟨x0, x1, x2⟩
      have hkx : Kx bR (bR + 1) 0 0 wr.drew (((wr.drew.setCell ⟨bR, 0, none⟩ (.int .i64 s1.n)).setCell ⟨bR, 1, none⟩ (.slice A1 s1.ts.length ca1)).setCell ⟨bR, 2, none⟩ (.slice B1 s1.cur.length cb1)) :=
        (((Kx.refl _ _ _ _ wr.drew).setIn (p := ⟨bR, 0, none⟩) (Nat.le_refl _) (Nat.lt_succ_self _) _).setIn (p := ⟨bR, 1, none⟩) (Nat.le_refl _) (Nat.lt_succ_self _) _).setIn (p := ⟨bR, 2, none⟩) (Nat.le_refl _) (Nat.lt_succ_self _) _
      have hC : C3 (((wr.drew.setCell ⟨bR, 0, none⟩ (.int .i64 s1.n)).setCell ⟨bR, 1, none⟩ (.slice A1 s1.ts.length ca1)).setCell ⟨bR, 2, none⟩ (.slice B1 s1.cur.length cb1)) bR (.int .i64 s1.n) (.slice A1 s1.ts.length ca1) (.slice B1 s1.cur.length cb1) := HP.out.r.drew.set _ _ _
      have HPD := Lib.hid (HP.out.kps ((Kp.refl _ wr).drewN 1))
      have HKX := Lib.hid (And.intro hkx hC)
      have HS1 := Lib.hid (And.intro (hs1.kp ((Kp.refl _ wr).drewN 1)) (And.intro (ha1.kp ((Kp.refl _ wr).drewN 1)) (And.intro (hb1.kp ((Kp.refl _ wr).drewN 1)) hd1)))
      have m0' : wr.drew.cell? ⟨bR, 0, none⟩ = some (.int .i64 0) := m0
      have m1' : wr.drew.cell? ⟨bR, 1, none⟩ = some (.slice none 0 0) := m1
      have m2' : wr.drew.cell? ⟨bR, 2, none⟩ = some (.slice none 0 0) := m2
      have mf' : ∀ o, wr.drew.frozen? ⟨bR, o, none⟩ = false := mf
      have ml' : bR < wr.drew.heap.size := ml
      have xl' : bS < wr.drew.heap.size := xl
      have HPD2 := Lib.hid (show PS W bS bR wr.drew _ _ _ from HPD.out)
      have HS2 := Lib.hid (show ScAt wr.drew _ _ _ _ _ ∧ OwnSl wr.drew _ _ _ _ _ ∧ OwnSl wr.drew _ _ _ _ _ ∧ _ from HS1.out)
      clear x0 x1 x2 xl m0 m1 m2 mf ml hkx hC HPD HS1 HP hs1 ha1 hb1 hd1
      generalize wr.drew = w0 at *
      refine anyN_takeR 0 (v := ?_) rfl (by kernel_rfl) (by kernel_rfl) (by kernel_rfl) (by kernel_rfl) (fun _ _ _ h => h) (Or.inl ⟨by rfl, ?_⟩) hS ?_
      rotate_left
      · intro w hSw
        obtain ⟨_, _, _⟩ := hSw
        go_simp
        try with_reducible rfl
      simp only [Act.put, List.setIfInBounds_toArray, List.set_cons_zero, List.set_cons_succ]
      refine anyN_takeR 1 (v := ?_) rfl (by kernel_rfl) (by kernel_rfl) (by kernel_rfl) (by kernel_rfl) (fun _ _ _ h => h) (Or.inl ⟨by rfl, ?_⟩) hS ?_
      rotate_left
      · intro w hSw
        obtain ⟨_, _, _⟩ := hSw
        go_simp
        try with_reducible rfl
      simp only [Act.put, List.setIfInBounds_toArray, List.set_cons_zero, List.set_cons_succ]
      refine anyN_one 2 rfl (by kernel_rfl) rfl ?_
      go_simp
      first | refine and_keep hS (fun _ => ?_) | skip
      refine anyN_one 3 rfl (by kernel_rfl) rfl ?_
      go_simp
      refine anyN_one 4 rfl (by kernel_rfl) rfl ?_
      go_simp
      refine anyN_done (by kernel_rfl) ?_
      refine NoPanic.normal ?_
      obtain ⟨hkx, hC⟩ := HKX.out
      obtain ⟨hs1, ha1, hb1, hd1⟩ := HS2.out
      clear m0' m1' m2' mf' ml' xl' hS HKX HS2
      generalize World.setCell _ _ _ = w9 at *
      have nR : ∀ (b : Nat) (t : TypeId), Ty w0 b t → t ≠ 30 → b < bR ∨ bR + 1 ≤ b := fun b t h1 h2 => by
        rcases Nat.lt_trichotomy b bR with h | h | h
        · exact Or.inl h
        · subst h
          obtain ⟨c, fr, e1⟩ := h1
          obtain ⟨c2, fr2, e2⟩ := HPD2.out.tr
          rw [e1] at e2
          cases e2
          exact absurd rfl h2
        · exact Or.inr h
      have cA : ∀ p, A1 = some p → p.block < bR ∨ bR + 1 ≤ p.block := fun p hp => by
        obtain ⟨q, rfl, _, _, _, hty⟩ := ha1.at0 p hp
        exact nR q 43 hty (by decide)
      have cB : ∀ p, B1 = some p → p.block < bR ∨ bR + 1 ≤ p.block := fun p hp => by
        obtain ⟨q, rfl, _, _, _, hty⟩ := hb1.at0 p hp
        exact nR q 3 hty (by decide)
      have hne := own_ty HPD2.out.row HPD2.out.tr (by decide)
      have hown : w9.ownsRow W.heap.size 38 3 (.slice Av lo cv) lo (flatM out) := by
        have h0 := HPD2.out.row
        rw [← HLO.out] at h0 hne
        refine ⟨h0.1, ?_⟩
        rcases h0.2 with h2 | ⟨q, cap, cur, e9, hq, hh, r1, r2, r3, r4⟩
        · exact Or.inl h2
        · have hqb : q ≠ bR := fun e => hne (by rw [e9]; simp [Value.ownBlock, e])
          exact Or.inr ⟨q, cap, cur, e9, hq, (hkx.block q (by
            rcases Nat.lt_or_ge q w0.heap.size with h9 | h9
            · exact h9
            · rw [Array.getElem?_eq_none h9] at hh; cases hh) (by omega) (Or.inr (Nat.zero_le _))).trans hh, r1, r2, r3, r4⟩
      have HFIN := Lib.hid (show PlanPost W (s1, out, 0) (.returned (.tuple #[.slice Av lo cv, .agg #[.int .i64 s1.n, .slice A1 s1.ts.length ca1, .slice B1 s1.cur.length cb1], .int .i64 0])) w9 from
        ⟨_, _, rfl, by rw [← HLO.out]; exact hown, ⟨A1, ca1, B1, cb1, rfl, ⟨rfl, rfl, hs1.ts.kx hkx cA, isInts_kx hs1.cur hkx cB, hs1.ok, hs1.lam, hs1.lbm⟩, ha1.kx hkx cA, hb1.kx hkx cB, hd1⟩, HPD2.out.kp.trans (hkx.kp HPD2.out.kp.size (Or.inr WR) (Or.inl (Nat.le_refl _)))⟩)
      obtain ⟨m0, m1, m2, ml⟩ := hC
      have HV3 := Lib.hid (HV2.out.trans (by rw [HR2.out]))
      clear hown hne cA cB nR hkx hs1 ha1 hb1 hd1
      go_wp2_with fail
      refine bodyPost_ret (v := .tuple #[.slice Av lo cv, .agg #[.int .i64 s1.n, .slice A1 s1.ts.length ca1, .slice B1 s1.cur.length cb1], .int .i64 0]) (by simp [results, Try.results12, go_sem, m0, m1, m2]) rfl ?_
      rw [HV3.out]
      exact HFIN.out
end Go.Proofs.Yticgdfbknaholaa
