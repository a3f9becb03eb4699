/-
  The law on what is wrong.
-/
import Derived.Test.YticgdfbknaholaaMadeAt27
import Derived.Test.YticgdfbknaholaaWrongV27
import Derived.Deep.CutBlock
import Derived.Test.YticgdfbknaholaaMovesV27
namespace Go.Proofs.Yticgdfbknaholaa
open Go.RowKit

def tn : Tk := ⟨1, 0, 1, 0, 1, false, 0, 0⟩
theorem ws_old {w2 w : World} {v : Value} {N la bS : Nat} {A B : Option Addr} {ca cb : Nat} {ts : List Tk} {cur : List Int} (hm : MadeAt w2 w v N la A B ca cb ts cur) (h0 : 0 < la) (hs : C3 w bS (.int .i64 (N : Int)) (.slice A la ca) (.slice B N cb)) (hf : Fz w bS) (ht : Ty w bS 30) (hS : w2.heap.size ≤ bS) :
    ∃ g, A = some ⟨g, 0, none⟩ ∧ WS w2 w bS g N la ca (.slice B N cb) ts cur := by
  obtain ⟨A', c', e, ho, hr⟩ := own_sl hm.row
  cases e
  obtain ⟨b, off, e, _⟩ := hm.sc.ts 0 h0
  obtain ⟨g, e2, g1, g2, g3, g4⟩ := ho.at0 _ e
  cases e2
  subst e
  refine ⟨b, rfl, hs, hf, ht, hm.sc.hla, hm.l40, hm.sc.ts, hm.sc.ok, fun t h => ?_, g3, g4, hS, g1, hm.cow, hm.n8, hm.kp⟩
  have := hm.fit.each t h
  exact ⟨this.cpu0, this.cpu1⟩
theorem ws_new {w2 w : World} {v : Value} {N bS la ca : Nat} {A B : Option Addr} {cb : Nat} {ts : List Tk} {cur : List Int} (hm : MadeAt w2 w v N la A B ca cb ts cur) (hs : C3 w bS (.int .i64 (N : Int)) (.slice A la ca) (.slice B N cb)) (hf : Fz w bS) (ht : Ty w bS 30) (hS : w2.heap.size ≤ bS) :
    WS w2 ((w.alloc (.cells (tkc tn) 43)).setCell ⟨bS, 1, none⟩ (.slice (some ⟨w.heap.size, 0, none⟩) 1 1)) bS w.heap.size N 1 1 (.slice B N cb) [tn] cur := by
  have kk : Kp w.heap.size w (w.alloc (.cells (tkc tn) 43)) := (Kp.refl _ _).alloc (Nat.le_refl _) _
  have hrd := (rd_new w (flatT [tn]) 43 8 1 rfl).tks (es := [tn]) rfl
  have hlt := hs.lt
  have k2 : Kx bS (bS + 1) 0 0 (w.alloc (.cells (tkc tn) 43)) ((w.alloc (.cells (tkc tn) 43)).setCell ⟨bS, 1, none⟩ (.slice (some ⟨w.heap.size, 0, none⟩) 1 1)) := (Kx.refl _ _ _ _ _).setIn (p := ⟨bS, 1, none⟩) (Nat.le_refl _) (Nat.lt_succ_self _) _
  have hc := own_kp hm.cow kk
  have kz := hm.kp.trans (kk.mono hm.kp.size)
  refine ⟨(hs.kp kk).set1 _, (hf.kp kk).set _ _, (ht.kp kk).set _ _, rfl, by decide, ?_, fun t h => ?_, fun t h => ?_, fun o => ?_, (Ty.new w (tkc tn) 43).set _ _, hS, hm.kp.size, ?_, hm.n8, kz.setCell (p := ⟨bS, 1, none⟩) hS _⟩
  · exact IsTks.far hrd (fun p hp => by cases hp; dsimp only; omega) _
  · rw [List.mem_singleton] at h
    subst h
    exact ⟨by decide, by decide, by decide, by decide, by decide, by decide, by decide, by decide⟩
  · rw [List.mem_singleton] at h
    subst h
    have := hm.n1
    exact ⟨by decide, by show (0 : Int) < N; omega⟩
  · simp
  · exact own_far hc k2 (fun b hb => by have := ty_ne (own_hasTy hc hb) (ht.kp kk) (by decide); omega)

set_option maxRecDepth 100000 in
set_option maxHeartbeats 4000000 in
theorem law6 {W : World} {A B : Option Addr} {la ca lb cb : Nat} {a way n : Int} {xs : List Xt} {zs : List Int} (h : SmAt W A la ca B lb cb a xs zs) (d0 : 0 ≤ way) (d1 : way ≤ 255) (c0 : -9223372036854775808 ≤ n) (c1 : n ≤ 9223372036854775807) :
    Calls Try.prog 6 #[.agg #[.int .u8 a, .slice A la ca, .slice B lb cb], .int .u8 way, .int .i64 n] W fun e w' => e = .returned (.bool true) ∧ Kp W.heap.size W w' := by
  have HAw := fun w => Lib.hid (awake_any w)
  have HX := Lib.hid h
  have HMd := fun w (k : Kp W.heap.size W w) => Lib.hid (madeSc_any w (h.kp k))
  clear h
  have K0 := Lib.hid ((Kp.refl W.heap.size W).alloc (Nat.le_refl _) (.cells #[.int .u8 a, .slice A la ca, .slice B lb cb] 25))
  have X0 := Lib.hid (C3.new W (.int .u8 a) (.slice A la ca) (.slice B lb cb) 25)
  go_enter Try.func6, Try.ntmps6
  go_upto_region 1 with fail
  generalize W.alloc _ = w1 at *
  obtain ⟨bX, hbX⟩ : ∃ b, b = W.heap.size := ⟨_, rfl⟩
  rw [← hbX] at X0
  rw [← hbX]
  clear hbX
  go_wp2_with fail
  (with_reducible refine (HAw _).out.mono ?_)
  rintro e w2 ⟨rfl, hk⟩
  have K2 := Lib.hid (K0.out.trans (hk.mono K0.out.size))
  have X2 := Lib.hid (X0.out.kp hk)
  clear hk K0 X0 HAw
  obtain ⟨x0, x1, x2, xl⟩ := X2.out
  go_wp2_with fail
  (with_reducible refine (HMd _ K2.out).out.mono ?_)
  clear x0 x1 x2 xl HMd
  rintro e w3 ⟨v, N, la', A', B', ca', cb', ts, cur, rfl, hm⟩
  have hv := hm.v
  subst hv
  have n1 := hm.n1
  have n8 := hm.n8
  have l40 := hm.l40
  have hk := hm.kp
  have h2W : W.heap.size ≤ w2.heap.size := K2.out.size
  have K3 := Lib.hid (K2.out.trans (hk.mono K2.out.size))
  clear hk X2
  go_upto_region 4 with fail
  have kk : Kp w3.heap.size w3 (w3.alloc (.cells #[.int .i64 (N : Int), .slice A' la' ca', .slice B' N cb'] 30)) := (Kp.refl _ _).alloc (Nat.le_refl _) _
  have HS := Lib.hid (C3.new w3 (.int .i64 (N : Int)) (.slice A' la' ca') (.slice B' N cb') 30)
  have HSF := Lib.hid (Fz.new w3 #[.int .i64 (N : Int), .slice A' la' ca', .slice B' N cb'] 30)
  have HST := Lib.hid (Ty.new w3 #[.int .i64 (N : Int), .slice A' la' ca', .slice B' N cb'] 30)
  have HMA := Lib.hid (hm.kps kk)
  have K4 := Lib.hid (K3.out.trans (kk.mono K3.out.size))
  obtain ⟨bS, hbS⟩ : ∃ b, b = w3.heap.size := ⟨_, rfl⟩
  have hSW : w2.heap.size ≤ bS := by have := hm.kp.size; omega
  rw [← hbS] at HS HSF HST
  rw [← hbS]
  clear kk hm K3 hbS
  generalize w3.alloc _ = w4 at *
  obtain ⟨x0, x1, x2, xl⟩ := HS.out
  go_cut [42, 43, 44] from 36 to 44 (fun s l i w' => ∃ (bg : Nat) (z0 z1 : Int), s = .slice (some ⟨bg, 0, none⟩) 2 2 ∧ l = .int .i64 2 ∧ i = .int .i64 0 ∧ z0 < 0 ∧ (N : Int) ≤ z1 ∧ IsInts w' .i64 (some ⟨bg, 0, none⟩) 2 [z0, z1] ∧ Kp w4.heap.size w4 w')
  case first =>
    rcases Int.lt_or_le (-1) n with h1 | h1 <;> rcases Int.lt_or_le n (N : Int) with h2 | h2
    rotate_left
    rotate_left
    rotate_left
    · exfalso; omega
    all_goals
      go_wp2_with fail
      go_meet
      case rel =>
        refine ⟨w4.heap.size, _, _, rfl, rfl, rfl, ?_, ?_, (rd_new w4 ([_, _].map (Value.int .i64)) 3 1 2 rfl).isInts.2, (Kp.refl _ _).alloc (Nat.le_refl _) _⟩ <;> omega
  case rest =>
  obtain ⟨bg, z0, z1, rfl, rfl, rfl, hz0, hz1, hzs, hk⟩ := hcut
  have HZ := Lib.hid hzs
  have HS5 := Lib.hid (HS.out.kp hk)
  have HSF5 := Lib.hid (HSF.out.kp hk)
  have HST5 := Lib.hid (HST.out.kp hk)
  have HMA5 := Lib.hid (HMA.out.kps hk)
  have K5 := Lib.hid (K4.out.trans (hk.mono K4.out.size))
  clear hzs hk HS HSF HST HMA K4 x0 x1 x2 xl
  generalize wc = w5 at *
  go_wp2_with fail
  go_loopw [44] (fun i wr => ∃ j : Nat, j ≤ 2 ∧ i = .int .i64 (j : Int) ∧ Kp w5.heap.size w5 wr) (fun i _ => 2 - (intOf i).toNat)
  case atStart => exact ⟨0, by omega, rfl, Kp.refl _ _⟩
  case round =>
    obtain ⟨j, hj, rfl, hk⟩ := hrel
    have HK := Lib.hid hk
    clear hk
    by_cases hlt : j < 2
    · have hji : (j : Int) < 2 := by omega
      obtain ⟨bg', og, e, hbg, cg⟩ := (HZ.out.below HK.out) j hlt
      cases e
      obtain ⟨z, hz⟩ : ∃ z, z = [z0, z1].getD j 0 := ⟨_, rfl⟩
      have hzz : z < 0 ∨ (N : Int) ≤ z := by
        have : j = 0 ∨ j = 1 := by omega
        rcases this with rfl | rfl
        · left; rw [hz]; exact hz0
        · right; rw [hz]; exact hz1
      rw [← hz] at cg
      simp only [Nat.zero_add] at cg
      clear hz
      have hv := arg_vals HMA5.out.fit (c := z) hzz
      have HB := Lib.hid (busiest_any wr (ca := ca') (cb := cb') (cpu := z) (HMA5.out.kps HK.out).sc)
      rw [hv.1, hv.2.1] at HB
      have HP := fun w (k : Kp wr.heap.size wr w) => Lib.hid (pull_any w (ca := ca') (cb := cb') (cpu := z) ((HMA5.out.kps HK.out).kps k).sc)
      rw [hv.2.2] at HP
      have HSr := Lib.hid (HS5.out.kp HK.out)
      clear hv hzz
      obtain ⟨x0, x1, x2, xl⟩ := HSr.out
      go_wp2_with fail
      (with_reducible refine HB.out.mono ?_)
      clear x0 x1 x2 xl HB cg
      rintro e w6 ⟨rfl, hk⟩
      have HK6 := Lib.hid (HK.out.trans (hk.mono HK.out.size))
      have HPP := HP w6 hk
      obtain ⟨x0, x1, x2, xl⟩ := HSr.out.kp hk
      clear HP HSr
      go_wp2_with fail
      (with_reducible refine HPP.out.mono ?_)
      clear x0 x1 x2 xl HPP hk
      rintro e w7 ⟨rfl, hk⟩
      have HK7 := Lib.hid ((HK6.out.trans (hk.mono HK6.out.size)).alloc (Nat.le_trans HK6.out.size hk.size) (.cells #[.int .i64 0, .int .i64 0, .int .i64 0] 38))
      clear hk HK HK6
      go_wp2_with fail
      generalize w7.alloc _ = w8 at *
      go_roundw
      case rel => exact ⟨j + 1, by omega, by go_num, HK7.out⟩
      case measure => simp [intOf]; omega
    · have hje : j = 2 := by omega
      subst hje
      have hjn : ¬ ((2 : Int) < 2) := by omega
      go_upto_region 12 with fail
      have HS6 := Lib.hid (HS5.out.kp HK.out)
      have HSF6 := Lib.hid (HSF5.out.kp HK.out)
      have HST6 := Lib.hid (HST5.out.kp HK.out)
      have HMA6 := Lib.hid (HMA5.out.kps HK.out)
      have K6 := Lib.hid (K5.out.trans (HK.out.mono K5.out.size))
      clear HS5 HSF5 HST5 HMA5 K5 HZ HK
      generalize wr = w6 at *
      have HPL := fun (m : Int) (hm : m < 0) => Lib.hid (plan_any w6 (most := m) HMA6.out.sc (own_nil HMA6.out.row) (own_nil HMA6.out.cow) (by omega))
      obtain ⟨x0, x1, x2, xl⟩ := HS6.out
      go_cut [14, 15, 16] from 67 to 74 (fun p s e w' => e = .int .i64 2 ∧ Kp w6.heap.size w6 w')
      case first =>
        have fin : ∀ (m : Int), m < 0 → Calls Try.prog 12 #[.agg #[.int .i64 (N : Int), .slice A' la' ca', .slice B' N cb'], .int .i64 m] w6 fun e w' => ∃ v A ca B cb, e = .returned (.tuple #[v, .agg #[.int .i64 0, .slice A 0 ca, .slice B 0 cb], .int .i64 2]) ∧ Kp w6.heap.size w6 w' := fun m hm => by
          have h := (HPL m hm).out
          rw [plan_arg HMA6.out.fit hm] at h
          refine h.mono ?_
          rintro e w' ⟨v, vs, rfl, _, hsc, hk⟩
          obtain ⟨A, ca, B, cb, rfl, _⟩ := hsc.ex
          exact ⟨v, A, ca, B, cb, rfl, hk⟩
        have FIN := fun m hm => Lib.hid (fin m hm)
        clear fin HPL
        rcases Int.lt_or_le (-1) n with h1 | h1
        · have F := FIN (-1) (by decide)
          clear FIN
          go_wp2_with fail
          (with_reducible refine F.out.mono ?_)
          clear x0 x1 x2 xl F
          rintro e w7 ⟨v, A9, ca9, B9, cb9, rfl, hk⟩
          have K7 := Lib.hid (hk.alloc hk.size (.cells #[.int .i64 0, .slice A9 0 ca9, .slice B9 0 cb9] 30))
          clear hk
          go_wp2_with fail
          generalize w7.alloc _ = w8 at *
          go_meet
          case rel => exact ⟨rfl, K7.out⟩
        · have F := FIN n (by omega)
          clear FIN
          go_wp2_with fail
          (with_reducible refine F.out.mono ?_)
          clear x0 x1 x2 xl F
          rintro e w7 ⟨v, A9, ca9, B9, cb9, rfl, hk⟩
          have K7 := Lib.hid (hk.alloc hk.size (.cells #[.int .i64 0, .slice A9 0 ca9, .slice B9 0 cb9] 30))
          clear hk
          go_wp2_with fail
          generalize w7.alloc _ = w8 at *
          go_meet
          case rel => exact ⟨rfl, K7.out⟩
      case rest =>
      obtain ⟨rfl, hk⟩ := hcut
      have HS7 := Lib.hid (HS6.out.kp hk)
      have HSF7 := Lib.hid (HSF6.out.kp hk)
      have HST7 := Lib.hid (HST6.out.kp hk)
      have HMA7 := Lib.hid (HMA6.out.kps hk)
      have K7 := Lib.hid (K6.out.trans (hk.mono K6.out.size))
      clear HS6 HSF6 HST6 HMA6 K6 hk x0 x1 x2 xl HPL
      generalize wc = w7 at *
      obtain ⟨x0, x1, x2, xl⟩ := HS7.out
      have xf := HSF7.out.2
      go_upto_if 80 with fail
      generalize hbb : ((la' : Int) == 0) = bb
      have HBB := Lib.hid hbb
      clear hbb
      go_cut [80] from 81 to 83 (fun _ w' => ∃ (g L ca1 : Nat) (ts1 : List Tk), 0 < L ∧ WS w2 w' bS g N L ca1 (.slice B' N cb') ts1 cur ∧ Kp W.heap.size W w')
      case first =>
        cases bb
        rotate_left
        · have hw := ws_new HMA7.out HS7.out HSF7.out HST7.out hSW
          have hk2 : Kp W.heap.size W ((w7.alloc (.cells (tkc tn) 43)).setCell ⟨bS, 1, none⟩ (.slice (some ⟨w7.heap.size, 0, none⟩) 1 1)) := (K7.out.alloc K7.out.size _).setCell (p := ⟨bS, 1, none⟩) (by dsimp only; omega) _
          have HW := Lib.hid (show ∃ (g L ca1 : Nat) (ts1 : List Tk), 0 < L ∧ WS w2 _ bS g N L ca1 (.slice B' N cb') ts1 cur ∧ Kp W.heap.size W _ from ⟨_, 1, 1, _, by decide, hw, hk2⟩)
          rw [World.setCell_alloc_past _ bS 1 _ HS7.out.lt] at HW
          dsimp only [tkc, tn] at HW
          clear hw hk2
          go_wp2_with fail
          go_meet
          case rel => exact HW.out
        · have hl0 := beq_eq_false_iff_ne.1 HBB.out
          obtain ⟨g, hA, hw⟩ := ws_old HMA7.out (by omega) HS7.out HSF7.out HST7.out hSW
          have HW := Lib.hid (show ∃ (g L ca1 : Nat) (ts1 : List Tk), 0 < L ∧ WS w2 w7 bS g N L ca1 (.slice B' N cb') ts1 cur ∧ Kp W.heap.size W w7 from ⟨g, la', ca', ts, by omega, hw, K7.out⟩)
          clear hw hA hl0
          go_wp2_with fail
          go_meet
          case rel => exact HW.out
      case rest =>
      obtain ⟨g, L, ca1, ts1, hL, hws, hk⟩ := hcut
      have HWS := Lib.hid hws
      have K8 := Lib.hid hk
      clear hws hk HS7 HSF7 HST7 HMA7 K7 x0 x1 x2 xl xf
      generalize wc = w8 at *
      obtain ⟨x0, x1, x2, xl⟩ := HWS.out.s
      have hL40 := HWS.out.l40
      have HPK := Lib.hid (pick_any w8 (x := n) (m := L) hL (by omega) c0 c1)
      go_wp2_with fail
      (with_reducible refine HPK.out.mono ?_)
      rintro e w9 ⟨k, rfl, hkL, rfl⟩
      have hki : (k : Int) < (L : Int) := by omega
      obtain ⟨wy, hwy⟩ : ∃ wy, way % 10 = wy := ⟨_, rfl⟩
      have hw0 : 0 ≤ wy := by omega
      have hw9 : wy ≤ 9 := by omega
      have hw10 : Int.tmod way 10 = wy := by rw [Int.tmod_eq_emod_of_nonneg d0, hwy]
      obtain ⟨t, ht⟩ : ∃ t, t = ts1.getD k t0 := ⟨_, rfl⟩
      have hmem : t ∈ ts1 := by rw [ht]; exact getD_mem' (by rw [HWS.out.hl]; exact hkL)
      have hok := HWS.out.ok t hmem
      have hcp := HWS.out.cp t hmem
      obtain ⟨bb, oo, e, T⟩ := HWS.out.tk k hkL
      cases e
      rw [← ht] at T
      have HFL := Lib.hid (fun (f : Nat) (t' : Tk) (v : Value) (hf : f < 8) (hv : t'.cells[f]? = some v) (ho : ∀ i, i < 8 → i ≠ f → t'.cells[i]? = t.cells[i]?) (hok : t'.ok) (hw : rightS ⟨(N : Int), ts1.set k t', cur⟩ = false) => HWS.out.fld (j := k) (f := f) (t' := t') (v := v) hkL hf hv (by rw [← ht]; exact ho) hok hw)
      have HWT := Lib.hid (fun (t' : Tk) h => wrong_task (s := ⟨(N : Int), ts1.set k t', cur⟩) (t := t') (set_mem (by rw [HWS.out.hl]; exact hkL) t') h)
      have HWM := Lib.hid (fun (t' : Tk) h => wrong_mask (s := ⟨(N : Int), ts1.set k t', cur⟩) (t := t') (set_mem (by rw [HWS.out.hl]; exact hkL) t') (by have := HWS.out.n8; dsimp only; omega) h)
      have HOK := Lib.hid hok
      have gf := HWS.out.gf
      have sf := HWS.out.fs.2
      obtain ⟨id, grp, wt, tc, mask, rdy, v, r⟩ := t
      obtain ⟨y0, y1, y2, y3, y4, y5, y6, y7, yl⟩ := T
      simp only [Nat.zero_add] at y0 y1 y2 y3 y4 y5 y6 y7
      obtain ⟨tc0, tc1⟩ := hcp
      dsimp only at tc0 tc1
      have mb0 := hok.mask0
      have mb1 := hok.mask1
      dsimp only at mb0 mb1
      have gl := HWS.out.tg.lt
      clear ht hmem hok
      go_upto_block 2 with fail
      go_cut [93] from 95 to 172 (fun _ w' => WX w2 bS w')
      case first =>
        have hws : wy = 0 ∨ wy = 1 ∨ wy = 2 ∨ wy = 3 ∨ wy = 4 ∨ wy = 5 ∨ wy = 6 ∨ wy = 7 ∨ wy = 8 ∨ wy = 9 := by omega
        rcases hws with rfl | rfl | rfl | rfl | rfl | rfl | rfl | rfl | rfl | rfl
        · rcases Int.lt_or_le 0 n with h1 | h1
          · have HR := Lib.hid (HWS.out.num (n := 0) (by omega))
            go_wp2_with fail
            go_meet
            case rel => exact HR.out
          · have HR := Lib.hid (HWS.out.num (n := n) (by omega))
            go_wp2_with fail
            go_meet
            case rel => exact HR.out
        · rcases Int.lt_or_le n 65 with h1 | h1
          · have HR := Lib.hid (HWS.out.num (n := 65) (by omega))
            go_wp2_with fail
            go_meet
            case rel => exact HR.out
          · have HR := Lib.hid (HWS.out.num (n := n) (by omega))
            go_wp2_with fail
            go_meet
            case rel => exact HR.out
        · rcases Int.lt_or_le 0 n with h1 | h1
          · have HR := Lib.hid (HFL.out 0 ⟨0, grp, wt, tc, mask, rdy, v, r⟩ (.int .i64 0) (by decide) rfl (fun i hi hne => by have : i = 0 ∨ i = 1 ∨ i = 2 ∨ i = 3 ∨ i = 4 ∨ i = 5 ∨ i = 6 ∨ i = 7 := (by omega); rcases this with rfl | rfl | rfl | rfl | rfl | rfl | rfl | rfl <;> first | rfl | exact absurd rfl hne) ⟨by dsimp only; first | omega | exact HOK.out.id0, by dsimp only; first | omega | exact HOK.out.id1, by dsimp only; first | omega | exact HOK.out.wt0, by dsimp only; first | omega | exact HOK.out.wt1, by dsimp only; omega, by dsimp only; omega, by dsimp only; omega, by dsimp only; omega⟩ (HWT.out _ (Or.inl (by dsimp only; omega))))
            go_wp2_with fail
            go_meet
            case rel => exact HR.out
          · have HR := Lib.hid (HFL.out 0 ⟨n, grp, wt, tc, mask, rdy, v, r⟩ (.int .i64 n) (by decide) rfl (fun i hi hne => by have : i = 0 ∨ i = 1 ∨ i = 2 ∨ i = 3 ∨ i = 4 ∨ i = 5 ∨ i = 6 ∨ i = 7 := (by omega); rcases this with rfl | rfl | rfl | rfl | rfl | rfl | rfl | rfl <;> first | rfl | exact absurd rfl hne) ⟨by dsimp only; first | omega | exact HOK.out.id0, by dsimp only; first | omega | exact HOK.out.id1, by dsimp only; first | omega | exact HOK.out.wt0, by dsimp only; first | omega | exact HOK.out.wt1, by dsimp only; omega, by dsimp only; omega, by dsimp only; omega, by dsimp only; omega⟩ (HWT.out _ (Or.inl (by dsimp only; omega))))
            go_wp2_with fail
            go_meet
            case rel => exact HR.out
        · rcases Int.lt_or_le n 65536 with h1 | h1
          · have HR := Lib.hid (HFL.out 0 ⟨65536, grp, wt, tc, mask, rdy, v, r⟩ (.int .i64 65536) (by decide) rfl (fun i hi hne => by have : i = 0 ∨ i = 1 ∨ i = 2 ∨ i = 3 ∨ i = 4 ∨ i = 5 ∨ i = 6 ∨ i = 7 := (by omega); rcases this with rfl | rfl | rfl | rfl | rfl | rfl | rfl | rfl <;> first | rfl | exact absurd rfl hne) ⟨by dsimp only; first | omega | exact HOK.out.id0, by dsimp only; first | omega | exact HOK.out.id1, by dsimp only; first | omega | exact HOK.out.wt0, by dsimp only; first | omega | exact HOK.out.wt1, by dsimp only; omega, by dsimp only; omega, by dsimp only; omega, by dsimp only; omega⟩ (HWT.out _ (Or.inr (Or.inl (by dsimp only; omega)))))
            go_wp2_with fail
            go_meet
            case rel => exact HR.out
          · have HR := Lib.hid (HFL.out 0 ⟨n, grp, wt, tc, mask, rdy, v, r⟩ (.int .i64 n) (by decide) rfl (fun i hi hne => by have : i = 0 ∨ i = 1 ∨ i = 2 ∨ i = 3 ∨ i = 4 ∨ i = 5 ∨ i = 6 ∨ i = 7 := (by omega); rcases this with rfl | rfl | rfl | rfl | rfl | rfl | rfl | rfl <;> first | rfl | exact absurd rfl hne) ⟨by dsimp only; first | omega | exact HOK.out.id0, by dsimp only; first | omega | exact HOK.out.id1, by dsimp only; first | omega | exact HOK.out.wt0, by dsimp only; first | omega | exact HOK.out.wt1, by dsimp only; omega, by dsimp only; omega, by dsimp only; omega, by dsimp only; omega⟩ (HWT.out _ (Or.inr (Or.inl (by dsimp only; omega)))))
            go_wp2_with fail
            go_meet
            case rel => exact HR.out
        · rcases Int.lt_or_le 0 n with h1 | h1
          · have HR := Lib.hid (HFL.out 2 ⟨id, grp, 0, tc, mask, rdy, v, r⟩ (.int .i64 0) (by decide) rfl (fun i hi hne => by have : i = 0 ∨ i = 1 ∨ i = 2 ∨ i = 3 ∨ i = 4 ∨ i = 5 ∨ i = 6 ∨ i = 7 := (by omega); rcases this with rfl | rfl | rfl | rfl | rfl | rfl | rfl | rfl <;> first | rfl | exact absurd rfl hne) ⟨by dsimp only; first | omega | exact HOK.out.id0, by dsimp only; first | omega | exact HOK.out.id1, by dsimp only; first | omega | exact HOK.out.wt0, by dsimp only; first | omega | exact HOK.out.wt1, by dsimp only; omega, by dsimp only; omega, by dsimp only; omega, by dsimp only; omega⟩ (HWT.out _ (Or.inr (Or.inr (Or.inl (by dsimp only; omega))))))
            go_wp2_with fail
            go_meet
            case rel => exact HR.out
          · have HR := Lib.hid (HFL.out 2 ⟨id, grp, n, tc, mask, rdy, v, r⟩ (.int .i64 n) (by decide) rfl (fun i hi hne => by have : i = 0 ∨ i = 1 ∨ i = 2 ∨ i = 3 ∨ i = 4 ∨ i = 5 ∨ i = 6 ∨ i = 7 := (by omega); rcases this with rfl | rfl | rfl | rfl | rfl | rfl | rfl | rfl <;> first | rfl | exact absurd rfl hne) ⟨by dsimp only; first | omega | exact HOK.out.id0, by dsimp only; first | omega | exact HOK.out.id1, by dsimp only; first | omega | exact HOK.out.wt0, by dsimp only; first | omega | exact HOK.out.wt1, by dsimp only; omega, by dsimp only; omega, by dsimp only; omega, by dsimp only; omega⟩ (HWT.out _ (Or.inr (Or.inr (Or.inl (by dsimp only; omega))))))
            go_wp2_with fail
            go_meet
            case rel => exact HR.out
        · rcases Int.lt_or_le n 65537 with h1 | h1
          · have HR := Lib.hid (HFL.out 2 ⟨id, grp, 65537, tc, mask, rdy, v, r⟩ (.int .i64 65537) (by decide) rfl (fun i hi hne => by have : i = 0 ∨ i = 1 ∨ i = 2 ∨ i = 3 ∨ i = 4 ∨ i = 5 ∨ i = 6 ∨ i = 7 := (by omega); rcases this with rfl | rfl | rfl | rfl | rfl | rfl | rfl | rfl <;> first | rfl | exact absurd rfl hne) ⟨by dsimp only; first | omega | exact HOK.out.id0, by dsimp only; first | omega | exact HOK.out.id1, by dsimp only; first | omega | exact HOK.out.wt0, by dsimp only; first | omega | exact HOK.out.wt1, by dsimp only; omega, by dsimp only; omega, by dsimp only; omega, by dsimp only; omega⟩ (HWT.out _ (Or.inr (Or.inr (Or.inr (Or.inl (by dsimp only; omega)))))))
            go_wp2_with fail
            go_meet
            case rel => exact HR.out
          · have HR := Lib.hid (HFL.out 2 ⟨id, grp, n, tc, mask, rdy, v, r⟩ (.int .i64 n) (by decide) rfl (fun i hi hne => by have : i = 0 ∨ i = 1 ∨ i = 2 ∨ i = 3 ∨ i = 4 ∨ i = 5 ∨ i = 6 ∨ i = 7 := (by omega); rcases this with rfl | rfl | rfl | rfl | rfl | rfl | rfl | rfl <;> first | rfl | exact absurd rfl hne) ⟨by dsimp only; first | omega | exact HOK.out.id0, by dsimp only; first | omega | exact HOK.out.id1, by dsimp only; first | omega | exact HOK.out.wt0, by dsimp only; first | omega | exact HOK.out.wt1, by dsimp only; omega, by dsimp only; omega, by dsimp only; omega, by dsimp only; omega⟩ (HWT.out _ (Or.inr (Or.inr (Or.inr (Or.inl (by dsimp only; omega)))))))
            go_wp2_with fail
            go_meet
            case rel => exact HR.out
        · rcases Int.lt_or_le n (N : Int) with h1 | h1
          · have HR := Lib.hid (HFL.out 3 ⟨id, grp, wt, (N : Int), mask, rdy, v, r⟩ (.int .i64 (N : Int)) (by decide) rfl (fun i hi hne => by have : i = 0 ∨ i = 1 ∨ i = 2 ∨ i = 3 ∨ i = 4 ∨ i = 5 ∨ i = 6 ∨ i = 7 := (by omega); rcases this with rfl | rfl | rfl | rfl | rfl | rfl | rfl | rfl <;> first | rfl | exact absurd rfl hne) ⟨by dsimp only; first | omega | exact HOK.out.id0, by dsimp only; first | omega | exact HOK.out.id1, by dsimp only; first | omega | exact HOK.out.wt0, by dsimp only; first | omega | exact HOK.out.wt1, by dsimp only; omega, by dsimp only; omega, by dsimp only; omega, by dsimp only; omega⟩ (HWT.out _ (Or.inr (Or.inr (Or.inr (Or.inr (Or.inr (Or.inl (by dsimp only; omega)))))))))
            go_wp2_with fail
            go_meet
            case rel => exact HR.out
          · have HR := Lib.hid (HFL.out 3 ⟨id, grp, wt, n, mask, rdy, v, r⟩ (.int .i64 n) (by decide) rfl (fun i hi hne => by have : i = 0 ∨ i = 1 ∨ i = 2 ∨ i = 3 ∨ i = 4 ∨ i = 5 ∨ i = 6 ∨ i = 7 := (by omega); rcases this with rfl | rfl | rfl | rfl | rfl | rfl | rfl | rfl <;> first | rfl | exact absurd rfl hne) ⟨by dsimp only; first | omega | exact HOK.out.id0, by dsimp only; first | omega | exact HOK.out.id1, by dsimp only; first | omega | exact HOK.out.wt0, by dsimp only; first | omega | exact HOK.out.wt1, by dsimp only; omega, by dsimp only; omega, by dsimp only; omega, by dsimp only; omega⟩ (HWT.out _ (Or.inr (Or.inr (Or.inr (Or.inr (Or.inr (Or.inl (by dsimp only; omega)))))))))
            go_wp2_with fail
            go_meet
            case rel => exact HR.out
        · obtain ⟨mk, hmk, mk0, mk1, mkh⟩ := mask_off (c := tc) mb0 mb1 tc0 (by have := HWS.out.n8; omega)
          have HR := Lib.hid (HFL.out 4 ⟨id, grp, wt, tc, mk, rdy, v, r⟩ (.int .u64 mk) (by decide) rfl (fun i hi hne => by have : i = 0 ∨ i = 1 ∨ i = 2 ∨ i = 3 ∨ i = 4 ∨ i = 5 ∨ i = 6 ∨ i = 7 := (by omega); rcases this with rfl | rfl | rfl | rfl | rfl | rfl | rfl | rfl <;> first | rfl | exact absurd rfl hne) ⟨by dsimp only; first | omega | exact HOK.out.id0, by dsimp only; first | omega | exact HOK.out.id1, by dsimp only; first | omega | exact HOK.out.wt0, by dsimp only; first | omega | exact HOK.out.wt1, by dsimp only; omega, by dsimp only; omega, by dsimp only; omega, by dsimp only; omega⟩ (HWT.out _ (Or.inr (Or.inr (Or.inr (Or.inr (Or.inr (Or.inr mkh))))))))
          have ht64 : tc < 64 := by omega
          have HMK := Lib.hid hmk
          clear hmk mkh
          go_upto_region 36 with fail
          go_region
          all_goals
            rw [HMK.out]
            go_wp2_with fail
            go_meet
            case rel => exact wx_drew HR.out
        · obtain ⟨mk, hmk, mk0, mk1, mkh⟩ := mask_on (c := (N : Int)) mb0 mb1 (by omega) (by have := HWS.out.n8; omega)
          have HR := Lib.hid (HFL.out 4 ⟨id, grp, wt, tc, mk, rdy, v, r⟩ (.int .u64 mk) (by decide) rfl (fun i hi hne => by have : i = 0 ∨ i = 1 ∨ i = 2 ∨ i = 3 ∨ i = 4 ∨ i = 5 ∨ i = 6 ∨ i = 7 := (by omega); rcases this with rfl | rfl | rfl | rfl | rfl | rfl | rfl | rfl <;> first | rfl | exact absurd rfl hne) ⟨by dsimp only; first | omega | exact HOK.out.id0, by dsimp only; first | omega | exact HOK.out.id1, by dsimp only; first | omega | exact HOK.out.wt0, by dsimp only; first | omega | exact HOK.out.wt1, by dsimp only; omega, by dsimp only; omega, by dsimp only; omega, by dsimp only; omega⟩ (HWM.out _ mkh))
          have ht64 : (N : Int) < 64 := by omega
          rw [Int.toNat_natCast] at hmk
          have HMK := Lib.hid hmk
          clear hmk mkh
          go_upto_region 38 with fail
          go_region
          all_goals
            rw [HMK.out]
            go_wp2_with fail
            go_meet
            case rel => exact wx_drew HR.out
        · obtain ⟨i0, hi0, hz0, hz1, hz2⟩ := info_parts int_info
          have HI := Lib.hid hi0
          have HZ0 := Lib.hid hz0
          have HZ1 := Lib.hid hz1
          have HZ2 := Lib.hid hz2
          clear hi0 hz0 hz1 hz2
          go_wp2_with (at_builtin; refine wpList_append_rd _ rfl _ _ 28 rfl w2.heap.size 3 i0 (.int .i64 0) 1 8 Try.underlying28 HI.out HZ0.out HZ1.out HZ2.out rfl (by decide) _ N (cur.map (Value.int .i64)) rfl ?qe1 (some ⟨w8.heap.size, 0, none⟩) 1 1 ([0].map (Value.int .i64)) rfl ?qe2 (oneCellsI [0]) ?qe4 ?qe5 ?qe6 ?_)
          case qe1 => exact own_kp HWS.out.cow ((Kp.refl _ w8).alloc (Nat.le_refl _) (.cells #[.int .i64 0] 3))
          case qe2 => exact rd_new w8 _ 3 1 1 rfl
          case qe4 => unfold maxLen; omega
          case qe5 => omega
          case qe6 => have := HWS.out.kp.size; simp; omega
          intro v9 w9 hown9 hgrow9
          obtain ⟨A9, c9, rfl, -⟩ := own_form hown9
          obtain ⟨hs9, hf9, hm9⟩ := (HWS.out.kps ((Kp.refl _ w8).alloc (Nat.le_refl _) (.cells #[.int .i64 0] 3))).more (x := 0) hgrow9 hown9
          have HM9 := Lib.hid hm9
          clear hm9 hgrow9 hown9 x0 x1 x2 xl y0 y1 y2 y3 y4 y5 y6 y7 gf sf
          obtain ⟨x0, x1, x2, xl⟩ := hs9
          have xf := hf9.2
          go_wp2_with fail
          go_meet
          case rel => exact HM9.out
      case rest =>
      obtain ⟨s', A1, la1, B1, lb1, ca2, cb2, hS1, hsc1, hwr, hA1, hB1, hk⟩ := hcut
      have HS9 := Lib.hid hS1
      have HSC9 := Lib.hid hsc1
      have HW := Lib.hid hwr
      have K9 := Lib.hid (K2.out.trans (hk.mono K2.out.size))
      have hA1' := Lib.hid hA1
      have hB1' := Lib.hid hB1
      clear HWS HFL HWT HWM HOK gf sf y0 y1 y2 y3 y4 y5 y6 y7 yl x0 x1 x2 xl hS1 hsc1 hwr hA1 hB1 hk gl K8 HPK
      generalize wc = w9 at *
      have hv := wrong_vals HW.out (-1) 0 0 0 (-1)
      -- Loads
      have HL := Lib.hid (loadsF_bad w9 (ca := ca2) (cb := cb2) HSC9.out HW.out)
      obtain ⟨x0, x1, x2, xl⟩ := HS9.out
      have HV := Lib.hid hv
      clear hv
      go_wp2_with fail
      (with_reducible refine HL.out.mono ?_)
      clear x0 x1 x2 xl HL
      rintro e w10 ⟨rfl, hk⟩
      have HS10 := Lib.hid (HS9.out.kp hk)
      have HSC10 := Lib.hid (HSC9.out.kp hk)
      have K10 := Lib.hid (K9.out.trans (hk.mono K9.out.size))
      clear hk HS9 HSC9 K9
      -- Busiest
      have HB0 := busiest_any w10 (ca := ca2) (cb := cb2) (cpu := -1) HSC10.out
      rw [HV.out.1, HV.out.2.1] at HB0
      have HB := Lib.hid HB0
      clear HB0
      obtain ⟨x0, x1, x2, xl⟩ := HS10.out
      go_wp2_with fail
      (with_reducible refine HB.out.mono ?_)
      clear x0 x1 x2 xl HB
      rintro e w11 ⟨rfl, hk⟩
      have HS11 := Lib.hid (HS10.out.kp hk)
      have HSC11 := Lib.hid (HSC10.out.kp hk)
      have K11 := Lib.hid (K10.out.trans (hk.mono K10.out.size))
      clear hk HS10 HSC10 K10
      -- Pull
      have HP0 := pull_any w11 (ca := ca2) (cb := cb2) (cpu := -1) HSC11.out
      rw [HV.out.2.2.1] at HP0
      have HP := Lib.hid HP0
      clear HP0
      obtain ⟨x0, x1, x2, xl⟩ := HS11.out
      go_wp2_with fail
      (with_reducible refine HP.out.mono ?_)
      clear x0 x1 x2 xl HP
      rintro e w12 ⟨rfl, hk⟩
      have kk : Kp w12.heap.size w12 (w12.alloc (.cells #[.int .i64 0, .int .i64 0, .int .i64 0] 38)) := (Kp.refl _ _).alloc (Nat.le_refl _) _
      have HS12 := Lib.hid ((HS11.out.kp hk).kp kk)
      have HSC12 := Lib.hid ((HSC11.out.kp hk).kp kk)
      have K12 := Lib.hid ((K11.out.trans (hk.mono K11.out.size)).trans (kk.mono (Nat.le_trans K11.out.size hk.size)))
      clear hk HS11 HSC11 K11 kk
      go_upto_region 42 with fail
      generalize w12.alloc _ = w13 at *
      -- Do
      have HD0 := do_any w13 (k := 0) (x := 0) (y := 0) HSC12.out hA1'.out hB1'.out
      rw [HV.out.2.2.2.1] at HD0
      have HD := Lib.hid HD0
      clear HD0
      obtain ⟨x0, x1, x2, xl⟩ := HS12.out
      go_wp2_with fail
      (with_reducible refine HD.out.mono ?_)
      clear x0 x1 x2 xl HD
      rintro e w14 ⟨v14, rfl, hsc14, hk⟩
      obtain ⟨A14, ca14, B14, cb14, rfl, -⟩ := hsc14.ex
      have kk : Kp w14.heap.size w14 (w14.alloc (.cells #[.int .i64 s0.n, .slice A14 s0.ts.length ca14, .slice B14 s0.cur.length cb14] 30)) := (Kp.refl _ _).alloc (Nat.le_refl _) _
      have HS14 := Lib.hid ((HS12.out.kp hk).kp kk)
      have HSC14 := Lib.hid ((HSC12.out.kp hk).kp kk)
      have K14 := Lib.hid ((K12.out.trans (hk.mono K12.out.size)).trans (kk.mono (Nat.le_trans K12.out.size hk.size)))
      clear hk HS12 HSC12 K12 kk hsc14
      go_upto_region 43 with fail
      generalize w14.alloc _ = w15 at *
      -- Plan
      have HPL0 := plan_any w15 (most := -1) HSC14.out hA1'.out hB1'.out (by decide)
      rw [HV.out.2.2.2.2] at HPL0
      have HPL := Lib.hid HPL0
      clear HPL0
      obtain ⟨x0, x1, x2, xl⟩ := HS14.out
      go_wp2_with fail
      (with_reducible refine HPL.out.mono ?_)
      clear x0 x1 x2 xl HPL
      rintro e w16 ⟨v16, vs16, rfl, -, hsc16, hk⟩
      obtain ⟨A16, ca16, B16, cb16, rfl, -⟩ := hsc16.ex
      have kk : Kp w16.heap.size w16 (w16.alloc (.cells #[.int .i64 s0.n, .slice A16 s0.ts.length ca16, .slice B16 s0.cur.length cb16] 30)) := (Kp.refl _ _).alloc (Nat.le_refl _) _
      have HS16 := Lib.hid ((HS14.out.kp hk).kp kk)
      have HSC16 := Lib.hid ((HSC14.out.kp hk).kp kk)
      have K16 := Lib.hid ((K14.out.trans (hk.mono K14.out.size)).trans (kk.mono (Nat.le_trans K14.out.size hk.size)))
      clear hk HS14 HSC14 K14 kk hsc16
      go_upto_region 44 with fail
      generalize w16.alloc _ = w17 at *
      have kk : Kp w17.heap.size w17 (w17.alloc (.cells #[.int .i64 270, .int .i64 270, .int .i64 270, .int .i64 270, .int .i64 270] 33)) := (Kp.refl _ _).alloc (Nat.le_refl _) _
      have hi := (rd_new w17 ([270, 270, 270, 270, 270].map (Value.int .i64)) 33 1 5 rfl).isInts.2
      simp only [List.map_cons, List.map_nil] at hi
      have HI := Lib.hid hi
      have HS18 := Lib.hid (HS16.out.kp kk)
      have HSC18 := Lib.hid (HSC16.out.kp kk)
      have K18 := Lib.hid (K16.out.trans (kk.mono K16.out.size))
      clear kk hi HS16 HSC16 K16
      go_wp2_with fail
      generalize w17.alloc _ = w18 at *
      generalize w17.heap.size = bE at *
      go_loopw [207] (fun i wr => ∃ j : Nat, j ≤ 5 ∧ i = .int .i64 (j : Int) ∧ w18 = wr) (fun i _ => 5 - (intOf i).toNat)
      case atStart => exact ⟨0, by omega, rfl, rfl⟩
      case round =>
        obtain ⟨j, hj, rfl, rfl⟩ := hrel
        by_cases hlt : j < 5
        · have hji : (j : Int) < 5 := by omega
          obtain ⟨be, oe, e, hbe, ce⟩ := HI.out j hlt
          cases e
          have hz : ([270, 270, 270, 270, 270] : List Int).getD j 0 = 270 := by
            have : j = 0 ∨ j = 1 ∨ j = 2 ∨ j = 3 ∨ j = 4 := by omega
            rcases this with rfl | rfl | rfl | rfl | rfl <;> rfl
          rw [hz] at ce
          simp only [Nat.zero_add] at ce
          clear hz
          go_wp2_with fail
          go_roundw
          case rel => exact ⟨j + 1, by omega, by go_num, trivial⟩
          case measure => simp [intOf]; omega
        · have hje : j = 5 := by omega
          subst hje
          have hjn : ¬ ((5 : Int) < 5) := by omega
          have HR0 := right_at (ca := ca2) (cb := cb2) HSC18.out
          rw [HW.out] at HR0
          have HR := Lib.hid HR0
          clear HR0
          obtain ⟨x0, x1, x2, xl⟩ := HS18.out
          go_wp2_with fail
          (with_reducible refine HR.out.mono ?_)
          rintro e w19 ⟨rfl, hk⟩
          have K19 := Lib.hid (K18.out.trans (hk.mono K18.out.size))
          go_wp2_with fail
          go_ret
          exact ⟨rfl, K19.out⟩
end Go.Proofs.Yticgdfbknaholaa
