/-
  The contract of Made: a right scene, of at most 8 CPUs and 40 tasks, in memory of its own.
-/
import Derived.Test.YticgdfbknaholaaSmall27
namespace Go.Proofs.Yticgdfbknaholaa
open Go.RowKit

set_option maxRecDepth 100000 in
set_option maxHeartbeats 4000000 in
theorem made_any (W : World) {A B : Option Addr} {la ca lb cb : Nat} {a : Int} {xs : List Xt} {zs : List Int} (h : SmAt W A la ca B lb cb a xs zs) :
    Calls Try.prog 11 #[.agg #[.int .u8 a, .slice A la ca, .slice B lb cb]] W fun e w' => ∃ v s, e = .returned v ∧ RowSc w' W.heap.size v s ∧ s.fit ∧ s.n ≤ 8 ∧ s.ts.length ≤ 40 ∧ Kp W.heap.size W w' := by
  have HX := Lib.hid h
  have a0 := h.a0
  have a1 := h.a1
  have hlac := h.lac
  have hlbc := h.lbc
  have hlam := h.lam
  have hlbm := h.lbm
  clear h
  obtain ⟨q, hq⟩ : ∃ q, q = min la 40 := ⟨_, rfl⟩
  have HQL := Lib.hid (show (la < 40 ∧ q = la) ∨ (40 ≤ la ∧ q = 40) by omega)
  have hq1 : q ≤ 40 := by omega
  have hq2 : q ≤ la := by omega
  clear hq
  go_enter Try.func11, Try.ntmps11
  go_upto_region 1 with fail
  go_upto_region 2 with fail
  obtain ⟨n, hn⟩ : ∃ n, n = 1 + a % 8 := ⟨_, rfl⟩
  rw [← hn]
  have n1 : 1 ≤ n := by omega
  have n8 : n ≤ 8 := by omega
  have HM0 := Lib.hid (ms_start W a A la ca B lb cb n)
  clear hn
  generalize ((W.alloc _).alloc _).alloc _ = w0 at *
  obtain ⟨bP, hbP⟩ : ∃ b, b = W.heap.size := ⟨_, rfl⟩
  obtain ⟨bR, hbR⟩ : ∃ b, b = W.heap.size + 1 := ⟨_, rfl⟩
  obtain ⟨bS, hbS⟩ : ∃ b, b = W.heap.size + 1 + 1 := ⟨_, rfl⟩
  rw [← hbS, ← hbR, ← hbP] at HM0
  rw [← hbS, ← hbR, ← hbP]
  have dSR : bS ≠ bR := by omega
  have dSP : bS ≠ bP := by omega
  have WS : W.heap.size ≤ bS := by omega
  have WR : W.heap.size ≤ bR := by omega
  clear hbS hbR hbP
  have HC := Lib.hid HM0.out.p
  obtain ⟨x0, x1, x2, xl⟩ := HM0.out.p
  go_upto_region 3 with fail
  go_cut [26, 27, 28] from 20 to 28 (fun s l i w' => s = .slice A q ca ∧ l = .int .i64 q ∧ i = .int .i64 0 ∧ w0 = w')
  case first =>
    rcases HQL.out with ⟨h1, rfl⟩ | ⟨h1, rfl⟩
    · have h2 : (q : Int) < 40 := by omega
      go_wp2_with fail
      all_goals
        go_meet
        case rel => exact ⟨by first | rfl | (congr 1; omega), by first | rfl | (congr 1; omega), rfl, rfl⟩
    · have h2 : (40 : Int) ≤ la := by omega
      have h3 : 40 ≤ ca := by omega
      go_wp2_with fail
      all_goals
        go_meet
        case rel => exact ⟨by first | rfl | (congr 1; omega), by first | rfl | (congr 1; omega), rfl, rfl⟩
  case rest =>
  obtain ⟨rfl, rfl, rfl, rfl⟩ := hcut
  clear x0 x1 x2 xl HC
  go_wp2_with fail
  go_loopw [4, 28] (fun d i wr => ∃ (j : Nat) (ts : List Tk) (v : Value), j ≤ q ∧ i = .int .i64 (j : Int) ∧ d = .int .i64 (lastI 0 ts) ∧ ts.length = j ∧ 0 ≤ lastI 0 ts ∧ lastI 0 ts ≤ 5 * j ∧ rightsT n 0 ts = true ∧ (∀ t ∈ ts, t.ok) ∧ MS W bP bS bR a A la ca B lb cb wr v (.slice none 0 0) n ts []) (fun _ i _ => q - (intOf i).toNat)
  case atStart => exact ⟨0, [], _, Nat.zero_le _, rfl, rfl, rfl, Int.le_refl _, by simp [lastI], rfl, (fun t h => by cases h), HM0.out⟩
  case round =>
    clear HM0
    obtain ⟨j, ts, v, hj, rfl, rfl, hl, hp0, hp5, hrt, hok, hms⟩ := hrel
    have HR := Lib.hid hrt
    have HOK := Lib.hid hok
    have HM := Lib.hid hms
    have HL := Lib.hid hl
    clear hrt hok hms hl
    generalize hid : lastI 0 ts = id at *
    have HID := Lib.hid hid
    clear hid
    by_cases hlt : j < q
    · have hji : (j : Int) < q := by omega
      have hju : ((j : Int) : Int) < (la : Int) := by omega
      obtain ⟨b, off, rfl, T⟩ := (HX.out.kp HM.out.kp).hxs j (by omega)
      have hxok := HX.out.okx (xs.getD j x0) (by rw [List.getD_eq_getElem?_getD, List.getElem?_eq_getElem (by rw [HX.out.hla]; omega)]; exact List.getElem_mem _)
      generalize xs.getD j x0 = t at *
      obtain ⟨gap, cpu, fl, wt, mask⟩ := t
      obtain ⟨g0, g1, p0, p1, f0, f1, q0, q1, m0, m1⟩ := hxok
      obtain ⟨c0, c1, c2, c3, c4, cl⟩ := T
      dsimp only at *
      go_upto_region 6 with fail
      have T := Lib.hid (XtAt.new wr ⟨gap, cpu, fl, wt, mask⟩ 69)
      have ka : Kp wr.heap.size wr (wr.alloc (.cells (xtc ⟨gap, cpu, fl, wt, mask⟩) 69)) := (Kp.refl _ _).alloc (Nat.le_refl _) _
      have HM1 := Lib.hid (HM.out.kps ka)
      dsimp only [xtc] at T HM1
      obtain ⟨bT, hbT⟩ : ∃ bT, bT = wr.heap.size := ⟨_, rfl⟩
      have dTS : bT ≠ bS := by have := HM.out.fs.1; omega
      rw [← hbT] at T
      rw [← hbT]
      clear c0 c1 c2 c3 c4 cl HM ka hbT
      generalize wr.alloc _ = w1 at *
      obtain ⟨c0, c1, c2, c3, c4, cl⟩ := T.out
      simp only [Nat.zero_add] at c0 c1 c2 c3 c4
      obtain ⟨x0, x1, x2, xl⟩ := HM1.out.s
      obtain ⟨r, hr⟩ : ∃ r, r = cpu % n := ⟨_, rfl⟩
      have r0 : 0 ≤ r := by rw [hr]; exact Int.emod_nonneg _ (by omega)
      have r1 : r < n := by rw [hr]; exact Int.emod_lt_of_pos _ (by omega)
      have r2 : Int.tmod cpu n = r := by rw [Int.tmod_eq_emod_of_nonneg p0, hr]
      have r3 : cpu % n = r := hr.symm
      have n0 : n ≠ 0 := by omega
      have n00 : (n == 0) = false := beq_eq_false_iff_ne.2 n0
      clear hr
      have n64 : n < 64 := by omega
      have r64 : r < 64 := by omega
      go_upto_region 8 with fail
      go_region
      all_goals go_upto_region 9 with fail
      obtain ⟨mk, hmk, mk0, mk1, mkh, mkz⟩ := mask_facts (r := r) (n := n) m0 m1 r0 r1 n8
      rw [hmk]
      have kd : Kp w1.heap.size w1 w1.drew := (Kp.refl _ _).drewN 1
      have HM2 := Lib.hid (HM1.out.kps kd)
      have HT2 := Lib.hid (T.out.kp kd)
      have HFIT := Lib.hid (And.intro mkh mkz)
      clear hmk mkh mkz kd HM1 T c0 c1 c2 c3 c4 cl x0 x1 x2 xl
      generalize w1.drew = w2 at *
      obtain ⟨c0, c1, c2, c3, c4, cl⟩ := HT2.out
      simp only [Nat.zero_add] at c0 c1 c2 c3 c4
      obtain ⟨x0, x1, x2, xl⟩ := HM2.out.s
      have xf := HM2.out.fs.2
      obtain ⟨i0, hi0, hz0, hz1, hz2⟩ := info_parts tk_info
      have HI := Lib.hid hi0
      have HZ0 := Lib.hid hz0
      have HZ1 := Lib.hid hz1
      have HZ2 := Lib.hid hz2
      clear hi0 hz0 hz1 hz2
      go_wp2_with (at_builtin; refine wpList_append_rd _ rfl _ _ 27 rfl W.heap.size 43 i0 (tkv t0) 8 64 Try.underlying27 HI.out HZ0.out HZ1.out HZ2.out rfl (by decide) _ j (flatT ts) rfl ?qc1 (some ⟨w2.heap.size, 0, none⟩) 1 1 (flatT [⟨id + (1 + gap % 5), 0, 1 + wt, r, mk, decide (0 < fl % 4), fl, 0⟩]) rfl ?qc2 (oneCellsT [⟨id + (1 + gap % 5), 0, 1 + wt, r, mk, decide (0 < fl % 4), fl, 0⟩]) ?qc4 ?qc5 ?qc6 ?_)
      case qc1 =>
        have h := own_kp HM2.out.row ((Kp.refl _ w2).alloc (Nat.le_refl _) (.cells (tkc ⟨id + (1 + gap % 5), 0, 1 + wt, r, mk, decide (0 < fl % 4), fl, 0⟩) 43))
        rw [HL.out] at h
        exact h
      case qc2 => exact rd_new w2 _ 43 8 1 rfl
      case qc4 => unfold maxLen; omega
      case qc5 => omega
      case qc6 => have := HM2.out.kp.size; simp; omega
      intro v9 w9 hown9 hgrow9
      obtain ⟨A9, c9, rfl, _⟩ := own_form hown9
      have HM3 := HM2.out.kps ((Kp.refl _ w2).alloc (Nat.le_refl _) (.cells (tkc ⟨id + (1 + gap % 5), 0, 1 + wt, r, mk, decide (0 < fl % 4), fl, 0⟩) 43))
      obtain ⟨hs9, hf9, hm9⟩ := HM3.growT (t := ⟨id + (1 + gap % 5), 0, 1 + wt, r, mk, decide (0 < fl % 4), fl, 0⟩) dSR dSP WS hgrow9 (by rw [HL.out]; exact hown9)
      have HM9 := Lib.hid hm9
      clear hm9 hgrow9 hown9 HM3 c0 c1 c2 c3 c4 cl x0 x1 x2 xl xf
      obtain ⟨x0, x1, x2, xl⟩ := hs9
      have xf := hf9.2
      go_wp2_with fail
      clear x0 x1 x2 xl xf hf9
      generalize w9.setCell _ _ = w10 at *
      go_roundw
      case rel =>
        refine ⟨j + 1, ts ++ [⟨id + (1 + gap % 5), 0, 1 + wt, r, mk, decide (0 < fl % 4), fl, 0⟩], _, by omega, by go_num, by rw [lastI_snoc], by rw [List.length_append, HL.out]; rfl, by rw [lastI_snoc]; dsimp only; omega, by rw [lastI_snoc]; dsimp only; omega, rightsT_snoc HR.out ?_, fun t ht => ?_, HM9.out⟩
        · rw [HID.out]
          unfold rightT
          simp only [Bool.and_eq_true, decide_eq_true_eq, Bool.or_eq_true, beq_iff_eq]
          exact ⟨⟨⟨⟨⟨⟨⟨by omega, by omega⟩, by omega⟩, by omega⟩, r0⟩, r1⟩, HFIT.out.1⟩, Or.inr HFIT.out.2⟩
        · rcases List.mem_append.1 ht with h1 | h1
          · exact HOK.out t h1
          · rw [List.mem_singleton] at h1
            subst h1
            exact ⟨by dsimp only; omega, by dsimp only; omega, by dsimp only; omega, by dsimp only; omega, by dsimp only; omega, by dsimp only; omega, mk0, mk1⟩
      case measure => simp [intOf]; omega
    · have hje : j = q := by omega
      subst hje
      have hjn : ¬ ((j : Int) < (j : Int)) := by omega
      obtain ⟨Av, cv, rfl, -⟩ := own_form HM.out.row
      clear hlt
      have HM0 := Lib.hid (show MS W bP bS bR a A la ca B lb cb wr (.slice Av j cv) (.slice none 0 0) n ts [] by have h := HM.out; rw [HL.out] at h; exact h)
      obtain ⟨N, rfl⟩ : ∃ N : Nat, n = (N : Int) := ⟨n.toNat, by omega⟩
      obtain ⟨x0, x1, x2, xl⟩ := HM0.out.s
      go_wp2_with fail
      clear x0 x1 x2 xl HM
      go_loopw [78] (fun i wq => ∃ (c : Nat) (cur : List Int) (u : Value), c ≤ N ∧ i = .int .i64 (c : Int) ∧ cur.length = c ∧ (∀ k, k < c → cur.getD k 0 = 0 ∨ ∃ t ∈ ts, t.rdy = true ∧ t.cpu = (k : Int) ∧ t.id = cur.getD k 0) ∧ MS W bP bS bR a A la ca B lb cb wq (.slice Av j cv) u N ts cur) (fun i _ => N - (intOf i).toNat)
      case atStart => exact ⟨0, [], _, Nat.zero_le _, rfl, rfl, (fun k h => absurd h (Nat.not_lt_zero k)), HM0.out⟩
      case round =>
        clear HM0
        obtain ⟨c, cur, u, hc, rfl, hcl, hcs, hms⟩ := hrel
        have HM := Lib.hid hms
        have HCS := Lib.hid hcs
        have HCL := Lib.hid hcl
        clear hms hcs hcl
        by_cases hlt : c < N
        · have hci : (c : Int) < N := by omega
          obtain ⟨x0, x1, x2, xl⟩ := HM.out.s
          go_wp2_with fail
          clear x0 x1 x2 xl
          obtain ⟨i0, hi0, hz0, hz1, hz2⟩ := info_parts int_info
          have HI := Lib.hid hi0
          have HZ0 := Lib.hid hz0
          have HZ1 := Lib.hid hz1
          have HZ2 := Lib.hid hz2
          clear hi0 hz0 hz1 hz2
          generalize wr = wo at *
          go_loopw [10, 84] (fun h i wz => ∃ (k : Nat) (hs : List Int), k ≤ j ∧ i = .int .i64 (k : Int) ∧ hs.length ≤ k ∧ wz.ownsRow wo.heap.size 3 1 h hs.length (hs.map (Value.int .i64)) ∧ (∀ z ∈ hs, ∃ t ∈ ts, t.rdy = true ∧ t.cpu = (c : Int) ∧ t.id = z) ∧ Kp wo.heap.size wo wz) (fun _ i _ => j - (intOf i).toNat)
          case atStart => exact ⟨0, [], Nat.zero_le _, rfl, Nat.le_refl _, World.ownsRow_nil _ _ _ _, (fun z h => by cases h), Kp.refl _ _⟩
          case round =>
            obtain ⟨k, hs, hk, rfl, hhl, hrow, hin, hkp⟩ := hrel
            have HRW := Lib.hid hrow
            have HIN := Lib.hid hin
            have HK := Lib.hid hkp
            clear hrow hin hkp
            by_cases hkj : k < j
            · have hki : (k : Int) < j := by omega
              obtain ⟨b, off, rfl, T⟩ := (HM.out.kps HK.out).tks.2.2 k hkj
              have hmem : ts.getD k t0 ∈ ts := getD_mem' (by rw [HL.out]; exact hkj)
              have HMEM := Lib.hid hmem
              clear hmem
              generalize ts.getD k t0 = t at *
              obtain ⟨id', grp', wt', cpu', mask', rdy', v', r'⟩ := t
              obtain ⟨c0, c1, c2, c3, c4, c5, c6, c7, cl⟩ := T
              dsimp only at *
              go_upto_region 18 with fail
              have T := Lib.hid (TkAt.new wr ⟨id', grp', wt', cpu', mask', rdy', v', r'⟩ 43)
              have kk : Kp wr.heap.size wr (wr.alloc (.cells (tkc ⟨id', grp', wt', cpu', mask', rdy', v', r'⟩) 43)) := (Kp.refl _ _).alloc (Nat.le_refl _) _
              have HRW2 := Lib.hid (own_kp HRW.out kk)
              have HK2 := Lib.hid (HK.out.trans (kk.mono HK.out.size))
              obtain ⟨bT, hbT⟩ : ∃ bT, bT = wr.heap.size := ⟨_, rfl⟩
              rw [← hbT] at T
              rw [← hbT]
              clear c0 c1 c2 c3 c4 c5 c6 c7 cl HRW HK kk hbT
              dsimp only [tkc] at T HRW2 HK2
              generalize wr.alloc _ = w1 at *
              obtain ⟨c0, c1, c2, c3, c4, c5, c6, c7, cl⟩ := T.out
              simp only [Nat.zero_add] at c0 c1 c2 c3 c4 c5 c6 c7
              clear T
              have skip : ∀ w', w' = w1 → ∃ (k' : Nat) (hs : List Int), k' ≤ j ∧ Value.int .i64 ((k : Int) + 1) = .int .i64 (k' : Int) ∧ hs.length ≤ k' ∧ w'.ownsRow wo.heap.size 3 1 u10 hs.length (hs.map (Value.int .i64)) ∧ (∀ z ∈ hs, ∃ t ∈ ts, t.rdy = true ∧ t.cpu = (c : Int) ∧ t.id = z) ∧ Kp wo.heap.size wo w' := by
                rintro _ rfl
                exact ⟨k + 1, hs, by omega, by simp, by omega, HRW2.out, HIN.out, HK2.out⟩
              have SKIP := Lib.hid skip
              clear skip
              cases rdy'
              · go_wp2_with fail
                go_roundw
                case rel => exact SKIP.out _ rfl
                case measure => simp [intOf]; omega
              · by_cases hcc : cpu' = (c : Int)
                rotate_left
                · have hcb : (cpu' == (c : Int)) = false := beq_eq_false_iff_ne.2 hcc
                  go_wp2_with fail
                  go_roundw
                  case rel => exact SKIP.out _ rfl
                  case measure => simp [intOf]; omega
                · subst hcc
                  go_wp2_with (at_builtin; refine wpList_append_rd _ rfl _ _ 28 rfl wo.heap.size 3 i0 (.int .i64 0) 1 8 Try.underlying28 HI.out HZ0.out HZ1.out HZ2.out rfl (by decide) _ hs.length (hs.map (Value.int .i64)) rfl ?qd1 (some ⟨w1.heap.size, 0, none⟩) 1 1 ([id'].map (Value.int .i64)) rfl ?qd2 (oneCellsI [id']) ?qd4 ?qd5 ?qd6 ?_)
                  case qd1 => exact own_kp HRW2.out ((Kp.refl _ w1).alloc (Nat.le_refl _) _)
                  case qd2 => exact rd_new w1 _ 3 1 1 rfl
                  case qd4 => unfold maxLen; omega
                  case qd5 => omega
                  case qd6 => have := HK2.out.size; simp; omega
                  intro v9 w9 hown9 hgrow9
                  have ke : Kp wo.heap.size wo (w1.alloc (.cells #[.int .i64 id'] 3)) := HK2.out.alloc HK2.out.size _
                  have HK9 := Lib.hid (ke.grown hgrow9 ke.size (fun g hg => (HRW2.out.lt g hg).1))
                  have HR9 := Lib.hid hown9
                  clear hown9 hgrow9 ke c0 c1 c2 c3 c4 c5 c6 c7 cl
                  go_wp2_with fail
                  go_roundw
                  case rel =>
                    refine ⟨k + 1, hs ++ [id'], by omega, by go_num, by rw [List.length_append]; simp; omega, by rw [List.length_append, List.map_append]; exact HR9.out, fun z hz => ?_, HK9.out⟩
                    rcases List.mem_append.1 hz with h1 | h1
                    · exact HIN.out z h1
                    · rw [List.mem_singleton] at h1
                      subst h1
                      exact ⟨_, HMEM.out, rfl, rfl, rfl⟩
                  case measure => simp [intOf]; omega
            · have hke : k = j := by omega
              subst hke
              have hkn : ¬ ((k : Int) < (k : Int)) := by omega
              obtain ⟨H, ch, rfl, hch0, hch1, -, hrd, -⟩ := own_form HRW.out
              have HM4 := Lib.hid (HM.out.kps HK.out)
              have hI := Lib.hid hrd.isInts.2
              have hZ := Lib.hid ((HX.out.kp HM4.out.kp).hzs)
              obtain ⟨m, hm⟩ : ∃ m, m = hs.length := ⟨_, rfl⟩
              rw [← hm] at hI hch0 hhl
              rw [← hm]
              have HMm := Lib.hid hm
              clear HRW HM hrd hm
              obtain ⟨x0, x1, x2, xl⟩ := HM4.out.p
              obtain ⟨y0, y1, y2, yl⟩ := HM4.out.s
              by_cases hclb : (c : Int) < (lb : Int)
              rotate_left
              · go_upto_region 24 with fail
                go_wp2_with (at_builtin; refine wpList_append_rd _ rfl _ _ 28 rfl W.heap.size 3 i0 (.int .i64 0) 1 8 Try.underlying28 HI.out HZ0.out HZ1.out HZ2.out rfl (by decide) _ c (cur.map (Value.int .i64)) rfl ?qe1 (some ⟨wr.heap.size, 0, none⟩) 1 1 ([0].map (Value.int .i64)) rfl ?qe2 (oneCellsI [0]) ?qe4 ?qe5 ?qe6 ?_)
                case qe1 =>
                  have h := own_kp HM4.out.cow ((Kp.refl _ wr).alloc (Nat.le_refl _) (.cells #[.int .i64 0] 3))
                  rw [HCL.out] at h
                  exact h
                case qe2 => exact rd_new wr _ 3 1 1 rfl
                case qe4 => unfold maxLen; omega
                case qe5 => omega
                case qe6 => have := HM4.out.kp.size; simp; omega
                intro v9 w9 hown9 hgrow9
                obtain ⟨A9, c9, rfl, -⟩ := own_form hown9
                obtain ⟨hs9, hf9, hm9⟩ := (HM4.out.kps ((Kp.refl _ wr).alloc (Nat.le_refl _) (.cells #[.int .i64 0] 3))).growC (x := 0) dSR dSP WS hgrow9 (by rw [HCL.out]; exact hown9)
                have HM9 := Lib.hid hm9
                clear hm9 hgrow9 hown9 x0 x1 x2 xl y0 y1 y2 yl
                obtain ⟨x0, x1, x2, xl⟩ := hs9
                have xf := hf9.2
                go_wp2_with fail
                clear x0 x1 x2 xl xf hf9
                generalize w9.setCell _ _ = w10 at *
                go_roundw
                case rel =>
                  refine ⟨c + 1, cur ++ [0], _, by omega, by go_num, by rw [List.length_append, HCL.out]; rfl, fun k9 hk9 => ?_, HM9.out⟩
                  rcases Nat.lt_or_ge k9 c with h1 | h1
                  · rw [getD_snoc_lt _ _ (by rw [HCL.out]; exact h1)]
                    exact HCS.out k9 h1
                  · have h2 : k9 = cur.length := by rw [HCL.out]; omega
                    rw [h2, getD_snoc_eq, HCL.out]
                    exact Or.inl rfl
                case measure => simp [intOf]; omega
              obtain ⟨bz, oz, rfl, hbz, cz⟩ := hZ.out c (by omega)
              have hzz := HX.out.okz (zs.getD c 0) (by rw [List.getD_eq_getElem?_getD, List.getElem?_eq_getElem (by rw [HX.out.hlb]; omega)]; exact List.getElem_mem _)
              generalize zs.getD c 0 = zc at *
              obtain ⟨hz0', hz1'⟩ := hzz
              by_cases hm0 : 0 < m
              rotate_left
              · have hm1 : m = 0 := by omega
                subst hm1
                go_upto_region 24 with fail
                go_wp2_with (at_builtin; refine wpList_append_rd _ rfl _ _ 28 rfl W.heap.size 3 i0 (.int .i64 0) 1 8 Try.underlying28 HI.out HZ0.out HZ1.out HZ2.out rfl (by decide) _ c (cur.map (Value.int .i64)) rfl ?qe1 (some ⟨wr.heap.size, 0, none⟩) 1 1 ([0].map (Value.int .i64)) rfl ?qe2 (oneCellsI [0]) ?qe4 ?qe5 ?qe6 ?_)
                case qe1 =>
                  have h := own_kp HM4.out.cow ((Kp.refl _ wr).alloc (Nat.le_refl _) (.cells #[.int .i64 0] 3))
                  rw [HCL.out] at h
                  exact h
                case qe2 => exact rd_new wr _ 3 1 1 rfl
                case qe4 => unfold maxLen; omega
                case qe5 => omega
                case qe6 => have := HM4.out.kp.size; simp; omega
                intro v9 w9 hown9 hgrow9
                obtain ⟨A9, c9, rfl, -⟩ := own_form hown9
                obtain ⟨hs9, hf9, hm9⟩ := (HM4.out.kps ((Kp.refl _ wr).alloc (Nat.le_refl _) (.cells #[.int .i64 0] 3))).growC (x := 0) dSR dSP WS hgrow9 (by rw [HCL.out]; exact hown9)
                have HM9 := Lib.hid hm9
                clear hm9 hgrow9 hown9 x0 x1 x2 xl y0 y1 y2 yl
                obtain ⟨x0, x1, x2, xl⟩ := hs9
                have xf := hf9.2
                go_wp2_with fail
                clear x0 x1 x2 xl xf hf9
                generalize w9.setCell _ _ = w10 at *
                go_roundw
                case rel =>
                  refine ⟨c + 1, cur ++ [0], _, by omega, by go_num, by rw [List.length_append, HCL.out]; rfl, fun k9 hk9 => ?_, HM9.out⟩
                  rcases Nat.lt_or_ge k9 c with h1 | h1
                  · rw [getD_snoc_lt _ _ (by rw [HCL.out]; exact h1)]
                    exact HCS.out k9 h1
                  · have h2 : k9 = cur.length := by rw [HCL.out]; omega
                    rw [h2, getD_snoc_eq, HCL.out]
                    exact Or.inl rfl
                case measure => simp [intOf]; omega
              have hmi : (0 : Int) < (m : Int) := by omega
              by_cases h3 : 0 < zc % 3
              rotate_left
              · go_upto_region 24 with fail
                go_wp2_with (at_builtin; refine wpList_append_rd _ rfl _ _ 28 rfl W.heap.size 3 i0 (.int .i64 0) 1 8 Try.underlying28 HI.out HZ0.out HZ1.out HZ2.out rfl (by decide) _ c (cur.map (Value.int .i64)) rfl ?qe1 (some ⟨wr.heap.size, 0, none⟩) 1 1 ([0].map (Value.int .i64)) rfl ?qe2 (oneCellsI [0]) ?qe4 ?qe5 ?qe6 ?_)
                case qe1 =>
                  have h := own_kp HM4.out.cow ((Kp.refl _ wr).alloc (Nat.le_refl _) (.cells #[.int .i64 0] 3))
                  rw [HCL.out] at h
                  exact h
                case qe2 => exact rd_new wr _ 3 1 1 rfl
                case qe4 => unfold maxLen; omega
                case qe5 => omega
                case qe6 => have := HM4.out.kp.size; simp; omega
                intro v9 w9 hown9 hgrow9
                obtain ⟨A9, c9, rfl, -⟩ := own_form hown9
                obtain ⟨hs9, hf9, hm9⟩ := (HM4.out.kps ((Kp.refl _ wr).alloc (Nat.le_refl _) (.cells #[.int .i64 0] 3))).growC (x := 0) dSR dSP WS hgrow9 (by rw [HCL.out]; exact hown9)
                have HM9 := Lib.hid hm9
                clear hm9 hgrow9 hown9 x0 x1 x2 xl y0 y1 y2 yl
                obtain ⟨x0, x1, x2, xl⟩ := hs9
                have xf := hf9.2
                go_wp2_with fail
                clear x0 x1 x2 xl xf hf9
                generalize w9.setCell _ _ = w10 at *
                go_roundw
                case rel =>
                  refine ⟨c + 1, cur ++ [0], _, by omega, by go_num, by rw [List.length_append, HCL.out]; rfl, fun k9 hk9 => ?_, HM9.out⟩
                  rcases Nat.lt_or_ge k9 c with h1 | h1
                  · rw [getD_snoc_lt _ _ (by rw [HCL.out]; exact h1)]
                    exact HCS.out k9 h1
                  · have h2 : k9 = cur.length := by rw [HCL.out]; omega
                    rw [h2, getD_snoc_eq, HCL.out]
                    exact Or.inl rfl
                case measure => simp [intOf]; omega
              obtain ⟨E, hE⟩ : ∃ E : Nat, zc % (m : Int) = (E : Int) := ⟨(zc % (m : Int)).toNat, by have := Int.emod_nonneg zc (show (m : Int) ≠ 0 by omega); omega⟩
              have hE1 : E < m := by have := Int.emod_lt_of_pos zc hmi; omega
              have hE2 : Int.tmod zc (m : Int) = (E : Int) := by rw [Int.tmod_eq_emod_of_nonneg hz0', hE]
              have hEi : ((E : Int) : Int) < (m : Int) := by omega
              have hmne : (m : Int) ≠ 0 := by omega
              have hmne2 : ((m : Int) == 0) = false := beq_eq_false_iff_ne.2 hmne
              obtain ⟨bh, oh, rfl, hbh, ceh⟩ := hI.out E hE1
              have HELT := Lib.hid (HIN.out (hs.getD E 0) (by rw [List.getD_eq_getElem?_getD, List.getElem?_eq_getElem (by rw [← HMm.out]; exact hE1)]; exact List.getElem_mem _))
              generalize hs.getD E 0 = ze at *
              go_upto_region 24 with fail
              go_wp2_with (at_builtin; refine wpList_append_rd _ rfl _ _ 28 rfl W.heap.size 3 i0 (.int .i64 0) 1 8 Try.underlying28 HI.out HZ0.out HZ1.out HZ2.out rfl (by decide) _ c (cur.map (Value.int .i64)) rfl ?qe1 (some ⟨wr.heap.size, 0, none⟩) 1 1 ([ze].map (Value.int .i64)) rfl ?qe2 (oneCellsI [ze]) ?qe4 ?qe5 ?qe6 ?_)
              case qe1 =>
                have h := own_kp HM4.out.cow ((Kp.refl _ wr).alloc (Nat.le_refl _) (.cells #[.int .i64 ze] 3))
                rw [HCL.out] at h
                exact h
              case qe2 => exact rd_new wr _ 3 1 1 rfl
              case qe4 => unfold maxLen; omega
              case qe5 => omega
              case qe6 => have := HM4.out.kp.size; simp; omega
              intro v9 w9 hown9 hgrow9
              obtain ⟨A9, c9, rfl, -⟩ := own_form hown9
              obtain ⟨hs9, hf9, hm9⟩ := (HM4.out.kps ((Kp.refl _ wr).alloc (Nat.le_refl _) (.cells #[.int .i64 ze] 3))).growC (x := ze) dSR dSP WS hgrow9 (by rw [HCL.out]; exact hown9)
              have HM9 := Lib.hid hm9
              clear hm9 hgrow9 hown9 x0 x1 x2 xl y0 y1 y2 yl
              obtain ⟨x0, x1, x2, xl⟩ := hs9
              have xf := hf9.2
              go_wp2_with fail
              clear x0 x1 x2 xl xf hf9
              generalize w9.setCell _ _ = w10 at *
              go_roundw
              case rel =>
                refine ⟨c + 1, cur ++ [ze], _, by omega, by go_num, by rw [List.length_append, HCL.out]; rfl, fun k9 hk9 => ?_, HM9.out⟩
                rcases Nat.lt_or_ge k9 c with h1 | h1
                · rw [getD_snoc_lt _ _ (by rw [HCL.out]; exact h1)]
                  exact HCS.out k9 h1
                · have h2 : k9 = cur.length := by rw [HCL.out]; omega
                  rw [h2, getD_snoc_eq, HCL.out]
                  exact Or.inr HELT.out
              case measure => simp [intOf]; omega
        · have hce : c = N := by omega
          subst hce
          have hcn : ¬ ((c : Int) < (c : Int)) := by omega
          obtain ⟨x0, x1, x2, xl⟩ := HM.out.s
          obtain ⟨m0, m1, m2, ml⟩ := HM.out.r
          have mf := HM.out.fr.2
          have hP := HM.out.r.set (.int .i64 (c : Int)) (.slice Av j cv) u
          have k2 : Kx bR (bR + 1) 0 0 wr (((wr.setCell ⟨bR, 0, none⟩ (.int .i64 (c : Int))).setCell ⟨bR, 1, none⟩ (.slice Av j cv)).setCell ⟨bR, 2, none⟩ u) :=
            (((Kx.refl _ _ _ _ wr).setIn (p := ⟨bR, 0, none⟩) (Nat.le_refl _) (Nat.lt_succ_self _) _).setIn (p := ⟨bR, 1, none⟩) (Nat.le_refl _) (Nat.lt_succ_self _) _).setIn (p := ⟨bR, 2, none⟩) (Nat.le_refl _) (Nat.lt_succ_self _) _
          have ne : ∀ b, b ≠ bR → b < bR ∨ bR + 1 ≤ b := fun b h => by omega
          have r1 := own_far HM.out.row k2 (fun b hb2 => ne b (fun e => own_tyG HM.out.row HM.out.tr (by decide) (by rw [hb2, e])))
          have r2 := own_far HM.out.cow k2 (fun b hb2 => ne b (fun e => own_tyG HM.out.cow HM.out.tr (by decide) (by rw [hb2, e])))
          have r3 := HM.out.kp.trans (k2.kp HM.out.kp.size (Or.inr WR) (Or.inl (Nat.le_refl _)))
          have HFIN := Lib.hid (And.intro hP (And.intro r1 (And.intro r2 r3)))
          obtain ⟨Bu, cu, hu, -⟩ := own_form HM.out.cow
          rw [HCL.out] at hu
          subst hu
          clear hP k2 ne r1 r2 r3
          go_wp2_with fail
          clear x0 x1 x2 xl m0 m1 m2 ml mf
          generalize World.setCell _ _ _ = w9 at *
          obtain ⟨⟨m0, m1, m2, ml⟩, r1, r2, r3⟩ := HFIN.out
          refine bodyPost_ret (v := .agg #[.int .i64 (c : Int), .slice Av j cv, .slice Bu c cu]) (by simp [results, Try.results11, go_sem, m0, m1, m2]) rfl ?_
          refine ⟨_, rfl, ⟨c, ts, cur⟩, ⟨_, _, rfl, r1, r2, HOK.out⟩, ⟨n1, by dsimp only; omega, by rw [HCL.out], HR.out, fun k hk => ?_⟩, n8, by dsimp only; rw [HL.out]; omega, r3⟩
          dsimp only at hk ⊢
          rw [HCL.out] at hk
          rcases HCS.out k hk with h1 | ⟨t, ht, h1, h2, h3⟩
          · exact Or.inl h1
          · refine Or.inr (List.any_eq_true.2 ⟨t, ht, ?_⟩)
            rw [h2]
            simp only [h1, Int.toNat_natCast, Bool.true_and, Bool.and_eq_true, beq_iff_eq]
            exact ⟨trivial, h3.symm⟩
end Go.Proofs.Yticgdfbknaholaa
