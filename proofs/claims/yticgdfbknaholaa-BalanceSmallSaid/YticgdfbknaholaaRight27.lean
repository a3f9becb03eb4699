/-
  The contract of Right: whether a scene is right.
-/
import Derived.Test.YticgdfbknaholaaRow27
namespace Go.Proofs.Yticgdfbknaholaa
open Go.RowKit

set_option maxRecDepth 100000 in
set_option maxHeartbeats 4000000 in
theorem rights_any (W : World) {A B : Option Addr} {la ca lb cb : Nat} {s : Sc} (hla : s.ts.length = la) (hlb : s.cur.length = lb) (hlm : la ≤ 3000000000000000000) (hlm2 : lb ≤ 3000000000000000000)
    (ht : IsTks W A la s.ts) (hc : IsInts W .i64 B lb s.cur) (hok : ∀ t ∈ s.ts, t.ok) :
    Calls Try.prog 23 #[.agg #[.int .i64 s.n, .slice A la ca, .slice B lb cb]] W fun e w' => e = .returned (.bool (rightS s)) ∧ Kp W.heap.size W w' := by
  obtain ⟨n, ts, cur⟩ := s
  dsimp only at *
  have k0 : Kp W.heap.size W ((W.alloc (.cells #[.int .i64 n, .slice A la ca, .slice B lb cb] 30))) := (Kp.refl _ _).alloc (Nat.le_refl _) _
  by_cases h1 : n < 1
  · have e : rightS ⟨n, ts, cur⟩ = false := by unfold rightS; rw [decide_eq_false (show ¬ 1 ≤ n by omega)]; rfl
    rw [e]
    clear e
    go_enter Try.func23, Try.ntmps23
    go_wp2_with fail
    go_ret
    exact ⟨rfl, k0⟩
  by_cases h2 : 64 < n
  · have e : rightS ⟨n, ts, cur⟩ = false := by unfold rightS; rw [decide_eq_false (show ¬ n ≤ 64 by omega)]; simp
    have g1 : 1 ≤ n := by omega
    rw [e]
    clear e h1
    go_enter Try.func23, Try.ntmps23
    go_wp2_with fail
    go_ret
    exact ⟨rfl, k0⟩
  have g1 : 1 ≤ n := by omega
  have g2 : n ≤ 64 := by omega
  clear h1 h2
  by_cases h3 : (lb : Int) = n
  rotate_left
  · have e : rightS ⟨n, ts, cur⟩ = false := by
      unfold rightS
      dsimp only
      rw [hlb, beq_eq_false_iff_ne.2 h3]
      simp
    have h4 : ((lb : Int) != n) = true := bne_iff_ne.2 h3
    rw [e]
    clear e
    go_enter Try.func23, Try.ntmps23
    go_wp2_with fail
    go_ret
    exact ⟨rfl, k0⟩
  subst h3
  have hlb64 : lb ≤ 64 := by omega
  have hl1 : 1 ≤ lb := by omega
  have e : rightS ⟨(lb : Int), ts, cur⟩ = (rightsT lb 0 ts && (List.range cur.length).all fun c => cur.getD c 0 == 0 || runsB cur ts c) := by
    unfold rightS
    rw [decide_eq_true g1, decide_eq_true g2]
    simp [hlb]
  rw [e]
  obtain ⟨R, hR⟩ : ∃ R, R = (rightsT lb 0 ts && (List.range cur.length).all fun c => cur.getD c 0 == 0 || runsB cur ts c) := ⟨_, rfl⟩
  rw [← hR]
  have HR := Lib.hid hR
  have HT := Lib.hid ht
  have HC := Lib.hid hc
  have HOK := Lib.hid hok
  have HLA := Lib.hid hla
  have HLB := Lib.hid hlb
  have HM := fun w => Lib.hid (make_bools w lb hlb64)
  have HRT := fun w last t (h : Tk.ok t) => Lib.hid (right_any w (n := lb) (last := last) (t := t) (A := A) (B := B) (la := la) (ca := ca) (lb := lb) (cb := cb) h g1 g2)
  clear e hR ht hc hok k0 g1 g2 hla hlb
  have hmk := fun w => (HM w).out
  go_enter Try.func23, Try.ntmps23
  go_upto_region 4 with fail
  have X := C3.new W (.int .i64 (lb : Int)) (.slice A la ca) (.slice B lb cb) 30
  have X2 := X.alloc (.cells (madeCells (Value.bool false).cells lb) 4)
  have RW := Row.made (W.alloc (.cells #[.int .i64 (lb : Int), .slice A la ca, .slice B lb cb] 30)) (.bool false) rfl lb 4
  have K := ((Kp.refl W.heap.size W).alloc (Nat.le_refl _) (.cells #[.int .i64 (lb : Int), .slice A la ca, .slice B lb cb] 30)).alloc (by simp) (.cells (madeCells (Value.bool false).cells lb) 4)
  rw [World.size_alloc] at RW
  have hne : W.heap.size ≠ W.heap.size + 1 := by omega
  have hbR : W.heap.size ≤ W.heap.size + 1 := by omega
  have hbS : W.heap.size ≤ W.heap.size := Nat.le_refl _
  have HX := Lib.hid X2
  have HRW := Lib.hid RW
  have HK := Lib.hid K
  clear X X2 RW K hmk HM
  simp only [Value.cells] at HX HRW HK
  generalize (W.alloc _).alloc _ = w2 at *
  obtain ⟨bS, hbS2⟩ : ∃ bS, bS = W.heap.size := ⟨_, rfl⟩
  obtain ⟨bR, hbR2⟩ : ∃ bR, bR = W.heap.size + 1 := ⟨_, rfl⟩
  rw [← hbR2, ← hbS2] at hne
  rw [← hbR2] at hbR HRW
  rw [← hbS2] at HX
  rw [← hbR2, ← hbS2]
  have hbS3 : W.heap.size ≤ bS := by omega
  clear hbS hbS2 hbR2
  have x1 := HX.out.c1
  go_wp2_with fail
  clear x1
  go_loopw [4, 31] (fun v i wr => ∃ (j : Nat) (last : Int), j ≤ la ∧ i = .int .i64 (j : Int) ∧ v = .int .i64 last ∧ C3 wr bS (.int .i64 (lb : Int)) (.slice A la ca) (.slice B lb cb) ∧ Row wr bR lb (fun c => .bool (runsB cur (ts.take j) c)) ∧
    (R = (rightsT lb last (ts.drop j) && (List.range cur.length).all fun c => cur.getD c 0 == 0 || runsB cur ts c)) ∧ Kp W.heap.size W wr) (fun _ i _ => la - (intOf i).toNat)
  case atStart => exact ⟨0, 0, Nat.zero_le _, rfl, rfl, HX.out, HRW.out, HR.out, HK.out⟩
  case round =>
    clear HX HRW HR HK
    obtain ⟨j, last, hj, rfl, rfl, hx, hrw, hr, hk⟩ := hrel
    by_cases hlt : j < la
    · have hji : (j : Int) < la := by omega
      have hd := drop_cons' (ts := ts) (i := j) (by rw [HLA.out]; exact hlt)
      have htk := take_snoc' (ts := ts) (i := j) (by rw [HLA.out]; exact hlt)
      obtain ⟨b, off, rfl, T⟩ := HT.out j hlt
      have hok := HOK.out (ts.getD j t0) (by rw [List.getD_eq_getElem?_getD, List.getElem?_eq_getElem (by rw [HLA.out]; exact hlt)]; exact List.getElem_mem _)
      replace T := T.kp hk
      rw [hd] at hr
      generalize ts.getD j t0 = t at *
      have HR := Lib.hid hr
      have HTK := Lib.hid htk
      have HX := Lib.hid hx
      have HRW := Lib.hid hrw
      have HK := Lib.hid hk
      clear hr htk hx hrw hk hd
      obtain ⟨c0, c1, c2, c3, c4, c5, c6, c7, hbl⟩ := T
      obtain ⟨id, grp, wt, cpu, mask, rdy, v, r⟩ := t
      dsimp only at *
      go_upto_region 8 with fail
      have T := TkAt.new wr ⟨id, grp, wt, cpu, mask, rdy, v, r⟩ 43
      have HX2 := Lib.hid (HX.out.alloc (.cells (tkc ⟨id, grp, wt, cpu, mask, rdy, v, r⟩) 43))
      have HRW2 := Lib.hid (HRW.out.kp ((Kp.refl _ wr).alloc (Nat.le_refl _) (.cells (tkc ⟨id, grp, wt, cpu, mask, rdy, v, r⟩) 43)))
      have HK2 := Lib.hid (HK.out.alloc HK.out.size (.cells (tkc ⟨id, grp, wt, cpu, mask, rdy, v, r⟩) 43))
      have HT := Lib.hid T
      obtain ⟨bT, hbT⟩ : ∃ bT, bT = wr.heap.size := ⟨_, rfl⟩
      have hTR : bT ≠ bR := by have := HRW.out.lt; omega
      rw [← hbT] at HT
      rw [← hbT]
      clear c0 c1 c2 c3 c4 c5 c6 c7 T HX HRW HK hbT hbl
      dsimp only [tkc] at HX2 HRW2 HK2
      generalize wr.alloc _ = wA at *
      obtain ⟨x0, x1, x2, xl⟩ := HX2.out
      obtain ⟨c0, c1, c2, c3, c4, c5, c6, c7, hbl⟩ := HT.out
      simp only [Nat.zero_add] at c0 c1 c2 c3 c4 c5 c6 c7
      have hS := fun w => HRT w last ⟨id, grp, wt, cpu, mask, rdy, v, r⟩ hok
      clear HRT
      go_wp2_with fail
      (with_reducible refine (hS _).out.mono ?_)
      clear x0 x1 x2 xl c0 c1 c2 c3 c4 c5 c6 c7 hbl hS
      rintro e wB ⟨rfl, hg⟩
      have HX3 := Lib.hid (HX2.out.kp hg.kp)
      have HT3 := Lib.hid (HT.out.kp hg.kp)
      have HRW3 := Lib.hid (HRW2.out.kp hg.kp)
      have HK3 := Lib.hid (HK2.out.trans (hg.kp.mono HK2.out.size))
      clear hg HX2 HT HRW2 HK2
      cases hrt : rightT (lb : Int) last ⟨id, grp, wt, cpu, mask, rdy, v, r⟩
      · go_wp2_with fail
        go_ret
        refine ⟨by rw [HR.out]; unfold rightsT; rw [hrt]; rfl, HK3.out⟩
      · obtain ⟨p0, p1, _⟩ := rightT_cpu hrt
        dsimp only at p0 p1
        have HR2 : Hid (R = (rightsT lb id (ts.drop (j + 1)) && (List.range cur.length).all fun c => cur.getD c 0 == 0 || runsB cur ts c)) := Lib.hid (by
          have := HR.out
          unfold rightsT at this
          rw [hrt, Bool.true_and] at this
          exact this)
        clear HR hrt
        obtain ⟨q, rfl⟩ : ∃ q : Nat, cpu = (q : Int) := ⟨cpu.toNat, by omega⟩
        have hqlb : q < lb := by omega
        obtain ⟨bB, offB, rfl, hbB, cB⟩ := HC.out q hqlb
        replace cB := (HK3.out.cell (p := ⟨bB, offB + q, none⟩) hbB).trans cB
        obtain ⟨x0, x1, x2, xl⟩ := HX3.out
        obtain ⟨c0, c1, c2, c3, c4, c5, c6, c7, hbl⟩ := HT3.out
        simp only [Nat.zero_add] at c0 c1 c2 c3 c4 c5 c6 c7
        have hrc := HRW3.out.cells q hqlb
        have hrf := HRW3.out.fz q
        have hrl := HRW3.out.lt
        have HU := fun c => Lib.hid (runsB_snoc cur (ts.take j) ⟨id, grp, wt, (q : Int), mask, rdy, v, r⟩ c)
        dsimp only at HU
        rw [Int.toNat_natCast] at HU
        obtain ⟨z, hz⟩ : ∃ z, z = cur.getD q 0 := ⟨_, rfl⟩
        rw [← hz] at cB HU
        clear hz
        have hidz : (z == id) = true ∨ (z == id) = false := by cases (z == id) <;> simp
        cases rdy
        · go_wp2_with fail
          all_goals (try go_region)
          all_goals go_wp2_with fail
          all_goals
            go_roundw
            case rel => exact ⟨j + 1, id, by omega, by go_num, rfl, HX3.out.drew, (HRW3.out.congr (g := fun c => .bool (runsB cur (ts.take (j + 1)) c)) (fun c _ => by rw [HTK.out, (HU c).out]; simp)).kp ((Kp.refl _ _).drewN 1), HR2.out, HK3.out.drew⟩
            case measure => simp [intOf]; omega
        · rcases hidz with hidz | hidz
          · go_wp2_with fail
            all_goals (try go_region)
            all_goals go_wp2_with fail
            all_goals
              go_roundw
              case rel => exact ⟨j + 1, id, by omega, by go_num, rfl, (HX3.out.far (p := ⟨bR, q, none⟩) hne.symm _).drew, ((HRW3.out.set hqlb (.bool true)).congr (g := fun c => .bool (runsB cur (ts.take (j + 1)) c)) (fun c _ => by
                rw [HTK.out, (HU c).out, hidz]
                by_cases e : c = q
                · subst e; simp
                · have : (q == c) = false := beq_eq_false_iff_ne.2 (fun h => e h.symm)
                  simp [e, this])).kp ((Kp.refl _ _).drewN 1), HR2.out, (HK3.out.setCell (p := ⟨bR, q, none⟩) hbR _).drew⟩
              case measure => simp [intOf]; omega
          · go_wp2_with fail
            all_goals (try go_region)
            all_goals go_wp2_with fail
            all_goals
              go_roundw
              case rel => exact ⟨j + 1, id, by omega, by go_num, rfl, HX3.out.drew, (HRW3.out.congr (g := fun c => .bool (runsB cur (ts.take (j + 1)) c)) (fun c _ => by rw [HTK.out, (HU c).out, hidz]; simp)).kp ((Kp.refl _ _).drewN 1), HR2.out, HK3.out.drew⟩
              case measure => simp [intOf]; omega
    · have hje : j = la := by omega
      subst hje
      have hjn : ¬ ((j : Int) < (j : Int)) := by omega
      have hd : ts.drop j = [] := List.drop_eq_nil_of_le (by rw [HLA.out]; exact Nat.le_refl _)
      have htk : ts.take j = ts := List.take_of_length_le (by rw [HLA.out]; exact Nat.le_refl _)
      rw [htk] at hrw
      have hr2 : R = (List.range lb).all fun c => cur.getD c 0 == 0 || runsB cur ts c := by
        rw [hr, hd, HLB.out]
        rfl
      have HR := Lib.hid hr2
      have HRW := Lib.hid hrw
      have HX := Lib.hid hx
      have HK := Lib.hid hk
      have x2 := hx.c2
      have xl := hx.lt
      clear hr hr2 hrw hx hk hd htk hlt HRT HT HOK HLA
      go_wp2_with fail
      clear x2 xl
      go_loopw [63] (fun i w => ∃ k : Nat, k ≤ lb ∧ i = .int .i64 (k : Int) ∧ (∀ c, c < k → (cur.getD c 0 == 0 || runsB cur ts c) = true) ∧ KpS wr w) (fun i _ => lb - (intOf i).toNat)
      case atStart => exact ⟨0, Nat.zero_le _, rfl, fun c h => absurd h (Nat.not_lt_zero c), KpS.refl _⟩
      case round =>
        obtain ⟨k, hk, rfl, hall, hkp⟩ := hrel
        by_cases hlk : k < lb
        · have hki : (k : Int) < lb := by omega
          obtain ⟨bB, offB, rfl, hbB, cB⟩ := HC.out k hlk
          replace cB := ((HK.out.trans (hkp.kp.mono HK.out.size)).cell (p := ⟨bB, offB + k, none⟩) hbB).trans cB
          have HRW2 := HRW.out.kp hkp.kp
          have hrc := HRW2.cells k hlk
          have hrl := HRW2.lt
          have HK2 := Lib.hid hkp
          have HA := Lib.hid hall
          have hz : ∃ z, z = cur.getD k 0 := ⟨_, rfl⟩
          obtain ⟨z, hz⟩ := hz
          rw [← hz] at cB
          obtain ⟨u, hu⟩ : ∃ u, u = runsB cur ts k := ⟨_, rfl⟩
          rw [← hu] at hrc
          have HZ := Lib.hid hz
          have HUU := Lib.hid hu
          clear hz hu hall hkp HRW2
          by_cases hz0 : z = 0
          · subst hz0
            go_wp2_with fail
            go_roundw
            case rel =>
              refine ⟨k + 1, by omega, by go_num, fun c hc => ?_, HK2.out⟩
              rcases Nat.lt_or_ge c k with h | h
              · exact HA.out c h
              · have : c = k := by omega
                subst this
                rw [← HZ.out]
                rfl
            case measure => simp [intOf]; omega
          · have hz1 : (z == 0) = false := beq_eq_false_iff_ne.2 hz0
            have hz2 : (z != 0) = true := bne_iff_ne.2 hz0
            cases u
            · go_wp2_with fail
              go_ret
              refine ⟨?_, HK.out.trans (HK2.out.kp.mono HK.out.size)⟩
              refine retB ?_
              rw [HR.out]
              symm
              rw [List.all_eq_false]
              exact ⟨k, List.mem_range.2 hlk, by rw [← HZ.out, ← HUU.out, hz1]; decide⟩
            · go_wp2_with fail
              go_roundw
              case rel =>
                refine ⟨k + 1, by omega, by go_num, fun c hc => ?_, HK2.out⟩
                rcases Nat.lt_or_ge c k with h | h
                · exact HA.out c h
                · have : c = k := by omega
                  subst this
                  rw [← HUU.out]
                  simp
              case measure => simp [intOf]; omega
        · have hke : k = lb := by omega
          subst hke
          have hkn : ¬ ((k : Int) < (k : Int)) := by omega
          have HA := Lib.hid hall
          have HK2 := Lib.hid hkp
          clear hall hkp
          go_wp2_with fail
          go_ret
          refine ⟨?_, HK.out.trans (HK2.out.kp.mono HK.out.size)⟩
          refine retB ?_
          rw [HR.out]
          symm
          exact List.all_eq_true.2 fun c hc => HA.out c (List.mem_range.1 hc)
end Go.Proofs.Yticgdfbknaholaa
