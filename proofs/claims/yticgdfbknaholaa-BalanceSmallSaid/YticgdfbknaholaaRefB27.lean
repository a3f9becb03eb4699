/-
  The reference's Right: whether a scene is right.
-/
import Derived.Test.YticgdfbknaholaaRefA27
import Derived.Test.YticgdfbknaholaaMovesV27
import Derived.Test.YticgdfbknaholaaWrongV27
namespace Go.Proofs.Yticgdfbknaholaa
open Go.RowKit

theorem rightsT_app {n : Int} : ∀ {a b : List Tk} {l : Int}, rightsT n l (a ++ b) = (rightsT n l a && rightsT n (lastI l a) b)
  | [], b, l => by simp [rightsT, lastI]
  | t :: a, b, l => by
    simp only [List.cons_append, rightsT, lastI]
    rw [rightsT_app, Bool.and_assoc]
theorem lastI_take {ts : List Tk} {l : Int} {i : Nat} (hi : i < ts.length) : lastI l (ts.take (i + 1)) = (ts.getD i t0).id := by
  rw [take_snoc' hi, lastI_snoc]
theorem wrong_at {s : Sc} {i : Nat} (hi : i < s.ts.length) (h : rightT s.n (lastI 0 (s.ts.take i)) (s.ts.getD i t0) = false) : rightS s = false := by
  have e : s.ts = s.ts.take i ++ s.ts.getD i t0 :: s.ts.drop (i + 1) := by
    rw [← drop_cons' hi, List.take_append_drop]
  have h2 : rightsT s.n 0 s.ts = false := by
    rw [e, rightsT_app]
    simp only [rightsT, h, Bool.false_and, Bool.and_false]
  unfold rightS
  rw [h2]
  simp
theorem wrap_id {x : Int} (h0 : 0 ≤ x) (h1 : x ≤ 9000000000000000000) : IntKind.i64.wrap x = x := by
  unfold IntKind.wrap
  simp [IntKind.bits, IntKind.signed]
  omega
/-- No bit of a mask from a CPU on. -/
theorem mask_bits {m : Int} (m0 : 0 ≤ m) (m1 : m ≤ 18446744073709551615) {n : Nat} (_hn : n ≤ 64) (h : ∀ c : Nat, n ≤ c → c < 64 → hasB m (c : Int) = false) : m / 2 ^ n = 0 := by
  obtain ⟨M, rfl⟩ : ∃ M : Nat, m = (M : Int) := ⟨m.toNat, by omega⟩
  have hz : M / 2 ^ n = 0 := by
    apply Nat.eq_of_testBit_eq
    intro i
    rw [Nat.zero_testBit, Nat.testBit_div_two_pow]
    by_cases hi : n + i < 64
    · have := h (n + i) (by omega) hi
      unfold hasB at this
      rw [Int.toNat_natCast, beq_eq_false_iff_ne] at this
      rw [Nat.add_comm, Nat.testBit_eq_decide_div_mod_eq, decide_eq_false_iff_not]
      intro e
      apply this
      have e2 := congrArg (fun x : Nat => (x : Int)) e
      simpa using e2
    · rw [Nat.testBit_lt_two_pow (Nat.lt_of_lt_of_le (show M < 2 ^ 64 by omega) (Nat.pow_le_pow_right (by decide) (by omega)))]
  have h2 := congrArg (fun x : Nat => (x : Int)) hz
  simpa using h2
theorem bits_mask {m : Int} {n c : Nat} (hc : n ≤ c) (h : m / 2 ^ n = 0) (m0 : 0 ≤ m) : hasB m (c : Int) = false := by
  unfold hasB
  rw [Int.toNat_natCast]
  have hlt : m < 2 ^ n := by
    rcases Int.lt_or_le m (2 ^ n) with h1 | h1
    · exact h1
    · have h2 : 1 ≤ m / 2 ^ n := by
        have := Int.ediv_le_ediv (Int.pow_pos (by decide) : (0 : Int) < 2 ^ n) h1
        rwa [Int.ediv_self (by have : (0 : Int) < 2 ^ n := Int.pow_pos (by decide); omega)] at this
      omega
  have hle : (2 : Int) ^ n ≤ 2 ^ c := by
    have h3 := Int.ofNat_le.2 (Nat.pow_le_pow_right (n := 2) (by decide) hc)
    simpa using h3
  rw [Int.ediv_eq_zero_of_lt m0 (by omega)]
  rfl
/-- Who runs, by the task's index. -/
theorem runs_find {s : Sc} (hr : rightsT s.n 0 s.ts = true) {c : Nat} :
    runsB s.cur s.ts c = true ↔ idxT s.ts (s.cur.getD c 0) < s.ts.length ∧ (s.ts.getD (idxT s.ts (s.cur.getD c 0)) t0).rdy = true ∧ (s.ts.getD (idxT s.ts (s.cur.getD c 0)) t0).cpu = (c : Int) := by
  have hfit := rightsT_fit (Int.le_refl 0) hr
  have hinj := rightsT_inj hr
  constructor
  · intro h
    obtain ⟨t, ht, h1⟩ := List.any_eq_true.1 h
    simp only [Bool.and_eq_true, beq_iff_eq] at h1
    obtain ⟨⟨h2, h3⟩, h4⟩ := h1
    obtain ⟨j, hj, hjt⟩ := mem_getD ht
    have hf := hfit t ht
    rw [h3] at h4
    have hix : idxT s.ts (s.cur.getD c 0) = j := by
      refine idxT_at hj (by rw [hjt, h4]) (fun k hk e => ?_)
      have := hinj k j (by omega) hj (by rw [e, hjt, h4])
      omega
    rw [hix, hjt]
    exact ⟨hj, h2, by have := hf.cpu0; omega⟩
  · rintro ⟨h1, h2, h3⟩
    refine List.any_eq_true.2 ⟨s.ts.getD (idxT s.ts (s.cur.getD c 0)) t0, getD_mem' h1, ?_⟩
    have hid : (s.ts.getD (idxT s.ts (s.cur.getD c 0)) t0).id = s.cur.getD c 0 := by
      have := List.findIdx_getElem (p := fun t : Tk => t.id == s.cur.getD c 0) (w := h1)
      rw [List.getD_eq_getElem?_getD, List.getElem?_eq_getElem h1]
      exact beq_iff_eq.1 this
    rw [h3, h2, hid, Int.toNat_natCast]
    simp
theorem wrong_run {s : Sc} {c : Nat} (hc : c < s.cur.length) (hz : s.cur.getD c 0 ≠ 0) (h : runsB s.cur s.ts c = false) : rightS s = false := by
  cases hr : rightS s with
  | false => rfl
  | true =>
    rcases ((rightS_iff s).1 hr).run c hc with h1 | h1
    · exact absurd h1 hz
    · rw [h] at h1; cases h1
set_option maxRecDepth 100000 in
set_option maxHeartbeats 8000000 in
theorem refRight_any (W : World) {A B : Option Addr} {la ca lb cb : Nat} {s : Sc} (h : ScAt W A la B lb s) :
    Calls Try.prog 48 #[.agg #[.int .i64 s.n, .slice A la ca, .slice B lb cb]] W fun e w' => e = .returned (.bool (rightS s)) ∧ Kp W.heap.size W w' := by
  obtain ⟨r, hr⟩ : ∃ r, r = rightS s := ⟨_, rfl⟩
  rw [← hr]
  have HR := Lib.hid hr
  have kk := (Kp.refl W.heap.size W).alloc (Nat.le_refl _) (.cells #[.int .i64 s.n, .slice A la ca, .slice B lb cb] 83)
  have HX := Lib.hid (C3.new W (.int .i64 s.n) (.slice A la ca) (.slice B lb cb) 83)
  have HK := Lib.hid kk
  have HSC := Lib.hid (h.kp kk)
  have hlam := h.lam
  have hlbm := h.lbm
  clear h hr kk
  go_enter Try.func48, Try.ntmps48
  go_upto_region 1 with fail
  generalize W.alloc _ = w1 at *
  obtain ⟨b0, hb0⟩ : ∃ b, b = W.heap.size := ⟨_, rfl⟩
  rw [← hb0] at HX
  rw [← hb0]
  clear hb0
  obtain ⟨n, hn⟩ : ∃ n, n = s.n := ⟨_, rfl⟩
  rw [← hn] at HX
  rw [← hn]
  have HN := Lib.hid hn
  clear hn
  obtain ⟨x0, x1, x2, xl⟩ := HX.out
  by_cases hn1 : n < 1
  · have HF := Lib.hid (HR.out.trans (wrong_n (by rw [← HN.out]; omega)))
    go_wp2_with fail
    go_ret
    exact ⟨by rw [HF.out]; rfl, HK.out⟩
  by_cases hn2 : 64 < n
  · have HF := Lib.hid (HR.out.trans (wrong_n (by rw [← HN.out]; omega)))
    go_wp2_with fail
    go_ret
    exact ⟨by rw [HF.out]; rfl, HK.out⟩
  by_cases hn3 : (lb : Int) = n
  rotate_left
  · have HF := Lib.hid (HR.out.trans (wrong_cur (by rw [HSC.out.hlb, ← HN.out]; exact hn3)))
    have hn3' : ((lb : Int) != n) = true := bne_iff_ne.2 hn3
    clear hn3
    go_wp2_with fail
    go_ret
    exact ⟨by rw [HF.out]; rfl, HK.out⟩
  subst hn3
  have hl64 : lb ≤ 64 := by omega
  have hl1 : 1 ≤ lb := by omega
  go_wp2_with fail
  clear x0 x1 x2 xl
  go_loopw [3] (fun i wr => ∃ j : Nat, j ≤ la ∧ i = .int .i64 (j : Int) ∧ rightsT lb 0 (s.ts.take j) = true ∧ Kp w1.heap.size w1 wr) (fun i _ => la - (intOf i).toNat)
  case atStart => exact ⟨0, Nat.zero_le _, rfl, rfl, Kp.refl _ _⟩
  case round =>
    obtain ⟨j, hj, rfl, hrt, hk⟩ := hrel
    have HRT := Lib.hid hrt
    have HJ := Lib.hid hk
    clear hrt hk
    have HXr := HX.out.kp HJ.out
    obtain ⟨x0, x1, x2, xl⟩ := HXr
    by_cases hlt : j < la
    · have hji : (j : Int) < (la : Int) := by omega
      have hjt : j < s.ts.length := by rw [HSC.out.hla]; exact hlt
      have hok := HSC.out.ok (s.ts.getD j t0) (getD_mem' hjt)
      obtain ⟨b, off, rfl, T⟩ := (HSC.out.kp HJ.out).ts j hlt
      have hWR := Lib.hid (fun h => wrong_at (s := s) hjt h)
      rw [← HN.out] at hWR
      have hST := Lib.hid (show rightT lb (lastI 0 (s.ts.take j)) (s.ts.getD j t0) = true → rightsT lb 0 (s.ts.take (j + 1)) = true from fun h => by
        rw [take_snoc' hjt]
        exact rightsT_snoc HRT.out h)
      have hPV := Lib.hid (show 0 < j → ∃ p, (s.ts.getD (j - 1) t0).id = p ∧ lastI 0 (s.ts.take j) = p ∧ 1 ≤ p from fun h0 => by
        have e := lastI_take (l := 0) (ts := s.ts) (i := j - 1) (by omega)
        rw [show j - 1 + 1 = j by omega] at e
        have h1 : s.ts.getD (j - 1) t0 ∈ s.ts.take j := by
          rw [show j = (j - 1) + 1 by omega, take_snoc' (by omega)]
          simp
        exact ⟨_, rfl, e, (rightsT_fit (Int.le_refl 0) HRT.out _ h1).id0⟩)
      have hZ0 := Lib.hid (show j = 0 → lastI 0 (s.ts.take j) = 0 from fun h => by rw [h]; rfl)
      generalize s.ts.getD j t0 = t at *
      generalize hlast : lastI 0 (s.ts.take j) = last at *
      clear hlast
      have hl0 : 0 ≤ last := by
        rcases Nat.eq_zero_or_pos j with h4 | h4
        · rw [hZ0.out h4]; exact Int.le_refl _
        · obtain ⟨p, _, h5, h6⟩ := hPV.out h4; omega
      obtain ⟨id, grp, wt, cpu, mask, rdy, v, r'⟩ := t
      have m0 := hok.mask0
      have m1 := hok.mask1
      dsimp only at m0 m1
      obtain ⟨c0, c1, c2, c3, c4, c5, c6, c7, cl⟩ := T
      dsimp only at c0 c1 c2 c3 c4 c5 c6 c7
      go_upto_region 7 with fail
      have kk : Kp wr.heap.size wr (wr.alloc (.cells (tkc ⟨id, grp, wt, cpu, mask, rdy, v, r'⟩) 43)) := (Kp.refl _ _).alloc (Nat.le_refl _) _
      have HT := Lib.hid (TkAt.new wr ⟨id, grp, wt, cpu, mask, rdy, v, r'⟩ 43)
      have HXS := Lib.hid (HX.out.kp (HJ.out.trans (kk.mono HJ.out.size)))
      have HJ2 := Lib.hid (HJ.out.trans (kk.mono HJ.out.size))
      obtain ⟨bT, hbT⟩ : ∃ b, b = wr.heap.size := ⟨_, rfl⟩
      rw [← hbT] at HT
      rw [← hbT]
      dsimp only [tkc] at HT HXS HJ2
      clear c0 c1 c2 c3 c4 c5 c6 c7 cl x0 x1 x2 xl kk hbT HJ
      generalize wr.alloc _ = w2 at *
      obtain ⟨c0, c1, c2, c3, c4, c5, c6, c7, cl⟩ := HT.out
      simp only [Nat.zero_add] at c0 c1 c2 c3 c4 c5 c6 c7
      obtain ⟨x0, x1, x2, xl⟩ := HXS.out
      have HMY := fun (c : Nat) (hc : c ≤ 64) w => Lib.hid (may_any w (t := ⟨id, grp, wt, cpu, mask, rdy, v, r'⟩) (c := c) m0 m1 hc)
      dsimp only [tkv] at HMY
      have FAIL := fun h => Lib.hid (HR.out.trans (hWR.out h))
      have hw0 : lb ≤ 64 := hl64
      by_cases h1 : id < 1
      · have HF := FAIL (right_f (Or.inl (by dsimp only; omega)))
        go_quiet (fail)
        go_wp2_with fail
        go_ret
        exact ⟨by rw [HF.out]; rfl, (HK.out.trans (HJ2.out.mono HK.out.size)).drewN _⟩
      by_cases h2 : 65535 < id
      · have HF := FAIL (right_f (Or.inr (Or.inl h2)))
        go_quiet (fail)
        go_wp2_with fail
        go_ret
        exact ⟨by rw [HF.out]; rfl, (HK.out.trans (HJ2.out.mono HK.out.size)).drewN _⟩
      rcases Nat.eq_zero_or_pos j with hj0 | hj0
      · have hlast0 := hZ0.out hj0
        subst hj0
        have hj00 : ¬ ((0 : Int) < 0) := by decide
        by_cases h3 : wt < 1
        · have HF := FAIL (right_f (Or.inr (Or.inr (Or.inl h3))))
          go_quiet (fail)
          go_wp2_with fail
          go_ret
          exact ⟨by rw [HF.out]; rfl, (HK.out.trans (HJ2.out.mono HK.out.size)).drewN _⟩
        by_cases h4 : 65536 < wt
        · have HF := FAIL (right_f (Or.inr (Or.inr (Or.inr (Or.inl h4)))))
          go_quiet (fail)
          go_wp2_with fail
          go_ret
          exact ⟨by rw [HF.out]; rfl, (HK.out.trans (HJ2.out.mono HK.out.size)).drewN _⟩
        by_cases h5 : cpu < 0
        · have HF := FAIL (right_f (Or.inr (Or.inr (Or.inr (Or.inr (Or.inl h5))))))
          go_quiet (fail)
          go_wp2_with fail
          go_ret
          exact ⟨by rw [HF.out]; rfl, (HK.out.trans (HJ2.out.mono HK.out.size)).drewN _⟩
        by_cases h6 : (lb : Int) ≤ cpu
        · have HF := FAIL (right_f (Or.inr (Or.inr (Or.inr (Or.inr (Or.inr h6))))))
          go_quiet (fail)
          go_wp2_with fail
          go_ret
          exact ⟨by rw [HF.out]; rfl, (HK.out.trans (HJ2.out.mono HK.out.size)).drewN _⟩
        obtain ⟨p, rfl⟩ : ∃ p : Nat, cpu = (p : Int) := ⟨cpu.toNat, by omega⟩
        have hp64 : p ≤ 64 := by omega
        clear c0 c1 c2 c3 c4 c5 c6 c7 cl x0 x1 x2 xl
        have HC := fun w => HMY p hp64 w
        cases hb : hasB mask (p : Int)
        · rw [hb] at HC
          have HF := FAIL (by unfold rightT; dsimp only; rw [hb]; simp)
          refine wp_region_noPanic ?_
          refine wp_region_anyN (fun w' => w'.cell? ⟨bT, 0, none⟩ = some (.int .i64 id) ∧ w'.cell? ⟨bT, 1, none⟩ = some (.int .i64 grp) ∧ w'.cell? ⟨bT, 2, none⟩ = some (.int .i64 wt) ∧ w'.cell? ⟨bT, 3, none⟩ = some (.int .i64 (p : Int)) ∧ w'.cell? ⟨bT, 4, none⟩ = some (.int .u64 mask) ∧ w'.cell? ⟨bT, 5, none⟩ = some (.bool rdy) ∧ w'.cell? ⟨bT, 6, none⟩ = some (.int .u64 v) ∧ w'.cell? ⟨bT, 7, none⟩ = some (.int .u32 r') ∧ w'.cell? ⟨b0, 0, none⟩ = some (.int .i64 (lb : Int)) ∧ w'.cell? ⟨b0, 1, none⟩ = some (.slice (some ⟨b, off, none⟩) la ca)) 53 (by kernel_rfl) ?_
          have kd : Kp w2.heap.size w2 w2.drew := (Kp.refl _ _).drewN 1
          replace HT := Lib.hid (HT.out.kp kd)
          replace HXS := Lib.hid (HXS.out.kp kd)
          replace HJ2 := Lib.hid (HJ2.out.trans (kd.mono HJ2.out.size))
          clear kd
          generalize w2.drew = wz1 at *
          have hS : wz1.cell? ⟨bT, 0, none⟩ = some (.int .i64 id) ∧ wz1.cell? ⟨bT, 1, none⟩ = some (.int .i64 grp) ∧ wz1.cell? ⟨bT, 2, none⟩ = some (.int .i64 wt) ∧ wz1.cell? ⟨bT, 3, none⟩ = some (.int .i64 (p : Int)) ∧ wz1.cell? ⟨bT, 4, none⟩ = some (.int .u64 mask) ∧ wz1.cell? ⟨bT, 5, none⟩ = some (.bool rdy) ∧ wz1.cell? ⟨bT, 6, none⟩ = some (.int .u64 v) ∧ wz1.cell? ⟨bT, 7, none⟩ = some (.int .u32 r') ∧ wz1.cell? ⟨b0, 0, none⟩ = some (.int .i64 (lb : Int)) ∧ wz1.cell? ⟨b0, 1, none⟩ = some (.slice (some ⟨b, off, none⟩) la ca) := ⟨HT.out.c0, HT.out.c1, HT.out.c2, HT.out.c3, HT.out.c4, HT.out.c5, HT.out.c6, HT.out.c7, HXS.out.c0, HXS.out.c1⟩
          refine anyN_takeR 0 (v := ?_) rfl (by kernel_rfl) (by kernel_rfl) (by kernel_rfl) (by kernel_rfl) (fun _ _ _ h => h) (Or.inl ⟨by rfl, ?_⟩) hS ?_
          rotate_left
          · intro w hSw
            obtain ⟨_, _, _, _, _, _, _, _, _, _⟩ := hSw
            go_simp
            try with_reducible rfl
          simp only [Act.put, List.setIfInBounds_toArray, List.set_cons_zero, List.set_cons_succ]
          refine anyN_takeR 1 (v := ?_) rfl (by kernel_rfl) (by kernel_rfl) (by kernel_rfl) (by kernel_rfl) (fun _ _ _ h => h) (Or.inl ⟨by rfl, ?_⟩) hS ?_
          rotate_left
          · intro w hSw
            obtain ⟨_, _, _, _, _, _, _, _, _, _⟩ := hSw
            go_simp
            try with_reducible rfl
          simp only [Act.put, List.setIfInBounds_toArray, List.set_cons_zero, List.set_cons_succ]
          refine anyN_takeR 2 (v := ?_) rfl (by kernel_rfl) (by kernel_rfl) (by kernel_rfl) (by kernel_rfl) (fun _ _ _ h => h) (Or.inl ⟨by rfl, ?_⟩) hS ?_
          rotate_left
          · intro w hSw
            obtain ⟨_, _, _, _, _, _, _, _, _, _⟩ := hSw
            go_simp
            try with_reducible rfl
          simp only [Act.put, List.setIfInBounds_toArray, List.set_cons_zero, List.set_cons_succ]
          refine anyN_takeR 3 (v := ?_) rfl (by kernel_rfl) (by kernel_rfl) (by kernel_rfl) (by kernel_rfl) (fun _ _ _ h => h) (Or.inl ⟨by rfl, ?_⟩) hS ?_
          rotate_left
          · intro w hSw
            obtain ⟨_, _, _, _, _, _, _, _, _, _⟩ := hSw
            go_simp
            try with_reducible rfl
          simp only [Act.put, List.setIfInBounds_toArray, List.set_cons_zero, List.set_cons_succ]
          refine anyN_takeR 4 (v := ?_) rfl (by kernel_rfl) (by kernel_rfl) (by kernel_rfl) (by kernel_rfl) (fun _ _ _ h => h) (Or.inl ⟨by rfl, ?_⟩) hS ?_
          rotate_left
          · intro w hSw
            obtain ⟨_, _, _, _, _, _, _, _, _, _⟩ := hSw
            go_simp
            try with_reducible rfl
          simp only [Act.put, List.setIfInBounds_toArray, List.set_cons_zero, List.set_cons_succ]
          refine anyN_takeR 5 (v := ?_) rfl (by kernel_rfl) (by kernel_rfl) (by kernel_rfl) (by kernel_rfl) (fun _ _ _ h => h) (Or.inl ⟨by rfl, ?_⟩) hS ?_
          rotate_left
          · intro w hSw
            obtain ⟨_, _, _, _, _, _, _, _, _, _⟩ := hSw
            go_simp
            try with_reducible rfl
          simp only [Act.put, List.setIfInBounds_toArray, List.set_cons_zero, List.set_cons_succ]
          refine anyN_takeR 6 (v := ?_) rfl (by kernel_rfl) (by kernel_rfl) (by kernel_rfl) (by kernel_rfl) (fun _ _ _ h => h) (Or.inl ⟨by rfl, ?_⟩) hS ?_
          rotate_left
          · intro w hSw
            obtain ⟨_, _, _, _, _, _, _, _, _, _⟩ := hSw
            go_simp
            try with_reducible rfl
          simp only [Act.put, List.setIfInBounds_toArray, List.set_cons_zero, List.set_cons_succ]
          refine anyN_takeR 7 (v := ?_) rfl (by kernel_rfl) (by kernel_rfl) (by kernel_rfl) (by kernel_rfl) (fun _ _ _ h => h) (Or.inl ⟨by rfl, ?_⟩) hS ?_
          rotate_left
          · intro w hSw
            obtain ⟨_, _, _, _, _, _, _, _, _, _⟩ := hSw
            go_simp
            try with_reducible rfl
          simp only [Act.put, List.setIfInBounds_toArray, List.set_cons_zero, List.set_cons_succ]
          refine anyN_takeR 8 (v := ?_) rfl (by kernel_rfl) (by kernel_rfl) (by kernel_rfl) (by kernel_rfl) (fun _ _ _ h => h) (Or.inl ⟨by rfl, ?_⟩) hS ?_
          rotate_left
          · intro w hSw
            obtain ⟨_, _, _, _, _, _, _, _, _, _⟩ := hSw
            go_simp
            try with_reducible rfl
          simp only [Act.put, List.setIfInBounds_toArray, List.set_cons_zero, List.set_cons_succ]
          refine anyN_takeR 9 (v := ?_) rfl (by kernel_rfl) (by kernel_rfl) (by kernel_rfl) (by kernel_rfl) (fun _ _ _ h => h) (Or.inl ⟨by rfl, ?_⟩) hS ?_
          rotate_left
          · intro w hSw
            obtain ⟨_, _, _, _, _, _, _, _, _, _⟩ := hSw
            go_simp
            try with_reducible rfl
          simp only [Act.put, List.setIfInBounds_toArray, List.set_cons_zero, List.set_cons_succ]
          refine anyN_takeR 10 (v := ?_) rfl (by kernel_rfl) (by kernel_rfl) (by kernel_rfl) (by kernel_rfl) (fun _ _ _ h => h) (Or.inl ⟨by rfl, ?_⟩) hS ?_
          rotate_left
          · intro w hSw
            obtain ⟨_, _, _, _, _, _, _, _, _, _⟩ := hSw
            go_simp
            try with_reducible rfl
          simp only [Act.put, List.setIfInBounds_toArray, List.set_cons_zero, List.set_cons_succ]
          refine anyN_takeR 11 (v := ?_) rfl (by kernel_rfl) (by kernel_rfl) (by kernel_rfl) (by kernel_rfl) (fun _ _ _ h => h) (Or.inl ⟨by rfl, ?_⟩) hS ?_
          rotate_left
          · intro w hSw
            obtain ⟨_, _, _, _, _, _, _, _, _, _⟩ := hSw
            go_simp
            try with_reducible rfl
          simp only [Act.put, List.setIfInBounds_toArray, List.set_cons_zero, List.set_cons_succ]
          refine anyN_takeR 12 (v := undef) rfl (by kernel_rfl) (by kernel_rfl) (by kernel_rfl) (by kernel_rfl) (fun _ _ _ h => h) (Or.inr ⟨by rfl, rfl⟩) hS ?_
          simp only [Act.put, List.setIfInBounds_toArray, List.set_cons_zero, List.set_cons_succ]
          refine anyN_takeR 13 (v := undef) rfl (by kernel_rfl) (by kernel_rfl) (by kernel_rfl) (by kernel_rfl) (fun _ _ _ h => h) (Or.inr ⟨by rfl, rfl⟩) hS ?_
          simp only [Act.put, List.setIfInBounds_toArray, List.set_cons_zero, List.set_cons_succ]
          refine anyN_takeR 14 (v := undef) rfl (by kernel_rfl) (by kernel_rfl) (by kernel_rfl) (by kernel_rfl) (fun _ _ _ h => h) (Or.inr ⟨by rfl, rfl⟩) hS ?_
          simp only [Act.put, List.setIfInBounds_toArray, List.set_cons_zero, List.set_cons_succ]
          refine anyN_takeR 15 (v := undef) rfl (by kernel_rfl) (by kernel_rfl) (by kernel_rfl) (by kernel_rfl) (fun _ _ _ h => h) (Or.inr ⟨by rfl, rfl⟩) hS ?_
          simp only [Act.put, List.setIfInBounds_toArray, List.set_cons_zero, List.set_cons_succ]
          refine anyN_takeR 16 (v := undef) rfl (by kernel_rfl) (by kernel_rfl) (by kernel_rfl) (by kernel_rfl) (fun _ _ _ h => h) (Or.inr ⟨by rfl, rfl⟩) hS ?_
          simp only [Act.put, List.setIfInBounds_toArray, List.set_cons_zero, List.set_cons_succ]
          refine anyN_takeR 17 (v := undef) rfl (by kernel_rfl) (by kernel_rfl) (by kernel_rfl) (by kernel_rfl) (fun _ _ _ h => h) (Or.inr ⟨by rfl, rfl⟩) hS ?_
          simp only [Act.put, List.setIfInBounds_toArray, List.set_cons_zero, List.set_cons_succ]
          refine anyN_takeR 18 (v := undef) rfl (by kernel_rfl) (by kernel_rfl) (by kernel_rfl) (by kernel_rfl) (fun _ _ _ h => h) (Or.inr ⟨by rfl, rfl⟩) hS ?_
          simp only [Act.put, List.setIfInBounds_toArray, List.set_cons_zero, List.set_cons_succ]
          refine anyN_takeR 19 (v := undef) rfl (by kernel_rfl) (by kernel_rfl) (by kernel_rfl) (by kernel_rfl) (fun _ _ _ h => h) (Or.inr ⟨by rfl, rfl⟩) hS ?_
          simp only [Act.put, List.setIfInBounds_toArray, List.set_cons_zero, List.set_cons_succ]
          refine anyN_takeR 20 (v := undef) rfl (by kernel_rfl) (by kernel_rfl) (by kernel_rfl) (by kernel_rfl) (fun _ _ _ h => h) (Or.inr ⟨by rfl, rfl⟩) hS ?_
          simp only [Act.put, List.setIfInBounds_toArray, List.set_cons_zero, List.set_cons_succ]
          refine anyN_takeR 21 (v := undef) rfl (by kernel_rfl) (by kernel_rfl) (by kernel_rfl) (by kernel_rfl) (fun _ _ _ h => h) (Or.inr ⟨by rfl, rfl⟩) hS ?_
          simp only [Act.put, List.setIfInBounds_toArray, List.set_cons_zero, List.set_cons_succ]
          refine anyN_takeR 22 (v := ?_) rfl (by kernel_rfl) (by kernel_rfl) (by kernel_rfl) (by kernel_rfl) (fun _ _ _ h => h) (Or.inl ⟨by rfl, ?_⟩) hS ?_
          rotate_left
          · intro w hSw
            obtain ⟨_, _, _, _, _, _, _, _, _, _⟩ := hSw
            go_simp
            try with_reducible rfl
          simp only [Act.put, List.setIfInBounds_toArray, List.set_cons_zero, List.set_cons_succ]
          refine anyN_takeR 23 (v := ?_) rfl (by kernel_rfl) (by kernel_rfl) (by kernel_rfl) (by kernel_rfl) (fun _ _ _ h => h) (Or.inl ⟨by rfl, ?_⟩) hS ?_
          rotate_left
          · intro w hSw
            obtain ⟨_, _, _, _, _, _, _, _, _, _⟩ := hSw
            go_simp
            try with_reducible rfl
          simp only [Act.put, List.setIfInBounds_toArray, List.set_cons_zero, List.set_cons_succ]
          refine anyN_takeR 24 (v := ?_) rfl (by kernel_rfl) (by kernel_rfl) (by kernel_rfl) (by kernel_rfl) (fun _ _ _ h => h) (Or.inl ⟨by rfl, ?_⟩) hS ?_
          rotate_left
          · intro w hSw
            obtain ⟨_, _, _, _, _, _, _, _, _, _⟩ := hSw
            go_simp
            try with_reducible rfl
          simp only [Act.put, List.setIfInBounds_toArray, List.set_cons_zero, List.set_cons_succ]
          refine anyN_takeR 25 (v := ?_) rfl (by kernel_rfl) (by kernel_rfl) (by kernel_rfl) (by kernel_rfl) (fun _ _ _ h => h) (Or.inl ⟨by rfl, ?_⟩) hS ?_
          rotate_left
          · intro w hSw
            obtain ⟨_, _, _, _, _, _, _, _, _, _⟩ := hSw
            go_simp
            try with_reducible rfl
          simp only [Act.put, List.setIfInBounds_toArray, List.set_cons_zero, List.set_cons_succ]
          refine anyN_takeR 26 (v := ?_) rfl (by kernel_rfl) (by kernel_rfl) (by kernel_rfl) (by kernel_rfl) (fun _ _ _ h => h) (Or.inl ⟨by rfl, ?_⟩) hS ?_
          rotate_left
          · intro w hSw
            obtain ⟨_, _, _, _, _, _, _, _, _, _⟩ := hSw
            go_simp
            try with_reducible rfl
          simp only [Act.put, List.setIfInBounds_toArray, List.set_cons_zero, List.set_cons_succ]
          refine anyN_takeR 27 (v := ?_) rfl (by kernel_rfl) (by kernel_rfl) (by kernel_rfl) (by kernel_rfl) (fun _ _ _ h => h) (Or.inl ⟨by rfl, ?_⟩) hS ?_
          rotate_left
          · intro w hSw
            obtain ⟨_, _, _, _, _, _, _, _, _, _⟩ := hSw
            go_simp
            try with_reducible rfl
          simp only [Act.put, List.setIfInBounds_toArray, List.set_cons_zero, List.set_cons_succ]
          refine anyN_takeR 28 (v := ?_) rfl (by kernel_rfl) (by kernel_rfl) (by kernel_rfl) (by kernel_rfl) (fun _ _ _ h => h) (Or.inl ⟨by rfl, ?_⟩) hS ?_
          rotate_left
          · intro w hSw
            obtain ⟨_, _, _, _, _, _, _, _, _, _⟩ := hSw
            go_simp
            try with_reducible rfl
          simp only [Act.put, List.setIfInBounds_toArray, List.set_cons_zero, List.set_cons_succ]
          refine anyN_takeR 29 (v := ?_) rfl (by kernel_rfl) (by kernel_rfl) (by kernel_rfl) (by kernel_rfl) (fun _ _ _ h => h) (Or.inl ⟨by rfl, ?_⟩) hS ?_
          rotate_left
          · intro w hSw
            obtain ⟨_, _, _, _, _, _, _, _, _, _⟩ := hSw
            go_simp
            try with_reducible rfl
          simp only [Act.put, List.setIfInBounds_toArray, List.set_cons_zero, List.set_cons_succ]
          refine anyN_takeR 30 (v := ?_) rfl (by kernel_rfl) (by kernel_rfl) (by kernel_rfl) (by kernel_rfl) (fun _ _ _ h => h) (Or.inl ⟨by rfl, ?_⟩) hS ?_
          rotate_left
          · intro w hSw
            obtain ⟨_, _, _, _, _, _, _, _, _, _⟩ := hSw
            go_simp
            try with_reducible rfl
          simp only [Act.put, List.setIfInBounds_toArray, List.set_cons_zero, List.set_cons_succ]
          refine anyN_takeR 31 (v := ?_) rfl (by kernel_rfl) (by kernel_rfl) (by kernel_rfl) (by kernel_rfl) (fun _ _ _ h => h) (Or.inl ⟨by rfl, ?_⟩) hS ?_
          rotate_left
          · intro w hSw
            obtain ⟨_, _, _, _, _, _, _, _, _, _⟩ := hSw
            go_simp
            try with_reducible rfl
          simp only [Act.put, List.setIfInBounds_toArray, List.set_cons_zero, List.set_cons_succ]
          refine anyN_takeR 32 (v := ?_) rfl (by kernel_rfl) (by kernel_rfl) (by kernel_rfl) (by kernel_rfl) (fun _ _ _ h => h) (Or.inl ⟨by rfl, ?_⟩) hS ?_
          rotate_left
          · intro w hSw
            obtain ⟨_, _, _, _, _, _, _, _, _, _⟩ := hSw
            go_simp
            try with_reducible rfl
          simp only [Act.put, List.setIfInBounds_toArray, List.set_cons_zero, List.set_cons_succ]
          refine anyN_takeR 33 (v := ?_) rfl (by kernel_rfl) (by kernel_rfl) (by kernel_rfl) (by kernel_rfl) (fun _ _ _ h => h) (Or.inl ⟨by rfl, ?_⟩) hS ?_
          rotate_left
          · intro w hSw
            obtain ⟨_, _, _, _, _, _, _, _, _, _⟩ := hSw
            go_simp
            try with_reducible rfl
          simp only [Act.put, List.setIfInBounds_toArray, List.set_cons_zero, List.set_cons_succ]
          refine anyN_takeR 34 (v := ?_) rfl (by kernel_rfl) (by kernel_rfl) (by kernel_rfl) (by kernel_rfl) (fun _ _ _ h => h) (Or.inl ⟨by rfl, ?_⟩) hS ?_
          rotate_left
          · intro w hSw
            obtain ⟨_, _, _, _, _, _, _, _, _, _⟩ := hSw
            go_simp
            try with_reducible rfl
          simp only [Act.put, List.setIfInBounds_toArray, List.set_cons_zero, List.set_cons_succ]
          refine anyN_takeR 35 (v := ?_) rfl (by kernel_rfl) (by kernel_rfl) (by kernel_rfl) (by kernel_rfl) (fun _ _ _ h => h) (Or.inl ⟨by rfl, ?_⟩) hS ?_
          rotate_left
          · intro w hSw
            obtain ⟨_, _, _, _, _, _, _, _, _, _⟩ := hSw
            go_simp
            try with_reducible rfl
          simp only [Act.put, List.setIfInBounds_toArray, List.set_cons_zero, List.set_cons_succ]
          refine anyN_takeR 36 (v := ?_) rfl (by kernel_rfl) (by kernel_rfl) (by kernel_rfl) (by kernel_rfl) (fun _ _ _ h => h) (Or.inl ⟨by rfl, ?_⟩) hS ?_
          rotate_left
          · intro w hSw
            obtain ⟨_, _, _, _, _, _, _, _, _, _⟩ := hSw
            go_simp
            try with_reducible rfl
          simp only [Act.put, List.setIfInBounds_toArray, List.set_cons_zero, List.set_cons_succ]
          refine anyN_takeR 37 (v := ?_) rfl (by kernel_rfl) (by kernel_rfl) (by kernel_rfl) (by kernel_rfl) (fun _ _ _ h => h) (Or.inl ⟨by rfl, ?_⟩) hS ?_
          rotate_left
          · intro w hSw
            obtain ⟨_, _, _, _, _, _, _, _, _, _⟩ := hSw
            go_simp
            try with_reducible rfl
          simp only [Act.put, List.setIfInBounds_toArray, List.set_cons_zero, List.set_cons_succ]
          refine anyN_takeR 38 (v := ?_) rfl (by kernel_rfl) (by kernel_rfl) (by kernel_rfl) (by kernel_rfl) (fun _ _ _ h => h) (Or.inl ⟨by rfl, ?_⟩) hS ?_
          rotate_left
          · intro w hSw
            obtain ⟨_, _, _, _, _, _, _, _, _, _⟩ := hSw
            go_simp
            try with_reducible rfl
          simp only [Act.put, List.setIfInBounds_toArray, List.set_cons_zero, List.set_cons_succ]
          refine anyN_takeR 39 (v := ?_) rfl (by kernel_rfl) (by kernel_rfl) (by kernel_rfl) (by kernel_rfl) (fun _ _ _ h => h) (Or.inl ⟨by rfl, ?_⟩) hS ?_
          rotate_left
          · intro w hSw
            obtain ⟨_, _, _, _, _, _, _, _, _, _⟩ := hSw
            go_simp
            try with_reducible rfl
          simp only [Act.put, List.setIfInBounds_toArray, List.set_cons_zero, List.set_cons_succ]
          refine anyN_takeR 40 (v := ?_) rfl (by kernel_rfl) (by kernel_rfl) (by kernel_rfl) (by kernel_rfl) (fun _ _ _ h => h) (Or.inl ⟨by rfl, ?_⟩) hS ?_
          rotate_left
          · intro w hSw
            obtain ⟨_, _, _, _, _, _, _, _, _, _⟩ := hSw
            go_simp
            try with_reducible rfl
          simp only [Act.put, List.setIfInBounds_toArray, List.set_cons_zero, List.set_cons_succ]
          refine anyN_takeR 41 (v := ?_) rfl (by kernel_rfl) (by kernel_rfl) (by kernel_rfl) (by kernel_rfl) (fun _ _ _ h => h) (Or.inl ⟨by rfl, ?_⟩) hS ?_
          rotate_left
          · intro w hSw
            obtain ⟨_, _, _, _, _, _, _, _, _, _⟩ := hSw
            go_simp
            try with_reducible rfl
          simp only [Act.put, List.setIfInBounds_toArray, List.set_cons_zero, List.set_cons_succ]
          refine anyN_takeR 42 (v := ?_) rfl (by kernel_rfl) (by kernel_rfl) (by kernel_rfl) (by kernel_rfl) (fun _ _ _ h => h) (Or.inl ⟨by rfl, ?_⟩) hS ?_
          rotate_left
          · intro w hSw
            obtain ⟨_, _, _, _, _, _, _, _, _, _⟩ := hSw
            go_simp
            try with_reducible rfl
          simp only [Act.put, List.setIfInBounds_toArray, List.set_cons_zero, List.set_cons_succ]
          refine anyN_takeR 43 (v := ?_) rfl (by kernel_rfl) (by kernel_rfl) (by kernel_rfl) (by kernel_rfl) (fun _ _ _ h => h) (Or.inl ⟨by rfl, ?_⟩) hS ?_
          rotate_left
          · intro w hSw
            obtain ⟨_, _, _, _, _, _, _, _, _, _⟩ := hSw
            go_simp
            try with_reducible rfl
          simp only [Act.put, List.setIfInBounds_toArray, List.set_cons_zero, List.set_cons_succ]
          refine anyN_takeR 44 (v := ?_) rfl (by kernel_rfl) (by kernel_rfl) (by kernel_rfl) (by kernel_rfl) (fun _ _ _ h => h) (Or.inl ⟨by rfl, ?_⟩) hS ?_
          rotate_left
          · intro w hSw
            obtain ⟨_, _, _, _, _, _, _, _, _, _⟩ := hSw
            go_simp
            try with_reducible rfl
          simp only [Act.put, List.setIfInBounds_toArray, List.set_cons_zero, List.set_cons_succ]
          refine anyN_takeR 45 (v := ?_) rfl (by kernel_rfl) (by kernel_rfl) (by kernel_rfl) (by kernel_rfl) (fun _ _ _ h => h) (Or.inl ⟨by rfl, ?_⟩) hS ?_
          rotate_left
          · intro w hSw
            obtain ⟨_, _, _, _, _, _, _, _, _, _⟩ := hSw
            go_simp
            try with_reducible rfl
          simp only [Act.put, List.setIfInBounds_toArray, List.set_cons_zero, List.set_cons_succ]
          refine anyN_takeR 46 (v := ?_) rfl (by kernel_rfl) (by kernel_rfl) (by kernel_rfl) (by kernel_rfl) (fun _ _ _ h => h) (Or.inl ⟨by rfl, ?_⟩) hS ?_
          rotate_left
          · intro w hSw
            obtain ⟨_, _, _, _, _, _, _, _, _, _⟩ := hSw
            go_simp
            try with_reducible rfl
          simp only [Act.put, List.setIfInBounds_toArray, List.set_cons_zero, List.set_cons_succ]
          refine anyN_takeR 47 (v := ?_) rfl (by kernel_rfl) (by kernel_rfl) (by kernel_rfl) (by kernel_rfl) (fun _ _ _ h => h) (Or.inl ⟨by rfl, ?_⟩) hS ?_
          rotate_left
          · intro w hSw
            obtain ⟨_, _, _, _, _, _, _, _, _, _⟩ := hSw
            go_simp
            try with_reducible rfl
          simp only [Act.put, List.setIfInBounds_toArray, List.set_cons_zero, List.set_cons_succ]
          refine anyN_takeR 48 (v := ?_) rfl (by kernel_rfl) (by kernel_rfl) (by kernel_rfl) (by kernel_rfl) (fun _ _ _ h => h) (Or.inl ⟨by rfl, ?_⟩) hS ?_
          rotate_left
          · intro w hSw
            obtain ⟨_, _, _, _, _, _, _, _, _, _⟩ := hSw
            go_simp
            try with_reducible rfl
          simp only [Act.put, List.setIfInBounds_toArray, List.set_cons_zero, List.set_cons_succ]
          refine anyN_takeR 49 (v := ?_) rfl (by kernel_rfl) (by kernel_rfl) (by kernel_rfl) (by kernel_rfl) (fun _ _ _ h => h) (Or.inl ⟨by rfl, ?_⟩) hS ?_
          rotate_left
          · intro w hSw
            obtain ⟨_, _, _, _, _, _, _, _, _, _⟩ := hSw
            go_simp
            try with_reducible rfl
          simp only [Act.put, List.setIfInBounds_toArray, List.set_cons_zero, List.set_cons_succ]
          refine anyN_oneG 50 rfl (by kernel_rfl) (by rfl) ?_
          go_simp
          (with_reducible refine (HC _).out.mono ?_)
          clear hS
          rintro e wz2 ⟨rfl, hk⟩
          replace HT := Lib.hid (HT.out.kp hk)
          replace HXS := Lib.hid (HXS.out.kp hk)
          replace HJ2 := Lib.hid (HJ2.out.trans (hk.mono HJ2.out.size))
          clear hk
          dsimp only
          refine and_keep ⟨HT.out.c0, HT.out.c1, HT.out.c2, HT.out.c3, HT.out.c4, HT.out.c5, HT.out.c6, HT.out.c7, HXS.out.c0, HXS.out.c1⟩ (fun hS => ?_)
          refine anyN_takeR 51 (v := ?_) rfl (by kernel_rfl) (by kernel_rfl) (by kernel_rfl) (by kernel_rfl) (fun _ _ _ h => h) (Or.inl ⟨by rfl, ?_⟩) hS ?_
          rotate_left
          · intro w hSw
            obtain ⟨_, _, _, _, _, _, _, _, _, _⟩ := hSw
            go_simp
            try with_reducible rfl
          simp only [Act.put, List.setIfInBounds_toArray, List.set_cons_zero, List.set_cons_succ]
          refine anyN_takeR 52 (v := ?_) rfl (by kernel_rfl) (by kernel_rfl) (by kernel_rfl) (by kernel_rfl) (fun _ _ _ h => h) (Or.inl ⟨by rfl, ?_⟩) hS ?_
          rotate_left
          · intro w hSw
            obtain ⟨_, _, _, _, _, _, _, _, _, _⟩ := hSw
            go_simp
            try with_reducible rfl
          simp only [Act.put, List.setIfInBounds_toArray, List.set_cons_zero, List.set_cons_succ]
          refine anyN_done (by kernel_rfl) ?_
          refine NoPanic.normal ?_
          clear hS
          go_wp2_with fail
          go_ret
          exact ⟨by rw [HF.out]; rfl, HK.out.trans (HJ2.out.mono HK.out.size)⟩
        rw [hb] at HC
        refine wp_region_noPanic ?_
        refine wp_region_anyN (fun w' => w'.cell? ⟨bT, 0, none⟩ = some (.int .i64 id) ∧ w'.cell? ⟨bT, 1, none⟩ = some (.int .i64 grp) ∧ w'.cell? ⟨bT, 2, none⟩ = some (.int .i64 wt) ∧ w'.cell? ⟨bT, 3, none⟩ = some (.int .i64 (p : Int)) ∧ w'.cell? ⟨bT, 4, none⟩ = some (.int .u64 mask) ∧ w'.cell? ⟨bT, 5, none⟩ = some (.bool rdy) ∧ w'.cell? ⟨bT, 6, none⟩ = some (.int .u64 v) ∧ w'.cell? ⟨bT, 7, none⟩ = some (.int .u32 r') ∧ w'.cell? ⟨b0, 0, none⟩ = some (.int .i64 (lb : Int)) ∧ w'.cell? ⟨b0, 1, none⟩ = some (.slice (some ⟨b, off, none⟩) la ca)) 53 (by kernel_rfl) ?_
        have kd : Kp w2.heap.size w2 w2.drew := (Kp.refl _ _).drewN 1
        replace HT := Lib.hid (HT.out.kp kd)
        replace HXS := Lib.hid (HXS.out.kp kd)
        replace HJ2 := Lib.hid (HJ2.out.trans (kd.mono HJ2.out.size))
        clear kd
        generalize w2.drew = wy1 at *
        have hS : wy1.cell? ⟨bT, 0, none⟩ = some (.int .i64 id) ∧ wy1.cell? ⟨bT, 1, none⟩ = some (.int .i64 grp) ∧ wy1.cell? ⟨bT, 2, none⟩ = some (.int .i64 wt) ∧ wy1.cell? ⟨bT, 3, none⟩ = some (.int .i64 (p : Int)) ∧ wy1.cell? ⟨bT, 4, none⟩ = some (.int .u64 mask) ∧ wy1.cell? ⟨bT, 5, none⟩ = some (.bool rdy) ∧ wy1.cell? ⟨bT, 6, none⟩ = some (.int .u64 v) ∧ wy1.cell? ⟨bT, 7, none⟩ = some (.int .u32 r') ∧ wy1.cell? ⟨b0, 0, none⟩ = some (.int .i64 (lb : Int)) ∧ wy1.cell? ⟨b0, 1, none⟩ = some (.slice (some ⟨b, off, none⟩) la ca) := ⟨HT.out.c0, HT.out.c1, HT.out.c2, HT.out.c3, HT.out.c4, HT.out.c5, HT.out.c6, HT.out.c7, HXS.out.c0, HXS.out.c1⟩
        refine anyN_takeR 0 (v := ?_) rfl (by kernel_rfl) (by kernel_rfl) (by kernel_rfl) (by kernel_rfl) (fun _ _ _ h => h) (Or.inl ⟨by rfl, ?_⟩) hS ?_
        rotate_left
        · intro w hSw
          obtain ⟨_, _, _, _, _, _, _, _, _, _⟩ := hSw
          go_simp
          try with_reducible rfl
        simp only [Act.put, List.setIfInBounds_toArray, List.set_cons_zero, List.set_cons_succ]
        refine anyN_takeR 1 (v := ?_) rfl (by kernel_rfl) (by kernel_rfl) (by kernel_rfl) (by kernel_rfl) (fun _ _ _ h => h) (Or.inl ⟨by rfl, ?_⟩) hS ?_
        rotate_left
        · intro w hSw
          obtain ⟨_, _, _, _, _, _, _, _, _, _⟩ := hSw
          go_simp
          try with_reducible rfl
        simp only [Act.put, List.setIfInBounds_toArray, List.set_cons_zero, List.set_cons_succ]
        refine anyN_takeR 2 (v := ?_) rfl (by kernel_rfl) (by kernel_rfl) (by kernel_rfl) (by kernel_rfl) (fun _ _ _ h => h) (Or.inl ⟨by rfl, ?_⟩) hS ?_
        rotate_left
        · intro w hSw
          obtain ⟨_, _, _, _, _, _, _, _, _, _⟩ := hSw
          go_simp
          try with_reducible rfl
        simp only [Act.put, List.setIfInBounds_toArray, List.set_cons_zero, List.set_cons_succ]
        refine anyN_takeR 3 (v := ?_) rfl (by kernel_rfl) (by kernel_rfl) (by kernel_rfl) (by kernel_rfl) (fun _ _ _ h => h) (Or.inl ⟨by rfl, ?_⟩) hS ?_
        rotate_left
        · intro w hSw
          obtain ⟨_, _, _, _, _, _, _, _, _, _⟩ := hSw
          go_simp
          try with_reducible rfl
        simp only [Act.put, List.setIfInBounds_toArray, List.set_cons_zero, List.set_cons_succ]
        refine anyN_takeR 4 (v := ?_) rfl (by kernel_rfl) (by kernel_rfl) (by kernel_rfl) (by kernel_rfl) (fun _ _ _ h => h) (Or.inl ⟨by rfl, ?_⟩) hS ?_
        rotate_left
        · intro w hSw
          obtain ⟨_, _, _, _, _, _, _, _, _, _⟩ := hSw
          go_simp
          try with_reducible rfl
        simp only [Act.put, List.setIfInBounds_toArray, List.set_cons_zero, List.set_cons_succ]
        refine anyN_takeR 5 (v := ?_) rfl (by kernel_rfl) (by kernel_rfl) (by kernel_rfl) (by kernel_rfl) (fun _ _ _ h => h) (Or.inl ⟨by rfl, ?_⟩) hS ?_
        rotate_left
        · intro w hSw
          obtain ⟨_, _, _, _, _, _, _, _, _, _⟩ := hSw
          go_simp
          try with_reducible rfl
        simp only [Act.put, List.setIfInBounds_toArray, List.set_cons_zero, List.set_cons_succ]
        refine anyN_takeR 6 (v := ?_) rfl (by kernel_rfl) (by kernel_rfl) (by kernel_rfl) (by kernel_rfl) (fun _ _ _ h => h) (Or.inl ⟨by rfl, ?_⟩) hS ?_
        rotate_left
        · intro w hSw
          obtain ⟨_, _, _, _, _, _, _, _, _, _⟩ := hSw
          go_simp
          try with_reducible rfl
        simp only [Act.put, List.setIfInBounds_toArray, List.set_cons_zero, List.set_cons_succ]
        refine anyN_takeR 7 (v := ?_) rfl (by kernel_rfl) (by kernel_rfl) (by kernel_rfl) (by kernel_rfl) (fun _ _ _ h => h) (Or.inl ⟨by rfl, ?_⟩) hS ?_
        rotate_left
        · intro w hSw
          obtain ⟨_, _, _, _, _, _, _, _, _, _⟩ := hSw
          go_simp
          try with_reducible rfl
        simp only [Act.put, List.setIfInBounds_toArray, List.set_cons_zero, List.set_cons_succ]
        refine anyN_takeR 8 (v := ?_) rfl (by kernel_rfl) (by kernel_rfl) (by kernel_rfl) (by kernel_rfl) (fun _ _ _ h => h) (Or.inl ⟨by rfl, ?_⟩) hS ?_
        rotate_left
        · intro w hSw
          obtain ⟨_, _, _, _, _, _, _, _, _, _⟩ := hSw
          go_simp
          try with_reducible rfl
        simp only [Act.put, List.setIfInBounds_toArray, List.set_cons_zero, List.set_cons_succ]
        refine anyN_takeR 9 (v := ?_) rfl (by kernel_rfl) (by kernel_rfl) (by kernel_rfl) (by kernel_rfl) (fun _ _ _ h => h) (Or.inl ⟨by rfl, ?_⟩) hS ?_
        rotate_left
        · intro w hSw
          obtain ⟨_, _, _, _, _, _, _, _, _, _⟩ := hSw
          go_simp
          try with_reducible rfl
        simp only [Act.put, List.setIfInBounds_toArray, List.set_cons_zero, List.set_cons_succ]
        refine anyN_takeR 10 (v := ?_) rfl (by kernel_rfl) (by kernel_rfl) (by kernel_rfl) (by kernel_rfl) (fun _ _ _ h => h) (Or.inl ⟨by rfl, ?_⟩) hS ?_
        rotate_left
        · intro w hSw
          obtain ⟨_, _, _, _, _, _, _, _, _, _⟩ := hSw
          go_simp
          try with_reducible rfl
        simp only [Act.put, List.setIfInBounds_toArray, List.set_cons_zero, List.set_cons_succ]
        refine anyN_takeR 11 (v := ?_) rfl (by kernel_rfl) (by kernel_rfl) (by kernel_rfl) (by kernel_rfl) (fun _ _ _ h => h) (Or.inl ⟨by rfl, ?_⟩) hS ?_
        rotate_left
        · intro w hSw
          obtain ⟨_, _, _, _, _, _, _, _, _, _⟩ := hSw
          go_simp
          try with_reducible rfl
        simp only [Act.put, List.setIfInBounds_toArray, List.set_cons_zero, List.set_cons_succ]
        refine anyN_takeR 12 (v := undef) rfl (by kernel_rfl) (by kernel_rfl) (by kernel_rfl) (by kernel_rfl) (fun _ _ _ h => h) (Or.inr ⟨by rfl, rfl⟩) hS ?_
        simp only [Act.put, List.setIfInBounds_toArray, List.set_cons_zero, List.set_cons_succ]
        refine anyN_takeR 13 (v := undef) rfl (by kernel_rfl) (by kernel_rfl) (by kernel_rfl) (by kernel_rfl) (fun _ _ _ h => h) (Or.inr ⟨by rfl, rfl⟩) hS ?_
        simp only [Act.put, List.setIfInBounds_toArray, List.set_cons_zero, List.set_cons_succ]
        refine anyN_takeR 14 (v := undef) rfl (by kernel_rfl) (by kernel_rfl) (by kernel_rfl) (by kernel_rfl) (fun _ _ _ h => h) (Or.inr ⟨by rfl, rfl⟩) hS ?_
        simp only [Act.put, List.setIfInBounds_toArray, List.set_cons_zero, List.set_cons_succ]
        refine anyN_takeR 15 (v := undef) rfl (by kernel_rfl) (by kernel_rfl) (by kernel_rfl) (by kernel_rfl) (fun _ _ _ h => h) (Or.inr ⟨by rfl, rfl⟩) hS ?_
        simp only [Act.put, List.setIfInBounds_toArray, List.set_cons_zero, List.set_cons_succ]
        refine anyN_takeR 16 (v := undef) rfl (by kernel_rfl) (by kernel_rfl) (by kernel_rfl) (by kernel_rfl) (fun _ _ _ h => h) (Or.inr ⟨by rfl, rfl⟩) hS ?_
        simp only [Act.put, List.setIfInBounds_toArray, List.set_cons_zero, List.set_cons_succ]
        refine anyN_takeR 17 (v := undef) rfl (by kernel_rfl) (by kernel_rfl) (by kernel_rfl) (by kernel_rfl) (fun _ _ _ h => h) (Or.inr ⟨by rfl, rfl⟩) hS ?_
        simp only [Act.put, List.setIfInBounds_toArray, List.set_cons_zero, List.set_cons_succ]
        refine anyN_takeR 18 (v := undef) rfl (by kernel_rfl) (by kernel_rfl) (by kernel_rfl) (by kernel_rfl) (fun _ _ _ h => h) (Or.inr ⟨by rfl, rfl⟩) hS ?_
        simp only [Act.put, List.setIfInBounds_toArray, List.set_cons_zero, List.set_cons_succ]
        refine anyN_takeR 19 (v := undef) rfl (by kernel_rfl) (by kernel_rfl) (by kernel_rfl) (by kernel_rfl) (fun _ _ _ h => h) (Or.inr ⟨by rfl, rfl⟩) hS ?_
        simp only [Act.put, List.setIfInBounds_toArray, List.set_cons_zero, List.set_cons_succ]
        refine anyN_takeR 20 (v := undef) rfl (by kernel_rfl) (by kernel_rfl) (by kernel_rfl) (by kernel_rfl) (fun _ _ _ h => h) (Or.inr ⟨by rfl, rfl⟩) hS ?_
        simp only [Act.put, List.setIfInBounds_toArray, List.set_cons_zero, List.set_cons_succ]
        refine anyN_takeR 21 (v := undef) rfl (by kernel_rfl) (by kernel_rfl) (by kernel_rfl) (by kernel_rfl) (fun _ _ _ h => h) (Or.inr ⟨by rfl, rfl⟩) hS ?_
        simp only [Act.put, List.setIfInBounds_toArray, List.set_cons_zero, List.set_cons_succ]
        refine anyN_takeR 22 (v := ?_) rfl (by kernel_rfl) (by kernel_rfl) (by kernel_rfl) (by kernel_rfl) (fun _ _ _ h => h) (Or.inl ⟨by rfl, ?_⟩) hS ?_
        rotate_left
        · intro w hSw
          obtain ⟨_, _, _, _, _, _, _, _, _, _⟩ := hSw
          go_simp
          try with_reducible rfl
        simp only [Act.put, List.setIfInBounds_toArray, List.set_cons_zero, List.set_cons_succ]
        refine anyN_takeR 23 (v := ?_) rfl (by kernel_rfl) (by kernel_rfl) (by kernel_rfl) (by kernel_rfl) (fun _ _ _ h => h) (Or.inl ⟨by rfl, ?_⟩) hS ?_
        rotate_left
        · intro w hSw
          obtain ⟨_, _, _, _, _, _, _, _, _, _⟩ := hSw
          go_simp
          try with_reducible rfl
        simp only [Act.put, List.setIfInBounds_toArray, List.set_cons_zero, List.set_cons_succ]
        refine anyN_takeR 24 (v := ?_) rfl (by kernel_rfl) (by kernel_rfl) (by kernel_rfl) (by kernel_rfl) (fun _ _ _ h => h) (Or.inl ⟨by rfl, ?_⟩) hS ?_
        rotate_left
        · intro w hSw
          obtain ⟨_, _, _, _, _, _, _, _, _, _⟩ := hSw
          go_simp
          try with_reducible rfl
        simp only [Act.put, List.setIfInBounds_toArray, List.set_cons_zero, List.set_cons_succ]
        refine anyN_takeR 25 (v := ?_) rfl (by kernel_rfl) (by kernel_rfl) (by kernel_rfl) (by kernel_rfl) (fun _ _ _ h => h) (Or.inl ⟨by rfl, ?_⟩) hS ?_
        rotate_left
        · intro w hSw
          obtain ⟨_, _, _, _, _, _, _, _, _, _⟩ := hSw
          go_simp
          try with_reducible rfl
        simp only [Act.put, List.setIfInBounds_toArray, List.set_cons_zero, List.set_cons_succ]
        refine anyN_takeR 26 (v := ?_) rfl (by kernel_rfl) (by kernel_rfl) (by kernel_rfl) (by kernel_rfl) (fun _ _ _ h => h) (Or.inl ⟨by rfl, ?_⟩) hS ?_
        rotate_left
        · intro w hSw
          obtain ⟨_, _, _, _, _, _, _, _, _, _⟩ := hSw
          go_simp
          try with_reducible rfl
        simp only [Act.put, List.setIfInBounds_toArray, List.set_cons_zero, List.set_cons_succ]
        refine anyN_takeR 27 (v := ?_) rfl (by kernel_rfl) (by kernel_rfl) (by kernel_rfl) (by kernel_rfl) (fun _ _ _ h => h) (Or.inl ⟨by rfl, ?_⟩) hS ?_
        rotate_left
        · intro w hSw
          obtain ⟨_, _, _, _, _, _, _, _, _, _⟩ := hSw
          go_simp
          try with_reducible rfl
        simp only [Act.put, List.setIfInBounds_toArray, List.set_cons_zero, List.set_cons_succ]
        refine anyN_takeR 28 (v := ?_) rfl (by kernel_rfl) (by kernel_rfl) (by kernel_rfl) (by kernel_rfl) (fun _ _ _ h => h) (Or.inl ⟨by rfl, ?_⟩) hS ?_
        rotate_left
        · intro w hSw
          obtain ⟨_, _, _, _, _, _, _, _, _, _⟩ := hSw
          go_simp
          try with_reducible rfl
        simp only [Act.put, List.setIfInBounds_toArray, List.set_cons_zero, List.set_cons_succ]
        refine anyN_takeR 29 (v := ?_) rfl (by kernel_rfl) (by kernel_rfl) (by kernel_rfl) (by kernel_rfl) (fun _ _ _ h => h) (Or.inl ⟨by rfl, ?_⟩) hS ?_
        rotate_left
        · intro w hSw
          obtain ⟨_, _, _, _, _, _, _, _, _, _⟩ := hSw
          go_simp
          try with_reducible rfl
        simp only [Act.put, List.setIfInBounds_toArray, List.set_cons_zero, List.set_cons_succ]
        refine anyN_takeR 30 (v := ?_) rfl (by kernel_rfl) (by kernel_rfl) (by kernel_rfl) (by kernel_rfl) (fun _ _ _ h => h) (Or.inl ⟨by rfl, ?_⟩) hS ?_
        rotate_left
        · intro w hSw
          obtain ⟨_, _, _, _, _, _, _, _, _, _⟩ := hSw
          go_simp
          try with_reducible rfl
        simp only [Act.put, List.setIfInBounds_toArray, List.set_cons_zero, List.set_cons_succ]
        refine anyN_takeR 31 (v := ?_) rfl (by kernel_rfl) (by kernel_rfl) (by kernel_rfl) (by kernel_rfl) (fun _ _ _ h => h) (Or.inl ⟨by rfl, ?_⟩) hS ?_
        rotate_left
        · intro w hSw
          obtain ⟨_, _, _, _, _, _, _, _, _, _⟩ := hSw
          go_simp
          try with_reducible rfl
        simp only [Act.put, List.setIfInBounds_toArray, List.set_cons_zero, List.set_cons_succ]
        refine anyN_takeR 32 (v := ?_) rfl (by kernel_rfl) (by kernel_rfl) (by kernel_rfl) (by kernel_rfl) (fun _ _ _ h => h) (Or.inl ⟨by rfl, ?_⟩) hS ?_
        rotate_left
        · intro w hSw
          obtain ⟨_, _, _, _, _, _, _, _, _, _⟩ := hSw
          go_simp
          try with_reducible rfl
        simp only [Act.put, List.setIfInBounds_toArray, List.set_cons_zero, List.set_cons_succ]
        refine anyN_takeR 33 (v := ?_) rfl (by kernel_rfl) (by kernel_rfl) (by kernel_rfl) (by kernel_rfl) (fun _ _ _ h => h) (Or.inl ⟨by rfl, ?_⟩) hS ?_
        rotate_left
        · intro w hSw
          obtain ⟨_, _, _, _, _, _, _, _, _, _⟩ := hSw
          go_simp
          try with_reducible rfl
        simp only [Act.put, List.setIfInBounds_toArray, List.set_cons_zero, List.set_cons_succ]
        refine anyN_takeR 34 (v := ?_) rfl (by kernel_rfl) (by kernel_rfl) (by kernel_rfl) (by kernel_rfl) (fun _ _ _ h => h) (Or.inl ⟨by rfl, ?_⟩) hS ?_
        rotate_left
        · intro w hSw
          obtain ⟨_, _, _, _, _, _, _, _, _, _⟩ := hSw
          go_simp
          try with_reducible rfl
        simp only [Act.put, List.setIfInBounds_toArray, List.set_cons_zero, List.set_cons_succ]
        refine anyN_takeR 35 (v := ?_) rfl (by kernel_rfl) (by kernel_rfl) (by kernel_rfl) (by kernel_rfl) (fun _ _ _ h => h) (Or.inl ⟨by rfl, ?_⟩) hS ?_
        rotate_left
        · intro w hSw
          obtain ⟨_, _, _, _, _, _, _, _, _, _⟩ := hSw
          go_simp
          try with_reducible rfl
        simp only [Act.put, List.setIfInBounds_toArray, List.set_cons_zero, List.set_cons_succ]
        refine anyN_takeR 36 (v := ?_) rfl (by kernel_rfl) (by kernel_rfl) (by kernel_rfl) (by kernel_rfl) (fun _ _ _ h => h) (Or.inl ⟨by rfl, ?_⟩) hS ?_
        rotate_left
        · intro w hSw
          obtain ⟨_, _, _, _, _, _, _, _, _, _⟩ := hSw
          go_simp
          try with_reducible rfl
        simp only [Act.put, List.setIfInBounds_toArray, List.set_cons_zero, List.set_cons_succ]
        refine anyN_takeR 37 (v := ?_) rfl (by kernel_rfl) (by kernel_rfl) (by kernel_rfl) (by kernel_rfl) (fun _ _ _ h => h) (Or.inl ⟨by rfl, ?_⟩) hS ?_
        rotate_left
        · intro w hSw
          obtain ⟨_, _, _, _, _, _, _, _, _, _⟩ := hSw
          go_simp
          try with_reducible rfl
        simp only [Act.put, List.setIfInBounds_toArray, List.set_cons_zero, List.set_cons_succ]
        refine anyN_takeR 38 (v := ?_) rfl (by kernel_rfl) (by kernel_rfl) (by kernel_rfl) (by kernel_rfl) (fun _ _ _ h => h) (Or.inl ⟨by rfl, ?_⟩) hS ?_
        rotate_left
        · intro w hSw
          obtain ⟨_, _, _, _, _, _, _, _, _, _⟩ := hSw
          go_simp
          try with_reducible rfl
        simp only [Act.put, List.setIfInBounds_toArray, List.set_cons_zero, List.set_cons_succ]
        refine anyN_takeR 39 (v := ?_) rfl (by kernel_rfl) (by kernel_rfl) (by kernel_rfl) (by kernel_rfl) (fun _ _ _ h => h) (Or.inl ⟨by rfl, ?_⟩) hS ?_
        rotate_left
        · intro w hSw
          obtain ⟨_, _, _, _, _, _, _, _, _, _⟩ := hSw
          go_simp
          try with_reducible rfl
        simp only [Act.put, List.setIfInBounds_toArray, List.set_cons_zero, List.set_cons_succ]
        refine anyN_takeR 40 (v := ?_) rfl (by kernel_rfl) (by kernel_rfl) (by kernel_rfl) (by kernel_rfl) (fun _ _ _ h => h) (Or.inl ⟨by rfl, ?_⟩) hS ?_
        rotate_left
        · intro w hSw
          obtain ⟨_, _, _, _, _, _, _, _, _, _⟩ := hSw
          go_simp
          try with_reducible rfl
        simp only [Act.put, List.setIfInBounds_toArray, List.set_cons_zero, List.set_cons_succ]
        refine anyN_takeR 41 (v := ?_) rfl (by kernel_rfl) (by kernel_rfl) (by kernel_rfl) (by kernel_rfl) (fun _ _ _ h => h) (Or.inl ⟨by rfl, ?_⟩) hS ?_
        rotate_left
        · intro w hSw
          obtain ⟨_, _, _, _, _, _, _, _, _, _⟩ := hSw
          go_simp
          try with_reducible rfl
        simp only [Act.put, List.setIfInBounds_toArray, List.set_cons_zero, List.set_cons_succ]
        refine anyN_takeR 42 (v := ?_) rfl (by kernel_rfl) (by kernel_rfl) (by kernel_rfl) (by kernel_rfl) (fun _ _ _ h => h) (Or.inl ⟨by rfl, ?_⟩) hS ?_
        rotate_left
        · intro w hSw
          obtain ⟨_, _, _, _, _, _, _, _, _, _⟩ := hSw
          go_simp
          try with_reducible rfl
        simp only [Act.put, List.setIfInBounds_toArray, List.set_cons_zero, List.set_cons_succ]
        refine anyN_takeR 43 (v := ?_) rfl (by kernel_rfl) (by kernel_rfl) (by kernel_rfl) (by kernel_rfl) (fun _ _ _ h => h) (Or.inl ⟨by rfl, ?_⟩) hS ?_
        rotate_left
        · intro w hSw
          obtain ⟨_, _, _, _, _, _, _, _, _, _⟩ := hSw
          go_simp
          try with_reducible rfl
        simp only [Act.put, List.setIfInBounds_toArray, List.set_cons_zero, List.set_cons_succ]
        refine anyN_takeR 44 (v := ?_) rfl (by kernel_rfl) (by kernel_rfl) (by kernel_rfl) (by kernel_rfl) (fun _ _ _ h => h) (Or.inl ⟨by rfl, ?_⟩) hS ?_
        rotate_left
        · intro w hSw
          obtain ⟨_, _, _, _, _, _, _, _, _, _⟩ := hSw
          go_simp
          try with_reducible rfl
        simp only [Act.put, List.setIfInBounds_toArray, List.set_cons_zero, List.set_cons_succ]
        refine anyN_takeR 45 (v := ?_) rfl (by kernel_rfl) (by kernel_rfl) (by kernel_rfl) (by kernel_rfl) (fun _ _ _ h => h) (Or.inl ⟨by rfl, ?_⟩) hS ?_
        rotate_left
        · intro w hSw
          obtain ⟨_, _, _, _, _, _, _, _, _, _⟩ := hSw
          go_simp
          try with_reducible rfl
        simp only [Act.put, List.setIfInBounds_toArray, List.set_cons_zero, List.set_cons_succ]
        refine anyN_takeR 46 (v := ?_) rfl (by kernel_rfl) (by kernel_rfl) (by kernel_rfl) (by kernel_rfl) (fun _ _ _ h => h) (Or.inl ⟨by rfl, ?_⟩) hS ?_
        rotate_left
        · intro w hSw
          obtain ⟨_, _, _, _, _, _, _, _, _, _⟩ := hSw
          go_simp
          try with_reducible rfl
        simp only [Act.put, List.setIfInBounds_toArray, List.set_cons_zero, List.set_cons_succ]
        refine anyN_takeR 47 (v := ?_) rfl (by kernel_rfl) (by kernel_rfl) (by kernel_rfl) (by kernel_rfl) (fun _ _ _ h => h) (Or.inl ⟨by rfl, ?_⟩) hS ?_
        rotate_left
        · intro w hSw
          obtain ⟨_, _, _, _, _, _, _, _, _, _⟩ := hSw
          go_simp
          try with_reducible rfl
        simp only [Act.put, List.setIfInBounds_toArray, List.set_cons_zero, List.set_cons_succ]
        refine anyN_takeR 48 (v := ?_) rfl (by kernel_rfl) (by kernel_rfl) (by kernel_rfl) (by kernel_rfl) (fun _ _ _ h => h) (Or.inl ⟨by rfl, ?_⟩) hS ?_
        rotate_left
        · intro w hSw
          obtain ⟨_, _, _, _, _, _, _, _, _, _⟩ := hSw
          go_simp
          try with_reducible rfl
        simp only [Act.put, List.setIfInBounds_toArray, List.set_cons_zero, List.set_cons_succ]
        refine anyN_takeR 49 (v := ?_) rfl (by kernel_rfl) (by kernel_rfl) (by kernel_rfl) (by kernel_rfl) (fun _ _ _ h => h) (Or.inl ⟨by rfl, ?_⟩) hS ?_
        rotate_left
        · intro w hSw
          obtain ⟨_, _, _, _, _, _, _, _, _, _⟩ := hSw
          go_simp
          try with_reducible rfl
        simp only [Act.put, List.setIfInBounds_toArray, List.set_cons_zero, List.set_cons_succ]
        refine anyN_oneG 50 rfl (by kernel_rfl) (by rfl) ?_
        go_simp
        (with_reducible refine (HC _).out.mono ?_)
        clear hS
        rintro e wy2 ⟨rfl, hk⟩
        replace HT := Lib.hid (HT.out.kp hk)
        replace HXS := Lib.hid (HXS.out.kp hk)
        replace HJ2 := Lib.hid (HJ2.out.trans (hk.mono HJ2.out.size))
        clear hk
        dsimp only
        refine and_keep ⟨HT.out.c0, HT.out.c1, HT.out.c2, HT.out.c3, HT.out.c4, HT.out.c5, HT.out.c6, HT.out.c7, HXS.out.c0, HXS.out.c1⟩ (fun hS => ?_)
        refine anyN_takeR 51 (v := ?_) rfl (by kernel_rfl) (by kernel_rfl) (by kernel_rfl) (by kernel_rfl) (fun _ _ _ h => h) (Or.inl ⟨by rfl, ?_⟩) hS ?_
        rotate_left
        · intro w hSw
          obtain ⟨_, _, _, _, _, _, _, _, _, _⟩ := hSw
          go_simp
          try with_reducible rfl
        simp only [Act.put, List.setIfInBounds_toArray, List.set_cons_zero, List.set_cons_succ]
        refine anyN_takeR 52 (v := ?_) rfl (by kernel_rfl) (by kernel_rfl) (by kernel_rfl) (by kernel_rfl) (fun _ _ _ h => h) (Or.inl ⟨by rfl, ?_⟩) hS ?_
        rotate_left
        · intro w hSw
          obtain ⟨_, _, _, _, _, _, _, _, _, _⟩ := hSw
          go_simp
          try with_reducible rfl
        simp only [Act.put, List.setIfInBounds_toArray, List.set_cons_zero, List.set_cons_succ]
        refine anyN_done (by kernel_rfl) ?_
        refine NoPanic.normal ?_
        clear hS
        obtain ⟨x0, x1, x2, xl⟩ := HXS.out
        go_wp2_with fail
        clear x0 x1 x2 xl
        go_loopw [5] (fun c wq => ∃ k : Nat, lb ≤ k ∧ k ≤ 64 ∧ c = .int .i64 (k : Int) ∧ (∀ c' : Nat, lb ≤ c' → c' < k → hasB mask (c' : Int) = false) ∧ Kp wy2.heap.size wy2 wq) (fun c _ => 64 - (intOf c).toNat)
        case atStart => exact ⟨lb, Nat.le_refl _, hl64, rfl, (fun c' h1 h2 => by omega), Kp.refl _ _⟩
        case round =>
          obtain ⟨k, hk0, hk1, rfl, hall, hkq⟩ := hrel
          have HALL := Lib.hid hall
          have HKQ := Lib.hid hkq
          clear hall hkq
          have HTq := HT.out.kp HKQ.out
          obtain ⟨c0, c1, c2, c3, c4, c5, c6, c7, cl⟩ := HTq
          simp only [Nat.zero_add] at c0 c1 c2 c3 c4 c5 c6 c7
          by_cases hk : k < 64
          · have hki : (k : Int) < 64 := by omega
            have HM := HMY k hk1 wr
            cases hbk : hasB mask (k : Int)
            · rw [hbk] at HM
              go_wp2_with fail
              (with_reducible refine HM.out.mono ?_)
              rintro e wv ⟨rfl, hkv⟩
              have HKV := Lib.hid (HKQ.out.trans (hkv.mono HKQ.out.size))
              clear c0 c1 c2 c3 c4 c5 c6 c7 cl hkv HKQ
              go_wp2_with fail
              go_roundw
              case rel =>
                refine ⟨k + 1, by omega, by omega, by go_num, fun c' h1 h2 => ?_, HKV.out⟩
                rcases Nat.lt_or_ge c' k with h3 | h3
                · exact HALL.out c' h1 h3
                · rw [show c' = k by omega]; exact hbk
              case measure => simp [intOf]; omega
            · rw [hbk] at HM
              have HF := FAIL (by
                have hne : ¬ mask / 2 ^ ((lb : Int)).toNat = 0 := fun e => by
                  rw [Int.toNat_natCast] at e
                  rw [bits_mask hk0 e m0] at hbk
                  cases hbk
                unfold rightT
                dsimp only
                have h64 : ((lb : Int) == 64) = false := beq_eq_false_iff_ne.2 (by omega)
                have hz : (mask / 2 ^ ((lb : Int)).toNat == 0) = false := beq_eq_false_iff_ne.2 hne
                rw [h64, hz]
                simp)
              go_wp2_with fail
              (with_reducible refine HM.out.mono ?_)
              rintro e wv ⟨rfl, hkv⟩
              have HKV := Lib.hid (HKQ.out.trans (hkv.mono HKQ.out.size))
              clear c0 c1 c2 c3 c4 c5 c6 c7 cl hkv HKQ
              go_wp2_with fail
              go_ret
              exact ⟨by rw [HF.out]; rfl, HK.out.trans ((HJ2.out.trans (HKV.out.mono HJ2.out.size)).mono HK.out.size)⟩
          · have hke : k = 64 := by omega
            subst hke
            have hkn : ¬ ((64 : Int) < 64) := by omega
            have hz := mask_bits m0 m1 hl64 (fun c' h1 h2 => HALL.out c' h1 h2)
            have hgood := hST.out (by
              unfold rightT
              dsimp only
              rw [Int.toNat_natCast, hz, hb]
              simp only [Bool.and_eq_true, decide_eq_true_eq, Bool.or_eq_true]
              refine ⟨⟨⟨⟨⟨⟨⟨?_, by omega⟩, by omega⟩, by omega⟩, by omega⟩, by omega⟩, by first | trivial | rfl⟩, by first | exact Or.inr rfl | simp⟩
              omega)
            have HG := Lib.hid hgood
            clear hgood hz
            go_wp2_with fail
            go_roundw
            case rel => exact ⟨0 + 1, by omega, by go_num, HG.out, HJ2.out.trans (HKQ.out.mono HJ2.out.size)⟩
            case measure => simp [intOf]; omega
      · obtain ⟨pv, hpv, hlp, hp1⟩ := hPV.out hj0
        obtain ⟨i', rfl⟩ : ∃ i', j = i' + 1 := ⟨j - 1, by omega⟩
        rw [Nat.add_sub_cancel] at hpv
        obtain ⟨bb, oo, e, T'⟩ := (HSC.out.kp HJ2.out).ts i' (by omega)
        cases e
        have HPC := Lib.hid (show At w2 ⟨b, off + i' * 8, none⟩ (.int .i64 pv) from ⟨by rw [← hpv]; exact T'.c0, T'.lt⟩)
        have hpc := HPC.out.1
        have hii : (i' : Int) < (la : Int) := by omega
        have hwi := wrap_id (x := (i' : Int)) (by omega) (by omega)
        clear T' hpv
        by_cases h7 : id ≤ pv
        · have HF := FAIL (right_f (Or.inl (by dsimp only; omega)))
          go_quiet (fail)
          go_wp2_with fail
          go_ret
          exact ⟨by rw [HF.out]; rfl, (HK.out.trans (HJ2.out.mono HK.out.size)).drewN _⟩
        have hpvn : ¬ (id ≤ pv) := h7
        by_cases h3 : wt < 1
        · have HF := FAIL (right_f (Or.inr (Or.inr (Or.inl h3))))
          go_quiet (fail)
          go_wp2_with fail
          go_ret
          exact ⟨by rw [HF.out]; rfl, (HK.out.trans (HJ2.out.mono HK.out.size)).drewN _⟩
        by_cases h4 : 65536 < wt
        · have HF := FAIL (right_f (Or.inr (Or.inr (Or.inr (Or.inl h4)))))
          go_quiet (fail)
          go_wp2_with fail
          go_ret
          exact ⟨by rw [HF.out]; rfl, (HK.out.trans (HJ2.out.mono HK.out.size)).drewN _⟩
        by_cases h5 : cpu < 0
        · have HF := FAIL (right_f (Or.inr (Or.inr (Or.inr (Or.inr (Or.inl h5))))))
          go_quiet (fail)
          go_wp2_with fail
          go_ret
          exact ⟨by rw [HF.out]; rfl, (HK.out.trans (HJ2.out.mono HK.out.size)).drewN _⟩
        by_cases h6 : (lb : Int) ≤ cpu
        · have HF := FAIL (right_f (Or.inr (Or.inr (Or.inr (Or.inr (Or.inr h6))))))
          go_quiet (fail)
          go_wp2_with fail
          go_ret
          exact ⟨by rw [HF.out]; rfl, (HK.out.trans (HJ2.out.mono HK.out.size)).drewN _⟩
        obtain ⟨p, rfl⟩ : ∃ p : Nat, cpu = (p : Int) := ⟨cpu.toNat, by omega⟩
        have hp64 : p ≤ 64 := by omega
        clear c0 c1 c2 c3 c4 c5 c6 c7 cl x0 x1 x2 xl hpc
        have HC := fun w => HMY p hp64 w
        cases hb : hasB mask (p : Int)
        · rw [hb] at HC
          have HF := FAIL (by unfold rightT; dsimp only; rw [hb]; simp)
          refine wp_region_noPanic ?_
          refine wp_region_anyN (fun w' => w'.cell? ⟨bT, 0, none⟩ = some (.int .i64 id) ∧ w'.cell? ⟨bT, 1, none⟩ = some (.int .i64 grp) ∧ w'.cell? ⟨bT, 2, none⟩ = some (.int .i64 wt) ∧ w'.cell? ⟨bT, 3, none⟩ = some (.int .i64 (p : Int)) ∧ w'.cell? ⟨bT, 4, none⟩ = some (.int .u64 mask) ∧ w'.cell? ⟨bT, 5, none⟩ = some (.bool rdy) ∧ w'.cell? ⟨bT, 6, none⟩ = some (.int .u64 v) ∧ w'.cell? ⟨bT, 7, none⟩ = some (.int .u32 r') ∧ w'.cell? ⟨b0, 0, none⟩ = some (.int .i64 (lb : Int)) ∧ w'.cell? ⟨b0, 1, none⟩ = some (.slice (some ⟨b, off, none⟩) la ca) ∧ w'.cell? ⟨b, off + i' * 8, none⟩ = some (.int .i64 pv)) 53 (by kernel_rfl) ?_
          have kd : Kp w2.heap.size w2 w2.drew := (Kp.refl _ _).drewN 1
          replace HT := Lib.hid (HT.out.kp kd)
          replace HXS := Lib.hid (HXS.out.kp kd)
          replace HPC := Lib.hid (HPC.out.kp kd)
          replace HJ2 := Lib.hid (HJ2.out.trans (kd.mono HJ2.out.size))
          clear kd
          generalize w2.drew = wz1 at *
          have hS : wz1.cell? ⟨bT, 0, none⟩ = some (.int .i64 id) ∧ wz1.cell? ⟨bT, 1, none⟩ = some (.int .i64 grp) ∧ wz1.cell? ⟨bT, 2, none⟩ = some (.int .i64 wt) ∧ wz1.cell? ⟨bT, 3, none⟩ = some (.int .i64 (p : Int)) ∧ wz1.cell? ⟨bT, 4, none⟩ = some (.int .u64 mask) ∧ wz1.cell? ⟨bT, 5, none⟩ = some (.bool rdy) ∧ wz1.cell? ⟨bT, 6, none⟩ = some (.int .u64 v) ∧ wz1.cell? ⟨bT, 7, none⟩ = some (.int .u32 r') ∧ wz1.cell? ⟨b0, 0, none⟩ = some (.int .i64 (lb : Int)) ∧ wz1.cell? ⟨b0, 1, none⟩ = some (.slice (some ⟨b, off, none⟩) la ca) ∧ wz1.cell? ⟨b, off + i' * 8, none⟩ = some (.int .i64 pv) := ⟨HT.out.c0, HT.out.c1, HT.out.c2, HT.out.c3, HT.out.c4, HT.out.c5, HT.out.c6, HT.out.c7, HXS.out.c0, HXS.out.c1, HPC.out.1⟩
          refine anyN_takeR 0 (v := ?_) rfl (by kernel_rfl) (by kernel_rfl) (by kernel_rfl) (by kernel_rfl) (fun _ _ _ h => h) (Or.inl ⟨by rfl, ?_⟩) hS ?_
          rotate_left
          · intro w hSw
            obtain ⟨_, _, _, _, _, _, _, _, _, _, _⟩ := hSw
            go_simp
            try with_reducible rfl
          simp only [Act.put, List.setIfInBounds_toArray, List.set_cons_zero, List.set_cons_succ]
          refine anyN_takeR 1 (v := ?_) rfl (by kernel_rfl) (by kernel_rfl) (by kernel_rfl) (by kernel_rfl) (fun _ _ _ h => h) (Or.inl ⟨by rfl, ?_⟩) hS ?_
          rotate_left
          · intro w hSw
            obtain ⟨_, _, _, _, _, _, _, _, _, _, _⟩ := hSw
            go_simp
            try with_reducible rfl
          simp only [Act.put, List.setIfInBounds_toArray, List.set_cons_zero, List.set_cons_succ]
          refine anyN_takeR 2 (v := ?_) rfl (by kernel_rfl) (by kernel_rfl) (by kernel_rfl) (by kernel_rfl) (fun _ _ _ h => h) (Or.inl ⟨by rfl, ?_⟩) hS ?_
          rotate_left
          · intro w hSw
            obtain ⟨_, _, _, _, _, _, _, _, _, _, _⟩ := hSw
            go_simp
            try with_reducible rfl
          simp only [Act.put, List.setIfInBounds_toArray, List.set_cons_zero, List.set_cons_succ]
          refine anyN_takeR 3 (v := ?_) rfl (by kernel_rfl) (by kernel_rfl) (by kernel_rfl) (by kernel_rfl) (fun _ _ _ h => h) (Or.inl ⟨by rfl, ?_⟩) hS ?_
          rotate_left
          · intro w hSw
            obtain ⟨_, _, _, _, _, _, _, _, _, _, _⟩ := hSw
            go_simp
            try with_reducible rfl
          simp only [Act.put, List.setIfInBounds_toArray, List.set_cons_zero, List.set_cons_succ]
          refine anyN_takeR 4 (v := ?_) rfl (by kernel_rfl) (by kernel_rfl) (by kernel_rfl) (by kernel_rfl) (fun _ _ _ h => h) (Or.inl ⟨by rfl, ?_⟩) hS ?_
          rotate_left
          · intro w hSw
            obtain ⟨_, _, _, _, _, _, _, _, _, _, _⟩ := hSw
            go_simp
            try with_reducible rfl
          simp only [Act.put, List.setIfInBounds_toArray, List.set_cons_zero, List.set_cons_succ]
          refine anyN_takeR 5 (v := ?_) rfl (by kernel_rfl) (by kernel_rfl) (by kernel_rfl) (by kernel_rfl) (fun _ _ _ h => h) (Or.inl ⟨by rfl, ?_⟩) hS ?_
          rotate_left
          · intro w hSw
            obtain ⟨_, _, _, _, _, _, _, _, _, _, _⟩ := hSw
            go_simp
            try with_reducible rfl
          simp only [Act.put, List.setIfInBounds_toArray, List.set_cons_zero, List.set_cons_succ]
          refine anyN_takeR 6 (v := ?_) rfl (by kernel_rfl) (by kernel_rfl) (by kernel_rfl) (by kernel_rfl) (fun _ _ _ h => h) (Or.inl ⟨by rfl, ?_⟩) hS ?_
          rotate_left
          · intro w hSw
            obtain ⟨_, _, _, _, _, _, _, _, _, _, _⟩ := hSw
            go_simp
            try with_reducible rfl
          simp only [Act.put, List.setIfInBounds_toArray, List.set_cons_zero, List.set_cons_succ]
          refine anyN_takeR 7 (v := ?_) rfl (by kernel_rfl) (by kernel_rfl) (by kernel_rfl) (by kernel_rfl) (fun _ _ _ h => h) (Or.inl ⟨by rfl, ?_⟩) hS ?_
          rotate_left
          · intro w hSw
            obtain ⟨_, _, _, _, _, _, _, _, _, _, _⟩ := hSw
            go_simp
            try with_reducible rfl
          simp only [Act.put, List.setIfInBounds_toArray, List.set_cons_zero, List.set_cons_succ]
          refine anyN_takeR 8 (v := ?_) rfl (by kernel_rfl) (by kernel_rfl) (by kernel_rfl) (by kernel_rfl) (fun _ _ _ h => h) (Or.inl ⟨by rfl, ?_⟩) hS ?_
          rotate_left
          · intro w hSw
            obtain ⟨_, _, _, _, _, _, _, _, _, _, _⟩ := hSw
            go_simp
            try with_reducible rfl
          simp only [Act.put, List.setIfInBounds_toArray, List.set_cons_zero, List.set_cons_succ]
          refine anyN_takeR 9 (v := ?_) rfl (by kernel_rfl) (by kernel_rfl) (by kernel_rfl) (by kernel_rfl) (fun _ _ _ h => h) (Or.inl ⟨by rfl, ?_⟩) hS ?_
          rotate_left
          · intro w hSw
            obtain ⟨_, _, _, _, _, _, _, _, _, _, _⟩ := hSw
            go_simp
            try with_reducible rfl
          simp only [Act.put, List.setIfInBounds_toArray, List.set_cons_zero, List.set_cons_succ]
          refine anyN_takeR 10 (v := ?_) rfl (by kernel_rfl) (by kernel_rfl) (by kernel_rfl) (by kernel_rfl) (fun _ _ _ h => h) (Or.inl ⟨by rfl, ?_⟩) hS ?_
          rotate_left
          · intro w hSw
            obtain ⟨_, _, _, _, _, _, _, _, _, _, _⟩ := hSw
            go_simp
            try with_reducible rfl
          simp only [Act.put, List.setIfInBounds_toArray, List.set_cons_zero, List.set_cons_succ]
          refine anyN_takeR 11 (v := ?_) rfl (by kernel_rfl) (by kernel_rfl) (by kernel_rfl) (by kernel_rfl) (fun _ _ _ h => h) (Or.inl ⟨by rfl, ?_⟩) hS ?_
          rotate_left
          · intro w hSw
            obtain ⟨_, _, _, _, _, _, _, _, _, _, _⟩ := hSw
            go_simp
            try with_reducible rfl
          simp only [Act.put, List.setIfInBounds_toArray, List.set_cons_zero, List.set_cons_succ]
          refine anyN_takeR 12 (v := ?_) rfl (by kernel_rfl) (by kernel_rfl) (by kernel_rfl) (by kernel_rfl) (fun _ _ _ h => h) (Or.inl ⟨by rfl, ?_⟩) hS ?_
          rotate_left
          · intro w hSw
            obtain ⟨_, _, _, _, _, _, _, _, _, _, _⟩ := hSw
            go_simp
            try with_reducible rfl
          simp only [Act.put, List.setIfInBounds_toArray, List.set_cons_zero, List.set_cons_succ]
          refine anyN_takeR 13 (v := ?_) rfl (by kernel_rfl) (by kernel_rfl) (by kernel_rfl) (by kernel_rfl) (fun _ _ _ h => h) (Or.inl ⟨by rfl, ?_⟩) hS ?_
          rotate_left
          · intro w hSw
            obtain ⟨_, _, _, _, _, _, _, _, _, _, _⟩ := hSw
            go_simp
            try with_reducible rfl
          simp only [Act.put, List.setIfInBounds_toArray, List.set_cons_zero, List.set_cons_succ]
          refine anyN_takeR 14 (v := ?_) rfl (by kernel_rfl) (by kernel_rfl) (by kernel_rfl) (by kernel_rfl) (fun _ _ _ h => h) (Or.inl ⟨by rfl, ?_⟩) hS ?_
          rotate_left
          · intro w hSw
            obtain ⟨_, _, _, _, _, _, _, _, _, _, _⟩ := hSw
            go_simp
            try with_reducible rfl
          simp only [Act.put, List.setIfInBounds_toArray, List.set_cons_zero, List.set_cons_succ]
          refine anyN_takeR 15 (v := ?_) rfl (by kernel_rfl) (by kernel_rfl) (by kernel_rfl) (by kernel_rfl) (fun _ _ _ h => h) (Or.inl ⟨by rfl, ?_⟩) hS ?_
          rotate_left
          · intro w hSw
            obtain ⟨_, _, _, _, _, _, _, _, _, _, _⟩ := hSw
            go_simp
            try with_reducible rfl
          simp only [Act.put, List.setIfInBounds_toArray, List.set_cons_zero, List.set_cons_succ]
          refine anyN_takeR 16 (v := ?_) rfl (by kernel_rfl) (by kernel_rfl) (by kernel_rfl) (by kernel_rfl) (fun _ _ _ h => h) (Or.inl ⟨by rfl, ?_⟩) hS ?_
          rotate_left
          · intro w hSw
            obtain ⟨_, _, _, _, _, _, _, _, _, _, _⟩ := hSw
            go_simp
            try with_reducible rfl
          simp only [Act.put, List.setIfInBounds_toArray, List.set_cons_zero, List.set_cons_succ]
          refine anyN_takeR 17 (v := ?_) rfl (by kernel_rfl) (by kernel_rfl) (by kernel_rfl) (by kernel_rfl) (fun _ _ _ h => h) (Or.inl ⟨by rfl, ?_⟩) hS ?_
          rotate_left
          · intro w hSw
            obtain ⟨_, _, _, _, _, _, _, _, _, _, _⟩ := hSw
            go_simp
            try with_reducible rfl
          simp only [Act.put, List.setIfInBounds_toArray, List.set_cons_zero, List.set_cons_succ]
          refine anyN_takeR 18 (v := ?_) rfl (by kernel_rfl) (by kernel_rfl) (by kernel_rfl) (by kernel_rfl) (fun _ _ _ h => h) (Or.inl ⟨by rfl, ?_⟩) hS ?_
          rotate_left
          · intro w hSw
            obtain ⟨_, _, _, _, _, _, _, _, _, _, _⟩ := hSw
            go_simp
            try with_reducible rfl
          simp only [Act.put, List.setIfInBounds_toArray, List.set_cons_zero, List.set_cons_succ]
          refine anyN_takeR 19 (v := ?_) rfl (by kernel_rfl) (by kernel_rfl) (by kernel_rfl) (by kernel_rfl) (fun _ _ _ h => h) (Or.inl ⟨by rfl, ?_⟩) hS ?_
          rotate_left
          · intro w hSw
            obtain ⟨_, _, _, _, _, _, _, _, _, _, _⟩ := hSw
            go_simp
            try with_reducible rfl
          simp only [Act.put, List.setIfInBounds_toArray, List.set_cons_zero, List.set_cons_succ]
          refine anyN_takeR 20 (v := ?_) rfl (by kernel_rfl) (by kernel_rfl) (by kernel_rfl) (by kernel_rfl) (fun _ _ _ h => h) (Or.inl ⟨by rfl, ?_⟩) hS ?_
          rotate_left
          · intro w hSw
            obtain ⟨_, _, _, _, _, _, _, _, _, _, _⟩ := hSw
            go_simp
            try with_reducible rfl
          simp only [Act.put, List.setIfInBounds_toArray, List.set_cons_zero, List.set_cons_succ]
          refine anyN_takeR 21 (v := ?_) rfl (by kernel_rfl) (by kernel_rfl) (by kernel_rfl) (by kernel_rfl) (fun _ _ _ h => h) (Or.inl ⟨by rfl, ?_⟩) hS ?_
          rotate_left
          · intro w hSw
            obtain ⟨_, _, _, _, _, _, _, _, _, _, _⟩ := hSw
            go_simp
            try with_reducible rfl
          simp only [Act.put, List.setIfInBounds_toArray, List.set_cons_zero, List.set_cons_succ]
          refine anyN_takeR 22 (v := ?_) rfl (by kernel_rfl) (by kernel_rfl) (by kernel_rfl) (by kernel_rfl) (fun _ _ _ h => h) (Or.inl ⟨by rfl, ?_⟩) hS ?_
          rotate_left
          · intro w hSw
            obtain ⟨_, _, _, _, _, _, _, _, _, _, _⟩ := hSw
            go_simp
            try with_reducible rfl
          simp only [Act.put, List.setIfInBounds_toArray, List.set_cons_zero, List.set_cons_succ]
          refine anyN_takeR 23 (v := ?_) rfl (by kernel_rfl) (by kernel_rfl) (by kernel_rfl) (by kernel_rfl) (fun _ _ _ h => h) (Or.inl ⟨by rfl, ?_⟩) hS ?_
          rotate_left
          · intro w hSw
            obtain ⟨_, _, _, _, _, _, _, _, _, _, _⟩ := hSw
            go_simp
            try with_reducible rfl
          simp only [Act.put, List.setIfInBounds_toArray, List.set_cons_zero, List.set_cons_succ]
          refine anyN_takeR 24 (v := ?_) rfl (by kernel_rfl) (by kernel_rfl) (by kernel_rfl) (by kernel_rfl) (fun _ _ _ h => h) (Or.inl ⟨by rfl, ?_⟩) hS ?_
          rotate_left
          · intro w hSw
            obtain ⟨_, _, _, _, _, _, _, _, _, _, _⟩ := hSw
            go_simp
            try with_reducible rfl
          simp only [Act.put, List.setIfInBounds_toArray, List.set_cons_zero, List.set_cons_succ]
          refine anyN_takeR 25 (v := ?_) rfl (by kernel_rfl) (by kernel_rfl) (by kernel_rfl) (by kernel_rfl) (fun _ _ _ h => h) (Or.inl ⟨by rfl, ?_⟩) hS ?_
          rotate_left
          · intro w hSw
            obtain ⟨_, _, _, _, _, _, _, _, _, _, _⟩ := hSw
            go_simp
            try with_reducible rfl
          simp only [Act.put, List.setIfInBounds_toArray, List.set_cons_zero, List.set_cons_succ]
          refine anyN_takeR 26 (v := ?_) rfl (by kernel_rfl) (by kernel_rfl) (by kernel_rfl) (by kernel_rfl) (fun _ _ _ h => h) (Or.inl ⟨by rfl, ?_⟩) hS ?_
          rotate_left
          · intro w hSw
            obtain ⟨_, _, _, _, _, _, _, _, _, _, _⟩ := hSw
            go_simp
            try with_reducible rfl
          simp only [Act.put, List.setIfInBounds_toArray, List.set_cons_zero, List.set_cons_succ]
          refine anyN_takeR 27 (v := ?_) rfl (by kernel_rfl) (by kernel_rfl) (by kernel_rfl) (by kernel_rfl) (fun _ _ _ h => h) (Or.inl ⟨by rfl, ?_⟩) hS ?_
          rotate_left
          · intro w hSw
            obtain ⟨_, _, _, _, _, _, _, _, _, _, _⟩ := hSw
            go_simp
            try with_reducible rfl
          simp only [Act.put, List.setIfInBounds_toArray, List.set_cons_zero, List.set_cons_succ]
          refine anyN_takeR 28 (v := ?_) rfl (by kernel_rfl) (by kernel_rfl) (by kernel_rfl) (by kernel_rfl) (fun _ _ _ h => h) (Or.inl ⟨by rfl, ?_⟩) hS ?_
          rotate_left
          · intro w hSw
            obtain ⟨_, _, _, _, _, _, _, _, _, _, _⟩ := hSw
            go_simp
            try with_reducible rfl
          simp only [Act.put, List.setIfInBounds_toArray, List.set_cons_zero, List.set_cons_succ]
          refine anyN_takeR 29 (v := ?_) rfl (by kernel_rfl) (by kernel_rfl) (by kernel_rfl) (by kernel_rfl) (fun _ _ _ h => h) (Or.inl ⟨by rfl, ?_⟩) hS ?_
          rotate_left
          · intro w hSw
            obtain ⟨_, _, _, _, _, _, _, _, _, _, _⟩ := hSw
            go_simp
            try with_reducible rfl
          simp only [Act.put, List.setIfInBounds_toArray, List.set_cons_zero, List.set_cons_succ]
          refine anyN_takeR 30 (v := ?_) rfl (by kernel_rfl) (by kernel_rfl) (by kernel_rfl) (by kernel_rfl) (fun _ _ _ h => h) (Or.inl ⟨by rfl, ?_⟩) hS ?_
          rotate_left
          · intro w hSw
            obtain ⟨_, _, _, _, _, _, _, _, _, _, _⟩ := hSw
            go_simp
            try with_reducible rfl
          simp only [Act.put, List.setIfInBounds_toArray, List.set_cons_zero, List.set_cons_succ]
          refine anyN_takeR 31 (v := ?_) rfl (by kernel_rfl) (by kernel_rfl) (by kernel_rfl) (by kernel_rfl) (fun _ _ _ h => h) (Or.inl ⟨by rfl, ?_⟩) hS ?_
          rotate_left
          · intro w hSw
            obtain ⟨_, _, _, _, _, _, _, _, _, _, _⟩ := hSw
            go_simp
            try with_reducible rfl
          simp only [Act.put, List.setIfInBounds_toArray, List.set_cons_zero, List.set_cons_succ]
          refine anyN_takeR 32 (v := ?_) rfl (by kernel_rfl) (by kernel_rfl) (by kernel_rfl) (by kernel_rfl) (fun _ _ _ h => h) (Or.inl ⟨by rfl, ?_⟩) hS ?_
          rotate_left
          · intro w hSw
            obtain ⟨_, _, _, _, _, _, _, _, _, _, _⟩ := hSw
            go_simp
            try with_reducible rfl
          simp only [Act.put, List.setIfInBounds_toArray, List.set_cons_zero, List.set_cons_succ]
          refine anyN_takeR 33 (v := ?_) rfl (by kernel_rfl) (by kernel_rfl) (by kernel_rfl) (by kernel_rfl) (fun _ _ _ h => h) (Or.inl ⟨by rfl, ?_⟩) hS ?_
          rotate_left
          · intro w hSw
            obtain ⟨_, _, _, _, _, _, _, _, _, _, _⟩ := hSw
            go_simp
            try with_reducible rfl
          simp only [Act.put, List.setIfInBounds_toArray, List.set_cons_zero, List.set_cons_succ]
          refine anyN_takeR 34 (v := ?_) rfl (by kernel_rfl) (by kernel_rfl) (by kernel_rfl) (by kernel_rfl) (fun _ _ _ h => h) (Or.inl ⟨by rfl, ?_⟩) hS ?_
          rotate_left
          · intro w hSw
            obtain ⟨_, _, _, _, _, _, _, _, _, _, _⟩ := hSw
            go_simp
            try with_reducible rfl
          simp only [Act.put, List.setIfInBounds_toArray, List.set_cons_zero, List.set_cons_succ]
          refine anyN_takeR 35 (v := ?_) rfl (by kernel_rfl) (by kernel_rfl) (by kernel_rfl) (by kernel_rfl) (fun _ _ _ h => h) (Or.inl ⟨by rfl, ?_⟩) hS ?_
          rotate_left
          · intro w hSw
            obtain ⟨_, _, _, _, _, _, _, _, _, _, _⟩ := hSw
            go_simp
            try with_reducible rfl
          simp only [Act.put, List.setIfInBounds_toArray, List.set_cons_zero, List.set_cons_succ]
          refine anyN_takeR 36 (v := ?_) rfl (by kernel_rfl) (by kernel_rfl) (by kernel_rfl) (by kernel_rfl) (fun _ _ _ h => h) (Or.inl ⟨by rfl, ?_⟩) hS ?_
          rotate_left
          · intro w hSw
            obtain ⟨_, _, _, _, _, _, _, _, _, _, _⟩ := hSw
            go_simp
            try with_reducible rfl
          simp only [Act.put, List.setIfInBounds_toArray, List.set_cons_zero, List.set_cons_succ]
          refine anyN_takeR 37 (v := ?_) rfl (by kernel_rfl) (by kernel_rfl) (by kernel_rfl) (by kernel_rfl) (fun _ _ _ h => h) (Or.inl ⟨by rfl, ?_⟩) hS ?_
          rotate_left
          · intro w hSw
            obtain ⟨_, _, _, _, _, _, _, _, _, _, _⟩ := hSw
            go_simp
            try with_reducible rfl
          simp only [Act.put, List.setIfInBounds_toArray, List.set_cons_zero, List.set_cons_succ]
          refine anyN_takeR 38 (v := ?_) rfl (by kernel_rfl) (by kernel_rfl) (by kernel_rfl) (by kernel_rfl) (fun _ _ _ h => h) (Or.inl ⟨by rfl, ?_⟩) hS ?_
          rotate_left
          · intro w hSw
            obtain ⟨_, _, _, _, _, _, _, _, _, _, _⟩ := hSw
            go_simp
            try with_reducible rfl
          simp only [Act.put, List.setIfInBounds_toArray, List.set_cons_zero, List.set_cons_succ]
          refine anyN_takeR 39 (v := ?_) rfl (by kernel_rfl) (by kernel_rfl) (by kernel_rfl) (by kernel_rfl) (fun _ _ _ h => h) (Or.inl ⟨by rfl, ?_⟩) hS ?_
          rotate_left
          · intro w hSw
            obtain ⟨_, _, _, _, _, _, _, _, _, _, _⟩ := hSw
            go_simp
            try with_reducible rfl
          simp only [Act.put, List.setIfInBounds_toArray, List.set_cons_zero, List.set_cons_succ]
          refine anyN_takeR 40 (v := ?_) rfl (by kernel_rfl) (by kernel_rfl) (by kernel_rfl) (by kernel_rfl) (fun _ _ _ h => h) (Or.inl ⟨by rfl, ?_⟩) hS ?_
          rotate_left
          · intro w hSw
            obtain ⟨_, _, _, _, _, _, _, _, _, _, _⟩ := hSw
            go_simp
            try with_reducible rfl
          simp only [Act.put, List.setIfInBounds_toArray, List.set_cons_zero, List.set_cons_succ]
          refine anyN_takeR 41 (v := ?_) rfl (by kernel_rfl) (by kernel_rfl) (by kernel_rfl) (by kernel_rfl) (fun _ _ _ h => h) (Or.inl ⟨by rfl, ?_⟩) hS ?_
          rotate_left
          · intro w hSw
            obtain ⟨_, _, _, _, _, _, _, _, _, _, _⟩ := hSw
            go_simp
            try with_reducible rfl
          simp only [Act.put, List.setIfInBounds_toArray, List.set_cons_zero, List.set_cons_succ]
          refine anyN_takeR 42 (v := ?_) rfl (by kernel_rfl) (by kernel_rfl) (by kernel_rfl) (by kernel_rfl) (fun _ _ _ h => h) (Or.inl ⟨by rfl, ?_⟩) hS ?_
          rotate_left
          · intro w hSw
            obtain ⟨_, _, _, _, _, _, _, _, _, _, _⟩ := hSw
            go_simp
            try with_reducible rfl
          simp only [Act.put, List.setIfInBounds_toArray, List.set_cons_zero, List.set_cons_succ]
          refine anyN_takeR 43 (v := ?_) rfl (by kernel_rfl) (by kernel_rfl) (by kernel_rfl) (by kernel_rfl) (fun _ _ _ h => h) (Or.inl ⟨by rfl, ?_⟩) hS ?_
          rotate_left
          · intro w hSw
            obtain ⟨_, _, _, _, _, _, _, _, _, _, _⟩ := hSw
            go_simp
            try with_reducible rfl
          simp only [Act.put, List.setIfInBounds_toArray, List.set_cons_zero, List.set_cons_succ]
          refine anyN_takeR 44 (v := ?_) rfl (by kernel_rfl) (by kernel_rfl) (by kernel_rfl) (by kernel_rfl) (fun _ _ _ h => h) (Or.inl ⟨by rfl, ?_⟩) hS ?_
          rotate_left
          · intro w hSw
            obtain ⟨_, _, _, _, _, _, _, _, _, _, _⟩ := hSw
            go_simp
            try with_reducible rfl
          simp only [Act.put, List.setIfInBounds_toArray, List.set_cons_zero, List.set_cons_succ]
          refine anyN_takeR 45 (v := ?_) rfl (by kernel_rfl) (by kernel_rfl) (by kernel_rfl) (by kernel_rfl) (fun _ _ _ h => h) (Or.inl ⟨by rfl, ?_⟩) hS ?_
          rotate_left
          · intro w hSw
            obtain ⟨_, _, _, _, _, _, _, _, _, _, _⟩ := hSw
            go_simp
            try with_reducible rfl
          simp only [Act.put, List.setIfInBounds_toArray, List.set_cons_zero, List.set_cons_succ]
          refine anyN_takeR 46 (v := ?_) rfl (by kernel_rfl) (by kernel_rfl) (by kernel_rfl) (by kernel_rfl) (fun _ _ _ h => h) (Or.inl ⟨by rfl, ?_⟩) hS ?_
          rotate_left
          · intro w hSw
            obtain ⟨_, _, _, _, _, _, _, _, _, _, _⟩ := hSw
            go_simp
            try with_reducible rfl
          simp only [Act.put, List.setIfInBounds_toArray, List.set_cons_zero, List.set_cons_succ]
          refine anyN_takeR 47 (v := ?_) rfl (by kernel_rfl) (by kernel_rfl) (by kernel_rfl) (by kernel_rfl) (fun _ _ _ h => h) (Or.inl ⟨by rfl, ?_⟩) hS ?_
          rotate_left
          · intro w hSw
            obtain ⟨_, _, _, _, _, _, _, _, _, _, _⟩ := hSw
            go_simp
            try with_reducible rfl
          simp only [Act.put, List.setIfInBounds_toArray, List.set_cons_zero, List.set_cons_succ]
          refine anyN_takeR 48 (v := ?_) rfl (by kernel_rfl) (by kernel_rfl) (by kernel_rfl) (by kernel_rfl) (fun _ _ _ h => h) (Or.inl ⟨by rfl, ?_⟩) hS ?_
          rotate_left
          · intro w hSw
            obtain ⟨_, _, _, _, _, _, _, _, _, _, _⟩ := hSw
            go_simp
            try with_reducible rfl
          simp only [Act.put, List.setIfInBounds_toArray, List.set_cons_zero, List.set_cons_succ]
          refine anyN_takeR 49 (v := ?_) rfl (by kernel_rfl) (by kernel_rfl) (by kernel_rfl) (by kernel_rfl) (fun _ _ _ h => h) (Or.inl ⟨by rfl, ?_⟩) hS ?_
          rotate_left
          · intro w hSw
            obtain ⟨_, _, _, _, _, _, _, _, _, _, _⟩ := hSw
            go_simp
            try with_reducible rfl
          simp only [Act.put, List.setIfInBounds_toArray, List.set_cons_zero, List.set_cons_succ]
          refine anyN_oneG 50 rfl (by kernel_rfl) (by rfl) ?_
          go_simp
          (with_reducible refine (HC _).out.mono ?_)
          clear hS
          rintro e wz2 ⟨rfl, hk⟩
          replace HT := Lib.hid (HT.out.kp hk)
          replace HXS := Lib.hid (HXS.out.kp hk)
          replace HPC := Lib.hid (HPC.out.kp hk)
          replace HJ2 := Lib.hid (HJ2.out.trans (hk.mono HJ2.out.size))
          clear hk
          dsimp only
          refine and_keep ⟨HT.out.c0, HT.out.c1, HT.out.c2, HT.out.c3, HT.out.c4, HT.out.c5, HT.out.c6, HT.out.c7, HXS.out.c0, HXS.out.c1, HPC.out.1⟩ (fun hS => ?_)
          refine anyN_takeR 51 (v := ?_) rfl (by kernel_rfl) (by kernel_rfl) (by kernel_rfl) (by kernel_rfl) (fun _ _ _ h => h) (Or.inl ⟨by rfl, ?_⟩) hS ?_
          rotate_left
          · intro w hSw
            obtain ⟨_, _, _, _, _, _, _, _, _, _, _⟩ := hSw
            go_simp
            try with_reducible rfl
          simp only [Act.put, List.setIfInBounds_toArray, List.set_cons_zero, List.set_cons_succ]
          refine anyN_takeR 52 (v := ?_) rfl (by kernel_rfl) (by kernel_rfl) (by kernel_rfl) (by kernel_rfl) (fun _ _ _ h => h) (Or.inl ⟨by rfl, ?_⟩) hS ?_
          rotate_left
          · intro w hSw
            obtain ⟨_, _, _, _, _, _, _, _, _, _, _⟩ := hSw
            go_simp
            try with_reducible rfl
          simp only [Act.put, List.setIfInBounds_toArray, List.set_cons_zero, List.set_cons_succ]
          refine anyN_done (by kernel_rfl) ?_
          refine NoPanic.normal ?_
          clear hS
          go_wp2_with fail
          go_ret
          exact ⟨by rw [HF.out]; rfl, HK.out.trans (HJ2.out.mono HK.out.size)⟩
        rw [hb] at HC
        refine wp_region_noPanic ?_
        refine wp_region_anyN (fun w' => w'.cell? ⟨bT, 0, none⟩ = some (.int .i64 id) ∧ w'.cell? ⟨bT, 1, none⟩ = some (.int .i64 grp) ∧ w'.cell? ⟨bT, 2, none⟩ = some (.int .i64 wt) ∧ w'.cell? ⟨bT, 3, none⟩ = some (.int .i64 (p : Int)) ∧ w'.cell? ⟨bT, 4, none⟩ = some (.int .u64 mask) ∧ w'.cell? ⟨bT, 5, none⟩ = some (.bool rdy) ∧ w'.cell? ⟨bT, 6, none⟩ = some (.int .u64 v) ∧ w'.cell? ⟨bT, 7, none⟩ = some (.int .u32 r') ∧ w'.cell? ⟨b0, 0, none⟩ = some (.int .i64 (lb : Int)) ∧ w'.cell? ⟨b0, 1, none⟩ = some (.slice (some ⟨b, off, none⟩) la ca) ∧ w'.cell? ⟨b, off + i' * 8, none⟩ = some (.int .i64 pv)) 53 (by kernel_rfl) ?_
        have kd : Kp w2.heap.size w2 w2.drew := (Kp.refl _ _).drewN 1
        replace HT := Lib.hid (HT.out.kp kd)
        replace HXS := Lib.hid (HXS.out.kp kd)
        replace HPC := Lib.hid (HPC.out.kp kd)
        replace HJ2 := Lib.hid (HJ2.out.trans (kd.mono HJ2.out.size))
        clear kd
        generalize w2.drew = wy1 at *
        have hS : wy1.cell? ⟨bT, 0, none⟩ = some (.int .i64 id) ∧ wy1.cell? ⟨bT, 1, none⟩ = some (.int .i64 grp) ∧ wy1.cell? ⟨bT, 2, none⟩ = some (.int .i64 wt) ∧ wy1.cell? ⟨bT, 3, none⟩ = some (.int .i64 (p : Int)) ∧ wy1.cell? ⟨bT, 4, none⟩ = some (.int .u64 mask) ∧ wy1.cell? ⟨bT, 5, none⟩ = some (.bool rdy) ∧ wy1.cell? ⟨bT, 6, none⟩ = some (.int .u64 v) ∧ wy1.cell? ⟨bT, 7, none⟩ = some (.int .u32 r') ∧ wy1.cell? ⟨b0, 0, none⟩ = some (.int .i64 (lb : Int)) ∧ wy1.cell? ⟨b0, 1, none⟩ = some (.slice (some ⟨b, off, none⟩) la ca) ∧ wy1.cell? ⟨b, off + i' * 8, none⟩ = some (.int .i64 pv) := ⟨HT.out.c0, HT.out.c1, HT.out.c2, HT.out.c3, HT.out.c4, HT.out.c5, HT.out.c6, HT.out.c7, HXS.out.c0, HXS.out.c1, HPC.out.1⟩
        refine anyN_takeR 0 (v := ?_) rfl (by kernel_rfl) (by kernel_rfl) (by kernel_rfl) (by kernel_rfl) (fun _ _ _ h => h) (Or.inl ⟨by rfl, ?_⟩) hS ?_
        rotate_left
        · intro w hSw
          obtain ⟨_, _, _, _, _, _, _, _, _, _, _⟩ := hSw
          go_simp
          try with_reducible rfl
        simp only [Act.put, List.setIfInBounds_toArray, List.set_cons_zero, List.set_cons_succ]
        refine anyN_takeR 1 (v := ?_) rfl (by kernel_rfl) (by kernel_rfl) (by kernel_rfl) (by kernel_rfl) (fun _ _ _ h => h) (Or.inl ⟨by rfl, ?_⟩) hS ?_
        rotate_left
        · intro w hSw
          obtain ⟨_, _, _, _, _, _, _, _, _, _, _⟩ := hSw
          go_simp
          try with_reducible rfl
        simp only [Act.put, List.setIfInBounds_toArray, List.set_cons_zero, List.set_cons_succ]
        refine anyN_takeR 2 (v := ?_) rfl (by kernel_rfl) (by kernel_rfl) (by kernel_rfl) (by kernel_rfl) (fun _ _ _ h => h) (Or.inl ⟨by rfl, ?_⟩) hS ?_
        rotate_left
        · intro w hSw
          obtain ⟨_, _, _, _, _, _, _, _, _, _, _⟩ := hSw
          go_simp
          try with_reducible rfl
        simp only [Act.put, List.setIfInBounds_toArray, List.set_cons_zero, List.set_cons_succ]
        refine anyN_takeR 3 (v := ?_) rfl (by kernel_rfl) (by kernel_rfl) (by kernel_rfl) (by kernel_rfl) (fun _ _ _ h => h) (Or.inl ⟨by rfl, ?_⟩) hS ?_
        rotate_left
        · intro w hSw
          obtain ⟨_, _, _, _, _, _, _, _, _, _, _⟩ := hSw
          go_simp
          try with_reducible rfl
        simp only [Act.put, List.setIfInBounds_toArray, List.set_cons_zero, List.set_cons_succ]
        refine anyN_takeR 4 (v := ?_) rfl (by kernel_rfl) (by kernel_rfl) (by kernel_rfl) (by kernel_rfl) (fun _ _ _ h => h) (Or.inl ⟨by rfl, ?_⟩) hS ?_
        rotate_left
        · intro w hSw
          obtain ⟨_, _, _, _, _, _, _, _, _, _, _⟩ := hSw
          go_simp
          try with_reducible rfl
        simp only [Act.put, List.setIfInBounds_toArray, List.set_cons_zero, List.set_cons_succ]
        refine anyN_takeR 5 (v := ?_) rfl (by kernel_rfl) (by kernel_rfl) (by kernel_rfl) (by kernel_rfl) (fun _ _ _ h => h) (Or.inl ⟨by rfl, ?_⟩) hS ?_
        rotate_left
        · intro w hSw
          obtain ⟨_, _, _, _, _, _, _, _, _, _, _⟩ := hSw
          go_simp
          try with_reducible rfl
        simp only [Act.put, List.setIfInBounds_toArray, List.set_cons_zero, List.set_cons_succ]
        refine anyN_takeR 6 (v := ?_) rfl (by kernel_rfl) (by kernel_rfl) (by kernel_rfl) (by kernel_rfl) (fun _ _ _ h => h) (Or.inl ⟨by rfl, ?_⟩) hS ?_
        rotate_left
        · intro w hSw
          obtain ⟨_, _, _, _, _, _, _, _, _, _, _⟩ := hSw
          go_simp
          try with_reducible rfl
        simp only [Act.put, List.setIfInBounds_toArray, List.set_cons_zero, List.set_cons_succ]
        refine anyN_takeR 7 (v := ?_) rfl (by kernel_rfl) (by kernel_rfl) (by kernel_rfl) (by kernel_rfl) (fun _ _ _ h => h) (Or.inl ⟨by rfl, ?_⟩) hS ?_
        rotate_left
        · intro w hSw
          obtain ⟨_, _, _, _, _, _, _, _, _, _, _⟩ := hSw
          go_simp
          try with_reducible rfl
        simp only [Act.put, List.setIfInBounds_toArray, List.set_cons_zero, List.set_cons_succ]
        refine anyN_takeR 8 (v := ?_) rfl (by kernel_rfl) (by kernel_rfl) (by kernel_rfl) (by kernel_rfl) (fun _ _ _ h => h) (Or.inl ⟨by rfl, ?_⟩) hS ?_
        rotate_left
        · intro w hSw
          obtain ⟨_, _, _, _, _, _, _, _, _, _, _⟩ := hSw
          go_simp
          try with_reducible rfl
        simp only [Act.put, List.setIfInBounds_toArray, List.set_cons_zero, List.set_cons_succ]
        refine anyN_takeR 9 (v := ?_) rfl (by kernel_rfl) (by kernel_rfl) (by kernel_rfl) (by kernel_rfl) (fun _ _ _ h => h) (Or.inl ⟨by rfl, ?_⟩) hS ?_
        rotate_left
        · intro w hSw
          obtain ⟨_, _, _, _, _, _, _, _, _, _, _⟩ := hSw
          go_simp
          try with_reducible rfl
        simp only [Act.put, List.setIfInBounds_toArray, List.set_cons_zero, List.set_cons_succ]
        refine anyN_takeR 10 (v := ?_) rfl (by kernel_rfl) (by kernel_rfl) (by kernel_rfl) (by kernel_rfl) (fun _ _ _ h => h) (Or.inl ⟨by rfl, ?_⟩) hS ?_
        rotate_left
        · intro w hSw
          obtain ⟨_, _, _, _, _, _, _, _, _, _, _⟩ := hSw
          go_simp
          try with_reducible rfl
        simp only [Act.put, List.setIfInBounds_toArray, List.set_cons_zero, List.set_cons_succ]
        refine anyN_takeR 11 (v := ?_) rfl (by kernel_rfl) (by kernel_rfl) (by kernel_rfl) (by kernel_rfl) (fun _ _ _ h => h) (Or.inl ⟨by rfl, ?_⟩) hS ?_
        rotate_left
        · intro w hSw
          obtain ⟨_, _, _, _, _, _, _, _, _, _, _⟩ := hSw
          go_simp
          try with_reducible rfl
        simp only [Act.put, List.setIfInBounds_toArray, List.set_cons_zero, List.set_cons_succ]
        refine anyN_takeR 12 (v := ?_) rfl (by kernel_rfl) (by kernel_rfl) (by kernel_rfl) (by kernel_rfl) (fun _ _ _ h => h) (Or.inl ⟨by rfl, ?_⟩) hS ?_
        rotate_left
        · intro w hSw
          obtain ⟨_, _, _, _, _, _, _, _, _, _, _⟩ := hSw
          go_simp
          try with_reducible rfl
        simp only [Act.put, List.setIfInBounds_toArray, List.set_cons_zero, List.set_cons_succ]
        refine anyN_takeR 13 (v := ?_) rfl (by kernel_rfl) (by kernel_rfl) (by kernel_rfl) (by kernel_rfl) (fun _ _ _ h => h) (Or.inl ⟨by rfl, ?_⟩) hS ?_
        rotate_left
        · intro w hSw
          obtain ⟨_, _, _, _, _, _, _, _, _, _, _⟩ := hSw
          go_simp
          try with_reducible rfl
        simp only [Act.put, List.setIfInBounds_toArray, List.set_cons_zero, List.set_cons_succ]
        refine anyN_takeR 14 (v := ?_) rfl (by kernel_rfl) (by kernel_rfl) (by kernel_rfl) (by kernel_rfl) (fun _ _ _ h => h) (Or.inl ⟨by rfl, ?_⟩) hS ?_
        rotate_left
        · intro w hSw
          obtain ⟨_, _, _, _, _, _, _, _, _, _, _⟩ := hSw
          go_simp
          try with_reducible rfl
        simp only [Act.put, List.setIfInBounds_toArray, List.set_cons_zero, List.set_cons_succ]
        refine anyN_takeR 15 (v := ?_) rfl (by kernel_rfl) (by kernel_rfl) (by kernel_rfl) (by kernel_rfl) (fun _ _ _ h => h) (Or.inl ⟨by rfl, ?_⟩) hS ?_
        rotate_left
        · intro w hSw
          obtain ⟨_, _, _, _, _, _, _, _, _, _, _⟩ := hSw
          go_simp
          try with_reducible rfl
        simp only [Act.put, List.setIfInBounds_toArray, List.set_cons_zero, List.set_cons_succ]
        refine anyN_takeR 16 (v := ?_) rfl (by kernel_rfl) (by kernel_rfl) (by kernel_rfl) (by kernel_rfl) (fun _ _ _ h => h) (Or.inl ⟨by rfl, ?_⟩) hS ?_
        rotate_left
        · intro w hSw
          obtain ⟨_, _, _, _, _, _, _, _, _, _, _⟩ := hSw
          go_simp
          try with_reducible rfl
        simp only [Act.put, List.setIfInBounds_toArray, List.set_cons_zero, List.set_cons_succ]
        refine anyN_takeR 17 (v := ?_) rfl (by kernel_rfl) (by kernel_rfl) (by kernel_rfl) (by kernel_rfl) (fun _ _ _ h => h) (Or.inl ⟨by rfl, ?_⟩) hS ?_
        rotate_left
        · intro w hSw
          obtain ⟨_, _, _, _, _, _, _, _, _, _, _⟩ := hSw
          go_simp
          try with_reducible rfl
        simp only [Act.put, List.setIfInBounds_toArray, List.set_cons_zero, List.set_cons_succ]
        refine anyN_takeR 18 (v := ?_) rfl (by kernel_rfl) (by kernel_rfl) (by kernel_rfl) (by kernel_rfl) (fun _ _ _ h => h) (Or.inl ⟨by rfl, ?_⟩) hS ?_
        rotate_left
        · intro w hSw
          obtain ⟨_, _, _, _, _, _, _, _, _, _, _⟩ := hSw
          go_simp
          try with_reducible rfl
        simp only [Act.put, List.setIfInBounds_toArray, List.set_cons_zero, List.set_cons_succ]
        refine anyN_takeR 19 (v := ?_) rfl (by kernel_rfl) (by kernel_rfl) (by kernel_rfl) (by kernel_rfl) (fun _ _ _ h => h) (Or.inl ⟨by rfl, ?_⟩) hS ?_
        rotate_left
        · intro w hSw
          obtain ⟨_, _, _, _, _, _, _, _, _, _, _⟩ := hSw
          go_simp
          try with_reducible rfl
        simp only [Act.put, List.setIfInBounds_toArray, List.set_cons_zero, List.set_cons_succ]
        refine anyN_takeR 20 (v := ?_) rfl (by kernel_rfl) (by kernel_rfl) (by kernel_rfl) (by kernel_rfl) (fun _ _ _ h => h) (Or.inl ⟨by rfl, ?_⟩) hS ?_
        rotate_left
        · intro w hSw
          obtain ⟨_, _, _, _, _, _, _, _, _, _, _⟩ := hSw
          go_simp
          try with_reducible rfl
        simp only [Act.put, List.setIfInBounds_toArray, List.set_cons_zero, List.set_cons_succ]
        refine anyN_takeR 21 (v := ?_) rfl (by kernel_rfl) (by kernel_rfl) (by kernel_rfl) (by kernel_rfl) (fun _ _ _ h => h) (Or.inl ⟨by rfl, ?_⟩) hS ?_
        rotate_left
        · intro w hSw
          obtain ⟨_, _, _, _, _, _, _, _, _, _, _⟩ := hSw
          go_simp
          try with_reducible rfl
        simp only [Act.put, List.setIfInBounds_toArray, List.set_cons_zero, List.set_cons_succ]
        refine anyN_takeR 22 (v := ?_) rfl (by kernel_rfl) (by kernel_rfl) (by kernel_rfl) (by kernel_rfl) (fun _ _ _ h => h) (Or.inl ⟨by rfl, ?_⟩) hS ?_
        rotate_left
        · intro w hSw
          obtain ⟨_, _, _, _, _, _, _, _, _, _, _⟩ := hSw
          go_simp
          try with_reducible rfl
        simp only [Act.put, List.setIfInBounds_toArray, List.set_cons_zero, List.set_cons_succ]
        refine anyN_takeR 23 (v := ?_) rfl (by kernel_rfl) (by kernel_rfl) (by kernel_rfl) (by kernel_rfl) (fun _ _ _ h => h) (Or.inl ⟨by rfl, ?_⟩) hS ?_
        rotate_left
        · intro w hSw
          obtain ⟨_, _, _, _, _, _, _, _, _, _, _⟩ := hSw
          go_simp
          try with_reducible rfl
        simp only [Act.put, List.setIfInBounds_toArray, List.set_cons_zero, List.set_cons_succ]
        refine anyN_takeR 24 (v := ?_) rfl (by kernel_rfl) (by kernel_rfl) (by kernel_rfl) (by kernel_rfl) (fun _ _ _ h => h) (Or.inl ⟨by rfl, ?_⟩) hS ?_
        rotate_left
        · intro w hSw
          obtain ⟨_, _, _, _, _, _, _, _, _, _, _⟩ := hSw
          go_simp
          try with_reducible rfl
        simp only [Act.put, List.setIfInBounds_toArray, List.set_cons_zero, List.set_cons_succ]
        refine anyN_takeR 25 (v := ?_) rfl (by kernel_rfl) (by kernel_rfl) (by kernel_rfl) (by kernel_rfl) (fun _ _ _ h => h) (Or.inl ⟨by rfl, ?_⟩) hS ?_
        rotate_left
        · intro w hSw
          obtain ⟨_, _, _, _, _, _, _, _, _, _, _⟩ := hSw
          go_simp
          try with_reducible rfl
        simp only [Act.put, List.setIfInBounds_toArray, List.set_cons_zero, List.set_cons_succ]
        refine anyN_takeR 26 (v := ?_) rfl (by kernel_rfl) (by kernel_rfl) (by kernel_rfl) (by kernel_rfl) (fun _ _ _ h => h) (Or.inl ⟨by rfl, ?_⟩) hS ?_
        rotate_left
        · intro w hSw
          obtain ⟨_, _, _, _, _, _, _, _, _, _, _⟩ := hSw
          go_simp
          try with_reducible rfl
        simp only [Act.put, List.setIfInBounds_toArray, List.set_cons_zero, List.set_cons_succ]
        refine anyN_takeR 27 (v := ?_) rfl (by kernel_rfl) (by kernel_rfl) (by kernel_rfl) (by kernel_rfl) (fun _ _ _ h => h) (Or.inl ⟨by rfl, ?_⟩) hS ?_
        rotate_left
        · intro w hSw
          obtain ⟨_, _, _, _, _, _, _, _, _, _, _⟩ := hSw
          go_simp
          try with_reducible rfl
        simp only [Act.put, List.setIfInBounds_toArray, List.set_cons_zero, List.set_cons_succ]
        refine anyN_takeR 28 (v := ?_) rfl (by kernel_rfl) (by kernel_rfl) (by kernel_rfl) (by kernel_rfl) (fun _ _ _ h => h) (Or.inl ⟨by rfl, ?_⟩) hS ?_
        rotate_left
        · intro w hSw
          obtain ⟨_, _, _, _, _, _, _, _, _, _, _⟩ := hSw
          go_simp
          try with_reducible rfl
        simp only [Act.put, List.setIfInBounds_toArray, List.set_cons_zero, List.set_cons_succ]
        refine anyN_takeR 29 (v := ?_) rfl (by kernel_rfl) (by kernel_rfl) (by kernel_rfl) (by kernel_rfl) (fun _ _ _ h => h) (Or.inl ⟨by rfl, ?_⟩) hS ?_
        rotate_left
        · intro w hSw
          obtain ⟨_, _, _, _, _, _, _, _, _, _, _⟩ := hSw
          go_simp
          try with_reducible rfl
        simp only [Act.put, List.setIfInBounds_toArray, List.set_cons_zero, List.set_cons_succ]
        refine anyN_takeR 30 (v := ?_) rfl (by kernel_rfl) (by kernel_rfl) (by kernel_rfl) (by kernel_rfl) (fun _ _ _ h => h) (Or.inl ⟨by rfl, ?_⟩) hS ?_
        rotate_left
        · intro w hSw
          obtain ⟨_, _, _, _, _, _, _, _, _, _, _⟩ := hSw
          go_simp
          try with_reducible rfl
        simp only [Act.put, List.setIfInBounds_toArray, List.set_cons_zero, List.set_cons_succ]
        refine anyN_takeR 31 (v := ?_) rfl (by kernel_rfl) (by kernel_rfl) (by kernel_rfl) (by kernel_rfl) (fun _ _ _ h => h) (Or.inl ⟨by rfl, ?_⟩) hS ?_
        rotate_left
        · intro w hSw
          obtain ⟨_, _, _, _, _, _, _, _, _, _, _⟩ := hSw
          go_simp
          try with_reducible rfl
        simp only [Act.put, List.setIfInBounds_toArray, List.set_cons_zero, List.set_cons_succ]
        refine anyN_takeR 32 (v := ?_) rfl (by kernel_rfl) (by kernel_rfl) (by kernel_rfl) (by kernel_rfl) (fun _ _ _ h => h) (Or.inl ⟨by rfl, ?_⟩) hS ?_
        rotate_left
        · intro w hSw
          obtain ⟨_, _, _, _, _, _, _, _, _, _, _⟩ := hSw
          go_simp
          try with_reducible rfl
        simp only [Act.put, List.setIfInBounds_toArray, List.set_cons_zero, List.set_cons_succ]
        refine anyN_takeR 33 (v := ?_) rfl (by kernel_rfl) (by kernel_rfl) (by kernel_rfl) (by kernel_rfl) (fun _ _ _ h => h) (Or.inl ⟨by rfl, ?_⟩) hS ?_
        rotate_left
        · intro w hSw
          obtain ⟨_, _, _, _, _, _, _, _, _, _, _⟩ := hSw
          go_simp
          try with_reducible rfl
        simp only [Act.put, List.setIfInBounds_toArray, List.set_cons_zero, List.set_cons_succ]
        refine anyN_takeR 34 (v := ?_) rfl (by kernel_rfl) (by kernel_rfl) (by kernel_rfl) (by kernel_rfl) (fun _ _ _ h => h) (Or.inl ⟨by rfl, ?_⟩) hS ?_
        rotate_left
        · intro w hSw
          obtain ⟨_, _, _, _, _, _, _, _, _, _, _⟩ := hSw
          go_simp
          try with_reducible rfl
        simp only [Act.put, List.setIfInBounds_toArray, List.set_cons_zero, List.set_cons_succ]
        refine anyN_takeR 35 (v := ?_) rfl (by kernel_rfl) (by kernel_rfl) (by kernel_rfl) (by kernel_rfl) (fun _ _ _ h => h) (Or.inl ⟨by rfl, ?_⟩) hS ?_
        rotate_left
        · intro w hSw
          obtain ⟨_, _, _, _, _, _, _, _, _, _, _⟩ := hSw
          go_simp
          try with_reducible rfl
        simp only [Act.put, List.setIfInBounds_toArray, List.set_cons_zero, List.set_cons_succ]
        refine anyN_takeR 36 (v := ?_) rfl (by kernel_rfl) (by kernel_rfl) (by kernel_rfl) (by kernel_rfl) (fun _ _ _ h => h) (Or.inl ⟨by rfl, ?_⟩) hS ?_
        rotate_left
        · intro w hSw
          obtain ⟨_, _, _, _, _, _, _, _, _, _, _⟩ := hSw
          go_simp
          try with_reducible rfl
        simp only [Act.put, List.setIfInBounds_toArray, List.set_cons_zero, List.set_cons_succ]
        refine anyN_takeR 37 (v := ?_) rfl (by kernel_rfl) (by kernel_rfl) (by kernel_rfl) (by kernel_rfl) (fun _ _ _ h => h) (Or.inl ⟨by rfl, ?_⟩) hS ?_
        rotate_left
        · intro w hSw
          obtain ⟨_, _, _, _, _, _, _, _, _, _, _⟩ := hSw
          go_simp
          try with_reducible rfl
        simp only [Act.put, List.setIfInBounds_toArray, List.set_cons_zero, List.set_cons_succ]
        refine anyN_takeR 38 (v := ?_) rfl (by kernel_rfl) (by kernel_rfl) (by kernel_rfl) (by kernel_rfl) (fun _ _ _ h => h) (Or.inl ⟨by rfl, ?_⟩) hS ?_
        rotate_left
        · intro w hSw
          obtain ⟨_, _, _, _, _, _, _, _, _, _, _⟩ := hSw
          go_simp
          try with_reducible rfl
        simp only [Act.put, List.setIfInBounds_toArray, List.set_cons_zero, List.set_cons_succ]
        refine anyN_takeR 39 (v := ?_) rfl (by kernel_rfl) (by kernel_rfl) (by kernel_rfl) (by kernel_rfl) (fun _ _ _ h => h) (Or.inl ⟨by rfl, ?_⟩) hS ?_
        rotate_left
        · intro w hSw
          obtain ⟨_, _, _, _, _, _, _, _, _, _, _⟩ := hSw
          go_simp
          try with_reducible rfl
        simp only [Act.put, List.setIfInBounds_toArray, List.set_cons_zero, List.set_cons_succ]
        refine anyN_takeR 40 (v := ?_) rfl (by kernel_rfl) (by kernel_rfl) (by kernel_rfl) (by kernel_rfl) (fun _ _ _ h => h) (Or.inl ⟨by rfl, ?_⟩) hS ?_
        rotate_left
        · intro w hSw
          obtain ⟨_, _, _, _, _, _, _, _, _, _, _⟩ := hSw
          go_simp
          try with_reducible rfl
        simp only [Act.put, List.setIfInBounds_toArray, List.set_cons_zero, List.set_cons_succ]
        refine anyN_takeR 41 (v := ?_) rfl (by kernel_rfl) (by kernel_rfl) (by kernel_rfl) (by kernel_rfl) (fun _ _ _ h => h) (Or.inl ⟨by rfl, ?_⟩) hS ?_
        rotate_left
        · intro w hSw
          obtain ⟨_, _, _, _, _, _, _, _, _, _, _⟩ := hSw
          go_simp
          try with_reducible rfl
        simp only [Act.put, List.setIfInBounds_toArray, List.set_cons_zero, List.set_cons_succ]
        refine anyN_takeR 42 (v := ?_) rfl (by kernel_rfl) (by kernel_rfl) (by kernel_rfl) (by kernel_rfl) (fun _ _ _ h => h) (Or.inl ⟨by rfl, ?_⟩) hS ?_
        rotate_left
        · intro w hSw
          obtain ⟨_, _, _, _, _, _, _, _, _, _, _⟩ := hSw
          go_simp
          try with_reducible rfl
        simp only [Act.put, List.setIfInBounds_toArray, List.set_cons_zero, List.set_cons_succ]
        refine anyN_takeR 43 (v := ?_) rfl (by kernel_rfl) (by kernel_rfl) (by kernel_rfl) (by kernel_rfl) (fun _ _ _ h => h) (Or.inl ⟨by rfl, ?_⟩) hS ?_
        rotate_left
        · intro w hSw
          obtain ⟨_, _, _, _, _, _, _, _, _, _, _⟩ := hSw
          go_simp
          try with_reducible rfl
        simp only [Act.put, List.setIfInBounds_toArray, List.set_cons_zero, List.set_cons_succ]
        refine anyN_takeR 44 (v := ?_) rfl (by kernel_rfl) (by kernel_rfl) (by kernel_rfl) (by kernel_rfl) (fun _ _ _ h => h) (Or.inl ⟨by rfl, ?_⟩) hS ?_
        rotate_left
        · intro w hSw
          obtain ⟨_, _, _, _, _, _, _, _, _, _, _⟩ := hSw
          go_simp
          try with_reducible rfl
        simp only [Act.put, List.setIfInBounds_toArray, List.set_cons_zero, List.set_cons_succ]
        refine anyN_takeR 45 (v := ?_) rfl (by kernel_rfl) (by kernel_rfl) (by kernel_rfl) (by kernel_rfl) (fun _ _ _ h => h) (Or.inl ⟨by rfl, ?_⟩) hS ?_
        rotate_left
        · intro w hSw
          obtain ⟨_, _, _, _, _, _, _, _, _, _, _⟩ := hSw
          go_simp
          try with_reducible rfl
        simp only [Act.put, List.setIfInBounds_toArray, List.set_cons_zero, List.set_cons_succ]
        refine anyN_takeR 46 (v := ?_) rfl (by kernel_rfl) (by kernel_rfl) (by kernel_rfl) (by kernel_rfl) (fun _ _ _ h => h) (Or.inl ⟨by rfl, ?_⟩) hS ?_
        rotate_left
        · intro w hSw
          obtain ⟨_, _, _, _, _, _, _, _, _, _, _⟩ := hSw
          go_simp
          try with_reducible rfl
        simp only [Act.put, List.setIfInBounds_toArray, List.set_cons_zero, List.set_cons_succ]
        refine anyN_takeR 47 (v := ?_) rfl (by kernel_rfl) (by kernel_rfl) (by kernel_rfl) (by kernel_rfl) (fun _ _ _ h => h) (Or.inl ⟨by rfl, ?_⟩) hS ?_
        rotate_left
        · intro w hSw
          obtain ⟨_, _, _, _, _, _, _, _, _, _, _⟩ := hSw
          go_simp
          try with_reducible rfl
        simp only [Act.put, List.setIfInBounds_toArray, List.set_cons_zero, List.set_cons_succ]
        refine anyN_takeR 48 (v := ?_) rfl (by kernel_rfl) (by kernel_rfl) (by kernel_rfl) (by kernel_rfl) (fun _ _ _ h => h) (Or.inl ⟨by rfl, ?_⟩) hS ?_
        rotate_left
        · intro w hSw
          obtain ⟨_, _, _, _, _, _, _, _, _, _, _⟩ := hSw
          go_simp
          try with_reducible rfl
        simp only [Act.put, List.setIfInBounds_toArray, List.set_cons_zero, List.set_cons_succ]
        refine anyN_takeR 49 (v := ?_) rfl (by kernel_rfl) (by kernel_rfl) (by kernel_rfl) (by kernel_rfl) (fun _ _ _ h => h) (Or.inl ⟨by rfl, ?_⟩) hS ?_
        rotate_left
        · intro w hSw
          obtain ⟨_, _, _, _, _, _, _, _, _, _, _⟩ := hSw
          go_simp
          try with_reducible rfl
        simp only [Act.put, List.setIfInBounds_toArray, List.set_cons_zero, List.set_cons_succ]
        refine anyN_oneG 50 rfl (by kernel_rfl) (by rfl) ?_
        go_simp
        (with_reducible refine (HC _).out.mono ?_)
        clear hS
        rintro e wy2 ⟨rfl, hk⟩
        replace HT := Lib.hid (HT.out.kp hk)
        replace HXS := Lib.hid (HXS.out.kp hk)
        replace HPC := Lib.hid (HPC.out.kp hk)
        replace HJ2 := Lib.hid (HJ2.out.trans (hk.mono HJ2.out.size))
        clear hk
        dsimp only
        refine and_keep ⟨HT.out.c0, HT.out.c1, HT.out.c2, HT.out.c3, HT.out.c4, HT.out.c5, HT.out.c6, HT.out.c7, HXS.out.c0, HXS.out.c1, HPC.out.1⟩ (fun hS => ?_)
        refine anyN_takeR 51 (v := ?_) rfl (by kernel_rfl) (by kernel_rfl) (by kernel_rfl) (by kernel_rfl) (fun _ _ _ h => h) (Or.inl ⟨by rfl, ?_⟩) hS ?_
        rotate_left
        · intro w hSw
          obtain ⟨_, _, _, _, _, _, _, _, _, _, _⟩ := hSw
          go_simp
          try with_reducible rfl
        simp only [Act.put, List.setIfInBounds_toArray, List.set_cons_zero, List.set_cons_succ]
        refine anyN_takeR 52 (v := ?_) rfl (by kernel_rfl) (by kernel_rfl) (by kernel_rfl) (by kernel_rfl) (fun _ _ _ h => h) (Or.inl ⟨by rfl, ?_⟩) hS ?_
        rotate_left
        · intro w hSw
          obtain ⟨_, _, _, _, _, _, _, _, _, _, _⟩ := hSw
          go_simp
          try with_reducible rfl
        simp only [Act.put, List.setIfInBounds_toArray, List.set_cons_zero, List.set_cons_succ]
        refine anyN_done (by kernel_rfl) ?_
        refine NoPanic.normal ?_
        clear hS
        obtain ⟨x0, x1, x2, xl⟩ := HXS.out
        go_wp2_with fail
        clear x0 x1 x2 xl
        go_loopw [5] (fun c wq => ∃ k : Nat, lb ≤ k ∧ k ≤ 64 ∧ c = .int .i64 (k : Int) ∧ (∀ c' : Nat, lb ≤ c' → c' < k → hasB mask (c' : Int) = false) ∧ Kp wy2.heap.size wy2 wq) (fun c _ => 64 - (intOf c).toNat)
        case atStart => exact ⟨lb, Nat.le_refl _, hl64, rfl, (fun c' h1 h2 => by omega), Kp.refl _ _⟩
        case round =>
          obtain ⟨k, hk0, hk1, rfl, hall, hkq⟩ := hrel
          have HALL := Lib.hid hall
          have HKQ := Lib.hid hkq
          clear hall hkq
          have HTq := HT.out.kp HKQ.out
          obtain ⟨c0, c1, c2, c3, c4, c5, c6, c7, cl⟩ := HTq
          simp only [Nat.zero_add] at c0 c1 c2 c3 c4 c5 c6 c7
          by_cases hk : k < 64
          · have hki : (k : Int) < 64 := by omega
            have HM := HMY k hk1 wr
            cases hbk : hasB mask (k : Int)
            · rw [hbk] at HM
              go_wp2_with fail
              (with_reducible refine HM.out.mono ?_)
              rintro e wv ⟨rfl, hkv⟩
              have HKV := Lib.hid (HKQ.out.trans (hkv.mono HKQ.out.size))
              clear c0 c1 c2 c3 c4 c5 c6 c7 cl hkv HKQ
              go_wp2_with fail
              go_roundw
              case rel =>
                refine ⟨k + 1, by omega, by omega, by go_num, fun c' h1 h2 => ?_, HKV.out⟩
                rcases Nat.lt_or_ge c' k with h3 | h3
                · exact HALL.out c' h1 h3
                · rw [show c' = k by omega]; exact hbk
              case measure => simp [intOf]; omega
            · rw [hbk] at HM
              have HF := FAIL (by
                have hne : ¬ mask / 2 ^ ((lb : Int)).toNat = 0 := fun e => by
                  rw [Int.toNat_natCast] at e
                  rw [bits_mask hk0 e m0] at hbk
                  cases hbk
                unfold rightT
                dsimp only
                have h64 : ((lb : Int) == 64) = false := beq_eq_false_iff_ne.2 (by omega)
                have hz : (mask / 2 ^ ((lb : Int)).toNat == 0) = false := beq_eq_false_iff_ne.2 hne
                rw [h64, hz]
                simp)
              go_wp2_with fail
              (with_reducible refine HM.out.mono ?_)
              rintro e wv ⟨rfl, hkv⟩
              have HKV := Lib.hid (HKQ.out.trans (hkv.mono HKQ.out.size))
              clear c0 c1 c2 c3 c4 c5 c6 c7 cl hkv HKQ
              go_wp2_with fail
              go_ret
              exact ⟨by rw [HF.out]; rfl, HK.out.trans ((HJ2.out.trans (HKV.out.mono HJ2.out.size)).mono HK.out.size)⟩
          · have hke : k = 64 := by omega
            subst hke
            have hkn : ¬ ((64 : Int) < 64) := by omega
            have hz := mask_bits m0 m1 hl64 (fun c' h1 h2 => HALL.out c' h1 h2)
            have hgood := hST.out (by
              unfold rightT
              dsimp only
              rw [Int.toNat_natCast, hz, hb]
              simp only [Bool.and_eq_true, decide_eq_true_eq, Bool.or_eq_true]
              refine ⟨⟨⟨⟨⟨⟨⟨?_, by omega⟩, by omega⟩, by omega⟩, by omega⟩, by omega⟩, by first | trivial | rfl⟩, by first | exact Or.inr rfl | simp⟩
              omega)
            have HG := Lib.hid hgood
            clear hgood hz
            go_wp2_with fail
            go_roundw
            case rel => exact ⟨(i' + 1) + 1, by omega, by go_num, HG.out, HJ2.out.trans (HKQ.out.mono HJ2.out.size)⟩
            case measure => simp [intOf]; omega
    · have hje : j = la := by omega
      subst hje
      have hjn : ¬ ((j : Int) < (j : Int)) := by omega
      go_wp2_with fail
      clear x0 x1 x2 xl
      have htk : s.ts.take j = s.ts := List.take_of_length_le (by rw [HSC.out.hla]; exact Nat.le_refl _)
      rw [htk] at HRT
      have HSCr := Lib.hid (HSC.out.kp HJ.out)
      have HXr := Lib.hid (HX.out.kp HJ.out)
      have HKr := Lib.hid (HK.out.trans (HJ.out.mono HK.out.size))
      clear htk HJ HX HSC
      generalize wr = w5 at *
      go_loopw [6] (fun i wr => ∃ c : Nat, c ≤ lb ∧ i = .int .i64 (c : Int) ∧ (∀ k, k < c → s.cur.getD k 0 = 0 ∨ runsB s.cur s.ts k = true) ∧ Kp w5.heap.size w5 wr) (fun i _ => lb - (intOf i).toNat)
      case atStart => exact ⟨0, Nat.zero_le _, rfl, (fun k h => absurd h (Nat.not_lt_zero k)), Kp.refl _ _⟩
      case round =>
        obtain ⟨c, hc, rfl, hall, hkq⟩ := hrel
        have HALL := Lib.hid hall
        have HJ2 := Lib.hid hkq
        clear hall hkq
        have HXS := Lib.hid (HXr.out.kp HJ2.out)
        obtain ⟨x0, x1, x2, xl⟩ := HXS.out
        by_cases hlt : c < lb
        · have hci : (c : Int) < (lb : Int) := by omega
          obtain ⟨bc, oc, rfl, hbc, cc⟩ := ((HSCr.out.kp HJ2.out).cur) c hlt
          obtain ⟨z, hz⟩ : ∃ z, z = s.cur.getD c 0 := ⟨_, rfl⟩
          rw [← hz] at cc
          have HZ := Lib.hid hz
          have HCC := Lib.hid (show At wr ⟨bc, oc + c, none⟩ (.int .i64 z) from ⟨cc, hbc⟩)
          have HFD := fun w (k : Kp w5.heap.size w5 w) => Lib.hid (find_any w (ca := ca) (cb := cb) (id := z) (HSCr.out.kp k))
          rw [← HN.out] at HFD
          have hrf := Lib.hid (runs_find (s := s) (by rw [← HN.out]; exact HRT.out) (c := c))
          rw [← HZ.out] at hrf
          have hcl : c < s.cur.length := by rw [HSCr.out.hlb]; exact hlt
          go_upto_region 17 with fail
          clear x0 x1 x2 xl cc hz
          refine wp_region_noPanic ?_
          refine wp_region_anyN (fun w' => w'.cell? ⟨b0, 0, none⟩ = some (.int .i64 (lb : Int)) ∧ w'.cell? ⟨b0, 1, none⟩ = some (.slice A j ca) ∧ w'.cell? ⟨b0, 2, none⟩ = some (.slice (some ⟨bc, oc, none⟩) lb cb) ∧ w'.cell? ⟨bc, oc + c, none⟩ = some (.int .i64 z)) 8 (by kernel_rfl) ?_
          have kd : Kp wr.heap.size wr wr.drew := (Kp.refl _ _).drewN 1
          replace HXS := Lib.hid (HXS.out.kp kd)
          replace HCC := Lib.hid (HCC.out.kp kd)
          replace HJ2 := Lib.hid (HJ2.out.trans (kd.mono HJ2.out.size))
          clear kd
          generalize wr.drew = wx1 at *
          have hS : wx1.cell? ⟨b0, 0, none⟩ = some (.int .i64 (lb : Int)) ∧ wx1.cell? ⟨b0, 1, none⟩ = some (.slice A j ca) ∧ wx1.cell? ⟨b0, 2, none⟩ = some (.slice (some ⟨bc, oc, none⟩) lb cb) ∧ wx1.cell? ⟨bc, oc + c, none⟩ = some (.int .i64 z) := ⟨HXS.out.c0, HXS.out.c1, HXS.out.c2, HCC.out.1⟩
          refine anyN_takeR 0 (v := ?_) rfl (by kernel_rfl) (by kernel_rfl) (by kernel_rfl) (by kernel_rfl) (fun _ _ _ h => h) (Or.inl ⟨by rfl, ?_⟩) hS ?_
          rotate_left
          · intro w hSw
            obtain ⟨_, _, _, _⟩ := hSw
            go_simp
            try with_reducible rfl
          simp only [Act.put, List.setIfInBounds_toArray, List.set_cons_zero, List.set_cons_succ]
          refine anyN_takeR 1 (v := ?_) rfl (by kernel_rfl) (by kernel_rfl) (by kernel_rfl) (by kernel_rfl) (fun _ _ _ h => h) (Or.inl ⟨by rfl, ?_⟩) hS ?_
          rotate_left
          · intro w hSw
            obtain ⟨_, _, _, _⟩ := hSw
            go_simp
            try with_reducible rfl
          simp only [Act.put, List.setIfInBounds_toArray, List.set_cons_zero, List.set_cons_succ]
          refine anyN_takeR 2 (v := ?_) rfl (by kernel_rfl) (by kernel_rfl) (by kernel_rfl) (by kernel_rfl) (fun _ _ _ h => h) (Or.inl ⟨by rfl, ?_⟩) hS ?_
          rotate_left
          · intro w hSw
            obtain ⟨_, _, _, _⟩ := hSw
            go_simp
            try with_reducible rfl
          simp only [Act.put, List.setIfInBounds_toArray, List.set_cons_zero, List.set_cons_succ]
          refine anyN_takeR 3 (v := ?_) rfl (by kernel_rfl) (by kernel_rfl) (by kernel_rfl) (by kernel_rfl) (fun _ _ _ h => h) (Or.inl ⟨by rfl, ?_⟩) hS ?_
          rotate_left
          · intro w hSw
            obtain ⟨_, _, _, _⟩ := hSw
            go_simp
            try with_reducible rfl
          simp only [Act.put, List.setIfInBounds_toArray, List.set_cons_zero, List.set_cons_succ]
          refine anyN_takeR 4 (v := ?_) rfl (by kernel_rfl) (by kernel_rfl) (by kernel_rfl) (by kernel_rfl) (fun _ _ _ h => h) (Or.inl ⟨by rfl, ?_⟩) hS ?_
          rotate_left
          · intro w hSw
            obtain ⟨_, _, _, _⟩ := hSw
            go_simp
            try with_reducible rfl
          simp only [Act.put, List.setIfInBounds_toArray, List.set_cons_zero, List.set_cons_succ]
          refine anyN_takeR 5 (v := ?_) rfl (by kernel_rfl) (by kernel_rfl) (by kernel_rfl) (by kernel_rfl) (fun _ _ _ h => h) (Or.inl ⟨by rfl, ?_⟩) hS ?_
          rotate_left
          · intro w hSw
            obtain ⟨_, _, _, _⟩ := hSw
            go_simp
            try with_reducible rfl
          simp only [Act.put, List.setIfInBounds_toArray, List.set_cons_zero, List.set_cons_succ]
          refine anyN_one 6 rfl (by kernel_rfl) rfl ?_
          go_simp
          (with_reducible refine (HFD _ HJ2.out).out.mono ?_)
          clear hS
          rintro e wx2 ⟨rfl, hk⟩
          replace HXS := Lib.hid (HXS.out.kp hk)
          replace HCC := Lib.hid (HCC.out.kp hk)
          replace HJ2 := Lib.hid (HJ2.out.trans (hk.mono HJ2.out.size))
          clear hk
          dsimp only
          refine and_keep ⟨HXS.out.c0, HXS.out.c1, HXS.out.c2, HCC.out.1⟩ (fun hS => ?_)
          refine anyN_takeR 7 (v := ?_) rfl (by kernel_rfl) (by kernel_rfl) (by kernel_rfl) (by kernel_rfl) (fun _ _ _ h => h) (Or.inl ⟨by rfl, ?_⟩) hS ?_
          rotate_left
          · intro w hSw
            obtain ⟨_, _, _, _⟩ := hSw
            go_simp
            try with_reducible rfl
          simp only [Act.put, List.setIfInBounds_toArray, List.set_cons_zero, List.set_cons_succ]
          refine anyN_done (by kernel_rfl) ?_
          refine NoPanic.normal ?_
          clear hS
          obtain ⟨x0, x1, x2, xl⟩ := HXS.out
          have cc := HCC.out.1
          have HTS := Lib.hid ((HSCr.out.kp HJ2.out).ts)
          have NEXT : Hid (z = 0 ∨ runsB s.cur s.ts c = true → ∀ k, k < c + 1 → s.cur.getD k 0 = 0 ∨ runsB s.cur s.ts k = true) := Lib.hid (fun h k hk => by
            rcases Nat.lt_or_ge k c with h2 | h2
            · exact HALL.out k h2
            · rw [show k = c by omega, ← HZ.out]; exact h)
          have FAIL := Lib.hid (show z ≠ 0 → runsB s.cur s.ts c = false → r = false from fun h1 h2 => HR.out.trans (wrong_run hcl (by rw [← HZ.out]; exact h1) h2))
          obtain ⟨ix, hix⟩ : ∃ ix, ix = idxV s.ts z := ⟨_, rfl⟩
          rw [← hix]
          have HIX := Lib.hid hix
          clear hix
          by_cases hz0 : z = 0
          · have hz0' : (z != 0) = false := by rw [hz0]; rfl
            have HG := Lib.hid (NEXT.out (Or.inl hz0))
            clear hz0
            go_wp2_with fail
            go_roundw
            case rel => exact ⟨c + 1, by omega, by go_num, HG.out, HJ2.out⟩
            case measure => simp [intOf]; omega
          have hz0' : (z != 0) = true := bne_iff_ne.2 hz0
          by_cases hxl : idxT s.ts z < s.ts.length
          rotate_left
          · have hx1 : ix = -1 := by rw [HIX.out]; unfold idxV; rw [if_neg hxl]
            have hrb : runsB s.cur s.ts c = false := by
              cases hq : runsB s.cur s.ts c with
              | false => rfl
              | true => exact absurd (hrf.out.1 hq).1 hxl
            have HF := Lib.hid (FAIL.out hz0 hrb)
            subst hx1
            clear hrb hxl hz0
            go_wp2_with fail
            go_ret
            exact ⟨by rw [HF.out]; rfl, HKr.out.trans (HJ2.out.mono HKr.out.size)⟩
          have hx1 : ix = ((idxT s.ts z : Nat) : Int) := by rw [HIX.out]; unfold idxV; rw [if_pos hxl]
          generalize hxe : idxT s.ts z = xi at *
          subst hx1
          obtain ⟨bt, ot, e, T⟩ := HTS.out xi (by rw [← HSCr.out.hla]; exact hxl)
          cases e
          have hxi : (xi : Int) < (j : Int) := by have := HSCr.out.hla; omega
          have HRF := Lib.hid hrf.out
          generalize s.ts.getD xi t0 = t at *
          obtain ⟨id, grp, wt, cpu, mask, rdy, v, r'⟩ := t
          obtain ⟨c0, c1, c2, c3, c4, c5, c6, c7, cl⟩ := T
          dsimp only at c0 c1 c2 c3 c4 c5 c6 c7 HRF
          clear hrf hxe HIX
          have RUNF := Lib.hid (show ¬ (rdy = true ∧ cpu = (c : Int)) → r = false from fun h => FAIL.out hz0 (by
            cases hq : runsB s.cur s.ts c with
            | false => rfl
            | true => exact absurd (HRF.out.1 hq).2 h))
          cases rdy
          · have HF := Lib.hid (RUNF.out (fun h => by cases h.1))
            clear hz0
            go_wp2_with fail
            go_ret
            exact ⟨by rw [HF.out]; rfl, HKr.out.trans (HJ2.out.mono HKr.out.size)⟩
          by_cases hcc : cpu = (c : Int)
          rotate_left
          · have HF := Lib.hid (RUNF.out (fun h => hcc h.2))
            have hcc' : (cpu != (c : Int)) = true := bne_iff_ne.2 hcc
            clear hz0 hcc
            go_wp2_with fail
            go_ret
            exact ⟨by rw [HF.out]; rfl, HKr.out.trans (HJ2.out.mono HKr.out.size)⟩
          · have HG := Lib.hid (NEXT.out (Or.inr (HRF.out.2 ⟨hxl, rfl, hcc⟩)))
            subst hcc
            clear hz0
            go_wp2_with fail
            go_roundw
            case rel => exact ⟨c + 1, by omega, by go_num, HG.out, HJ2.out⟩
            case measure => simp [intOf]; omega
        · have hce : c = lb := by omega
          subst hce
          have hcn : ¬ ((c : Int) < (c : Int)) := by omega
          have hg : r = true := by
            rw [HR.out]
            refine (rightS_iff s).2 ⟨by rw [← HN.out]; exact hn1, by rw [← HN.out]; exact hn2, by rw [HSCr.out.hlb, ← HN.out], by rw [← HN.out]; exact HRT.out, fun k hk => HALL.out k (by rw [← HSCr.out.hlb]; exact hk)⟩
          have HG := Lib.hid hg
          clear hg
          go_wp2_with fail
          go_ret
          exact ⟨by rw [HG.out]; rfl, HKr.out.trans (HJ2.out.mono HKr.out.size)⟩
end Go.Proofs.Yticgdfbknaholaa
