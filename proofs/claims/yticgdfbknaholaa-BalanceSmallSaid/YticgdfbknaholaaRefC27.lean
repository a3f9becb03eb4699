/-
  The reference's Loads and Busiest.
-/
import Derived.Test.YticgdfbknaholaaRefB27
import Derived.Test.YticgdfbknaholaaBestV27
namespace Go.Proofs.Yticgdfbknaholaa
open Go.RowKit

set_option maxRecDepth 100000 in
set_option maxHeartbeats 2000000 in
theorem refLoads_bad (W : World) {A B : Option Addr} {la ca lb cb : Nat} {s : Sc} (h : ScAt W A la B lb s) (hr : rightS s = false) :
    Calls Try.prog 43 #[.agg #[.int .i64 s.n, .slice A la ca, .slice B lb cb]] W fun e w' => e = .returned (.tuple #[.slice none 0 0, .int .i64 270]) ∧ Kp W.heap.size W w' := by
  have kk := (Kp.refl W.heap.size W).alloc (Nat.le_refl _) (.cells #[.int .i64 s.n, .slice A la ca, .slice B lb cb] 83)
  have HX := Lib.hid (C3.new W (.int .i64 s.n) (.slice A la ca) (.slice B lb cb) 83)
  have HK := Lib.hid kk
  have HRR := fun w (k : Kp W.heap.size W w) => Lib.hid (refRight_any (ca := ca) (cb := cb) w (h.kp k))
  rw [hr] at HRR
  clear h hr kk
  go_enter Try.func43, Try.ntmps43
  go_upto_region 1 with fail
  generalize W.alloc _ = w1 at *
  obtain ⟨b0, hb0⟩ : ∃ b, b = W.heap.size := ⟨_, rfl⟩
  rw [← hb0] at HX
  rw [← hb0]
  clear hb0
  obtain ⟨x0, x1, x2, xl⟩ := HX.out
  go_wp2_with fail
  (with_reducible refine (HRR _ HK.out).out.mono ?_)
  clear x0 x1 x2 xl
  rintro e w2 ⟨rfl, hk⟩
  have HK2 := Lib.hid (HK.out.trans (hk.mono HK.out.size))
  clear hk
  go_wp2_with fail
  go_ret2
  exact ⟨rfl, HK2.out⟩
set_option maxRecDepth 100000 in
set_option maxHeartbeats 2000000 in
theorem refLoads_any (W : World) {A B : Option Addr} {la ca lb cb : Nat} {s : Sc} (h : ScAt W A la B lb s) (hr : rightS s = true) :
    Calls Try.prog 43 #[.agg #[.int .i64 s.n, .slice A la ca, .slice B lb cb]] W fun e w' => ∃ C c zs, e = .returned (.tuple #[.slice C lb c, .int .i64 0]) ∧ zs.length = lb ∧ (∀ i, i < lb → zs.getD i 0 = loadV s.ts i) ∧ IsInts w' .i64 C lb zs ∧ Kp W.heap.size W w' := by
  have hf := (rightS_iff s).1 hr
  have kk := (Kp.refl W.heap.size W).alloc (Nat.le_refl _) (.cells #[.int .i64 s.n, .slice A la ca, .slice B lb cb] 83)
  have HX := Lib.hid (C3.new W (.int .i64 s.n) (.slice A la ca) (.slice B lb cb) 83)
  have HK := Lib.hid kk
  have HRR := fun w (k : Kp W.heap.size W w) => Lib.hid (refRight_any (ca := ca) (cb := cb) w (h.kp k))
  have HLD := fun (c : Nat) w (k : Kp W.heap.size W w) => Lib.hid (load_any (c := c) (ca := ca) (cb := cb) w (h.kp k) hf)
  rw [hr] at HRR
  have hn3 := hf.cur
  rw [h.hlb] at hn3
  have hn64 := hf.n64
  clear h hr kk hf
  generalize s.n = n at *
  subst hn3
  have hl64 : lb ≤ 64 := by omega
  go_enter Try.func43, Try.ntmps43
  go_upto_region 1 with fail
  generalize W.alloc _ = w1 at *
  obtain ⟨b0, hb0⟩ : ∃ b, b = W.heap.size := ⟨_, rfl⟩
  rw [← hb0] at HX
  rw [← hb0]
  clear hb0
  obtain ⟨x0, x1, x2, xl⟩ := HX.out
  go_wp2_with fail
  (with_reducible refine (HRR _ HK.out).out.mono ?_)
  clear x0 x1 x2 xl
  rintro e w2 ⟨rfl, hk⟩
  have HK2 := Lib.hid (HK.out.trans (hk.mono HK.out.size))
  have HX2 := Lib.hid (HX.out.kp hk)
  clear hk HX HRR
  go_wp2_with fail
  obtain ⟨i0, hi0, hz0, hz1, hz2⟩ := info_parts int_info
  have HI := Lib.hid hi0
  have HZ0 := Lib.hid hz0
  have HZ1 := Lib.hid hz1
  have HZ2 := Lib.hid hz2
  clear hi0 hz0 hz1 hz2
  go_loopw [4, 5] (fun v i wr => ∃ (j : Nat) (zs : List Int), j ≤ lb ∧ i = .int .i64 (j : Int) ∧ zs.length = j ∧ (∀ i, i < j → zs.getD i 0 = loadV s.ts i) ∧ wr.ownsRow w2.heap.size 3 1 v j (zs.map (Value.int .i64)) ∧ Kp w2.heap.size w2 wr) (fun _ i _ => lb - (intOf i).toNat)
  case atStart => exact ⟨0, [], Nat.zero_le _, rfl, rfl, (fun i h => absurd h (Nat.not_lt_zero i)), World.ownsRow_nil _ _ _ _, Kp.refl _ _⟩
  case round =>
    obtain ⟨j, zs, hj, rfl, hzl, hall, hrow, hkp⟩ := hrel
    have HZL := Lib.hid hzl
    have HALL := Lib.hid hall
    have HRW := Lib.hid hrow
    have HJ := Lib.hid hkp
    clear hzl hall hrow hkp
    obtain ⟨x0, x1, x2, xl⟩ := HX2.out.kp HJ.out
    by_cases hlt : j < lb
    · have hji : (j : Int) < (lb : Int) := by omega
      go_wp2_with fail
      (with_reducible refine (HLD j _ (HK2.out.trans (HJ.out.mono HK2.out.size))).out.mono ?_)
      clear x0 x1 x2 xl
      rintro e w3 ⟨rfl, hk⟩
      have HJ3 := Lib.hid (HJ.out.trans (hk.mono HJ.out.size))
      have HRW3 := Lib.hid (own_kp HRW.out hk)
      clear hk HJ HRW
      obtain ⟨x, hx⟩ : ∃ x, x = loadV s.ts j := ⟨_, rfl⟩
      rw [← hx]
      have HXJ := Lib.hid hx
      clear hx
      go_wp2_with (at_builtin; refine wpList_append_rd _ rfl _ _ 28 rfl w2.heap.size 3 i0 (.int .i64 0) 1 8 Try.underlying28 HI.out HZ0.out HZ1.out HZ2.out rfl (by decide) _ j (zs.map (Value.int .i64)) rfl ?qd1 (some ⟨w3.heap.size, 0, none⟩) 1 1 ([x].map (Value.int .i64)) rfl ?qd2 (oneCellsI [x]) ?qd4 ?qd5 ?qd6 ?_)
      case qd1 => exact own_kp HRW3.out ((Kp.refl _ w3).alloc (Nat.le_refl _) _)
      case qd2 => exact rd_new w3 _ 3 1 1 rfl
      case qd4 => unfold maxLen; omega
      case qd5 => omega
      case qd6 => have := HJ3.out.size; simp; omega
      intro v9 w9 hown9 hgrow9
      have ke : Kp w2.heap.size w2 (w3.alloc (.cells #[.int .i64 x] 3)) := HJ3.out.alloc HJ3.out.size _
      have HK9 := Lib.hid (ke.grown hgrow9 ke.size (fun g hg => (HRW3.out.lt g hg).1))
      have HR9 := Lib.hid hown9
      clear hown9 hgrow9 ke
      go_wp2_with fail
      go_roundw
      case rel =>
        refine ⟨j + 1, zs ++ [x], by omega, by go_num, by rw [List.length_append, HZL.out]; rfl, fun i hi => ?_, by rw [List.map_append]; exact HR9.out, HK9.out⟩
        rcases Nat.lt_or_ge i j with h1 | h1
        · rw [getD_snoc_lt _ _ (by rw [HZL.out]; exact h1)]
          exact HALL.out i h1
        · rw [show i = zs.length by rw [HZL.out]; omega, getD_snoc_eq, HZL.out]
          exact HXJ.out
      case measure => first | (simp [intOf]; done) | (simp [intOf]; omega)
    · have hje : j = lb := by omega
      subst hje
      have hjn : ¬ ((j : Int) < (j : Int)) := by omega
      obtain ⟨C, c, rfl, _, _, _, hrd, _⟩ := own_form HRW.out
      have HRD := Lib.hid hrd
      clear hrd
      go_wp2_with fail
      go_ret2
      exact ⟨C, ⟨c, rfl⟩, zs, HZL.out, HALL.out, HRD.out.isInts.2, HK2.out.trans (HJ.out.mono HK2.out.size)⟩
/-- The others from one on. -/
def othersF (n : Nat) (cpu : Int) (j : Nat) : List Nat := (List.range' j (n - j)).filter fun c => decide ((c : Int) ≠ cpu)
theorem othersF_end (n : Nat) (cpu : Int) : othersF n cpu n = [] := by unfold othersF; rw [Nat.sub_self]; rfl
theorem othersF_zero (n : Nat) (cpu : Int) : othersF n cpu 0 = othersL n cpu := by unfold othersF othersL; rw [Nat.sub_zero, List.range_eq_range']
theorem othersF_step {n j : Nat} (cpu : Int) (h : j < n) : othersF n cpu j = if (j : Int) ≠ cpu then j :: othersF n cpu (j + 1) else othersF n cpu (j + 1) := by
  unfold othersF
  obtain ⟨k, hk⟩ : ∃ k, n - j = k + 1 := ⟨n - j - 1, by omega⟩
  rw [hk, show n - (j + 1) = k by omega, List.range'_succ, List.filter_cons]
  by_cases hc : (j : Int) ≠ cpu
  · rw [if_pos hc, if_pos (decide_eq_true hc)]
  · rw [if_neg hc, if_neg (by simpa using hc)]
theorem bestI_from (f : Nat → Int) : ∀ (xs : List Nat) (x : Nat), xs.foldl (bestStep f) (some x) = match bestI f xs with | none => some x | some b => if f b ≤ f x then some x else some b
  | [], x => rfl
  | y :: xs, x => by
    unfold bestI
    rw [List.foldl_cons, List.foldl_cons]
    have e0 : bestStep f none y = some y := rfl
    rw [e0, bestI_from f xs y]
    by_cases h : f x < f y
    · rw [show bestStep f (some x) y = some y from if_pos h, bestI_from f xs y]
      cases hb : bestI f xs with
      | none => dsimp only; rw [if_neg (by omega)]
      | some b =>
        dsimp only
        by_cases h2 : f b ≤ f y
        · rw [if_pos h2]; dsimp only; rw [if_neg (by omega)]
        · rw [if_neg h2]; dsimp only; rw [if_neg (by omega)]
    · rw [show bestStep f (some x) y = some x from if_neg h, bestI_from f xs x]
      cases hb : bestI f xs with
      | none => dsimp only; rw [if_pos (by omega)]
      | some b =>
        dsimp only
        by_cases h2 : f b ≤ f y
        · rw [if_pos h2, if_pos (show f b ≤ f x by omega)]; dsimp only; rw [if_pos (by omega)]
        · rw [if_neg h2]
theorem bestI_cons (f : Nat → Int) (x : Nat) (xs : List Nat) : bestI f (x :: xs) = match bestI f xs with | none => some x | some b => if f b ≤ f x then some x else some b := bestI_from f xs x
/-- The busiest so far, downwards. -/
def outI : Option Nat → Int
  | none => -1
  | some b => (b : Int)
set_option maxRecDepth 100000 in
set_option maxHeartbeats 4000000 in
theorem refBusiest_any (W : World) {A B : Option Addr} {la ca lb cb : Nat} {s : Sc} {cpu : Int} (h : ScAt W A la B lb s) (q0 : -9223372036854775808 ≤ cpu) (q1 : cpu ≤ 9223372036854775807) :
    Calls Try.prog 44 #[.agg #[.int .i64 s.n, .slice A la ca, .slice B lb cb], .int .i64 cpu] W fun e w' => e = .returned (.tuple #[.int .i64 (busyN s cpu), .int .i64 (busyE s cpu)]) ∧ Kp W.heap.size W w' := by
  obtain ⟨rN, hrN⟩ : ∃ v, v = busyN s cpu := ⟨_, rfl⟩
  obtain ⟨rE, hrE⟩ : ∃ v, v = busyE s cpu := ⟨_, rfl⟩
  rw [← hrN, ← hrE]
  have kk := (Kp.refl W.heap.size W).alloc (Nat.le_refl _) (.cells #[.int .i64 s.n, .slice A la ca, .slice B lb cb] 83)
  have HX := Lib.hid (C3.new W (.int .i64 s.n) (.slice A la ca) (.slice B lb cb) 83)
  have HK := Lib.hid kk
  have HRR := fun w (k : Kp W.heap.size W w) => Lib.hid (refRight_any (ca := ca) (cb := cb) w (h.kp k))
  have HSC := Lib.hid h
  have HRN := Lib.hid hrN
  have HRE := Lib.hid hrE
  obtain ⟨n, hn⟩ : ∃ n, n = s.n := ⟨_, rfl⟩
  have HN := Lib.hid hn
  rw [← hn] at HX HK HRR kk
  rw [← hn]
  clear h kk hrN hrE hn
  go_enter Try.func44, Try.ntmps44
  go_upto_region 1 with fail
  generalize W.alloc _ = w1 at *
  obtain ⟨b0, hb0⟩ : ∃ b, b = W.heap.size := ⟨_, rfl⟩
  rw [← hb0] at HX
  rw [← hb0]
  clear hb0
  obtain ⟨x0, x1, x2, xl⟩ := HX.out
  go_wp2_with fail
  (with_reducible refine (HRR _ HK.out).out.mono ?_)
  clear x0 x1 x2 xl
  rintro e w2 ⟨rfl, hk⟩
  have HK2 := Lib.hid (HK.out.trans (hk.mono HK.out.size))
  have HX2 := Lib.hid (HX.out.kp hk)
  clear hk HX HRR HK
  obtain ⟨x0, x1, x2, xl⟩ := HX2.out
  cases hr : rightS s
  · have e1 : rN = 0 := by rw [HRN.out]; unfold busyN; rw [hr]; rfl
    have e2 : rE = 270 := by rw [HRE.out]; unfold busyE; rw [hr]; rfl
    subst e1 e2
    go_wp2_with fail
    go_ret2
    exact ⟨rfl, HK2.out⟩
  have hf := (rightS_iff s).1 hr
  by_cases hc0 : cpu < 0
  · have e1 : rN = 0 := by rw [HRN.out]; unfold busyN; rw [hr, if_pos rfl, if_neg (by omega)]
    have e2 : rE = 2 := by rw [HRE.out]; unfold busyE; rw [hr, if_pos rfl, if_neg (by omega)]
    subst e1 e2
    clear hf
    go_wp2_with fail
    go_ret2
    exact ⟨rfl, HK2.out⟩
  by_cases hc1 : n ≤ cpu
  · have e1 : rN = 0 := by rw [HRN.out]; unfold busyN; rw [hr, if_pos rfl, if_neg (by rw [← HN.out]; omega)]
    have e2 : rE = 2 := by rw [HRE.out]; unfold busyE; rw [hr, if_pos rfl, if_neg (by rw [← HN.out]; omega)]
    subst e1 e2
    clear hf
    go_wp2_with fail
    go_ret2
    exact ⟨rfl, HK2.out⟩
  have e1 : rN = (((bestI (loadV s.ts) (othersL lb cpu)).getD 0 : Nat) : Int) := by rw [HRN.out]; unfold busyN; rw [hr, if_pos rfl, if_pos (by rw [← HN.out]; omega), HSC.out.hlb]
  have e2 : rE = if (bestI (loadV s.ts) (othersL lb cpu)).isSome then 0 else 6 := by rw [HRE.out]; unfold busyE; rw [hr, if_pos rfl, if_pos (by rw [← HN.out]; omega), HSC.out.hlb]
  have HE1 := Lib.hid e1
  have HE2 := Lib.hid e2
  have HLD := fun (c : Nat) w (k : Kp W.heap.size W w) => Lib.hid (load_any (c := c) (ca := ca) (cb := cb) w (HSC.out.kp k) hf)
  rw [← HN.out] at HLD
  have hn3 := hf.cur
  rw [HSC.out.hlb, ← HN.out] at hn3
  have hn64 := hf.n64
  have hn1 := hf.n1
  rw [← HN.out] at hn64 hn1
  clear e1 e2 hf hr
  subst hn3
  have hl64 : lb ≤ 64 := by omega
  have hl1 : 1 ≤ lb := by omega
  obtain ⟨q, rfl⟩ : ∃ q : Nat, cpu = (q : Int) := ⟨cpu.toNat, by omega⟩
  go_wp2_with fail
  clear x0 x1 x2 xl
  go_loopw [6, 7] (fun o i wr => ∃ (j : Nat), j ≤ lb ∧ i = .int .i64 ((j : Int) - 1) ∧ o = .int .i64 (outI (bestI (loadV s.ts) (othersF lb q j))) ∧ Kp w2.heap.size w2 wr) (fun _ i _ => (intOf i + 1).toNat)
  case atStart => exact ⟨lb, Nat.le_refl _, rfl, by rw [othersF_end]; rfl, Kp.refl _ _⟩
  case round =>
    obtain ⟨j, hj, rfl, rfl, hk⟩ := hrel
    have HJ := Lib.hid hk
    clear hk
    have HXS := Lib.hid (HX2.out.kp HJ.out)
    rcases Nat.eq_zero_or_pos j with hj0 | hj0
    · subst hj0
      rw [othersF_zero]
      generalize bestI (loadV s.ts) (othersL lb (q : Int)) = o at *
      cases o with
      | none =>
        have e1 : rN = 0 := HE1.out
        have e2 : rE = 6 := HE2.out
        subst e1 e2
        simp only [outI]
        go_wp2_with fail
        go_ret2
        exact ⟨rfl, HK2.out.trans (HJ.out.mono HK2.out.size)⟩
      | some y =>
        have e1 : rN = (y : Int) := HE1.out
        have e2 : rE = 0 := HE2.out
        subst e1 e2
        simp only [outI]
        go_wp2_with fail
        go_ret2
        exact ⟨rfl, HK2.out.trans (HJ.out.mono HK2.out.size)⟩
    · obtain ⟨i, rfl⟩ : ∃ i, j = i + 1 := ⟨j - 1, by omega⟩
      have hstep := othersF_step (n := lb) (j := i) (q : Int) (by omega)
      have hmem : ∀ b, bestI (loadV s.ts) (othersF lb (q : Int) (i + 1)) = some b → b < lb := bestI_mem (loadV s.ts) _ (fun b => b < lb) (fun x hx => by
        have := (List.mem_filter.1 hx).1
        rw [List.mem_range'] at this
        obtain ⟨k, h1, h2⟩ := this
        omega)
      have hii : (((i + 1 : Nat) : Int) - 1) = (i : Int) := by omega
      rw [hii]
      have HST := Lib.hid hstep
      have HMB := Lib.hid hmem
      clear hstep hmem
      have hwi : IntKind.i64.wrap (i : Int) = (i : Int) := wrap_id (by omega) (by omega)
      have hi0 : (0 : Int) ≤ (i : Int) := by omega
      have HNX := Lib.hid (bestI_cons (loadV s.ts) i (othersF lb (q : Int) (i + 1)))
      obtain ⟨x0, x1, x2, xl⟩ := HXS.out
      by_cases hiq : i = q
      · have hiq' : ((i : Int) != (q : Int)) = false := by rw [hiq]; simp
        have he : bestI (loadV s.ts) (othersF lb (q : Int) i) = bestI (loadV s.ts) (othersF lb (q : Int) (i + 1)) := by rw [HST.out, if_neg (by omega)]
        have HE := Lib.hid he
        generalize bestI (loadV s.ts) (othersF lb (q : Int) (i + 1)) = o at *
        clear he hiq
        go_upto_region 9 with fail
        go_quiet (fail)
        go_wp2_with fail
        go_roundw
        case rel => exact ⟨i, by omega, by go_num, by rw [HE.out], HJ.out.drewN _⟩
        case measure => first | (simp [intOf]; done) | (simp [intOf]; omega)
      have hiq' : ((i : Int) != (q : Int)) = true := bne_iff_ne.2 (by omega)
      have he : bestI (loadV s.ts) (othersF lb (q : Int) i) = bestI (loadV s.ts) (i :: othersF lb (q : Int) (i + 1)) := by rw [HST.out, if_pos (by omega)]
      rw [HNX.out] at he
      have HE := Lib.hid he
      clear he
      generalize bestI (loadV s.ts) (othersF lb (q : Int) (i + 1)) = o at *
      cases o with
      | none =>
        have HE2 := Lib.hid (show bestI (loadV s.ts) (othersF lb (q : Int) i) = some i from HE.out)
        simp only [outI]
        go_upto_region 9 with fail
        go_quiet (fail)
        go_wp2_with fail
        go_roundw
        case rel => exact ⟨i, by omega, by go_num, by first | (rw [HE2.out]; done) | (rw [HE2.out]; rfl), HJ.out.drewN _⟩
        case measure => first | (simp [intOf]; done) | (simp [intOf]; omega)
      | some y =>
        have hy := HMB.out y rfl
        have hy0 : ¬ ((y : Int) < 0) := by omega
        have HE2 := Lib.hid (show bestI (loadV s.ts) (othersF lb (q : Int) i) = if loadV s.ts y ≤ loadV s.ts i then some i else some y from HE.out)
        simp only [outI]
        have HC1 := HLD i
        have HC2 := HLD y
        generalize loadV s.ts i = li at *
        generalize loadV s.ts y = ly at *
        clear x0 x1 x2 xl
        go_upto_region 9 with fail
        refine wp_region_noPanic ?_
        refine wp_region_anyN (fun w' => w'.cell? ⟨b0, 0, none⟩ = some (.int .i64 (lb : Int)) ∧ w'.cell? ⟨b0, 1, none⟩ = some (.slice A la ca) ∧ w'.cell? ⟨b0, 2, none⟩ = some (.slice B lb cb)) 16 (by kernel_rfl) ?_
        have kd : Kp wr.heap.size wr wr.drew := (Kp.refl _ _).drewN 1
        replace HXS := Lib.hid (HXS.out.kp kd)
        replace HJ := Lib.hid (HJ.out.trans (kd.mono HJ.out.size))
        clear kd
        generalize wr.drew = wz1 at *
        have hS : wz1.cell? ⟨b0, 0, none⟩ = some (.int .i64 (lb : Int)) ∧ wz1.cell? ⟨b0, 1, none⟩ = some (.slice A la ca) ∧ wz1.cell? ⟨b0, 2, none⟩ = some (.slice B lb cb) := ⟨HXS.out.c0, HXS.out.c1, HXS.out.c2⟩
        refine anyN_takeR 0 (v := ?_) rfl (by kernel_rfl) (by kernel_rfl) (by kernel_rfl) (by kernel_rfl) (fun _ _ _ h => h) (Or.inl ⟨by rfl, ?_⟩) hS ?_
        rotate_left
        · intro w hSw
          obtain ⟨_, _, _⟩ := hSw
          go_simp
          try with_reducible rfl
        simp only [Act.put, List.setIfInBounds_toArray, List.set_cons_zero, List.set_cons_succ]
        refine anyN_takeR 1 (v := ?_) rfl (by kernel_rfl) (by kernel_rfl) (by kernel_rfl) (by kernel_rfl) (fun _ _ _ h => h) (Or.inl ⟨by rfl, ?_⟩) hS ?_
        rotate_left
        · intro w hSw
          obtain ⟨_, _, _⟩ := hSw
          go_simp
          try with_reducible rfl
        simp only [Act.put, List.setIfInBounds_toArray, List.set_cons_zero, List.set_cons_succ]
        refine anyN_takeR 2 (v := ?_) rfl (by kernel_rfl) (by kernel_rfl) (by kernel_rfl) (by kernel_rfl) (fun _ _ _ h => h) (Or.inl ⟨by rfl, ?_⟩) hS ?_
        rotate_left
        · intro w hSw
          obtain ⟨_, _, _⟩ := hSw
          go_simp
          try with_reducible rfl
        simp only [Act.put, List.setIfInBounds_toArray, List.set_cons_zero, List.set_cons_succ]
        refine anyN_takeR 3 (v := ?_) rfl (by kernel_rfl) (by kernel_rfl) (by kernel_rfl) (by kernel_rfl) (fun _ _ _ h => h) (Or.inl ⟨by rfl, ?_⟩) hS ?_
        rotate_left
        · intro w hSw
          obtain ⟨_, _, _⟩ := hSw
          go_simp
          try with_reducible rfl
        simp only [Act.put, List.setIfInBounds_toArray, List.set_cons_zero, List.set_cons_succ]
        refine anyN_takeR 4 (v := ?_) rfl (by kernel_rfl) (by kernel_rfl) (by kernel_rfl) (by kernel_rfl) (fun _ _ _ h => h) (Or.inl ⟨by rfl, ?_⟩) hS ?_
        rotate_left
        · intro w hSw
          obtain ⟨_, _, _⟩ := hSw
          go_simp
          try with_reducible rfl
        simp only [Act.put, List.setIfInBounds_toArray, List.set_cons_zero, List.set_cons_succ]
        refine anyN_takeR 5 (v := ?_) rfl (by kernel_rfl) (by kernel_rfl) (by kernel_rfl) (by kernel_rfl) (fun _ _ _ h => h) (Or.inl ⟨by rfl, ?_⟩) hS ?_
        rotate_left
        · intro w hSw
          obtain ⟨_, _, _⟩ := hSw
          go_simp
          try with_reducible rfl
        simp only [Act.put, List.setIfInBounds_toArray, List.set_cons_zero, List.set_cons_succ]
        refine anyN_takeR 6 (v := ?_) rfl (by kernel_rfl) (by kernel_rfl) (by kernel_rfl) (by kernel_rfl) (fun _ _ _ h => h) (Or.inl ⟨by rfl, ?_⟩) hS ?_
        rotate_left
        · intro w hSw
          obtain ⟨_, _, _⟩ := hSw
          go_simp
          try with_reducible rfl
        simp only [Act.put, List.setIfInBounds_toArray, List.set_cons_zero, List.set_cons_succ]
        refine anyN_takeR 7 (v := ?_) rfl (by kernel_rfl) (by kernel_rfl) (by kernel_rfl) (by kernel_rfl) (fun _ _ _ h => h) (Or.inl ⟨by rfl, ?_⟩) hS ?_
        rotate_left
        · intro w hSw
          obtain ⟨_, _, _⟩ := hSw
          go_simp
          try with_reducible rfl
        simp only [Act.put, List.setIfInBounds_toArray, List.set_cons_zero, List.set_cons_succ]
        refine anyN_takeR 8 (v := ?_) rfl (by kernel_rfl) (by kernel_rfl) (by kernel_rfl) (by kernel_rfl) (fun _ _ _ h => h) (Or.inl ⟨by rfl, ?_⟩) hS ?_
        rotate_left
        · intro w hSw
          obtain ⟨_, _, _⟩ := hSw
          go_simp
          try with_reducible rfl
        simp only [Act.put, List.setIfInBounds_toArray, List.set_cons_zero, List.set_cons_succ]
        refine anyN_takeR 10 (v := ?_) rfl (by kernel_rfl) (by kernel_rfl) (by kernel_rfl) (by kernel_rfl) (fun _ _ _ h => h) (Or.inl ⟨by rfl, ?_⟩) hS ?_
        rotate_left
        · intro w hSw
          obtain ⟨_, _, _⟩ := hSw
          go_simp
          try with_reducible rfl
        simp only [Act.put, List.setIfInBounds_toArray, List.set_cons_zero, List.set_cons_succ]
        refine anyN_takeR 11 (v := ?_) rfl (by kernel_rfl) (by kernel_rfl) (by kernel_rfl) (by kernel_rfl) (fun _ _ _ h => h) (Or.inl ⟨by rfl, ?_⟩) hS ?_
        rotate_left
        · intro w hSw
          obtain ⟨_, _, _⟩ := hSw
          go_simp
          try with_reducible rfl
        simp only [Act.put, List.setIfInBounds_toArray, List.set_cons_zero, List.set_cons_succ]
        refine anyN_oneG 9 rfl (by kernel_rfl) (by rfl) ?_
        go_simp
        (with_reducible refine (HC1 _ (HK2.out.trans (HJ.out.mono HK2.out.size))).out.mono ?_)
        clear hS
        rintro e wz2 ⟨rfl, hk⟩
        replace HXS := Lib.hid (HXS.out.kp hk)
        replace HJ := Lib.hid (HJ.out.trans (hk.mono HJ.out.size))
        clear hk
        dsimp only
        refine and_keep ⟨HXS.out.c0, HXS.out.c1, HXS.out.c2⟩ (fun hS => ?_)
        refine anyN_oneG 12 rfl (by kernel_rfl) (by rfl) ?_
        go_simp
        (with_reducible refine (HC2 _ (HK2.out.trans (HJ.out.mono HK2.out.size))).out.mono ?_)
        clear hS
        rintro e wz3 ⟨rfl, hk⟩
        replace HXS := Lib.hid (HXS.out.kp hk)
        replace HJ := Lib.hid (HJ.out.trans (hk.mono HJ.out.size))
        clear hk
        dsimp only
        refine and_keep ⟨HXS.out.c0, HXS.out.c1, HXS.out.c2⟩ (fun hS => ?_)
        refine anyN_takeR 13 (v := ?_) rfl (by kernel_rfl) (by kernel_rfl) (by kernel_rfl) (by kernel_rfl) (fun _ _ _ h => h) (Or.inl ⟨by rfl, ?_⟩) hS ?_
        rotate_left
        · intro w hSw
          obtain ⟨_, _, _⟩ := hSw
          go_simp
          try with_reducible rfl
        simp only [Act.put, List.setIfInBounds_toArray, List.set_cons_zero, List.set_cons_succ]
        refine anyN_takeR 14 (v := ?_) rfl (by kernel_rfl) (by kernel_rfl) (by kernel_rfl) (by kernel_rfl) (fun _ _ _ h => h) (Or.inl ⟨by rfl, ?_⟩) hS ?_
        rotate_left
        · intro w hSw
          obtain ⟨_, _, _⟩ := hSw
          go_simp
          try with_reducible rfl
        simp only [Act.put, List.setIfInBounds_toArray, List.set_cons_zero, List.set_cons_succ]
        refine anyN_takeR 15 (v := ?_) rfl (by kernel_rfl) (by kernel_rfl) (by kernel_rfl) (by kernel_rfl) (fun _ _ _ h => h) (Or.inl ⟨by rfl, ?_⟩) hS ?_
        rotate_left
        · intro w hSw
          obtain ⟨_, _, _⟩ := hSw
          go_simp
          try with_reducible rfl
        simp only [Act.put, List.setIfInBounds_toArray, List.set_cons_zero, List.set_cons_succ]
        refine anyN_done (by kernel_rfl) ?_
        refine NoPanic.normal ?_
        clear hS
        obtain ⟨x0, x1, x2, xl⟩ := HXS.out
        by_cases hle : ly ≤ li
        · have HE3 := Lib.hid (HE2.out.trans (if_pos hle))
          go_wp2_with fail
          go_roundw
          case rel => exact ⟨i, by omega, by go_num, by first | (rw [HE3.out]; done) | (rw [HE3.out]; rfl), HJ.out⟩
          case measure => first | (simp [intOf]; done) | (simp [intOf]; omega)
        · have HE3 := Lib.hid (HE2.out.trans (if_neg hle))
          go_wp2_with fail
          go_roundw
          case rel => exact ⟨i, by omega, by go_num, by first | (rw [HE3.out]; done) | (rw [HE3.out]; rfl), HJ.out⟩
          case measure => first | (simp [intOf]; done) | (simp [intOf]; omega)
end Go.Proofs.Yticgdfbknaholaa
