/-
  The contract of best, of tasks.
-/
import Derived.Test.YticgdfbknaholaaTb27
namespace Go.Proofs.Yticgdfbknaholaa
open Go.RowKit
attribute [local go_sem] Oper.semAt_some

/-- The first of the heaviest. -/
def bestTStep (o : Option Tk) (x : Tk) : Option Tk := match o with
  | none => some x
  | some b => if b.wt < x.wt then some x else some b
def bestT (xs : List Tk) : Option Tk := xs.foldl bestTStep none
theorem bestT_snoc (xs : List Tk) (x : Tk) : bestT (xs ++ [x]) = bestTStep (bestT xs) x := by unfold bestT; rw [List.foldl_append]; rfl
set_option maxRecDepth 100000 in
set_option maxHeartbeats 8000000 in
theorem bestT_any (W : World) {lbs : Array Value} {L : List Tk} (HIT : Iter Try.prog 38 lbs (fun t : Tk => #[tkv t]) L 0 0 W) :
    Calls Try.prog 39 #[.func (.func 38) #[] lbs, .func (.func 40) #[] #[]] W fun e w' =>
      e = .returned (.tuple #[tkv ((bestT L).getD t0), .bool (bestT L).isSome]) ∧ Kp W.heap.size W w' := by
  have k3 := ((((Kp.refl W.heap.size W).alloc (Nat.le_refl _) (.cells #[.func (.func 40) #[] #[]] 80)).alloc (by rw [World.size_alloc]; omega) (.cells (tkc t0) 43)).alloc (by rw [World.size_alloc, World.size_alloc]; omega) (.cells (tkc t0) 43)).alloc (by rw [World.size_alloc, World.size_alloc, World.size_alloc]; omega) (.cells #[.bool false] 4)
  have a0 := (((Bx.new W (.func (.func 40) #[] #[]) 80).alloc (.cells (tkc t0) 43)).alloc (.cells (tkc t0) 43)).alloc (.cells #[.bool false] 4)
  have aR := ((Tb.new (W.alloc (.cells #[.func (.func 40) #[] #[]] 80)) t0 43).alloc (.cells (tkc t0) 43)).alloc (.cells #[.bool false] 4)
  have aO := (Tb.new ((W.alloc (.cells #[.func (.func 40) #[] #[]] 80)).alloc (.cells (tkc t0) 43)) t0 43).alloc (.cells #[.bool false] 4)
  have aS := Bx.new (((W.alloc (.cells #[.func (.func 40) #[] #[]] 80)).alloc (.cells (tkc t0) 43)).alloc (.cells (tkc t0) 43)) (.bool false) 4
  simp only [World.size_alloc, Nat.add_assoc, Nat.reduceAdd] at aR aO aS
  refine (callsIn_wide (n := 3)).1 ?_
  refine callsIn_of_wp_marks Try.func39 rfl trivial ?_ rfl
  refine wpIn_wide.2 ?_
  simp only [Try.ntmps39, List.size_toArray, List.length_cons, List.length_nil, Nat.reduceAdd, Nat.reduceSub, Array.replicate_succ, Array.replicate_zero, List.push_toArray, List.append_toArray, List.nil_append, List.cons_append]
  go_wp2_with fail
  dsimp only [tkc, t0] at k3 a0 aR aO aS
  generalize (((W.alloc _).alloc _).alloc _).alloc _ = w3 at *
  obtain ⟨b0, hb0⟩ : ∃ b, b = W.heap.size := ⟨_, rfl⟩
  obtain ⟨bR, hbR⟩ : ∃ b, b = W.heap.size + 1 := ⟨_, rfl⟩
  obtain ⟨bO, hbO⟩ : ∃ b, b = W.heap.size + 2 := ⟨_, rfl⟩
  obtain ⟨bS, hbS⟩ : ∃ b, b = W.heap.size + 3 := ⟨_, rfl⟩
  rw [← hbR] at aR
  rw [← hbO] at aO
  rw [← hbS] at aS
  rw [← hb0] at a0
  rw [show W.heap.size + 1 + 1 + 1 = bS by omega, show W.heap.size + 1 + 1 = bO by omega, ← hbR, ← hb0]
  refine (wpIn_wide (n := 3)).1 ?_
  have l0 := a0.lt
  have lR := aR.tk.lt
  have lO := aO.tk.lt
  have lS := aS.lt
  have hs3 : W.heap.size ≤ w3.heap.size := k3.size
  have d0O : b0 ≠ bO := by omega
  have d0S : b0 ≠ bS := by omega
  have dRO : bR ≠ bO := by omega
  have dRS : bR ≠ bS := by omega
  have dOS : bO ≠ bS := by omega
  have WR : W.heap.size ≤ bR := by omega
  have WO : W.heap.size ≤ bO := by omega
  have WS : W.heap.size ≤ bS := by omega
  clear hb0 hbR hbO hbS
  refine range_law (m := 1) (gf := 38) rfl (enters_of Try.func38 (by kernel_rfl) rfl) HIT (Nat.zero_le _) (Kx.of_kp k3) (fun _ => rfl)
    (fun pre w => Bx w b0 (.func (.func 40) #[] #[]) ∧ Tb w bR t0 ∧ Tb w bO ((bestT pre).getD t0) ∧ Bx w bS (.bool (bestT pre).isSome) ∧ Kp W.heap.size W w)
    (fun _ _ => False)
    (fun pre A B ⟨i0, i1, i2, i3, i4⟩ k => ⟨i0.kp k (by omega), i1.kp k (by omega), i2.kp k (by omega), i3.kp k (by omega), i4.trans (k.mono (by omega))⟩)
    (fun _ _ _ h _ => h) ⟨a0, aR, aO, aS, k3⟩ ?round ?done ?stop
  case stop => intro D pre x rest W _ _ h _; exact h.elim
  case round =>
    clear a0 aR aO aS k3 HIT
    rintro l pre x rest hxs V hl1 hl2 hi
    have HB := Lib.hid (bestT_snoc pre x)
    clear hxs
    obtain ⟨id, grp, wt, cpu, mask, rdy, v, r⟩ := x
    gi_wp2
    refine ⟨(Kp.refl _ V).alloc (Nat.le_refl _) _, fun Wb hkb hsb hib => ?_⟩
    obtain ⟨i0, iR, iO, iS, i4⟩ := hib
    have T := (Tb.new V ⟨id, grp, wt, cpu, mask, rdy, v, r⟩ 43).kx hkb (Or.inr (Nat.zero_le _)) (by omega)
    obtain ⟨bT, hbT⟩ : ∃ bT, bT = V.heap.size := ⟨_, rfl⟩
    rw [← hbT] at T
    rw [← hbT]
    clear hbT hkb hsb hi
    obtain ⟨c0, f0, q0⟩ := _root_.id i0
    obtain ⟨c3, f3, q3⟩ := _root_.id iS
    obtain ⟨y0, y1, y2, y3, y4, y5, y6, y7, yl⟩ := T.tk
    simp only [Nat.zero_add] at y0 y1 y2 y3 y4 y5 y6 y7
    have hOl := iO.tk.lt
    have fO := iO.fz
    cases hb : bestT pre with
    | none =>
      rw [hb] at iO c3
      simp only [Option.getD_none, Option.isSome_none] at iO c3
      obtain ⟨z0, z1, z2, z3, z4, z5, z6, z7, zl⟩ := iO.tk
      simp only [Nat.zero_add] at z0 z1 z2 z3 z4 z5 z6 z7
      have e : bestT (pre ++ [⟨id, grp, wt, cpu, mask, rdy, v, r⟩]) = some ⟨id, grp, wt, cpu, mask, rdy, v, r⟩ := by rw [HB.out, hb]; rfl
      have P := And.intro ((putT_kx (n1 := 0) (n2 := 0) (Kx.refl _ _ _ _ Wb) WO lO ⟨id, grp, wt, cpu, mask, rdy, v, r⟩).setCell (p := ⟨bS, 0, none⟩) WS lS (.bool true)) (And.intro ((i0.farT d0O ⟨id, grp, wt, cpu, mask, rdy, v, r⟩).far (p := ⟨bS, 0, none⟩) d0S.symm (.bool true)) (And.intro (Tb.farB (iR.far dRO ⟨id, grp, wt, cpu, mask, rdy, v, r⟩) dRS.symm (.bool true)) (And.intro (Tb.farB (iO.put ⟨id, grp, wt, cpu, mask, rdy, v, r⟩) dOS.symm (.bool true)) (And.intro ((iS.farT dOS.symm ⟨id, grp, wt, cpu, mask, rdy, v, r⟩).set (.bool true)) ((putT_kp i4 WO ⟨id, grp, wt, cpu, mask, rdy, v, r⟩).setCell (p := ⟨bS, 0, none⟩) WS (.bool true))))))
      simp only [putT] at P
      have HP := Lib.hid P
      clear P
      gi_wp2
      all_goals
        refine ⟨fun _ h => (by cases h), ?_⟩
        gi_wp2
      all_goals
        simp only [roundEnd]
        rw [e]
        simp only [Option.getD_some, Option.isSome_some]
        with_reducible exact HP.out
    | some y =>
      rw [hb] at iO c3
      simp only [Option.getD_some, Option.isSome_some] at iO c3
      obtain ⟨z0, z1, z2, z3, z4, z5, z6, z7, zl⟩ := iO.tk
      simp only [Nat.zero_add] at z0 z1 z2 z3 z4 z5 z6 z7
      have HC := Lib.hid (callsIn_wide (n := 0).2 (cmpTk_any Wb ⟨id, grp, wt, cpu, mask, rdy, v, r⟩ y))
      by_cases hlt : y.wt < wt
      · rw [cmpI_pos hlt] at HC
        have e : bestT (pre ++ [⟨id, grp, wt, cpu, mask, rdy, v, r⟩]) = some ⟨id, grp, wt, cpu, mask, rdy, v, r⟩ := by rw [HB.out, hb]; exact if_pos hlt
        gi_wp2
        refine ⟨trivial, (CallsIn.inRound l HC.out).mono ?_⟩
        clear c0 c3 f0 f3 y0 y1 y2 y3 y4 y5 y6 y7 z0 z1 z2 z3 z4 z5 z6 z7 fO
        rintro e w' ⟨rfl, hg⟩
        have jS := iS.kps hg.kp
        have jO := iO.kps hg.kp
        have jT := T.kps hg.kp
        obtain ⟨c3, f3, q3⟩ := _root_.id jS
        obtain ⟨y0, y1, y2, y3, y4, y5, y6, y7, yl⟩ := jT.tk
        simp only [Nat.zero_add] at y0 y1 y2 y3 y4 y5 y6 y7
        obtain ⟨z0, z1, z2, z3, z4, z5, z6, z7, zl⟩ := jO.tk
        simp only [Nat.zero_add] at z0 z1 z2 z3 z4 z5 z6 z7
        have fO := jO.fz
        have P := And.intro ((putT_kx (n1 := 0) (n2 := 0) (Kx.of_kp hg.kp) WO lO ⟨id, grp, wt, cpu, mask, rdy, v, r⟩).setCell (p := ⟨bS, 0, none⟩) WS lS (.bool true)) (And.intro (((i0.kps hg.kp).farT d0O ⟨id, grp, wt, cpu, mask, rdy, v, r⟩).far (p := ⟨bS, 0, none⟩) d0S.symm (.bool true)) (And.intro (Tb.farB ((iR.kps hg.kp).far dRO ⟨id, grp, wt, cpu, mask, rdy, v, r⟩) dRS.symm (.bool true)) (And.intro (Tb.farB (jO.put ⟨id, grp, wt, cpu, mask, rdy, v, r⟩) dOS.symm (.bool true)) (And.intro ((jS.farT dOS.symm ⟨id, grp, wt, cpu, mask, rdy, v, r⟩).set (.bool true)) ((putT_kp (i4.trans (hg.kp.mono i4.size)) WO ⟨id, grp, wt, cpu, mask, rdy, v, r⟩).setCell (p := ⟨bS, 0, none⟩) WS (.bool true))))))
        simp only [putT] at P
        have HP := Lib.hid P
        clear P
        gi_wp2
        all_goals
          simp only [roundEnd]
          rw [e]
          simp only [Option.getD_some, Option.isSome_some]
          with_reducible exact HP.out
      · obtain ⟨z, hz, hz0⟩ : ∃ z, cmpI wt y.wt = z ∧ z ≤ 0 := ⟨_, rfl, cmpI_not hlt⟩
        rw [hz] at HC
        have e : bestT (pre ++ [⟨id, grp, wt, cpu, mask, rdy, v, r⟩]) = bestT pre := by rw [HB.out, hb]; exact if_neg hlt
        gi_wp2
        refine ⟨trivial, (CallsIn.inRound l HC.out).mono ?_⟩
        clear c0 c3 f0 f3 y0 y1 y2 y3 y4 y5 y6 y7 z0 z1 z2 z3 z4 z5 z6 z7 fO hz
        rintro e w' ⟨rfl, hg⟩
        have jS := iS.kps hg.kp
        have jO := iO.kps hg.kp
        gi_wp2
        all_goals
          simp only [roundEnd]
          rw [e, hb]
          exact ⟨Kx.of_kp hg.kp, i0.kps hg.kp, iR.kps hg.kp, jO, by rw [← hb]; exact jS, i4.trans (hg.kp.mono i4.size)⟩
  case done =>
    clear a0 aR aO aS k3 HIT
    rintro D V hD ⟨i0, i1, i2, i3, i4⟩ hd
    generalize hO : (bestT L).getD t0 = o at *
    obtain ⟨id, grp, wt, cpu, mask, rdy, v, r⟩ := o
    have HO := Lib.hid hO
    clear hO
    obtain ⟨c3, f3, q3⟩ := _root_.id i3
    obtain ⟨z0, z1, z2, z3, z4, z5, z6, z7, zl⟩ := i2.tk
    simp only [Nat.zero_add] at z0 z1 z2 z3 z4 z5 z6 z7
    obtain ⟨r0, r1, r2, r3, r4, r5, r6, r7, rl⟩ := i1.tk
    simp only [Nat.zero_add] at r0 r1 r2 r3 r4 r5 r6 r7
    have fR := i1.fz
    go_wp2_with fail
    refine wp_region_noPanic ?_
    refine wp_region_anyN (fun w' => w'.cell? ⟨bS, 0, none⟩ = some (.bool (bestT L).isSome) ∧ w'.cell? ⟨bO, 0, none⟩ = some (.int .i64 id) ∧ w'.cell? ⟨bO, 1, none⟩ = some (.int .i64 grp) ∧ w'.cell? ⟨bO, 2, none⟩ = some (.int .i64 wt) ∧ w'.cell? ⟨bO, 3, none⟩ = some (.int .i64 cpu) ∧ w'.cell? ⟨bO, 4, none⟩ = some (.int .u64 mask) ∧ w'.cell? ⟨bO, 5, none⟩ = some (.bool rdy) ∧ w'.cell? ⟨bO, 6, none⟩ = some (.int .u64 v) ∧ w'.cell? ⟨bO, 7, none⟩ = some (.int .u32 r)) 3 (by kernel_rfl) ?_
    have hS : V.drew.cell? ⟨bS, 0, none⟩ = some (.bool (bestT L).isSome) ∧ V.drew.cell? ⟨bO, 0, none⟩ = some (.int .i64 id) ∧ V.drew.cell? ⟨bO, 1, none⟩ = some (.int .i64 grp) ∧ V.drew.cell? ⟨bO, 2, none⟩ = some (.int .i64 wt) ∧ V.drew.cell? ⟨bO, 3, none⟩ = some (.int .i64 cpu) ∧ V.drew.cell? ⟨bO, 4, none⟩ = some (.int .u64 mask) ∧ V.drew.cell? ⟨bO, 5, none⟩ = some (.bool rdy) ∧ V.drew.cell? ⟨bO, 6, none⟩ = some (.int .u64 v) ∧ V.drew.cell? ⟨bO, 7, none⟩ = some (.int .u32 r) := ⟨c3, z0, z1, z2, z3, z4, z5, z6, z7⟩
    have P := And.intro (i1.drew.put ⟨id, grp, wt, cpu, mask, rdy, v, r⟩) (putT_kp i4.drew WR ⟨id, grp, wt, cpu, mask, rdy, v, r⟩)
    have hd2 : (putT V.drew bR ⟨id, grp, wt, cpu, mask, rdy, v, r⟩).heap[D]? = some (.deferred (some [])) := (putT_block _ _ _ _ (by omega)).trans hd
    have e0 : V.drew.cell? ⟨bR, 0, none⟩ = some (.int .i64 t0.id) := r0
    have e1 : V.drew.cell? ⟨bR, 1, none⟩ = some (.int .i64 t0.grp) := r1
    have e2 : V.drew.cell? ⟨bR, 2, none⟩ = some (.int .i64 t0.wt) := r2
    have e3 : V.drew.cell? ⟨bR, 3, none⟩ = some (.int .i64 t0.cpu) := r3
    have e4 : V.drew.cell? ⟨bR, 4, none⟩ = some (.int .u64 t0.mask) := r4
    have e5 : V.drew.cell? ⟨bR, 5, none⟩ = some (.bool t0.rdy) := r5
    have e6 : V.drew.cell? ⟨bR, 6, none⟩ = some (.int .u64 t0.v) := r6
    have e7 : V.drew.cell? ⟨bR, 7, none⟩ = some (.int .u32 t0.r) := r7
    have fR2 : ∀ o, V.drew.frozen? ⟨bR, o, none⟩ = false := fR
    have rl2 : bR < V.drew.heap.size := rl
    clear c3 f3 q3 z0 z1 z2 z3 z4 z5 z6 z7 zl r0 r1 r2 r3 r4 r5 r6 r7 rl fR i0 i1 i2 i3 i4 hd
    generalize V.drew = w0 at *
    refine anyN_takeR 0 (v := ?_) rfl (by kernel_rfl) (by kernel_rfl) (by kernel_rfl) (by kernel_rfl) (fun _ _ _ h => h) (Or.inl ⟨by rfl, ?_⟩) hS ?_
    rotate_left
    · intro w hSw
      obtain ⟨_, _, _, _, _, _, _, _, _⟩ := hSw
      go_simp
      try with_reducible rfl
    simp only [Act.put, List.setIfInBounds_toArray, List.set_cons_zero, List.set_cons_succ]
    refine anyN_takeR 1 (v := ?_) rfl (by kernel_rfl) (by kernel_rfl) (by kernel_rfl) (by kernel_rfl) (fun _ _ _ h => h) (Or.inl ⟨by rfl, ?_⟩) hS ?_
    rotate_left
    · intro w hSw
      obtain ⟨_, _, _, _, _, _, _, _, _⟩ := hSw
      go_simp
      try with_reducible rfl
    simp only [Act.put, List.setIfInBounds_toArray, List.set_cons_zero, List.set_cons_succ]
    refine anyN_one 2 rfl (by kernel_rfl) rfl ?_
    go_simp
    refine anyN_one 3 rfl (by kernel_rfl) rfl ?_
    go_simp
    refine anyN_done (by kernel_rfl) ?_
    refine NoPanic.normal ?_
    simp only [putT] at P hd2
    obtain ⟨⟨T, _⟩, K⟩ := P
    generalize World.setCell _ _ _ = w9 at *
    clear e0 e1 e2 e3 e4 e5 e6 e7 fR2 rl2 hS
    have T2 := T.blk (w' := w9.putObj D (.deferred none)) (World.putObj_heap_other (by omega)) (by simp)
    have K2 := K.put (Nat.le_trans hs3 hD) (.deferred none)
    go_wp2_with fail
    refine ⟨by simp, .inl ⟨_, _, rfl, run_takeDeferred hd2, ?_⟩⟩
    generalize w9.putObj _ _ = w10 at *
    obtain ⟨y0, y1, y2, y3, y4, y5, y6, y7, yl⟩ := T2
    simp only [Nat.zero_add] at y0 y1 y2 y3 y4 y5 y6 y7
    refine ⟨.tuple #[tkv ⟨id, grp, wt, cpu, mask, rdy, v, r⟩, .bool (bestT L).isSome], ?_, by rw [HO.out], K2⟩
    simp [results, Try.results39, go_sem, y0, y1, y2, y3, y4, y5, y6, y7]
end Go.Proofs.Yticgdfbknaholaa
