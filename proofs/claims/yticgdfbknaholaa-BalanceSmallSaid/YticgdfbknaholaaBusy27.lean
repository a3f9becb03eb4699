/-
  The contract of best, of whole numbers; of Busiest.
-/
import Derived.Test.YticgdfbknaholaaBest27
import Derived.Test.YticgdfbknaholaaPlain27
namespace Go.Proofs.Yticgdfbknaholaa
open Go.RowKit
attribute [local go_sem] Oper.semAt_some

/-- The first of the greatest. -/
def bestStep (f : Nat → Int) (o : Option Nat) (x : Nat) : Option Nat := match o with
  | none => some x
  | some b => if f b < f x then some x else some b
def bestI (f : Nat → Int) (xs : List Nat) : Option Nat := xs.foldl (bestStep f) none
theorem bestI_snoc (f : Nat → Int) (xs : List Nat) (x : Nat) : bestI f (xs ++ [x]) = bestStep f (bestI f xs) x := by unfold bestI; rw [List.foldl_append]; rfl
theorem bestI_mem (f : Nat → Int) : ∀ (xs : List Nat) (P : Nat → Prop), (∀ x ∈ xs, P x) → ∀ b, bestI f xs = some b → P b := by
  intro xs P h
  have go : ∀ (xs : List Nat) (o : Option Nat), (∀ x ∈ xs, P x) → (∀ b, o = some b → P b) → ∀ b, xs.foldl (bestStep f) o = some b → P b := by
    intro xs
    induction xs with
    | nil => intro o _ h b e; exact h b e
    | cons x xs ih =>
      intro o hx ho b e
      refine ih (bestStep f o x) (fun y hy => hx y (List.mem_cons_of_mem _ hy)) (fun c hc => ?_) b e
      unfold bestStep at hc
      split at hc
      · cases hc; exact hx _ List.mem_cons_self
      · split at hc <;> cases hc
        · exact hx _ List.mem_cons_self
        · exact ho _ rfl
  exact go xs none h (fun b e => by cases e)
theorem cmpI_pos {a b : Int} (h : b < a) : cmpI a b = 1 := by unfold cmpI; rw [if_neg (by omega), if_pos h]
theorem cmpI_not {a b : Int} (h : ¬ b < a) : cmpI a b ≤ 0 := by unfold cmpI; split <;> (try split) <;> omega
theorem othersL_lt {n c : Nat} {cpu : Int} (h : c ∈ othersL n cpu) : c < n ∧ (c : Int) ≠ cpu := by
  unfold othersL at h
  obtain ⟨h1, h2⟩ := List.mem_filter.1 h
  exact ⟨List.mem_range.1 h1, of_decide_eq_true h2⟩

set_option maxRecDepth 100000 in
set_option maxHeartbeats 4000000 in
theorem bestI_any (W : World) {bL bC bR lb : Nat} {f : Nat → Int} {cpu : Int} (hlb : lb ≤ 64) (hL : W.cell? ⟨bL, 0, none⟩ = some (.slice (some ⟨bR, 0, none⟩) lb lb)) (hC : W.cell? ⟨bC, 0, none⟩ = some (.int .i64 cpu))
    (h1 : bL < W.heap.size) (h2 : bC < W.heap.size) (hR : Row W bR lb (fun c => .int .i64 (f c))) :
    Calls Try.prog 35 #[.func (.func 34) #[] #[.pointer (some ⟨bL, 0, none⟩), .pointer (some ⟨bC, 0, none⟩)], .func (.func 36) #[] #[.pointer (some ⟨bL, 0, none⟩)]] W fun e w' =>
      e = .returned (.tuple #[.int .i64 (((bestI f (othersL lb cpu)).getD 0 : Nat) : Int), .bool (bestI f (othersL lb cpu)).isSome]) ∧ Kp W.heap.size W w' := by
  refine (callsIn_wide (n := 3)).1 ?_
  refine callsIn_of_wp_marks Try.func35 rfl trivial ?_ rfl
  simp only [Try.ntmps35, List.size_toArray, List.length_cons, List.length_nil, Nat.reduceAdd, Nat.reduceSub, Array.replicate_succ, Array.replicate_zero, List.push_toArray, List.append_toArray, List.nil_append, List.cons_append]
  gi_wp2
  have k3 := (((Kp.refl W.heap.size W).alloc (Nat.le_refl _) (.cells #[.func (.func 36) #[] #[.pointer (some ⟨bL, 0, none⟩)]] 57)).alloc (by rw [World.size_alloc]; omega) (.cells #[.int .i64 0] 3)).alloc (by rw [World.size_alloc, World.size_alloc]; omega) (.cells #[.bool false] 4)
  have a0 := ((Bx.new W (.func (.func 36) #[] #[.pointer (some ⟨bL, 0, none⟩)]) 57).alloc (.cells #[.int .i64 0] 3)).alloc (.cells #[.bool false] 4)
  have a1 := (Bx.new (W.alloc (.cells #[.func (.func 36) #[] #[.pointer (some ⟨bL, 0, none⟩)]] 57)) (.int .i64 0) 3).alloc (.cells #[.bool false] 4)
  have a2 := Bx.new ((W.alloc (.cells #[.func (.func 36) #[] #[.pointer (some ⟨bL, 0, none⟩)]] 57)).alloc (.cells #[.int .i64 0] 3)) (.bool false) 4
  simp only [World.size_alloc, Nat.add_assoc, Nat.reduceAdd] at a1 a2
  have HIT := others_iter (W0 := W) (cpu := cpu) hlb hL hC h1 h2
  generalize ((W.alloc _).alloc _).alloc _ = w3 at *
  obtain ⟨b1, hb1⟩ : ∃ b, b = W.heap.size + 1 := ⟨_, rfl⟩
  obtain ⟨b2, hb2⟩ : ∃ b, b = W.heap.size + 2 := ⟨_, rfl⟩
  obtain ⟨b0, hb0⟩ : ∃ b, b = W.heap.size := ⟨_, rfl⟩
  rw [← hb1] at a1
  rw [← hb2] at a2
  rw [← hb0] at a0
  rw [← hb1, show b1 + 1 = b2 by omega, ← hb0]
  have HW := Lib.hid (And.intro hL (And.intro h1 hR))
  have l0 := a0.lt
  have l1 := a1.lt
  have l2 := a2.lt
  have hs3 : W.heap.size ≤ w3.heap.size := k3.size
  have d01 : b0 ≠ b1 := by omega
  have d02 : b0 ≠ b2 := by omega
  have d12 : b1 ≠ b2 := by omega
  have W1 : W.heap.size ≤ b1 := by omega
  have W2 : W.heap.size ≤ b2 := by omega
  clear hb0 hb1 hb2
  refine range_law (m := 1) (gf := 34) rfl (enters_of Try.func34 (by kernel_rfl) rfl) HIT (Nat.zero_le _) (Kx.of_kp k3) (fun _ => rfl)
    (fun pre w => Bx w b0 (.func (.func 36) #[] #[.pointer (some ⟨bL, 0, none⟩)]) ∧ Bx w b1 (.int .i64 (((bestI f pre).getD 0 : Nat) : Int)) ∧ Bx w b2 (.bool (bestI f pre).isSome) ∧ Kp W.heap.size W w)
    (fun _ _ => False)
    (fun pre A B ⟨i0, i1, i2, i3⟩ k => ⟨i0.kp k (by omega), i1.kp k (by omega), i2.kp k (by omega), i3.trans (k.mono (by omega))⟩)
    (fun _ _ _ h _ => h) ⟨a0, a1, a2, k3⟩ ?round ?done ?stop
  case stop => intro D pre x rest W _ _ h _; exact h.elim
  case round =>
    clear a0 a1 a2 k3 HIT hL hC h1 h2 hR
    rintro l pre x rest hxs V hl1 hl2 hi
    gi_wp2
    refine ⟨Kp.refl _ _, fun Wb hkb hsb hib => ?_⟩
    clear hi hkb
    obtain ⟨i0, i1, i2, i3⟩ := hib
    obtain ⟨hL, h1, hR⟩ := HW.out
    have hx : x < lb := (othersL_lt (show x ∈ othersL lb cpu by rw [hxs]; simp)).1
    have hp : ∀ y ∈ pre, y < lb := fun y hy => (othersL_lt (show y ∈ othersL lb cpu by rw [hxs]; simp [hy])).1
    have HB := Lib.hid (bestI_snoc f pre x)
    obtain ⟨c0, f0, q0⟩ := i0
    obtain ⟨c1, f1, q1⟩ := id i1
    obtain ⟨c2, f2, q2⟩ := id i2
    cases hb : bestI f pre with
    | none =>
      rw [hb] at c1 c2
      simp only [Option.getD_none, Option.isSome_none] at c1 c2
      gi_wp2
      have e : bestI f (pre ++ [x]) = some x := by rw [HB.out, hb]; rfl
      refine ⟨fun _ h => (by cases h), ?_⟩
      gi_wp2
      all_goals
        simp only [roundEnd]
        rw [e]
        exact ⟨((Kx.refl _ _ _ _ _).setCell W1 l1 _).setCell W2 l2 _, ((Bx.mk c0 f0 q0).far d01.symm _).far d02.symm _, (i1.set _).far d12.symm _, ((i2.far d12 _).set _), (i3.setCell W1 _).setCell W2 _⟩
    | some y =>
      rw [hb] at c1 c2
      simp only [Option.getD_some, Option.isSome_some] at c1 c2
      have hy : y < lb := bestI_mem f pre (fun y => y < lb) hp y hb
      have hkW : Kp W.heap.size W Wb := i3
      have HC := Lib.hid (callsIn_wide (n := 0).2 (cmpLoads_any Wb hx hy ((hkW.cell (p := ⟨bL, 0, none⟩) h1).trans hL) (hR.kp hkW)))
      have i0 := Bx.mk c0 f0 q0
      by_cases hlt : f y < f x
      · rw [cmpI_pos hlt] at HC
        have e : bestI f (pre ++ [x]) = some x := by rw [HB.out, hb]; exact if_pos hlt
        gi_wp2
        refine ⟨trivial, (CallsIn.inRound l HC.out).mono ?_⟩
        clear c0 c1 c2 f0 f1 f2
        rintro e w' ⟨rfl, hg⟩
        have j1 := i1.kps hg.kp
        have j2 := i2.kps hg.kp
        obtain ⟨c1, f1, q1'⟩ := id j1
        obtain ⟨c2, f2, q2'⟩ := id j2
        gi_wp2
        all_goals
          simp only [roundEnd]
          rw [e]
          exact ⟨((Kx.of_kp hg.kp).setCell W1 l1 _).setCell W2 l2 _, ((i0.kps hg.kp).far d01.symm _).far d02.symm _, (j1.set _).far d12.symm _, (j2.far d12 _).set _, ((i3.trans (hg.kp.mono i3.size)).setCell W1 _).setCell W2 _⟩
      · obtain ⟨z, hz, hz0⟩ : ∃ z, cmpI (f x) (f y) = z ∧ z ≤ 0 := ⟨_, rfl, cmpI_not hlt⟩
        rw [hz] at HC
        have e : bestI f (pre ++ [x]) = bestI f pre := by rw [HB.out, hb]; exact if_neg hlt
        gi_wp2
        refine ⟨trivial, (CallsIn.inRound l HC.out).mono ?_⟩
        clear c0 c1 c2 f0 f1 f2 hz
        rintro e w' ⟨rfl, hg⟩
        have j1 := i1.kps hg.kp
        have j2 := i2.kps hg.kp
        gi_wp2
        all_goals
          simp only [roundEnd]
          rw [e]
          exact ⟨Kx.of_kp hg.kp, i0.kps hg.kp, j1, j2, i3.trans (hg.kp.mono i3.size)⟩
  case done =>
    clear a0 a1 a2 k3 HIT hL hC h1 h2 hR
    rintro D V hD ⟨i0, i1, i2, i3⟩ hd
    obtain ⟨c1, f1, q1⟩ := id i1
    obtain ⟨c2, f2, q2⟩ := id i2
    gi_wp2
    gi_region
    all_goals gi_wp2
    all_goals
      have hd2 : V.drew.heap[D]? = some (.deferred (some [])) := hd
      refine ⟨by simp, .inl ⟨_, _, rfl, run_takeDeferred hd2, ?_⟩⟩
      refine ⟨.tuple #[.int .i64 (((bestI f (othersL lb cpu)).getD 0 : Nat) : Int), .bool (bestI f (othersL lb cpu)).isSome], ?_, rfl, i3.drew.put (Nat.le_trans hs3 hD) _⟩
      simp [results, Try.results35, go_sem]
end Go.Proofs.Yticgdfbknaholaa
