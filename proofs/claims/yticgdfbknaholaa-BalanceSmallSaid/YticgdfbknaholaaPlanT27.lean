/-
  Plans as runs of moves: what a plan of so many moves is, and that it ends where nothing is pulled; no program is spoken of.
-/
import Derived.Test.YticgdfbknaholaaPlan27
import Derived.Test.YticgdfbknaholaaBestV27
namespace Go.Proofs.Yticgdfbknaholaa
open Go.RowKit

/-- The scene behind what a CPU pulls. -/
def nextS (s : Sc) (c : Int) : Sc := (doV s (pullV s c).1.1 (pullV s c).1.2.1 (pullV s c).1.2.2).1
/-- A run of pulls. -/
inductive Steps : Sc → List Mv → Sc → Prop
  | nil (s : Sc) : Steps s [] s
  | cons {s s' : Sc} {c : Int} {ms : List Mv} (h : (pullV s c).2 = 0) (t : Steps (nextS s c) ms s') : Steps s ((pullV s c).1 :: ms) s'
theorem Steps.app {s s' s'' : Sc} {a b : List Mv} (h : Steps s a s') (k : Steps s' b s'') : Steps s (a ++ b) s'' := by
  induction h with
  | nil s => exact k
  | cons h t ih => exact Steps.cons h (ih k)
theorem turn_steps : ∀ (k : Nat) (s : Sc) (c : Int) (out : List Mv), ∃ ms, (turnV k s c out).2 = out ++ ms ∧ Steps s ms (turnV k s c out).1 ∧ ms.length ≤ k ∧ (ms.length < k → (pullV (turnV k s c out).1 c).2 ≠ 0)
  | 0, s, c, out => ⟨[], by simp [turnV], Steps.nil s, Nat.le_refl _, fun h => absurd h (Nat.not_lt_zero _)⟩
  | k + 1, s, c, out => by
    unfold turnV
    by_cases h : (pullV s c).2 = 0
    · rw [if_pos h]
      obtain ⟨ms, h1, h2, h3, h4⟩ := turn_steps k (nextS s c) c (out ++ [(pullV s c).1])
      exact ⟨(pullV s c).1 :: ms, by rw [show (doV s (pullV s c).1.1 (pullV s c).1.2.1 (pullV s c).1.2.2).1 = nextS s c from rfl, h1]; simp, Steps.cons h h2, by rw [List.length_cons]; omega, fun hl => h4 (by rw [List.length_cons] at hl; omega)⟩
    · rw [if_neg h]
      exact ⟨[], by simp, Steps.nil s, Nat.zero_le _, fun _ => h⟩
theorem steps_nil {s s' : Sc} (h : Steps s [] s') : s' = s := by
  cases h
  rfl
theorem round_steps (most : Nat) : ∀ (k cpu : Nat) (s : Sc) (out : List Mv), out.length ≤ most → ∃ ms, (roundV most k cpu s out).2 = out ++ ms ∧ Steps s ms (roundV most k cpu s out).1 ∧ (out ++ ms).length ≤ most ∧ (ms = [] → out.length < most → ∀ c, cpu ≤ c → c < cpu + k → (pullV s (c : Int)).2 ≠ 0)
  | 0, cpu, s, out, h => ⟨[], by simp [roundV], Steps.nil s, by simpa using h, fun _ _ c h1 h2 => by omega⟩
  | k + 1, cpu, s, out, h => by
    unfold roundV
    obtain ⟨a, a1, a2, a3, a4⟩ := turn_steps (most - out.length) s (cpu : Int) out
    obtain ⟨b, b1, b2, b3, b4⟩ := round_steps most k (cpu + 1) (turnV (most - out.length) s (cpu : Int) out).1 (turnV (most - out.length) s (cpu : Int) out).2 (by rw [a1, List.length_append]; omega)
    refine ⟨a ++ b, by rw [b1, a1, List.append_assoc], a2.app b2, by rw [a1] at b3; rw [← List.append_assoc]; exact b3, fun hn hl c h1 h2 => ?_⟩
    obtain ⟨ha, hb⟩ := List.append_eq_nil_iff.1 hn
    subst ha hb
    have e1 := steps_nil a2
    rw [e1] at b4 a4
    by_cases hc : c = cpu
    · subst hc
      exact a4 (by simp; omega)
    · exact b4 rfl (by rw [a1]; simpa using hl) c (by omega) (by omega)
/-- A run leaves the number of CPUs, and who runs. -/
theorem next_keeps {s : Sc} {c : Int} (h : (pullV s c).2 = 0) : (nextS s c).n = s.n ∧ (nextS s c).cur = s.cur := by
  obtain ⟨hr, hd, _⟩ := pull_ok h
  unfold nextS doV
  rw [if_pos hr, if_pos hd]
  exact ⟨rfl, rfl⟩
theorem steps_keeps {s s' : Sc} {ms : List Mv} (h : Steps s ms s') : s'.n = s.n ∧ s'.cur = s.cur := by
  induction h with
  | nil s => exact ⟨rfl, rfl⟩
  | cons h t ih => exact ⟨ih.1.trans (next_keeps h).1, ih.2.trans (next_keeps h).2⟩
theorem rounds_steps (most : Nat) : ∀ (f : Nat) (s : Sc) (out : List Mv), out.length ≤ most → most < f + out.length → ∃ ms, (roundsV most f s out).2 = out ++ ms ∧ Steps s ms (roundsV most f s out).1 ∧ (out ++ ms).length ≤ most ∧ ((out ++ ms).length < most → ∀ c : Nat, (c : Int) < s.n → (pullV (roundsV most f s out).1 (c : Int)).2 ≠ 0)
  | 0, s, out, h, hf => absurd hf (by omega)
  | f + 1, s, out, h, hf => by
    unfold roundsV
    obtain ⟨a, a1, a2, a3, a4⟩ := round_steps most s.n.toNat 0 s out h
    by_cases hl : out.length < (roundV most s.n.toNat 0 s out).2.length
    · rw [if_pos hl]
      obtain ⟨b, b1, b2, b3, b4⟩ := rounds_steps most f (roundV most s.n.toNat 0 s out).1 (roundV most s.n.toNat 0 s out).2 (by rw [a1]; exact a3) (by omega)
      have hn := (steps_keeps a2).1
      rw [a1] at b3 b4
      refine ⟨a ++ b, by rw [b1, a1, List.append_assoc], a2.app b2, by rw [← List.append_assoc]; exact b3, fun hm c hc => ?_⟩
      rw [← a1] at b4
      exact b4 (by rw [a1, List.append_assoc]; exact hm) c (by rw [hn]; exact hc)
    · rw [if_neg hl]
      have ha : a = [] := by
        rw [a1, List.length_append] at hl
        exact List.eq_nil_of_length_eq_zero (by omega)
      subst ha
      have e := steps_nil a2
      refine ⟨[], a1, a2, a3, fun hm c hc => ?_⟩
      rw [e]
      exact a4 rfl (by simpa using hm) c (Nat.zero_le _) (by omega)
/-- A plan: a run of at most so many moves; of fewer, it has come to its end. -/
theorem plan_steps {s : Sc} {M : Nat} (hf : s.fit) : ∃ s' ms, planV s (M : Int) = (s', ms, 0) ∧ Steps s ms s' ∧ ms.length ≤ M ∧ (ms.length < M → ∀ c : Nat, (c : Int) < s.n → (pullV s' (c : Int)).2 ≠ 0) := by
  obtain ⟨ms, h1, h2, h3, h4⟩ := rounds_steps M (M + 1) s [] (Nat.zero_le _) (by simp)
  refine ⟨(roundsV M (M + 1) s []).1, ms, ?_, h2, by simpa using h3, fun h => h4 (by simpa using h)⟩
  unfold planV
  rw [if_pos ((rightS_iff s).2 hf), if_neg (by omega), Int.toNat_natCast]
  rw [show (roundsV M (M + 1) s []).2 = ms from by simpa using h1]
end Go.Proofs.Yticgdfbknaholaa
