/-
  Plans as the reference makes them: the CPUs in a circle until none pulls.
-/
import Derived.Test.YticgdfbknaholaaPlanT27
namespace Go.Proofs.Yticgdfbknaholaa
open Go.RowKit

/-- Where pulling leads, from one CPU on. -/
inductive Lim (most n : Nat) : Sc → List Mv → Nat → Sc → List Mv → Prop
  | done {s : Sc} {out : List Mv} {c : Nat} (h : most ≤ out.length ∨ ∀ d : Nat, d < n → (pullV s (d : Int)).2 ≠ 0) : Lim most n s out c s out
  | pull {s s' : Sc} {out o' : List Mv} {c : Nat} (hl : out.length < most) (h : (pullV s (c : Int)).2 = 0) (t : Lim most n (nextS s (c : Int)) (out ++ [(pullV s (c : Int)).1]) c s' o') : Lim most n s out c s' o'
  | skip {s s' : Sc} {out o' : List Mv} {c : Nat} (hl : out.length < most) (h : (pullV s (c : Int)).2 ≠ 0) (t : Lim most n s out ((c + 1) % n) s' o') : Lim most n s out c s' o'
theorem Lim.full {most n : Nat} {s s' : Sc} {out o' : List Mv} {c : Nat} (h : Lim most n s out c s' o') (hl : most ≤ out.length) : s' = s ∧ o' = out := by
  cases h with
  | done _ => exact ⟨rfl, rfl⟩
  | pull h1 _ _ => omega
  | skip h1 _ _ => omega
theorem Lim.ended {most n : Nat} {s s' : Sc} {out o' : List Mv} {c : Nat} (h : Lim most n s out c s' o') (hn : 0 < n) (hc : c < n) (he : ∀ d : Nat, d < n → (pullV s (d : Int)).2 ≠ 0) : s' = s ∧ o' = out := by
  induction h with
  | done _ => exact ⟨rfl, rfl⟩
  | pull _ h1 _ _ => exact absurd h1 (he _ hc)
  | skip _ _ _ ih => exact ih (Nat.mod_lt _ hn) he
theorem Lim.pulls {most n : Nat} {s s' : Sc} {out o' : List Mv} {c : Nat} (h : Lim most n s out c s' o') (hc : c < n) (hl : out.length < most) (hp : (pullV s (c : Int)).2 = 0) : Lim most n (nextS s (c : Int)) (out ++ [(pullV s (c : Int)).1]) c s' o' := by
  cases h with
  | done h1 =>
    rcases h1 with h1 | h1
    · omega
    · exact absurd hp (h1 c hc)
  | pull _ _ t => exact t
  | skip _ h1 _ => exact absurd hp h1
theorem Lim.skips {most n : Nat} {s s' : Sc} {out o' : List Mv} {c : Nat} (h : Lim most n s out c s' o') (hp : (pullV s (c : Int)).2 ≠ 0) : Lim most n s out ((c + 1) % n) s' o' := by
  cases h with
  | done h1 => exact Lim.done h1
  | pull _ h1 _ => exact absurd h1 hp
  | skip _ _ t => exact t
theorem turn_lim {most n : Nat} {s' : Sc} {o' : List Mv} : ∀ (k : Nat) (s : Sc) (c : Nat) (out : List Mv), k = most - out.length → Lim most n (turnV k s (c : Int) out).1 (turnV k s (c : Int) out).2 ((c + 1) % n) s' o' → Lim most n s out c s' o'
  | 0, s, c, out, hk, h => by
    unfold turnV at h
    obtain ⟨rfl, rfl⟩ := h.full (by dsimp only; omega)
    exact Lim.done (Or.inl (by omega))
  | k + 1, s, c, out, hk, h => by
    unfold turnV at h
    by_cases hp : (pullV s (c : Int)).2 = 0
    · rw [if_pos hp] at h
      refine Lim.pull (by omega) hp (turn_lim k _ c _ (by rw [List.length_append]; simp; omega) h)
    · rw [if_neg hp] at h
      exact Lim.skip (by omega) hp h
theorem round_lim {most n : Nat} {s' : Sc} {o' : List Mv} (hn : 0 < n) : ∀ (k cpu : Nat) (s : Sc) (out : List Mv), cpu + k = n → Lim most n (roundV most k cpu s out).1 (roundV most k cpu s out).2 0 s' o' → Lim most n s out (cpu % n) s' o'
  | 0, cpu, s, out, hc, h => by
    unfold roundV at h
    rw [show cpu = n by omega, Nat.mod_self]
    exact h
  | k + 1, cpu, s, out, hc, h => by
    unfold roundV at h
    have h2 := round_lim hn k (cpu + 1) _ _ (by omega) h
    rw [Nat.mod_eq_of_lt (show cpu < n by omega)]
    exact turn_lim _ s cpu out rfl h2
theorem rounds_lim {most : Nat} : ∀ (f : Nat) (s : Sc) (out : List Mv), 0 < s.n.toNat → out.length ≤ most → most < f + out.length → Lim most s.n.toNat s out 0 (roundsV most f s out).1 (roundsV most f s out).2
  | 0, s, out, _, h, hf => absurd hf (by omega)
  | f + 1, s, out, hn, h, hf => by
    obtain ⟨a, a1, a2, a3, a4⟩ := round_steps most s.n.toNat 0 s out h
    have hz : 0 % s.n.toNat = 0 := Nat.zero_mod _
    unfold roundsV
    by_cases hl : out.length < (roundV most s.n.toNat 0 s out).2.length
    · rw [if_pos hl]
      have hk := (steps_keeps a2).1
      have ih := rounds_lim (most := most) f (roundV most s.n.toNat 0 s out).1 (roundV most s.n.toNat 0 s out).2 (by rw [hk]; exact hn) (by rw [a1]; exact a3) (by omega)
      rw [hk] at ih
      have := round_lim hn s.n.toNat 0 s out (by omega) ih
      rw [hz] at this
      exact this
    · rw [if_neg hl]
      have ha : a = [] := by
        rw [a1, List.length_append] at hl
        exact List.eq_nil_of_length_eq_zero (by omega)
      subst ha
      have e := steps_nil a2
      have hend : Lim most s.n.toNat (roundV most s.n.toNat 0 s out).1 (roundV most s.n.toNat 0 s out).2 0 (roundV most s.n.toNat 0 s out).1 (roundV most s.n.toNat 0 s out).2 := by
        refine Lim.done ?_
        rw [a1, e, List.append_nil]
        rcases Nat.lt_or_ge out.length most with h1 | h1
        · exact Or.inr (fun d hd => a4 rfl h1 d (Nat.zero_le _) (by omega))
        · exact Or.inl h1
      have := round_lim hn s.n.toNat 0 s out (by omega) hend
      rw [hz] at this
      exact this
theorem plan_lim {s : Sc} {M : Nat} (hf : s.fit) : ∃ s' ms, planV s (M : Int) = (s', ms, 0) ∧ Lim M s.n.toNat s [] 0 s' ms := by
  have h1 := hf.n1
  refine ⟨(roundsV M (M + 1) s []).1, (roundsV M (M + 1) s []).2, ?_, rounds_lim (M + 1) s [] (by omega) (Nat.zero_le _) (by simp)⟩
  unfold planV
  rw [if_pos ((rightS_iff s).2 hf), if_neg (by omega), Int.toNat_natCast]
end Go.Proofs.Yticgdfbknaholaa
