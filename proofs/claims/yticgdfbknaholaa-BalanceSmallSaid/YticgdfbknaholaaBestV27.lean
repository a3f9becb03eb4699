/-
  What is best: the busiest other CPU, the heaviest light task; no program is spoken of.
-/
import Derived.Test.YticgdfbknaholaaPlanV27
namespace Go.Proofs.Yticgdfbknaholaa
open Go.RowKit

theorem bestI_go (f : Nat → Int) : ∀ (xs : List Nat) (o : Option Nat) (b : Nat), xs.Pairwise (· < ·) → (∀ a, o = some a → ∀ x ∈ xs, a < x) → xs.foldl (bestStep f) o = some b →
    (∀ a, o = some a → f a < f b ∨ (f a = f b ∧ b ≤ a)) ∧ ∀ x ∈ xs, f x < f b ∨ (f x = f b ∧ b ≤ x)
  | [], o, b, _, _, h => by
    rw [List.foldl_nil] at h
    subst h
    exact ⟨fun a e => (by cases e; exact Or.inr ⟨rfl, Nat.le_refl _⟩), fun x hx => (by cases hx)⟩
  | y :: xs, o, b, hp, ho, h => by
    rw [List.foldl_cons] at h
    rw [List.pairwise_cons] at hp
    cases o with
    | none =>
      obtain ⟨h1, h2⟩ := bestI_go f xs (some y) b hp.2 (fun a e x hx => (by cases e; exact hp.1 x hx)) h
      exact ⟨fun a e => (by cases e), fun x hx => by
        rcases List.mem_cons.1 hx with rfl | h3
        · exact h1 _ rfl
        · exact h2 x h3⟩
    | some a =>
      have hay := ho a rfl y List.mem_cons_self
      by_cases hlt : f a < f y
      · rw [show bestStep f (some a) y = some y by unfold bestStep; exact if_pos hlt] at h
        obtain ⟨h1, h2⟩ := bestI_go f xs (some y) b hp.2 (fun c e x hx => (by cases e; exact hp.1 x hx)) h
        have h3 := h1 y rfl
        exact ⟨fun c e => (by cases e; omega), fun x hx => by
          rcases List.mem_cons.1 hx with rfl | h4
          · exact h3
          · exact h2 x h4⟩
      · rw [show bestStep f (some a) y = some a by unfold bestStep; exact if_neg hlt] at h
        obtain ⟨h1, h2⟩ := bestI_go f xs (some a) b hp.2 (fun c e x hx => (by cases e; exact ho _ rfl x (List.mem_cons_of_mem _ hx))) h
        have h3 := h1 a rfl
        exact ⟨h1, fun x hx => by
          rcases List.mem_cons.1 hx with rfl | h4
          · omega
          · exact h2 x h4⟩
theorem range_sorted (n : Nat) : (List.range n).Pairwise (· < ·) := List.pairwise_lt_range
/-- The busiest of the others: none is busier; of equal ones it is the first. -/
theorem busy_best {f : Nat → Int} {n : Nat} {cpu : Int} {b : Nat} (h : bestI f (othersL n cpu) = some b) {c : Nat} (hc : c < n) (hne : (c : Int) ≠ cpu) : f c < f b ∨ (f c = f b ∧ b ≤ c) := by
  refine (bestI_go f _ none b ((range_sorted n).filter _) (fun a e => by cases e) h).2 c ?_
  rw [List.mem_filter]
  exact ⟨List.mem_range.2 hc, decide_eq_true hne⟩
theorem bestI_some (f : Nat → Int) : ∀ (xs : List Nat) (o : Option Nat), (o.isSome = true ∨ xs ≠ []) → (xs.foldl (bestStep f) o).isSome = true
  | [], o, h => by rcases h with h | h; exact h; exact absurd rfl h
  | y :: xs, o, _ => by
    rw [List.foldl_cons]
    refine bestI_some f xs _ (Or.inl ?_)
    cases o with
    | none => rfl
    | some a => unfold bestStep; dsimp only; split <;> rfl
/-- Of one CPU alone there is no other one; of two there is. -/
theorem busy_one {ts : List Tk} {cur : List Int} (hf : Sc.fit ⟨((1 : Nat) : Int), ts, cur⟩) : busyE ⟨((1 : Nat) : Int), ts, cur⟩ 0 = 6 := by
  have hl : cur.length = 1 := by have := hf.cur; dsimp only at this; omega
  unfold busyE
  rw [if_pos ((rightS_iff _).2 hf), if_pos ⟨Int.le_refl _, by dsimp only; omega⟩]
  dsimp only
  rw [hl]
  rfl
theorem busy_two {N : Nat} {ts : List Tk} {cur : List Int} {q : Nat} (hf : Sc.fit ⟨(N : Int), ts, cur⟩) (h2 : 2 ≤ N) (hq : q < N) :
    ∃ p : Nat, busyE ⟨(N : Int), ts, cur⟩ q = 0 ∧ busyN ⟨(N : Int), ts, cur⟩ q = (p : Int) ∧ p < N ∧ p ≠ q ∧ ∀ c, c < N → c ≠ q → loadV ts c < loadV ts p ∨ (loadV ts c = loadV ts p ∧ p ≤ c) := by
  have hl : cur.length = N := by have := hf.cur; dsimp only at this; omega
  have hs : (bestI (loadV ts) (othersL N (q : Int))).isSome = true := by
    refine bestI_some _ _ _ (Or.inr ?_)
    intro e
    have hm : (if q = 0 then 1 else 0) ∈ othersL N (q : Int) := by
      unfold othersL
      rw [List.mem_filter]
      split
      · exact ⟨List.mem_range.2 (by omega), decide_eq_true (by omega)⟩
      · exact ⟨List.mem_range.2 (by omega), decide_eq_true (by omega)⟩
    rw [e] at hm
    cases hm
  have hE : busyE ⟨(N : Int), ts, cur⟩ q = 0 := by
    unfold busyE
    rw [if_pos ((rightS_iff _).2 hf), if_pos ⟨by omega, by dsimp only; omega⟩]
    dsimp only
    rw [hl, hs]
    rfl
  obtain ⟨_, _, _, p, hp, hpl, hpq⟩ := busy_ok hE
  dsimp only at hpl
  refine ⟨p, hE, hp, by omega, fun e => hpq (by rw [e]), fun c hc hcq => ?_⟩
  obtain ⟨b, hb⟩ := Option.isSome_iff_exists.1 hs
  have hbp : b = p := by
    unfold busyN at hp
    rw [if_pos ((rightS_iff _).2 hf), if_pos ⟨by omega, by dsimp only; omega⟩] at hp
    dsimp only at hp
    rw [hl, hb, Option.getD_some] at hp
    omega
  rw [← hbp]
  exact busy_best hb hc (by omega)
/-- The heaviest so far, as a loop over all tasks finds it. -/
def litB (s : Sc) (p q : Nat) (t : Tk) : Bool := freeB s p q t && lightB (loadV s.ts) p q t
def bestSoFar (s : Sc) (p q : Nat) (us : List Tk) : Tk := (bestT (us.filter (litB s p q))).getD t0
theorem best_snoc {s : Sc} {p q : Nat} {us : List Tk} {t : Tk} (hw : 1 ≤ t.wt) : bestSoFar s p q (us ++ [t]) = if litB s p q t = true ∧ (bestSoFar s p q us).wt < t.wt then t else bestSoFar s p q us := by
  unfold bestSoFar
  rw [List.filter_append]
  cases hl : litB s p q t with
  | false =>
    rw [if_neg (fun h => by cases h.1)]
    have : [t].filter (litB s p q) = [] := by simp [hl]
    rw [this, List.append_nil]
  | true =>
    have : [t].filter (litB s p q) = [t] := by simp [hl]
    rw [this, bestT_snoc]
    cases hb : bestT (us.filter (litB s p q)) with
    | none =>
      rw [if_pos ⟨rfl, by rw [Option.getD_none]; show (0 : Int) < t.wt; omega⟩]
      rfl
    | some b =>
      rw [Option.getD_some]
      unfold bestTStep
      dsimp only
      by_cases h : b.wt < t.wt
      · rw [if_pos h, if_pos ⟨rfl, h⟩]; rfl
      · rw [if_neg h, if_neg (fun k => h k.2)]; rfl
theorem light_filter (s : Sc) (p q : Nat) : lightL s (loadV s.ts) p q = s.ts.filter (litB s p q) := by
  unfold lightL freeL litB
  rw [List.filter_filter]
  congr 1
  funext t
  exact Bool.and_comm _ _
/-- What is pulled is the heaviest that the loop finds. -/
theorem pull_best {s : Sc} {p q : Nat} (hE : busyE s q = 0) (hN : busyN s q = (p : Int)) (hid : ∀ t ∈ s.ts, 0 < t.id) :
    (pullV s q = ((0, 0, 0), 6) ∧ (bestSoFar s p q s.ts).id = 0) ∨ (pullV s q = (((bestSoFar s p q s.ts).id, (p : Int), (q : Int)), 0) ∧ (bestSoFar s p q s.ts).id ≠ 0) := by
  unfold pullV pullT bestSoFar
  rw [if_pos hE, hN, Int.toNat_natCast, Int.toNat_natCast, light_filter]
  cases hb : bestT (s.ts.filter (litB s p q)) with
  | none => exact Or.inl ⟨rfl, rfl⟩
  | some t =>
    refine Or.inr ⟨rfl, ?_⟩
    rw [Option.getD_some]
    have := bestT_mem _ (fun t => t ∈ s.ts) (fun x hx => (List.mem_filter.1 hx).1) t hb
    have := hid t this
    omega
theorem pull_one {ts : List Tk} {cur : List Int} (hf : Sc.fit ⟨((1 : Nat) : Int), ts, cur⟩) : pullV ⟨((1 : Nat) : Int), ts, cur⟩ ((0 : Nat) : Int) = ((0, 0, 0), 6) := by
  have h : busyE ⟨((1 : Nat) : Int), ts, cur⟩ ((0 : Nat) : Int) = 6 := busy_one hf
  unfold pullV
  rw [h]
  rfl
theorem best_wt0 {s : Sc} {p q : Nat} {us : List Tk} (h : ∀ t ∈ us, 0 ≤ t.wt) : 0 ≤ (bestSoFar s p q us).wt := by
  unfold bestSoFar
  cases hb : bestT (us.filter (litB s p q)) with
  | none => exact Int.le_refl _
  | some t => exact bestT_mem _ (fun t => 0 ≤ t.wt) (fun x hx => h x (List.mem_filter.1 hx).1) t hb
end Go.Proofs.Yticgdfbknaholaa
