/-
  A drawn region, step by step: a take by a direct look at what waits for it.
-/
import Derived.Test.YticgdfbknaholaaCells4
namespace Go.Proofs.Yticgdfbknaholaa
variable {P : Program} {ops : Array Oper} {Q : Exit → Act → World → Prop} {md : Region.Mode} {S : World → Prop} {n : Nat}

/-- Each operation from n on waits for number i by an edge of its own. -/
def directB (md : Region.Mode) (ops : Array Oper) (n i : Nat) : Bool :=
  (List.range ops.size).all fun t => decide (t < n) || ((ops[t]?).map fun o => o.after.any fun e => Region.binds md e && e.on == i).getD true
theorem directB_spec {i : Nat} (h : directB md ops n i = true) {got : Array Bool} (hun : got.getD i true = false) {j : Nat} (hj : j ∈ Region.ready md ops got) (_ : j ≠ i) : j < n := by
  obtain ⟨_, oj, hoj, hall⟩ := mem_ready.1 hj
  have hlt : j < ops.size := (Array.getElem?_eq_some_iff.1 hoj).1
  have h := List.all_eq_true.1 h j (List.mem_range.2 hlt)
  rw [hoj] at h
  simp only [Option.map_some, Option.getD_some, Bool.or_eq_true, decide_eq_true_eq] at h
  rcases h with h | h
  · exact h
  · obtain ⟨e, he, h2⟩ := Array.any_eq_true'.1 h
    simp only [Bool.and_eq_true, beq_iff_eq] at h2
    have h3 := hall e he h2.1
    rw [h2.2, getD_both hun] at h3
    cases h3

theorem anyN_firstD {i : Nat} {oi : Oper} {v : Value} (hi : ops[i]? = some oi) (hsel : ∀ (j : Nat) (o : Oper) cs b, ops[j]? = some o → o.op ≠ .select cs b)
    (hQ : ∀ c a w, Q (.panic c) (a.put oi.dst v) w → Q (.panic c) a w) (hd : directB md ops n i = true) :
    ∀ (k : Nat) (got : Array Bool) (a : Act) (w : World),
      (∀ j oj, ops[j]? = some oj → j ≠ i → got.getD j true = false → (∀ e ∈ oj.after, Region.binds md e = true → e.on ≠ i) → oi.apart ops oj = true) →
      i ∈ Region.ready md ops got → YieldsIf P ops S oi v a → S w →
      anyN P md ops Q S n k (got.setIfInBounds i true) (a.put oi.dst v) w → anyN P md ops Q S n (k + 1) got a w
  | k, got, a, w, hfree, hr, hy, hS, H => by
    refine ⟨fun h0 => (by rw [h0] at hr; cases hr), fun j hj => ?_⟩
    by_cases hji : j = i
    · cases hji; exact hy.wpOp hi hS ⟨fun _ => hS, H⟩
    have hun := (mem_ready.1 hr).1
    have hjn : j < n := directB_spec hd hun hj hji
    have hj2 := ready_mono hj hji
    cases k with
    | zero => rw [H.1] at hj2; cases hj2
    | succ k =>
      obtain ⟨hjun, oj, hoj, hall⟩ := mem_ready.1 hj
      have hnot : ∀ e ∈ oj.after, Region.binds md e = true → e.on ≠ i := fun e he hb heq => by
        have h1 := hall e he hb
        rw [heq, getD_both hun] at h1
        cases h1
      have h2 := wpOp_putIf hoj (hfree j oj hoj hji hjun hnot) (fun cs b => hsel i oi cs b hi) (fun cs b => hsel j oj cs b hoj) hQ hy (H.2 j hj2)
      refine wpOp_mono (fun a' w' h3 => ⟨h3.2.1, ?_⟩) h2
      refine anyN_firstD hi hsel hQ hd k (got.setIfInBounds j true) a' w' (fun l ol hl hli hlun hno => ?_) (ready_mono hr (Ne.symm hji)) h3.1 (h3.2.1 hjn) ?_
      · refine hfree l ol hl hli ?_ hno
        by_cases hjl : j = l
        · cases hjl; exact hjun
        · rwa [getD_set_ne true hjl] at hlun
      · rw [Array.setIfInBounds_comm _ _ hji]
        exact h3.2.2

/-- Take number i first: what comes from n on waits for it. -/
theorem anyN_takeD (i : Nat) {l : List Oper} {more : List Oper} {oi : Oper} {v : Value} {k : Nat} {got : Array Bool} {a : Act} {w : World} (hi : l.drop i = oi :: more)
    (hs : Region.noSelect l.toArray = true) (hd : directB md l.toArray n i = true) (hf : Region.free md l.toArray got i = true) (hr : (Region.ready md l.toArray got).contains i = true)
    (hQ : ∀ c a w, Q (.panic c) (a.put oi.dst v) w → Q (.panic c) a w) (hy : YieldsIf P l.toArray S oi v a) (hS : S w)
    (h : anyN P md l.toArray Q S n k (got.setIfInBounds i true) (a.put oi.dst v) w) : anyN P md l.toArray Q S n (k + 1) got a w := by
  have hi' : l.toArray[i]? = some oi := by
    have h0 : (l.drop i)[0]? = some oi := by rw [hi]; rfl
    rw [List.getElem?_drop] at h0
    simpa using h0
  exact anyN_firstD hi' (Region.noSelect_spec hs) hQ hd k got a w (Region.free_spec hi' hf) (by simpa using hr) hy hS h
end Go.Proofs.Yticgdfbknaholaa
