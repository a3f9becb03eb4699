/-
  A drawn region, step by step: a take where all that comes from n on waits for it, by one edge or through others.
-/
import Derived.Test.YticgdfbknaholaaCut2
namespace Go.Proofs.Yticgdfbknaholaa
variable {P : Program} {ops : Array Oper} {Q : Exit → Act → World → Prop} {md : Region.Mode} {S : World → Prop} {n : Nat}

/-- Number t waits for number i, by one edge or through others. -/
def reachB (md : Region.Mode) (ops : Array Oper) : Nat → Nat → Nat → Bool
  | 0, _, _ => false
  | f + 1, t, i => ((ops[t]?).map fun o => o.after.any fun e => Region.binds md e && (e.on == i || reachB md ops f e.on i)).getD false
/-- What has come up is closed. -/
def closedB (md : Region.Mode) (ops : Array Oper) (got : Array Bool) : Bool :=
  (List.range ops.size).all fun j => !got.getD j false || ((ops[j]?).map fun o => o.after.all fun e => !Region.binds md e || got.getD e.on false).getD true
def Closed (md : Region.Mode) (ops : Array Oper) (got : Array Bool) : Prop :=
  ∀ j oj, ops[j]? = some oj → got.getD j false = true → ∀ e ∈ oj.after, Region.binds md e = true → got.getD e.on false = true
theorem closedB_spec {got : Array Bool} (h : closedB md ops got = true) : Closed md ops got := by
  intro j o ho hg e he hb
  have hj : j < ops.size := (Array.getElem?_eq_some_iff.1 ho).1
  have h := List.all_eq_true.1 h j (List.mem_range.2 hj)
  rw [hg, ho] at h
  simp only [Bool.not_true, Bool.false_or, Option.map_some, Option.getD_some] at h
  have h := Array.all_eq_true'.1 h e he
  rw [hb] at h
  simpa using h
theorem reachB_got {got : Array Bool} (hc : Closed md ops got) {i : Nat} : ∀ (f t : Nat) (ot : Oper), ops[t]? = some ot → (∀ e ∈ ot.after, Region.binds md e = true → got.getD e.on false = true) → reachB md ops f t i = true → got.getD i false = true
  | 0, _, _, _, _, h => by cases h
  | f + 1, t, ot, ht, ha, h => by
    unfold reachB at h
    rw [ht] at h
    simp only [Option.map_some, Option.getD_some] at h
    obtain ⟨e, he, h2⟩ := Array.any_eq_true'.1 h
    simp only [Bool.and_eq_true, Bool.or_eq_true, beq_iff_eq] at h2
    have hg := ha e he h2.1
    rcases h2.2 with h3 | h3
    · rwa [h3] at hg
    · cases f with
      | zero => cases h3
      | succ f =>
        cases ho : ops[e.on]? with
        | none => unfold reachB at h3; rw [ho] at h3; cases h3
        | some oe => exact reachB_got hc (f + 1) e.on oe ho (hc e.on oe ho hg) h3
theorem Closed.set {got : Array Bool} {j : Nat} (hc : Closed md ops got) (hj : j ∈ Region.ready md ops got) (_ : got.size = ops.size) : Closed md ops (got.setIfInBounds j true) := by
  obtain ⟨_, oi, hoi, hall⟩ := mem_ready.1 hj
  intro l ol hl hgl e he hb
  by_cases hij : j = l
  · subst hij
    have : ol = oi := Option.some.inj (hl.symm.trans hoi)
    subst this
    exact getD_set_true (hall e he hb)
  · rw [getD_set_ne false hij] at hgl
    exact getD_set_true (hc l ol hl hgl e he hb)
def lateB (md : Region.Mode) (ops : Array Oper) (n i : Nat) : Bool := (List.range ops.size).all fun t => decide (t < n) || reachB md ops ops.size t i

theorem anyN_firstR {i : Nat} {oi : Oper} {v : Value} (hi : ops[i]? = some oi) (hsel : ∀ (j : Nat) (o : Oper) cs b, ops[j]? = some o → o.op ≠ .select cs b)
    (hQ : ∀ c a w, Q (.panic c) (a.put oi.dst v) w → Q (.panic c) a w) (hd : lateB md ops n i = true) :
    ∀ (k : Nat) (got : Array Bool) (a : Act) (w : World), Closed md ops got → got.size = ops.size →
      (∀ j oj, ops[j]? = some oj → j ≠ i → got.getD j true = false → (∀ e ∈ oj.after, Region.binds md e = true → e.on ≠ i) → oi.apart ops oj = true) →
      i ∈ Region.ready md ops got → YieldsIf P ops S oi v a → S w →
      anyN P md ops Q S n k (got.setIfInBounds i true) (a.put oi.dst v) w → anyN P md ops Q S n (k + 1) got a w
  | k, got, a, w, hc, hs, hfree, hr, hy, hS, H => by
    refine ⟨fun h0 => (by rw [h0] at hr; cases hr), fun j hj => ?_⟩
    by_cases hji : j = i
    · cases hji; exact hy.wpOp hi hS ⟨fun _ => hS, H⟩
    have hun := (mem_ready.1 hr).1
    have hjn : j < n := by
      obtain ⟨_, oj, hoj, hall⟩ := mem_ready.1 hj
      have hlt : j < ops.size := (Array.getElem?_eq_some_iff.1 hoj).1
      have h := List.all_eq_true.1 hd j (List.mem_range.2 hlt)
      rw [Bool.or_eq_true, decide_eq_true_eq] at h
      rcases h with h | h
      · exact h
      · have := reachB_got hc _ j oj hoj hall h
        rw [getD_both hun] at this
        cases this
    have hj2 := ready_mono hj hji
    cases k with
    | zero => rw [H.1] at hj2; cases hj2
    | succ k =>
      obtain ⟨hjun, oj, hoj, hall⟩ := mem_ready.1 hj
      have hnot : ∀ e ∈ oj.after, Region.binds md e = true → e.on ≠ i := fun e he hb heq => by
        have h1 := hall e he hb
        rw [heq, getD_both hun] at h1
        cases h1
      have h2 := wpOp_putIf hoj (hfree j oj hoj hji hjun hnot) (fun cs b => hsel i oi cs b hi) (fun cs b => hsel j oj cs b hoj) hQ hy (H.2 j hj2)
      refine wpOp_mono (fun a' w' h3 => ⟨h3.2.1, ?_⟩) h2
      refine anyN_firstR hi hsel hQ hd k (got.setIfInBounds j true) a' w' (hc.set hj hs) (by simpa using hs) (fun l ol hl hli hlun hno => ?_) (ready_mono hr (Ne.symm hji)) h3.1 (h3.2.1 hjn) ?_
      · refine hfree l ol hl hli ?_ hno
        by_cases hjl : j = l
        · cases hjl; exact hjun
        · rwa [getD_set_ne true hjl] at hlun
      · rw [Array.setIfInBounds_comm _ _ hji]
        exact h3.2.2

/-- Take number i first: what comes from n on waits for it, by one edge or through others. -/
theorem anyN_takeR (i : Nat) {l : List Oper} {more : List Oper} {oi : Oper} {v : Value} {k : Nat} {got : Array Bool} {a : Act} {w : World} (hi : l.drop i = oi :: more)
    (hs : Region.noSelect l.toArray = true) (hd : (lateB md l.toArray n i && closedB md l.toArray got && got.size == l.toArray.size) = true) (hf : Region.free md l.toArray got i = true) (hr : (Region.ready md l.toArray got).contains i = true)
    (hQ : ∀ c a w, Q (.panic c) (a.put oi.dst v) w → Q (.panic c) a w) (hy : YieldsIf P l.toArray S oi v a) (hS : S w)
    (h : anyN P md l.toArray Q S n k (got.setIfInBounds i true) (a.put oi.dst v) w) : anyN P md l.toArray Q S n (k + 1) got a w := by
  have hi' : l.toArray[i]? = some oi := by
    have h0 : (l.drop i)[0]? = some oi := by rw [hi]; rfl
    rw [List.getElem?_drop] at h0
    simpa using h0
  rw [Bool.and_eq_true, Bool.and_eq_true, beq_iff_eq] at hd
  exact anyN_firstR hi' (Region.noSelect_spec hs) hQ hd.1.1 k got a w (closedB_spec hd.1.2) hd.2 (Region.free_spec hi' hf) (by simpa using hr) hy hS h
end Go.Proofs.Yticgdfbknaholaa
