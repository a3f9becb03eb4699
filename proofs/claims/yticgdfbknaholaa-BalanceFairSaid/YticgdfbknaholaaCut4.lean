/-
  A drawn region, step by step: a guarded operation that is the only one to come up.
-/
import Derived.Test.YticgdfbknaholaaCut3
namespace Go.Proofs.Yticgdfbknaholaa
theorem At.new (w : World) (v : Value) (t : TypeId) : At (w.alloc (.cells #[v] t)) ⟨w.heap.size, 0, none⟩ v := ⟨by simp, by simp⟩
variable {P : Program} {ops : Array Oper} {Q : Exit → Act → World → Prop} {md : Region.Mode} {S : World → Prop} {n : Nat}

/-- Number i is the only one that may come up, and it is wanted. -/
theorem anyN_oneG (i : Nat) {l : List Oper} {more : List Oper} {oi : Oper} {k : Nat} {got : Array Bool} {a : Act} {w : World} (hi : l.drop i = oi :: more)
    (hr : Region.ready md l.toArray got = [i]) (hg : Region.wanted oi (yielded l.toArray a.tmps) = true)
    (h : oi.wp P a w (fun a' w' => (i < n → S w') ∧ anyN P md l.toArray Q S n k (got.setIfInBounds i true) a' w') Q) : anyN P md l.toArray Q S n (k + 1) got a w := by
  have hi' : l.toArray[i]? = some oi := by
    have h0 : (l.drop i)[0]? = some oi := by rw [hi]; rfl
    rw [List.getElem?_drop] at h0
    simpa using h0
  refine ⟨fun h0 => (by rw [hr] at h0; cases h0), fun j hj => ?_⟩
  rw [hr] at hj
  have hj : j = i := by simpa using hj
  subst hj
  unfold wpOp
  simp only [hi']
  rw [if_pos hg]
  exact .inl h
end Go.Proofs.Yticgdfbknaholaa
