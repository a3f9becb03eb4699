/-
  A region whose last operations wait for all others: what an early operation reads has to stand only behind the early ones.
-/
import Derived.StillTail
import Derived.OrdersHeld
import Derived.Test.YticgdfbknaholaaMore
namespace Go.Proofs.Yticgdfbknaholaa
variable {P : Program} {ops : Array Oper} {Q : Exit → Act → World → Prop} {md : Region.Mode} {S : World → Prop} {n : Nat}

/-- Whatever order is picked, and S holds behind each of the first n operations. -/
def anyN (P : Program) (md : Region.Mode) (ops : Array Oper) (Q : Exit → Act → World → Prop) (S : World → Prop) (n : Nat) : Nat → Array Bool → Act → World → Prop
  | 0, got, a, w => Region.ready md ops got = [] ∧ Q .normal a w
  | k + 1, got, a, w =>
    (Region.ready md ops got = [] → Q .normal a w) ∧
    ∀ i ∈ Region.ready md ops got, wpOp P ops Q i (fun a' w' => (i < n → S w') ∧ anyN P md ops Q S n k (got.setIfInBounds i true) a' w') a w

theorem any_of_anyN : ∀ (k : Nat) (got : Array Bool) (a : Act) (w : World), anyN P md ops Q S n k got a w → wpAny P md ops Q k got a w
  | 0, _, _, _, h => h
  | k + 1, _, _, _, h => ⟨h.1, fun i hi => wpOp_mono (fun _ _ h' => any_of_anyN k _ _ _ h'.2) (h.2 i hi)⟩

/-- As a Bool: what has come up is closed, and no late one has. -/
def headB (md : Region.Mode) (ops : Array Oper) (n : Nat) (got : Array Bool) : Bool :=
  decide (got.size = ops.size) && decide (n < ops.size) && Region.sinkB md ops n && Region.chainB md ops n &&
  ((List.range ops.size).all fun j => !got.getD j false || ((ops[j]?).map fun o => o.after.all fun e => !Region.binds md e || got.getD e.on false).getD true) &&
  ((List.range ops.size).all fun t => decide (t < n) || !got.getD t true)

theorem headB_spec {got : Array Bool} (h : headB md ops n got = true) :
    HeadInv md ops n got ∧ n < ops.size ∧ Region.sinkB md ops n = true ∧ Region.chainB md ops n = true := by
  unfold headB at h
  simp only [Bool.and_eq_true, decide_eq_true_eq] at h
  obtain ⟨⟨⟨⟨⟨h1, h2⟩, h3⟩, h4⟩, h5⟩, h6⟩ := h
  refine ⟨⟨h1, fun j o ho hg e he hb => ?_, fun t ht ht' => ?_⟩, h2, h3, h4⟩
  · have hj : j < ops.size := (Array.getElem?_eq_some_iff.1 ho).1
    have h := List.all_eq_true.1 h5 j (List.mem_range.2 hj)
    rw [hg, ho] at h
    simp only [Bool.not_true, Bool.false_or, Option.map_some, Option.getD_some] at h
    have h := Array.all_eq_true'.1 h e he
    rw [hb] at h
    simpa using h
  · have h := List.all_eq_true.1 h6 t (List.mem_range.2 ht')
    simp only [Bool.or_eq_true, decide_eq_true_eq] at h
    rcases h with h | h
    · omega
    · simpa using h

theorem anyN_first {i : Nat} {oi : Oper} {v : Value} (hi : ops[i]? = some oi) (hsel : ∀ (j : Nat) (o : Oper) cs b, ops[j]? = some o → o.op ≠ .select cs b)
    (hQ : ∀ c a w, Q (.panic c) (a.put oi.dst v) w → Q (.panic c) a w) (hn : n < ops.size) (hs : Region.sinkB md ops n = true) (hc : Region.chainB md ops n = true) (hin : i < n) :
    ∀ (k : Nat) (got : Array Bool) (a : Act) (w : World), HeadInv md ops n got →
      (∀ j oj, ops[j]? = some oj → j ≠ i → got.getD j true = false → (∀ e ∈ oj.after, Region.binds md e = true → e.on ≠ i) → oi.apart ops oj = true) →
      i ∈ Region.ready md ops got → YieldsIf P ops S oi v a → S w →
      anyN P md ops Q S n k (got.setIfInBounds i true) (a.put oi.dst v) w → anyN P md ops Q S n (k + 1) got a w
  | k, got, a, w, inv, hfree, hr, hy, hS, H => by
    refine ⟨fun h0 => (by rw [h0] at hr; cases hr), fun j hj => ?_⟩
    by_cases hji : j = i
    · cases hji; exact hy.wpOp hi hS ⟨fun _ => hS, H⟩
    have hun := (mem_ready.1 hr).1
    have hjn : j < n := by
      rcases Nat.lt_or_ge j n with h | h
      · exact h
      · exact absurd hj (tail_waits hs hc hn inv _ i rfl hin hun j h)
    have hj2 := ready_mono hj hji
    cases k with
    | zero => rw [H.1] at hj2; cases hj2
    | succ k =>
      obtain ⟨hjun, oj, hoj, hall⟩ := mem_ready.1 hj
      have hnot : ∀ e ∈ oj.after, Region.binds md e = true → e.on ≠ i := fun e he hb heq => by
        have h1 := hall e he hb
        rw [heq, getD_both hun] at h1
        cases h1
      have h2 := wpOp_putIf hoj (hfree j oj hoj hji hjun hnot) (fun cs b => hsel i oi cs b hi) (fun cs b => hsel j oj cs b hoj) hQ hy (H.2 j hj2)
      refine wpOp_mono (fun a' w' h3 => ⟨h3.2.1, ?_⟩) h2
      refine anyN_first hi hsel hQ hn hs hc hin k (got.setIfInBounds j true) a' w' (inv.set hj hjn) (fun l ol hl hli hlun hno => ?_) (ready_mono hr (Ne.symm hji)) h3.1 (h3.2.1 hjn) ?_
      · refine hfree l ol hl hli ?_ hno
        by_cases hjl : j = l
        · cases hjl; exact hjun
        · rwa [getD_set_ne true hjl] at hlun
      · rw [Array.setIfInBounds_comm _ _ hji]
        exact h3.2.2

/-- Take number i, an early one, first. -/
theorem anyN_take (i : Nat) {l : List Oper} {more : List Oper} {oi : Oper} {v : Value} {k : Nat} {got : Array Bool} {a : Act} {w : World} (hi : l.drop i = oi :: more)
    (hs : Region.noSelect l.toArray = true) (hh : headB md l.toArray n got = true) (hin : decide (i < n) = true) (hf : Region.free md l.toArray got i = true) (hr : (Region.ready md l.toArray got).contains i = true)
    (hQ : ∀ c a w, Q (.panic c) (a.put oi.dst v) w → Q (.panic c) a w) (hy : YieldsIf P l.toArray S oi v a) (hS : S w)
    (h : anyN P md l.toArray Q S n k (got.setIfInBounds i true) (a.put oi.dst v) w) : anyN P md l.toArray Q S n (k + 1) got a w := by
  obtain ⟨inv, h1, h2, h3⟩ := headB_spec hh
  have hi' : l.toArray[i]? = some oi := by
    have h0 : (l.drop i)[0]? = some oi := by rw [hi]; rfl
    rw [List.getElem?_drop] at h0
    simpa using h0
  exact anyN_first hi' (Region.noSelect_spec hs) hQ h1 h2 h3 (by simpa using hin) k got a w inv (Region.free_spec hi' hf) (by simpa using hr) hy hS h

/-- Number i is the only one that may come up. -/
theorem anyN_one (i : Nat) {l : List Oper} {more : List Oper} {oi : Oper} {k : Nat} {got : Array Bool} {a : Act} {w : World} (hi : l.drop i = oi :: more)
    (hr : Region.ready md l.toArray got = [i]) (hg : oi.guard = none)
    (h : oi.wp P a w (fun a' w' => (i < n → S w') ∧ anyN P md l.toArray Q S n k (got.setIfInBounds i true) a' w') Q) : anyN P md l.toArray Q S n (k + 1) got a w := by
  have hi' : l.toArray[i]? = some oi := by
    have h0 : (l.drop i)[0]? = some oi := by rw [hi]; rfl
    rw [List.getElem?_drop] at h0
    simpa using h0
  refine ⟨fun h0 => (by rw [hr] at h0; cases h0), fun j hj => ?_⟩
  rw [hr] at hj
  have hj : j = i := by simpa using hj
  subst hj
  unfold wpOp
  simp only [hi']
  rw [if_pos (by simp [Region.wanted, hg])]
  exact .inl h

theorem anyN_done {got : Array Bool} {a : Act} {w : World} (hr : Region.ready md ops got = []) (h : Q .normal a w) : anyN P md ops Q S n 0 got a w := ⟨hr, h⟩

/-- The beginning. -/
theorem wp_region_anyN (S : World → Prop) (n : Nat) {id : Nat} {a : Act} {w : World} (hm : P.follows .mixedOrders = true)
    (h : anyN P .any ops Q S n ops.size (Array.replicate ops.size false) a w.drew) : (Code.region id ops true).wp P Q a w :=
  wp_region_any hm (any_of_anyN _ _ _ _ h)

theorem and_keep {p q : Prop} (h : p) (k : p → q) : p ∧ q := ⟨h, k h⟩

/-- Three stores into one block. -/
theorem set3 {w : World} {p : Nat} {a b c : Value} (h0 : w.cell? ⟨p, 0, none⟩ = some a) (h1 : w.cell? ⟨p, 1, none⟩ = some b) (h2 : w.cell? ⟨p, 2, none⟩ = some c) (a' b' c' : Value) :
    (((w.setCell ⟨p, 0, none⟩ a').setCell ⟨p, 1, none⟩ b').setCell ⟨p, 2, none⟩ c').cell? ⟨p, 0, none⟩ = some a' ∧
    (((w.setCell ⟨p, 0, none⟩ a').setCell ⟨p, 1, none⟩ b').setCell ⟨p, 2, none⟩ c').cell? ⟨p, 1, none⟩ = some b' ∧
    (((w.setCell ⟨p, 0, none⟩ a').setCell ⟨p, 1, none⟩ b').setCell ⟨p, 2, none⟩ c').cell? ⟨p, 2, none⟩ = some c' ∧
    ∀ x : Addr, p ≠ x.block → (((w.setCell ⟨p, 0, none⟩ a').setCell ⟨p, 1, none⟩ b').setCell ⟨p, 2, none⟩ c').cell? x = w.cell? x := by
  have e01 : (⟨p, 0, none⟩ : Addr) ≠ ⟨p, 1, none⟩ := by simp
  have e02 : (⟨p, 0, none⟩ : Addr) ≠ ⟨p, 2, none⟩ := by simp
  have e12 : (⟨p, 1, none⟩ : Addr) ≠ ⟨p, 2, none⟩ := by simp
  refine ⟨?_, ?_, ?_, fun x hx => ?_⟩
  · rw [World.cell?_setCell_other _ _ _ _ (e02.symm), World.cell?_setCell_other _ _ _ _ (e01.symm), World.cell?_setCell_same _ _ _ (h0)]
  · rw [World.cell?_setCell_other _ _ _ _ (e12.symm)]
    exact World.cell?_setCell_same _ _ _ (((World.cell?_setCell_other _ _ _ _ (e01)).trans h1))
  · exact World.cell?_setCell_same _ _ _ ((((World.cell?_setCell_other _ _ _ _ (e12)).trans (World.cell?_setCell_other _ _ _ _ (e02))).trans h2))
  · have e : ∀ o, (⟨p, o, none⟩ : Addr) ≠ x := fun o h => hx (by rw [← h])
    rw [World.cell?_setCell_other _ _ _ _ (e 2), World.cell?_setCell_other _ _ _ _ (e 1), World.cell?_setCell_other _ _ _ _ (e 0)]
/-- Three stores into each of two blocks. -/
theorem set6 {V w : World} {p q : Nat} (hpq : p ≠ q) (hp : V.heap.size ≤ p) (hq : V.heap.size ≤ q) {a b c d e f : Value} (h : w.cell? ⟨p, 0, none⟩ = some a ∧ w.cell? ⟨p, 1, none⟩ = some b ∧ w.cell? ⟨p, 2, none⟩ = some c ∧ w.cell? ⟨q, 0, none⟩ = some d ∧ w.cell? ⟨q, 1, none⟩ = some e ∧ w.cell? ⟨q, 2, none⟩ = some f)
    (hg : GrewS V w) {a' b' c' d' e' f' : Value} {w1 : World} (hE : (((((w.setCell ⟨p, 0, none⟩ a').setCell ⟨p, 1, none⟩ b').setCell ⟨p, 2, none⟩ c').setCell ⟨q, 0, none⟩ d').setCell ⟨q, 1, none⟩ e').setCell ⟨q, 2, none⟩ f' = w1) :
    (w1.cell? ⟨p, 0, none⟩ = some a' ∧ w1.cell? ⟨p, 1, none⟩ = some b' ∧ w1.cell? ⟨p, 2, none⟩ = some c' ∧ w1.cell? ⟨q, 0, none⟩ = some d' ∧ w1.cell? ⟨q, 1, none⟩ = some e' ∧ w1.cell? ⟨q, 2, none⟩ = some f') ∧ w1.heap.size = w.heap.size ∧ GrewS V w1 := by
  obtain ⟨h0, h1, h2, h3, h4, h5⟩ := h
  obtain ⟨i0, i1, i2, i3⟩ := set3 h0 h1 h2 a' b' c'
  obtain ⟨j0, j1, j2, j3⟩ := set3 ((i3 ⟨q, 0, none⟩ hpq).trans h3) ((i3 ⟨q, 1, none⟩ hpq).trans h4) ((i3 ⟨q, 2, none⟩ hpq).trans h5) d' e' f'
  subst hE
  refine ⟨⟨(j3 ⟨p, 0, none⟩ hpq.symm).trans i0, (j3 ⟨p, 1, none⟩ hpq.symm).trans i1, (j3 ⟨p, 2, none⟩ hpq.symm).trans i2, j0, j1, j2⟩, by simp, ?_⟩
  exact (((((hg.setCell (a := ⟨p, 0, none⟩) hp _).setCell (a := ⟨p, 1, none⟩) hp _).setCell (a := ⟨p, 2, none⟩) hp _).setCell (a := ⟨q, 0, none⟩) hq _).setCell (a := ⟨q, 1, none⟩) hq _).setCell (a := ⟨q, 2, none⟩) hq _
end Go.Proofs.Yticgdfbknaholaa
