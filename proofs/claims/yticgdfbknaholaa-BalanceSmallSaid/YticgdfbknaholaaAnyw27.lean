/-
  A drawn region inside a fence that lets in all, step by step: what a function between its caller's rounds is walked by.
-/
import Derived.Test.YticgdfbknaholaaBusi27
namespace Go.Proofs.Yticgdfbknaholaa
open Go.RowKit
variable {F : Fence} {m : Nat} {P : Program} {ops : Array Oper} {Q : Exit → Act → World → Prop} {md : Region.Mode} {S : World → Prop} {n : Nat}

theorem putIfW {j : Nat} {oi oj : Oper} {v : Value} (hfn : ∀ f, F.fn f) (hsem : ∀ ρ, Oper.semAt F.round ρ oj = execOp ρ oj) (hj : ops[j]? = some oj) (hap : oi.apart ops oj = true)
    (hsi : ∀ cs b, oi.op ≠ .select cs b) (hsj : ∀ cs b, oj.op ≠ .select cs b)
    (hQ : ∀ c a w, Q (.panic c) (a.put oi.dst v) w → Q (.panic c) a w) {K : Act → World → Prop} {a : Act} {w : World}
    (hy : YieldsIf P ops S oi v a) (h : wpOpIn F m P ops Q j K (a.put oi.dst v) w) :
    wpOpIn F m P ops Q j (fun a' w' => YieldsIf P ops S oi v a' ∧ K (a'.put oi.dst v) w') a w := by
  obtain ⟨h1, h2, h3⟩ := Oper.apart_spec hap
  have keep : ∀ (a : Act), YieldsIf P ops S oi v a → ∀ u, YieldsIf P ops S oi v (a.put oj.dst u) := fun a hy u =>
    hy.of_same (execOp_put oi hsi a oj.dst u h3) (wanted_put oi a oj.dst u h3)
  have keepD : ∀ d, YieldsIf P ops S oi v { a with defers := d :: a.defers } := fun d => hy.of_same rfl rfl
  unfold wpOpIn at *
  simp only [hj] at *
  rw [wanted_put oj a oi.dst v h1] at h
  split
  · rename_i hw
    simp only [hw, if_true] at h
    unfold Oper.wpIn at *
    refine ⟨fun f _ => hfn f, ?_⟩
    have h := h.2
    rw [hsem, execOp_put oj hsj a oi.dst v h1] at h
    rw [hsem]
    generalize (execOp a.eval oj).run P w = r at *
    cases r with
    | ok x w' =>
      cases x <;> simp only [Oper.uponIn] at h ⊢
      case value u => exact ⟨keep a hy u, by rw [← Act.put_comm a v u h2]; exact h⟩
      case skip => exact ⟨keep a hy _, by rw [← Act.put_comm a v undef h2]; exact h⟩
      case defer d =>
        refine ⟨keep _ (keepD d) _, ?_⟩
        rw [← Act.put_comm _ v undef h2, ← Act.put_defers]
        exact h
      case enter f args =>
        refine ⟨h.1, CallsIn.mono h.2 fun e w'' he => ?_⟩
        cases e with
        | returned u => exact ⟨keep a hy u, by rw [← Act.put_comm a v u h2]; exact he⟩
        | panicked c => exact hQ _ _ _ he
        | outgrown => exact he
      case row row args => exact ⟨h.1, RowsIn.mono h.2 fun u w'' he => ⟨keep a hy u, by rw [← Act.put_comm a v u h2]; exact he⟩⟩
      case round l f tmps assign body =>
        refine ⟨h.1, RoundIn.mono h.2 fun e w'' he => ?_⟩
        cases e with
        | returned u => exact ⟨keep a hy u, by rw [← Act.put_comm a v u h2]; exact he⟩
        | panicked c => exact hQ _ _ _ he
        | outgrown => exact he
    | halt x w' =>
      cases x <;> simp only [Oper.uponIn] at h ⊢
      case panic u => exact hQ _ _ _ h
  · rename_i hw
    simp only [hw] at h
    exact ⟨fun f _ => hfn f, keep a hy _, by rw [← Act.put_comm a v undef h2]; exact h.2⟩
theorem yieldsW {i : Nat} {o : Oper} {v : Value} {a : Act} {w : World} {K : Act → World → Prop} (hfn : ∀ f, F.fn f) (hsem : ∀ ρ, Oper.semAt F.round ρ o = execOp ρ o) (hi : ops[i]? = some o) (hy : YieldsIf P ops S o v a) (hS : S w)
    (h : K (a.put o.dst v) w) : wpOpIn F m P ops Q i K a w := by
  unfold wpOpIn
  simp only [hi]
  rcases hy with ⟨hw, hv⟩ | ⟨hw, rfl⟩
  · simp only [hw, if_true, Oper.wpIn, hsem, hv w hS, Oper.uponIn]
    exact ⟨fun f _ => hfn f, h⟩
  · simp only [hw, Bool.false_eq_true, if_false]
    exact ⟨fun f _ => hfn f, h⟩

/-- Whatever order is picked, and S holds behind each of the first n operations. -/
def anyW (F : Fence) (m : Nat) (P : Program) (md : Region.Mode) (ops : Array Oper) (Q : Exit → Act → World → Prop) (S : World → Prop) (n : Nat) : Nat → Array Bool → Act → World → Prop
  | 0, got, a, w => Region.ready md ops got = [] ∧ Q .normal a w
  | k + 1, got, a, w =>
    (Region.ready md ops got = [] → Q .normal a w) ∧
    ∀ i ∈ Region.ready md ops got, wpOpIn F m P ops Q i (fun a' w' => (i < n → S w') ∧ anyW F m P md ops Q S n k (got.setIfInBounds i true) a' w') a w
theorem any_of_anyW : ∀ (k : Nat) (got : Array Bool) (a : Act) (w : World), anyW F m P md ops Q S n k got a w → wpAnyIn F m P md ops Q k got a w
  | 0, _, _, _, h => h
  | k + 1, _, _, _, h => ⟨h.1, fun i hi => wpOpIn_mono (fun _ _ h' => any_of_anyW k _ _ _ h'.2) (h.2 i hi)⟩
theorem anyW_first {i : Nat} {oi : Oper} {v : Value} (hfn : ∀ f, F.fn f) (hsem : ∀ (j : Nat) (o : Oper), ops[j]? = some o → ∀ ρ, Oper.semAt F.round ρ o = execOp ρ o) (hi : ops[i]? = some oi) (hsel : ∀ (j : Nat) (o : Oper) cs b, ops[j]? = some o → o.op ≠ .select cs b)
    (hQ : ∀ c a w, Q (.panic c) (a.put oi.dst v) w → Q (.panic c) a w) (hd : lateB md ops n i = true) :
    ∀ (k : Nat) (got : Array Bool) (a : Act) (w : World), Closed md ops got → got.size = ops.size →
      (∀ j oj, ops[j]? = some oj → j ≠ i → got.getD j true = false → (∀ e ∈ oj.after, Region.binds md e = true → e.on ≠ i) → oi.apart ops oj = true) →
      i ∈ Region.ready md ops got → YieldsIf P ops S oi v a → S w →
      anyW F m P md ops Q S n k (got.setIfInBounds i true) (a.put oi.dst v) w → anyW F m P md ops Q S n (k + 1) got a w
  | k, got, a, w, hc, hs, hfree, hr, hy, hS, H => by
    refine ⟨fun h0 => (by rw [h0] at hr; cases hr), fun j hj => ?_⟩
    by_cases hji : j = i
    · cases hji; exact yieldsW hfn (hsem _ _ hi) hi hy hS ⟨fun _ => hS, H⟩
    have hun := (mem_ready.1 hr).1
    have hjn : j < n := by
      obtain ⟨_, oj, hoj, hall⟩ := mem_ready.1 hj
      have hlt : j < ops.size := (Array.getElem?_eq_some_iff.1 hoj).1
      have h := List.all_eq_true.1 hd j (List.mem_range.2 hlt)
      rw [Bool.or_eq_true, decide_eq_true_eq] at h
      rcases h with h | h
      · exact h
      · have := reachB_got hc _ j oj hoj hall h
        rw [getD_both hun] at this
        cases this
    have hj2 := ready_mono hj hji
    cases k with
    | zero => rw [H.1] at hj2; cases hj2
    | succ k =>
      obtain ⟨hjun, oj, hoj, hall⟩ := mem_ready.1 hj
      have hnot : ∀ e ∈ oj.after, Region.binds md e = true → e.on ≠ i := fun e he hb heq => by
        have h1 := hall e he hb
        rw [heq, getD_both hun] at h1
        cases h1
      have h2 := putIfW hfn (hsem _ _ hoj) hoj (hfree j oj hoj hji hjun hnot) (fun cs b => hsel i oi cs b hi) (fun cs b => hsel j oj cs b hoj) hQ hy (H.2 j hj2)
      refine wpOpIn_mono (fun a' w' h3 => ⟨h3.2.1, ?_⟩) h2
      refine anyW_first hfn hsem hi hsel hQ hd k (got.setIfInBounds j true) a' w' (hc.set hj hs) (by simpa using hs) (fun l ol hl hli hlun hno => ?_) (ready_mono hr (Ne.symm hji)) h3.1 (h3.2.1 hjn) ?_
      · refine hfree l ol hl hli ?_ hno
        by_cases hjl : j = l
        · cases hjl; exact hjun
        · rwa [getD_set_ne true hjl] at hlun
      · rw [Array.setIfInBounds_comm _ _ hji]
        exact h3.2.2
/-- No operation of the region is a defer statement (as a Bool). -/
def noDefer (ops : Array Oper) : Bool := ops.all fun o => match o.op with
  | .defer _ => false
  | _ => true
theorem noDefer_spec (h : noDefer ops = true) (r : Option Nat) : ∀ (j : Nat) (o : Oper), ops[j]? = some o → ∀ ρ, Oper.semAt r ρ o = execOp ρ o := by
  intro j o ho ρ
  cases r with
  | none => exact Oper.semAt_none _ _
  | some l =>
    refine Oper.semAt_some l ρ o fun c hc => ?_
    have hm := Array.mem_of_getElem? ho
    have := Array.all_eq_true'.1 h o hm
    rw [hc] at this
    cases this
/-- Take number i, an early one, first. -/
theorem anyW_take (i : Nat) {l : List Oper} {more : List Oper} {oi : Oper} {v : Value} {k : Nat} {got : Array Bool} {a : Act} {w : World} (hi : l.drop i = oi :: more) (hfn : ∀ f, F.fn f) (hnd : noDefer l.toArray = true)
    (hs : Region.noSelect l.toArray = true) (hcl : closedB md l.toArray got = true) (hsz : decide (got.size = l.toArray.size) = true) (hlate : lateB md l.toArray n i = true) (hf : Region.free md l.toArray got i = true) (hr : (Region.ready md l.toArray got).contains i = true)
    (hQ : ∀ c a w, Q (.panic c) (a.put oi.dst v) w → Q (.panic c) a w) (hy : YieldsIf P l.toArray S oi v a) (hS : S w)
    (h : anyW F m P md l.toArray Q S n k (got.setIfInBounds i true) (a.put oi.dst v) w) : anyW F m P md l.toArray Q S n (k + 1) got a w := by
  have hi' : l.toArray[i]? = some oi := by
    have h0 : (l.drop i)[0]? = some oi := by rw [hi]; rfl
    rw [List.getElem?_drop] at h0
    simpa using h0
  exact anyW_first hfn (noDefer_spec hnd _) hi' (Region.noSelect_spec hs) hQ hlate k got a w (closedB_spec hcl) (of_decide_eq_true hsz) (Region.free_spec hi' hf) (by simpa using hr) hy hS h
/-- Number i is the only one that may come up, and it is wanted. -/
theorem anyW_one (i : Nat) {l : List Oper} {more : List Oper} {oi : Oper} {k : Nat} {got : Array Bool} {a : Act} {w : World} (hi : l.drop i = oi :: more)
    (hr : Region.ready md l.toArray got = [i]) (hg : Region.wanted oi (yielded l.toArray a.tmps) = true)
    (h : oi.wpIn F m P a w (fun a' w' => (i < n → S w') ∧ anyW F m P md l.toArray Q S n k (got.setIfInBounds i true) a' w') Q) : anyW F m P md l.toArray Q S n (k + 1) got a w := by
  have hi' : l.toArray[i]? = some oi := by
    have h0 : (l.drop i)[0]? = some oi := by rw [hi]; rfl
    rw [List.getElem?_drop] at h0
    simpa using h0
  refine ⟨fun h0 => (by rw [hr] at h0; cases h0), fun j hj => ?_⟩
  rw [hr] at hj
  have hj : j = i := by simpa using hj
  subst hj
  unfold wpOpIn
  simp only [hi']
  rw [if_pos hg]
  exact h
/-- Number i is the only one that may come up, and it is passed over. -/
theorem anyW_off (i : Nat) {l : List Oper} {more : List Oper} {oi : Oper} {k : Nat} {got : Array Bool} {a : Act} {w : World} (hi : l.drop i = oi :: more) (hfn : ∀ f, F.fn f)
    (hr : Region.ready md l.toArray got = [i]) (hg : Region.wanted oi (yielded l.toArray a.tmps) = false)
    (h : (i < n → S w) ∧ anyW F m P md l.toArray Q S n k (got.setIfInBounds i true) (a.put oi.dst undef) w) : anyW F m P md l.toArray Q S n (k + 1) got a w := by
  have hi' : l.toArray[i]? = some oi := by
    have h0 : (l.drop i)[0]? = some oi := by rw [hi]; rfl
    rw [List.getElem?_drop] at h0
    simpa using h0
  refine ⟨fun h0 => (by rw [hr] at h0; cases h0), fun j hj => ?_⟩
  rw [hr] at hj
  have hj : j = i := by simpa using hj
  subst hj
  unfold wpOpIn
  simp only [hi']
  rw [if_neg (by rw [hg]; decide)]
  exact ⟨fun f _ => hfn f, h⟩
theorem anyW_done {got : Array Bool} {a : Act} {w : World} (hr : Region.ready md ops got = []) (h : Q .normal a w) : anyW F m P md ops Q S n 0 got a w := ⟨hr, h⟩
/-- The beginning. -/
theorem wp_region_anyW (S : World → Prop) (n : Nat) {id : Nat} {a : Act} {w : World} (hm : P.follows .mixedOrders = true)
    (h : anyW F m P .any ops Q S n ops.size (Array.replicate ops.size false) a w.drew) : (Code.region id ops true).wpIn F m P Q a w :=
  wpIn_region_any hm (any_of_anyW _ _ _ _ h)
end Go.Proofs.Yticgdfbknaholaa
