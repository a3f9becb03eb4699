/-
  Two ways at once in a drawn region; stores beside what is known.
-/
import Derived.Test.YticgdfbknaholaaCells
import Derived.Deep.RegionHeld
namespace Go.Proofs.Yticgdfbknaholaa

section
variable {P : Program} {Q : Exit → Act → World → Prop} {md : Region.Mode} {S : World → Prop} {n : Nat}
/-- Two may come up. -/
theorem anyN_two (i j : Nat) {l : List Oper} {mi mj : List Oper} {oi oj : Oper} {k : Nat} {got : Array Bool} {a : Act} {w : World} (hi : l.drop i = oi :: mi) (hj : l.drop j = oj :: mj)
    (hr : Region.ready md l.toArray got = [i, j]) (gi : oi.guard = none) (gj : oj.guard = none)
    (h1 : oi.wp P a w (fun a' w' => (i < n → S w') ∧ anyN P md l.toArray Q S n k (got.setIfInBounds i true) a' w') Q)
    (h2 : oj.wp P a w (fun a' w' => (j < n → S w') ∧ anyN P md l.toArray Q S n k (got.setIfInBounds j true) a' w') Q) : anyN P md l.toArray Q S n (k + 1) got a w := by
  have at_ : ∀ (i : Nat) (o : Oper) (m : List Oper), l.drop i = o :: m → l.toArray[i]? = some o := fun i o m h => by
    have h0 : (l.drop i)[0]? = some o := by rw [h]; rfl
    rw [List.getElem?_drop] at h0
    simpa using h0
  refine ⟨fun h0 => (by rw [hr] at h0; cases h0), fun x hx => ?_⟩
  rw [hr] at hx
  unfold wpOp
  simp only [List.mem_cons, List.not_mem_nil, or_false] at hx
  rcases hx with rfl | rfl
  · simp only [at_ _ _ _ hi]
    rw [if_pos (by simp [Region.wanted, gi])]
    exact .inl h1
  · simp only [at_ _ _ _ hj]
    rw [if_pos (by simp [Region.wanted, gj])]
    exact .inl h2
end
theorem C3.far {w : World} {B : Nat} {x y z : Value} (h : C3 w B x y z) {p : Addr} (hp : p.block ≠ B) (u : Value) : C3 (w.setCell p u) B x y z :=
  ⟨(World.cell?_setCell_far _ _ _ _ hp).trans h.c0, (World.cell?_setCell_far _ _ _ _ hp).trans h.c1, (World.cell?_setCell_far _ _ _ _ hp).trans h.c2, by simpa using h.lt⟩
theorem C3.set {w : World} {B : Nat} {x y z : Value} (h : C3 w B x y z) (x' y' z' : Value) : C3 (((w.setCell ⟨B, 0, none⟩ x').setCell ⟨B, 1, none⟩ y').setCell ⟨B, 2, none⟩ z') B x' y' z' := by
  obtain ⟨h0, h1, h2, _⟩ := set3 h.c0 h.c1 h.c2 x' y' z'
  exact ⟨h0, h1, h2, by simpa using h.lt⟩
/-- A block that no string shares. -/
def Fz (w : World) (B : Nat) : Prop := B < w.heap.size ∧ ∀ o, w.frozen? ⟨B, o, none⟩ = false
theorem Fz.kp {w w' : World} {B : Nat} (h : Fz w B) (k : Kp w.heap.size w w') : Fz w' B := ⟨Nat.lt_of_lt_of_le h.1 k.size, fun o => (k.frozen (p := ⟨B, o, none⟩) h.1).trans (h.2 o)⟩
theorem Fz.alloc {w : World} {B : Nat} (h : Fz w B) (o : Obj) : Fz (w.alloc o) B := h.kp ((Kp.refl _ _).alloc (Nat.le_refl _) o)
theorem Fz.drew {w : World} {B : Nat} (h : Fz w B) : Fz w.drew B := h.kp ((Kp.refl _ _).drewN 1)
theorem Fz.new (w : World) (c : Array Value) (t : TypeId) : Fz (w.alloc (.cells c t)) w.heap.size := ⟨by simp, fun o => by simp⟩
theorem Fz.set {w : World} {B : Nat} (h : Fz w B) (p : Addr) (u : Value) : Fz (w.setCell p u) B := ⟨by simpa using h.1, fun o => by simpa using h.2 o⟩
end Go.Proofs.Yticgdfbknaholaa
