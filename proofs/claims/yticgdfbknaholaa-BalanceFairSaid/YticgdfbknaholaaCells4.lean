/-
  More stores beside what is known; two cells of one block.
-/
import Derived.Test.YticgdfbknaholaaCells3
namespace Go.Proofs.Yticgdfbknaholaa

theorem C4.far4 {w : World} {B p : Nat} {x y z u : Value} (h : C4 w B x y z u) (hp : p ≠ B) (a b c d : Value) : C4 ((((w.setCell ⟨p, 0, none⟩ a).setCell ⟨p, 1, none⟩ b).setCell ⟨p, 2, none⟩ c).setCell ⟨p, 3, none⟩ d) B x y z u :=
  (h.far3 hp a b c).far (p := ⟨p, 3, none⟩) hp _
/-- Two cells of one block. -/
structure C2 (w : World) (B : Nat) (x y : Value) : Prop where
  c0 : w.cell? ⟨B, 0, none⟩ = some x
  c1 : w.cell? ⟨B, 1, none⟩ = some y
  lt : B < w.heap.size
theorem C2.kp {w w' : World} {B : Nat} {x y : Value} (h : C2 w B x y) (k : Kp w.heap.size w w') : C2 w' B x y :=
  ⟨(k.cell (p := ⟨B, 0, none⟩) h.lt).trans h.c0, (k.cell (p := ⟨B, 1, none⟩) h.lt).trans h.c1, Nat.lt_of_lt_of_le h.lt k.size⟩
theorem C2.alloc {w : World} {B : Nat} {x y : Value} (h : C2 w B x y) (o : Obj) : C2 (w.alloc o) B x y := h.kp ((Kp.refl _ _).alloc (Nat.le_refl _) o)
theorem C2.drewN {w : World} {B : Nat} {x y : Value} (h : C2 w B x y) (n : Nat) : C2 (w.drewN n) B x y := h.kp ((Kp.refl _ _).drewN n)
theorem C2.drew {w : World} {B : Nat} {x y : Value} (h : C2 w B x y) : C2 w.drew B x y := h.drewN 1
theorem C2.new (w : World) (x y : Value) (t : TypeId) : C2 (w.alloc (.cells #[x, y] t)) w.heap.size x y := ⟨by simp, by simp, by simp⟩
theorem C2.far {w : World} {B : Nat} {x y : Value} (h : C2 w B x y) {p : Addr} (hp : p.block ≠ B) (u : Value) : C2 (w.setCell p u) B x y :=
  ⟨(World.cell?_setCell_far _ _ _ _ hp).trans h.c0, (World.cell?_setCell_far _ _ _ _ hp).trans h.c1, by simpa using h.lt⟩
theorem C2.far3 {w : World} {B p : Nat} {x y : Value} (h : C2 w B x y) (hp : p ≠ B) (a b c : Value) : C2 (((w.setCell ⟨p, 0, none⟩ a).setCell ⟨p, 1, none⟩ b).setCell ⟨p, 2, none⟩ c) B x y :=
  ((h.far (p := ⟨p, 0, none⟩) hp _).far (p := ⟨p, 1, none⟩) hp _).far (p := ⟨p, 2, none⟩) hp _
theorem C2.far4 {w : World} {B p : Nat} {x y : Value} (h : C2 w B x y) (hp : p ≠ B) (a b c d : Value) : C2 ((((w.setCell ⟨p, 0, none⟩ a).setCell ⟨p, 1, none⟩ b).setCell ⟨p, 2, none⟩ c).setCell ⟨p, 3, none⟩ d) B x y :=
  (h.far3 hp a b c).far (p := ⟨p, 3, none⟩) hp _
theorem At.drewN {w : World} {p : Addr} {v : Value} (h : At w p v) (n : Nat) : At (w.drewN n) p v := h.kp ((Kp.refl _ _).drewN n)
theorem C2.set {w : World} {B : Nat} {x y : Value} (h : C2 w B x y) (x' y' : Value) : C2 ((w.setCell ⟨B, 0, none⟩ x').setCell ⟨B, 1, none⟩ y') B x' y' := by
  refine ⟨?_, ?_, by simpa using h.lt⟩
  · rw [World.cell?_setCell_other _ _ _ _ (by simp)]
    exact World.cell?_setCell_same _ _ _ h.c0
  · exact World.cell?_setCell_same _ _ _ ((World.cell?_setCell_other _ _ _ _ (by simp)).trans h.c1)
theorem C2.far2 {w : World} {B p : Nat} {x y : Value} (h : C2 w B x y) (hp : p ≠ B) (a b : Value) : C2 ((w.setCell ⟨p, 0, none⟩ a).setCell ⟨p, 1, none⟩ b) B x y :=
  (h.far (p := ⟨p, 0, none⟩) hp _).far (p := ⟨p, 1, none⟩) hp _
theorem GrewS.set2 {V w : World} (h : GrewS V w) {B : Nat} (hB : V.heap.size ≤ B) (a b : Value) : GrewS V ((w.setCell ⟨B, 0, none⟩ a).setCell ⟨B, 1, none⟩ b) :=
  (h.setCell (a := ⟨B, 0, none⟩) hB _).setCell (a := ⟨B, 1, none⟩) hB _
end Go.Proofs.Yticgdfbknaholaa
