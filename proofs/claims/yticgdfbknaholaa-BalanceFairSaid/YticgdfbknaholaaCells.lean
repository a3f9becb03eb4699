/-
  What is known of an own variable of several cells, carried from world to world.
-/
import Derived.Test.YticgdfbknaholaaCut
namespace Go.Proofs.Yticgdfbknaholaa

/-- Three cells of one block. -/
structure C3 (w : World) (B : Nat) (x y z : Value) : Prop where
  c0 : w.cell? ⟨B, 0, none⟩ = some x
  c1 : w.cell? ⟨B, 1, none⟩ = some y
  c2 : w.cell? ⟨B, 2, none⟩ = some z
  lt : B < w.heap.size
theorem C3.kp {w w' : World} {B : Nat} {x y z : Value} (h : C3 w B x y z) (k : Kp w.heap.size w w') : C3 w' B x y z :=
  ⟨(k.cell (p := ⟨B, 0, none⟩) h.lt).trans h.c0, (k.cell (p := ⟨B, 1, none⟩) h.lt).trans h.c1, (k.cell (p := ⟨B, 2, none⟩) h.lt).trans h.c2, Nat.lt_of_lt_of_le h.lt k.size⟩
theorem C3.alloc {w : World} {B : Nat} {x y z : Value} (h : C3 w B x y z) (o : Obj) : C3 (w.alloc o) B x y z := h.kp ((Kp.refl _ _).alloc (Nat.le_refl _) o)
theorem C3.drewN {w : World} {B : Nat} {x y z : Value} (h : C3 w B x y z) (n : Nat) : C3 (w.drewN n) B x y z := h.kp ((Kp.refl _ _).drewN n)
theorem C3.drew {w : World} {B : Nat} {x y z : Value} (h : C3 w B x y z) : C3 w.drew B x y z := h.drewN 1
theorem C3.new (w : World) (x y z : Value) (t : TypeId) : C3 (w.alloc (.cells #[x, y, z] t)) w.heap.size x y z := ⟨by simp, by simp, by simp, by simp⟩
/-- Four cells of one block. -/
structure C4 (w : World) (B : Nat) (x y z u : Value) : Prop where
  c0 : w.cell? ⟨B, 0, none⟩ = some x
  c1 : w.cell? ⟨B, 1, none⟩ = some y
  c2 : w.cell? ⟨B, 2, none⟩ = some z
  c3 : w.cell? ⟨B, 3, none⟩ = some u
  lt : B < w.heap.size
theorem C4.kp {w w' : World} {B : Nat} {x y z u : Value} (h : C4 w B x y z u) (k : Kp w.heap.size w w') : C4 w' B x y z u :=
  ⟨(k.cell (p := ⟨B, 0, none⟩) h.lt).trans h.c0, (k.cell (p := ⟨B, 1, none⟩) h.lt).trans h.c1, (k.cell (p := ⟨B, 2, none⟩) h.lt).trans h.c2, (k.cell (p := ⟨B, 3, none⟩) h.lt).trans h.c3, Nat.lt_of_lt_of_le h.lt k.size⟩
theorem C4.alloc {w : World} {B : Nat} {x y z u : Value} (h : C4 w B x y z u) (o : Obj) : C4 (w.alloc o) B x y z u := h.kp ((Kp.refl _ _).alloc (Nat.le_refl _) o)
theorem C4.drewN {w : World} {B : Nat} {x y z u : Value} (h : C4 w B x y z u) (n : Nat) : C4 (w.drewN n) B x y z u := h.kp ((Kp.refl _ _).drewN n)
theorem C4.drew {w : World} {B : Nat} {x y z u : Value} (h : C4 w B x y z u) : C4 w.drew B x y z u := h.drewN 1
theorem C4.new (w : World) (x y z u : Value) (t : TypeId) : C4 (w.alloc (.cells #[x, y, z, u] t)) w.heap.size x y z u := ⟨by simp, by simp, by simp, by simp, by simp⟩
end Go.Proofs.Yticgdfbknaholaa
