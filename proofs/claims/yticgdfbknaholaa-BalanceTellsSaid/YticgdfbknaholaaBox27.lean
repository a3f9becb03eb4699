/-
  Own variables of one cell, carried from world to world.
-/
import Derived.Test.YticgdfbknaholaaRng27
namespace Go.Proofs.Yticgdfbknaholaa
open Go.RowKit

/-- An own variable of one cell. -/
structure Bx (w : World) (b : Nat) (v : Value) : Prop where
  cell : w.cell? ⟨b, 0, none⟩ = some v
  fz : w.frozen? ⟨b, 0, none⟩ = false
  lt : b < w.heap.size
theorem Bx.kp {w w' : World} {b : Nat} {v : Value} {B : Nat} (h : Bx w b v) (k : Kp B w w') (hb : b < B) : Bx w' b v :=
  ⟨(k.cell (p := ⟨b, 0, none⟩) hb).trans h.cell, (k.frozen (p := ⟨b, 0, none⟩) hb).trans h.fz, Nat.lt_of_lt_of_le h.lt k.size⟩
theorem Bx.kps {w w' : World} {b : Nat} {v : Value} (h : Bx w b v) (k : Kp w.heap.size w w') : Bx w' b v := h.kp k h.lt
theorem Bx.kx {w w' : World} {b : Nat} {v : Value} {n1 n2 m1 m2 : Nat} (h : Bx w b v) (k : Kx n1 n2 m1 m2 w w') (hb : b < n1 ∨ n2 ≤ b) (hm : b < m1 ∨ m2 ≤ b) : Bx w' b v :=
  ⟨(k.cell (p := ⟨b, 0, none⟩) h.lt hb hm).trans h.cell, (k.frozen (p := ⟨b, 0, none⟩) h.lt hb hm).trans h.fz, Nat.lt_of_lt_of_le h.lt k.size⟩
theorem Bx.new (w : World) (v : Value) (t : TypeId) : Bx (w.alloc (.cells #[v] t)) w.heap.size v := ⟨by simp, by simp, by simp⟩
theorem Bx.alloc {w : World} {b : Nat} {v : Value} (h : Bx w b v) (o : Obj) : Bx (w.alloc o) b v := h.kps ((Kp.refl _ _).alloc (Nat.le_refl _) o)
theorem Bx.drew {w : World} {b : Nat} {v : Value} (h : Bx w b v) : Bx w.drew b v := h.kps ((Kp.refl _ _).drewN 1)
theorem Bx.set {w : World} {b : Nat} {v : Value} (h : Bx w b v) (u : Value) : Bx (w.setCell ⟨b, 0, none⟩ u) b u :=
  ⟨World.cell?_setCell_same _ _ _ h.cell, by simpa using h.fz, by simpa using h.lt⟩
theorem Bx.far {w : World} {b : Nat} {v : Value} (h : Bx w b v) {p : Addr} (hp : p.block ≠ b) (u : Value) : Bx (w.setCell p u) b v :=
  ⟨(World.cell?_setCell_far _ _ _ _ hp).trans h.cell, by simpa using h.fz, by simpa using h.lt⟩
theorem C3.kx {w w' : World} {b : Nat} {x y z : Value} {n1 n2 m1 m2 : Nat} (h : C3 w b x y z) (k : Kx n1 n2 m1 m2 w w') (hb : b < n1 ∨ n2 ≤ b) (hm : b < m1 ∨ m2 ≤ b) : C3 w' b x y z :=
  ⟨(k.cell (p := ⟨b, 0, none⟩) h.lt hb hm).trans h.c0, (k.cell (p := ⟨b, 1, none⟩) h.lt hb hm).trans h.c1, (k.cell (p := ⟨b, 2, none⟩) h.lt hb hm).trans h.c2, Nat.lt_of_lt_of_le h.lt k.size⟩
end Go.Proofs.Yticgdfbknaholaa
