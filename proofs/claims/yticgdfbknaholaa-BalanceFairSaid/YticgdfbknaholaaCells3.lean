/-
  Stores beside four known cells.
-/
import Derived.Test.YticgdfbknaholaaCells2
namespace Go.Proofs.Yticgdfbknaholaa

theorem C4.far {w : World} {B : Nat} {x y z u : Value} (h : C4 w B x y z u) {p : Addr} (hp : p.block ≠ B) (t : Value) : C4 (w.setCell p t) B x y z u :=
  ⟨(World.cell?_setCell_far _ _ _ _ hp).trans h.c0, (World.cell?_setCell_far _ _ _ _ hp).trans h.c1, (World.cell?_setCell_far _ _ _ _ hp).trans h.c2, (World.cell?_setCell_far _ _ _ _ hp).trans h.c3, by simpa using h.lt⟩
theorem C3.far3 {w : World} {B p : Nat} {x y z : Value} (h : C3 w B x y z) (hp : p ≠ B) (a b c : Value) : C3 (((w.setCell ⟨p, 0, none⟩ a).setCell ⟨p, 1, none⟩ b).setCell ⟨p, 2, none⟩ c) B x y z :=
  ((h.far (p := ⟨p, 0, none⟩) hp _).far (p := ⟨p, 1, none⟩) hp _).far (p := ⟨p, 2, none⟩) hp _
theorem C4.far3 {w : World} {B p : Nat} {x y z u : Value} (h : C4 w B x y z u) (hp : p ≠ B) (a b c : Value) : C4 (((w.setCell ⟨p, 0, none⟩ a).setCell ⟨p, 1, none⟩ b).setCell ⟨p, 2, none⟩ c) B x y z u :=
  ((h.far (p := ⟨p, 0, none⟩) hp _).far (p := ⟨p, 1, none⟩) hp _).far (p := ⟨p, 2, none⟩) hp _
theorem C3.far4 {w : World} {B p : Nat} {x y z : Value} (h : C3 w B x y z) (hp : p ≠ B) (a b c d : Value) : C3 ((((w.setCell ⟨p, 0, none⟩ a).setCell ⟨p, 1, none⟩ b).setCell ⟨p, 2, none⟩ c).setCell ⟨p, 3, none⟩ d) B x y z :=
  (h.far3 hp a b c).far (p := ⟨p, 3, none⟩) hp _
theorem C4.set {w : World} {B : Nat} {x y z u : Value} (h : C4 w B x y z u) (x' y' z' u' : Value) : C4 ((((w.setCell ⟨B, 0, none⟩ x').setCell ⟨B, 1, none⟩ y').setCell ⟨B, 2, none⟩ z').setCell ⟨B, 3, none⟩ u') B x' y' z' u' := by
  have h3 : (((w.setCell ⟨B, 0, none⟩ x').setCell ⟨B, 1, none⟩ y').setCell ⟨B, 2, none⟩ z').cell? ⟨B, 3, none⟩ = some u := by
    rw [World.cell?_setCell_other _ _ _ _ (by simp), World.cell?_setCell_other _ _ _ _ (by simp), World.cell?_setCell_other _ _ _ _ (by simp)]
    exact h.c3
  have hs := set3 h.c0 h.c1 h.c2 x' y' z'
  refine ⟨?_, ?_, ?_, World.cell?_setCell_same _ _ _ h3, by simpa using h.lt⟩
  · rw [World.cell?_setCell_other _ _ _ _ (by simp)]; exact hs.1
  · rw [World.cell?_setCell_other _ _ _ _ (by simp)]; exact hs.2.1
  · rw [World.cell?_setCell_other _ _ _ _ (by simp)]; exact hs.2.2.1
theorem Fz.set3 {w : World} {B : Nat} (h : Fz w B) (p q r : Addr) (a b c : Value) : Fz (((w.setCell p a).setCell q b).setCell r c) B := ((h.set _ _).set _ _).set _ _
/-- A cell that somebody else owns. -/
def At (w : World) (p : Addr) (v : Value) : Prop := w.cell? p = some v ∧ p.block < w.heap.size
theorem At.kp {w w' : World} {p : Addr} {v : Value} (h : At w p v) (k : Kp w.heap.size w w') : At w' p v := ⟨(k.cell h.2).trans h.1, Nat.lt_of_lt_of_le h.2 k.size⟩
theorem At.alloc {w : World} {p : Addr} {v : Value} (h : At w p v) (o : Obj) : At (w.alloc o) p v := h.kp ((Kp.refl _ _).alloc (Nat.le_refl _) o)
theorem At.drew {w : World} {p : Addr} {v : Value} (h : At w p v) : At w.drew p v := h.kp ((Kp.refl _ _).drewN 1)
theorem At.far {w : World} {p : Addr} {v : Value} (h : At w p v) {q : Addr} (hq : q.block ≠ p.block) (u : Value) : At (w.setCell q u) p v := ⟨(World.cell?_setCell_far _ _ _ _ hq).trans h.1, by simpa using h.2⟩
theorem At.far3 {w : World} {p : Addr} {v : Value} (h : At w p v) {B : Nat} (hq : B ≠ p.block) (a b c : Value) : At (((w.setCell ⟨B, 0, none⟩ a).setCell ⟨B, 1, none⟩ b).setCell ⟨B, 2, none⟩ c) p v :=
  ((h.far (q := ⟨B, 0, none⟩) hq _).far (q := ⟨B, 1, none⟩) hq _).far (q := ⟨B, 2, none⟩) hq _
theorem At.far4 {w : World} {p : Addr} {v : Value} (h : At w p v) {B : Nat} (hq : B ≠ p.block) (a b c d : Value) : At ((((w.setCell ⟨B, 0, none⟩ a).setCell ⟨B, 1, none⟩ b).setCell ⟨B, 2, none⟩ c).setCell ⟨B, 3, none⟩ d) p v :=
  (h.far3 hq a b c).far (q := ⟨B, 3, none⟩) hq _
theorem GrewS.set3 {V w : World} (h : GrewS V w) {B : Nat} (hB : V.heap.size ≤ B) (a b c : Value) : GrewS V (((w.setCell ⟨B, 0, none⟩ a).setCell ⟨B, 1, none⟩ b).setCell ⟨B, 2, none⟩ c) :=
  ((h.setCell (a := ⟨B, 0, none⟩) hB _).setCell (a := ⟨B, 1, none⟩) hB _).setCell (a := ⟨B, 2, none⟩) hB _
theorem GrewS.set4 {V w : World} (h : GrewS V w) {B : Nat} (hB : V.heap.size ≤ B) (a b c d : Value) : GrewS V ((((w.setCell ⟨B, 0, none⟩ a).setCell ⟨B, 1, none⟩ b).setCell ⟨B, 2, none⟩ c).setCell ⟨B, 3, none⟩ d) :=
  (h.set3 hB a b c).setCell (a := ⟨B, 3, none⟩) hB _
end Go.Proofs.Yticgdfbknaholaa
