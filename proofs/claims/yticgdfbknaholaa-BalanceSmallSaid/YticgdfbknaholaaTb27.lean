/-
  Own variables that hold a task; whole stores into them. The comparison of tasks' weights.
-/
import Derived.Test.YticgdfbknaholaaLight27
import Derived.Deep.RegionHeld3
namespace Go.Proofs.Yticgdfbknaholaa
open Go.RowKit

structure Tb (w : World) (b : Nat) (t : Tk) : Prop where
  tk : TkAt w b 0 t
  fz : ∀ o, w.frozen? ⟨b, o, none⟩ = false
theorem Tb.blk {w w' : World} {b : Nat} {t : Tk} (h : Tb w b t) (hb : w'.heap[b]? = w.heap[b]?) (hs : w.heap.size ≤ w'.heap.size) : Tb w' b t :=
  ⟨h.tk.blk hb hs, fun o => (World.frozen?_of_block (w := w) (a := ⟨b, o, none⟩) hb).trans (h.fz o)⟩
theorem Tb.kp {w w' : World} {b : Nat} {t : Tk} {B : Nat} (h : Tb w b t) (k : Kp B w w') (hb : b < B) : Tb w' b t := h.blk (k.block b hb) k.size
theorem Tb.kps {w w' : World} {b : Nat} {t : Tk} (h : Tb w b t) (k : Kp w.heap.size w w') : Tb w' b t := h.kp k h.tk.lt
theorem Tb.kx {w w' : World} {b : Nat} {t : Tk} {n1 n2 m1 m2 : Nat} (h : Tb w b t) (k : Kx n1 n2 m1 m2 w w') (hb : b < n1 ∨ n2 ≤ b) (hm : b < m1 ∨ m2 ≤ b) : Tb w' b t := h.blk (k.block b h.tk.lt hb hm) k.size
theorem Tb.new (w : World) (t : Tk) (ty : TypeId) : Tb (w.alloc (.cells (tkc t) ty)) w.heap.size t := ⟨TkAt.new w t ty, fun o => by simp⟩
theorem Tb.alloc {w : World} {b : Nat} {t : Tk} (h : Tb w b t) (o : Obj) : Tb (w.alloc o) b t := h.kps ((Kp.refl _ _).alloc (Nat.le_refl _) o)
theorem Tb.drew {w : World} {b : Nat} {t : Tk} (h : Tb w b t) : Tb w.drew b t := h.kps ((Kp.refl _ _).drewN 1)
/-- A whole store. -/
def putT (w : World) (b : Nat) (t : Tk) : World :=
  (((((((w.setCell ⟨b, 0, none⟩ (.int .i64 t.id)).setCell ⟨b, 1, none⟩ (.int .i64 t.grp)).setCell ⟨b, 2, none⟩ (.int .i64 t.wt)).setCell ⟨b, 3, none⟩ (.int .i64 t.cpu)).setCell ⟨b, 4, none⟩ (.int .u64 t.mask)).setCell ⟨b, 5, none⟩ (.bool t.rdy)).setCell ⟨b, 6, none⟩ (.int .u64 t.v)).setCell ⟨b, 7, none⟩ (.int .u32 t.r)
theorem putT_size (w : World) (b : Nat) (t : Tk) : (putT w b t).heap.size = w.heap.size := by unfold putT; simp [World.setCell]
theorem putT_block (w : World) (b : Nat) (t : Tk) (k : Nat) (h : k ≠ b) : (putT w b t).heap[k]? = w.heap[k]? := by
  unfold putT
  iterate 8 rw [Below.heap_setCell _ _ _ _ h]
theorem putT_kx {n1 n2 m1 m2 : Nat} {a w : World} (h : Kx n1 n2 m1 m2 a w) {b : Nat} (h1 : m1 ≤ b) (h2 : b < m2) (t : Tk) : Kx n1 n2 m1 m2 a (putT w b t) :=
  ((((((((h.setCell (p := ⟨b, 0, none⟩) h1 h2 _).setCell (p := ⟨b, 1, none⟩) h1 h2 _).setCell (p := ⟨b, 2, none⟩) h1 h2 _).setCell (p := ⟨b, 3, none⟩) h1 h2 _).setCell (p := ⟨b, 4, none⟩) h1 h2 _).setCell (p := ⟨b, 5, none⟩) h1 h2 _).setCell (p := ⟨b, 6, none⟩) h1 h2 _).setCell (p := ⟨b, 7, none⟩) h1 h2 _)
theorem putT_kp {B : Nat} {a w : World} (h : Kp B a w) {b : Nat} (h1 : B ≤ b) (t : Tk) : Kp B a (putT w b t) :=
  ((((((((h.setCell (p := ⟨b, 0, none⟩) h1 _).setCell (p := ⟨b, 1, none⟩) h1 _).setCell (p := ⟨b, 2, none⟩) h1 _).setCell (p := ⟨b, 3, none⟩) h1 _).setCell (p := ⟨b, 4, none⟩) h1 _).setCell (p := ⟨b, 5, none⟩) h1 _).setCell (p := ⟨b, 6, none⟩) h1 _).setCell (p := ⟨b, 7, none⟩) h1 _)
theorem Tb.far {w : World} {b p : Nat} {t : Tk} (h : Tb w b t) (hp : b ≠ p) (u : Tk) : Tb (putT w p u) b t := h.blk (putT_block _ _ _ _ hp) (by rw [putT_size]; exact Nat.le_refl _)
theorem Bx.farT {w : World} {b p : Nat} {v : Value} (h : Bx w b v) (hp : b ≠ p) (u : Tk) : Bx (putT w p u) b v :=
  ⟨(World.cell?_of_block (w := w) (a := ⟨b, 0, none⟩) (putT_block _ _ _ _ hp)).trans h.cell, (World.frozen?_of_block (w := w) (a := ⟨b, 0, none⟩) (putT_block _ _ _ _ hp)).trans h.fz, by rw [putT_size]; exact h.lt⟩
theorem Tb.farB {w : World} {b p : Nat} {t : Tk} (h : Tb w b t) (hp : p ≠ b) (v : Value) : Tb (w.setCell ⟨p, 0, none⟩ v) b t :=
  h.blk (Below.heap_setCell _ _ _ _ (by simpa using hp.symm)) (by simp [World.setCell])
theorem Tb.put {w : World} {b : Nat} {t : Tk} (h : Tb w b t) (u : Tk) : Tb (putT w b u) b u := by
  obtain ⟨⟨c0, c1, c2, c3, c4, c5, c6, c7, hl⟩, hf⟩ := h
  have ne : ∀ {i j : Nat}, i ≠ j → (⟨b, i, none⟩ : Addr) ≠ ⟨b, j, none⟩ := fun h e => h (by cases e; rfl)
  have oth : ∀ (W : World) (i j : Nat) (x : Value), i ≠ j → (W.setCell ⟨b, i, none⟩ x).cell? ⟨b, j, none⟩ = W.cell? ⟨b, j, none⟩ := fun W i j x h => World.cell?_setCell_other _ _ _ _ (ne h)
  simp only [Nat.zero_add] at c0 c1 c2 c3 c4 c5 c6 c7
  refine ⟨⟨?_, ?_, ?_, ?_, ?_, ?_, ?_, ?_, by rw [putT_size]; exact hl⟩, fun o => by unfold putT; simpa using hf o⟩ <;> (unfold putT; try simp only [Nat.zero_add])
  · iterate 7 rw [oth _ _ _ _ (by decide)]
    exact World.cell?_setCell_same _ _ _ c0
  · iterate 6 rw [oth _ _ _ _ (by decide)]
    exact World.cell?_setCell_same _ _ _ (by iterate 1 rw [oth _ _ _ _ (by decide)]
                                             exact c1)
  · iterate 5 rw [oth _ _ _ _ (by decide)]
    exact World.cell?_setCell_same _ _ _ (by iterate 2 rw [oth _ _ _ _ (by decide)]
                                             exact c2)
  · iterate 4 rw [oth _ _ _ _ (by decide)]
    exact World.cell?_setCell_same _ _ _ (by iterate 3 rw [oth _ _ _ _ (by decide)]
                                             exact c3)
  · iterate 3 rw [oth _ _ _ _ (by decide)]
    exact World.cell?_setCell_same _ _ _ (by iterate 4 rw [oth _ _ _ _ (by decide)]
                                             exact c4)
  · iterate 2 rw [oth _ _ _ _ (by decide)]
    exact World.cell?_setCell_same _ _ _ (by iterate 5 rw [oth _ _ _ _ (by decide)]
                                             exact c5)
  · iterate 1 rw [oth _ _ _ _ (by decide)]
    exact World.cell?_setCell_same _ _ _ (by iterate 6 rw [oth _ _ _ _ (by decide)]
                                             exact c6)
  · exact World.cell?_setCell_same _ _ _ (by iterate 7 rw [oth _ _ _ _ (by decide)]
                                             exact c7)
theorem cmpTk_any (W : World) (a b : Tk) : Calls Try.prog 40 #[tkv a, tkv b] W fun e w' => e = .returned (.int .i64 (cmpI a.wt b.wt)) ∧ GrewS W w' := by
  have HC := fun w => Lib.hid (compare_any a.wt b.wt w)
  obtain ⟨i1, g1, w1, p1, m1, r1, v1, x1⟩ := a
  obtain ⟨i2, g2, w2, p2, m2, r2, v2, x2⟩ := b
  dsimp only at *
  have hg := ((GrewS.refl W).alloc (.cells #[.int .i64 i1, .int .i64 g1, .int .i64 w1, .int .i64 p1, .int .u64 m1, .bool r1, .int .u64 v1, .int .u32 x1] 43)).alloc (.cells #[.int .i64 i2, .int .i64 g2, .int .i64 w2, .int .i64 p2, .int .u64 m2, .bool r2, .int .u64 v2, .int .u32 x2] 43)
  go_enter Try.func40, Try.ntmps40
  go_wp2_with fail
  (with_reducible refine (HC _).out.mono ?_)
  rintro e w3 ⟨rfl, rfl⟩
  go_wp2_with fail
  go_ret
  exact ⟨rfl, hg⟩
end Go.Proofs.Yticgdfbknaholaa
