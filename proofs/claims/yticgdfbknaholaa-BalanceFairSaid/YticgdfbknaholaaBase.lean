/-
  Small words that do not speak of the program: 'Kp B w w'': below block number B the world w' is as w was (whatever was drawn from the tape).
-/
import Derived.WalkKit
import Derived.WalkSpells
import Derived.WalkLawsBesides
import Derived.BigQuiet
import Derived.Deep.DeepMust
import Derived.Lib.Hide
import Derived.Laws.IdiomRangeMap
namespace Go.Proofs.Yticgdfbknaholaa
open Go.RowKit

structure Kp (B : Nat) (w w' : World) : Prop where
  os : w'.os = w.os
  output : w'.output = w.output
  size : w.heap.size ≤ w'.heap.size
  block : ∀ k, k < B → w'.heap[k]? = w.heap[k]?

theorem Kp.refl (B : Nat) (w : World) : Kp B w w := ⟨rfl, rfl, Nat.le_refl _, fun _ _ => rfl⟩
theorem Kp.trans {B : Nat} {a b c : World} (h : Kp B a b) (k : Kp B b c) : Kp B a c :=
  ⟨k.os.trans h.os, k.output.trans h.output, Nat.le_trans h.size k.size, fun i hi => (k.block i hi).trans (h.block i hi)⟩
theorem Kp.mono {B B' : Nat} {w w' : World} (h : Kp B w w') (hB : B' ≤ B) : Kp B' w w' := ⟨h.os, h.output, h.size, fun k hk => h.block k (Nat.lt_of_lt_of_le hk hB)⟩
theorem Kp.of_below {B : Nat} {w w' : World} (h : Below B w w') : Kp B w w' := ⟨h.os, h.output, h.size, h.block⟩
theorem Kp.drewN {B : Nat} {a w : World} (h : Kp B a w) (n : Nat) : Kp B a (w.drewN n) := ⟨h.os, h.output, h.size, h.block⟩
theorem Kp.drew {B : Nat} {a w : World} (h : Kp B a w) : Kp B a w.drew := ⟨h.os, h.output, h.size, h.block⟩
theorem Kp.alloc {B : Nat} {a w : World} (h : Kp B a w) (hB : B ≤ w.heap.size) (o : Obj) : Kp B a (w.alloc o) :=
  h.trans (Kp.of_below ((Below.refl B w).alloc hB o))
theorem Kp.setCell {B : Nat} {a w : World} (h : Kp B a w) {p : Addr} (hp : B ≤ p.block) (u : Value) : Kp B a (w.setCell p u) :=
  h.trans (Kp.of_below ((Below.refl B w).setCell hp u))
theorem Kp.alike {B : Nat} {a w w1 : World} (h : Kp B a w) (ha : w1.Alike w) : Kp B a w1 :=
  h.trans ⟨ha.2.1, ha.2.2, by rw [ha.1]; exact Nat.le_refl _, fun k _ => by rw [ha.1]⟩
theorem Kp.cell {B : Nat} {w w' : World} (h : Kp B w w') {p : Addr} (hp : p.block < B) : w'.cell? p = w.cell? p := World.cell?_of_block (w := w) (h.block p.block hp)
theorem Kp.frozen {B : Nat} {w w' : World} (h : Kp B w w') {p : Addr} (hp : p.block < B) : w'.frozen? p = w.frozen? p := World.frozen?_of_block (w := w) (h.block p.block hp)
theorem Kp.frame {W w' : World} (h : Kp W.heap.size W w') (may : MemPlace → Prop) : W.keptBut w' may := by
  refine ⟨h.os, h.output, fun i hi => ?_⟩
  rw [h.block i hi]
  split <;> simp_all
theorem Kp.same {W w' : World} (h : Kp W.heap.size W w') {p : MemPlace} (hp : p.block < W.heap.size) : W.sameAt w' p := by
  cases p with
  | cell b o => exact World.cell?_of_block (w := W) (h.block b hp)
  | map b => exact h.block b hp

theorem ret1 {a a' : Int} (h1 : a = a') : Ending.returned (.int .i64 a) = Ending.returned (.int .i64 a') := by rw [h1]
theorem ret2 {a a' b b' : Int} (h1 : a = a') (h2 : b = b') : Ending.returned (.tuple #[.int .i64 a, .int .i64 b]) = Ending.returned (.tuple #[.int .i64 a', .int .i64 b']) := by rw [h1, h2]
theorem ret3 {a a' b b' c c' : Int} (h1 : a = a') (h2 : b = b') (h3 : c = c') : Ending.returned (.tuple #[.int .i64 a, .int .i64 b, .int .i64 c]) = Ending.returned (.tuple #[.int .i64 a', .int .i64 b', .int .i64 c']) := by rw [h1, h2, h3]
theorem retB {a a' : Bool} (h1 : a = a') : Ending.returned (.bool a) = Ending.returned (.bool a') := by rw [h1]

/-- The cells of a slice of whole numbers that came in. -/
def IsInts (W : World) (k : IntKind) (a : Option Addr) (len : Nat) (zs : List Int) : Prop :=
  ∀ i, i < len → ∃ b off, a = some ⟨b, off, none⟩ ∧ b < W.heap.size ∧ W.cell? ⟨b, off + i, none⟩ = some (.int k (zs.getD i 0))
theorem IsInts.kp {W w : World} {k : IntKind} {a : Option Addr} {len : Nat} {zs : List Int} (h : IsInts W k a len zs) (hk : Kp W.heap.size W w) {i : Nat} (hi : i < len) :
    ∃ b off, a = some ⟨b, off, none⟩ ∧ w.cell? ⟨b, off + i, none⟩ = some (.int k (zs.getD i 0)) := by
  obtain ⟨b, off, h1, h2, h3⟩ := h i hi
  exact ⟨b, off, h1, (hk.cell (p := ⟨b, off + i, none⟩) h2).trans h3⟩
theorem IsInts.below {W w : World} {k : IntKind} {a : Option Addr} {len : Nat} {zs : List Int} (h : IsInts W k a len zs) (hk : Kp W.heap.size W w) : IsInts w k a len zs := by
  intro i hi
  obtain ⟨b, off, h1, h2, h3⟩ := h i hi
  exact ⟨b, off, h1, Nat.lt_of_lt_of_le h2 hk.size, (hk.cell (p := ⟨b, off + i, none⟩) h2).trans h3⟩
theorem cell_lt {W : World} {a : Addr} {v : Value} (h : W.cell? a = some v) : a.block < W.heap.size := by
  rcases Nat.lt_or_ge a.block W.heap.size with h1 | h1
  · exact h1
  · simp [World.cell?, Array.getElem?_eq_none h1] at h
end Go.Proofs.Yticgdfbknaholaa
