/-
  What Do makes of a scene, in values; what is told of a scene handed back.
-/
import Derived.Test.YticgdfbknaholaaIndex27
namespace Go.Proofs.Yticgdfbknaholaa
open Go.RowKit

def Tk.to (t : Tk) (y : Int) : Tk := ⟨t.id, t.grp, t.wt, y, t.mask, t.rdy, t.v, t.r⟩
/-- The tasks, one of them on another CPU. -/
def moveT (ts : List Tk) (k y : Int) : List Tk := ts.set (idxT ts k) ((ts.getD (idxT ts k) t0).to y)
def s0 : Sc := ⟨0, [], []⟩
def doOk (s : Sc) (k x y : Int) : Bool := decide (0 ≤ x) && decide (x < s.n) && decide (0 ≤ y) && decide (y < s.n) && (x != y) && (freeL s x y).any fun t => t.id == k
/-- What Do hands back. -/
def doV (s : Sc) (k x y : Int) : Sc × Int := if rightS s then if doOk s k x y then (⟨s.n, moveT s.ts k y, s.cur⟩, 0) else (s0, 271) else (s0, 270)
/-- A scene of the call's own in memory. -/
structure OwnSc (w : World) (base : Nat) (v : Value) (s : Sc) : Prop where
  ex : ∃ A ca B cb, v = .agg #[.int .i64 s.n, .slice A s.ts.length ca, .slice B s.cur.length cb] ∧ ScAt w A s.ts.length B s.cur.length s ∧ OwnSl w base 43 A s.ts.length ca ∧ OwnSl w base 3 B s.cur.length cb ∧ (∀ p p', A = some p → B = some p' → p.block ≠ p'.block)
theorem OwnSc.kp {w w' : World} {base : Nat} {v : Value} {s : Sc} (h : OwnSc w base v s) (k : Kp w.heap.size w w') : OwnSc w' base v s := by
  obtain ⟨A, ca, B, cb, h1, h2, h3, h4, h5⟩ := h.ex
  exact ⟨A, ca, B, cb, h1, h2.kp k, h3.kp k, h4.kp k, h5⟩
theorem scAt_zero (w : World) : ScAt w none 0 none 0 s0 := ⟨rfl, rfl, IsTks.nil w, fun i hi => absurd hi (Nat.not_lt_zero i), (fun t h => by cases h), (by omega), (by omega)⟩
theorem ownSl_nil (w : World) (base : Nat) (t : TypeId) : OwnSl w base t none 0 0 := ⟨Nat.le_refl _, Nat.zero_le _, fun _ => rfl, fun p h => by cases h⟩
theorem ownSc_zero (w : World) (base : Nat) : OwnSc w base (.agg #[.int .i64 0, .slice none 0 0, .slice none 0 0]) s0 :=
  ⟨none, 0, none, 0, rfl, scAt_zero w, ownSl_nil w base _, ownSl_nil w base _, fun p p' h => by cases h⟩
theorem IsTks.kpB {w w' : World} {A : Option Addr} {n B : Nat} {ts : List Tk} (h : IsTks w A n ts) (k : Kp B w w') (hA : ∀ p, A = some p → p.block < B) : IsTks w' A n ts := fun i hi => by
  obtain ⟨b, off, e, T⟩ := h i hi
  exact ⟨b, off, e, T.blk (k.block b (hA _ e)) k.size⟩
theorem isInts_kpB {w w' : World} {k : IntKind} {A : Option Addr} {n B : Nat} {zs : List Int} (h : IsInts w k A n zs) (g : Kp B w w') (hA : ∀ p, A = some p → p.block < B) : IsInts w' k A n zs := fun i hi => by
  obtain ⟨b, off, e, hb, T⟩ := h i hi
  exact ⟨b, off, e, Nat.lt_of_lt_of_le hb g.size, (g.cell (p := ⟨b, off + i, none⟩) (hA ⟨b, off, none⟩ e)).trans T⟩
theorem OwnSl.kpB {w w' : World} {base B : Nat} {t : TypeId} {A : Option Addr} {n c : Nat} (h : OwnSl w base t A n c) (k : Kp B w w') (hA : ∀ p, A = some p → p.block < B) : OwnSl w' base t A n c :=
  ⟨h.le, h.max, h.nil, fun p hp => by
    obtain ⟨g, h1, h2, h3, h4, h5⟩ := h.at0 p hp
    subst h1
    exact ⟨g, rfl, h2, Nat.lt_of_lt_of_le h3 k.size, fun o => (k.frozen (p := ⟨g, o, none⟩) (hA ⟨g, 0, none⟩ hp)).trans (h4 o), h5.kpB k (hA ⟨g, 0, none⟩ hp)⟩⟩
theorem OwnSc.kpB {w w' : World} {base B : Nat} {v : Value} {s : Sc} (h : OwnSc w base v s) (k : Kp B w w') (hw : w.heap.size ≤ B) : OwnSc w' base v s := h.kp (k.mono hw)
theorem idx_free {s : Sc} {k x y : Int} {t : Tk} (ht : t ∈ freeL s x y) (hk : t.id = k) : ∃ j, j < s.ts.length ∧ idxT s.ts k = j ∧ (s.ts.getD j t0).id = k := by
  obtain ⟨h1, _⟩ := freeL_mem ht
  have hex : ∃ a ∈ s.ts, (fun t : Tk => t.id == k) a = true := ⟨t, h1, by simpa using hk⟩
  have hlt := List.findIdx_lt_length.2 hex
  refine ⟨idxT s.ts k, hlt, rfl, ?_⟩
  have := List.findIdx_getElem (w := hlt)
  rw [List.getD_eq_getElem?_getD, List.getElem?_eq_getElem (show idxT s.ts k < s.ts.length from hlt)]
  have h2 := beq_iff_eq.1 this
  exact h2
end Go.Proofs.Yticgdfbknaholaa
