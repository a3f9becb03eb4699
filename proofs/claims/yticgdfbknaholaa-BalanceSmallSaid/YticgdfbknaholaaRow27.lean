/-
  Own rows of one-celled things; what Right says of a scene.
-/
import Derived.Test.YticgdfbknaholaaHas27
import Derived.Laws.MakeOwn
import Derived.Deep.CutRange
namespace Go.Proofs.Yticgdfbknaholaa
open Go.RowKit

/-- A row of k cells of the call's own. -/
structure Row (w : World) (b k : Nat) (f : Nat → Value) : Prop where
  cells : ∀ i, i < k → w.cell? ⟨b, i, none⟩ = some (f i)
  lt : b < w.heap.size
  fz : ∀ o, w.frozen? ⟨b, o, none⟩ = false
theorem Row.kp {w w' : World} {b k : Nat} {f : Nat → Value} (h : Row w b k f) (g : Kp w.heap.size w w') : Row w' b k f :=
  ⟨fun i hi => (g.cell (p := ⟨b, i, none⟩) h.lt).trans (h.cells i hi), Nat.lt_of_lt_of_le h.lt g.size, fun o => (g.frozen (p := ⟨b, o, none⟩) h.lt).trans (h.fz o)⟩
theorem Row.set {w : World} {b k : Nat} {f : Nat → Value} (h : Row w b k f) {j : Nat} (hj : j < k) (v : Value) : Row (w.setCell ⟨b, j, none⟩ v) b k (fun i => if i = j then v else f i) := by
  refine ⟨fun i hi => ?_, by simpa using h.lt, fun o => by simpa using h.fz o⟩
  by_cases e : i = j
  · subst e
    rw [if_pos rfl]
    exact World.cell?_setCell_same _ _ _ (h.cells i hi)
  · rw [if_neg e]
    exact (World.cell?_setCell_other _ _ _ _ (fun q => e (by cases q; rfl))).trans (h.cells i hi)
theorem Row.congr {w : World} {b k : Nat} {f g : Nat → Value} (h : Row w b k f) (e : ∀ i, i < k → f i = g i) : Row w b k g := ⟨fun i hi => (h.cells i hi).trans (by rw [e i hi]), h.lt, h.fz⟩
theorem Row.far {w : World} {b k : Nat} {f : Nat → Value} (h : Row w b k f) {p : Addr} (hp : p.block ≠ b) (v : Value) : Row (w.setCell p v) b k f :=
  ⟨fun i hi => (World.cell?_setCell_far _ _ _ _ hp).trans (h.cells i hi), by simpa using h.lt, fun o => by simpa using h.fz o⟩
theorem made_at (z : Value) (hz : z.cells = [z].toArray ∨ z.cells.size = 1) {k i : Nat} (hi : i < k) : (madeCells z.cells k)[i]? = some (z.cells[0]!) := by
  have h1 : z.cells.size = 1 := by rcases hz with h | h <;> simp [h]
  unfold madeCells
  simp only [Array.getElem?_map]
  rw [Array.getElem?_eq_getElem (by rw [Array.size_range]; exact hi)]
  simp only [Option.map_some, Array.getElem_range, h1, Nat.mod_one]
theorem Row.made (w : World) (z : Value) (h1 : z.cells.size = 1) (k : Nat) (e : TypeId) : Row (w.alloc (.cells (madeCells z.cells k) e)) w.heap.size k (fun _ => z.cells[0]!) :=
  ⟨fun i hi => by
    rw [cell_of_row (w.alloc (.cells (madeCells z.cells k) e)) w.heap.size i _ e (0, 0) (heap_alloc_new w _)]
    exact made_at z (Or.inr h1) hi, by simp, fun o => by simp⟩
theorem bool_info : (Try.prog.info? 4).map (fun i => (i.zero, i.size, i.bytes)) = some (some (.bool false), 1, 1) := by kernel_rfl
theorem int_info : (Try.prog.info? 3).map (fun i => (i.zero, i.size, i.bytes)) = some (some (.int .i64 0), 1, 8) := by kernel_rfl
/-- A slice of k falses, made. -/
theorem make_bools (w : World) (k : Nat) (hk : k ≤ 64) : (Instr.makeSlice 81 (.int .i64 (k : Int)) (.int .i64 (k : Int))).run Try.prog w = .ok (.slice (some ⟨w.heap.size, 0, none⟩) k k) (w.alloc (.cells (madeCells (Value.bool false).cells k) 4)) := by
  obtain ⟨i0, hi0, hz0, hz1, hz2⟩ := info_parts bool_info
  have h := run_make (P := Try.prog) w 81 4 i0 (.bool false) Try.underlying81 hi0 hz0 .i64 .i64 (k : Int) (k : Int) (by omega) (by omega) (by rw [hz2]; omega) (by omega)
  rw [hz1, Nat.mul_one] at h
  exact h
/-- A slice of k noughts, made. -/
theorem make_ints (w : World) (k : Nat) (hk : k ≤ 65536) : (Instr.makeSlice 28 (.int .i64 (k : Int)) (.int .i64 (k : Int))).run Try.prog w = .ok (.slice (some ⟨w.heap.size, 0, none⟩) k k) (w.alloc (.cells (madeCells (Value.int .i64 0).cells k) 3)) := by
  obtain ⟨i0, hi0, hz0, hz1, hz2⟩ := info_parts int_info
  have h := run_make (P := Try.prog) w 28 3 i0 (.int .i64 0) Try.underlying28 hi0 hz0 .i64 .i64 (k : Int) (k : Int) (by omega) (by omega) (by rw [hz2]; omega) (by omega)
  rw [hz1, Nat.mul_one] at h
  exact h

/-- Whether tasks are right, behind one with an ID. -/
def rightsT (n : Int) : Int → List Tk → Bool
  | _, [] => true
  | last, t :: ts => rightT n last t && rightsT n t.id ts
/-- Whether one of these tasks is ready, on CPU c, and runs there. -/
def runsB (cur : List Int) (ts : List Tk) (c : Nat) : Bool := ts.any fun t => t.rdy && t.cpu.toNat == c && cur.getD t.cpu.toNat 0 == t.id
def rightS (s : Sc) : Bool :=
  decide (1 ≤ s.n) && decide (s.n ≤ 64) && ((s.cur.length : Int) == s.n) && (rightsT s.n 0 s.ts && (List.range s.cur.length).all fun c => s.cur.getD c 0 == 0 || runsB s.cur s.ts c)
theorem rightT_cpu {n last : Int} {t : Tk} (h : rightT n last t = true) : 0 ≤ t.cpu ∧ t.cpu < n ∧ last < t.id ∧ t.id ≤ 65535 ∧ 1 ≤ t.wt ∧ t.wt ≤ 65536 ∧ hasB t.mask t.cpu = true := by
  unfold rightT at h
  simp only [Bool.and_eq_true, decide_eq_true_eq] at h
  obtain ⟨⟨⟨⟨⟨⟨⟨h1, h2⟩, h3⟩, h4⟩, h5⟩, h6⟩, h7⟩, _⟩ := h
  exact ⟨h5, h6, h1, h2, h3, h4, h7⟩
theorem runsB_snoc (cur : List Int) (ts : List Tk) (t : Tk) (c : Nat) : runsB cur (ts ++ [t]) c = (runsB cur ts c || (t.rdy && t.cpu.toNat == c && cur.getD t.cpu.toNat 0 == t.id)) := by
  unfold runsB
  simp [List.any_append]
theorem take_snoc' {ts : List Tk} {i : Nat} (h : i < ts.length) : ts.take (i + 1) = ts.take i ++ [ts.getD i t0] := by
  rw [List.take_add_one, List.getD_eq_getElem?_getD, List.getElem?_eq_getElem h]
  rfl
theorem drop_cons' {ts : List Tk} {i : Nat} (h : i < ts.length) : ts.drop i = ts.getD i t0 :: ts.drop (i + 1) := by
  rw [List.getD_eq_getElem?_getD, List.getElem?_eq_getElem h]
  exact List.drop_eq_getElem_cons h
end Go.Proofs.Yticgdfbknaholaa
