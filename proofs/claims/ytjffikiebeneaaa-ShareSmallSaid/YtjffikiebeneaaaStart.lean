/-
  The seat's start: arguments opened (shares, arrays of two numbers, slices of arrays of two); a world for the witnesses.
-/
import Derived.Test.YtjffikiebeneaaaRows
import Derived.Test.YtjffikiebeneaaaFrame
import Derived.Test.YtjffikiebeneaaaPairs17
import Derived.Lib.SmallJoins
import Derived.Deep.Slices
namespace Go.Proofs.Ytjffikiebeneaaa
open Go.RowKit Go.ChangeShapes Go.WideShapes Go.Joins Go.Deep

theorem own : ownKnob Try.prog.godebug = none := by kernel_rfl
theorem laidOut : laidOutB Try.prog = true := by kernel_rfl
theorem cells25 : Try.prog.cellsOf 25 = 2 := by kernel_rfl
theorem cells22 : Try.prog.cellsOf 22 = 2 := by kernel_rfl
theorem cells34 : Try.prog.cellsOf 34 = 2 := by kernel_rfl
theorem cells55 : Try.prog.cellsOf 55 = 2 := by kernel_rfl
theorem cells3 : Try.prog.cellsOf 3 = 1 := by kernel_rfl
theorem cells5 : Try.prog.cellsOf 5 = 1 := by kernel_rfl
theorem cells28 : Try.prog.cellsOf 28 = 1 := by kernel_rfl

noncomputable def laidWorld (os : Os) : World := World.holding Try.prog os ⟨#[], #[], []⟩

theorem laid_nil (P : Program) (w : World) : laidMetH P [] w := ⟨[], by simp [DataW.LaidVars], List.nodup_nil, fun _ _ h => by cases h⟩

theorem open_shr' {H : Type} {enc : TypeId × Value → H} {P : Program} {t : TypeId} {f0 f1 : Field} {W : World} {v : Value} {d : DataW H} {p : List MemPlace} {b : Nat}
    (hs : P.underlying t = some (.struct #[f0, f1])) (hone : Deep.oneCellFields P #[f0, f1] = true) (hC : P.cellsOf t = 2)
    (h0 : P.underlying f0.type = some (.int .i64)) (h1 : P.underlying f1.type = some (.int .i64))
    (hv : Value.okWide P W .any b t v) (hj : DataW.Trod enc P W 0 (fun _ => true) true t v d p) :
    ∃ x y : Int, v = .agg #[.int .i64 x, .int .i64 y] ∧ x ≤ 9223372036854775807 ∧ y ≤ 9223372036854775807 := by
  obtain ⟨c0, c1, y0, y1, n, rfl, _, _, hy0, hy1⟩ := open_agg2 hs hone hC hv hj
  obtain ⟨x, e0, _, wx⟩ := DataW.trod_int h0 hy0
  obtain ⟨y, e1, _, wy⟩ := DataW.trod_int h1 hy1
  simp only [List.cons.injEq, and_true] at e0 e1
  subst e0 e1
  exact ⟨x, y, rfl, (bounds_i64 wx).2, (bounds_i64 wy).2⟩

theorem trod_array2 {H : Type} {enc : TypeId × Value → H} {P : Program} {w : World} {base : Nat} {spare : Nat → Bool} {held : Bool} {t e : TypeId} {fuel : Nat} {c0 c1 : Value} {x : DataW H × List MemPlace} (ht : P.underlying t = some (.array 2 e)) (hce : P.cellsOf e = 1)
    (h : DataW.trod enc P w base spare held fuel t [c0, c1] = some x) :
    ∃ y0 y1 n, DataW.trod enc P w base spare held n e [c0] = some y0 ∧ DataW.trod enc P w base spare held n e [c1] = some y1 := by
  obtain ⟨xs, m, _, _, _, hl, hf⟩ := DataW.trod_array ht h
  match xs, hl with
  | [y0, y1], _ =>
    have g0 := hf 0 (by omega)
    have g1 := hf 1 (by omega)
    simp [hce] at g0 g1
    exact ⟨y0, y1, m, g0, g1⟩

/-- An array of two numbers, by value. -/
theorem open_arr2' {H : Type} {enc : TypeId × Value → H} {P : Program} {t e : TypeId} {k : IntKind} {W : World} {v : Value} {d : DataW H} {p : List MemPlace} {b : Nat}
    (hs : P.underlying t = some (.array 2 e)) (he : P.underlying e = some (.int k)) (hce : P.cellsOf e = 1) (hC : P.cellsOf t = 2)
    (hv : Value.okWide P W .any b t v) (hj : DataW.Trod enc P W 0 (fun _ => true) true t v d p) :
    ∃ x y : Int, v = .agg #[.int k x, .int k y] ∧ (Lit.int k x).wf = true ∧ (Lit.int k y).wf = true := by
  simp only [Value.okWide, hs] at hv
  obtain ⟨cs, rfl, hsz, _⟩ := hv
  obtain ⟨c0, c1, rfl⟩ := array2 (hsz.trans hC)
  obtain ⟨fuel, hf⟩ := hj
  obtain ⟨y0, y1, n, hy0, hy1⟩ := trod_array2 hs hce hf
  obtain ⟨x, e0, _, wx⟩ := DataW.trod_int he hy0
  obtain ⟨y, e1, _, wy⟩ := DataW.trod_int he hy1
  simp only [List.cons.injEq, and_true] at e0 e1
  subst e0 e1
  exact ⟨x, y, rfl, wx, wy⟩

/-- A slice of arrays of two numbers. -/
theorem open_prs' {H : Type} {enc : TypeId × Value → H} {P : Program} {t e f : TypeId} {W : World} {v : Value} {d : DataW H} {p : List MemPlace} {b : Nat}
    (ht : P.underlying t = some (.slice e)) (hs : P.underlying e = some (.array 2 f)) (he : P.underlying f = some (.int .i64)) (hce : P.cellsOf f = 1) (hC : P.cellsOf e = 2)
    (hv : Value.okWide P W .any b t v) (hj : DataW.Trod enc P W 0 (fun _ => true) true t v d p) :
    ∃ (A : Option Addr) (cap : Nat) (es : List P2), v = .slice A es.length cap ∧ es.length ≤ cap ∧ (cap : Int) ≤ 9223372036854775807 ∧ (A = none → cap = 0) ∧ IsPrs W A es.length es := by
  obtain ⟨a0, len, cap, rfl⟩ := okWide_slice ht hv
  obtain ⟨fuel, hf⟩ := hj
  rcases open_slice ht hf with ⟨hcs, hx⟩ | ⟨a, len', cap', m, n, D, Pl, hcs, _, hl, hm, hmm, _, hx⟩
  · simp only [Value.cells, List.cons.injEq, Value.slice.injEq, and_true] at hcs
    obtain ⟨rfl, rfl, rfl⟩ := hcs
    exact ⟨none, 0, [], rfl, Nat.le_refl _, by omega, fun _ => rfl, fun i hi => absurd hi (Nat.not_lt_zero _)⟩
  · simp only [Value.cells, List.cons.injEq, Value.slice.injEq, and_true] at hcs
    obtain ⟨rfl, rfl, rfl⟩ := hcs
    simp only [if_true] at hmm
    unfold maxLen at hm
    have each : ∀ i, i < len → ∃ q : Int × Int, W.cell? (a.add (i * 2)) = some (.int .i64 q.1) ∧ W.cell? (a.add (i * 2 + 1)) = some (.int .i64 q.2) := by
      intro i hi
      obtain ⟨cs', h3, h4⟩ := hx i (by omega)
      rw [hC] at h3
      obtain ⟨_, hlen, hcell⟩ := World.cells?_some h3
      match cs', hlen with
      | [v0, v1], _ =>
        obtain ⟨y0, y1, n', g0, g1⟩ := trod_array2 hs hce h4
        have e0 := hcell 0 (by omega)
        have e1 := hcell 1 (by omega)
        obtain ⟨x, f0', _, wx⟩ := DataW.trod_int he g0
        obtain ⟨y, f1', _, wy⟩ := DataW.trod_int he g1
        simp only [List.cons.injEq, and_true] at f0' f1'
        subst f0' f1'
        exact ⟨(x, y), by simpa [add_add] using e0, by simpa [add_add] using e1⟩
    obtain ⟨q, hq⟩ := choose_lt each
    have hL : ((List.range len).map fun i => (q i : P2)).length = len := by simp
    refine ⟨some a, cap, (List.range len).map fun i => (q i : P2), by rw [hL], by rw [hL]; exact hl, by omega, by simp, fun i hi => ?_⟩
    have hi' : i < len := by rw [hL] at hi; exact hi
    obtain ⟨c0, c1⟩ := hq i hi'
    obtain ⟨bb, off, spot⟩ := a
    have hspot : spot = none := by simpa [Addr.add] using World.cell?_spot (hq 0 (by omega)).1
    subst hspot
    rw [add_plain] at c0 c1
    have hg : ((List.range len).map fun i => (q i : P2)).getD i p0 = q i := by simp [List.getD_eq_getElem?_getD, hi']
    rw [hg]
    exact ⟨bb, off, rfl, cell_lt c0, c0, by rw [Nat.add_assoc]; exact c1⟩
end Go.Proofs.Ytjffikiebeneaaa
