/-
  The seat's start: arguments opened (entities, relative ones, lists of entities); a world for the witnesses.
-/
import Derived.Test.YtmlapjaccmoleaaRows
import Derived.Test.YtmlapjaccmoleaaFrame
import Derived.Test.YtmlapjaccmoleaaFloor
import Derived.Lib.SmallJoins
import Derived.Deep.Slices
namespace Go.Proofs.Ytmlapjaccmoleaa
open Go.RowKit Go.ChangeShapes Go.WideShapes Go.Joins Go.Deep

theorem own : ownKnob Try.prog.godebug = none := by kernel_rfl
theorem laidOut : laidOutB Try.prog = true := by kernel_rfl
theorem cells25 : Try.prog.cellsOf 25 = 3 := by kernel_rfl
theorem cells22 : Try.prog.cellsOf 22 = 1 := by kernel_rfl
theorem cells23 : Try.prog.cellsOf 23 = 1 := by kernel_rfl
theorem cells56 : Try.prog.cellsOf 56 = 4 := by kernel_rfl

noncomputable def laidWorld (os : Os) : World := World.holding Try.prog os ⟨#[], #[], []⟩

theorem laid_nil (P : Program) (w : World) : laidMetH P [] w := ⟨[], by simp [DataW.LaidVars], List.nodup_nil, fun _ _ h => by cases h⟩

theorem eb_of_wf {a b c : Int} (h1 : (Lit.int .u64 a).wf = true) (h2 : (Lit.int .u32 b).wf = true) (h3 : (Lit.int .u32 c).wf = true) : EB a b c := by
  have u1 := bounds_u64 h1
  have u2 := bounds_u32 h2
  have u3 := bounds_u32 h3
  exact ⟨by omega, by omega, by omega, by omega, by omega, by omega⟩

theorem open_ent' {H : Type} {enc : TypeId × Value → H} {P : Program} {t : TypeId} {f0 f1 f2 : Field} {W : World} {v : Value} {d : DataW H} {p : List MemPlace} {b : Nat}
    (hs : P.underlying t = some (.struct #[f0, f1, f2])) (hone : Deep.oneCellFields P #[f0, f1, f2] = true) (hC : P.cellsOf t = 3)
    (h0 : P.underlying f0.type = some (.int .u64)) (h1 : P.underlying f1.type = some (.int .u32)) (h2 : P.underlying f2.type = some (.int .u32))
    (hv : Value.okWide P W .any b t v) (hj : DataW.Trod enc P W 0 (fun _ => true) true t v d p) :
    ∃ a r m : Int, v = ent a r m ∧ EB a r m := by
  obtain ⟨c0, c1, c2, y0, y1, y2, n, rfl, _, _, hy0, hy1, hy2⟩ := open_agg3 hs hone hC hv hj
  obtain ⟨x, e0, _, wx⟩ := DataW.trod_int h0 hy0
  obtain ⟨y, e1, _, wy⟩ := DataW.trod_int h1 hy1
  obtain ⟨z, e2, _, wz⟩ := DataW.trod_int h2 hy2
  simp only [List.cons.injEq, and_true] at e0 e1 e2
  subst e0 e1 e2
  exact ⟨x, y, z, rfl, eb_of_wf wx wy wz⟩

theorem open_rel' {H : Type} {enc : TypeId × Value → H} {P : Program} {t : TypeId} {f0 f1 f2 f3 : Field} {W : World} {v : Value} {d : DataW H} {p : List MemPlace} {b : Nat}
    (hs : P.underlying t = some (.struct #[f0, f1, f2, f3])) (hone : Deep.oneCellFields P #[f0, f1, f2, f3] = true) (hC : P.cellsOf t = 4)
    (h0 : P.underlying f0.type = some .bool) (h1 : P.underlying f1.type = some (.int .u64)) (h2 : P.underlying f2.type = some (.int .u32)) (h3 : P.underlying f3.type = some (.int .u32))
    (hv : Value.okWide P W .any b t v) (hj : DataW.Trod enc P W 0 (fun _ => true) true t v d p) :
    ∃ (k : Bool) (a r m : Int), v = .agg #[.bool k, .int .u64 a, .int .u32 r, .int .u32 m] ∧ EB a r m := by
  obtain ⟨c0, c1, c2, c3, y0, y1, y2, y3, n, rfl, _, _, hy0, hy1, hy2, hy3⟩ := open_agg4 hs hone hC hv hj
  obtain ⟨k, e0, _⟩ := DataW.trod_bool h0 hy0
  obtain ⟨x, e1, _, wx⟩ := DataW.trod_int h1 hy1
  obtain ⟨y, e2, _, wy⟩ := DataW.trod_int h2 hy2
  obtain ⟨z, e3, _, wz⟩ := DataW.trod_int h3 hy3
  simp only [List.cons.injEq, and_true] at e0 e1 e2 e3
  subst e0 e1 e2 e3
  exact ⟨k, x, y, z, rfl, eb_of_wf wx wy wz⟩

theorem open_ents' {H : Type} {enc : TypeId × Value → H} {P : Program} {t e : TypeId} {f0 f1 f2 : Field} {W : World} {v : Value} {d : DataW H} {p : List MemPlace} {b : Nat}
    (ht : P.underlying t = some (.slice e)) (hs : P.underlying e = some (.struct #[f0, f1, f2])) (hC : P.cellsOf e = 3)
    (h0 : P.underlying f0.type = some (.int .u64)) (h1 : P.underlying f1.type = some (.int .u32)) (h2 : P.underlying f2.type = some (.int .u32))
    (o0 : f0.offset = 0) (o1 : f1.offset = 1) (o2 : f2.offset = 2) (k0 : P.cellsOf f0.type = 1) (k1 : P.cellsOf f1.type = 1) (k2 : P.cellsOf f2.type = 1)
    (hv : Value.okWide P W .any b t v) (hj : DataW.Trod enc P W 0 (fun _ => true) true t v d p) :
    ∃ (A : Option Addr) (cap : Nat) (es : List E3), v = .slice A es.length cap ∧ es.length ≤ cap ∧ (cap : Int) ≤ 9223372036854775807 ∧ (A = none → cap = 0) ∧ IsEnts W A es.length es ∧ EBs es := by
  obtain ⟨a0, len, cap, rfl⟩ := okWide_slice ht hv
  obtain ⟨fuel, hf⟩ := hj
  rcases open_slice ht hf with ⟨hcs, hx⟩ | ⟨a, len', cap', m, n, D, Pl, hcs, _, hl, hm, hmm, _, hx⟩
  · simp only [Value.cells, List.cons.injEq, Value.slice.injEq, and_true] at hcs
    obtain ⟨rfl, rfl, rfl⟩ := hcs
    exact ⟨none, 0, [], rfl, Nat.le_refl _, by omega, fun _ => rfl, fun i hi => absurd hi (Nat.not_lt_zero _), fun e he => by cases he⟩
  · simp only [Value.cells, List.cons.injEq, Value.slice.injEq, and_true] at hcs
    obtain ⟨rfl, rfl, rfl⟩ := hcs
    simp only [if_true] at hmm
    unfold maxLen at hm
    have each : ∀ i, i < len → ∃ q : Int × Int × Int, EB q.1 q.2.1 q.2.2 ∧ W.cell? (a.add (i * 3)) = some (.int .u64 q.1) ∧ W.cell? (a.add (i * 3 + 1)) = some (.int .u32 q.2.1) ∧ W.cell? (a.add (i * 3 + 2)) = some (.int .u32 q.2.2) := by
      intro i hi
      obtain ⟨cs', h3, h4⟩ := hx i (by omega)
      rw [hC] at h3
      obtain ⟨_, hlen, hcell⟩ := World.cells?_some h3
      obtain ⟨xs, k, hk, hxy, _, hxl, hff⟩ := DataW.trod_struct hs h4
      match xs, hxl, cs', hlen with
      | [y0, y1, y2], _, [v0, v1, v2], _ =>
        have g0 := hff 0 f0 rfl
        have g1 := hff 1 f1 rfl
        have g2 := hff 2 f2 rfl
        simp [o0, o1, o2, k0, k1, k2] at g0 g1 g2
        have e0 := hcell 0 (by omega)
        have e1 := hcell 1 (by omega)
        have e2 := hcell 2 (by omega)
        obtain ⟨x, f0', _, wx⟩ := DataW.trod_int h0 g0
        obtain ⟨y, f1', _, wy⟩ := DataW.trod_int h1 g1
        obtain ⟨z, f2', _, wz⟩ := DataW.trod_int h2 g2
        simp only [List.cons.injEq, and_true] at f0' f1' f2'
        subst f0' f1' f2'
        exact ⟨(x, y, z), eb_of_wf wx wy wz, by simpa [add_add] using e0, by simpa [add_add] using e1, by simpa [add_add] using e2⟩
    obtain ⟨q, hq⟩ := choose_lt each
    have hL : ((List.range len).map fun i => (q i : E3)).length = len := by simp
    refine ⟨some a, cap, (List.range len).map fun i => (q i : E3), by rw [hL], by rw [hL]; exact hl, by omega, by simp, fun i hi => ?_, fun e he => ?_⟩
    · have hi' : i < len := by rw [hL] at hi; exact hi
      obtain ⟨hE, c0, c1, c2⟩ := hq i hi'
      obtain ⟨bb, off, spot⟩ := a
      have hspot : spot = none := by simpa [Addr.add] using World.cell?_spot (hq 0 (by omega)).2.1
      subst hspot
      rw [add_plain] at c0 c1 c2
      have hg : ((List.range len).map fun i => (q i : E3)).getD i e0 = q i := by simp [List.getD_eq_getElem?_getD, hi']
      rw [hg]
      exact ⟨bb, off, rfl, cell_lt c0, c0, by rw [Nat.add_assoc]; exact c1, by rw [Nat.add_assoc]; exact c2⟩
    · obtain ⟨i, hi, rfl⟩ := List.mem_map.1 he
      exact (hq i (List.mem_range.1 hi)).1
end Go.Proofs.Ytmlapjaccmoleaa
