/-
  The seat's start: arguments opened (the numbers of a scene; a scene; a move); a world for the witnesses.
-/
import Derived.Test.YticgdfbknaholaaRows
import Derived.Test.YticgdfbknaholaaGround27
import Derived.Test.YticgdfbknaholaaSmall27
import Derived.Lib.SmallJoins
import Derived.Deep.Slices
namespace Go.Proofs.Yticgdfbknaholaa
open Go.RowKit Go.ChangeShapes Go.WideShapes Go.Joins Go.Deep

theorem own : ownKnob Try.prog.godebug = none := by kernel_rfl
theorem laidOut : laidOutB Try.prog = true := by kernel_rfl
theorem cells25 : Try.prog.cellsOf 25 = 3 := by kernel_rfl
theorem cells30 : Try.prog.cellsOf 30 = 3 := by kernel_rfl
theorem cells38 : Try.prog.cellsOf 38 = 3 := by kernel_rfl
theorem cells69 : Try.prog.cellsOf 69 = 5 := by kernel_rfl
theorem cells43 : Try.prog.cellsOf 43 = 8 := by kernel_rfl
theorem cells3 : Try.prog.cellsOf 3 = 1 := by kernel_rfl
theorem cells4 : Try.prog.cellsOf 4 = 1 := by kernel_rfl
theorem cells5 : Try.prog.cellsOf 5 = 1 := by kernel_rfl
theorem cells40 : Try.prog.cellsOf 40 = 1 := by kernel_rfl
theorem cells41 : Try.prog.cellsOf 41 = 1 := by kernel_rfl
theorem cells47 : Try.prog.cellsOf 47 = 1 := by kernel_rfl

noncomputable def laidWorld (os : Os) : World := World.holding Try.prog os ⟨#[], #[], []⟩

theorem laid_nil (P : Program) (w : World) : laidMetH P [] w := ⟨[], by simp [DataW.LaidVars], List.nodup_nil, fun _ _ h => by cases h⟩

instance : Inhabited Xt := ⟨x0⟩
instance : Inhabited Tk := ⟨t0⟩
theorem open_ints_cs {H : Type} {enc : TypeId × Value → H} {P : Program} {W : World} {t e : TypeId} {k : IntKind} {v : Value} {y : DataW H × List MemPlace} {fuel : Nat}
    (ht : P.underlying t = some (.slice e)) (he : P.underlying e = some (.int k)) (hc : P.cellsOf e = 1) (hf : DataW.trod enc P W 0 (fun _ => true) true fuel t [v] = some y) :
    ∃ (a : Option Addr) (len cap : Nat) (zs : List Int), v = .slice a len cap ∧ zs.length = len ∧ len ≤ cap ∧ (cap : Int) ≤ 9223372036854775807 ∧ (a = none → cap = 0) ∧ IsInts W k a len zs ∧ (∀ n ∈ zs, (Lit.int k n).wf = true) := by
  rcases open_ints ht he hc hf with ⟨hcs, hx⟩ | ⟨a, len, cap, zs, hcs, _, hl, hm, hz, hx, hcell, hwz⟩
  · simp only [List.cons.injEq, and_true] at hcs
    subst hcs
    exact ⟨none, 0, 0, [], rfl, rfl, Nat.le_refl _, by omega, fun _ => rfl, fun i hi => by omega, fun n hn => by cases hn⟩
  · simp only [List.cons.injEq, and_true] at hcs
    subst hcs
    simp only [if_true] at hz
    unfold maxLen at hm
    refine ⟨some a, len, cap, zs.take len, rfl, by simp; omega, hl, by omega, (fun h => by cases h), fun i hi => ?_, fun n hn => hwz n (List.mem_of_mem_take hn)⟩
    obtain ⟨bb, off, rfl, hcc⟩ := ints_at hcell (by omega)
    have h1 := hcc i (by omega)
    refine ⟨bb, off, rfl, cell_lt h1, ?_⟩
    rw [h1]
    simp [List.getD_eq_getElem?_getD, hi]
/-- A list of tasks in numbers, opened. -/
theorem open_xs {H : Type} {enc : TypeId × Value → H} {P : Program} {t e : TypeId} {f0 f1 f2 f3 f4 : Field} {W : World} {v : Value} {y : DataW H × List MemPlace} {fuel : Nat}
    (ht : P.underlying t = some (.slice e)) (hs : P.underlying e = some (.struct #[f0, f1, f2, f3, f4])) (hC : P.cellsOf e = 5)
    (h0 : P.underlying f0.type = some (.int .u8)) (h1 : P.underlying f1.type = some (.int .u8)) (h2 : P.underlying f2.type = some (.int .u8)) (h3 : P.underlying f3.type = some (.int .u16)) (h4 : P.underlying f4.type = some (.int .u64))
    (o0 : f0.offset = 0) (o1 : f1.offset = 1) (o2 : f2.offset = 2) (o3 : f3.offset = 3) (o4 : f4.offset = 4)
    (k0 : P.cellsOf f0.type = 1) (k1 : P.cellsOf f1.type = 1) (k2 : P.cellsOf f2.type = 1) (k3 : P.cellsOf f3.type = 1) (k4 : P.cellsOf f4.type = 1)
    (hf : DataW.trod enc P W 0 (fun _ => true) true fuel t [v] = some y) :
    ∃ (A : Option Addr) (cap : Nat) (es : List Xt), v = .slice A es.length cap ∧ es.length ≤ cap ∧ (cap : Int) ≤ 9223372036854775807 ∧ (A = none → cap = 0) ∧ IsXs W A es.length es ∧ (∀ t ∈ es, t.ok) := by
  rcases open_slice ht hf with ⟨hcs, hx⟩ | ⟨a, len, cap, m, n, D, Pl, hcs, _, hl, hm, hmm, _, hx⟩
  · simp only [List.cons.injEq, and_true] at hcs
    subst hcs
    exact ⟨none, 0, [], rfl, Nat.le_refl _, by omega, fun _ => rfl, fun i hi => absurd hi (Nat.not_lt_zero _), fun e he => by cases he⟩
  · simp only [List.cons.injEq, and_true] at hcs
    subst hcs
    simp only [if_true] at hmm
    unfold maxLen at hm
    have each : ∀ i, i < len → ∃ q : Xt, q.ok ∧ W.cell? (a.add (i * 5)) = some (.int .u8 q.gap) ∧ W.cell? (a.add (i * 5 + 1)) = some (.int .u8 q.cpu) ∧ W.cell? (a.add (i * 5 + 2)) = some (.int .u8 q.fl) ∧ W.cell? (a.add (i * 5 + 3)) = some (.int .u16 q.wt) ∧ W.cell? (a.add (i * 5 + 4)) = some (.int .u64 q.mask) := by
      intro i hi
      obtain ⟨cs', h3', h4'⟩ := hx i (by omega)
      rw [hC] at h3'
      obtain ⟨_, hlen, hcell⟩ := World.cells?_some h3'
      obtain ⟨xs, k, hk, hxy, _, hxl, hff⟩ := DataW.trod_struct hs h4'
      match xs, hxl, cs', hlen with
      | [y0, y1, y2, y3, y4], _, [v0, v1, v2, v3, v4], _ =>
        have g0 := hff 0 f0 rfl
        have g1 := hff 1 f1 rfl
        have g2 := hff 2 f2 rfl
        have g3 := hff 3 f3 rfl
        have g4 := hff 4 f4 rfl
        simp [o0, k0, o1, k1, o2, k2, o3, k3, o4, k4] at g0 g1 g2 g3 g4
        have e0 := hcell 0 (by omega)
        have e1 := hcell 1 (by omega)
        have e2 := hcell 2 (by omega)
        have e3 := hcell 3 (by omega)
        have e4 := hcell 4 (by omega)
        obtain ⟨x0, c0, _, w0⟩ := DataW.trod_int h0 g0
        obtain ⟨x1, c1, _, w1⟩ := DataW.trod_int h1 g1
        obtain ⟨x2, c2, _, w2⟩ := DataW.trod_int h2 g2
        obtain ⟨x3, c3, _, w3⟩ := DataW.trod_int h3 g3
        obtain ⟨x4, c4, _, w4⟩ := DataW.trod_int h4 g4
        simp only [List.cons.injEq, and_true] at c0 c1 c2 c3 c4
        subst c0 c1 c2 c3 c4
        have b0 := bounds_u8 w0
        have b1 := bounds_u8 w1
        have b2 := bounds_u8 w2
        have b3 := bounds_u16 w3
        have b4 := bounds_u64 w4
        exact ⟨⟨x0, x1, x2, x3, x4⟩, ⟨by dsimp only; omega, by dsimp only; omega, by dsimp only; omega, by dsimp only; omega, by dsimp only; omega, by dsimp only; omega, by dsimp only; omega, by dsimp only; omega, by dsimp only; omega, by dsimp only; omega⟩, by simpa [add_add] using e0, by simpa [add_add] using e1, by simpa [add_add] using e2, by simpa [add_add] using e3, by simpa [add_add] using e4⟩
    obtain ⟨q, hq⟩ := choose_lt each
    have hL : ((List.range len).map fun i => q i).length = len := by simp
    refine ⟨some a, cap, (List.range len).map fun i => q i, by rw [hL], by rw [hL]; exact hl, by omega, by simp, fun i hi => ?_, fun e he => ?_⟩
    · have hi' : i < len := by rw [hL] at hi; exact hi
      obtain ⟨_, c0, c1, c2, c3, c4⟩ := hq i hi'
      obtain ⟨bb, off, spot⟩ := a
      have hspot : spot = none := by simpa [Addr.add] using World.cell?_spot (hq 0 (by omega)).2.1
      subst hspot
      have hg : ((List.range len).map fun i => q i).getD i x0 = q i := by simp [List.getD_eq_getElem?_getD, hi']
      have e : ∀ k, (⟨bb, off, none⟩ : Addr).add k = ⟨bb, off + k, none⟩ := fun k => by unfold Addr.add; split <;> simp_all
      simp only [e, ← Nat.add_assoc] at c0 c1 c2 c3 c4
      refine ⟨bb, off, rfl, ?_⟩
      rw [hg]
      exact ⟨c0, c1, c2, c3, c4, cell_lt c0⟩
    · obtain ⟨i, hi, rfl⟩ := List.mem_map.1 he
      exact (hq i (List.mem_range.1 hi)).1
/-- A list of tasks, opened. -/
theorem open_tks {H : Type} {enc : TypeId × Value → H} {P : Program} {t e : TypeId} {f0 f1 f2 f3 f4 f5 f6 f7 : Field} {W : World} {v : Value} {y : DataW H × List MemPlace} {fuel : Nat}
    (ht : P.underlying t = some (.slice e)) (hs : P.underlying e = some (.struct #[f0, f1, f2, f3, f4, f5, f6, f7])) (hC : P.cellsOf e = 8)
    (h0 : P.underlying f0.type = some (.int .i64)) (h1 : P.underlying f1.type = some (.int .i64)) (h2 : P.underlying f2.type = some (.int .i64)) (h3 : P.underlying f3.type = some (.int .i64)) (h4 : P.underlying f4.type = some (.int .u64)) (h5 : P.underlying f5.type = some .bool) (h6 : P.underlying f6.type = some (.int .u64)) (h7 : P.underlying f7.type = some (.int .u32))
    (o0 : f0.offset = 0) (o1 : f1.offset = 1) (o2 : f2.offset = 2) (o3 : f3.offset = 3) (o4 : f4.offset = 4) (o5 : f5.offset = 5) (o6 : f6.offset = 6) (o7 : f7.offset = 7)
    (k0 : P.cellsOf f0.type = 1) (k1 : P.cellsOf f1.type = 1) (k2 : P.cellsOf f2.type = 1) (k3 : P.cellsOf f3.type = 1) (k4 : P.cellsOf f4.type = 1) (k5 : P.cellsOf f5.type = 1) (k6 : P.cellsOf f6.type = 1) (k7 : P.cellsOf f7.type = 1)
    (hf : DataW.trod enc P W 0 (fun _ => true) true fuel t [v] = some y) :
    ∃ (A : Option Addr) (cap : Nat) (es : List Tk), v = .slice A es.length cap ∧ es.length ≤ cap ∧ (cap : Int) ≤ 9223372036854775807 ∧ (A = none → cap = 0) ∧ IsTks W A es.length es ∧ (∀ t ∈ es, t.ok) := by
  rcases open_slice ht hf with ⟨hcs, hx⟩ | ⟨a, len, cap, m, n, D, Pl, hcs, _, hl, hm, hmm, _, hx⟩
  · simp only [List.cons.injEq, and_true] at hcs
    subst hcs
    exact ⟨none, 0, [], rfl, Nat.le_refl _, by omega, fun _ => rfl, fun i hi => absurd hi (Nat.not_lt_zero _), fun e he => by cases he⟩
  · simp only [List.cons.injEq, and_true] at hcs
    subst hcs
    simp only [if_true] at hmm
    unfold maxLen at hm
    have each : ∀ i, i < len → ∃ q : Tk, q.ok ∧ W.cell? (a.add (i * 8)) = some (.int .i64 q.id) ∧ W.cell? (a.add (i * 8 + 1)) = some (.int .i64 q.grp) ∧ W.cell? (a.add (i * 8 + 2)) = some (.int .i64 q.wt) ∧ W.cell? (a.add (i * 8 + 3)) = some (.int .i64 q.cpu) ∧ W.cell? (a.add (i * 8 + 4)) = some (.int .u64 q.mask) ∧ W.cell? (a.add (i * 8 + 5)) = some (.bool q.rdy) ∧ W.cell? (a.add (i * 8 + 6)) = some (.int .u64 q.v) ∧ W.cell? (a.add (i * 8 + 7)) = some (.int .u32 q.r) := by
      intro i hi
      obtain ⟨cs', h3', h4'⟩ := hx i (by omega)
      rw [hC] at h3'
      obtain ⟨_, hlen, hcell⟩ := World.cells?_some h3'
      obtain ⟨xs, k, hk, hxy, _, hxl, hff⟩ := DataW.trod_struct hs h4'
      match xs, hxl, cs', hlen with
      | [y0, y1, y2, y3, y4, y5, y6, y7], _, [v0, v1, v2, v3, v4, v5, v6, v7], _ =>
        have g0 := hff 0 f0 rfl
        have g1 := hff 1 f1 rfl
        have g2 := hff 2 f2 rfl
        have g3 := hff 3 f3 rfl
        have g4 := hff 4 f4 rfl
        have g5 := hff 5 f5 rfl
        have g6 := hff 6 f6 rfl
        have g7 := hff 7 f7 rfl
        simp [o0, k0, o1, k1, o2, k2, o3, k3, o4, k4, o5, k5, o6, k6, o7, k7] at g0 g1 g2 g3 g4 g5 g6 g7
        have e0 := hcell 0 (by omega)
        have e1 := hcell 1 (by omega)
        have e2 := hcell 2 (by omega)
        have e3 := hcell 3 (by omega)
        have e4 := hcell 4 (by omega)
        have e5 := hcell 5 (by omega)
        have e6 := hcell 6 (by omega)
        have e7 := hcell 7 (by omega)
        obtain ⟨x0, c0, _, w0⟩ := DataW.trod_int h0 g0
        obtain ⟨x1, c1, _, w1⟩ := DataW.trod_int h1 g1
        obtain ⟨x2, c2, _, w2⟩ := DataW.trod_int h2 g2
        obtain ⟨x3, c3, _, w3⟩ := DataW.trod_int h3 g3
        obtain ⟨x4, c4, _, w4⟩ := DataW.trod_int h4 g4
        obtain ⟨x5, c5, _⟩ := DataW.trod_bool h5 g5
        obtain ⟨x6, c6, _, w6⟩ := DataW.trod_int h6 g6
        obtain ⟨x7, c7, _, w7⟩ := DataW.trod_int h7 g7
        simp only [List.cons.injEq, and_true] at c0 c1 c2 c3 c4 c5 c6 c7
        subst c0 c1 c2 c3 c4 c5 c6 c7
        have b0 := bounds_i64 w0
        have b1 := bounds_i64 w1
        have b2 := bounds_i64 w2
        have b3 := bounds_i64 w3
        have b4 := bounds_u64 w4
        have b6 := bounds_u64 w6
        have b7 := bounds_u32 w7
        exact ⟨⟨x0, x1, x2, x3, x4, x5, x6, x7⟩, ⟨by dsimp only; omega, by dsimp only; omega, by dsimp only; omega, by dsimp only; omega, by dsimp only; omega, by dsimp only; omega, by dsimp only; omega, by dsimp only; omega⟩, by simpa [add_add] using e0, by simpa [add_add] using e1, by simpa [add_add] using e2, by simpa [add_add] using e3, by simpa [add_add] using e4, by simpa [add_add] using e5, by simpa [add_add] using e6, by simpa [add_add] using e7⟩
    obtain ⟨q, hq⟩ := choose_lt each
    have hL : ((List.range len).map fun i => q i).length = len := by simp
    refine ⟨some a, cap, (List.range len).map fun i => q i, by rw [hL], by rw [hL]; exact hl, by omega, by simp, fun i hi => ?_, fun e he => ?_⟩
    · have hi' : i < len := by rw [hL] at hi; exact hi
      obtain ⟨_, c0, c1, c2, c3, c4, c5, c6, c7⟩ := hq i hi'
      obtain ⟨bb, off, spot⟩ := a
      have hspot : spot = none := by simpa [Addr.add] using World.cell?_spot (hq 0 (by omega)).2.1
      subst hspot
      have hg : ((List.range len).map fun i => q i).getD i t0 = q i := by simp [List.getD_eq_getElem?_getD, hi']
      have e : ∀ k, (⟨bb, off, none⟩ : Addr).add k = ⟨bb, off + k, none⟩ := fun k => by unfold Addr.add; split <;> simp_all
      simp only [e, ← Nat.add_assoc] at c0 c1 c2 c3 c4 c5 c6 c7
      refine ⟨bb, off, rfl, ?_⟩
      rw [hg]
      exact ⟨c0, c1, c2, c3, c4, c5, c6, c7, cell_lt c0⟩
    · obtain ⟨i, hi, rfl⟩ := List.mem_map.1 he
      exact (hq i (List.mem_range.1 hi)).1
set_option maxRecDepth 100000 in
/-- The numbers of a scene, opened. -/
theorem open_sm' {H : Type} {enc : TypeId × Value → H} {W : World} {v : Value} {d : DataW H} {p : List MemPlace} {b : Nat}
    (hv : Value.okWide Try.prog W .any b 25 v) (hj : DataW.Trod enc Try.prog W 0 (fun _ => true) true 25 v d p) :
    ∃ (a : Int) (A : Option Addr) (la ca : Nat) (B : Option Addr) (lb cb : Nat) (xs : List Xt) (zs : List Int), v = .agg #[.int .u8 a, .slice A la ca, .slice B lb cb] ∧ SmAt W A la ca B lb cb a xs zs := by
  obtain ⟨c0, c1, c2, y0, y1, y2, n, rfl, _, _, hy0, hy1, hy2⟩ := open_agg3 Try.underlying25 (by kernel_rfl) cells25 hv hj
  obtain ⟨x, e0, _, wx⟩ := DataW.trod_int Try.underlying5 hy0
  obtain ⟨A, ca, xs, rfl, ha1, ha2, _, ha4, ha5⟩ := open_xs Try.underlying22 Try.underlying69 cells69 Try.underlying5 Try.underlying5 Try.underlying5 Try.underlying47 Try.underlying40 rfl rfl rfl rfl rfl cells5 cells5 cells5 cells47 cells40 hy1
  obtain ⟨B, lb, cb, zs, rfl, hb1, hb2, hb3, _, hb5, hb6⟩ := open_ints_cs Try.underlying23 Try.underlying5 cells5 hy2
  simp only [List.cons.injEq, and_true] at e0
  subst e0
  have bx := bounds_u8 wx
  exact ⟨x, A, xs.length, ca, B, lb, cb, xs, zs, rfl, by omega, by omega, rfl, hb1, ha1, hb2, ha2, hb3, ha4, hb5, ha5, fun z hz => by have := bounds_u8 (hb6 z hz); omega⟩
set_option maxRecDepth 100000 in
/-- A scene, opened. -/
theorem open_sc' {H : Type} {enc : TypeId × Value → H} {W : World} {v : Value} {d : DataW H} {p : List MemPlace} {b : Nat}
    (hv : Value.okWide Try.prog W .any b 30 v) (hj : DataW.Trod enc Try.prog W 0 (fun _ => true) true 30 v d p) :
    ∃ (s : Sc) (A : Option Addr) (ca : Nat) (B : Option Addr) (cb : Nat), v = .agg #[.int .i64 s.n, .slice A s.ts.length ca, .slice B s.cur.length cb] ∧ -9223372036854775808 ≤ s.n ∧ s.n ≤ 9223372036854775807 ∧ IsTks W A s.ts.length s.ts ∧ IsInts W .i64 B s.cur.length s.cur ∧ (∀ t ∈ s.ts, t.ok) ∧ s.ts.length ≤ ca ∧ (ca : Int) ≤ 9223372036854775807 ∧ s.cur.length ≤ cb ∧ (cb : Int) ≤ 9223372036854775807 ∧ (A = none → ca = 0) ∧ (B = none → cb = 0) ∧ (∀ z ∈ s.cur, -9223372036854775808 ≤ z ∧ z ≤ 9223372036854775807) := by
  obtain ⟨c0, c1, c2, y0, y1, y2, n, rfl, _, _, hy0, hy1, hy2⟩ := open_agg3 Try.underlying30 (by kernel_rfl) cells30 hv hj
  obtain ⟨x, e0, _, wx⟩ := DataW.trod_int Try.underlying3 hy0
  obtain ⟨A, ca, ts, rfl, ha1, ha2, ha3, ha4, ha5⟩ := open_tks Try.underlying27 Try.underlying43 cells43 Try.underlying3 Try.underlying3 Try.underlying3 Try.underlying3 Try.underlying40 Try.underlying4 Try.underlying40 Try.underlying41 rfl rfl rfl rfl rfl rfl rfl rfl cells3 cells3 cells3 cells3 cells40 cells4 cells40 cells41 hy1
  obtain ⟨B, lb, cb, zs, rfl, hb1, hb2, hb3, hb4, hb5, hb6⟩ := open_ints_cs Try.underlying28 Try.underlying3 cells3 hy2
  simp only [List.cons.injEq, and_true] at e0
  subst e0 hb1
  have bx := bounds_i64 wx
  exact ⟨⟨x, ts, zs⟩, A, ca, B, cb, rfl, by dsimp only; omega, by dsimp only; omega, ha4, hb5, ha5, ha1, ha2, hb2, hb3, ha3, hb4, fun z hz => by have := bounds_i64 (hb6 z hz); omega⟩
end Go.Proofs.Yticgdfbknaholaa
