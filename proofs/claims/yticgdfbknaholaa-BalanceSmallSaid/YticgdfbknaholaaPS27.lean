/-
  The state of Plan's loops: a scene in an own variable, a row of moves, the variable of the result.
-/
import Derived.Test.YticgdfbknaholaaPlanV27
import Derived.Test.YticgdfbknaholaaDo27
namespace Go.Proofs.Yticgdfbknaholaa
open Go.RowKit

def flatM (ms : List Mv) : List Value := ms.flatMap fun m => [.int .i64 m.1, .int .i64 m.2.1, .int .i64 m.2.2]
theorem flatM_app (a b : List Mv) : flatM (a ++ b) = flatM a ++ flatM b := by unfold flatM; rw [List.flatMap_append]
theorem flatM_len : ∀ a : List Mv, (flatM a).length = a.length * 3
  | [] => rfl
  | m :: a => by
    have : flatM (m :: a) = [.int .i64 m.1, .int .i64 m.2.1, .int .i64 m.2.2] ++ flatM a := rfl
    rw [this, List.length_append, flatM_len a, List.length_cons]
    simp
    omega
theorem oneCellsM (ms : List Mv) : ∀ u ∈ flatM ms, u.oneCell' = true := by
  intro u hu
  obtain ⟨e, _, h⟩ := List.mem_flatMap.1 hu
  simp only [List.mem_cons, List.not_mem_nil, or_false] at h
  rcases h with rfl | rfl | rfl <;> rfl
theorem rd_new (w : World) (xs : List Value) (t : TypeId) (sz n : Nat) (h : xs.length = n * sz) : Rd (w.alloc (.cells xs.toArray t)) sz (some ⟨w.heap.size, 0, none⟩) n xs := by
  refine ⟨h, fun j u hu => ⟨w.heap.size, 0, rfl, by simp, ?_⟩⟩
  rw [cell_of_row _ w.heap.size (0 + j) xs.toArray t (0, 0) (heap_alloc_new w _), Nat.zero_add]
  rw [← Array.getElem?_toList]
  exact hu
theorem mv_info : (Try.prog.info? 38).map (fun i => (i.zero, i.size, i.bytes)) = some (some (.agg #[.int .i64 0, .int .i64 0, .int .i64 0]), 3, 24) := by kernel_rfl
theorem IsTks.kx {w w' : World} {A : Option Addr} {n n1 n2 : Nat} {ts : List Tk} (h : IsTks w A n ts) (k : Kx n1 n2 0 0 w w') (hA : ∀ p, A = some p → p.block < n1 ∨ n2 ≤ p.block) : IsTks w' A n ts := fun i hi => by
  obtain ⟨b, off, e, T⟩ := h i hi
  exact ⟨b, off, e, T.kx k (hA _ e) (Or.inr (Nat.zero_le _))⟩
theorem isInts_kx {w w' : World} {k : IntKind} {A : Option Addr} {n n1 n2 : Nat} {zs : List Int} (h : IsInts w k A n zs) (g : Kx n1 n2 0 0 w w') (hA : ∀ p, A = some p → p.block < n1 ∨ n2 ≤ p.block) : IsInts w' k A n zs := fun i hi => by
  obtain ⟨b, off, e, hb, T⟩ := h i hi
  exact ⟨b, off, e, Nat.lt_of_lt_of_le hb g.size, (g.cell (p := ⟨b, off + i, none⟩) hb (hA ⟨b, off, none⟩ e) (Or.inr (Nat.zero_le _))).trans T⟩
theorem OwnSl.kx {w w' : World} {base n1 n2 : Nat} {t : TypeId} {A : Option Addr} {n c : Nat} (h : OwnSl w base t A n c) (k : Kx n1 n2 0 0 w w') (hA : ∀ p, A = some p → p.block < n1 ∨ n2 ≤ p.block) : OwnSl w' base t A n c :=
  ⟨h.le, h.max, h.nil, fun p hp => by
    obtain ⟨g, h1, h2, h3, h4, h5⟩ := h.at0 p hp
    subst h1
    exact ⟨g, rfl, h2, Nat.lt_of_lt_of_le h3 k.size, fun o => (k.frozen (p := ⟨g, o, none⟩) h3 (hA ⟨g, 0, none⟩ hp) (Or.inr (Nat.zero_le _))).trans (h4 o), h5.kx k (hA ⟨g, 0, none⟩ hp) (Or.inr (Nat.zero_le _))⟩⟩
theorem Fz.kx {w w' : World} {b n1 n2 : Nat} (h : Fz w b) (k : Kx n1 n2 0 0 w w') (hb : b < n1 ∨ n2 ≤ b) : Fz w' b :=
  ⟨Nat.lt_of_lt_of_le h.1 k.size, fun o => (k.frozen (p := ⟨b, o, none⟩) h.1 hb (Or.inr (Nat.zero_le _))).trans (h.2 o)⟩
/-- The state. -/
structure PS (W : World) (bS bR : Nat) (w : World) (v : Value) (s : Sc) (out : List Mv) : Prop where
  sc : ∃ A ca B cb, C3 w bS (.int .i64 s.n) (.slice A s.ts.length ca) (.slice B s.cur.length cb) ∧ ScAt w A s.ts.length B s.cur.length s ∧ OwnSl w W.heap.size 43 A s.ts.length ca ∧ OwnSl w W.heap.size 3 B s.cur.length cb ∧ (∀ p p', A = some p → B = some p' → p.block ≠ p'.block)
  fs : Fz w bS
  ty : Ty w bS 30
  r : C3 w bR (.int .i64 0) (.slice none 0 0) (.slice none 0 0)
  fr : Fz w bR
  tr : Ty w bR 30
  row : w.ownsRow W.heap.size 38 3 v out.length (flatM out)
  kp : Kp W.heap.size W w
  fit : s.fit
section
variable {W w w' : World} {bS bR : Nat} {v v' : Value} {s : Sc} {out : List Mv}
theorem PS.kps (h : PS W bS bR w v s out) (k : Kp w.heap.size w w') : PS W bS bR w' v s out := by
  obtain ⟨A, ca, B, cb, h1, h2, h3, h4, h5⟩ := h.sc
  exact ⟨⟨A, ca, B, cb, h1.kp k, h2.kp k, h3.kp k, h4.kp k, h5⟩, h.fs.kp k, h.ty.kp k, h.r.kp k, h.fr.kp k, h.tr.kp k, own_kp h.row k, h.kp.trans (k.mono h.kp.size), h.fit⟩
/-- The row's own block is of moves alone. -/
theorem own_ty {t : TypeId} {b n : Nat} {xs : List Value} (h : w.ownsRow W.heap.size 38 3 v n xs) (hb : Ty w b t) (ht : t ≠ 38) : v.ownBlock ≠ some b := by
  rcases h.2 with ⟨rfl, _⟩ | ⟨g, cap, cur, rfl, _, hh, _⟩
  · simp [Value.ownBlock]
  · intro e
    have e1 : g = b := by simpa [Value.ownBlock] using e
    subst e1
    obtain ⟨c, fr, hb⟩ := hb
    rw [hh] at hb
    cases hb
    exact ht rfl
theorem own_kx {n : Nat} {xs : List Value} (h : w.ownsRow W.heap.size 38 3 v n xs) (g : w.grownBy w' v.ownBlock) :
    ∃ n1 n2, Kx n1 n2 0 0 w w' ∧ W.heap.size ≤ n1 ∧ ∀ b, v.ownBlock ≠ some b → b < n1 ∨ n2 ≤ b := by
  cases hv : v.ownBlock with
  | none =>
    rw [hv] at g
    refine ⟨W.heap.size, W.heap.size, ⟨g.os, g.output, g.size, fun k hk _ _ => g.block k hk (by simp)⟩, Nat.le_refl _, fun b _ => by omega⟩
  | some q =>
    have hq : W.heap.size ≤ q := (h.lt q hv).1
    rw [hv] at g
    refine ⟨q, q + 1, ⟨g.os, g.output, g.size, fun k hk hne _ => g.block k hk (fun e => by cases e; omega)⟩, hq, fun b hb => ?_⟩
    have : b ≠ q := fun e => hb (by rw [e])
    omega
/-- A move is appended. -/
theorem PS.grown {m : Mv} (h : PS W bS bR w v s out) (g : w.grownBy w' v.ownBlock) (hrow : w'.ownsRow W.heap.size 38 3 v' (out.length + 1) (flatM out ++ flatM [m])) : PS W bS bR w' v' s (out ++ [m]) := by
  obtain ⟨A, ca, B, cb, h1, h2, h3, h4, h5⟩ := h.sc
  obtain ⟨n1, n2, k, hn, hb⟩ := own_kx h.row g
  have cS := hb bS (own_ty h.row h.ty (by decide))
  have cR := hb bR (own_ty h.row h.tr (by decide))
  have cA : ∀ p, A = some p → p.block < n1 ∨ n2 ≤ p.block := fun p hp => by
    obtain ⟨q, rfl, _, _, _, hty⟩ := h3.at0 p hp
    exact hb q (own_ty h.row hty (by decide))
  have cB : ∀ p, B = some p → p.block < n1 ∨ n2 ≤ p.block := fun p hp => by
    obtain ⟨q, rfl, _, _, _, hty⟩ := h4.at0 p hp
    exact hb q (own_ty h.row hty (by decide))
  have z := Or.inr (a := bS < 0) (Nat.zero_le bS)
  have z2 := Or.inr (a := bR < 0) (Nat.zero_le bR)
  refine ⟨⟨A, ca, B, cb, h1.kx k cS z, ⟨h2.hla, h2.hlb, h2.ts.kx k cA, isInts_kx h2.cur k cB, h2.ok, h2.lam, h2.lbm⟩, h3.kx k cA, h4.kx k cB, h5⟩, h.fs.kx k cS, h.ty.kx k cS z, h.r.kx k cR z2, h.fr.kx k cR, h.tr.kx k cR z2, ?_, h.kp.trans (k.kp h.kp.size (Or.inr hn) (Or.inl (Nat.le_refl _))), h.fit⟩
  rw [List.length_append, flatM_app]
  exact hrow
/-- Another scene is stored. -/
theorem ps_put {s' : Sc} {x y z : Value} {A B : Option Addr} {ca cb : Nat} (h1 : C3 w bS x y z) (hfs : Fz w bS) (hty : Ty w bS 30) (hr : C3 w bR (.int .i64 0) (.slice none 0 0) (.slice none 0 0)) (hfr : Fz w bR) (htr : Ty w bR 30) (hrow : w.ownsRow W.heap.size 38 3 v out.length (flatM out)) (hkp : Kp W.heap.size W w) (hd : bS ≠ bR) (hw : W.heap.size ≤ bS) (hsc : ScAt w A s'.ts.length B s'.cur.length s') (ha : OwnSl w W.heap.size 43 A s'.ts.length ca) (hb : OwnSl w W.heap.size 3 B s'.cur.length cb) (hdis : ∀ p p', A = some p → B = some p' → p.block ≠ p'.block)
    (hA : ∀ p, A = some p → p.block ≠ bS) (hB : ∀ p, B = some p → p.block ≠ bS) (hf : s'.fit) :
    PS W bS bR (((w.setCell ⟨bS, 0, none⟩ (.int .i64 s'.n)).setCell ⟨bS, 1, none⟩ (.slice A s'.ts.length ca)).setCell ⟨bS, 2, none⟩ (.slice B s'.cur.length cb)) v s' out := by
  have k : Kx bS (bS + 1) 0 0 w (((w.setCell ⟨bS, 0, none⟩ (.int .i64 s'.n)).setCell ⟨bS, 1, none⟩ (.slice A s'.ts.length ca)).setCell ⟨bS, 2, none⟩ (.slice B s'.cur.length cb)) :=
    (((Kx.refl _ _ _ _ w).setIn (p := ⟨bS, 0, none⟩) (Nat.le_refl _) (Nat.lt_succ_self _) _).setIn (p := ⟨bS, 1, none⟩) (Nat.le_refl _) (Nat.lt_succ_self _) _).setIn (p := ⟨bS, 2, none⟩) (Nat.le_refl _) (Nat.lt_succ_self _) _
  have cR : bR < bS ∨ bS + 1 ≤ bR := by omega
  have cA : ∀ p, A = some p → p.block < bS ∨ bS + 1 ≤ p.block := fun p hp => by have := hA p hp; omega
  have cB : ∀ p, B = some p → p.block < bS ∨ bS + 1 ≤ p.block := fun p hp => by have := hB p hp; omega
  have z2 := Or.inr (a := bR < 0) (Nat.zero_le bR)
  refine ⟨⟨A, ca, B, cb, h1.set _ _ _, ⟨rfl, rfl, hsc.ts.kx k cA, isInts_kx hsc.cur k cB, hsc.ok, hsc.lam, hsc.lbm⟩, ha.kx k cA, hb.kx k cB, hdis⟩, ((hfs.set _ _).set _ _).set _ _, ((hty.set _ _).set _ _).set _ _, hr.kx k cR z2, hfr.kx k cR, htr.kx k cR z2, ?_, hkp.trans (k.kp hkp.size (Or.inr hw) (Or.inl (Nat.le_refl _))), hf⟩
  have hne := own_ty hrow hty (by decide)
  refine ⟨hrow.1, ?_⟩
  rcases hrow.2 with h2 | ⟨q, cap, cur, rfl, hq, hh, r1, r2, r3, r4⟩
  · exact Or.inl h2
  · have hqb : q ≠ bS := fun e => hne (by simp [Value.ownBlock, e])
    exact Or.inr ⟨q, cap, cur, rfl, hq, (k.block q (by
      rcases Nat.lt_or_ge q w.heap.size with h9 | h9
      · exact h9
      · rw [Array.getElem?_eq_none h9] at hh; cases hh) (by omega) (Or.inr (Nat.zero_le _))).trans hh, r1, r2, r3, r4⟩
theorem PS.store {s' : Sc} {A B : Option Addr} {ca cb : Nat} (h : PS W bS bR w v s out) (hd : bS ≠ bR) (hw : W.heap.size ≤ bS) (hsc : ScAt w A s'.ts.length B s'.cur.length s') (ha : OwnSl w W.heap.size 43 A s'.ts.length ca) (hb : OwnSl w W.heap.size 3 B s'.cur.length cb) (hdis : ∀ p p', A = some p → B = some p' → p.block ≠ p'.block)
    (hA : ∀ p, A = some p → p.block ≠ bS) (hB : ∀ p, B = some p → p.block ≠ bS) (hf : s'.fit) :
    PS W bS bR (((w.setCell ⟨bS, 0, none⟩ (.int .i64 s'.n)).setCell ⟨bS, 1, none⟩ (.slice A s'.ts.length ca)).setCell ⟨bS, 2, none⟩ (.slice B s'.cur.length cb)) v s' out := by
  obtain ⟨A0, ca0, B0, cb0, h1, _⟩ := h.sc
  exact ps_put h1 h.fs h.ty h.r h.fr h.tr h.row h.kp hd hw hsc ha hb hdis hA hB hf
end
end Go.Proofs.Yticgdfbknaholaa
