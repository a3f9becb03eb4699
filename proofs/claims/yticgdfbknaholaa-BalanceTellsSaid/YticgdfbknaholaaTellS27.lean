/-
  The state of tells' last loops.
-/
import Derived.Test.YticgdfbknaholaaTellV27
namespace Go.Proofs.Yticgdfbknaholaa
open Go.RowKit

theorem sameSc_self (W : World) {A B A' B' : Option Addr} {la ca lb cb la' ca' lb' cb' : Nat} {s : Sc} (h : ScAt W A la B lb s) (h' : ScAt W A' la' B' lb' s) :
    Calls Try.prog 49 #[.agg #[.int .i64 s.n, .slice A la ca, .slice B lb cb], .agg #[.int .i64 s.n, .slice A' la' ca', .slice B' lb' cb']] W fun e w' => e = .returned (.bool true) ∧ Kp W.heap.size W w' := by
  have := sameSc_any (ca := ca) (cb := cb) (ca' := ca') (cb' := cb') W h h' h.lam h'.lam h.lbm h'.lbm
  rw [sameS_self] at this
  exact this
theorem sameI_self (W : World) {A B : Option Addr} {n c d : Nat} {zs : List Int} (hn : zs.length = n) (hmax : n ≤ 3000000000000000000) (ha : IsInts W .i64 A n zs) (hb : IsInts W .i64 B n zs) :
    Calls Try.prog 29 #[.slice A n c, .slice B n d] W fun e w' => e = .returned (.bool true) ∧ Kp W.heap.size W w' := by
  have := same_any (c := c) (d := d) W hn hn hmax hmax ha hb
  rw [decide_eq_true rfl] at this
  exact this
/-- A list of moves in memory. -/
def IsMvs (w : World) (A : Option Addr) (n : Nat) (ms : List Mv) : Prop :=
  ∀ i, i < n → ∃ b off, A = some ⟨b, off, none⟩ ∧ b < w.heap.size ∧ w.cell? ⟨b, off + i * 3, none⟩ = some (.int .i64 (ms.getD i (0, 0, 0)).1) ∧ w.cell? ⟨b, off + i * 3 + 1, none⟩ = some (.int .i64 (ms.getD i (0, 0, 0)).2.1) ∧ w.cell? ⟨b, off + i * 3 + 2, none⟩ = some (.int .i64 (ms.getD i (0, 0, 0)).2.2)
theorem IsMvs.kp {w w' : World} {A : Option Addr} {n : Nat} {ms : List Mv} (h : IsMvs w A n ms) (k : Kp w.heap.size w w') : IsMvs w' A n ms := fun i hi => by
  obtain ⟨b, off, e, hb, c0, c1, c2⟩ := h i hi
  exact ⟨b, off, e, Nat.lt_of_lt_of_le hb k.size, (k.cell (p := ⟨b, _, none⟩) hb).trans c0, (k.cell (p := ⟨b, _, none⟩) hb).trans c1, (k.cell (p := ⟨b, _, none⟩) hb).trans c2⟩
theorem flatM_get : ∀ (ms : List Mv) (i : Nat), i < ms.length → (flatM ms)[i * 3]? = some (.int .i64 (ms.getD i (0, 0, 0)).1) ∧ (flatM ms)[i * 3 + 1]? = some (.int .i64 (ms.getD i (0, 0, 0)).2.1) ∧ (flatM ms)[i * 3 + 2]? = some (.int .i64 (ms.getD i (0, 0, 0)).2.2)
  | [], i, h => absurd h (Nat.not_lt_zero i)
  | m :: ms, 0, _ => ⟨rfl, rfl, rfl⟩
  | m :: ms, i + 1, h => by
    have e : flatM (m :: ms) = .int .i64 m.1 :: .int .i64 m.2.1 :: .int .i64 m.2.2 :: flatM ms := rfl
    have ih := flatM_get ms i (by simpa using h)
    rw [e, show (i + 1) * 3 = i * 3 + 1 + 1 + 1 by omega]
    simp only [List.getElem?_cons_succ, List.getD_cons_succ]
    exact ih
theorem mvs_own {w : World} {base : Nat} {e : TypeId} {v : Value} {ms : List Mv} (h : w.ownsRow base e 3 v ms.length (flatM ms)) : ∃ A c, v = .slice A ms.length c ∧ IsMvs w A ms.length ms ∧ (ms.length : Int) ≤ 9223372036854775807 := by
  obtain ⟨A, c, h1, h2, h3, h4, h5, h6⟩ := own_form h
  refine ⟨A, c, h1, fun i hi => ?_, by unfold maxLen at h3; omega⟩
  obtain ⟨g0, g1, g2⟩ := flatM_get ms i hi
  obtain ⟨b, off, e0, hb, c0⟩ := h5.2 _ _ g0
  obtain ⟨b1, off1, e1, hb1, c1⟩ := h5.2 _ _ g1
  obtain ⟨b2, off2, e2, hb2, c2⟩ := h5.2 _ _ g2
  rw [e0] at e1 e2
  cases e1
  cases e2
  exact ⟨b, off, e0, hb, c0, by rw [Nat.add_assoc]; exact c1, by rw [Nat.add_assoc]; exact c2⟩
/-- Where the lists of the two made scenes lie. -/
structure TO (B0 b22 b27 : Nat) (Ad Bd Ae Be : Option Addr) : Prop where
  b0 : B0 ≤ b22
  b1 : b22 < b27
  d : ∀ p, Ad = some p → B0 ≤ p.block ∧ p.block < b22
  dc : ∀ p, Bd = some p → B0 ≤ p.block ∧ p.block < b22
  dd : ∀ p p', Ad = some p → Bd = some p' → p.block ≠ p'.block
  e : ∀ p, Ae = some p → b22 < p.block ∧ p.block < b27
  ec : ∀ p, Be = some p → b22 < p.block ∧ p.block < b27
  ee : ∀ p p', Ae = some p → Be = some p' → p.block ≠ p'.block
/-- The state of the last loops. -/
structure TS (W : World) (b22 b27 : Nat) (x22 x27 : Value) (Ad Bd Ae Be : Option Addr) (nd ld ne le cad cbd cae cbe : Nat) (w : World) : Prop where
  k : Kp W.heap.size W w
  y22 : C3 w b22 x22 (.slice Ad nd cad) (.slice Bd ld cbd)
  y27 : C3 w b27 x27 (.slice Ae ne cae) (.slice Be le cbe)
  d : Lay w Ad 8 nd
  e : Lay w Ae 8 ne
  dc : Lay w Bd 1 ld
  ec : Lay w Be 1 le
section
variable {W w w' : World} {b22 b27 : Nat} {x22 x27 : Value} {Ad Bd Ae Be : Option Addr} {nd ld ne le cad cbd cae cbe : Nat}
theorem TS.kp (h : TS W b22 b27 x22 x27 Ad Bd Ae Be nd ld ne le cad cbd cae cbe w) (k : Kp w.heap.size w w') : TS W b22 b27 x22 x27 Ad Bd Ae Be nd ld ne le cad cbd cae cbe w' :=
  ⟨h.k.trans (k.mono h.k.size), h.y22.kp k, h.y27.kp k, h.d.kp k, h.e.kp k, h.dc.kp k, h.ec.kp k⟩
theorem C3.at1 {b : Nat} {x y z : Value} {p : Addr} (h : C3 w b x y z) (hp : p.block ≠ b) (u : Value) : C3 (w.setCell p u) b x y z := by
  have k : Kx p.block (p.block + 1) 0 0 w (w.setCell p u) := (Kx.refl _ _ _ _ w).setIn (Nat.le_refl _) (Nat.lt_succ_self _) u
  exact h.kx k (by omega) (Or.inr (Nat.zero_le _))
theorem Lay.at1 {A : Option Addr} {sz n : Nat} {p : Addr} (h : Lay w A sz n) (hp : ∀ q, A = some q → q.block ≠ p.block) (u : Value) : Lay (w.setCell p u) A sz n :=
  h.kx ((Kx.refl p.block (p.block + 1) 0 0 w).setIn (Nat.le_refl _) (Nat.lt_succ_self _) u) (fun q hq => by have := hp q hq; omega)
theorem kp_at1 {B0 : Nat} {p : Addr} (h : Kp B0 W w) (hp : B0 ≤ p.block) (u : Value) : Kp B0 W (w.setCell p u) := h.setCell hp u
theorem TS.putd {g i : Nat} (h : TS W b22 b27 x22 x27 Ad Bd Ae Be nd ld ne le cad cbd cae cbe w) (o : TO W.heap.size b22 b27 Ad Bd Ae Be) (hA : Ad = some ⟨g, 0, none⟩) (hi : i < nd) (v : Int) :
    TS W b22 b27 x22 x27 Ad Bd Ae Be nd ld ne le cad cbd cae cbe (w.setCell ⟨g, i * 8, none⟩ (.int .i64 v)) := by
  have h1 := o.d _ hA
  have o1 := o.b1
  dsimp only at h1
  refine ⟨kp_at1 h.k h1.1 _, h.y22.at1 (by dsimp only; omega) _, h.y27.at1 (by dsimp only; omega) _, ?_, h.e.at1 (fun q hq => by have := o.e q hq; dsimp only; omega) _, h.dc.at1 (fun q hq => by have := o.dd _ q hA hq; exact this.symm) _, h.ec.at1 (fun q hq => by have := o.ec q hq; dsimp only; omega) _⟩
  have := h.d
  rw [hA] at this ⊢
  exact this.put hi v
theorem TS.pute {g i : Nat} (h : TS W b22 b27 x22 x27 Ad Bd Ae Be nd ld ne le cad cbd cae cbe w) (o : TO W.heap.size b22 b27 Ad Bd Ae Be) (hA : Ae = some ⟨g, 0, none⟩) (hi : i < ne) (v : Int) :
    TS W b22 b27 x22 x27 Ad Bd Ae Be nd ld ne le cad cbd cae cbe (w.setCell ⟨g, i * 8, none⟩ (.int .i64 v)) := by
  have h1 := o.e _ hA
  have o1 := o.b1
  have o0 := o.b0
  dsimp only at h1
  refine ⟨kp_at1 h.k (by dsimp only; omega) _, h.y22.at1 (by dsimp only; omega) _, h.y27.at1 (by dsimp only; omega) _, h.d.at1 (fun q hq => by have := o.d q hq; dsimp only; omega) _, ?_, h.dc.at1 (fun q hq => by have := o.dc q hq; dsimp only; omega) _, h.ec.at1 (fun q hq => by have := o.ee _ q hA hq; exact this.symm) _⟩
  have := h.e
  rw [hA] at this ⊢
  exact this.put hi v
theorem TS.putdc {g i : Nat} (h : TS W b22 b27 x22 x27 Ad Bd Ae Be nd ld ne le cad cbd cae cbe w) (o : TO W.heap.size b22 b27 Ad Bd Ae Be) (hA : Bd = some ⟨g, 0, none⟩) (hi : i < ld) (v : Int) :
    TS W b22 b27 x22 x27 Ad Bd Ae Be nd ld ne le cad cbd cae cbe (w.setCell ⟨g, i, none⟩ (.int .i64 v)) := by
  have h1 := o.dc _ hA
  have o1 := o.b1
  dsimp only at h1
  refine ⟨kp_at1 h.k h1.1 _, h.y22.at1 (by dsimp only; omega) _, h.y27.at1 (by dsimp only; omega) _, h.d.at1 (fun q hq => by have := o.dd q _ hq hA; exact this) _, h.e.at1 (fun q hq => by have := o.e q hq; dsimp only; omega) _, ?_, h.ec.at1 (fun q hq => by have := o.ec q hq; dsimp only; omega) _⟩
  have := h.dc
  rw [hA] at this ⊢
  have := this.put hi v
  rw [Nat.mul_one] at this
  exact this
theorem TS.putec {g i : Nat} (h : TS W b22 b27 x22 x27 Ad Bd Ae Be nd ld ne le cad cbd cae cbe w) (o : TO W.heap.size b22 b27 Ad Bd Ae Be) (hA : Be = some ⟨g, 0, none⟩) (hi : i < le) (v : Int) :
    TS W b22 b27 x22 x27 Ad Bd Ae Be nd ld ne le cad cbd cae cbe (w.setCell ⟨g, i, none⟩ (.int .i64 v)) := by
  have h1 := o.ec _ hA
  have o1 := o.b1
  have o0 := o.b0
  dsimp only at h1
  refine ⟨kp_at1 h.k (by dsimp only; omega) _, h.y22.at1 (by dsimp only; omega) _, h.y27.at1 (by dsimp only; omega) _, h.d.at1 (fun q hq => by have := o.d q hq; dsimp only; omega) _, h.e.at1 (fun q hq => by have := o.ee q _ hq hA; exact this) _, h.dc.at1 (fun q hq => by have := o.dc q hq; dsimp only; omega) _, ?_⟩
  have := h.ec
  rw [hA] at this ⊢
  have := this.put hi v
  rw [Nat.mul_one] at this
  exact this
end
end Go.Proofs.Yticgdfbknaholaa
