/-
  Several small texts as one.
-/
import Derived.Test.YticgdfbknaholaaEq27
import Derived.Test.YticgdfbknaholaaTurn27
import Derived.Test.YticgdfbknaholaaRefF27
import Derived.Test.YticgdfbknaholaaStart27
import Derived.Test.YticgdfbknaholaaAwake27

namespace Go.Proofs.Yticgdfbknaholaa
open Go.RowKit

/-- The loads of a scene, as they are handed back. -/
def loadsV (s : Sc) : List Int := if rightS s then (List.range s.cur.length).map (loadV s.ts) else []
def loadsE (s : Sc) : Int := if rightS s then 0 else 270
theorem loadsV_len {s : Sc} (h : rightS s = true) : (loadsV s).length = s.cur.length := by unfold loadsV; rw [if_pos h]; simp
theorem loadsV_at {s : Sc} (h : rightS s = true) {i : Nat} (hi : i < s.cur.length) : (loadsV s).getD i 0 = loadV s.ts i := by
  unfold loadsV
  rw [if_pos h]
  simp [List.getD_eq_getElem?_getD, hi]
theorem loadsV_eq {s : Sc} (h : rightS s = true) {zs : List Int} (hl : zs.length = s.cur.length) (hz : ∀ i, i < s.cur.length → zs.getD i 0 = loadV s.ts i) : zs = loadsV s := by
  refine List.ext_getElem (by rw [hl, loadsV_len h]) (fun i h1 h2 => ?_)
  have e1 := hz i (by omega)
  have e2 := loadsV_at h (i := i) (by omega)
  rw [List.getD_eq_getElem?_getD, List.getElem?_eq_getElem h1] at e1
  rw [List.getD_eq_getElem?_getD, List.getElem?_eq_getElem h2] at e2
  exact e1.trans e2.symm
/-- What Loads hands back, and the reference's. -/
def LoadsPost (W : World) (s : Sc) (e : Ending) (w' : World) : Prop := ∃ C c, e = .returned (.tuple #[.slice C (loadsV s).length c, .int .i64 (loadsE s)]) ∧ IsInts w' .i64 C (loadsV s).length (loadsV s) ∧ Kp W.heap.size W w'
theorem loads_val (W : World) {A B : Option Addr} {la ca lb cb : Nat} {s : Sc} (h : ScAt W A la B lb s) : Calls Try.prog 16 #[.agg #[.int .i64 s.n, .slice A la ca, .slice B lb cb]] W (LoadsPost W s) := by
  cases hr : rightS s with
  | true =>
    refine (loadsF_any W (ca := ca) (cb := cb) h hr).mono fun e w' ⟨b, he, _, hrow, hk⟩ => ?_
    have hl := loadsV_len hr
    rw [h.hlb] at hl
    refine ⟨some ⟨b, 0, none⟩, lb, by rw [he, hl]; unfold loadsE; rw [if_pos hr], ?_, hk⟩
    rw [hl]
    intro i hi
    refine ⟨b, 0, rfl, hrow.lt, ?_⟩
    rw [loadsV_at hr (by rw [h.hlb]; exact hi), Nat.zero_add]
    exact hrow.cells i hi
  | false =>
    refine (loadsF_bad W (ca := ca) (cb := cb) h hr).mono fun e w' ⟨he, hk⟩ => ?_
    have hl : loadsV s = [] := by unfold loadsV; rw [hr]; rfl
    have he2 : loadsE s = 270 := by unfold loadsE; rw [hr]; rfl
    exact ⟨none, 0, by rw [he, hl, he2]; rfl, by rw [hl]; exact fun i hi => absurd hi (Nat.not_lt_zero i), hk⟩
theorem refLoads_val (W : World) {A B : Option Addr} {la ca lb cb : Nat} {s : Sc} (h : ScAt W A la B lb s) : Calls Try.prog 43 #[.agg #[.int .i64 s.n, .slice A la ca, .slice B lb cb]] W (LoadsPost W s) := by
  cases hr : rightS s with
  | true =>
    refine (refLoads_any W (ca := ca) (cb := cb) h hr).mono fun e w' ⟨C, c, zs, he, hzl, hz, hi, hk⟩ => ?_
    have hl := loadsV_len hr
    rw [h.hlb] at hl
    have hq : zs = loadsV s := loadsV_eq hr (by rw [hzl, h.hlb]) (by rw [h.hlb]; exact hz)
    subst hq
    refine ⟨C, c, by rw [he, hl]; unfold loadsE; rw [if_pos hr], by rw [hl]; exact hi, hk⟩
  | false =>
    refine (refLoads_bad W (ca := ca) (cb := cb) h hr).mono fun e w' ⟨he, hk⟩ => ?_
    have hl : loadsV s = [] := by unfold loadsV; rw [hr]; rfl
    have he2 : loadsE s = 270 := by unfold loadsE; rw [hr]; rfl
    exact ⟨none, 0, by rw [he, hl, he2]; rfl, by rw [hl]; exact fun i hi => absurd hi (Nat.not_lt_zero i), hk⟩
/-- A list of an own block whose cells are whole numbers at a stride. -/
structure Lay (w : World) (A : Option Addr) (sz n : Nat) : Prop where
  c : 0 < n → ∃ g, A = some ⟨g, 0, none⟩ ∧ g < w.heap.size ∧ (∀ o, w.frozen? ⟨g, o, none⟩ = false) ∧ ∀ i, i < n → ∃ v, w.cell? ⟨g, i * sz, none⟩ = some (.int .i64 v)
theorem Lay.kp {w w' : World} {A : Option Addr} {sz n : Nat} (h : Lay w A sz n) (k : Kp w.heap.size w w') : Lay w' A sz n :=
  ⟨fun hn => by
    obtain ⟨g, h1, h2, h3, h4⟩ := h.c hn
    exact ⟨g, h1, Nat.lt_of_lt_of_le h2 k.size, fun o => (k.frozen (p := ⟨g, o, none⟩) h2).trans (h3 o), fun i hi => by
      obtain ⟨v, hv⟩ := h4 i hi
      exact ⟨v, (k.cell (p := ⟨g, i * sz, none⟩) h2).trans hv⟩⟩⟩
theorem Lay.kx {w w' : World} {A : Option Addr} {sz n n1 n2 : Nat} (h : Lay w A sz n) (k : Kx n1 n2 0 0 w w') (hA : ∀ p, A = some p → p.block < n1 ∨ n2 ≤ p.block) : Lay w' A sz n :=
  ⟨fun hn => by
    obtain ⟨g, h1, h2, h3, h4⟩ := h.c hn
    have hg := hA _ h1
    exact ⟨g, h1, Nat.lt_of_lt_of_le h2 k.size, fun o => (k.frozen (p := ⟨g, o, none⟩) h2 hg (Or.inr (Nat.zero_le _))).trans (h3 o), fun i hi => by
      obtain ⟨v, hv⟩ := h4 i hi
      exact ⟨v, (k.cell (p := ⟨g, i * sz, none⟩) h2 hg (Or.inr (Nat.zero_le _))).trans hv⟩⟩⟩
theorem lay_tks {w : World} {base : Nat} {A : Option Addr} {n c : Nat} {ts : List Tk} (h : IsTks w A n ts) (o : OwnSl w base 43 A n c) : Lay w A 8 n :=
  ⟨fun hn => by
    obtain ⟨b, off, e, T⟩ := h 0 hn
    obtain ⟨g, g1, g2, g3, g4, g5⟩ := o.at0 _ e
    rw [g1] at e
    refine ⟨g, e, g3, g4, fun i hi => ?_⟩
    obtain ⟨b2, off2, e2, T2⟩ := h i hi
    rw [e] at e2
    cases e2
    have := T2.c0
    rw [Nat.zero_add] at this
    exact ⟨_, this⟩⟩
theorem lay_ints {w : World} {base : Nat} {A : Option Addr} {n c : Nat} {zs : List Int} (h : IsInts w .i64 A n zs) (o : OwnSl w base 3 A n c) : Lay w A 1 n :=
  ⟨fun hn => by
    obtain ⟨b, off, e, hb, T⟩ := h 0 hn
    obtain ⟨g, g1, g2, g3, g4, g5⟩ := o.at0 _ e
    rw [g1] at e
    refine ⟨g, e, g3, g4, fun i hi => ?_⟩
    obtain ⟨b2, off2, e2, _, T2⟩ := h i hi
    rw [e] at e2
    cases e2
    rw [Nat.zero_add] at T2
    exact ⟨_, by rw [Nat.mul_one]; exact T2⟩⟩
theorem Lay.put {w : World} {g sz n : Nat} (h : Lay w (some ⟨g, 0, none⟩) sz n) {i : Nat} (hi : i < n) (v : Int) : Lay (w.setCell ⟨g, i * sz, none⟩ (.int .i64 v)) (some ⟨g, 0, none⟩) sz n :=
  ⟨fun hn => by
    obtain ⟨g', h1, h2, h3, h4⟩ := h.c hn
    cases h1
    refine ⟨g, rfl, by rw [World.size_setCell]; exact h2, fun o => by rw [World.frozen?_setCell]; exact h3 o, fun j hj => ?_⟩
    by_cases e : j * sz = i * sz
    · rw [e]
      obtain ⟨u, hu⟩ := h4 i hi
      exact ⟨v, World.cell?_setCell_same _ _ _ hu⟩
    · obtain ⟨u, hu⟩ := h4 j hj
      exact ⟨u, (World.cell?_setCell_other _ _ _ _ (fun q => e (congrArg Addr.off q).symm)).trans hu⟩⟩
end Go.Proofs.Yticgdfbknaholaa

namespace Go.Proofs.Yticgdfbknaholaa
open Go.RowKit

theorem sameSc_self (W : World) {A B A' B' : Option Addr} {la ca lb cb la' ca' lb' cb' : Nat} {s : Sc} (h : ScAt W A la B lb s) (h' : ScAt W A' la' B' lb' s) :
    Calls Try.prog 49 #[.agg #[.int .i64 s.n, .slice A la ca, .slice B lb cb], .agg #[.int .i64 s.n, .slice A' la' ca', .slice B' lb' cb']] W fun e w' => e = .returned (.bool true) ∧ Kp W.heap.size W w' := by
  have := sameSc_any (ca := ca) (cb := cb) (ca' := ca') (cb' := cb') W h h' h.lam h'.lam h.lbm h'.lbm
  rw [sameS_self] at this
  exact this
theorem sameI_self (W : World) {A B : Option Addr} {n c d : Nat} {zs : List Int} (hn : zs.length = n) (hmax : n ≤ 3000000000000000000) (ha : IsInts W .i64 A n zs) (hb : IsInts W .i64 B n zs) :
    Calls Try.prog 29 #[.slice A n c, .slice B n d] W fun e w' => e = .returned (.bool true) ∧ Kp W.heap.size W w' := by
  have := same_any (c := c) (d := d) W hn hn hmax hmax ha hb
  rw [decide_eq_true rfl] at this
  exact this
/-- A list of moves in memory. -/
def IsMvs (w : World) (A : Option Addr) (n : Nat) (ms : List Mv) : Prop :=
  ∀ i, i < n → ∃ b off, A = some ⟨b, off, none⟩ ∧ b < w.heap.size ∧ w.cell? ⟨b, off + i * 3, none⟩ = some (.int .i64 (ms.getD i (0, 0, 0)).1) ∧ w.cell? ⟨b, off + i * 3 + 1, none⟩ = some (.int .i64 (ms.getD i (0, 0, 0)).2.1) ∧ w.cell? ⟨b, off + i * 3 + 2, none⟩ = some (.int .i64 (ms.getD i (0, 0, 0)).2.2)
theorem IsMvs.kp {w w' : World} {A : Option Addr} {n : Nat} {ms : List Mv} (h : IsMvs w A n ms) (k : Kp w.heap.size w w') : IsMvs w' A n ms := fun i hi => by
  obtain ⟨b, off, e, hb, c0, c1, c2⟩ := h i hi
  exact ⟨b, off, e, Nat.lt_of_lt_of_le hb k.size, (k.cell (p := ⟨b, _, none⟩) hb).trans c0, (k.cell (p := ⟨b, _, none⟩) hb).trans c1, (k.cell (p := ⟨b, _, none⟩) hb).trans c2⟩
theorem flatM_get : ∀ (ms : List Mv) (i : Nat), i < ms.length → (flatM ms)[i * 3]? = some (.int .i64 (ms.getD i (0, 0, 0)).1) ∧ (flatM ms)[i * 3 + 1]? = some (.int .i64 (ms.getD i (0, 0, 0)).2.1) ∧ (flatM ms)[i * 3 + 2]? = some (.int .i64 (ms.getD i (0, 0, 0)).2.2)
  | [], i, h => absurd h (Nat.not_lt_zero i)
  | m :: ms, 0, _ => ⟨rfl, rfl, rfl⟩
  | m :: ms, i + 1, h => by
    have e : flatM (m :: ms) = .int .i64 m.1 :: .int .i64 m.2.1 :: .int .i64 m.2.2 :: flatM ms := rfl
    have ih := flatM_get ms i (by simpa using h)
    rw [e, show (i + 1) * 3 = i * 3 + 1 + 1 + 1 by omega]
    simp only [List.getElem?_cons_succ, List.getD_cons_succ]
    exact ih
theorem mvs_own {w : World} {base : Nat} {e : TypeId} {v : Value} {ms : List Mv} (h : w.ownsRow base e 3 v ms.length (flatM ms)) : ∃ A c, v = .slice A ms.length c ∧ IsMvs w A ms.length ms ∧ (ms.length : Int) ≤ 9223372036854775807 := by
  obtain ⟨A, c, h1, h2, h3, h4, h5, h6⟩ := own_form h
  refine ⟨A, c, h1, fun i hi => ?_, by unfold maxLen at h3; omega⟩
  obtain ⟨g0, g1, g2⟩ := flatM_get ms i hi
  obtain ⟨b, off, e0, hb, c0⟩ := h5.2 _ _ g0
  obtain ⟨b1, off1, e1, hb1, c1⟩ := h5.2 _ _ g1
  obtain ⟨b2, off2, e2, hb2, c2⟩ := h5.2 _ _ g2
  rw [e0] at e1 e2
  cases e1
  cases e2
  exact ⟨b, off, e0, hb, c0, by rw [Nat.add_assoc]; exact c1, by rw [Nat.add_assoc]; exact c2⟩
/-- Where the lists of the two made scenes lie. -/
structure TO (B0 b22 b27 : Nat) (Ad Bd Ae Be : Option Addr) : Prop where
  b0 : B0 ≤ b22
  b1 : b22 < b27
  d : ∀ p, Ad = some p → B0 ≤ p.block ∧ p.block < b22
  dc : ∀ p, Bd = some p → B0 ≤ p.block ∧ p.block < b22
  dd : ∀ p p', Ad = some p → Bd = some p' → p.block ≠ p'.block
  e : ∀ p, Ae = some p → b22 < p.block ∧ p.block < b27
  ec : ∀ p, Be = some p → b22 < p.block ∧ p.block < b27
  ee : ∀ p p', Ae = some p → Be = some p' → p.block ≠ p'.block
/-- The state of the last loops. -/
structure TS (W : World) (b22 b27 : Nat) (x22 x27 : Value) (Ad Bd Ae Be : Option Addr) (nd ld ne le cad cbd cae cbe : Nat) (w : World) : Prop where
  k : Kp W.heap.size W w
  y22 : C3 w b22 x22 (.slice Ad nd cad) (.slice Bd ld cbd)
  y27 : C3 w b27 x27 (.slice Ae ne cae) (.slice Be le cbe)
  d : Lay w Ad 8 nd
  e : Lay w Ae 8 ne
  dc : Lay w Bd 1 ld
  ec : Lay w Be 1 le
section
variable {W w w' : World} {b22 b27 : Nat} {x22 x27 : Value} {Ad Bd Ae Be : Option Addr} {nd ld ne le cad cbd cae cbe : Nat}
theorem TS.kp (h : TS W b22 b27 x22 x27 Ad Bd Ae Be nd ld ne le cad cbd cae cbe w) (k : Kp w.heap.size w w') : TS W b22 b27 x22 x27 Ad Bd Ae Be nd ld ne le cad cbd cae cbe w' :=
  ⟨h.k.trans (k.mono h.k.size), h.y22.kp k, h.y27.kp k, h.d.kp k, h.e.kp k, h.dc.kp k, h.ec.kp k⟩
theorem C3.at1 {b : Nat} {x y z : Value} {p : Addr} (h : C3 w b x y z) (hp : p.block ≠ b) (u : Value) : C3 (w.setCell p u) b x y z := by
  have k : Kx p.block (p.block + 1) 0 0 w (w.setCell p u) := (Kx.refl _ _ _ _ w).setIn (Nat.le_refl _) (Nat.lt_succ_self _) u
  exact h.kx k (by omega) (Or.inr (Nat.zero_le _))
theorem Lay.at1 {A : Option Addr} {sz n : Nat} {p : Addr} (h : Lay w A sz n) (hp : ∀ q, A = some q → q.block ≠ p.block) (u : Value) : Lay (w.setCell p u) A sz n :=
  h.kx ((Kx.refl p.block (p.block + 1) 0 0 w).setIn (Nat.le_refl _) (Nat.lt_succ_self _) u) (fun q hq => by have := hp q hq; omega)
theorem kp_at1 {B0 : Nat} {p : Addr} (h : Kp B0 W w) (hp : B0 ≤ p.block) (u : Value) : Kp B0 W (w.setCell p u) := h.setCell hp u
theorem TS.putd {g i : Nat} (h : TS W b22 b27 x22 x27 Ad Bd Ae Be nd ld ne le cad cbd cae cbe w) (o : TO W.heap.size b22 b27 Ad Bd Ae Be) (hA : Ad = some ⟨g, 0, none⟩) (hi : i < nd) (v : Int) :
    TS W b22 b27 x22 x27 Ad Bd Ae Be nd ld ne le cad cbd cae cbe (w.setCell ⟨g, i * 8, none⟩ (.int .i64 v)) := by
  have h1 := o.d _ hA
  have o1 := o.b1
  dsimp only at h1
  refine ⟨kp_at1 h.k h1.1 _, h.y22.at1 (by dsimp only; omega) _, h.y27.at1 (by dsimp only; omega) _, ?_, h.e.at1 (fun q hq => by have := o.e q hq; dsimp only; omega) _, h.dc.at1 (fun q hq => by have := o.dd _ q hA hq; exact this.symm) _, h.ec.at1 (fun q hq => by have := o.ec q hq; dsimp only; omega) _⟩
  have := h.d
  rw [hA] at this ⊢
  exact this.put hi v
theorem TS.pute {g i : Nat} (h : TS W b22 b27 x22 x27 Ad Bd Ae Be nd ld ne le cad cbd cae cbe w) (o : TO W.heap.size b22 b27 Ad Bd Ae Be) (hA : Ae = some ⟨g, 0, none⟩) (hi : i < ne) (v : Int) :
    TS W b22 b27 x22 x27 Ad Bd Ae Be nd ld ne le cad cbd cae cbe (w.setCell ⟨g, i * 8, none⟩ (.int .i64 v)) := by
  have h1 := o.e _ hA
  have o1 := o.b1
  have o0 := o.b0
  dsimp only at h1
  refine ⟨kp_at1 h.k (by dsimp only; omega) _, h.y22.at1 (by dsimp only; omega) _, h.y27.at1 (by dsimp only; omega) _, h.d.at1 (fun q hq => by have := o.d q hq; dsimp only; omega) _, ?_, h.dc.at1 (fun q hq => by have := o.dc q hq; dsimp only; omega) _, h.ec.at1 (fun q hq => by have := o.ee _ q hA hq; exact this.symm) _⟩
  have := h.e
  rw [hA] at this ⊢
  exact this.put hi v
theorem TS.putdc {g i : Nat} (h : TS W b22 b27 x22 x27 Ad Bd Ae Be nd ld ne le cad cbd cae cbe w) (o : TO W.heap.size b22 b27 Ad Bd Ae Be) (hA : Bd = some ⟨g, 0, none⟩) (hi : i < ld) (v : Int) :
    TS W b22 b27 x22 x27 Ad Bd Ae Be nd ld ne le cad cbd cae cbe (w.setCell ⟨g, i, none⟩ (.int .i64 v)) := by
  have h1 := o.dc _ hA
  have o1 := o.b1
  dsimp only at h1
  refine ⟨kp_at1 h.k h1.1 _, h.y22.at1 (by dsimp only; omega) _, h.y27.at1 (by dsimp only; omega) _, h.d.at1 (fun q hq => by have := o.dd q _ hq hA; exact this) _, h.e.at1 (fun q hq => by have := o.e q hq; dsimp only; omega) _, ?_, h.ec.at1 (fun q hq => by have := o.ec q hq; dsimp only; omega) _⟩
  have := h.dc
  rw [hA] at this ⊢
  have := this.put hi v
  rw [Nat.mul_one] at this
  exact this
theorem TS.putec {g i : Nat} (h : TS W b22 b27 x22 x27 Ad Bd Ae Be nd ld ne le cad cbd cae cbe w) (o : TO W.heap.size b22 b27 Ad Bd Ae Be) (hA : Be = some ⟨g, 0, none⟩) (hi : i < le) (v : Int) :
    TS W b22 b27 x22 x27 Ad Bd Ae Be nd ld ne le cad cbd cae cbe (w.setCell ⟨g, i, none⟩ (.int .i64 v)) := by
  have h1 := o.ec _ hA
  have o1 := o.b1
  have o0 := o.b0
  dsimp only at h1
  refine ⟨kp_at1 h.k (by dsimp only; omega) _, h.y22.at1 (by dsimp only; omega) _, h.y27.at1 (by dsimp only; omega) _, h.d.at1 (fun q hq => by have := o.d q hq; dsimp only; omega) _, h.e.at1 (fun q hq => by have := o.ee q _ hq hA; exact this) _, h.dc.at1 (fun q hq => by have := o.dc q hq; dsimp only; omega) _, ?_⟩
  have := h.ec
  rw [hA] at this ⊢
  have := this.put hi v
  rw [Nat.mul_one] at this
  exact this
end
end Go.Proofs.Yticgdfbknaholaa

