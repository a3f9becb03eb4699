/-
  What the law's tells compares: loads of any scene; lists and scenes of its own memory.
-/
import Derived.Test.YticgdfbknaholaaSameSc27
import Derived.Test.YticgdfbknaholaaTurn27
import Derived.Test.YticgdfbknaholaaRefF27
import Derived.Test.YticgdfbknaholaaStart27
import Derived.Test.YticgdfbknaholaaAwake27
namespace Go.Proofs.Yticgdfbknaholaa
open Go.RowKit

/-- The loads of a scene, as they are handed back. -/
def loadsV (s : Sc) : List Int := if rightS s then (List.range s.cur.length).map (loadV s.ts) else []
def loadsE (s : Sc) : Int := if rightS s then 0 else 270
theorem loadsV_len {s : Sc} (h : rightS s = true) : (loadsV s).length = s.cur.length := by unfold loadsV; rw [if_pos h]; simp
theorem loadsV_at {s : Sc} (h : rightS s = true) {i : Nat} (hi : i < s.cur.length) : (loadsV s).getD i 0 = loadV s.ts i := by
  unfold loadsV
  rw [if_pos h]
  simp [List.getD_eq_getElem?_getD, hi]
theorem loadsV_eq {s : Sc} (h : rightS s = true) {zs : List Int} (hl : zs.length = s.cur.length) (hz : ∀ i, i < s.cur.length → zs.getD i 0 = loadV s.ts i) : zs = loadsV s := by
  refine List.ext_getElem (by rw [hl, loadsV_len h]) (fun i h1 h2 => ?_)
  have e1 := hz i (by omega)
  have e2 := loadsV_at h (i := i) (by omega)
  rw [List.getD_eq_getElem?_getD, List.getElem?_eq_getElem h1] at e1
  rw [List.getD_eq_getElem?_getD, List.getElem?_eq_getElem h2] at e2
  exact e1.trans e2.symm
/-- What Loads hands back, and the reference's. -/
def LoadsPost (W : World) (s : Sc) (e : Ending) (w' : World) : Prop := ∃ C c, e = .returned (.tuple #[.slice C (loadsV s).length c, .int .i64 (loadsE s)]) ∧ IsInts w' .i64 C (loadsV s).length (loadsV s) ∧ Kp W.heap.size W w'
theorem loads_val (W : World) {A B : Option Addr} {la ca lb cb : Nat} {s : Sc} (h : ScAt W A la B lb s) : Calls Try.prog 16 #[.agg #[.int .i64 s.n, .slice A la ca, .slice B lb cb]] W (LoadsPost W s) := by
  cases hr : rightS s with
  | true =>
    refine (loadsF_any W (ca := ca) (cb := cb) h hr).mono fun e w' ⟨b, he, _, hrow, hk⟩ => ?_
    have hl := loadsV_len hr
    rw [h.hlb] at hl
    refine ⟨some ⟨b, 0, none⟩, lb, by rw [he, hl]; unfold loadsE; rw [if_pos hr], ?_, hk⟩
    rw [hl]
    intro i hi
    refine ⟨b, 0, rfl, hrow.lt, ?_⟩
    rw [loadsV_at hr (by rw [h.hlb]; exact hi), Nat.zero_add]
    exact hrow.cells i hi
  | false =>
    refine (loadsF_bad W (ca := ca) (cb := cb) h hr).mono fun e w' ⟨he, hk⟩ => ?_
    have hl : loadsV s = [] := by unfold loadsV; rw [hr]; rfl
    have he2 : loadsE s = 270 := by unfold loadsE; rw [hr]; rfl
    exact ⟨none, 0, by rw [he, hl, he2]; rfl, by rw [hl]; exact fun i hi => absurd hi (Nat.not_lt_zero i), hk⟩
theorem refLoads_val (W : World) {A B : Option Addr} {la ca lb cb : Nat} {s : Sc} (h : ScAt W A la B lb s) : Calls Try.prog 43 #[.agg #[.int .i64 s.n, .slice A la ca, .slice B lb cb]] W (LoadsPost W s) := by
  cases hr : rightS s with
  | true =>
    refine (refLoads_any W (ca := ca) (cb := cb) h hr).mono fun e w' ⟨C, c, zs, he, hzl, hz, hi, hk⟩ => ?_
    have hl := loadsV_len hr
    rw [h.hlb] at hl
    have hq : zs = loadsV s := loadsV_eq hr (by rw [hzl, h.hlb]) (by rw [h.hlb]; exact hz)
    subst hq
    refine ⟨C, c, by rw [he, hl]; unfold loadsE; rw [if_pos hr], by rw [hl]; exact hi, hk⟩
  | false =>
    refine (refLoads_bad W (ca := ca) (cb := cb) h hr).mono fun e w' ⟨he, hk⟩ => ?_
    have hl : loadsV s = [] := by unfold loadsV; rw [hr]; rfl
    have he2 : loadsE s = 270 := by unfold loadsE; rw [hr]; rfl
    exact ⟨none, 0, by rw [he, hl, he2]; rfl, by rw [hl]; exact fun i hi => absurd hi (Nat.not_lt_zero i), hk⟩
/-- A list of an own block whose cells are whole numbers at a stride. -/
structure Lay (w : World) (A : Option Addr) (sz n : Nat) : Prop where
  c : 0 < n → ∃ g, A = some ⟨g, 0, none⟩ ∧ g < w.heap.size ∧ (∀ o, w.frozen? ⟨g, o, none⟩ = false) ∧ ∀ i, i < n → ∃ v, w.cell? ⟨g, i * sz, none⟩ = some (.int .i64 v)
theorem Lay.kp {w w' : World} {A : Option Addr} {sz n : Nat} (h : Lay w A sz n) (k : Kp w.heap.size w w') : Lay w' A sz n :=
  ⟨fun hn => by
    obtain ⟨g, h1, h2, h3, h4⟩ := h.c hn
    exact ⟨g, h1, Nat.lt_of_lt_of_le h2 k.size, fun o => (k.frozen (p := ⟨g, o, none⟩) h2).trans (h3 o), fun i hi => by
      obtain ⟨v, hv⟩ := h4 i hi
      exact ⟨v, (k.cell (p := ⟨g, i * sz, none⟩) h2).trans hv⟩⟩⟩
theorem Lay.kx {w w' : World} {A : Option Addr} {sz n n1 n2 : Nat} (h : Lay w A sz n) (k : Kx n1 n2 0 0 w w') (hA : ∀ p, A = some p → p.block < n1 ∨ n2 ≤ p.block) : Lay w' A sz n :=
  ⟨fun hn => by
    obtain ⟨g, h1, h2, h3, h4⟩ := h.c hn
    have hg := hA _ h1
    exact ⟨g, h1, Nat.lt_of_lt_of_le h2 k.size, fun o => (k.frozen (p := ⟨g, o, none⟩) h2 hg (Or.inr (Nat.zero_le _))).trans (h3 o), fun i hi => by
      obtain ⟨v, hv⟩ := h4 i hi
      exact ⟨v, (k.cell (p := ⟨g, i * sz, none⟩) h2 hg (Or.inr (Nat.zero_le _))).trans hv⟩⟩⟩
theorem lay_tks {w : World} {base : Nat} {A : Option Addr} {n c : Nat} {ts : List Tk} (h : IsTks w A n ts) (o : OwnSl w base 43 A n c) : Lay w A 8 n :=
  ⟨fun hn => by
    obtain ⟨b, off, e, T⟩ := h 0 hn
    obtain ⟨g, g1, g2, g3, g4, g5⟩ := o.at0 _ e
    rw [g1] at e
    refine ⟨g, e, g3, g4, fun i hi => ?_⟩
    obtain ⟨b2, off2, e2, T2⟩ := h i hi
    rw [e] at e2
    cases e2
    have := T2.c0
    rw [Nat.zero_add] at this
    exact ⟨_, this⟩⟩
theorem lay_ints {w : World} {base : Nat} {A : Option Addr} {n c : Nat} {zs : List Int} (h : IsInts w .i64 A n zs) (o : OwnSl w base 3 A n c) : Lay w A 1 n :=
  ⟨fun hn => by
    obtain ⟨b, off, e, hb, T⟩ := h 0 hn
    obtain ⟨g, g1, g2, g3, g4, g5⟩ := o.at0 _ e
    rw [g1] at e
    refine ⟨g, e, g3, g4, fun i hi => ?_⟩
    obtain ⟨b2, off2, e2, _, T2⟩ := h i hi
    rw [e] at e2
    cases e2
    rw [Nat.zero_add] at T2
    exact ⟨_, by rw [Nat.mul_one]; exact T2⟩⟩
theorem Lay.put {w : World} {g sz n : Nat} (h : Lay w (some ⟨g, 0, none⟩) sz n) {i : Nat} (hi : i < n) (v : Int) : Lay (w.setCell ⟨g, i * sz, none⟩ (.int .i64 v)) (some ⟨g, 0, none⟩) sz n :=
  ⟨fun hn => by
    obtain ⟨g', h1, h2, h3, h4⟩ := h.c hn
    cases h1
    refine ⟨g, rfl, by rw [World.size_setCell]; exact h2, fun o => by rw [World.frozen?_setCell]; exact h3 o, fun j hj => ?_⟩
    by_cases e : j * sz = i * sz
    · rw [e]
      obtain ⟨u, hu⟩ := h4 i hi
      exact ⟨v, World.cell?_setCell_same _ _ _ hu⟩
    · obtain ⟨u, hu⟩ := h4 j hj
      exact ⟨u, (World.cell?_setCell_other _ _ _ _ (fun q => e (congrArg Addr.off q).symm)).trans hu⟩⟩
end Go.Proofs.Yticgdfbknaholaa
