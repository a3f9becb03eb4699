/-
  Slices of pairs of whole numbers (shares, levels) as rows of cells: what an own row of them reads as; one pair appended.
-/
import Derived.Test.YtjffikiebeneaaaSmall17
import Derived.Test.YtjffikiebeneaaaRowz
import Derived.Deep.RegionWith
import Derived.StillTailTactics
namespace Go.Proofs.Ytjffikiebeneaaa
open Go.RowKit

abbrev P2 := Int × Int
def p0 : P2 := (0, 0)
def flat (es : List P2) : List Value := es.flatMap fun e => [.int .i64 e.1, .int .i64 e.2]
/-- The pairs' cells of a slice. -/
def IsPrs (W : World) (A : Option Addr) (len : Nat) (es : List P2) : Prop :=
  ∀ i, i < len → ∃ b off, A = some ⟨b, off, none⟩ ∧ b < W.heap.size ∧ W.cell? ⟨b, off + i * 2, none⟩ = some (.int .i64 (es.getD i p0).1) ∧
    W.cell? ⟨b, off + i * 2 + 1, none⟩ = some (.int .i64 (es.getD i p0).2)
theorem IsPrs.kp {W w : World} {A : Option Addr} {len : Nat} {es : List P2} (h : IsPrs W A len es) (hk : Kp W.heap.size W w) : IsPrs w A len es := by
  intro i hi
  obtain ⟨b, off, h1, h2, h3, h4⟩ := h i hi
  exact ⟨b, off, h1, Nat.lt_of_lt_of_le h2 hk.size, (hk.cell (p := ⟨b, _, none⟩) h2).trans h3, (hk.cell (p := ⟨b, _, none⟩) h2).trans h4⟩
theorem IsPrs.nil (W : World) : IsPrs W none 0 [] := fun i hi => absurd hi (Nat.not_lt_zero i)
theorem flat_nil : flat [] = [] := rfl
theorem flat_cons (e : P2) (es : List P2) : flat (e :: es) = .int .i64 e.1 :: .int .i64 e.2 :: flat es := rfl
theorem flat_length : ∀ es : List P2, (flat es).length = es.length * 2
  | [] => rfl
  | e :: es => by rw [flat_cons]; simp [flat_length es]; omega
theorem flat_app (es fs : List P2) : flat (es ++ fs) = flat es ++ flat fs := by unfold flat; rw [List.flatMap_append]
theorem flat_get : ∀ (es : List P2) (i : Nat), i < es.length →
    (flat es)[i * 2]? = some (.int .i64 (es.getD i p0).1) ∧ (flat es)[i * 2 + 1]? = some (.int .i64 (es.getD i p0).2)
  | [], _, h => absurd h (Nat.not_lt_zero _)
  | e :: es, 0, _ => ⟨rfl, rfl⟩
  | e :: es, i + 1, h => by
    obtain ⟨h0, h1⟩ := flat_get es i (by simpa using h)
    rw [flat_cons]
    have e1 : (i + 1) * 2 = i * 2 + 1 + 1 := by omega
    simp only [e1, List.getElem?_cons_succ, List.getD_cons_succ]
    exact ⟨h0, h1⟩
theorem Rd.prs {w : World} {A : Option Addr} {n : Nat} {es : List P2} (hl : es.length = n) (h : Rd w 2 A n (flat es)) : IsPrs w A n es := by
  intro i hi
  obtain ⟨g0, g1⟩ := flat_get es i (by omega)
  obtain ⟨b, off, rfl, hb, c0⟩ := h.2 _ _ g0
  obtain ⟨b', off', e', _, c1⟩ := h.2 _ _ g1
  cases e'
  exact ⟨b, off, rfl, hb, c0, by rw [Nat.add_assoc]; exact c1⟩
theorem IsPrs.rd {w : World} {A : Option Addr} {n : Nat} {es : List P2} (hl : es.length = n) (h : IsPrs w A n es) : Rd w 2 A n (flat es) := by
  refine ⟨by rw [flat_length, hl], fun j u hu => ?_⟩
  have hj : j < n * 2 := by
    have := (List.getElem?_eq_some_iff.1 hu).1
    rw [flat_length, hl] at this
    exact this
  obtain ⟨i, hi, e⟩ : ∃ i, i < n ∧ (j = i * 2 ∨ j = i * 2 + 1) := ⟨j / 2, by omega, by omega⟩
  obtain ⟨g0, g1⟩ := flat_get es i (by omega)
  obtain ⟨b, off, rfl, hb, c0, c1⟩ := h i hi
  refine ⟨b, off, rfl, hb, ?_⟩
  rcases e with rfl | rfl
  · rw [g0] at hu
    cases hu
    exact c0
  · rw [g1] at hu
    cases hu
    rw [← Nat.add_assoc]
    exact c1
theorem flat_one (es : List P2) : ∀ u ∈ flat es, u.oneCell' = true := by
  intro u hu
  obtain ⟨e, _, h⟩ := List.mem_flatMap.1 hu
  simp only [List.mem_cons, List.not_mem_nil, or_false] at h
  rcases h with rfl | rfl <;> rfl
theorem rd_pair (w : World) (x y : Int) (t : TypeId) : Rd (w.alloc (.cells #[.int .i64 x, .int .i64 y] t)) 2 (some ⟨w.heap.size, 0, none⟩) 1 (flat [(x, y)]) := by
  refine ⟨rfl, fun j u hu => ⟨w.heap.size, 0, rfl, by simp, ?_⟩⟩
  rw [cell_of_row _ w.heap.size (0 + j) #[.int .i64 x, .int .i64 y] t (0, 0) (heap_alloc_new w _), Nat.zero_add]
  rw [← Array.getElem?_toList]
  exact hu
theorem take_snocP (es : List P2) (j : Nat) (h : j < es.length) : es.take (j + 1) = es.take j ++ [es.getD j p0] := by
  rw [List.take_succ_eq_append_getElem h, List.getD_eq_getElem?_getD, List.getElem?_eq_getElem h]
  rfl
/-- A row of the call's own with these cells. -/
def OwnPost (W : World) (t : TypeId) (sz n : Nat) (xs : List Value) (e : Ending) (w' : World) : Prop := ∃ v, e = .returned v ∧ w'.ownsRow W.heap.size t sz v n xs ∧ Kp W.heap.size W w'
theorem take_snocI (es : List Int) (j : Nat) (h : j < es.length) : es.take (j + 1) = es.take j ++ [es.getD j 0] := by
  rw [List.take_succ_eq_append_getElem h, List.getD_eq_getElem?_getD, List.getElem?_eq_getElem h]
  rfl

/-- Shares, folded: the first error ends it. -/
def foldS (op : Int → Int → Int → Int → Int × Int × Int) : Int → Int → List P2 → Int × Int × Int
  | x, y, [] => (x, y, 0)
  | x, y, s :: l => if (op x y s.1 s.2).2.2 = 0 then foldS op (op x y s.1 s.2).1 (op x y s.1 s.2).2.1 l else (0, 0, (op x y s.1 s.2).2.2)
def plus3 (a b c d : Int) : Int × Int × Int := (plN a b c d, plD a b c d, plE a b c d)
def times3 (a b c d : Int) : Int × Int × Int := (tmN a b c d, tmD a b c d, tmE a b c d)
def rights (l : List P2) : Bool := l.all fun s => rightS s.1 s.2
def sum3 (l : List P2) : Int × Int × Int := if rights l then foldS plus3 0 1 l else (0, 0, 2)
/-- A level is right. -/
def levB (s : P2) : Bool := decide (1 ≤ s.2 ∧ s.2 ≤ 2147483648 ∧ 0 ≤ s.1 ∧ s.1 ≤ s.2)
def of2 (s : P2) : P2 := (ofN s.1 s.2, ofD s.1 s.2)
def path3 (l : List P2) : Int × Int × Int := if l.all levB then foldS times3 1 1 (l.map of2) else (0, 0, 2)
/-- A scaled share. -/
def scE (a b n : Int) : Int := if rightS a b then (if 0 ≤ n ∧ n ≤ 2147483648 then 0 else 2) else 2
def scK (a b n : Int) : Int := if scE a b n = 0 then n * a / b else 0
def scN (a b n : Int) : Int := if scE a b n = 0 then ofN (n * a % b) b else 0
def scD (a b n : Int) : Int := if scE a b n = 0 then ofD (n * a % b) b else 0
/-- The parts of weights. -/
def sumI : List Int → Int
  | [] => 0
  | w :: l => w + sumI l
theorem sumI_app (l m : List Int) : sumI (l ++ m) = sumI l + sumI m := by
  induction l with
  | nil => simp [sumI]
  | cons w l ih => simp [sumI, ih]; omega
def wOk (w : Int) : Bool := decide (1 ≤ w ∧ w ≤ 65536)
def partE (l : List Int) : Int := if 65536 < l.length then 5 else if l.all wOk then (if l.all (fun w => ofE w (sumI l) == 0) then 0 else 3) else 2
def parts (l : List Int) : List P2 := l.map fun w => of2 (w, sumI l)
def partL (l : List Int) : List P2 := if partE l = 0 then parts l else []
end Go.Proofs.Ytjffikiebeneaaa
