/-
  Slices of entities as rows of cells: what an own row of them reads as; one entity appended.
-/
import Derived.Test.YtmlapjaccmoleaaFloor
import Derived.Test.YtmlapjaccmoleaaRowz
namespace Go.Proofs.Ytmlapjaccmoleaa
open Go.RowKit

def flat (es : List E3) : List Value := es.flatMap fun e => [.int .u64 e.1, .int .u32 e.2.1, .int .u32 e.2.2]
theorem flat_nil : flat [] = [] := rfl
theorem flat_cons (e : E3) (es : List E3) : flat (e :: es) = .int .u64 e.1 :: .int .u32 e.2.1 :: .int .u32 e.2.2 :: flat es := rfl
theorem flat_length : ∀ es : List E3, (flat es).length = es.length * 3
  | [] => rfl
  | e :: es => by rw [flat_cons]; simp [flat_length es]; omega
theorem flat_app (es fs : List E3) : flat (es ++ fs) = flat es ++ flat fs := by unfold flat; rw [List.flatMap_append]
theorem flat_get : ∀ (es : List E3) (i : Nat), i < es.length →
    (flat es)[i * 3]? = some (.int .u64 (es.getD i e0).1) ∧ (flat es)[i * 3 + 1]? = some (.int .u32 (es.getD i e0).2.1) ∧ (flat es)[i * 3 + 2]? = some (.int .u32 (es.getD i e0).2.2)
  | [], _, h => absurd h (Nat.not_lt_zero _)
  | e :: es, 0, _ => ⟨rfl, rfl, rfl⟩
  | e :: es, i + 1, h => by
    obtain ⟨h0, h1, h2⟩ := flat_get es i (by simpa using h)
    rw [flat_cons]
    have e1 : (i + 1) * 3 = i * 3 + 1 + 1 + 1 := by omega
    simp only [e1, List.getElem?_cons_succ, List.getD_cons_succ]
    exact ⟨h0, h1, h2⟩
theorem Rd.ents {w : World} {A : Option Addr} {n : Nat} {es : List E3} (hl : es.length = n) (h : Rd w 3 A n (flat es)) : IsEnts w A n es := by
  intro i hi
  obtain ⟨g0, g1, g2⟩ := flat_get es i (by omega)
  obtain ⟨b, off, rfl, hb, c0⟩ := h.2 _ _ g0
  obtain ⟨b', off', e', _, c1⟩ := h.2 _ _ g1
  cases e'
  obtain ⟨b', off', e', _, c2⟩ := h.2 _ _ g2
  cases e'
  exact ⟨b, off, rfl, hb, c0, by rw [Nat.add_assoc]; exact c1, by rw [Nat.add_assoc]; exact c2⟩
theorem IsEnts.rd {w : World} {A : Option Addr} {n : Nat} {es : List E3} (hl : es.length = n) (h : IsEnts w A n es) : Rd w 3 A n (flat es) := by
  refine ⟨by rw [flat_length, hl], fun j u hu => ?_⟩
  have hj : j < n * 3 := by
    have := (List.getElem?_eq_some_iff.1 hu).1
    rw [flat_length, hl] at this
    exact this
  obtain ⟨i, hi, e⟩ : ∃ i, i < n ∧ (j = i * 3 ∨ j = i * 3 + 1 ∨ j = i * 3 + 2) := ⟨j / 3, by omega, by omega⟩
  obtain ⟨g0, g1, g2⟩ := flat_get es i (by omega)
  obtain ⟨b, off, rfl, hb, c0, c1, c2⟩ := h i hi
  refine ⟨b, off, rfl, hb, ?_⟩
  rcases e with rfl | rfl | rfl
  · rw [g0] at hu
    cases hu
    exact c0
  · rw [g1] at hu
    cases hu
    rw [← Nat.add_assoc]
    exact c1
  · rw [g2] at hu
    cases hu
    rw [← Nat.add_assoc]
    exact c2
theorem flat_one (es : List E3) : ∀ u ∈ flat es, u.oneCell' = true := by
  intro u hu
  obtain ⟨e, _, h⟩ := List.mem_flatMap.1 hu
  simp only [List.mem_cons, List.not_mem_nil, or_false] at h
  rcases h with rfl | rfl | rfl <;> rfl
theorem rd_ent (w : World) (x y z : Int) (t : TypeId) : Rd (w.alloc (.cells #[.int .u64 x, .int .u32 y, .int .u32 z] t)) 3 (some ⟨w.heap.size, 0, none⟩) 1 (flat [(x, y, z)]) := by
  refine ⟨rfl, fun j u hu => ⟨w.heap.size, 0, rfl, by simp, ?_⟩⟩
  rw [cell_of_row _ w.heap.size (0 + j) #[.int .u64 x, .int .u32 y, .int .u32 z] t (0, 0) (heap_alloc_new w _), Nat.zero_add]
  rw [← Array.getElem?_toList]
  exact hu
theorem ent_info : (Try.prog.info? 25).map (fun i => (i.zero, i.size, i.bytes)) = some (some (.agg #[.int .u64 0, .int .u32 0, .int .u32 0]), 3, 16) := by kernel_rfl
theorem take_snocE (es : List E3) (j : Nat) (h : j < es.length) : es.take (j + 1) = es.take j ++ [es.getD j e0] := by
  rw [List.take_succ_eq_append_getElem h, List.getD_eq_getElem?_getD, List.getElem?_eq_getElem h]
  rfl
end Go.Proofs.Ytmlapjaccmoleaa
