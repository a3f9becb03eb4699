/-
  Plain laws of parts: their sums, over a list.
-/
import Derived.Test.YtjffikiebeneaaaAwake17
namespace Go.Proofs.Ytjffikiebeneaaa

theorem of_zero {T : Int} (hT : 0 < T) : ofN 0 T = 0 ∧ ofD 0 T = 1 ∧ ofE 0 T = 0 := by
  have h := of_eq (n := 0) (d := T) (x := 0) (y := 1) (by decide) hT (by kernel_rfl) (by simp)
  exact ⟨h.2.1, h.2.2, h.1⟩
theorem of_one {T : Int} (hT : 0 < T) : ofN T T = 1 ∧ ofD T T = 1 ∧ ofE T T = 0 := by
  have h := of_eq (n := T) (d := T) (x := 1) (y := 1) (by omega) hT (by kernel_rfl) (by omega)
  exact ⟨h.2.1, h.2.2, h.1⟩
theorem sumI_nn : ∀ (l : List Int), (∀ w ∈ l, 0 ≤ w) → 0 ≤ sumI l
  | [], _ => by simp [sumI]
  | w :: l, h => by
    have h1 := h w (List.mem_cons_self ..)
    have h2 := sumI_nn l (fun x hx => h x (List.mem_cons_of_mem _ hx))
    simp only [sumI]
    omega
/-- Parts of one whole, added one after the other. -/
theorem fold_parts {T m : Int} (hT : 0 < T) (h2 : T ≤ m) (hm : m ≤ 2147483648) : ∀ (l : List Int) (u : Int), (∀ w ∈ l, 0 ≤ w) → 0 ≤ u → u + sumI l ≤ m →
    foldS plus3 (ofN u T) (ofD u T) (l.map fun w => of2 (w, T)) = (ofN (u + sumI l) T, ofD (u + sumI l) T, 0)
  | [], u, _, _, _ => by simp [foldS, sumI]
  | w :: l, u, h, hu, hs => by
    have hw := h w (List.mem_cons_self ..)
    have hl := sumI_nn l (fun x hx => h x (List.mem_cons_of_mem _ hx))
    simp only [sumI] at hs
    have hp := parts_plus hu hw hT (show u + w ≤ m by omega) h2 hm
    have ih := fold_parts hT h2 hm l (u + w) (fun x hx => h x (List.mem_cons_of_mem _ hx)) (by omega) (by omega)
    rw [List.map_cons, foldS_cons]
    have e : plus3 (ofN u T) (ofD u T) (of2 (w, T)).1 (of2 (w, T)).2 = (ofN (u + w) T, ofD (u + w) T, 0) := by
      unfold plus3 of2
      dsimp only
      rw [hp.1, hp.2.1, hp.2.2]
    rw [e]
    dsimp only
    rw [if_pos rfl, ih]
    simp only [sumI, Int.add_assoc]
theorem rights_parts {T m : Int} (hT : 0 < T) (h2 : T ≤ m) (hm : m ≤ 2147483648) (l : List Int) (h : ∀ w ∈ l, 0 ≤ w ∧ w ≤ m) : rights (l.map fun w => of2 (w, T)) = true := by
  unfold rights
  rw [List.all_map]
  refine List.all_eq_true.2 fun w hw => ?_
  exact (of_small (h w hw).1 hT (h w hw).2 h2 hm).2.1.r
theorem sum_parts {T m : Int} (hT : 0 < T) (h2 : T ≤ m) (hm : m ≤ 2147483648) (l : List Int) (h : ∀ w ∈ l, 0 ≤ w ∧ w ≤ m) (hs : sumI l ≤ m) :
    sum3 (l.map fun w => of2 (w, T)) = (ofN (sumI l) T, ofD (sumI l) T, 0) := by
  unfold sum3
  rw [rights_parts hT h2 hm l h, if_pos rfl]
  have h0 := of_zero hT
  have hf := fold_parts hT h2 hm l 0 (fun w hw => (h w hw).1) (by decide) (by omega)
  rw [h0.1, h0.2.1] at hf
  rw [hf, Int.zero_add]
/-- The laws' weights. -/
theorem wgt_bd {l : List Int} {w : Int} (h : w ∈ wgt l) : 1 ≤ w ∧ w ≤ 200 := by
  unfold wgt at h
  obtain ⟨u, _, rfl⟩ := List.mem_map.1 h
  have h1 := Int.emod_nonneg u (b := 200) (by decide)
  have h2 := Int.emod_lt_of_pos u (b := 200) (by decide)
  omega
theorem sum_le : ∀ (l : List Int), (∀ w ∈ l, 1 ≤ w ∧ w ≤ 200) → (l.length : Int) ≤ sumI l ∧ sumI l ≤ 200 * l.length
  | [], _ => by simp [sumI]
  | w :: l, h => by
    have h1 := h w (List.mem_cons_self ..)
    have h2 := sum_le l (fun x hx => h x (List.mem_cons_of_mem _ hx))
    simp only [sumI, List.length_cons]
    omega
theorem wOk_all {l : List Int} (h : ∀ w ∈ l, 1 ≤ w ∧ w ≤ 200) : l.all wOk = true := List.all_eq_true.2 fun w hw => decide_eq_true (by have := h w hw; omega)
/-- Small weights have parts. -/
theorem parts_ok {l : List Int} (h : ∀ w ∈ l, 1 ≤ w ∧ w ≤ 200) (hl : l.length ≤ 100) : partE l = 0 ∧ partL l = parts l := by
  refine partE_ok (by omega) (wOk_all h) (List.all_eq_true.2 fun w hw => ?_)
  have h1 := h w hw
  have h2 := sum_le l h
  have hp : 0 < l.length := List.length_pos_of_mem hw
  have := (of_fits (n := w) (d := sumI l) (by omega) (by omega) (by omega) (by omega)).1
  simpa using this
theorem parts_get (l : List Int) (i : Nat) (h : i < l.length) : (parts l).getD i p0 = (ofN (l.getD i 0) (sumI l), ofD (l.getD i 0) (sumI l)) := by
  unfold parts
  rw [List.getD_eq_getElem?_getD, List.getD_eq_getElem?_getD, List.getElem?_map, List.getElem?_eq_getElem h]
  rfl
theorem mem_getD {l : List Int} {i : Nat} (h : i < l.length) : l.getD i 0 ∈ l := by
  rw [List.getD_eq_getElem?_getD, List.getElem?_eq_getElem h]
  exact List.getElem_mem _
theorem mem_take {l : List Int} {n : Nat} {w : Int} (h : w ∈ l.take n) : w ∈ l := List.mem_of_mem_take h
end Go.Proofs.Ytjffikiebeneaaa
