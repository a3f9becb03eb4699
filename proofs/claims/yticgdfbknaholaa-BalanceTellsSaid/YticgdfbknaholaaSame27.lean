/-
  The contract of SameInts; of the laws' example.
-/
import Derived.Test.YticgdfbknaholaaPlan27
namespace Go.Proofs.Yticgdfbknaholaa
open Go.RowKit

theorem list_eq_of {zs ys : List Int} (hl : zs.length = ys.length) (h : ∀ k, k < zs.length → zs.getD k 0 = ys.getD k 0) : zs = ys := by
  refine List.ext_getElem hl (fun i h1 h2 => ?_)
  have := h i h1
  rw [List.getD_eq_getElem?_getD, List.getD_eq_getElem?_getD, List.getElem?_eq_getElem h1, List.getElem?_eq_getElem h2] at this
  exact this
set_option maxRecDepth 100000 in
set_option maxHeartbeats 1000000 in
theorem same_any (W : World) {A B : Option Addr} {n c m d : Nat} {zs ys : List Int} (hn : zs.length = n) (hm : ys.length = m) (hmax : n ≤ 3000000000000000000) (hmax2 : m ≤ 3000000000000000000) (ha : IsInts W .i64 A n zs) (hb : IsInts W .i64 B m ys) :
    Calls Try.prog 29 #[.slice A n c, .slice B m d] W fun e w' => e = .returned (.bool (decide (zs = ys))) ∧ Kp W.heap.size W w' := by
  obtain ⟨R, hR⟩ : ∃ R, R = decide (zs = ys) := ⟨_, rfl⟩
  rw [← hR]
  have HR := Lib.hid hR
  have HA := Lib.hid ha
  have HB := Lib.hid hb
  have HN := Lib.hid hn
  have HM := Lib.hid hm
  clear hR ha hb hn hm
  by_cases hnm : n = m
  rotate_left
  · have h1 : ((n : Int) != (m : Int)) = true := bne_iff_ne.2 (by omega)
    have hf : R = false := by
      rw [HR.out]
      exact decide_eq_false (fun e => hnm (by rw [← HN.out, ← HM.out, e]))
    have HF := Lib.hid hf
    clear hf hnm
    go_enter Try.func29, Try.ntmps29
    go_wp2_with fail
    go_ret
    exact ⟨by rw [HF.out]; rfl, Kp.refl _ _⟩
  subst hnm
  go_enter Try.func29, Try.ntmps29
  go_wp2_with fail
  go_loopw [5] (fun i wr => ∃ j : Nat, j ≤ n ∧ i = .int .i64 (j : Int) ∧ (∀ k, k < j → zs.getD k 0 = ys.getD k 0) ∧ KpS W wr) (fun i _ => n - (intOf i).toNat)
  case atStart => exact ⟨0, Nat.zero_le _, rfl, fun k h => absurd h (Nat.not_lt_zero k), KpS.refl _⟩
  case round =>
    obtain ⟨j, hj, rfl, hall, hk⟩ := hrel
    have HALL := Lib.hid hall
    have HK := Lib.hid hk
    clear hall hk
    by_cases hlt : j < n
    · have hji : (j : Int) < n := by omega
      obtain ⟨b1, o1, rfl, hlt1, c1⟩ := (HA.out.below HK.out.kp) j hlt
      obtain ⟨b2, o2, rfl, hlt2, c2⟩ := (HB.out.below HK.out.kp) j hlt
      obtain ⟨x, hx⟩ : ∃ x, x = zs.getD j 0 := ⟨_, rfl⟩
      obtain ⟨y, hy⟩ : ∃ y, y = ys.getD j 0 := ⟨_, rfl⟩
      rw [← hx] at c1
      rw [← hy] at c2
      have HX := Lib.hid hx
      have HY := Lib.hid hy
      clear hx hy
      by_cases he : x = y
      · subst he
        go_wp2_with fail
        go_region
        all_goals go_wp2_with fail
        all_goals
          go_roundw
          case rel =>
            refine ⟨j + 1, by omega, by go_num, fun k hk => ?_, HK.out.drew⟩
            rcases Nat.lt_or_ge k j with h | h
            · exact HALL.out k h
            · have : k = j := by omega
              subst this
              rw [← HX.out, ← HY.out]
          case measure => simp [intOf]; omega
      · have hne : (x != y) = true := bne_iff_ne.2 he
        have hf : R = false := by
          rw [HR.out]
          exact decide_eq_false (fun e => he (by rw [HX.out, HY.out, e]))
        have HF := Lib.hid hf
        clear hf
        go_wp2_with fail
        go_region
        all_goals go_wp2_with fail
        all_goals
          go_ret
          exact ⟨by rw [HF.out]; rfl, HK.out.drew⟩
    · have hje : j = n := by omega
      subst hje
      have hjn : ¬ ((j : Int) < (j : Int)) := by omega
      have hf : R = true := by
        rw [HR.out]
        exact decide_eq_true (list_eq_of (by rw [HN.out, HM.out]) (by rw [HN.out]; exact HALL.out))
      have HF := Lib.hid hf
      clear hf
      go_wp2_with fail
      go_ret
      exact ⟨by rw [HF.out]; rfl, HK.out⟩
/-- The scene of the laws' example. -/
def exS : Sc := ⟨2, [⟨1, 0, 100, 0, 3, true, 0, 0⟩, ⟨2, 0, 300, 0, 3, true, 0, 0⟩, ⟨3, 0, 200, 0, 3, true, 0, 0⟩], [0, 0]⟩
set_option maxRecDepth 100000 in
set_option maxHeartbeats 1000000 in
theorem example_any (W : World) : Calls Try.prog 25 #[] W fun e w' => ∃ A B, e = .returned (.agg #[.int .i64 2, .slice (some ⟨A, 0, none⟩) 3 3, .slice (some ⟨B, 0, none⟩) 2 2]) ∧ ScAt w' (some ⟨A, 0, none⟩) 3 (some ⟨B, 0, none⟩) 2 exS ∧ OwnSl w' W.heap.size 43 (some ⟨A, 0, none⟩) 3 3 ∧ OwnSl w' W.heap.size 3 (some ⟨B, 0, none⟩) 2 2 ∧ A ≠ B ∧ Kp W.heap.size W w' := by
  have k1 : ∀ (w : World) (o : Obj), Kp w.heap.size w (w.alloc o) := fun w o => (Kp.refl _ w).alloc (Nat.le_refl _) o
  have X := ((C3.new W (.int .i64 2) (.slice (some ⟨W.heap.size + 1, 0, none⟩) 3 3) (.slice (some ⟨W.heap.size + 2, 0, none⟩) 2 2) 30).alloc (.cells (flatT exS.ts).toArray 43)).alloc (.cells ([0, 0].map (Value.int .i64)).toArray 3)
  have T := ((rd_new (W.alloc (.cells #[.int .i64 2, .slice (some ⟨W.heap.size + 1, 0, none⟩) 3 3, .slice (some ⟨W.heap.size + 2, 0, none⟩) 2 2] 30)) (flatT exS.ts) 43 8 3 rfl).kp (k1 _ (.cells ([0, 0].map (Value.int .i64)).toArray 3))).tks (es := exS.ts) rfl
  have TY := (Ty.new (W.alloc (.cells #[.int .i64 2, .slice (some ⟨W.heap.size + 1, 0, none⟩) 3 3, .slice (some ⟨W.heap.size + 2, 0, none⟩) 2 2] 30)) (flatT exS.ts).toArray 43).alloc (.cells ([0, 0].map (Value.int .i64)).toArray 3)
  have TF := (Fz.new (W.alloc (.cells #[.int .i64 2, .slice (some ⟨W.heap.size + 1, 0, none⟩) 3 3, .slice (some ⟨W.heap.size + 2, 0, none⟩) 2 2] 30)) (flatT exS.ts).toArray 43).alloc (.cells ([0, 0].map (Value.int .i64)).toArray 3)
  have I := (rd_new ((W.alloc (.cells #[.int .i64 2, .slice (some ⟨W.heap.size + 1, 0, none⟩) 3 3, .slice (some ⟨W.heap.size + 2, 0, none⟩) 2 2] 30)).alloc (.cells (flatT exS.ts).toArray 43)) ([0, 0].map (Value.int .i64)) 3 1 2 rfl).isInts.2
  have IY := Ty.new ((W.alloc (.cells #[.int .i64 2, .slice (some ⟨W.heap.size + 1, 0, none⟩) 3 3, .slice (some ⟨W.heap.size + 2, 0, none⟩) 2 2] 30)).alloc (.cells (flatT exS.ts).toArray 43)) ([0, 0].map (Value.int .i64)).toArray 3
  have IF' := Fz.new ((W.alloc (.cells #[.int .i64 2, .slice (some ⟨W.heap.size + 1, 0, none⟩) 3 3, .slice (some ⟨W.heap.size + 2, 0, none⟩) 2 2] 30)).alloc (.cells (flatT exS.ts).toArray 43)) ([0, 0].map (Value.int .i64)).toArray 3
  have K := (((Kp.refl W.heap.size W).alloc (Nat.le_refl _) (.cells #[.int .i64 2, .slice (some ⟨W.heap.size + 1, 0, none⟩) 3 3, .slice (some ⟨W.heap.size + 2, 0, none⟩) 2 2] 30)).alloc (by rw [World.size_alloc]; omega) (.cells (flatT exS.ts).toArray 43)).alloc (by rw [World.size_alloc, World.size_alloc]; omega) (.cells ([0, 0].map (Value.int .i64)).toArray 3)
  simp only [World.size_alloc, Nat.add_assoc, Nat.reduceAdd] at T TY TF I IY IF'
  have HALL := Lib.hid (And.intro X (And.intro T (And.intro TY (And.intro TF (And.intro I (And.intro IY (And.intro IF' K)))))))
  clear X T TY TF I IY IF' K k1
  simp only [exS, flatT, Tk.cells, List.flatMap_cons, List.flatMap_nil, List.cons_append, List.nil_append, List.append_nil, List.map_cons, List.map_nil] at HALL
  go_enter Try.func25, Try.ntmps25
  go_wp2_with fail
  simp only [Nat.add_assoc, Nat.reduceAdd]
  generalize ((W.alloc _).alloc _).alloc _ = w9 at *
  obtain ⟨⟨m0, m1, m2, ml⟩, T, TY, TF, I, IY, IF', K⟩ := HALL.out
  refine bodyPost_ret (v := .agg #[.int .i64 2, .slice (some ⟨W.heap.size + 1, 0, none⟩) 3 3, .slice (some ⟨W.heap.size + 2, 0, none⟩) 2 2]) (by simp [results, Try.results25, go_sem, m0, m1, m2]) rfl ?_
  refine ⟨W.heap.size + 1, W.heap.size + 2, rfl, ⟨rfl, rfl, T, I, fun t ht => ?_, by omega, by omega⟩, ⟨Nat.le_refl _, by decide, fun h => (by cases h), fun p hp => ?_⟩, ⟨Nat.le_refl _, by decide, fun h => (by cases h), fun p hp => ?_⟩, by omega, K⟩
  · simp only [exS, List.mem_cons, List.not_mem_nil, or_false] at ht
    rcases ht with rfl | rfl | rfl <;> exact ⟨by decide, by decide, by decide, by decide, by decide, by decide, by decide, by decide⟩
  · cases hp
    exact ⟨_, rfl, by omega, TF.1, TF.2, TY⟩
  · cases hp
    exact ⟨_, rfl, by omega, IF'.1, IF'.2, IY⟩
end Go.Proofs.Yticgdfbknaholaa
