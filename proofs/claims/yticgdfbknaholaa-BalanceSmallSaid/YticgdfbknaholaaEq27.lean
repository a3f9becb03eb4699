/-
  Several small texts as one.
-/
import Derived.Test.YticgdfbknaholaaPlan27

namespace Go.Proofs.Yticgdfbknaholaa
open Go.RowKit

theorem list_eq_of {zs ys : List Int} (hl : zs.length = ys.length) (h : ∀ k, k < zs.length → zs.getD k 0 = ys.getD k 0) : zs = ys := by
  refine List.ext_getElem hl (fun i h1 h2 => ?_)
  have := h i h1
  rw [List.getD_eq_getElem?_getD, List.getD_eq_getElem?_getD, List.getElem?_eq_getElem h1, List.getElem?_eq_getElem h2] at this
  exact this
set_option maxRecDepth 100000 in
set_option maxHeartbeats 1000000 in
theorem same_any (W : World) {A B : Option Addr} {n c m d : Nat} {zs ys : List Int} (hn : zs.length = n) (hm : ys.length = m) (hmax : n ≤ 3000000000000000000) (hmax2 : m ≤ 3000000000000000000) (ha : IsInts W .i64 A n zs) (hb : IsInts W .i64 B m ys) :
    Calls Try.prog 29 #[.slice A n c, .slice B m d] W fun e w' => e = .returned (.bool (decide (zs = ys))) ∧ Kp W.heap.size W w' := by
  obtain ⟨R, hR⟩ : ∃ R, R = decide (zs = ys) := ⟨_, rfl⟩
  rw [← hR]
  have HR := Lib.hid hR
  have HA := Lib.hid ha
  have HB := Lib.hid hb
  have HN := Lib.hid hn
  have HM := Lib.hid hm
  clear hR ha hb hn hm
  by_cases hnm : n = m
  rotate_left
  · have h1 : ((n : Int) != (m : Int)) = true := bne_iff_ne.2 (by omega)
    have hf : R = false := by
      rw [HR.out]
      exact decide_eq_false (fun e => hnm (by rw [← HN.out, ← HM.out, e]))
    have HF := Lib.hid hf
    clear hf hnm
    go_enter Try.func29, Try.ntmps29
    go_wp2_with fail
    go_ret
    exact ⟨by rw [HF.out]; rfl, Kp.refl _ _⟩
  subst hnm
  go_enter Try.func29, Try.ntmps29
  go_wp2_with fail
  go_loopw [5] (fun i wr => ∃ j : Nat, j ≤ n ∧ i = .int .i64 (j : Int) ∧ (∀ k, k < j → zs.getD k 0 = ys.getD k 0) ∧ KpS W wr) (fun i _ => n - (intOf i).toNat)
  case atStart => exact ⟨0, Nat.zero_le _, rfl, fun k h => absurd h (Nat.not_lt_zero k), KpS.refl _⟩
  case round =>
    obtain ⟨j, hj, rfl, hall, hk⟩ := hrel
    have HALL := Lib.hid hall
    have HK := Lib.hid hk
    clear hall hk
    by_cases hlt : j < n
    · have hji : (j : Int) < n := by omega
      obtain ⟨b1, o1, rfl, hlt1, c1⟩ := (HA.out.below HK.out.kp) j hlt
      obtain ⟨b2, o2, rfl, hlt2, c2⟩ := (HB.out.below HK.out.kp) j hlt
      obtain ⟨x, hx⟩ : ∃ x, x = zs.getD j 0 := ⟨_, rfl⟩
      obtain ⟨y, hy⟩ : ∃ y, y = ys.getD j 0 := ⟨_, rfl⟩
      rw [← hx] at c1
      rw [← hy] at c2
      have HX := Lib.hid hx
      have HY := Lib.hid hy
      clear hx hy
      by_cases he : x = y
      · subst he
        go_wp2_with fail
        go_region
        all_goals go_wp2_with fail
        all_goals
          go_roundw
          case rel =>
            refine ⟨j + 1, by omega, by go_num, fun k hk => ?_, HK.out.drew⟩
            rcases Nat.lt_or_ge k j with h | h
            · exact HALL.out k h
            · have : k = j := by omega
              subst this
              rw [← HX.out, ← HY.out]
          case measure => simp [intOf]; omega
      · have hne : (x != y) = true := bne_iff_ne.2 he
        have hf : R = false := by
          rw [HR.out]
          exact decide_eq_false (fun e => he (by rw [HX.out, HY.out, e]))
        have HF := Lib.hid hf
        clear hf
        go_wp2_with fail
        go_region
        all_goals go_wp2_with fail
        all_goals
          go_ret
          exact ⟨by rw [HF.out]; rfl, HK.out.drew⟩
    · have hje : j = n := by omega
      subst hje
      have hjn : ¬ ((j : Int) < (j : Int)) := by omega
      have hf : R = true := by
        rw [HR.out]
        exact decide_eq_true (list_eq_of (by rw [HN.out, HM.out]) (by rw [HN.out]; exact HALL.out))
      have HF := Lib.hid hf
      clear hf
      go_wp2_with fail
      go_ret
      exact ⟨by rw [HF.out]; rfl, HK.out⟩
/-- The scene of the laws' example. -/
def exS : Sc := ⟨2, [⟨1, 0, 100, 0, 3, true, 0, 0⟩, ⟨2, 0, 300, 0, 3, true, 0, 0⟩, ⟨3, 0, 200, 0, 3, true, 0, 0⟩], [0, 0]⟩
set_option maxRecDepth 100000 in
set_option maxHeartbeats 1000000 in
theorem example_any (W : World) : Calls Try.prog 25 #[] W fun e w' => ∃ A B, e = .returned (.agg #[.int .i64 2, .slice (some ⟨A, 0, none⟩) 3 3, .slice (some ⟨B, 0, none⟩) 2 2]) ∧ ScAt w' (some ⟨A, 0, none⟩) 3 (some ⟨B, 0, none⟩) 2 exS ∧ OwnSl w' W.heap.size 43 (some ⟨A, 0, none⟩) 3 3 ∧ OwnSl w' W.heap.size 3 (some ⟨B, 0, none⟩) 2 2 ∧ A ≠ B ∧ Kp W.heap.size W w' := by
  have k1 : ∀ (w : World) (o : Obj), Kp w.heap.size w (w.alloc o) := fun w o => (Kp.refl _ w).alloc (Nat.le_refl _) o
  have X := ((C3.new W (.int .i64 2) (.slice (some ⟨W.heap.size + 1, 0, none⟩) 3 3) (.slice (some ⟨W.heap.size + 2, 0, none⟩) 2 2) 30).alloc (.cells (flatT exS.ts).toArray 43)).alloc (.cells ([0, 0].map (Value.int .i64)).toArray 3)
  have T := ((rd_new (W.alloc (.cells #[.int .i64 2, .slice (some ⟨W.heap.size + 1, 0, none⟩) 3 3, .slice (some ⟨W.heap.size + 2, 0, none⟩) 2 2] 30)) (flatT exS.ts) 43 8 3 rfl).kp (k1 _ (.cells ([0, 0].map (Value.int .i64)).toArray 3))).tks (es := exS.ts) rfl
  have TY := (Ty.new (W.alloc (.cells #[.int .i64 2, .slice (some ⟨W.heap.size + 1, 0, none⟩) 3 3, .slice (some ⟨W.heap.size + 2, 0, none⟩) 2 2] 30)) (flatT exS.ts).toArray 43).alloc (.cells ([0, 0].map (Value.int .i64)).toArray 3)
  have TF := (Fz.new (W.alloc (.cells #[.int .i64 2, .slice (some ⟨W.heap.size + 1, 0, none⟩) 3 3, .slice (some ⟨W.heap.size + 2, 0, none⟩) 2 2] 30)) (flatT exS.ts).toArray 43).alloc (.cells ([0, 0].map (Value.int .i64)).toArray 3)
  have I := (rd_new ((W.alloc (.cells #[.int .i64 2, .slice (some ⟨W.heap.size + 1, 0, none⟩) 3 3, .slice (some ⟨W.heap.size + 2, 0, none⟩) 2 2] 30)).alloc (.cells (flatT exS.ts).toArray 43)) ([0, 0].map (Value.int .i64)) 3 1 2 rfl).isInts.2
  have IY := Ty.new ((W.alloc (.cells #[.int .i64 2, .slice (some ⟨W.heap.size + 1, 0, none⟩) 3 3, .slice (some ⟨W.heap.size + 2, 0, none⟩) 2 2] 30)).alloc (.cells (flatT exS.ts).toArray 43)) ([0, 0].map (Value.int .i64)).toArray 3
  have IF' := Fz.new ((W.alloc (.cells #[.int .i64 2, .slice (some ⟨W.heap.size + 1, 0, none⟩) 3 3, .slice (some ⟨W.heap.size + 2, 0, none⟩) 2 2] 30)).alloc (.cells (flatT exS.ts).toArray 43)) ([0, 0].map (Value.int .i64)).toArray 3
  have K := (((Kp.refl W.heap.size W).alloc (Nat.le_refl _) (.cells #[.int .i64 2, .slice (some ⟨W.heap.size + 1, 0, none⟩) 3 3, .slice (some ⟨W.heap.size + 2, 0, none⟩) 2 2] 30)).alloc (by rw [World.size_alloc]; omega) (.cells (flatT exS.ts).toArray 43)).alloc (by rw [World.size_alloc, World.size_alloc]; omega) (.cells ([0, 0].map (Value.int .i64)).toArray 3)
  simp only [World.size_alloc, Nat.add_assoc, Nat.reduceAdd] at T TY TF I IY IF'
  have HALL := Lib.hid (And.intro X (And.intro T (And.intro TY (And.intro TF (And.intro I (And.intro IY (And.intro IF' K)))))))
  clear X T TY TF I IY IF' K k1
  simp only [exS, flatT, Tk.cells, List.flatMap_cons, List.flatMap_nil, List.cons_append, List.nil_append, List.append_nil, List.map_cons, List.map_nil] at HALL
  go_enter Try.func25, Try.ntmps25
  go_wp2_with fail
  simp only [Nat.add_assoc, Nat.reduceAdd]
  generalize ((W.alloc _).alloc _).alloc _ = w9 at *
  obtain ⟨⟨m0, m1, m2, ml⟩, T, TY, TF, I, IY, IF', K⟩ := HALL.out
  refine bodyPost_ret (v := .agg #[.int .i64 2, .slice (some ⟨W.heap.size + 1, 0, none⟩) 3 3, .slice (some ⟨W.heap.size + 2, 0, none⟩) 2 2]) (by simp [results, Try.results25, go_sem, m0, m1, m2]) rfl ?_
  refine ⟨W.heap.size + 1, W.heap.size + 2, rfl, ⟨rfl, rfl, T, I, fun t ht => ?_, by omega, by omega⟩, ⟨Nat.le_refl _, by decide, fun h => (by cases h), fun p hp => ?_⟩, ⟨Nat.le_refl _, by decide, fun h => (by cases h), fun p hp => ?_⟩, by omega, K⟩
  · simp only [exS, List.mem_cons, List.not_mem_nil, or_false] at ht
    rcases ht with rfl | rfl | rfl <;> exact ⟨by decide, by decide, by decide, by decide, by decide, by decide, by decide, by decide⟩
  · cases hp
    exact ⟨_, rfl, by omega, TF.1, TF.2, TY⟩
  · cases hp
    exact ⟨_, rfl, by omega, IF'.1, IF'.2, IY⟩
end Go.Proofs.Yticgdfbknaholaa

namespace Go.Proofs.Yticgdfbknaholaa
open Go.RowKit

set_option maxRecDepth 100000 in
set_option maxHeartbeats 1000000 in
theorem equalI_any (W : World) {A B : Option Addr} {n c m d : Nat} {zs ys : List Int} (hn : zs.length = n) (hm : ys.length = m) (hmax : n ≤ 3000000000000000000) (hmax2 : m ≤ 3000000000000000000) (ha : IsInts W .i64 A n zs) (hb : IsInts W .i64 B m ys) :
    Calls Try.prog 28 #[.slice A n c, .slice B m d] W fun e w' => e = .returned (.bool (decide (zs = ys))) ∧ ∃ m, w' = W.drewN m := by
  obtain ⟨R, hR⟩ : ∃ R, R = decide (zs = ys) := ⟨_, rfl⟩
  rw [← hR]
  have HR := Lib.hid hR
  have HA := Lib.hid ha
  have HB := Lib.hid hb
  have HN := Lib.hid hn
  have HM := Lib.hid hm
  clear hR ha hb hn hm
  by_cases hnm : n = m
  rotate_left
  · have h1 : ((n : Int) != (m : Int)) = true := bne_iff_ne.2 (by omega)
    have hf : R = false := by
      rw [HR.out]
      exact decide_eq_false (fun e => hnm (by rw [← HN.out, ← HM.out, e]))
    have HF := Lib.hid hf
    clear hf hnm
    go_enter Try.func28, Try.ntmps28
    go_wp2_with fail
    go_ret
    exact ⟨by rw [HF.out]; rfl, 0, rfl⟩
  subst hnm
  go_enter Try.func28, Try.ntmps28
  go_wp2_with fail
  go_loopw [13] (fun i wr => ∃ j : Nat, j ≤ n ∧ i = .int .i64 (j : Int) ∧ (∀ k, k < j → zs.getD k 0 = ys.getD k 0) ∧ ∃ m, wr = W.drewN m) (fun i _ => n - (intOf i).toNat)
  case atStart => exact ⟨0, Nat.zero_le _, rfl, fun k h => absurd h (Nat.not_lt_zero k), 0, rfl⟩
  case round =>
    obtain ⟨j, hj, rfl, hall, md, rfl⟩ := hrel
    have HALL := Lib.hid hall
    have HK := Lib.hid (show Kp W.heap.size W (W.drewN md) from (Kp.refl _ _).drewN md)
    clear hall
    by_cases hlt : j < n
    · have hji : (j : Int) < n := by omega
      obtain ⟨b1, o1, rfl, hlt1, c1⟩ := HA.out j hlt
      obtain ⟨b2, o2, rfl, hlt2, c2⟩ := HB.out j hlt
      obtain ⟨x, hx⟩ : ∃ x, x = zs.getD j 0 := ⟨_, rfl⟩
      obtain ⟨y, hy⟩ : ∃ y, y = ys.getD j 0 := ⟨_, rfl⟩
      rw [← hx] at c1
      rw [← hy] at c2
      have HX := Lib.hid hx
      have HY := Lib.hid hy
      clear hx hy
      by_cases he : x = y
      · subst he
        go_wp2_with fail
        go_quiet (fail)
        all_goals go_wp2_with fail
        all_goals
          go_roundw
          case rel =>
            refine ⟨j + 1, by omega, by go_num, fun k hk => ?_, md + nq, by first | rfl | exact World.drewN_drewN _ _ _⟩
            rcases Nat.lt_or_ge k j with h | h
            · exact HALL.out k h
            · have : k = j := by omega
              subst this
              rw [← HX.out, ← HY.out]
          case measure => simp [intOf]; omega
      · have hne : (x != y) = true := bne_iff_ne.2 he
        have hf : R = false := by
          rw [HR.out]
          exact decide_eq_false (fun e => he (by rw [HX.out, HY.out, e]))
        have HF := Lib.hid hf
        clear hf
        go_wp2_with fail
        go_quiet (fail)
        all_goals go_wp2_with fail
        all_goals
          go_ret
          exact ⟨by rw [HF.out]; rfl, md + nq, by first | rfl | exact World.drewN_drewN _ _ _⟩
    · have hje : j = n := by omega
      subst hje
      have hjn : ¬ ((j : Int) < (j : Int)) := by omega
      have hf : R = true := by
        rw [HR.out]
        exact decide_eq_true (list_eq_of (by rw [HN.out, HM.out]) (by rw [HN.out]; exact HALL.out))
      have HF := Lib.hid hf
      clear hf
      go_wp2_with fail
      go_ret
      exact ⟨by rw [HF.out]; rfl, md, rfl⟩
end Go.Proofs.Yticgdfbknaholaa

namespace Go.Proofs.Yticgdfbknaholaa
open Go.RowKit

theorem KpS.drewN' {W w : World} (h : KpS W w) (n : Nat) : KpS W (w.drewN n) := Kp.drewN h n
theorem listT_eq_of {zs ys : List Tk} (hl : zs.length = ys.length) (h : ∀ k, k < zs.length → zs.getD k t0 = ys.getD k t0) : zs = ys := by
  refine List.ext_getElem hl (fun i h1 h2 => ?_)
  have := h i h1
  rw [List.getD_eq_getElem?_getD, List.getD_eq_getElem?_getD, List.getElem?_eq_getElem h1, List.getElem?_eq_getElem h2] at this
  exact this
instance : DecidableEq Tk := fun a b => by
  obtain ⟨i1, g1, w1, p1, m1, r1, v1, x1⟩ := a
  obtain ⟨i2, g2, w2, p2, m2, r2, v2, x2⟩ := b
  rw [Tk.mk.injEq]
  infer_instance
set_option maxRecDepth 100000 in
set_option maxHeartbeats 1000000 in
theorem equalT_any (W : World) {A B : Option Addr} {n c m d : Nat} {zs ys : List Tk} (hn : zs.length = n) (hm : ys.length = m) (hmax : n ≤ 3000000000000000000) (hmax2 : m ≤ 3000000000000000000) (ha : IsTks W A n zs) (hb : IsTks W B m ys) :
    Calls Try.prog 14 #[.slice A n c, .slice B m d] W fun e w' => e = .returned (.bool (decide (zs = ys))) ∧ ∃ m, w' = W.drewN m := by
  obtain ⟨R, hR⟩ : ∃ R, R = decide (zs = ys) := ⟨_, rfl⟩
  rw [← hR]
  have HR := Lib.hid hR
  have HA := Lib.hid ha
  have HB := Lib.hid hb
  have HN := Lib.hid hn
  have HM := Lib.hid hm
  clear hR ha hb hn hm
  by_cases hnm : n = m
  rotate_left
  · have h1 : ((n : Int) != (m : Int)) = true := bne_iff_ne.2 (by omega)
    have hf : R = false := by
      rw [HR.out]
      exact decide_eq_false (fun e => hnm (by rw [← HN.out, ← HM.out, e]))
    have HF := Lib.hid hf
    clear hf hnm
    go_enter Try.func14, Try.ntmps14
    go_wp2_with fail
    go_ret
    exact ⟨by rw [HF.out]; rfl, 0, rfl⟩
  subst hnm
  go_enter Try.func14, Try.ntmps14
  go_wp2_with fail
  go_loopw [13] (fun i wr => ∃ j : Nat, j ≤ n ∧ i = .int .i64 (j : Int) ∧ (∀ k, k < j → zs.getD k t0 = ys.getD k t0) ∧ ∃ m, wr = W.drewN m) (fun i _ => n - (intOf i).toNat)
  case atStart => exact ⟨0, Nat.zero_le _, rfl, fun k h => absurd h (Nat.not_lt_zero k), 0, rfl⟩
  case round =>
    obtain ⟨j, hj, rfl, hall, md, rfl⟩ := hrel
    have HALL := Lib.hid hall
    have HK := Lib.hid (show Kp W.heap.size W (W.drewN md) from (Kp.refl _ _).drewN md)
    clear hall
    by_cases hlt : j < n
    · have hji : (j : Int) < n := by omega
      obtain ⟨b1, o1, rfl, T1⟩ := HA.out j hlt
      obtain ⟨b2, o2, rfl, T2⟩ := HB.out j hlt
      obtain ⟨x, hx⟩ : ∃ x, x = zs.getD j t0 := ⟨_, rfl⟩
      obtain ⟨y, hy⟩ : ∃ y, y = ys.getD j t0 := ⟨_, rfl⟩
      rw [← hx] at T1
      rw [← hy] at T2
      have HX := Lib.hid hx
      have HY := Lib.hid hy
      clear hx hy
      by_cases he : x = y
      · subst he
        obtain ⟨c0, c1, c2, c3, c4, c5, c6, c7, cl⟩ := T1
        obtain ⟨d0, d1, d2, d3, d4, d5, d6, d7, dl⟩ := T2
        go_wp2_with fail
        go_quiet (fail)
        all_goals go_wp2_with fail
        all_goals
          go_roundw
          case rel =>
            refine ⟨j + 1, by omega, by go_num, fun k hk => ?_, md + nq, by first | rfl | exact World.drewN_drewN _ _ _⟩
            rcases Nat.lt_or_ge k j with h | h
            · exact HALL.out k h
            · have : k = j := by omega
              subst this
              rw [← HX.out, ← HY.out]
          case measure => simp [intOf]; omega
      · have hf : R = false := by
          rw [HR.out]
          exact decide_eq_false (fun e => he (by rw [HX.out, HY.out, e]))
        have HF := Lib.hid hf
        clear hf
        obtain ⟨i1, g1, w1, p1, m1, r1, v1, x1⟩ := x
        obtain ⟨i2, g2, w2, p2, m2, r2, v2, x2⟩ := y
        have hne : (!(i1 == i2 && (g1 == g2 && (w1 == w2 && (p1 == p2 && (m1 == m2 && (r1 == r2 && (v1 == v2 && x1 == x2)))))))) = true := by
          cases hq : (i1 == i2 && (g1 == g2 && (w1 == w2 && (p1 == p2 && (m1 == m2 && (r1 == r2 && (v1 == v2 && x1 == x2))))))) with
          | false => rfl
          | true =>
            simp only [Bool.and_eq_true, beq_iff_eq] at hq
            exact absurd ((Tk.mk.injEq ..).mpr hq) he
        obtain ⟨c0, c1, c2, c3, c4, c5, c6, c7, cl⟩ := T1
        obtain ⟨d0, d1, d2, d3, d4, d5, d6, d7, dl⟩ := T2
        go_wp2_with fail
        refine wp_region_quiet_lit (by kernel_rfl) (by kernel_rfl) ?_
        repeat (quiet_step (fail))
        refine wpQuiet_step (fun K hK => ?_)
        go_simp
        refine ⟨.bool true, fun a => ?_, ?_⟩
        · clear hK K
          have he' : ¬ (i1 = i2 ∧ g1 = g2 ∧ w1 = w2 ∧ p1 = p2 ∧ m1 = m2 ∧ r1 = r2 ∧ v1 = v2 ∧ x1 = x2) := fun h => he ((Tk.mk.injEq ..).mpr h)
          by_cases q1 : i1 = i2
          · rw [if_pos q1]
            by_cases q2 : g1 = g2
            · rw [if_pos q2]
              by_cases q3 : w1 = w2
              · rw [if_pos q3]
                by_cases q4 : p1 = p2
                · rw [if_pos q4]
                  by_cases q5 : m1 = m2
                  · rw [if_pos q5]
                    by_cases q6 : r1 = r2
                    · rw [if_pos q6]
                      by_cases q7 : v1 = v2
                      · rw [if_pos q7]
                        by_cases q8 : x1 = x2
                        · exact absurd ⟨q1, q2, q3, q4, q5, q6, q7, q8⟩ he'
                        · rw [if_neg q8]
                          exact ⟨rfl, rfl⟩
                      · rw [if_neg q7]
                        exact ⟨rfl, rfl⟩
                    · rw [if_neg q6]
                      exact ⟨rfl, rfl⟩
                  · rw [if_neg q5]
                    exact ⟨rfl, rfl⟩
                · rw [if_neg q4]
                  exact ⟨rfl, rfl⟩
              · rw [if_neg q3]
                exact ⟨rfl, rfl⟩
            · rw [if_neg q2]
              exact ⟨rfl, rfl⟩
          · rw [if_neg q1]
            exact ⟨rfl, rfl⟩
        · refine hK _ ?_
          clear hK K
          refine wpQuiet_nil ?_
          intro _ hw'
          obtain ⟨nq, hw''⟩ := hw'
          subst hw''
          go_wp2_with fail
          go_ret
          exact ⟨by rw [HF.out]; rfl, md + nq, by first | rfl | exact World.drewN_drewN _ _ _⟩
    · have hje : j = n := by omega
      subst hje
      have hjn : ¬ ((j : Int) < (j : Int)) := by omega
      have hf : R = true := by
        rw [HR.out]
        exact decide_eq_true (listT_eq_of (by rw [HN.out, HM.out]) (by rw [HN.out]; exact HALL.out))
      have HF := Lib.hid hf
      clear hf
      go_wp2_with fail
      go_ret
      exact ⟨by rw [HF.out]; rfl, md, rfl⟩
end Go.Proofs.Yticgdfbknaholaa

namespace Go.Proofs.Yticgdfbknaholaa
open Go.RowKit

/-- Two scenes are equal. -/
def sameS (s s' : Sc) : Bool := decide (s.n = s'.n) && (decide (s.ts = s'.ts) && decide (s.cur = s'.cur))
theorem sameS_self (s : Sc) : sameS s s = true := by simp [sameS]
set_option maxRecDepth 100000 in
set_option maxHeartbeats 1000000 in
theorem sameSc_any (W : World) {A B A' B' : Option Addr} {la ca lb cb la' ca' lb' cb' : Nat} {s s' : Sc} (h : ScAt W A la B lb s) (h' : ScAt W A' la' B' lb' s') (h1 : la ≤ 3000000000000000000) (h2 : la' ≤ 3000000000000000000) (h3 : lb ≤ 3000000000000000000) (h4 : lb' ≤ 3000000000000000000) :
    Calls Try.prog 49 #[.agg #[.int .i64 s.n, .slice A la ca, .slice B lb cb], .agg #[.int .i64 s'.n, .slice A' la' ca', .slice B' lb' cb']] W fun e w' => e = .returned (.bool (sameS s s')) ∧ Kp W.heap.size W w' := by
  have HT := fun w (k : Kp W.heap.size W w) => Lib.hid (equalT_any (c := ca) (d := ca') w h.hla h'.hla h1 h2 (h.ts.kp k) (h'.ts.kp k))
  have HI := fun w (k : Kp W.heap.size W w) => Lib.hid (equalI_any (c := cb) (d := cb') w h.hlb h'.hlb h3 h4 (h.cur.below k) (h'.cur.below k))
  have k1 := (Kp.refl W.heap.size W).alloc (Nat.le_refl _) (.cells #[.int .i64 s.n, .slice A la ca, .slice B lb cb] 30)
  have k2 := k1.alloc (by simp) (.cells #[.int .i64 s'.n, .slice A' la' ca', .slice B' lb' cb'] 83)
  have hx := (C3.new W (.int .i64 s.n) (.slice A la ca) (.slice B lb cb) 30).alloc (.cells #[.int .i64 s'.n, .slice A' la' ca', .slice B' lb' cb'] 83)
  have hy := C3.new (W.alloc (.cells #[.int .i64 s.n, .slice A la ca, .slice B lb cb] 30)) (.int .i64 s'.n) (.slice A' la' ca') (.slice B' lb' cb') 83
  simp only [World.size_alloc] at hy
  have HX := Lib.hid hx
  have HY := Lib.hid hy
  have HK := Lib.hid k2
  clear h h' k1 k2 hx hy h1 h2 h3 h4
  obtain ⟨n, ts, cur⟩ := s
  obtain ⟨n', ts', cur'⟩ := s'
  dsimp only [sameS] at *
  obtain ⟨b1, hb1⟩ : ∃ b, b = decide (ts = ts') := ⟨_, rfl⟩
  obtain ⟨b2, hb2⟩ : ∃ b, b = decide (cur = cur') := ⟨_, rfl⟩
  rw [← hb1, ← hb2]
  obtain ⟨R, hR⟩ : ∃ R, R = (decide (n = n') && (b1 && b2)) := ⟨_, rfl⟩
  rw [← hR]
  have HR := Lib.hid hR
  clear hR
  simp only [← hb1] at HT
  simp only [← hb2] at HI
  clear hb1 hb2
  go_enter Try.func49, Try.ntmps49
  go_upto_region 1 with fail
  generalize (W.alloc _).alloc _ = w1 at *
  obtain ⟨bS, hbS⟩ : ∃ b, b = W.heap.size := ⟨_, rfl⟩
  obtain ⟨bT, hbT⟩ : ∃ b, b = W.heap.size + 1 := ⟨_, rfl⟩
  rw [← hbS] at HX
  rw [← hbT] at HY
  rw [← hbT, ← hbS]
  clear hbS hbT
  obtain ⟨x0, x1, x2, xl⟩ := HX.out
  obtain ⟨y0, y1, y2, yl⟩ := HY.out
  by_cases hn : n = n'
  rotate_left
  · have hn1 : (n == n') = false := beq_eq_false_iff_ne.2 hn
    have hn2 : decide (n = n') = false := decide_eq_false hn
    have HF := Lib.hid (HR.out.trans (by rw [hn2, Bool.false_and]))
    clear HT HI hn hn2 HR
    go_wp2_with fail
    go_ret
    exact ⟨by rw [HF.out]; rfl, HK.out⟩
  subst hn
  have HF := Lib.hid (HR.out.trans (by rw [decide_eq_true rfl, Bool.true_and]))
  clear HR
  go_wp2_with fail
  (with_reducible refine (HT _ HK.out).out.mono ?_)
  clear x0 x1 x2 xl y0 y1 y2 yl HT
  rintro e w2 ⟨rfl, md, rfl⟩
  have kd : Kp w1.heap.size w1 (w1.drewN md) := (Kp.refl _ _).drewN md
  have HK2 := Lib.hid (HK.out.trans (kd.mono HK.out.size))
  have HX2 := Lib.hid (HX.out.kp kd)
  have HY2 := Lib.hid (HY.out.kp kd)
  clear kd HX HY HK
  generalize w1.drewN md = w2 at *
  obtain ⟨x0, x1, x2, xl⟩ := HX2.out
  obtain ⟨y0, y1, y2, yl⟩ := HY2.out
  cases b1
  · clear HI
    go_wp2_with fail
    go_ret
    exact ⟨by rw [HF.out]; rfl, HK2.out⟩
  go_wp2_with fail
  (with_reducible refine (HI _ HK2.out).out.mono ?_)
  clear x0 x1 x2 xl y0 y1 y2 yl HI
  rintro e w3 ⟨rfl, md, rfl⟩
  have HK3 := Lib.hid (HK2.out.drewN md)
  generalize w2.drewN md = w3 at *
  go_wp2_with fail
  go_ret
  exact ⟨by rw [HF.out]; rfl, HK3.out⟩
end Go.Proofs.Yticgdfbknaholaa

