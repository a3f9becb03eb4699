/-
  The contracts of Loads and of the iterator over the other CPUs.
-/
import Derived.Test.YticgdfbknaholaaLoads27
import Derived.Shelf.Abstract
import Derived.Shelf.RegionOpen
import Derived.OwnWalkIn
import Derived.TacticsInMore
import Derived.LoopNIn
import Derived.LoopIn
namespace Go.Proofs.Yticgdfbknaholaa
open Go.RowKit
attribute [local go_sem] Oper.semAt_some

theorem one_at (w : World) (v : Value) (t : TypeId) : (w.alloc (.cells #[v] t)).cell? ⟨w.heap.size, 0, none⟩ = some v := by simp
/-- The other CPUs, in their order. -/
def othersL (n : Nat) (cpu : Int) : List Nat := (List.range n).filter fun c => decide ((c : Int) ≠ cpu)
theorem others_snoc (j : Nat) (cpu : Int) : othersL (j + 1) cpu = if (j : Int) = cpu then othersL j cpu else othersL j cpu ++ [j] := by
  unfold othersL
  rw [List.range_succ, List.filter_append]
  by_cases h : (j : Int) = cpu <;> simp [h]
theorem others_pre {j n : Nat} {cpu : Int} (h : j < n) (hne : (j : Int) ≠ cpu) : ∃ rest, othersL n cpu = othersL j cpu ++ j :: rest := by
  refine ⟨((List.range n).drop (j + 1)).filter fun c => decide ((c : Int) ≠ cpu), ?_⟩
  unfold othersL
  have e : List.range n = List.range j ++ j :: (List.range n).drop (j + 1) := by
    conv => lhs; rw [← List.take_append_drop j (List.range n)]
    congr 1
    · rw [List.take_range]; congr 1; omega
    · rw [List.drop_eq_getElem_cons (by simpa using h)]
      simp
  rw [e, List.filter_append]
  congr 1
  simp [hne]
  rw [← e]
set_option maxRecDepth 100000 in
set_option maxHeartbeats 2000000 in
theorem others_iter {W0 : World} {bL bC lb : Nat} {A : Option Addr} {cpu : Int} (hlb : lb ≤ 64) (hL : W0.cell? ⟨bL, 0, none⟩ = some (.slice A lb lb)) (hC : W0.cell? ⟨bC, 0, none⟩ = some (.int .i64 cpu)) (h1 : bL < W0.heap.size) (h2 : bC < W0.heap.size) :
    Iter Try.prog 34 #[.pointer (some ⟨bL, 0, none⟩), .pointer (some ⟨bC, 0, none⟩)] (fun c : Nat => #[.int .i64 (c : Int)]) (othersL lb cpu) 0 0 W0 := by
  intro l J Jx W hk hJ hJx hY hj
  have hn := hk.size
  have hk0 : Kp W0.heap.size W0 W := hk.kp (Nat.le_refl _) (Or.inl (Nat.le_refl _)) (Or.inl (Nat.le_refl _))
  have hL2 := (hk0.cell (p := ⟨bL, 0, none⟩) h1).trans hL
  have hC2 := (hk0.cell (p := ⟨bC, 0, none⟩) h2).trans hC
  refine (callsIn_wide (n := 3)).1 ?_
  refine callsIn_of_wp Try.func34 rfl trivial ?_ rfl
  simp only [Try.ntmps34, List.size_toArray, List.length_cons, List.length_nil, Nat.reduceAdd, Nat.reduceSub, Array.replicate_succ, Array.replicate_zero, List.push_toArray, List.append_toArray, List.nil_append, List.cons_append]
  gi_wp2
  gi_loopw [7] (fun i wr => ∃ j : Nat, j ≤ lb ∧ i = .int .i64 (j : Int) ∧ J (othersL j cpu) wr ∧ Kx 0 0 W0.heap.size W.heap.size W wr) (fun i _ => lb - (intOf i).toNat)
  case atStart => exact ⟨0, Nat.zero_le _, rfl, hj, Kx.refl _ _ _ _ _⟩
  case round =>
    clear hL2 hC2
    obtain ⟨j, hjl, rfl, hjj, hkx⟩ := hrel
    have hC2 := ((hk0.trans (hkx.kp hn (Or.inl (Nat.le_refl _)) (Or.inr (Nat.le_refl _)))).cell (p := ⟨bC, 0, none⟩) h2).trans hC
    by_cases hlt : j < lb
    · have hji : (j : Int) < lb := by omega
      by_cases hne : (j : Int) = cpu
      · subst hne
        have e := others_snoc j (j : Int)
        rw [if_pos rfl] at e
        gi_wp2
        refine ⟨fun _ h => (by cases h), ?_⟩
        gi_wp2
        go_roundw
        case rel => exact ⟨j + 1, by omega, by go_num, by rw [e]; exact hjj, hkx⟩
        case measure => simp [intOf]; omega
      · have hn2 : ((j : Int) != cpu) = true := bne_iff_ne.2 hne
        have e := others_snoc j cpu
        rw [if_neg hne] at e
        obtain ⟨rest, hrest⟩ := others_pre hlt hne
        obtain ⟨fn, tmps, assign, body, hy, hR⟩ := hY _ _ _ hrest wr hkx.size hjj
        try dsimp only at hy
        gi_wp2
        refine (roundIn_any hR).mono ?_
        rintro e2 W2 ⟨⟨rfl, hj2⟩ | ⟨rfl, hj2⟩, hk2⟩
        · gi_wp2
          go_roundw
          case rel => exact ⟨j + 1, by omega, by go_num, by rw [e]; exact hj2, hkx.trans hk2⟩
          case measure => simp [intOf]; omega
        · gi_wp2
          refine bodyPost_ret (results_none rfl _ _ _) rfl ?_
          exact ⟨⟨_, rfl⟩, Or.inr ⟨_, _, _, hrest, hj2⟩⟩
    · have hje : j = lb := by omega
      subst hje
      have hjn : ¬ ((j : Int) < (j : Int)) := by omega
      gi_wp2
      go_end0
      exact ⟨⟨_, rfl⟩, Or.inl hjj⟩
end Go.Proofs.Yticgdfbknaholaa
