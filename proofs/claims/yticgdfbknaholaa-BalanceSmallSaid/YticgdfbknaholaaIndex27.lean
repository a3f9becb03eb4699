/-
  The contract of IndexFunc, over tasks with an ID.
-/
import Derived.Test.YticgdfbknaholaaCloneS27
namespace Go.Proofs.Yticgdfbknaholaa
open Go.RowKit

theorem sameId_any (W : World) {bT : Nat} {u t : Tk} (hT : TkAt W bT 0 u) :
    Calls Try.prog 32 #[tkv t, .pointer (some ⟨bT, 0, none⟩)] W fun e w' => e = .returned (.bool (t.id == u.id)) ∧ GrewS W w' := by
  have hg := (GrewS.refl W).alloc (.cells (tkc t) 43)
  obtain ⟨c0, _, _, _, _, _, _, _, hl⟩ := hT
  obtain ⟨i1, g1, w1, p1, m1, r1, v1, x1⟩ := t
  dsimp only [tkc] at hg
  dsimp only at *
  generalize u.id = z at *
  go_enter Try.func32, Try.ntmps32
  go_wp2_with fail
  go_ret
  exact ⟨rfl, hg⟩
/-- The index of the first task with an ID. -/
def idxT (ts : List Tk) (id : Int) : Nat := ts.findIdx fun t => t.id == id
theorem idxT_at {ts : List Tk} {id : Int} {j : Nat} (hj : j < ts.length) (h : (ts.getD j t0).id = id) (hb : ∀ k, k < j → (ts.getD k t0).id ≠ id) : idxT ts id = j := by
  unfold idxT
  rw [List.findIdx_eq hj]
  have e : ∀ k (hk : k < ts.length), ts[k] = ts.getD k t0 := fun k hk => by rw [List.getD_eq_getElem?_getD, List.getElem?_eq_getElem hk]; rfl
  refine ⟨by rw [e]; exact beq_iff_eq.2 h, fun k hk => ?_⟩
  rw [e]
  simpa using hb k hk
theorem idxT_none {ts : List Tk} {id : Int} (hb : ∀ k, k < ts.length → (ts.getD k t0).id ≠ id) : idxT ts id = ts.length := by
  unfold idxT
  rw [List.findIdx_eq_length]
  intro t ht
  obtain ⟨k, hk, rfl⟩ := List.getElem_of_mem ht
  have := hb k hk
  rw [List.getD_eq_getElem?_getD, List.getElem?_eq_getElem hk] at this
  simpa using this
/-- The index, as IndexFunc tells it. -/
def idxV (ts : List Tk) (id : Int) : Int := if idxT ts id < ts.length then (idxT ts id : Int) else -1
set_option maxRecDepth 100000 in
set_option maxHeartbeats 1000000 in
theorem index_any (W : World) {A : Option Addr} {n c bT : Nat} {ts : List Tk} {u : Tk} (hn : ts.length = n) (hm : n ≤ 3000000000000000000) (ht : IsTks W A n ts) (hT : TkAt W bT 0 u) :
    Calls Try.prog 26 #[.slice A n c, .func (.func 32) #[] #[.pointer (some ⟨bT, 0, none⟩)]] W fun e w' => e = .returned (.int .i64 (idxV ts u.id)) ∧ Kp W.heap.size W w' := by
  have HT := Lib.hid ht
  have HU := Lib.hid hT
  have HN := Lib.hid hn
  obtain ⟨r, hr⟩ : ∃ r, r = idxV ts u.id := ⟨_, rfl⟩
  rw [← hr]
  have HR := Lib.hid hr
  clear ht hT hn hr
  go_enter Try.func26, Try.ntmps26
  go_wp2_with fail
  go_loopw [8] (fun i wr => ∃ j : Nat, j ≤ n ∧ i = .int .i64 (j : Int) ∧ (∀ k, k < j → (ts.getD k t0).id ≠ u.id) ∧ KpS W wr) (fun i _ => n - (intOf i).toNat)
  case atStart => exact ⟨0, Nat.zero_le _, rfl, fun k h => absurd h (Nat.not_lt_zero k), KpS.refl _⟩
  case round =>
    obtain ⟨j, hj, rfl, hall, hk⟩ := hrel
    have HA := Lib.hid hall
    have HK := Lib.hid hk
    clear hall hk
    by_cases hlt : j < n
    · have hji : (j : Int) < n := by omega
      obtain ⟨b, off, rfl, T⟩ := (HT.out.kp HK.out.kp) j hlt
      have HS := Lib.hid (sameId_any wr (t := ts.getD j t0) (HU.out.kp HK.out.kp))
      generalize hg : ts.getD j t0 = t at *
      have HG := Lib.hid hg
      clear hg
      obtain ⟨id, grp, wt, cpu, mask, rdy, v, r2⟩ := t
      obtain ⟨c0, c1, c2, c3, c4, c5, c6, c7, hbl⟩ := T
      dsimp only at *
      by_cases he : id = u.id
      · have he2 : (id == u.id) = true := beq_iff_eq.2 he
        rw [he2] at HS
        have hfin : r = (j : Int) := by
          have hjt : j < ts.length := by rw [HN.out]; exact hlt
          have := idxT_at hjt (by rw [HG.out]; exact he) HA.out
          rw [HR.out]
          unfold idxV
          rw [this, if_pos hjt]
        have HF := Lib.hid hfin
        clear he he2 hfin
        go_wp2_with fail
        (with_reducible refine HS.out.mono ?_)
        rintro e w2 ⟨rfl, hg⟩
        clear c0 c1 c2 c3 c4 c5 c6 c7 hbl
        have K := Lib.hid (HK.out.trans hg.kp)
        clear hg
        go_wp2_with fail
        go_ret
        exact ⟨by rw [HF.out]; rfl, K.out⟩
      · have he2 : (id == u.id) = false := beq_eq_false_iff_ne.2 he
        rw [he2] at HS
        have HE := Lib.hid he
        clear he he2
        go_wp2_with fail
        (with_reducible refine HS.out.mono ?_)
        rintro e w2 ⟨rfl, hg⟩
        clear c0 c1 c2 c3 c4 c5 c6 c7 hbl
        have K := Lib.hid (HK.out.trans hg.kp)
        clear hg
        go_wp2_with fail
        go_roundw
        case rel =>
          refine ⟨j + 1, by omega, by go_num, fun k hk => ?_, K.out⟩
          rcases Nat.lt_or_ge k j with h | h
          · exact HA.out k h
          · have : k = j := by omega
            subst this
            rw [HG.out]
            exact HE.out
        case measure => simp [intOf]; omega
    · have hje : j = n := by omega
      subst hje
      have hjn : ¬ ((j : Int) < (j : Int)) := by omega
      have hfin : r = -1 := by
        rw [HR.out]
        unfold idxV
        rw [idxT_none (by rw [HN.out]; exact HA.out), if_neg (by omega)]
      have HF := Lib.hid hfin
      clear hfin
      go_wp2_with fail
      go_ret
      exact ⟨by rw [HF.out]; rfl, HK.out⟩
end Go.Proofs.Yticgdfbknaholaa
