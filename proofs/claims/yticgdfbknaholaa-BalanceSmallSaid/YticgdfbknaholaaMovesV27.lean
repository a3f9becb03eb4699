/-
  A move, and the move back; no program is spoken of.
-/
import Derived.Test.YticgdfbknaholaaPlanV27
namespace Go.Proofs.Yticgdfbknaholaa
open Go.RowKit

theorem idx_at {s : Sc} (hf : s.fit) {i : Nat} (hi : i < s.ts.length) : idxT s.ts (s.ts.getD i t0).id = i := by
  obtain ⟨j, hj, h1, h2⟩ := fit_at hf (getD_mem' hi)
  rw [h2]
  exact rightsT_inj hf.ts j i hj hi (by rw [h1])
theorem do_bad {s : Sc} (hf : s.fit) {i : Nat} (hi : i < s.ts.length) {t : Tk} (ht : s.ts.getD i t0 = t) {y : Int}
    (h : t.rdy = false ∨ s.cur.getD t.cpu.toNat 0 = t.id ∨ y = t.cpu ∨ hasB t.mask y = false) : doV s t.id t.cpu y = (s0, 271) := by
  unfold doV
  rw [if_pos ((rightS_iff _).2 hf), if_neg]
  intro hd
  obtain ⟨_, _, _, _, hne, u, hu, hfr, hid⟩ := doOk_iff.1 hd
  obtain ⟨j, hj, rfl⟩ := mem_getD hu
  have hji : j = i := rightsT_inj hf.ts j i hj hi (by rw [hid, ht])
  subst hji
  rw [ht] at hfr
  obtain ⟨f1, f2, f3, f4⟩ := freeB_iff.1 hfr
  rcases h with h | h | h | h
  · rw [h] at f1; cases f1
  · exact f3 h
  · exact hne h.symm
  · rw [h] at f4; cases f4
theorem do_good {s : Sc} (hf : s.fit) {i : Nat} (hi : i < s.ts.length) {t : Tk} (ht : s.ts.getD i t0 = t) {y : Int} (y0 : 0 ≤ y) (y1 : y < s.n)
    (h1 : t.rdy = true) (h2 : s.cur.getD t.cpu.toNat 0 ≠ t.id) (h3 : y ≠ t.cpu) (h4 : hasB t.mask y = true) :
    doV s t.id t.cpu y = (⟨s.n, s.ts.set i (t.to y), s.cur⟩, 0) ∧ Sc.fit ⟨s.n, s.ts.set i (t.to y), s.cur⟩ ∧ doV ⟨s.n, s.ts.set i (t.to y), s.cur⟩ t.id y t.cpu = (s, 0) := by
  have hm : t ∈ s.ts := by rw [← ht]; exact getD_mem' hi
  have hft := hf.each t hm
  have hix := idx_at hf hi
  rw [ht] at hix
  have hmv : moveT s.ts t.id y = s.ts.set i (t.to y) := by
    unfold moveT
    rw [hix, ht]
  have hok : doOk s t.id t.cpu y = true := doOk_iff.2 ⟨hft.cpu0, hft.cpu1, y0, y1, fun e => h3 e.symm, t, hm, freeB_iff.2 ⟨h1, rfl, h2, h4⟩, rfl⟩
  have hfit := fit_move hf hok
  rw [hmv] at hfit
  refine ⟨?_, hfit, ?_⟩
  · unfold doV
    rw [if_pos ((rightS_iff _).2 hf), if_pos hok, hmv]
  · have hl : i < (s.ts.set i (t.to y)).length := by rw [List.length_set]; exact hi
    have hg : (s.ts.set i (t.to y)).getD i t0 = t.to y := by
      rw [List.getD_eq_getElem?_getD, List.getElem?_set_self hi]
      rfl
    have hix2 : idxT (s.ts.set i (t.to y)) t.id = i := by
      have := idx_at hfit (i := i) hl
      dsimp only at this
      rw [hg] at this
      exact this
    have hcur : s.cur.getD y.toNat 0 ≠ t.id := by
      intro e
      have hlen := hf.cur
      rcases hf.run y.toNat (by omega) with h6 | h6
      · have := hft.id0
        omega
      · obtain ⟨u, hu, h7⟩ := List.any_eq_true.1 h6
        simp only [Bool.and_eq_true, beq_iff_eq] at h7
        obtain ⟨⟨q1, q2⟩, q3⟩ := h7
        rw [q2, e] at q3
        obtain ⟨j, hj, hju⟩ := mem_getD hu
        have hji : j = i := rightsT_inj hf.ts j i hj hi (by rw [hju, ht, q3])
        subst hji
        have : u = t := by rw [← hju, ht]
        subst this
        have := (hf.each u hu).cpu0
        omega
    have hok2 : doOk ⟨s.n, s.ts.set i (t.to y), s.cur⟩ t.id y t.cpu = true :=
      doOk_iff.2 ⟨y0, y1, hft.cpu0, hft.cpu1, h3, t.to y, by have := getD_mem' hl; rw [hg] at this; exact this, freeB_iff.2 ⟨h1, rfl, hcur, hft.has⟩, rfl⟩
    unfold doV
    rw [if_pos ((rightS_iff _).2 hfit), if_pos hok2]
    have hmv2 : moveT (s.ts.set i (t.to y)) t.id t.cpu = s.ts := by
      unfold moveT
      rw [hix2, hg, List.set_set]
      have e1 : (t.to y).to t.cpu = t := rfl
      rw [e1]
      refine List.ext_getElem (by rw [List.length_set]) (fun k k1 k2 => ?_)
      by_cases hk : k = i
      · subst hk
        rw [List.getElem_set_self, ← ht, List.getD_eq_getElem?_getD, List.getElem?_eq_getElem hi]
        rfl
      · rw [List.getElem_set_ne (Ne.symm hk)]
    dsimp only
    rw [hmv2]
theorem own_nil {w : World} {base : Nat} {e : TypeId} {sz n c : Nat} {A : Option Addr} {xs : List Value} (h : w.ownsRow base e sz (.slice A n c) n xs) : A = none → c = 0 := by
  obtain ⟨A1, c1, q, _, _, hn, _⟩ := own_form h
  cases q
  exact hn
end Go.Proofs.Yticgdfbknaholaa
