/-
  What Plan makes, in values; a right scene stays right when what is pulled is moved.
-/
import Derived.Test.YticgdfbknaholaaDoV27
namespace Go.Proofs.Yticgdfbknaholaa
open Go.RowKit

theorem rightT_to {n last y : Int} {t : Tk} (h : rightT n last t = true) (hm : hasB t.mask y = true) (y0 : 0 ≤ y) (y1 : y < n) : rightT n last (t.to y) = true := by
  unfold rightT at *
  simp only [Bool.and_eq_true, decide_eq_true_eq] at h ⊢
  obtain ⟨⟨⟨⟨⟨⟨⟨h1, h2⟩, h3⟩, h4⟩, h5⟩, h6⟩, h7⟩, h8⟩ := h
  exact ⟨⟨⟨⟨⟨⟨⟨h1, h2⟩, h3⟩, h4⟩, y0⟩, y1⟩, hm⟩, h8⟩
theorem rightsT_set {n y : Int} (y0 : 0 ≤ y) (y1 : y < n) : ∀ {ts : List Tk} {last : Int} {i : Nat}, rightsT n last ts = true → i < ts.length → hasB (ts.getD i t0).mask y = true → rightsT n last (ts.set i ((ts.getD i t0).to y)) = true
  | [], _, _, _, h, _ => absurd h (Nat.not_lt_zero _)
  | t :: ts, last, 0, h, _, hm => by
    simp only [rightsT, Bool.and_eq_true] at h
    simp only [List.set_cons_zero, List.getD_cons_zero, rightsT, Bool.and_eq_true]
    exact ⟨rightT_to h.1 hm y0 y1, h.2⟩
  | t :: ts, last, i + 1, h, hi, hm => by
    simp only [rightsT, Bool.and_eq_true] at h
    simp only [List.set_cons_succ, List.getD_cons_succ, rightsT, Bool.and_eq_true]
    exact ⟨h.1, rightsT_set y0 y1 h.2 (by simpa using hi) (by simpa using hm)⟩
/-- The IDs of a right scene are all different. -/
theorem rightsT_gt {n : Int} : ∀ {ts : List Tk} {last : Int}, rightsT n last ts = true → ∀ t ∈ ts, last < t.id
  | [], _, _ => fun t h => by cases h
  | a :: ts, last, h => fun t ht => by
    simp only [rightsT, Bool.and_eq_true] at h
    have h1 := (rightT_cpu h.1).2.2.1
    rcases List.mem_cons.1 ht with rfl | h2
    · exact h1
    · have := rightsT_gt h.2 t h2
      omega
theorem rightsT_inj {n : Int} : ∀ {ts : List Tk} {last : Int}, rightsT n last ts = true → ∀ i j, i < ts.length → j < ts.length → (ts.getD i t0).id = (ts.getD j t0).id → i = j
  | [], _, _ => fun i _ h => absurd h (Nat.not_lt_zero _)
  | a :: ts, last, h => fun i j hi hj e => by
    simp only [rightsT, Bool.and_eq_true] at h
    have gt : ∀ k, k < ts.length → a.id < (ts.getD k t0).id := fun k hk => rightsT_gt h.2 _ (by rw [List.getD_eq_getElem?_getD, List.getElem?_eq_getElem hk]; exact List.getElem_mem _)
    cases i with
    | zero =>
      cases j with
      | zero => rfl
      | succ j =>
        simp only [List.getD_cons_zero, List.getD_cons_succ] at e
        have := gt j (by simpa using hj)
        omega
    | succ i =>
      cases j with
      | zero =>
        simp only [List.getD_cons_zero, List.getD_cons_succ] at e
        have := gt i (by simpa using hi)
        omega
      | succ j =>
        simp only [List.getD_cons_succ] at e
        rw [rightsT_inj h.2 i j (by simpa using hi) (by simpa using hj) e]
theorem getD_mem' {ts : List Tk} {j : Nat} (h : j < ts.length) : ts.getD j t0 ∈ ts := by
  rw [List.getD_eq_getElem?_getD, List.getElem?_eq_getElem h]
  exact List.getElem_mem _
theorem mem_getD {ts : List Tk} {t : Tk} (h : t ∈ ts) : ∃ j, j < ts.length ∧ ts.getD j t0 = t := by
  obtain ⟨j, hj, rfl⟩ := List.getElem_of_mem h
  exact ⟨j, hj, by rw [List.getD_eq_getElem?_getD, List.getElem?_eq_getElem hj]; rfl⟩
theorem fit_at {s : Sc} (hf : s.fit) {t : Tk} (ht : t ∈ s.ts) : ∃ j, j < s.ts.length ∧ s.ts.getD j t0 = t ∧ idxT s.ts t.id = j := by
  obtain ⟨j, hj, e⟩ := mem_getD ht
  refine ⟨j, hj, e, idxT_at hj (by rw [e]) (fun k hk h => ?_)⟩
  have := rightsT_inj hf.ts k j (by omega) hj (h.trans (by rw [e]))
  omega
theorem freeB_iff {s : Sc} {x y : Int} {t : Tk} : freeB s x y t = true ↔ t.rdy = true ∧ t.cpu = x ∧ s.cur.getD x.toNat 0 ≠ t.id ∧ hasB t.mask y = true := by
  unfold freeB
  simp only [Bool.and_eq_true, beq_iff_eq, bne_iff_ne]
  exact ⟨fun ⟨⟨⟨a, b⟩, c⟩, d⟩ => ⟨a, b, c, d⟩, fun ⟨a, b, c, d⟩ => ⟨⟨⟨a, b⟩, c⟩, d⟩⟩
theorem doOk_iff {s : Sc} {k x y : Int} : doOk s k x y = true ↔ 0 ≤ x ∧ x < s.n ∧ 0 ≤ y ∧ y < s.n ∧ x ≠ y ∧ ∃ t ∈ s.ts, freeB s x y t = true ∧ t.id = k := by
  unfold doOk freeL
  simp only [Bool.and_eq_true, decide_eq_true_eq, bne_iff_ne, List.any_eq_true, List.mem_filter, beq_iff_eq]
  exact ⟨fun ⟨⟨⟨⟨⟨a, b⟩, c⟩, d⟩, e⟩, t, ⟨f, g⟩, h⟩ => ⟨a, b, c, d, e, t, f, g, h⟩, fun ⟨a, b, c, d, e, t, f, g, h⟩ => ⟨⟨⟨⟨⟨a, b⟩, c⟩, d⟩, e⟩, t, ⟨f, g⟩, h⟩⟩
/-- A right scene stays right. -/
theorem fit_move {s : Sc} {k x y : Int} (hf : s.fit) (h : doOk s k x y = true) : (⟨s.n, moveT s.ts k y, s.cur⟩ : Sc).fit := by
  obtain ⟨h1, h2, h3, h4, h5, t, ht, hfr, rfl⟩ := doOk_iff.1 h
  obtain ⟨hr, hc, hcur, hm⟩ := freeB_iff.1 hfr
  obtain ⟨j, hj, e, hi⟩ := fit_at hf ht
  have hmv : moveT s.ts t.id y = s.ts.set j (t.to y) := by
    unfold moveT
    rw [hi, e]
  refine ⟨hf.n1, hf.n64, hf.cur, ?_, fun c hc2 => ?_⟩
  · show rightsT s.n 0 (moveT s.ts t.id y) = true
    rw [hmv, ← e]
    exact rightsT_set h3 h4 hf.ts hj (by rw [e]; exact hm)
  · show s.cur.getD c 0 = 0 ∨ runsB s.cur (moveT s.ts t.id y) c = true
    rcases hf.run c hc2 with h6 | h6
    · exact Or.inl h6
    · right
      rw [hmv]
      unfold runsB at *
      obtain ⟨u, hu, hu2⟩ := List.any_eq_true.1 h6
      obtain ⟨i, hi2, e2⟩ := mem_getD hu
      simp only [Bool.and_eq_true, beq_iff_eq] at hu2
      have hij : i ≠ j := by
        intro q
        subst q
        have : u = t := e2.symm.trans e
        subst this
        rw [hc] at hu2
        exact hcur hu2.2
      refine List.any_eq_true.2 ⟨u, ?_, by simp only [Bool.and_eq_true, beq_iff_eq]; exact hu2⟩
      rw [List.mem_iff_getElem?]
      refine ⟨i, ?_⟩
      rw [List.getElem?_set_ne (Ne.symm hij), ← e2, List.getElem?_eq_getElem hi2, List.getD_eq_getElem?_getD, List.getElem?_eq_getElem hi2]
      rfl
theorem bestT_mem : ∀ (xs : List Tk) (P : Tk → Prop), (∀ x ∈ xs, P x) → ∀ b, bestT xs = some b → P b := by
  intro xs P h
  have go : ∀ (xs : List Tk) (o : Option Tk), (∀ x ∈ xs, P x) → (∀ b, o = some b → P b) → ∀ b, xs.foldl bestTStep o = some b → P b := by
    intro xs
    induction xs with
    | nil => intro o _ h b e; exact h b e
    | cons x xs ih =>
      intro o hx ho b e
      refine ih (bestTStep o x) (fun y hy => hx y (List.mem_cons_of_mem _ hy)) (fun c hc => ?_) b e
      unfold bestTStep at hc
      split at hc
      · cases hc; exact hx _ List.mem_cons_self
      · split at hc <;> cases hc
        · exact hx _ List.mem_cons_self
        · exact ho _ rfl
  exact go xs none h (fun b e => by cases e)
/-- What is pulled may be moved. -/
theorem pull_ok {s : Sc} {cpu : Int} (h : (pullV s cpu).2 = 0) : rightS s = true ∧ doOk s (pullV s cpu).1.1 (pullV s cpu).1.2.1 (pullV s cpu).1.2.2 = true ∧ ∃ (p q : Nat) (t : Tk), cpu = (q : Int) ∧ (pullV s cpu).1 = (t.id, (p : Int), (q : Int)) ∧ t ∈ lightL s (loadV s.ts) p q ∧ p < s.cur.length ∧ q < s.cur.length ∧ p ≠ q := by
  unfold pullV at h ⊢
  split at h
  · rename_i he
    obtain ⟨hr, hc0, hc1, p, hp, hpl, hpc⟩ := busy_ok he
    rw [if_pos he]
    rw [hp] at h ⊢
    rw [Int.toNat_natCast] at h ⊢
    split at h
    · cases h
    · rename_i t ht
      have hf := (rightS_iff s).1 hr
      have hn := hf.cur
      obtain ⟨q, rfl⟩ : ∃ q : Nat, cpu = (q : Int) := ⟨cpu.toNat, by omega⟩
      rw [Int.toNat_natCast] at ht
      have hm := bestT_mem _ (fun t => t ∈ lightL s (loadV s.ts) p q) (fun x hx => hx) t ht
      have hm2 := (List.mem_filter.1 hm).1
      obtain ⟨hm3, hm4⟩ := freeL_mem hm2
      have hp0 : (0 : Int) ≤ (p : Int) := by omega
      have hp1 : (p : Int) < s.n := by omega
      refine ⟨hr, doOk_iff.2 ⟨hp0, hp1, hc0, hc1, fun e => hpc e, t, hm3, hm4, rfl⟩, p, q, t, rfl, rfl, hm, hpl, by omega, fun e => hpc (by rw [e])⟩
  · rename_i he
    exact absurd h he
abbrev Mv := Int × Int × Int
/-- One CPU pulls till nothing is pulled, or no move is left. -/
def turnV : Nat → Sc → Int → List Mv → Sc × List Mv
  | 0, s, _, out => (s, out)
  | k + 1, s, cpu, out => if (pullV s cpu).2 = 0 then turnV k (doV s (pullV s cpu).1.1 (pullV s cpu).1.2.1 (pullV s cpu).1.2.2).1 cpu (out ++ [(pullV s cpu).1]) else (s, out)
/-- The CPUs from one on, one after the other. -/
def roundV (most : Nat) : Nat → Nat → Sc → List Mv → Sc × List Mv
  | 0, _, s, out => (s, out)
  | c + 1, cpu, s, out => roundV most c (cpu + 1) (turnV (most - out.length) s (cpu : Int) out).1 (turnV (most - out.length) s (cpu : Int) out).2
/-- Rounds till one has no move. -/
def roundsV (most : Nat) : Nat → Sc → List Mv → Sc × List Mv
  | 0, s, out => (s, out)
  | f + 1, s, out => if out.length < (roundV most s.n.toNat 0 s out).2.length then roundsV most f (roundV most s.n.toNat 0 s out).1 (roundV most s.n.toNat 0 s out).2 else roundV most s.n.toNat 0 s out
end Go.Proofs.Yticgdfbknaholaa
