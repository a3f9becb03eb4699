/-
  The loads behind a pull; of tasks of one weight alone plans come to an end, where the loads differ by at most that weight; no program is spoken of.
-/
import Derived.Test.YticgdfbknaholaaPlanT27
import Derived.Test.YticgdfbknaholaaMovesV27
namespace Go.Proofs.Yticgdfbknaholaa
open Go.RowKit

/-- What a pull does. -/
structure Pulled (s : Sc) (c : Int) (j p q : Nat) (t : Tk) : Prop where
  hc : c = (q : Int)
  fit : s.fit
  hj : j < s.ts.length
  ht : s.ts.getD j t0 = t
  rdy : t.rdy = true
  cpu : t.cpu = (p : Int)
  ne : p ≠ q
  pn : (p : Int) < s.n
  qn : (q : Int) < s.n
  has : hasB t.mask (q : Int) = true
  cur : s.cur.getD p 0 ≠ t.id
  lt : 2 * t.wt ≤ loadV s.ts p - loadV s.ts q
  mv : (pullV s c).1 = (t.id, (p : Int), (q : Int))
  next : nextS s c = ⟨s.n, s.ts.set j (t.to (q : Int)), s.cur⟩
  nfit : (nextS s c).fit
theorem pulled {s : Sc} {c : Int} (h : (pullV s c).2 = 0) : ∃ j p q t, Pulled s c j p q t := by
  obtain ⟨hr, hd, p, q, t, hc, hm, hl, hp, hq, hpq⟩ := pull_ok h
  have hf := (rightS_iff s).1 hr
  have hn := hf.cur
  obtain ⟨hm2, hlt⟩ := List.mem_filter.1 hl
  obtain ⟨hmem, hfr⟩ := freeL_mem hm2
  obtain ⟨f1, f2, f3, f4⟩ := freeB_iff.1 hfr
  obtain ⟨j, hj, hj2, hix⟩ := fit_at hf hmem
  have hmv : moveT s.ts t.id (q : Int) = s.ts.set j (t.to (q : Int)) := by
    unfold moveT
    rw [hix, hj2]
  have hnx : nextS s c = ⟨s.n, s.ts.set j (t.to (q : Int)), s.cur⟩ := by
    unfold nextS doV
    rw [if_pos hr, if_pos hd, hm, hmv]
  have hnf : (nextS s c).fit := by
    have := fit_move hf hd
    rw [hm] at this
    dsimp only at this
    rw [hmv] at this
    rw [hnx]
    exact this
  unfold lightB at hlt
  rw [decide_eq_true_eq] at hlt
  rw [Int.toNat_natCast] at f3
  exact ⟨j, p, q, t, hc, hf, hj, hj2, f1, f2, hpq, by omega, by omega, f4, f3, hlt, hm, hnx, hnf⟩
def ctr (t : Tk) (c : Nat) : Int := if t.rdy && t.cpu.toNat == c then t.wt else 0
theorem loadV_set : ∀ (ts : List Tk) (j : Nat) (t' : Tk) (c : Nat), j < ts.length → loadV (ts.set j t') c = loadV ts c - ctr (ts.getD j t0) c + ctr t' c
  | [], _, _, _, h => absurd h (Nat.not_lt_zero _)
  | t :: ts, 0, t', c, _ => by
    simp only [List.set_cons_zero, List.getD_cons_zero, loadV, ctr]
    omega
  | t :: ts, j + 1, t', c, h => by
    have := loadV_set ts j t' c (by simpa using h)
    simp only [List.set_cons_succ, List.getD_cons_succ, loadV]
    omega
def upd (f : Nat → Int) (p : Nat) (x : Int) : Nat → Int := fun c => if c = p then x else f c
/-- The loads behind a pull. -/
theorem Pulled.load {s : Sc} {c : Int} {j p q : Nat} {t : Tk} (h : Pulled s c j p q t) (k : Nat) : loadV (nextS s c).ts k = upd (upd (loadV s.ts) p (loadV s.ts p - t.wt)) q (loadV s.ts q + t.wt) k := by
  rw [h.next]
  dsimp only
  rw [loadV_set _ _ _ _ h.hj, h.ht]
  unfold ctr upd Tk.to
  dsimp only
  rw [h.rdy, h.cpu, Int.toNat_natCast, Int.toNat_natCast]
  simp only [Bool.true_and, beq_iff_eq]
  have hne := h.ne
  by_cases h1 : k = q
  · subst h1
    simp [hne]
  · have h1' : ¬ q = k := fun e => h1 e.symm
    by_cases h2 : k = p
    · subst h2
      simp [h1, h1']
    · have h2' : ¬ p = k := fun e => h2 e.symm
      simp [h1, h1', h2, h2']
def sumQ : Nat → (Nat → Int) → Int
  | 0, _ => 0
  | n + 1, f => sumQ n f + f n * f n
def sumL : Nat → (Nat → Int) → Int
  | 0, _ => 0
  | n + 1, f => sumL n f + f n
theorem sumQ_congr {f g : Nat → Int} : ∀ {n : Nat}, (∀ c, c < n → f c = g c) → sumQ n f = sumQ n g
  | 0, _ => rfl
  | n + 1, h => by
    simp only [sumQ]
    rw [sumQ_congr (fun c hc => h c (by omega)), h n (by omega)]
theorem sumQ_upd {f : Nat → Int} {p : Nat} {x : Int} : ∀ {n : Nat}, p < n → sumQ n (upd f p x) = sumQ n f - f p * f p + x * x
  | 0, h => absurd h (Nat.not_lt_zero _)
  | n + 1, h => by
    simp only [sumQ]
    by_cases e : p = n
    · subst e
      rw [sumQ_congr (f := upd f p x) (g := f) (fun c hc => by unfold upd; rw [if_neg (by omega)])]
      unfold upd
      rw [if_pos rfl]
      omega
    · rw [sumQ_upd (by omega)]
      have : upd f p x n = f n := by unfold upd; rw [if_neg (fun q => e q.symm)]
      rw [this]
      omega
theorem sumQ_nn (f : Nat → Int) : ∀ n, 0 ≤ sumQ n f
  | 0 => Int.le_refl _
  | n + 1 => by
    have h1 := sumQ_nn f n
    have h2 : 0 ≤ f n * f n := by
      rcases Int.le_total 0 (f n) with h | h
      · exact Int.mul_nonneg h h
      · exact Int.mul_nonneg_of_nonpos_of_nonpos h h
    simp only [sumQ]
    omega
theorem sumQ_le {f : Nat → Int} (hf : ∀ c, 0 ≤ f c) : ∀ n, sumQ n f ≤ sumL n f * sumL n f ∧ 0 ≤ sumL n f
  | 0 => ⟨Int.le_refl _, Int.le_refl _⟩
  | n + 1 => by
    obtain ⟨h1, h2⟩ := sumQ_le hf n
    simp only [sumQ, sumL]
    have h3 := Int.mul_nonneg h2 (hf n)
    have h4 : (sumL n f + f n) * (sumL n f + f n) = sumL n f * sumL n f + 2 * (sumL n f * f n) + f n * f n := by
      rw [Int.add_mul, Int.mul_add, Int.mul_add, Int.mul_comm (f n) (sumL n f)]
      omega
    exact ⟨by rw [h4]; omega, by have := hf n; omega⟩
/-- A pull lessens the sum of the loads' squares by twice the square of the weight. -/
theorem Pulled.less {s : Sc} {c : Int} {j p q : Nat} {t : Tk} (h : Pulled s c j p q t) {n : Nat} (hn : s.n = (n : Int)) : sumQ n (loadV (nextS s c).ts) + 2 * (t.wt * t.wt) ≤ sumQ n (loadV s.ts) := by
  have hp := h.pn
  have hq := h.qn
  rw [sumQ_congr (fun k _ => h.load k), sumQ_upd (by omega), sumQ_upd (by omega)]
  have e : upd (loadV s.ts) p (loadV s.ts p - t.wt) q = loadV s.ts q := by
    unfold upd
    rw [if_neg (fun e => h.ne e.symm)]
  rw [e]
  have hlt := h.lt
  have hw := (h.fit.each t (by rw [← h.ht]; exact getD_mem' h.hj)).wt0
  generalize loadV s.ts p = x at *
  generalize loadV s.ts q = y at *
  generalize t.wt = w at *
  have h1 : (x - w) * (x - w) = x * x - 2 * (w * x) + w * w := by
    rw [Int.sub_mul, Int.mul_sub, Int.mul_sub, Int.mul_comm x w]
    omega
  have h2 : (y + w) * (y + w) = y * y + 2 * (w * y) + w * w := by
    rw [Int.add_mul, Int.mul_add, Int.mul_add, Int.mul_comm y w]
    omega
  have h3 : w * (2 * w) ≤ w * (x - y) := Int.mul_le_mul_of_nonneg_left hlt (by omega)
  rw [Int.mul_sub] at h3
  have h4 : w * (2 * w) = 2 * (w * w) := by
    rw [Int.mul_left_comm]
  rw [h1, h2]
  omega
/-- A scene of tasks of one weight, all of them free, that may run everywhere. -/
structure Even (s : Sc) (n : Nat) (w : Int) : Prop where
  fit : s.fit
  hn : s.n = (n : Int)
  hw : 1 ≤ w
  cur : ∀ c, s.cur.getD c 0 = 0
  each : ∀ t ∈ s.ts, t.rdy = true ∧ t.wt = w ∧ ∀ c : Nat, c < n → hasB t.mask (c : Int) = true
theorem Even.next {s : Sc} {n : Nat} {w : Int} (h : Even s n w) {c : Int} (hp : (pullV s c).2 = 0) : Even (nextS s c) n w ∧ sumQ n (loadV (nextS s c).ts) + 2 * (w * w) ≤ sumQ n (loadV s.ts) := by
  obtain ⟨j, p, q, t, P⟩ := pulled hp
  have ht : t ∈ s.ts := by rw [← P.ht]; exact getD_mem' P.hj
  have hl := P.less h.hn
  rw [(h.each t ht).2.1] at hl
  refine ⟨⟨P.nfit, by rw [P.next]; exact h.hn, h.hw, by rw [P.next]; exact h.cur, fun u hu => ?_⟩, hl⟩
  rw [P.next] at hu
  rcases List.mem_or_eq_of_mem_set hu with h1 | h1
  · exact h.each u h1
  · subst h1
    exact h.each t ht
theorem Even.run {s s' : Sc} {ms : List Mv} (h : Steps s ms s') : ∀ {n : Nat} {w : Int}, Even s n w → Even s' n w ∧ sumQ n (loadV s'.ts) + ms.length * (2 * (w * w)) ≤ sumQ n (loadV s.ts) := by
  induction h with
  | nil s => exact fun he => ⟨he, by simp⟩
  | cons hp t ih =>
    intro n w he
    obtain ⟨h1, h2⟩ := he.next hp
    obtain ⟨h3, h4⟩ := ih h1
    refine ⟨h3, ?_⟩
    rw [List.length_cons]
    have e : ∀ k : Nat, ((k + 1 : Nat) : Int) * (2 * (w * w)) = (k : Int) * (2 * (w * w)) + 2 * (w * w) := fun k => by
      rw [Int.natCast_add, Int.add_mul]
      simp
    rw [e]
    omega
theorem sumL_add {f g : Nat → Int} : ∀ n, sumL n (fun c => f c + g c) = sumL n f + sumL n g
  | 0 => rfl
  | n + 1 => by
    simp only [sumL]
    rw [sumL_add n]
    omega
theorem sumL_congr {f g : Nat → Int} : ∀ {n : Nat}, (∀ c, c < n → f c = g c) → sumL n f = sumL n g
  | 0, _ => rfl
  | n + 1, h => by
    simp only [sumL]
    rw [sumL_congr (fun c hc => h c (by omega)), h n (by omega)]
theorem sumL_one {p : Nat} {x : Int} : ∀ {n : Nat}, sumL n (fun c => if p = c then x else 0) = if p < n then x else 0
  | 0 => by simp [sumL]
  | n + 1 => by
    simp only [sumL]
    rw [sumL_one]
    by_cases h : p = n
    · subst h
      simp
    · rw [if_neg h]
      by_cases h2 : p < n
      · rw [if_pos h2, if_pos (by omega)]
        omega
      · rw [if_neg h2, if_neg (by omega)]
        omega
/-- All loads together are at most the weights of all tasks. -/
theorem sumL_loads {n : Nat} {w : Int} : ∀ {ts : List Tk}, (∀ t ∈ ts, t.wt = w) → 0 ≤ w → sumL n (loadV ts) ≤ ts.length * w
  | [], _, _ => by
    have : ∀ n, sumL n (loadV []) = 0 := fun n => by
      induction n with
      | zero => rfl
      | succ n ih => show sumL n (loadV []) + loadV [] n = 0; rw [ih]; rfl
    rw [this]
    simp
  | t :: ts, h, hw => by
    have ih := sumL_loads (n := n) (ts := ts) (fun u hu => h u (List.mem_cons_of_mem _ hu)) hw
    have e : sumL n (loadV (t :: ts)) = sumL n (fun c => (if t.rdy && t.cpu.toNat == c then t.wt else 0) + loadV ts c) := rfl
    rw [e, sumL_add]
    have h1 : sumL n (fun c => if t.rdy && t.cpu.toNat == c then t.wt else 0) ≤ w := by
      cases ht : t.rdy with
      | false =>
        have : sumL n (fun c => if false && t.cpu.toNat == c then t.wt else 0) = 0 := by
          rw [sumL_congr (g := fun c => if n = c then 0 else 0) (fun c _ => by simp), sumL_one]
          simp
        rw [this]
        exact hw
      | true =>
        rw [sumL_congr (g := fun c => if t.cpu.toNat = c then t.wt else 0) (fun c _ => by simp), sumL_one]
        split
        · rw [h t List.mem_cons_self]; omega
        · exact hw
    rw [List.length_cons]
    have e2 : ((ts.length + 1 : Nat) : Int) * w = ts.length * w + w := by
      rw [Int.natCast_add, Int.add_mul]
      simp
    rw [e2]
    omega
theorem loadV_nn {ts : List Tk} (h : ∀ t ∈ ts, 0 ≤ t.wt) (c : Nat) : 0 ≤ loadV ts c := by
  induction ts with
  | nil => exact Int.le_refl _
  | cons t ts ih =>
    have h1 := ih (fun u hu => h u (List.mem_cons_of_mem _ hu))
    have h2 := h t List.mem_cons_self
    simp only [loadV]
    split <;> omega
theorem loadV_mul {w : Int} {ts : List Tk} (h : ∀ t ∈ ts, t.wt = w) (c : Nat) : ∃ k : Int, loadV ts c = w * k := by
  induction ts with
  | nil => exact ⟨0, by simp [loadV]⟩
  | cons t ts ih =>
    obtain ⟨k, hk⟩ := ih (fun u hu => h u (List.mem_cons_of_mem _ hu))
    simp only [loadV]
    by_cases hc : (t.rdy && t.cpu.toNat == c) = true
    · rw [if_pos hc, h t List.mem_cons_self, hk]
      exact ⟨k + 1, by rw [Int.mul_add]; omega⟩
    · rw [if_neg hc, hk]
      exact ⟨k, by omega⟩
theorem loadV_pos {ts : List Tk} {c : Nat} (h : 0 < loadV ts c) : ∃ t ∈ ts, t.rdy = true ∧ t.cpu.toNat = c := by
  induction ts with
  | nil => simp [loadV] at h
  | cons t ts ih =>
    simp only [loadV] at h
    by_cases hc : (t.rdy && t.cpu.toNat == c) = true
    · simp only [Bool.and_eq_true, beq_iff_eq] at hc
      exact ⟨t, List.mem_cons_self, hc⟩
    · rw [if_neg hc] at h
      obtain ⟨u, hu, h2⟩ := ih (by omega)
      exact ⟨u, List.mem_cons_of_mem _ hu, h2⟩
theorem bestT_some : ∀ (xs : List Tk) (o : Option Tk), (o.isSome = true ∨ xs ≠ []) → (xs.foldl bestTStep o).isSome = true
  | [], o, h => by rcases h with h | h; exact h; exact absurd rfl h
  | y :: xs, o, _ => by
    rw [List.foldl_cons]
    refine bestT_some xs _ (Or.inl ?_)
    cases o with
    | none => rfl
    | some a => unfold bestTStep; dsimp only; split <;> rfl
/-- Where nothing is pulled the loads differ by at most the weight. -/
theorem Even.near {s : Sc} {N : Nat} {w : Int} (h : Even s N w) (hend : ∀ c : Nat, c < N → (pullV s (c : Int)).2 ≠ 0) {a b : Nat} (ha : a < N) (hb : b < N) : loadV s.ts a ≤ loadV s.ts b + w := by
  have hw := h.hw
  by_cases hab : a = b
  · subst hab; omega
  have hn2 : 2 ≤ N := by omega
  obtain ⟨n, ts, cur⟩ := s
  have hn := h.hn
  dsimp only at hn
  subst hn
  obtain ⟨p, hE, hP, hpN, hpb, hbest⟩ := busy_two h.fit hn2 hb
  have h1 := hbest a ha hab
  dsimp only at h1 ⊢
  have hle : loadV ts a ≤ loadV ts p := by omega
  rcases Int.lt_or_le (loadV ts p - loadV ts b) (2 * w) with hlt | hge
  · obtain ⟨k1, e1⟩ := loadV_mul (w := w) (fun t ht => (h.each t ht).2.1) p
    obtain ⟨k2, e2⟩ := loadV_mul (w := w) (fun t ht => (h.each t ht).2.1) b
    dsimp only at e1 e2
    rw [e1, e2] at hlt
    have h3 : w * (k1 - k2) < w * 2 := by rw [Int.mul_sub]; omega
    have h4 : k1 - k2 < 2 := Int.lt_of_mul_lt_mul_left h3 (by omega)
    have h5 : w * k1 ≤ w * (k2 + 1) := Int.mul_le_mul_of_nonneg_left (by omega) (by omega)
    rw [Int.mul_add, ← e1, ← e2] at h5
    omega
  · exfalso
    have hbn := loadV_nn (ts := ts) (fun t ht => by have := (h.each t ht).2.1; omega) b
    obtain ⟨t, ht, h2, h3⟩ := loadV_pos (ts := ts) (c := p) (by omega)
    obtain ⟨g1, g2, g3⟩ := h.each t ht
    have hft := h.fit.each t ht
    have hid := hft.id0
    have hc0 := hft.cpu0
    have hlit : litB ⟨(N : Int), ts, cur⟩ p b t = true := by
      unfold litB freeB lightB
      dsimp only
      rw [h2, g3 b hb, g2, Int.toNat_natCast]
      have hcz := h.cur p
      dsimp only at hcz
      rw [hcz]
      have e1 : (t.cpu == (p : Int)) = true := beq_iff_eq.2 (by omega)
      have e2 : ((0 : Int) != t.id) = true := bne_iff_ne.2 (by omega)
      rw [e1, e2, decide_eq_true hge]
      rfl
    have hne : ts.filter (litB ⟨(N : Int), ts, cur⟩ p b) ≠ [] := by
      intro e
      have := List.mem_filter.2 ⟨ht, hlit⟩
      rw [e] at this
      cases this
    have hs := bestT_some _ none (Or.inr hne)
    apply hend b hb
    unfold pullV pullT
    rw [if_pos hE, hP, Int.toNat_natCast, Int.toNat_natCast, light_filter]
    obtain ⟨u, hu⟩ := Option.isSome_iff_exists.1 hs
    show (match bestT (ts.filter (litB ⟨(N : Int), ts, cur⟩ p b)) with | none => _ | some t => _ : (Int × Int × Int) × Int).2 = 0
    rw [show bestT (ts.filter (litB ⟨(N : Int), ts, cur⟩ p b)) = some u from hu]
/-- A plan of few tasks of one weight ends, and evenly. -/
theorem even_plan {s : Sc} {N : Nat} {w : Int} (h : Even s N w) (hl : s.ts.length ≤ 40) : ∃ s' ms, planV s 65536 = (s', ms, 0) ∧ ms.length ≤ 65536 ∧ s'.fit ∧ s'.n = (N : Int) ∧ ∀ a b : Nat, a < N → b < N → loadV s'.ts a ≤ loadV s'.ts b + w := by
  obtain ⟨s', ms, h1, h2, h3, h4⟩ := plan_steps (M := 65536) h.fit
  obtain ⟨h5, h6⟩ := Even.run h2 h
  have hw := h.hw
  have hq := (sumQ_le (f := loadV s.ts) (fun c => loadV_nn (fun t ht => by have := (h.each t ht).2.1; omega) c) N)
  have hL := sumL_loads (n := N) (w := w) (ts := s.ts) (fun t ht => (h.each t ht).2.1) (by omega)
  have h0 := sumQ_nn (loadV s'.ts) N
  have hL2 : sumL N (loadV s.ts) ≤ 40 * w := by
    have : (s.ts.length : Int) * w ≤ 40 * w := Int.mul_le_mul_of_nonneg_right (by omega) (by omega)
    omega
  have hQ : sumL N (loadV s.ts) * sumL N (loadV s.ts) ≤ (40 * w) * (40 * w) := Int.mul_le_mul hL2 hL2 hq.2 (by omega)
  have hQ2 : (40 * w) * (40 * w) = 800 * (2 * (w * w)) := by
    rw [Int.mul_assoc, Int.mul_left_comm w 40 w]
    omega
  have hww : 0 < 2 * (w * w) := by
    have := Int.mul_pos (a := w) (b := w) (by omega) (by omega)
    omega
  have hm : (ms.length : Int) * (2 * (w * w)) ≤ 800 * (2 * (w * w)) := by omega
  have hm2 : (ms.length : Int) ≤ 800 := Int.le_of_mul_le_mul_right hm hww
  refine ⟨s', ms, h1, by omega, h5.fit, h5.hn, fun a b ha hb => h5.near (fun c hc => h4 (by omega) c (by rw [h.hn]; omega)) ha hb⟩
end Go.Proofs.Yticgdfbknaholaa
